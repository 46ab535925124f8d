/- A drawn path, right or not (spec.l06Text, l06Any). No condition but the reading of the cursor. -/
import Derived.Test.YtjgghiniajmfjaaTpa
import Derived.Test.YtjgghiniajmfjaaSrr
import Derived.Test.YtjgghiniajmfjaaDraw10
namespace Go.Proofs.Ytjgghiniajmfjaa
open Go.RowKit
set_option linter.unusedVariables false
set_option linter.unusedSimpArgs false
def paTexts : List ByteArray := [⟨#[97]⟩, ⟨#[98]⟩, ⟨#[97]⟩, ⟨#[99]⟩, ⟨#[97, 98]⟩, ⟨#[97, 124, 98]⟩, ⟨#[97, 42]⟩, ⟨#[40, 97, 124, 98, 41, 42]⟩, ⟨#[97, 98, 63]⟩, ⟨#[97, 43, 98]⟩, ⟨#[40, 97, 98, 41, 43]⟩, ⟨#[40, 97, 124, 98, 99, 41, 63]⟩, ⟨#[97, 42, 98, 42]⟩, ⟨#[40, 40, 97, 124, 98, 41, 99, 41, 42]⟩]
def paC (t : ByteArray) : Bool := (rpM t).2 && (decide (1 ≤ (rpM t).1.length ∧ (rpM t).1.length ≤ 60) && ((rpM t).1.all (fun x => decide (x.f2.length ≤ 60)) && decide (t.size ≤ 20)))
theorem pa_all : ∀ k, k < 14 → paC (sAt paTexts k) = true := by decide
theorem pa_ok {k : Nat} (h : k < 14) : (rpM (sAt paTexts k)).2 = true ∧ 1 ≤ (rpM (sAt paTexts k)).1.length ∧ (rpM (sAt paTexts k)).1.length ≤ 60 ∧ (∀ j, j < (rpM (sAt paTexts k)).1.length → (nAt (rpM (sAt paTexts k)).1 j).f2.length ≤ 60) ∧ (sAt paTexts k).size ≤ 20 := by
  have := pa_all k h
  unfold paC at this
  simp only [Bool.and_eq_true, decide_eq_true_eq, List.all_eq_true] at this
  obtain ⟨h1, ⟨h2, h3⟩, h4, h5⟩ := this
  exact ⟨h1, h2, h3, fun j hj => nAt_mem (p := fun x : PieceD => x.f2.length ≤ 60) h4 j hj, h5⟩
set_option maxHeartbeats 1000000 in
theorem l06Text_any (b : Nat) (w : World) (hc : Cu w b) :
    Calls Try.prog 83 #[.pointer (some ⟨b, 0, none⟩)] w fun e w' => ∃ k, k < 14 ∧ e = .returned (.string (sAt paTexts k)) ∧ Cu w' b ∧ Span b (b + 1) w w' := by
  have hbl := hc.lt
  go_enter Try.func83, Try.ntmps83
  go_wp2_with fail
  refine (l01Pick_any b w.heap.size paTexts 9 _ (hc.fr (by repeat (first | (with_reducible exact Fr.refl _) | (with_reducible assumption) | (with_reducible refine Fr.drewN ?_ _) | (with_reducible refine Fr.drew ?_) | (with_reducible refine Fr.alloc ?_ _) | (with_reducible refine Fr.setCell ?_ (by (first | (with_reducible assumption) | omega | (simp only [World.size_alloc, World.size_setCell, World.size_drew, World.heap_drewN]; omega) | (simp; done) | (simp; omega))) _) | (with_reducible refine Fr.trans ?_ (by with_reducible assumption))))) (Box.new _ _ _) hbl (by decide) (by decide)).mono ?_
  rintro e w1 ⟨k, hk, rfl, hc1, sp1⟩
  obtain ⟨nm, hnm⟩ : ∃ nm, sAt paTexts k = nm := ⟨_, rfl⟩
  have HN := Lib.hid hnm
  rw [hnm]
  clear hnm
  go_wp2_with fail
  go_ret
  exact ⟨k, hk, by rw [HN.out]; try rfl, hc1, ((Span.refl b (b + 1) w).alloc' _).trans sp1⟩
/-! ### a path of the call's own, turned at one place -/
theorem pcells_set0 : ∀ (ps : List PieceD) (us : List Value) (i : Nat) (y : Int), us.length = ps.length → i < ps.length → (pcells ps us).set (i * 3) (.int .i64 y) = pcells (ps.set i ⟨y, (nAt ps i).f1, (nAt ps i).f2⟩) us
  | [], _, i, y, _, h => absurd h (by simp)
  | d :: ps, [], i, y, h, _ => by simp at h
  | d :: ps, u :: us, 0, y, _, _ => rfl
  | d :: ps, u :: us, i + 1, y, h, hi => by
    have := pcells_set0 ps us i y (by simpa using h) (by simpa using hi)
    rw [show (i + 1) * 3 = i * 3 + 1 + 1 + 1 by omega]
    simp only [pcells, List.set_cons_succ]
    rw [this]
    rfl
theorem pcells_set1 : ∀ (ps : List PieceD) (us : List Value) (i : Nat) (c : UInt8), us.length = ps.length → i < ps.length → (pcells ps us).set (i * 3 + 1) (.int .u8 (c.toNat : Int)) = pcells (ps.set i ⟨(nAt ps i).f0, c, (nAt ps i).f2⟩) us
  | [], _, i, y, _, h => absurd h (by simp)
  | d :: ps, [], i, y, h, _ => by simp at h
  | d :: ps, u :: us, 0, y, _, _ => rfl
  | d :: ps, u :: us, i + 1, y, h, hi => by
    have := pcells_set1 ps us i y (by simpa using h) (by simpa using hi)
    rw [show (i + 1) * 3 + 1 = i * 3 + 1 + 1 + 1 + 1 by omega]
    simp only [pcells, List.set_cons_succ]
    rw [this]
    rfl
theorem pcells_set2 : ∀ (ps : List PieceD) (us : List Value) (i : Nat) (z : Value) (ks : List Int), us.length = ps.length → i < ps.length → (pcells ps us).set (i * 3 + 2) z = pcells (ps.set i ⟨(nAt ps i).f0, (nAt ps i).f1, ks⟩) (us.set i z)
  | [], _, i, y, _, _, h => absurd h (by simp)
  | d :: ps, [], i, y, _, h, _ => by simp at h
  | d :: ps, u :: us, 0, y, _, _, _ => rfl
  | d :: ps, u :: us, i + 1, y, ks, h, hi => by
    have := pcells_set2 ps us i y ks (by simpa using h) (by simpa using hi)
    rw [show (i + 1) * 3 + 2 = i * 3 + 2 + 1 + 1 + 1 by omega]
    simp only [pcells, List.set_cons_succ]
    rw [this]
    rfl
theorem pcells_at2 : ∀ (ps : List PieceD) (us : List Value) (i : Nat), us.length = ps.length → i < ps.length → (pcells ps us)[i * 3 + 2]? = some (nAt us i)
  | [], _, i, _, h => absurd h (by simp)
  | d :: ps, [], i, h, _ => by simp at h
  | d :: ps, u :: us, 0, _, _ => rfl
  | d :: ps, u :: us, i + 1, h, hi => by
    have := pcells_at2 ps us i (by simpa using h) (by simpa using hi)
    rw [show (i + 1) * 3 + 2 = i * 3 + 2 + 1 + 1 + 1 by omega]
    simp only [pcells, List.getElem?_cons_succ]
    rw [this]
    rfl
theorem nAt_set_self {α : Type} [Inhabited α] (l : List α) (i : Nat) (x : α) (h : i < l.length) : nAt (l.set i x) i = x := by simp [nAt, List.getD, h]
theorem nAt_set_ne {α : Type} [Inhabited α] (l : List α) {i j : Nat} (x : α) (h : i ≠ j) : nAt (l.set i x) j = nAt l j := by simp [nAt, List.getD, List.getElem?_set_ne h]
theorem prd_put0 {w : World} {lo g cap : Nat} {ps : List PieceD} {us : List Value} (h : Prd w lo (.slice (some ⟨g, 0, none⟩) ps.length cap) ps us) {i : Nat} (hi : i < ps.length) (y : Int) : Prd (w.setCell ⟨g, i * 3, none⟩ (.int .i64 y)) lo (.slice (some ⟨g, 0, none⟩) ps.length cap) (ps.set i ⟨y, (nAt ps i).f1, (nAt ps i).f2⟩) us := by
  have hs := World.ownsRow.stored h.own (i * 3) (.int .i64 y)
  refine ⟨by simpa using h.len, ?_, fun k hk => ?_⟩
  · rw [← pcells_set0 ps us i y h.len hi, List.length_set]
    exact hs.1
  · simp only [List.length_set] at hk
    obtain ⟨h1, h2⟩ := h.kid k hk
    refine ⟨?_, h2⟩
    have h3 := World.ownsRow.kept h1 hs.2 (Apart.ne h2)
    by_cases e : i = k
    · subst e
      rw [nAt_set_self _ _ _ hi]
      exact h3
    · rw [nAt_set_ne _ _ e]
      exact h3
theorem prd_put1 {w : World} {lo g cap : Nat} {ps : List PieceD} {us : List Value} (h : Prd w lo (.slice (some ⟨g, 0, none⟩) ps.length cap) ps us) {i : Nat} (hi : i < ps.length) (c : UInt8) : Prd (w.setCell ⟨g, i * 3 + 1, none⟩ (.int .u8 (c.toNat : Int))) lo (.slice (some ⟨g, 0, none⟩) ps.length cap) (ps.set i ⟨(nAt ps i).f0, c, (nAt ps i).f2⟩) us := by
  have hs := World.ownsRow.stored h.own (i * 3 + 1) (.int .u8 (c.toNat : Int))
  refine ⟨by simpa using h.len, ?_, fun k hk => ?_⟩
  · rw [← pcells_set1 ps us i c h.len hi, List.length_set]
    exact hs.1
  · simp only [List.length_set] at hk
    obtain ⟨h1, h2⟩ := h.kid k hk
    refine ⟨?_, h2⟩
    have h3 := World.ownsRow.kept h1 hs.2 (Apart.ne h2)
    by_cases e : i = k
    · subst e
      rw [nAt_set_self _ _ _ hi]
      exact h3
    · rw [nAt_set_ne _ _ e]
      exact h3
/-- A kid more at one piece: behind the append to its row and the store of the new row. -/
theorem prd_put2 {w w9 : World} {lo g cap : Nat} {ps : List PieceD} {us : List Value} {z : Value} {ks : List Int} (h : Prd w lo (.slice (some ⟨g, 0, none⟩) ps.length cap) ps us) (hp : PW us) {i : Nat} (hi : i < ps.length) (hg : w.grownBy w9 (nAt us i).ownBlock) (hz : IntsO w9 lo z ks) (hat : z.ownBlock = (nAt us i).ownBlock ∨ ∃ q, z.ownBlock = some q ∧ w.heap.size ≤ q) : Prd (w9.setCell ⟨g, i * 3 + 2, none⟩ z) lo (.slice (some ⟨g, 0, none⟩) ps.length cap) (ps.set i ⟨(nAt ps i).f0, (nAt ps i).f1, ks⟩) (us.set i z) := by
  have hgo := World.ownsRow.lt h.own g rfl
  have ho := World.ownsRow.kept h.own hg (Apart.ne ((h.kid i hi).2.symm))
  have hs := World.ownsRow.stored ho (i * 3 + 2) z
  have hza : Apart z (.slice (some ⟨g, 0, none⟩) ps.length cap) := fun q e1 e2 => by
    rcases hat with r | ⟨q', r, hq⟩
    · exact (h.kid i hi).2 q (r ▸ e1) e2
    · rw [r] at e1
      cases e1
      cases e2
      exact absurd (show g < w.heap.size from hgo.2) (Nat.not_lt.2 hq)
  refine ⟨by simpa using h.len, ?_, fun k hk => ?_⟩
  · rw [← pcells_set2 ps us i z ks h.len hi, List.length_set]
    exact hs.1
  · simp only [List.length_set] at hk
    have hil : i < us.length := by rw [h.len]; exact hi
    by_cases e : i = k
    · subst e
      rw [nAt_set_self _ _ _ hi, nAt_set_self _ _ _ hil]
      exact ⟨World.ownsRow.kept hz hs.2 (Apart.ne hza), hza⟩
    · rw [nAt_set_ne _ _ e, nAt_set_ne _ _ e]
      obtain ⟨h1, h2⟩ := h.kid k hk
      have hap : Apart (nAt us k) (nAt us i) := by
        rcases Nat.lt_or_gt_of_ne e with q | q
        · exact (hp i k q (by rw [h.len]; exact hk)).symm
        · exact hp k i q hil
      exact ⟨World.ownsRow.kept (World.ownsRow.kept h1 hg (Apart.ne hap)) hs.2 (Apart.ne h2), h2⟩
theorem Span.cell1p {g i : Nat} {w : World} {u : Value} : Span g (g + 1) w (w.setCell ⟨g, i, none⟩ u) := by
  refine ⟨rfl, rfl, rfl, by simp, fun k hk ho => ?_⟩
  exact heap_setCell_other w ⟨g, i, none⟩ k u (by show k ≠ g; omega)
theorem prd_ab {w w' : World} {lo : Nat} {v : Value} {ps : List PieceD} {us : List Value} (h : Prd w lo v ps us) (hf : Ab lo w w') : Prd w' lo v ps us := ⟨h.len, owns_ab h.own hf, fun k hk => ⟨owns_ab (h.kid k hk).1 hf, (h.kid k hk).2⟩⟩
/-- The end of the draw: the path is laid into the result's box R0. -/
theorem any_done {b R0 : Nat} {w w3 w5 w' : World} {v : Value} {ps : List PieceD} (hb : b < w.heap.size) (hR : R0 = w.heap.size) (hc : Cu w3 b) (hs : Span b (b + 1) w w3) (h3 : w.heap.size < w3.heap.size) (hf : Fr w3 w5) (hp : ∀ w'', Ab w.heap.size (w5.setCell ⟨R0, 0, none⟩ v) w'' → PiecesR w'' v ps) (hw : Fr (w5.setCell ⟨R0, 0, none⟩ v) w') :
    (∀ w'', Ab w.heap.size w' w'' → PiecesR w'' v ps) ∧ Cu w' b ∧ Span b (b + 1) w w' := by
  subst hR
  exact ⟨fun w'' h => hp w'' ((Ab.of_fr hw).trans h), (Cu.span (lo := w.heap.size) (hi := w.heap.size + 1) (hc.fr hf) Span.cell1p hb).fr hw, (Span.above' (L := w.heap.size) (M := w.heap.size + 1) (hs.then_fr hf) Span.cell1p (Nat.le_refl _)).then_fr hw⟩
set_option maxHeartbeats 16000000 in
set_option maxRecDepth 100000 in
theorem l06Any_any (b : Nat) (w : World) (hc : Cu w b) :
    Calls Try.prog 88 #[.pointer (some ⟨b, 0, none⟩)] w fun e w' => ∃ v ps, e = .returned (.agg #[v]) ∧ (∀ w'', Ab w.heap.size w' w'' → PiecesR w'' v ps) ∧ Cu w' b ∧ Span b (b + 1) w w' := by
  obtain ⟨i0, hi, hz0, hz1, hz2⟩ := info_parts info_int
  have hbl := hc.lt
  go_enter Try.func88, Try.ntmps88
  have BR : Box (w.alloc (.cells #[.slice none 0 0] 27)) w.heap.size #[.slice none 0 0] 27 := Box.new _ _ _
  go_wp2_with fail
  refine (l01Below_any b 12 _ (hc.fr (by repeat (first | (with_reducible exact Fr.refl _) | (with_reducible assumption) | (with_reducible refine Fr.drewN ?_ _) | (with_reducible refine Fr.drew ?_) | (with_reducible refine Fr.alloc ?_ _) | (with_reducible refine Fr.setCell ?_ (by (first | (with_reducible assumption) | omega | (simp only [World.size_alloc, World.size_setCell, World.size_drew, World.heap_drewN]; omega) | (simp; done) | (simp; omega))) _) | (with_reducible refine Fr.trans ?_ (by with_reducible assumption))))) (by omega)).mono ?_
  rintro e w1 ⟨x1, hx1, _, rfl, hc1, sp1⟩
  have hx1 := hx1 (by omega)
  have z1 := sp1.size; (try simp only [World.size_alloc] at z1)
  have BR := BR.span sp1 (.inr (by omega))
  go_wp2_with fail
  refine (l01Below_any b 60 _ hc1 (by omega)).mono ?_
  rintro e w2 ⟨x2, hx2, _, rfl, hc2, sp2⟩
  have hx2 := hx2 (by omega)
  have z2 := sp2.size
  have BR := BR.span sp2 (.inr (by omega))
  go_wp2_with fail
  refine (l06Text_any b _ hc2).mono ?_
  rintro e w3 ⟨kt, hkt, rfl, hc3, sp3⟩
  have z3 := sp3.size
  have BR3 := BR.span sp3 (.inr (by omega))
  have spw : Span b (b + 1) w w3 := (((Span.refl b (b + 1) w).alloc' _).trans sp1).trans (sp2.trans sp3)
  obtain ⟨hpa1, hpa2, hpa3, hpa4, hpa5⟩ := pa_ok hkt
  obtain ⟨t, ht⟩ : ∃ t, sAt paTexts kt = t := ⟨_, rfl⟩
  rw [ht] at hpa1 hpa2 hpa3 hpa4 hpa5
  have CR : Hid (∀ w', Calls Try.prog 14 #[.string t] w' fun e w'' => ∃ v, e = .returned (.tuple #[.agg #[v], .bool (rpM t).2]) ∧ PiecesR w'' v (rpM t).1 ∧ Fr w' w'') := Lib.hid fun w' => specReadPath_any t w' (by omega)
  obtain ⟨ps0, hps0⟩ : ∃ ps0, (rpM t).1 = ps0 := ⟨_, rfl⟩
  rw [hps0] at CR hpa2 hpa3 hpa4
  rw [hpa1] at CR
  rw [ht]
  have HPA4 := Lib.hid hpa4
  clear hpa4 hps0 ht hpa1 BR hc1 hc2 sp1 sp2 sp3 hc
  go_wp2_with fail
  refine (CR.out _).mono ?_
  rintro e w4 ⟨v4, rfl, hp4, hf4⟩
  have z4 := hf4.size
  have HP4 := Lib.hid hp4
  obtain ⟨a4, b4, o4, c4, rfl, hc4, hm4, _⟩ := hp4.one
  clear hp4
  go_wp2_with fail
  refine (TurnedPath_any _ ps0 _ (HP4.out.fr (by repeat (first | (with_reducible exact Fr.refl _) | (with_reducible assumption) | (with_reducible refine Fr.drewN ?_ _) | (with_reducible refine Fr.drew ?_) | (with_reducible refine Fr.alloc ?_ _) | (with_reducible refine Fr.setCell ?_ (by (first | (with_reducible assumption) | omega | (simp only [World.size_alloc, World.size_setCell, World.size_drew, World.heap_drewN]; omega) | (simp; done) | (simp; omega))) _) | (with_reducible refine Fr.trans ?_ (by with_reducible assumption))))) (by omega) (fun k hk => Nat.le_trans (HPA4.out k hk) (by omega))).mono ?_
  rintro e w5 ⟨v5, us5, rfl, hp5, hpw5, hf5⟩
  have z5 := hf5.size; (try simp only [World.size_alloc] at z5)
  have HP5 := Lib.hid hp5.rd
  obtain ⟨a5, c5, rfl⟩ := hp5.val
  clear hp5 hpw5
  go_wp2_with fail
  refine (TurnedPath_any _ (turnP ps0) _ (HP5.out.fr (by repeat (first | (with_reducible exact Fr.refl _) | (with_reducible assumption) | (with_reducible refine Fr.drewN ?_ _) | (with_reducible refine Fr.drew ?_) | (with_reducible refine Fr.alloc ?_ _) | (with_reducible refine Fr.setCell ?_ (by (first | (with_reducible assumption) | omega | (simp only [World.size_alloc, World.size_setCell, World.size_drew, World.heap_drewN]; omega) | (simp; done) | (simp; omega))) _) | (with_reducible refine Fr.trans ?_ (by with_reducible assumption))))) (by rw [turnP_len]; omega) (fun k hk => by
    rw [turnP_len] at hk
    have e : nAt (turnP ps0) k = turnX (pathB ps0) (nAt ps0 k) := by unfold turnP nAt; simp [List.getD, hk]
    rw [e, turnX_len]
    exact Nat.le_trans (HPA4.out k hk) (by omega))).mono ?_
  rintro e w6 ⟨v6, us6, rfl, hp6, hpw6, hf6⟩
  have z6 := hf6.size
  have hF36 : Fr w3 w6 := by repeat (first | (with_reducible exact Fr.refl _) | (with_reducible assumption) | (with_reducible refine Fr.drewN ?_ _) | (with_reducible refine Fr.drew ?_) | (with_reducible refine Fr.alloc ?_ _) | (with_reducible refine Fr.setCell ?_ (by (first | (with_reducible assumption) | omega | (simp only [World.size_alloc, World.size_setCell, World.size_drew, World.heap_drewN]; omega) | (simp; done) | (simp; omega))) _) | (with_reducible refine Fr.trans ?_ (by with_reducible assumption)))
  obtain ⟨P, hP⟩ : ∃ P, turnP (turnP ps0) = P := ⟨_, rfl⟩
  rw [hP] at hp6
  have hPl : P.length = ps0.length := by rw [← hP, turnP_len, turnP_len]
  have hPl1 : 1 ≤ P.length := by omega
  have hPk : ∀ k, k < P.length → (nAt P k).f2.length ≤ 60 := fun k hk => by
    rw [← hP] at hk ⊢
    rw [turnP_len] at hk
    have e : nAt (turnP (turnP ps0)) k = turnX (pathB (turnP ps0)) (nAt (turnP ps0) k) := by
      unfold turnP nAt; rw [turnP_len] at hk; simp [List.getD, hk]
    rw [turnP_len] at hk
    have e2 : nAt (turnP ps0) k = turnX (pathB ps0) (nAt ps0 k) := by unfold turnP nAt; simp [List.getD, hk]
    rw [e, turnX_len, e2, turnX_len]
    exact HPA4.out k hk
  have HPK := Lib.hid hPk
  have hPl2 : P.length ≤ 60 := by omega
  rcases owns_shape hp6.own with ⟨_, h0, _⟩ | ⟨g, c6, rfl, hg1, hg2, hcm1, hcm2⟩
  · omega
  have HP6 := Lib.hid hp6
  have HPW := Lib.hid hpw6
  have BR6 := BR3.fr hF36
  have FR6 := BR6.facts
  clear hP hPl hp6 hpw6 HP4 HP5 CR BR3 hPk
  have hne1 : w.heap.size ≠ w6.heap.size := by omega
  have hne2 : w6.heap.size ≠ w.heap.size := by omega
  have hne3 : g ≠ w6.heap.size := by omega
  have hne4 : g ≠ w.heap.size := by omega
  obtain ⟨iz, hiz⟩ : ∃ iz : Nat, iz = x2 % P.length := ⟨_, rfl⟩
  have hil : iz < P.length := by rw [hiz]; exact Nat.mod_lt _ (by omega)
  have hrem : ((x2 : Int) % (P.length : Int)) = (iz : Int) := by rw [hiz]; simp
  have FC := fun q (hq : q < P.length * 3) => owns_cell HP6.out.own q hq
  obtain ⟨q0, s0⟩ := FC (iz * 3) (by omega)
  obtain ⟨q1, s1⟩ := FC (iz * 3 + 1) (by omega)
  have f0 := HP6.out.own.frozenAt (iz * 3)
  have f1 := HP6.out.own.frozenAt (iz * 3 + 1)
  have f2 := HP6.out.own.frozenAt (iz * 3 + 2)
  clear FC hiz
  have hcase : x1 = 0 ∨ x1 = 1 ∨ x1 = 2 ∨ x1 = 3 ∨ 3 < x1 := by omega
  rcases hcase with rfl | rfl | rfl | rfl | h4
  · have hm : ((x2 : Int) % 8) = ((x2 % 8 : Nat) : Int) := by omega
    obtain ⟨y, hy⟩ : ∃ y : Nat, y = x2 % 8 := ⟨_, rfl⟩
    rw [← hy] at hm
    clear hy
    go_wp2_with fail
    refine bodyPost_ret (v := .agg #[.slice (some ⟨g, 0, none⟩) P.length c6]) (by simp [results, Try.results88, go_sem, *]) rfl ?_
    exact ⟨_, _, rfl, any_done (w5 := w6.setCell ⟨g, iz * 3, none⟩ (.int .i64 (y : Int))) hbl rfl hc3 spw (by omega) (hF36.setCell (by show w3.heap.size ≤ g; omega) _) (fun w'' h => (prd_ab (Prd.set (prd_put0 HP6.out hil _) (p := ⟨w.heap.size, 0, none⟩) (by show w.heap.size < _; omega) _) (Ab.mono' h (by omega))).rd) (by repeat (first | (with_reducible exact Fr.refl _) | (with_reducible assumption) | (with_reducible refine Fr.drewN ?_ _) | (with_reducible refine Fr.drew ?_) | (with_reducible refine Fr.alloc ?_ _) | (with_reducible refine Fr.setCell ?_ (by (first | (with_reducible assumption) | omega | (simp only [World.size_alloc, World.size_setCell, World.size_drew, World.heap_drewN]; omega) | (simp; done) | (simp; omega))) _) | (with_reducible refine Fr.trans ?_ (by with_reducible assumption))))⟩
  · obtain ⟨hk1, hk2⟩ := HP6.out.kid iz hil
    have hcz := HP6.out.own.cellAt (iz * 3 + 2) (by omega)
    rw [pcells_at2 P us6 iz HP6.out.len hil] at hcz
    have hkl := HPK.out iz hil
    have hpa2 := pcells_at2 P us6 iz HP6.out.len hil
    obtain ⟨kz, hkz⟩ : ∃ kz, nAt us6 iz = kz := ⟨_, rfl⟩
    obtain ⟨ks, hks⟩ : ∃ ks, (nAt P iz).f2 = ks := ⟨_, rfl⟩
    rw [hkz] at hk1 hk2 hcz hpa2
    have HPA2 := Lib.hid hpa2
    clear hpa2
    rw [hks] at hk1 hkl
    have HKZ := Lib.hid hkz
    clear hkz hks
    obtain ⟨az, cz, rfl⟩ := IntsO.val hk1
    have HPUT : Hid (∀ (W w9 : World) (z : Value) (kn : List Int), W.grownBy w9 (Value.slice az ks.length cz).ownBlock → Fr w6 W → IntsO w9 w5.heap.size z kn → (z.ownBlock = (Value.slice az ks.length cz).ownBlock ∨ z.ownBlock = some W.heap.size) → Prd (w9.setCell ⟨g, iz * 3 + 2, none⟩ z) w5.heap.size (.slice (some ⟨g, 0, none⟩) P.length c6) (P.set iz ⟨(nAt P iz).f0, (nAt P iz).f1, kn⟩) (us6.set iz z)) := Lib.hid fun W w9 z kn hg hf hz hat => prd_put2 (HP6.out.fr hf) HPW.out hil (by rw [HKZ.out]; exact hg) hz (by rw [HKZ.out]; exact hat.imp id fun h => ⟨_, h, Nat.le_refl _⟩)
    have HK1 := Lib.hid hk1
    have HK2 := Lib.hid hk2
    have hrow := World.ownsRow.lt hk1
    have HROW := Lib.hid hrow
    have hm : ((x2 : Int) % 4) = ((x2 % 4 : Nat) : Int) := by omega
    obtain ⟨y, hy⟩ : ∃ y : Nat, y = x2 % 4 := ⟨_, rfl⟩
    have hy4 : y < 4 := by omega
    rw [← hy] at hm
    have htm : (x2 : Int).tmod 4 = (y : Int) := by rw [Int.tmod_eq_emod_of_nonneg (by omega)]; exact hm
    have hwy : IntKind.i64.wrap ((y : Int) - 1) = (y : Int) - 1 := IntWalk.i64_in _ (by omega)
    clear hy hk1 hk2 hrow
    have BW : Box (w6.alloc (.cells #[.slice (some ⟨g, 0, none⟩) P.length c6] 27)) w6.heap.size #[.slice (some ⟨g, 0, none⟩) P.length c6] 27 := Box.new _ _ _
    go_wp2_with fail
    go_region_law ((refine step_append_rd (by rfl) _ _ 38 (by rfl) w5.heap.size 3 i0 (.int .i64 0) 1 8 Try.underlying38 hi hz0 hz1 hz2 rfl (by decide) (.slice az ks.length cz) ks.length (ks.map (Value.int .i64)) (by rfl) (by exact owns_lo (owns_ab HK1.out (by repeat (first | (with_reducible exact Ab.refl _ _) | (with_reducible assumption) | (with_reducible refine Ab.drewN ?_ _) | (with_reducible refine Ab.drew ?_) | (with_reducible refine Ab.alloc ?_ _) | (with_reducible refine Ab.setCell ?_ (by (first | (with_reducible assumption) | omega | (simp only [World.size_alloc, World.size_setCell, World.size_drew, World.heap_drewN]; omega) | (simp; done) | (simp; omega))) _) | (with_reducible refine Ab.fr ?_ (by with_reducible assumption))))) (by (first | (with_reducible assumption) | omega | (simp only [World.size_alloc, World.size_setCell, World.size_drew, World.heap_drewN]; omega) | (simp; done) | (simp; omega)))) _ 1 [.int .i64 ((y : Int) - 1)] (by rfl) (by first | exact RdS.new (by first | rfl | (simp; done)) rfl | exact RdS.drew (RdS.new (by first | rfl | (simp; done)) rfl)) (by simp [Value.oneCell']) (by unfold maxLen; omega) (by omega) (by (first | (with_reducible assumption) | omega | (simp only [World.size_alloc, World.size_setCell, World.size_drew, World.heap_drewN]; omega) | (simp; done) | (simp; omega))) ?_; intro ay cy w9 hown hgrow hat; have hB9 : Box w9 w6.heap.size _ _ := Box.gr (Box.fr BW (by repeat (first | (with_reducible exact Fr.refl _) | (with_reducible assumption) | (with_reducible refine Fr.drewN ?_ _) | (with_reducible refine Fr.drew ?_) | (with_reducible refine Fr.alloc ?_ _) | (with_reducible refine Fr.setCell ?_ (by (first | (with_reducible assumption) | omega | (simp only [World.size_alloc, World.size_setCell, World.size_drew, World.heap_drewN]; omega) | (simp; done) | (simp; omega))) _) | (with_reducible refine Fr.trans ?_ (by with_reducible assumption))))) hgrow (fun e => by have := (HROW.out _ e).2; omega); have F9 := hB9.facts; have hR9 : Box w9 w.heap.size _ _ := Box.gr (Box.fr BR6 (by repeat (first | (with_reducible exact Fr.refl _) | (with_reducible assumption) | (with_reducible refine Fr.drewN ?_ _) | (with_reducible refine Fr.drew ?_) | (with_reducible refine Fr.alloc ?_ _) | (with_reducible refine Fr.setCell ?_ (by (first | (with_reducible assumption) | omega | (simp only [World.size_alloc, World.size_setCell, World.size_drew, World.heap_drewN]; omega) | (simp; done) | (simp; omega))) _) | (with_reducible refine Fr.trans ?_ (by with_reducible assumption))))) hgrow (fun e => by have := (HROW.out _ e).1; omega); have G9 := hR9.facts; have z9 := hgrow.size; (try simp only [World.size_alloc, World.size_drew] at z9); have o9 := World.ownsRow.kept (owns_fr HP6.out.own (show Fr w6 _ by repeat (first | (with_reducible exact Fr.refl _) | (with_reducible assumption) | (with_reducible refine Fr.drewN ?_ _) | (with_reducible refine Fr.drew ?_) | (with_reducible refine Fr.alloc ?_ _) | (with_reducible refine Fr.setCell ?_ (by (first | (with_reducible assumption) | omega | (simp only [World.size_alloc, World.size_setCell, World.size_drew, World.heap_drewN]; omega) | (simp; done) | (simp; omega))) _) | (with_reducible refine Fr.trans ?_ (by with_reducible assumption))))) hgrow (Apart.ne HK2.out.symm); have s9 := o9.cellAt (iz * 3 + 2) (by omega); have f9 := o9.frozenAt (iz * 3 + 2); rw [HPA2.out] at s9; clear o9))
    all_goals
      have hp9 := HPUT.out _ _ (.slice ay (ks.length + 1) cy) (ks ++ [(y : Int) - 1]) hgrow (by repeat (first | (with_reducible exact Fr.refl _) | (with_reducible assumption) | (with_reducible refine Fr.drewN ?_ _) | (with_reducible refine Fr.drew ?_) | (with_reducible refine Fr.alloc ?_ _) | (with_reducible refine Fr.setCell ?_ (by (first | (with_reducible assumption) | omega | (simp only [World.size_alloc, World.size_setCell, World.size_drew, World.heap_drewN]; omega) | (simp; done) | (simp; omega))) _) | (with_reducible refine Fr.trans ?_ (by with_reducible assumption)))) (by simpa [IntsO] using hown) hat
      have HP9 := Lib.hid hp9
      have hf9 : Fr w3 w9 := Fr.app (by repeat (first | (with_reducible exact Fr.refl _) | (with_reducible assumption) | (with_reducible refine Fr.drewN ?_ _) | (with_reducible refine Fr.drew ?_) | (with_reducible refine Fr.alloc ?_ _) | (with_reducible refine Fr.setCell ?_ (by (first | (with_reducible assumption) | omega | (simp only [World.size_alloc, World.size_setCell, World.size_drew, World.heap_drewN]; omega) | (simp; done) | (simp; omega))) _) | (with_reducible refine Fr.trans ?_ (by with_reducible assumption)))) hgrow HROW.out (by omega)
      clear hp9
      go_wp2_with fail
      refine bodyPost_ret (v := .agg #[.slice (some ⟨g, 0, none⟩) P.length c6]) (by simp [results, Try.results88, go_sem, *]) rfl ?_
      have q9 : ∀ w'', Ab w.heap.size ((w9.setCell ⟨g, iz * 3 + 2, none⟩ (.slice ay (ks.length + 1) cy)).setCell ⟨w.heap.size, 0, none⟩ (.slice (some ⟨g, 0, none⟩) P.length c6)) w'' → PiecesR w'' (.slice (some ⟨g, 0, none⟩) P.length c6) _ := fun w'' h => (prd_ab (Prd.set HP9.out (p := ⟨w.heap.size, 0, none⟩) (by show w.heap.size < _; omega) (.slice (some ⟨g, 0, none⟩) P.length c6)) (Ab.mono' h (by omega))).rd
      have f9' : Fr w3 (w9.setCell ⟨g, iz * 3 + 2, none⟩ (.slice ay (ks.length + 1) cy)) := hf9.setCell (by show w3.heap.size ≤ g; omega) _
      have D9 := fun w' => any_done (w' := w') hbl rfl hc3 spw (by omega) f9' q9
      exact ⟨_, _, rfl, D9 _ (by repeat (first | (with_reducible exact Fr.refl _) | (with_reducible assumption) | (with_reducible refine Fr.drewN ?_ _) | (with_reducible refine Fr.drew ?_) | (with_reducible refine Fr.alloc ?_ _) | (with_reducible refine Fr.setCell ?_ (by (first | (with_reducible assumption) | omega | (simp only [World.size_alloc, World.size_setCell, World.size_drew, World.heap_drewN]; omega) | (simp; done) | (simp; omega))) _) | (with_reducible refine Fr.trans ?_ (by with_reducible assumption))))⟩
  · have hm : ((x2 : Int) % 8) = ((x2 % 8 : Nat) : Int) := by omega
    obtain ⟨y, hy⟩ : ∃ y : Nat, y = x2 % 8 := ⟨_, rfl⟩
    have hy8 : y < 8 := by omega
    rw [← hy] at hm
    clear hy
    have hw95 : IntKind.i64.wrap (95 + (y : Int)) = ((95 + y : Nat) : Int) := by rw [show 95 + (y : Int) = ((95 + y : Nat) : Int) by omega]; exact IntWalk.i64_in _ (by omega)
    have hw8 : IntKind.u8.wrap ((95 + y : Nat) : Int) = ((UInt8.ofNat (95 + y)).toNat : Int) := by
      have e : (UInt8.ofNat (95 + y)).toNat = 95 + y := by simp [UInt8.toNat_ofNat]; omega
      rw [e]
      simp [IntKind.wrap, IntKind.bits, IntKind.signed]
      omega
    go_wp2_with fail
    refine bodyPost_ret (v := .agg #[.slice (some ⟨g, 0, none⟩) P.length c6]) (by simp [results, Try.results88, go_sem, *]) rfl ?_
    have hp1 := prd_put1 HP6.out hil (UInt8.ofNat (95 + y))
    have hv95 : ((UInt8.ofNat (95 + y)).toNat : Int) = 95 + (y : Int) := by
      have e : (UInt8.ofNat (95 + y)).toNat = 95 + y := by simp [UInt8.toNat_ofNat]; omega
      rw [e]; simp
    rw [hv95] at hp1
    exact ⟨_, _, rfl, any_done (w5 := w6.setCell ⟨g, iz * 3 + 1, none⟩ (.int .u8 (95 + (y : Int)))) hbl rfl hc3 spw (by omega) (hF36.setCell (by show w3.heap.size ≤ g; omega) _) (fun w'' h => (prd_ab (Prd.set hp1 (p := ⟨w.heap.size, 0, none⟩) (by show w.heap.size < _; omega) _) (Ab.mono' h (by omega))).rd) (by repeat (first | (with_reducible exact Fr.refl _) | (with_reducible assumption) | (with_reducible refine Fr.drewN ?_ _) | (with_reducible refine Fr.drew ?_) | (with_reducible refine Fr.alloc ?_ _) | (with_reducible refine Fr.setCell ?_ (by (first | (with_reducible assumption) | omega | (simp only [World.size_alloc, World.size_setCell, World.size_drew, World.heap_drewN]; omega) | (simp; done) | (simp; omega))) _) | (with_reducible refine Fr.trans ?_ (by with_reducible assumption))))⟩
  · go_wp2_with fail
    refine bodyPost_ret (v := .agg #[.slice (some ⟨g, 0, none⟩) 0 c6]) (by simp [results, Try.results88, go_sem, *]) rfl ?_
    exact ⟨_, [], rfl, any_done (w5 := w6) hbl rfl hc3 spw (by omega) hF36 (fun w'' h => ⟨[], rfl, ⟨by simp, _, _, rfl, Nat.zero_le _, hcm2, fun h => absurd h (by decide)⟩, fun k u x h => by simp at h⟩) (by repeat (first | (with_reducible exact Fr.refl _) | (with_reducible assumption) | (with_reducible refine Fr.drewN ?_ _) | (with_reducible refine Fr.drew ?_) | (with_reducible refine Fr.alloc ?_ _) | (with_reducible refine Fr.setCell ?_ (by (first | (with_reducible assumption) | omega | (simp only [World.size_alloc, World.size_setCell, World.size_drew, World.heap_drewN]; omega) | (simp; done) | (simp; omega))) _) | (with_reducible refine Fr.trans ?_ (by with_reducible assumption))))⟩
  · have e0 : ((x1 : Int) == 0) = false := by rw [beq_eq_false_iff_ne]; omega
    have e1 : ((x1 : Int) == 1) = false := by rw [beq_eq_false_iff_ne]; omega
    have e2 : ((x1 : Int) == 2) = false := by rw [beq_eq_false_iff_ne]; omega
    have e3 : ((x1 : Int) == 3) = false := by rw [beq_eq_false_iff_ne]; omega
    go_wp2_with fail
    refine bodyPost_ret (v := .agg #[.slice (some ⟨g, 0, none⟩) P.length c6]) (by simp [results, Try.results88, go_sem, *]) rfl ?_
    exact ⟨_, P, rfl, any_done hbl rfl hc3 spw (by omega) hF36 (fun w'' h => (prd_ab (Prd.set HP6.out (p := ⟨w.heap.size, 0, none⟩) (by show w.heap.size < _; omega) _) (Ab.mono' h (by omega))).rd) (by repeat (first | (with_reducible exact Fr.refl _) | (with_reducible assumption) | (with_reducible refine Fr.drewN ?_ _) | (with_reducible refine Fr.drew ?_) | (with_reducible refine Fr.alloc ?_ _) | (with_reducible refine Fr.setCell ?_ (by (first | (with_reducible assumption) | omega | (simp only [World.size_alloc, World.size_setCell, World.size_drew, World.heap_drewN]; omega) | (simp; done) | (simp; omega))) _) | (with_reducible refine Fr.trans ?_ (by with_reducible assumption))))⟩
end Go.Proofs.Ytjgghiniajmfjaa
