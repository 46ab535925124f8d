/- TurnedPath of the reference: the pieces, rows turned; a path of the call's own. Conditions: bounds on what is read. -/
import Derived.Test.YtjgghiniajmfjaaPrr
import Derived.Test.YtjgghiniajmfjaaPth2
import Derived.Test.YtjgghiniajmfjaaNest2
namespace Go.Proofs.Ytjgghiniajmfjaa
open Go.RowKit
set_option linter.unusedVariables false
set_option linter.unusedSimpArgs false
def turnX (b : Bool) (x : PieceD) : PieceD := if b = true ∧ x.f0 = 2 then ⟨x.f0, x.f1, x.f2.reverse⟩ else x
def turnP (ps : List PieceD) : List PieceD := ps.map (turnX (pathB ps))
theorem turnP_len (ps : List PieceD) : (turnP ps).length = ps.length := by simp [turnP]
theorem turnX_f0 (b : Bool) (x : PieceD) : (turnX b x).f0 = x.f0 := by unfold turnX; split <;> rfl
theorem turnX_f1 (b : Bool) (x : PieceD) : (turnX b x).f1 = x.f1 := by unfold turnX; split <;> rfl
theorem turnX_len (b : Bool) (x : PieceD) : (turnX b x).f2.length = x.f2.length := by unfold turnX; split <;> simp
/-- The kids' rows lie apart. -/
def PW (us : List Value) : Prop := ∀ j k, j < k → k < us.length → Apart (nAt us j) (nAt us k)
theorem PW.snoc {us : List Value} {u : Value} (h : PW us) (hu : ∀ k, k < us.length → Apart (nAt us k) u) : PW (us ++ [u]) := fun j k hjk hk => by
  simp only [List.length_append, List.length_singleton] at hk
  rcases Nat.lt_or_ge k us.length with h1 | h1
  · rw [nAt_front' us u h1, nAt_front' us u (by omega)]
    exact h j k hjk h1
  · obtain rfl : k = us.length := by omega
    rw [nAt_end' us u, nAt_front' us u hjk]
    exact hu j hjk
where
  nAt_front' {α : Type} [Inhabited α] (l : List α) (x : α) {k : Nat} (hk : k < l.length) : nAt (l ++ [x]) k = nAt l k := by simp [nAt, List.getD, List.getElem?_append_left hk]
  nAt_end' {α : Type} [Inhabited α] (l : List α) (x : α) : nAt (l ++ [x]) l.length = x := by simp [nAt, List.getD]
theorem rev_at {l : List Int} {m : Nat} (h : m < l.length) : l.reverse.take (m + 1) = l.reverse.take m ++ [iAt l (l.length - 1 - m)] := by
  rw [List.take_succ_eq_append_getElem (by simpa using h), List.getElem_reverse]
  simp [iAt, List.getD, show l.length - 1 - m < l.length by omega]
theorem take_at {l : List Int} {m : Nat} (h : m < l.length) : l.take (m + 1) = l.take m ++ [iAt l m] := by
  rw [List.take_succ_eq_append_getElem h]
  simp [iAt, List.getD, h]
/-- The kids that are written, in their order. -/
def ordK (b : Bool) (l : List Int) : List Int := if b = true then l.reverse else l
theorem ordK_len (b : Bool) (l : List Int) : (ordK b l).length = l.length := by unfold ordK; split <;> simp
theorem turnX_ord (b : Bool) (x : PieceD) : turnX b x = ⟨x.f0, x.f1, ordK (b && decide (x.f0 = 2)) x.f2⟩ := by
  unfold turnX ordK
  by_cases h : b = true ∧ x.f0 = 2
  · rw [if_pos h, if_pos (by simp [h])]
  · rw [if_neg h, if_neg (by simpa using h)]
/-- The next kid that is written, by its place. -/
def ordAt (b : Bool) (n m : Nat) : Nat := if b = true then n - 1 - m else m
theorem ordK_step {b : Bool} {l : List Int} {m : Nat} (h : m < l.length) : (ordK b l).take (m + 1) = (ordK b l).take m ++ [iAt l (ordAt b l.length m)] := by
  unfold ordK ordAt
  cases b
  · exact take_at h
  · exact rev_at h
theorem small_kids {x : PieceD} {va : Value} {w : World} (h : IntsR w va x.f2) : x.f2.length ≤ 9223372036854775807 := h.le
/-- The copy of a piece in block H, its kids written so far. -/
structure TkI (W0 w : World) (H : Nat) (X : Array Value) (az : Option Addr) (m cz : Nat) (xs : List Int) : Prop where
  row : w.ownsRow H 3 1 (.slice az m cz) m (xs.map (Value.int .i64))
  box : Box w H X 121
  fr : Fr W0 w
  size : H + 2 ≤ w.heap.size
  nb : ∀ g, (Value.slice az m cz).ownBlock = some g → H + 1 ≤ g
theorem TkI.app {W0 w w4 : World} {H : Nat} {X : Array Value} {az az' : Option Addr} {m cz cz' : Nat} {xs : List Int} {y : Int} {o : Obj} (h : TkI W0 w H X az m cz xs) (hH : H = W0.heap.size) (hown : w4.ownsRow H 3 1 (.slice az' (m + 1) cz') (m + 1) (xs.map (Value.int .i64) ++ [.int .i64 y])) (hg : (w.alloc o).grownBy w4 (Value.slice az m cz).ownBlock)
    (hat : (Value.slice az' (m + 1) cz').ownBlock = (Value.slice az m cz).ownBlock ∨ (Value.slice az' (m + 1) cz').ownBlock = some (w.alloc o).heap.size) : TkI W0 w4 H X az' (m + 1) cz' (xs ++ [y]) := by
  have z4 := hg.size
  have hs := h.size
  simp only [World.size_alloc] at z4 hat
  refine ⟨by rw [List.map_append]; exact hown, Box.gr (h.box.alloc o) hg (fun e => by have := h.nb _ e; omega), ?_, by omega, fun g e => ?_⟩
  · exact Fr.app (h.fr.alloc o) hg (lo := H) (hi := w.heap.size) (RowIn.of_owns h.row) (by omega)
  · rcases hat with q | q
    · rw [q] at e; exact h.nb g e
    · rw [q] at e; cases e; omega
theorem Prd.lo {w : World} {lo lo' : Nat} {v : Value} {ps : List PieceD} {us : List Value} (h : Prd w lo v ps us) (hl : lo' ≤ lo) : Prd w lo' v ps us := ⟨h.len, owns_lo h.own hl, fun k hk => ⟨owns_lo (h.kid k hk).1 hl, (h.kid k hk).2⟩⟩
set_option maxHeartbeats 16000000 in
set_option maxRecDepth 100000 in
theorem TurnedPath_any (v : Value) (ps : List PieceD) (w : World) (hv : PiecesR w v ps) (hps : ps.length ≤ 1000) (hks : ∀ k, k < ps.length → (nAt ps k).f2.length ≤ 1000) :
    Calls Try.prog 50 #[.agg #[v]] w fun e w' => ∃ u us, e = .returned (.agg #[u]) ∧ Prd w' w.heap.size u (turnP ps) us ∧ PW us ∧ Fr w w' := by
  obtain ⟨i0, hi, hz0, hz1, hz2⟩ := info_parts info_int
  obtain ⟨j0, kj, jz0, jz1, jz2⟩ := info_parts info_Piece
  obtain ⟨ok, hok⟩ : ∃ ok, pathB ps = ok := ⟨_, rfl⟩
  have HTP : Hid (turnP ps = ps.map (turnX ok)) := Lib.hid (by unfold turnP; rw [hok])
  have CP : Hid (∀ w', Fr w w' → Calls Try.prog 26 #[.agg #[v]] w' fun e w'' => e = .returned (.bool ok) ∧ Fr w' w'') := Lib.hid fun w' h => by rw [← hok]; exact specPathOk_any v ps w' (hv.fr h)
  obtain ⟨av, bv, ov, cv, rfl, hcv, hmv, fv⟩ := hv.one
  have FV := Lib.hid fv
  have HKS := Lib.hid hks
  clear fv hv hok hks
  go_enter Try.func50, Try.ntmps50
  go_wp2_with fail
  refine (CP.out _ (by repeat (first | (with_reducible exact Fr.refl _) | (with_reducible assumption) | (with_reducible refine Fr.drewN ?_ _) | (with_reducible refine Fr.drew ?_) | (with_reducible refine Fr.alloc ?_ _) | (with_reducible refine Fr.setCell ?_ (by (first | (with_reducible assumption) | omega | (simp only [World.size_alloc, World.size_setCell, World.size_drew, World.heap_drewN]; omega) | (simp; done) | (simp; omega))) _) | (with_reducible refine Fr.trans ?_ (by with_reducible assumption))))).mono ?_
  rintro e w1 ⟨rfl, hf1⟩
  have BP1 := (((Box.new w #[.slice av ps.length cv] 27).alloc (.cells #[.slice none 0 0] 27)).alloc (.cells #[.slice none 0 0] 27)).fr hf1
  have BR1 := ((Box.new' (w := w.alloc (.cells #[.slice av ps.length cv] 27)) (X := #[.slice none 0 0]) (T := 27) (b := w.heap.size + 1) (by simp)).alloc (.cells #[.slice none 0 0] 27)).fr hf1
  have BO1 := (Box.new' (w := (w.alloc (.cells #[.slice av ps.length cv] 27)).alloc (.cells #[.slice none 0 0] 27)) (X := #[.slice none 0 0]) (T := 27) (b := w.heap.size + 2) (by simp)).fr hf1
  have hw1 : w.heap.size + 3 ≤ w1.heap.size := by have := hf1.size; simp at this; omega
  have hfw1 : Fr w w1 := by repeat (first | (with_reducible exact Fr.refl _) | (with_reducible assumption) | (with_reducible refine Fr.drewN ?_ _) | (with_reducible refine Fr.drew ?_) | (with_reducible refine Fr.alloc ?_ _) | (with_reducible refine Fr.setCell ?_ (by (first | (with_reducible assumption) | omega | (simp only [World.size_alloc, World.size_setCell, World.size_drew, World.heap_drewN]; omega) | (simp; done) | (simp; omega))) _) | (with_reducible refine Fr.trans ?_ (by with_reducible assumption)))
  have HB1 := Lib.hid BP1
  have HB2 := Lib.hid BR1
  have HB3 := Lib.hid BO1
  clear BP1 BR1 BO1 hf1
  have HFW := Lib.hid hfw1
  clear hfw1
  go_wp2_with fail
  go_loopw [5] (fun i wr => ∃ (k : Nat) (ao : Option Addr) (co : Nat) (us : List Value), k ≤ ps.length ∧ i = .int .i64 k ∧ Hid (Box wr w.heap.size #[.slice av ps.length cv] 27) ∧ Hid (Box wr (w.heap.size + 1) #[.slice none 0 0] 27) ∧ Hid (Box wr (w.heap.size + 2) #[.slice ao k co] 27) ∧ Hid (Prd wr (w.heap.size + 3) (.slice ao k co) ((ps.take k).map (turnX ok)) us) ∧ Hid (PW us) ∧ Hid (Fr w wr) ∧ w.heap.size + 3 ≤ wr.heap.size) (fun i _ => ps.length - (intOf i).toNat)
  case atStart => exact ⟨0, none, 0, [], Nat.zero_le _, rfl, HB1, HB2, HB3, Lib.hid (by simpa using Prd.none w1 _), Lib.hid (fun j k _ hk => by simp at hk), HFW, hw1⟩
  case round =>
    clear HB1 HB2 HB3 HFW hw1
    obtain ⟨k, ao, co, us, hk, rfl, HB1, HB2, HB3, HP, HPW, HFW, hw1⟩ := hrel
    have F1 := HB1.out.facts
    have F3 := HB3.out.facts
    by_cases hlt : k < ps.length
    · obtain ⟨rfl, hbv, fv⟩ := FV.out (by omega)
      obtain ⟨va, ha, g0, g1, g2⟩ := fv k hlt
      have hkl := HKS.out k hlt
      have hstep : (ps.take (k + 1)).map (turnX ok) = (ps.take k).map (turnX ok) ++ [turnX ok (nAt ps k)] := by rw [take_next ps k hlt, List.map_append]; rfl
      obtain ⟨x, hx⟩ : ∃ x, nAt ps k = x := ⟨_, rfl⟩
      rw [hx] at ha g0 g1 hkl hstep
      have c0 := (HFW.out.cell (p := ⟨bv, _, none⟩) hbv).trans g0
      have c1 := (HFW.out.cell (p := ⟨bv, _, none⟩) hbv).trans g1
      have c2 := (HFW.out.cell (p := ⟨bv, _, none⟩) hbv).trans g2
      rw [turnX_ord] at hstep
      have HST := Lib.hid hstep
      obtain ⟨aa, ba, oa, ca, rfl, hca, hma, fa⟩ := ha.one
      have FA := Lib.hid fa
      have hxl := x.f1.toNat_lt
      obtain ⟨x0, x1, x2⟩ := x
      simp only [] at c0 c1 c2 hxl FA hca hkl HST
      obtain ⟨sw, hsw⟩ : ∃ sw, (ok && decide (x0 = 2)) = sw := ⟨_, rfl⟩
      rw [hsw] at HST
      have HSW := Lib.hid hsw
      clear fv ha g0 g1 g2 hx fa hstep hsw
      obtain ⟨H, hH⟩ : ∃ H, H = wr.heap.size := ⟨_, rfl⟩
      have HHS := Lib.hid hH
      clear hH
      have hbaH : 0 < x2.length → ba < H := fun h => by have := (FA.out h).2.1; have := HFW.out.size; have := HHS.out; omega
      go_wp2_with fail
      rw [← HHS.out]
      go_loopw [7, 8] (fun z i wr' => ∃ (m : Nat) (az : Option Addr) (cz : Nat), m ≤ x2.length ∧ i = .int .i64 m ∧ z = .slice az m cz ∧ Hid (TkI wr wr' H #[.int .i64 x0, .int .u8 (x1.toNat : Int), .slice aa x2.length ca] az m cz ((ordK sw x2).take m))) (fun _ i _ => x2.length - (intOf i).toNat)
      case atStart => exact ⟨0, _, 0, Nat.zero_le _, rfl, rfl, Lib.hid ⟨by rw [List.take_zero]; exact made_empty (by rw [HHS.out]; simp) (by omega), by rw [HHS.out]; exact (Box.new _ _ _).alloc _, by repeat (first | (with_reducible exact Fr.refl _) | (with_reducible assumption) | (with_reducible refine Fr.drewN ?_ _) | (with_reducible refine Fr.drew ?_) | (with_reducible refine Fr.alloc ?_ _) | (with_reducible refine Fr.setCell ?_ (by (first | (with_reducible assumption) | omega | (simp only [World.size_alloc, World.size_setCell, World.size_drew, World.heap_drewN]; omega) | (simp; done) | (simp; omega))) _) | (with_reducible refine Fr.trans ?_ (by with_reducible assumption))), by rw [HHS.out]; simp, fun g e => by cases e; exact Nat.le_refl _⟩⟩
      case round =>
        obtain ⟨m, az, cz, hm, rfl, rfl, I⟩ := hrel
        have BX := I.out.box
        have FX := BX.facts
        have hsz := I.out.size
        have hfr := I.out.fr.size
        have hHw1 := Nat.le_of_eq HHS.out
        have hHw2 := Nat.le_of_eq HHS.out.symm
        by_cases hmt : m < x2.length
        · obtain ⟨rfl, hba, fa⟩ := FA.out (by omega)
          have hst := ordK_step (b := sw) hmt
          have hoa : ordAt sw x2.length m < x2.length := by unfold ordAt; split <;> omega
          have hbaH2 := hbaH (by omega)
          have d0 := (I.out.fr.cell (p := ⟨ba, oa + ordAt sw x2.length m, none⟩) (by show ba < _; omega)).trans ((HFW.out.cell (p := ⟨ba, _, none⟩) hba).trans (fa _ hoa))
          obtain ⟨y, hy⟩ : ∃ y, iAt x2 (ordAt sw x2.length m) = y := ⟨_, rfl⟩
          rw [hy] at d0 hst
          have hswc : (true = sw ∧ ok = true ∧ x0 = 2) ∨ (false = sw ∧ ok = false) ∨ (false = sw ∧ ok = true ∧ x0 ≠ 2) := by
            have := HSW.out
            cases ok
            · right; left; exact ⟨by simpa using this, rfl⟩
            · by_cases e : x0 = 2
              · left; simp [e] at this; exact ⟨this.symm, rfl, e⟩
              · right; right; simp [e] at this; exact ⟨this.symm, rfl, e⟩
          have hbw : ba < wr.heap.size := by omega
          have hban : ba ≠ H := by omega
          clear BX fa hy
          rcases hswc with ⟨rfl, rfl, rfl⟩ | ⟨rfl, rfl⟩ | ⟨rfl, rfl, h2⟩
          · have HST2 := Lib.hid hst
            have hu1 : IntKind.i64.wrap ((x2.length : Int) - 1) = ((x2.length - 1 : Nat) : Int) := by rw [show (x2.length : Int) - 1 = ((x2.length - 1 : Nat) : Int) by omega]; exact IntWalk.i64_in _ (by omega)
            have hu2 : IntKind.i64.wrap (((x2.length - 1 : Nat) : Int) - (m : Int)) = ((x2.length - 1 - m : Nat) : Int) := by rw [show ((x2.length - 1 : Nat) : Int) - (m : Int) = ((x2.length - 1 - m : Nat) : Int) by omega]; exact IntWalk.i64_in _ (by omega)
            have hlt2 : x2.length - 1 - m < x2.length := by omega
            have d1 : wr.cell? ⟨ba, oa + (x2.length - 1 - m), none⟩ = some (.int .i64 y) := d0
            clear d0 hst hoa
            go_wp2_with (at_builtin; (refine wpList_append_rd rfl _ _ 38 rfl H 3 i0 (.int .i64 0) 1 8 Try.underlying38 hi hz0 hz1 hz2 rfl (by decide) (.slice az m cz) m (((ordK true x2).take m).map (Value.int .i64)) rfl (World.ownsRow.alloc I.out.row _) _ 1 [.int .i64 y] rfl (RdS.new (by first | rfl | (simp; done)) rfl) (by simp [Value.oneCell']) (by unfold maxLen; omega) (by omega) (by (first | (with_reducible assumption) | omega | (simp only [World.size_alloc, World.size_setCell, World.size_drew, World.heap_drewN]; omega) | (simp; done) | (simp; omega))) ?_; intro az' cz' w4 hown hgrow hat))
            have I4 := Lib.hid (HST2.out ▸ I.out.app HHS.out hown hgrow hat)
            go_roundw
            case rel => exact ⟨m + 1, az', cz', by omega, by go_num, rfl, I4⟩
            case measure => (simp [intOf]; omega)
          · have HST2 := Lib.hid hst
            have d1 : wr.cell? ⟨ba, oa + m, none⟩ = some (.int .i64 y) := d0
            clear d0 hst hoa
            go_wp2_with (at_builtin; (refine wpList_append_rd rfl _ _ 38 rfl H 3 i0 (.int .i64 0) 1 8 Try.underlying38 hi hz0 hz1 hz2 rfl (by decide) (.slice az m cz) m (((ordK false x2).take m).map (Value.int .i64)) rfl (World.ownsRow.alloc I.out.row _) _ 1 [.int .i64 y] rfl (RdS.new (by first | rfl | (simp; done)) rfl) (by simp [Value.oneCell']) (by unfold maxLen; omega) (by omega) (by (first | (with_reducible assumption) | omega | (simp only [World.size_alloc, World.size_setCell, World.size_drew, World.heap_drewN]; omega) | (simp; done) | (simp; omega))) ?_; intro az' cz' w4 hown hgrow hat))
            have I4 := Lib.hid (HST2.out ▸ I.out.app HHS.out hown hgrow hat)
            go_roundw
            case rel => exact ⟨m + 1, az', cz', by omega, by go_num, rfl, I4⟩
            case measure => (simp [intOf]; omega)
          · have HST2 := Lib.hid hst
            have d1 : wr.cell? ⟨ba, oa + m, none⟩ = some (.int .i64 y) := d0
            have h2b : (x0 == 2) = false := by rw [beq_eq_false_iff_ne]; exact h2
            clear d0 hst hoa h2
            go_wp2_with (at_builtin; (refine wpList_append_rd rfl _ _ 38 rfl H 3 i0 (.int .i64 0) 1 8 Try.underlying38 hi hz0 hz1 hz2 rfl (by decide) (.slice az m cz) m (((ordK false x2).take m).map (Value.int .i64)) rfl (World.ownsRow.alloc I.out.row _) _ 1 [.int .i64 y] rfl (RdS.new (by first | rfl | (simp; done)) rfl) (by simp [Value.oneCell']) (by unfold maxLen; omega) (by omega) (by (first | (with_reducible assumption) | omega | (simp only [World.size_alloc, World.size_setCell, World.size_drew, World.heap_drewN]; omega) | (simp; done) | (simp; omega))) ?_; intro az' cz' w4 hown hgrow hat))
            have I4 := Lib.hid (HST2.out ▸ I.out.app HHS.out hown hgrow hat)
            go_roundw
            case rel => exact ⟨m + 1, az', cz', by omega, by go_num, rfl, I4⟩
            case measure => (simp [intOf]; omega)
        · obtain rfl : m = x2.length := by omega
          have hall : (ordK sw x2).take x2.length = ordK sw x2 := List.take_of_length_le (by rw [ordK_len]; exact Nat.le_refl _)
          rw [hall] at I
          obtain ⟨L, hL⟩ : ∃ L, (ps.take k).map (turnX ok) = L := ⟨_, rfl⟩
          have hLL : L.length = k := by rw [← hL]; simp; omega
          rw [hL] at HST HP
          have HP2 := Lib.hid (HP.out.fr I.out.fr)
          have HOW : Hid (wr.ownsRow (w.heap.size + 3) 121 3 (.slice ao k co) k (pcells L us)) := Lib.hid (by have := HP2.out.own; rw [hLL] at this; exact this)
          have HB1' := Lib.hid (HB1.out.fr I.out.fr)
          have HB2' := Lib.hid (HB2.out.fr I.out.fr)
          have HB3' := Lib.hid (HB3.out.fr I.out.fr)
          have HFW' := Lib.hid (HFW.out.trans I.out.fr)
          have F1' := HB1'.out.facts
          have F3' := HB3'.out.facts
          have hrow := World.ownsRow.lt HP.out.own
          have HROW := Lib.hid hrow
          have HLL := Lib.hid hLL
          clear hall hL hLL BX hrow F1 F3
          go_wp2_with (at_builtin; (refine wpList_append_rd rfl _ _ 25 rfl (w.heap.size + 3) 121 j0 (.agg #[.int .i64 0, .int .u8 0, .slice none 0 0]) 3 40 Try.underlying25 kj jz0 jz1 jz2 rfl (by decide) (.slice ao k co) k (pcells L us) rfl (World.ownsRow.alloc HOW.out _) _ 1 [.int .i64 x0, .int .u8 (x1.toNat : Int), .slice az x2.length cz] rfl (RdS.new (by first | rfl | (simp; done)) rfl) (by simp [Value.oneCell']) (by unfold maxLen; omega) (by omega) (by (first | (with_reducible assumption) | omega | (simp only [World.size_alloc, World.size_setCell, World.size_drew, World.heap_drewN]; omega) | (simp; done) | (simp; omega))) ?_; intro ay cy w9 hown9 hgrow9 hat9; have HB39 := Box.gr (HB3'.out.alloc _) hgrow9 (fun e => by have := (HROW.out _ e).1; omega); have FB39 := HB39.facts))
          have hz9 := hgrow9.size
          simp only [World.size_alloc] at hz9 hat9
          have hat2 : (Value.slice ay (k + 1) cy).ownBlock = (Value.slice ao k co).ownBlock ∨ ∃ g, (Value.slice ay (k + 1) cy).ownBlock = some g ∧ wr.heap.size ≤ g := hat9.imp id fun h => ⟨_, h, by omega⟩
          have hU : IntsO wr (w.heap.size + 3) (.slice az x2.length cz) (ordK sw x2) := by
            have := I.out.row
            unfold IntsO
            rw [ordK_len]
            exact owns_lo this (by omega)
          have hau : Apart (.slice az x2.length cz) (.slice ao k co) := fun g e1 e2 => by
            have := I.out.nb g e1
            have := (HROW.out g e2).2
            omega
          have hP9 := Prd.more (x := ⟨x0, x1, ordK sw x2⟩) (u := .slice az x2.length cz) HP2.out hU hau rfl (by rw [HLL.out]; exact hown9) (fun z ks hz haz => World.ownsRow.kept (owns_fr hz (show Fr wr _ by repeat (first | (with_reducible exact Fr.refl _) | (with_reducible assumption) | (with_reducible refine Fr.drewN ?_ _) | (with_reducible refine Fr.drew ?_) | (with_reducible refine Fr.alloc ?_ _) | (with_reducible refine Fr.setCell ?_ (by (first | (with_reducible assumption) | omega | (simp only [World.size_alloc, World.size_setCell, World.size_drew, World.heap_drewN]; omega) | (simp; done) | (simp; omega))) _) | (with_reducible refine Fr.trans ?_ (by with_reducible assumption))))) hgrow9 (Apart.ne haz)) hat2
          have hPW9 := HPW.out.snoc (u := .slice az x2.length cz) (fun q hq g e1 e2 => by
            have := I.out.nb g e2
            have := (World.ownsRow.lt (HP.out.kid q (by rw [← HP.out.len]; exact hq)).1 g e1).2
            omega)
          have hB19 := Box.gr (HB1'.out.alloc _) hgrow9 (fun e => by have := (HROW.out _ e).1; omega)
          have hB29 := Box.gr (HB2'.out.alloc _) hgrow9 (fun e => by have := (HROW.out _ e).1; omega)
          have hW9 : Fr w w9 := Fr.app (HFW'.out.trans (show Fr wr _ by repeat (first | (with_reducible exact Fr.refl _) | (with_reducible assumption) | (with_reducible refine Fr.drewN ?_ _) | (with_reducible refine Fr.drew ?_) | (with_reducible refine Fr.alloc ?_ _) | (with_reducible refine Fr.setCell ?_ (by (first | (with_reducible assumption) | omega | (simp only [World.size_alloc, World.size_setCell, World.size_drew, World.heap_drewN]; omega) | (simp; done) | (simp; omega))) _) | (with_reducible refine Fr.trans ?_ (by with_reducible assumption))))) hgrow9 HROW.out (by omega)
          go_roundw
          case rel => exact ⟨k + 1, ay, cy, _, by omega, by go_num, Lib.hid (hB19.other (by show _ ≠ w.heap.size + 1 + 1; omega) _), Lib.hid (hB29.other (by show _ ≠ w.heap.size + 1 + 1; omega) _), Lib.hid (by first | exact HB39.set_to (by simp) | exact (HB39.set 0 _)), Lib.hid (by rw [HST.out]; exact Prd.set hP9 (by show w.heap.size + 1 + 1 < _; omega) _), Lib.hid hPW9, Lib.hid (hW9.setCell (by show w.heap.size ≤ w.heap.size + 1 + 1; omega) _), by simp; omega⟩
          case measure => (simp [intOf]; omega)
    · obtain rfl : k = ps.length := by omega
      have F2 := HB2.out.facts
      have HP2 := HP.out
      rw [List.take_of_length_le (Nat.le_refl _), ← HTP.out] at HP2
      have HP3 := Lib.hid HP2
      clear HP2
      go_wp2_with fail
      refine bodyPost_ret (v := .agg #[.slice ao ps.length co]) (by simp [results, Try.results50, go_sem, *]) rfl ?_
      exact ⟨_, us, rfl, (Prd.set HP3.out (by show w.heap.size + 1 < w.heap.size + 3; omega) _).lo (by omega), HPW.out, HFW.out.setCell (by show w.heap.size ≤ w.heap.size + 1; omega) _⟩
end Go.Proofs.Ytjgghiniajmfjaa
