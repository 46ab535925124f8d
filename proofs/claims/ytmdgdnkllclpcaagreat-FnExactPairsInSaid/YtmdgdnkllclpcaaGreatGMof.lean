/- Texts in one: Nest2, NParcelS, ParP, Wlk, Own, Mof. -/
import Derived.Test.YtmdgdnkllclpcaaGreatGNest
import Derived.Test.YtmdgdnkllclpcaaGreatGOParcel
import Derived.Deep.QuietTactic
import Derived.BigQuiet
import Derived.Deep.RegionHeld3
import Derived.Test.YtmdgdnkllclpcaaGreatGApp
import Derived.Test.YtmdgdnkllclpcaaGreatGSum
import Derived.Test.YtmdgdnkllclpcaaGreatGQfl
import Derived.Test.YtmdgdnkllclpcaaGreatGTFilter
import Derived.Test.YtmdgdnkllclpcaaGreatGVis
import Derived.Test.YtmdgdnkllclpcaaGreatGPth2
import Derived.Test.YtmdgdnkllclpcaaGreatGPutE
import Derived.Deep.RegionLaw
import Derived.Shelf.Abstract
/- Rows whose elements hold rows: one element more, one element turned. No condition. -/
namespace Go.Proofs.YtmdgdnkllclpcaaGreat
open Go.RowKit
set_option linter.unusedVariables false
set_option linter.unusedSimpArgs false
theorem flatten_set {sz : Nat} : ∀ {us : List (List Value)}, (∀ u ∈ us, u.length = sz) → ∀ (k j : Nat) u c, us[k]? = some u → j < sz → us.flatten.set (k * sz + j) c = (us.set k (u.set j c)).flatten
  | [], _, k, j, u, c, h, _ => by simp at h
  | a :: us, hl, k, j, u, c, h, hj => by
    have ha : a.length = sz := hl a (by simp)
    rw [List.flatten_cons]
    cases k with
    | zero =>
      simp at h
      subst h
      rw [Nat.zero_mul, Nat.zero_add, List.set_append_left _ _ (by omega)]
      simp
    | succ k =>
      rw [List.set_append_right _ _ (by rw [ha, Nat.add_mul]; omega), ha, show (k + 1) * sz + j - sz = k * sz + j by rw [Nat.add_mul]; omega]
      rw [flatten_set (fun u hu => hl u (by simp [hu])) k j u c (by simpa using h) hj]
      simp
theorem set_mid' {α : Type} (A B : List α) (k : Nat) (x y : α) (hA : A.length = k) : (A ++ y :: B).set k x = (A ++ [x]) ++ B := by
  subst hA
  rw [List.set_append_right _ _ (Nat.le_refl _), Nat.sub_self]
  simp
theorem mid_at {α : Type} [Inhabited α] (A B : List α) (k : Nat) (y : α) (hA : A.length = k) : nAt (A ++ y :: B) k = y := by
  subst hA
  simp [nAt, List.getD]
theorem grown_cell {w w' : World} {row : Option Nat} (hg : w.grownBy w' row) {b : Nat} (hb : b < w.heap.size) (hne : row ≠ some b) : ∀ o, w'.cell? ⟨b, o, none⟩ = w.cell? ⟨b, o, none⟩ := by
  cases row with
  | none => exact ((Span.of_gr (lo := 0) (hi := 0) hg (fun k hk => by cases hk)).blk b hb (.inr (Nat.zero_le _))).1
  | some g => exact ((Span.of_gr (lo := g) (hi := g + 1) hg (fun k hk => by cases hk; omega)).blk b hb (by have : b ≠ g := fun e => hne (by rw [e]); omega)).1
theorem RdS.move {w w' : World} {ao : Option Addr} {sz n cap b : Nat} {xs : List Value} (h : RdS w sz (.slice ao n cap) n xs) (hb : 0 < n → ∃ o, ao = some ⟨b, o, none⟩) (hs : w.heap.size ≤ w'.heap.size) (hc : 0 < n → ∀ o, w'.cell? ⟨b, o, none⟩ = w.cell? ⟨b, o, none⟩) : RdS w' sz (.slice ao n cap) n xs := by
  obtain ⟨h1, ao', cap', hv, h2, h3, h4⟩ := h
  cases hv
  refine ⟨h1, ao, cap, rfl, h2, h3, fun hn => ?_⟩
  obtain ⟨b', o, he, hb', hcl⟩ := h4 hn
  obtain ⟨o2, he2⟩ := hb hn
  rw [he] at he2
  cases he2
  exact ⟨b, o, he, by omega, fun j hj => (hc hn _).trans (hcl j hj)⟩
section
variable {α : Type} {E : World → Nat → Nat → List Value → α → Prop} {T : TypeId} {sz : Nat} {w : World} {lo hi : Nat} {v : Value} {xs : List α}
/-- An element more: behind an append of its cells. -/
theorem NestW.app (hE : ∀ {w w' l h u x a b}, E w l h u x → Span a b w w' → (h ≤ a ∨ b ≤ l) → E w' l h u x) (h : NestW E T sz w lo hi v xs) :
    ∃ ys : List Value, OwW w lo hi T sz v xs.length ys ∧ ∀ (v' : Value) (w' w'' : World) (u : List Value) (x : α) (l1 h1 hi' H : Nat), Fr w w' → w''.ownsRow lo T sz v' (xs.length + 1) (ys ++ u) → w'.grownBy w'' v.ownBlock → (v'.ownBlock = v.ownBlock ∨ v'.ownBlock = some H) →
      RowIn lo hi' v' → h1 ≤ H → h1 ≤ hi' → u.length = sz → E w' l1 h1 u x → lo ≤ l1 → hi ≤ l1 → l1 ≤ h1 → NestW E T sz w'' lo hi' v' (xs ++ [x]) := by
  obtain ⟨us, los, his, b1, b2, b3, b4⟩ := h
  rw [List.append_nil] at b2
  refine ⟨us.flatten, b2, fun v' w' w'' u x l1 h1 hi' H hf ho hg hat c2 c1 c3' hu he d1 d2 d3 => ?_⟩
  have hin := b2.2
  have sp : ∀ l h, (∀ g, v.ownBlock = some g → g < l ∨ h ≤ g) → ∀ u x, E w' l h u x → E w'' l h u x := by
    intro l h hd u x he
    cases hv : v.ownBlock with
    | none => rw [hv] at hg; exact hE he (Span.of_gr (lo := h) (hi := h) hg (fun k hk => by cases hk)) (.inl (Nat.le_refl _))
    | some g =>
      rw [hv] at hg
      exact hE he (Span.of_gr (lo := g) (hi := g + 1) hg (fun k hk => by cases hk; omega)) (by have := hd g hv; omega)
  refine ⟨us ++ [u], fun k => if k = xs.length then l1 else los k, fun k => if k = xs.length then h1 else his k, by simp [b1], ⟨?_, ?_⟩, fun k u' x' hu' hx' => ?_, fun j k hjk hk => ?_⟩
  · simpa [b1] using ho
  · exact c2
  · by_cases hk : k = xs.length
    · subst hk
      rw [List.getElem?_append_right (by omega), b1, Nat.sub_self] at hu'
      rw [List.getElem?_append_right (by omega), Nat.sub_self] at hx'
      simp at hu' hx'
      subst hu' hx'
      simp only [if_true]
      refine ⟨hu, sp _ _ (fun g hg => by have := hin g hg; omega) _ _ he, d1, d3, by omega, fun g hg => ?_⟩
      rcases hat with e | e
      · rw [e] at hg; have := hin g hg; omega
      · rw [e] at hg; cases hg; omega
    · have hk2 : k < xs.length := by
        have := (List.getElem?_eq_some_iff.1 hx').1
        simp at this
        omega
      rw [List.getElem?_append_left (by omega)] at hu' hx'
      simp only [if_neg hk]
      obtain ⟨c1', c2', c3, c4, c5, c6⟩ := b3 k u' x' hu' hx'
      refine ⟨c1', sp _ _ c6 _ _ (hE c2' (Span.of_fr (lo := his k) (hi := his k) hf) (.inl (Nat.le_refl _))), c3, c4, by omega, fun g hg => ?_⟩
      rcases hat with e | e
      · rw [e] at hg; exact c6 g hg
      · rw [e] at hg; cases hg; omega
  · simp at hk
    simp only [if_neg (show ¬ j = xs.length by omega)]
    split
    · have huj : us[j]? = some (us[j]'(by omega)) := List.getElem?_eq_getElem _
      obtain ⟨e1, e2, e3, e4, e5, e6⟩ := b3 j _ _ huj (List.getElem?_eq_getElem (by omega))
      omega
    · exact b4 j k hjk (by omega)
theorem NestW.rowIn (h : NestW E T sz w lo hi v xs) : RowIn lo hi v := by obtain ⟨us, los, his, h1, h2, h3, h4⟩ := h; exact h2.2
/-- One element of an owned row: its cells, and what is left when they or its blocks turn. -/
theorem NestW.turn [Inhabited α] (hE : ∀ {w w' l h u x a b}, E w l h u x → Span a b w w' → (h ≤ a ∨ b ≤ l) → E w' l h u x) (h : NestW E T sz w lo hi v xs) {k : Nat} (hk : k < xs.length) (hs : 0 < sz) :
    ∃ g cap, v = .slice (some ⟨g, 0, none⟩) xs.length cap ∧ lo ≤ g ∧ g < hi ∧ g < w.heap.size ∧ ∃ u l1 h1, u.length = sz ∧ E w l1 h1 u (nAt xs k) ∧ lo ≤ l1 ∧ h1 ≤ hi ∧ (g < l1 ∨ h1 ≤ g) ∧
      (∀ j c, j < sz → u[j]? = some c → w.cell? ⟨g, k * sz + j, none⟩ = some c ∧ w.frozen? ⟨g, k * sz + j, none⟩ = false) ∧
      (∀ j c x', j < sz → E w l1 h1 (u.set j c) x' → NestW E T sz (w.setCell ⟨g, k * sz + j, none⟩ c) lo hi v (xs.set k x')) ∧
      (∀ w' x', Span l1 h1 w w' → E w' l1 h1 u x' → NestW E T sz w' lo hi v (xs.set k x')) := by
  obtain ⟨us, los, his, b1, b2, b3, b4⟩ := h
  rw [List.append_nil] at b2
  have hu : us[k]? = some us[k] := List.getElem?_eq_getElem (by omega)
  have hx := nAt_get hk
  obtain ⟨c1, c2, c3, c4, c5, c6⟩ := b3 k _ _ hu hx
  have hlen := NestP.lens b1 b3
  rcases owns_shape b2.1 with ⟨rfl, hn, _⟩ | ⟨g, cap, rfl, hgr⟩
  · omega
  have hg := b2.2 g rfl
  have hkk : ∀ j, j < sz → k * sz + j < xs.length * sz := fun j hj => by
    have := Nat.mul_le_mul_right sz (show k + 1 ≤ xs.length by omega)
    rw [Nat.add_mul] at this
    omega
  refine ⟨g, cap, rfl, hg.1, hg.2, (b2.1.lt g rfl).2, us[k], los k, his k, c1, c2, c3, c5, c6 g rfl, fun j c hj hc => ⟨?_, b2.1.frozenAt _⟩, fun j c x' hj he => ?_, fun w' x' sp he => ?_⟩
  · have := b2.1.cellAt (k * sz + j) (hkk j hj)
    rw [this, flatten_at hlen k _ hu j hj]
    exact hc
  · have hst := b2.1.stored (k * sz + j) c
    have sp : Span g (g + 1) w (w.setCell ⟨g, k * sz + j, none⟩ c) := Span.of_gr hst.2 (fun k hk => by cases hk; omega)
    rw [flatten_set hlen k j _ c hu hj] at hst
    refine ⟨us.set k (us[k].set j c), los, his, by simp [b1], ⟨?_, b2.2⟩, fun i u' x1 hu' hx' => ?_, fun i j hij hj => b4 i j hij (by simpa using hj)⟩
    · simpa using hst.1
    · by_cases hik : k = i
      · subst hik
        rw [List.getElem?_set_self (by omega)] at hu' hx'
        cases hu'; cases hx'
        exact ⟨by simpa using c1, hE he sp (by have := c6 g rfl; omega), c3, c4, c5, c6⟩
      · rw [List.getElem?_set_ne hik] at hu' hx'
        obtain ⟨e1, e2, e3, e4, e5, e6⟩ := b3 i _ _ hu' hx'
        exact ⟨e1, hE e2 sp (by have := e6 g rfl; omega), e3, e4, e5, e6⟩
  · refine ⟨us, los, his, by simp [b1], ?_, fun i u' x1 hu' hx' => ?_, fun i j hij hj => b4 i j hij (by simpa using hj)⟩
    · have h1 := sp.owns b2.1 (fun g' hg' => by cases hg'; have := c6 g rfl; omega)
      refine ⟨by simpa using h1, by simpa using b2.2⟩
    · by_cases hik : k = i
      · subst hik
        rw [List.getElem?_set_self (by omega)] at hx'
        cases hx'
        rw [hu] at hu'; cases hu'
        exact ⟨c1, he, c3, c4, c5, c6⟩
      · rw [List.getElem?_set_ne hik] at hx'
        obtain ⟨e1, e2, e3, e4, e5, e6⟩ := b3 i _ _ hu' hx'
        refine ⟨e1, hE e2 sp ?_, e3, e4, e5, e6⟩
        have hil : i < xs.length := (List.getElem?_eq_some_iff.1 hx').1
        rcases Nat.lt_or_gt_of_ne hik with h | h
        · have := b4 k i h hil; omega
        · have := b4 i k h hk; omega
end
end Go.Proofs.YtmdgdnkllclpcaaGreat

/- Slices of impl.Parcel: what they read as; the laws' helpers. (Printed by mk_nest.py.) No condition but the sizes that the reading gives. -/
namespace Go.Proofs.YtmdgdnkllclpcaaGreat
open Go.RowKit
set_option linter.unusedVariables false
set_option linter.unusedSimpArgs false

instance : Inhabited ParcelD := ⟨⟨0, []⟩⟩
def ParcelE (w : World) (u : List Value) (d : ParcelD) : Prop := ∃ a, u = [.int .i64 d.f0, a] ∧ WalksR w a d.f1
def ParcelEW (w : World) (lo hi : Nat) (u : List Value) (d : ParcelD) : Prop := ∃ ao cap, u = [.int .i64 d.f0, .slice ao d.f1.length cap] ∧ WalksW w lo hi (.slice ao d.f1.length cap) d.f1
theorem ParcelE.fr {w w' : World} {u : List Value} {d : ParcelD} (h : ParcelE w u d) (hf : Fr w w') : ParcelE w' u d := by obtain ⟨a, h1, h2⟩ := h; exact ⟨a, h1, h2.fr hf⟩
theorem ParcelEW.span {w w' : World} {lo hi : Nat} {u : List Value} {d : ParcelD} {a b : Nat} (h : ParcelEW w lo hi u d) (s : Span a b w w') (hd : hi ≤ a ∨ b ≤ lo) : ParcelEW w' lo hi u d := by obtain ⟨x, y, h1, h2⟩ := h; exact ⟨x, y, h1, h2.span s hd⟩
theorem ParcelEW.ab {w w' : World} {lo hi : Nat} {u : List Value} {d : ParcelD} (h : ParcelEW w lo hi u d) (s : Ab lo w w') : ParcelEW w' lo hi u d := by obtain ⟨x, y, h1, h2⟩ := h; exact ⟨x, y, h1, OwW.ab h2 s⟩
theorem ParcelEW.rd {w : World} {lo hi : Nat} {u : List Value} {d : ParcelD} (h : ParcelEW w lo hi u d) : ParcelE w u d := by obtain ⟨x, y, h1, h2⟩ := h; exact ⟨_, h1, h2.rd⟩
def ParcelSR (w : World) (v : Value) (xs : List (ParcelD)) : Prop := NestR ParcelE 2 w v xs
def ParcelSW (w : World) (lo hi : Nat) (v : Value) (xs : List (ParcelD)) : Prop := NestW ParcelEW 155 2 w lo hi v xs
theorem ParcelSR.fr {w w' : World} {v : Value} {xs : List (ParcelD)} (h : ParcelSR w v xs) (hf : Fr w w') : ParcelSR w' v xs := NestR.fr (E := ParcelE) (fun a b => ParcelE.fr a b) h hf
theorem ParcelSW.fr {w w' : World} {lo hi : Nat} {v : Value} {xs : List (ParcelD)} (h : ParcelSW w lo hi v xs) (hf : Fr w w') : ParcelSW w' lo hi v xs := NestP.fr (E := ParcelEW) (fun a b c => ParcelEW.span a b c) h hf
theorem ParcelSW.span {w w' : World} {lo hi : Nat} {v : Value} {xs : List (ParcelD)} (h : ParcelSW w lo hi v xs) {a b : Nat} (s : Span a b w w') (hd : hi ≤ a ∨ b ≤ lo) : ParcelSW w' lo hi v xs := NestP.span (E := ParcelEW) (fun a b c => ParcelEW.span a b c) h s hd
theorem ParcelSW.ab {w w' : World} {lo hi : Nat} {v : Value} {xs : List (ParcelD)} (h : ParcelSW w lo hi v xs) (s : Ab lo w w') : ParcelSW w' lo hi v xs := NestP.ab (E := ParcelEW) (fun a b => ParcelEW.ab a b) h s
theorem ParcelSW.rd {w : World} {lo hi : Nat} {v : Value} {xs : List (ParcelD)} (h : ParcelSW w lo hi v xs) : ParcelSR w v xs := NestP.rd (E := ParcelEW) (E' := ParcelE) (fun a => ParcelEW.rd a) h
theorem ParcelSW.val {w : World} {lo hi : Nat} {v : Value} {xs : List (ParcelD)} (h : ParcelSW w lo hi v xs) : ∃ ao cap, v = .slice ao xs.length cap := NestW.val h
theorem ParcelSR.one {w : World} {v : Value} {xs : List (ParcelD)} (h : ParcelSR w v xs) :
    ∃ ao b o cap, v = .slice ao xs.length cap ∧ xs.length ≤ cap ∧ cap ≤ 9223372036854775807 ∧ (0 < xs.length → ao = some ⟨b, o, none⟩ ∧ b < w.heap.size ∧ ∀ k, k < xs.length → ∃ a, WalksR w a (nAt xs k).f1 ∧ w.cell? ⟨b, o + k * 2, none⟩ = some (.int .i64 (nAt xs k).f0) ∧ w.cell? ⟨b, o + k * 2 + 1, none⟩ = some (a)) := by
  obtain ⟨ao, b, o, cap, h1, h2, h3, h4⟩ := NestR.one h
  refine ⟨ao, b, o, cap, h1, h2, h3, fun hn => ⟨(h4 hn).1, (h4 hn).2.1, fun k hk => ?_⟩⟩
  obtain ⟨u, _, ⟨a, hu, ha⟩, hc⟩ := (h4 hn).2.2 k hk
  rw [hu] at hc
  exact ⟨a, ha, by simpa using hc 0 _ (by omega) rfl, by simpa using hc 1 _ (by omega) rfl⟩
theorem info_Parcel : (Tryz.prog.info? 155).map (fun i => (i.zero, i.size, i.bytes)) = some (some (.agg #[.int .i64 0, .slice none 0 0]), 2, 32) := by kernel_rfl
def ParcelSBulk (xs : List (ParcelD)) : Nat := nBulk ParcelD.bulk xs
def ParcelSOk (xs : List (ParcelD)) : Prop := ∀ x ∈ xs, ParcelD.okSize x
set_option maxHeartbeats 1000000 in
theorem szParcelS_any (a : Value) (xs : List (ParcelD)) (left : Int) (w : World) (ha : ParcelSR w a xs) (hs : ParcelSOk xs) (h0 : 0 ≤ left) (h1 : left ≤ 1048576) :
    Calls Tryz.prog 111 #[a, .int .i64 left] w fun e w' => e = .returned (.int .i64 (szR left (ParcelSBulk xs))) ∧ Fr w w' := by
  obtain ⟨ao, ba, oa, ca, rfl, hca, hma, fa⟩ := ha.one
  clear ha
  by_cases hl : (xs.length : Int) ≤ left
  · go_enter Tryz.func111, Tryz.ntmps111
    go_wp2
    go_loopw [1, 5] (fun l i wr => ∃ k : Nat, k ≤ xs.length ∧ i = .int .i64 k ∧ l = .int .i64 (left - xs.length - nSum ParcelD.bulk xs k) ∧ (nSum ParcelD.bulk xs k : Int) ≤ left - xs.length ∧ Fr w wr) (fun _ i _ => xs.length - (intOf i).toNat)
    case atStart => exact ⟨0, Nat.zero_le _, rfl, by simp [nSum], by simp [nSum]; omega, Fr.refl _⟩
    case round =>
      obtain ⟨k, hk, rfl, rfl, hj, hfr⟩ := hrel
      by_cases hlt : k < xs.length
      · obtain ⟨rfl, hba, fa⟩ := fa (by omega)
        obtain ⟨ac, ra, ga⟩ := fa k hlt
        obtain ⟨x, hx⟩ : ∃ x, nAt xs k = x := ⟨_, rfl⟩
        have c0 : wr.cell? ⟨ba, oa + k * 2, none⟩ = some (.int .i64 x.f0) := (hfr.cell (p := ⟨ba, _, none⟩) hba).trans (by first | exact ga.1 | (rw [← hx]; exact ga.1))
        have c1 : wr.cell? ⟨ba, oa + k * 2 + 1, none⟩ = some (ac) := (hfr.cell (p := ⟨ba, _, none⟩) hba).trans (by first | exact ga.2 | (rw [← hx]; exact ga.2))
        rw [hx] at ra
        obtain ⟨aoc, capc, rfl, _⟩ := RdS.val ra
        have hok : ParcelD.okSize x := hx ▸ nAt_mem hs k hlt
        have hsu := nSum_succ ParcelD.bulk xs k hlt
        rw [hx] at hsu
        have hle := nSum_le ParcelD.bulk xs (k + 1)
        have HSU := Lib.hid hsu
        clear hsu fa hx ga
        obtain ⟨bk, hbk⟩ : ∃ bk, ParcelD.bulk x = bk := ⟨_, rfl⟩
        rw [hbk] at HSU
        have HBK := Lib.hid hbk
        clear hbk
        by_cases hr : (bk : Int) ≤ left - xs.length - nSum ParcelD.bulk xs k
        · have hz := szR_ok hr
          go_wp2_with (go_at_call 159; refine (szParcel_w _ x _ _ ⟨_, rfl, (ra.fr (by exact Qf))⟩ hok (by omega) (by omega)).mono ?_; rintro e w1 ⟨rfl, hf1⟩; rw [HBK.out])
          go_roundw
          case rel => exact ⟨k + 1, by omega, by go_num, by rw [HSU.out]; go_num, by rw [HSU.out]; omega, by exact Qf⟩
          case measure => (simp [intOf]; omega)
        · have hz := szR_no hr
          go_wp2_with (go_at_call 159; refine (szParcel_w _ x _ _ ⟨_, rfl, (ra.fr (by exact Qf))⟩ hok (by omega) (by omega)).mono ?_; rintro e w1 ⟨rfl, hf1⟩; rw [HBK.out])
          go_ret
          exact ⟨ret_int (by rw [szR_no]; unfold ParcelSBulk nBulk; have := HSU.out; omega), by exact Qf⟩
      · clear fa
        obtain rfl : k = xs.length := by omega
        go_wp2
        go_ret
        exact ⟨ret_int (by rw [szR_ok]; · unfold ParcelSBulk nBulk; omega
                           · unfold ParcelSBulk nBulk; omega), by exact Qf⟩
  · go_enter Tryz.func111, Tryz.ntmps111
    go_wp2
    go_ret
    exact ⟨ret_int (by rw [szR_no]; unfold ParcelSBulk nBulk; omega), by exact Qf⟩
set_option maxHeartbeats 1000000 in
theorem eqParcelS_same (a b : Value) (xs : List (ParcelD)) (w : World) (ha : ParcelSR w a xs) (hb : ParcelSR w b xs) :
    Calls Tryz.prog 105 #[a, b] w fun e w' => e = .returned (.bool true) ∧ Fr w w' := by
  obtain ⟨ao, ba, oa, ca, rfl, hca, hma, fa⟩ := ha.one
  obtain ⟨bo, bb, ob, cb, rfl, hcb, hmb, fb⟩ := hb.one
  clear ha hb
  go_enter Tryz.func105, Tryz.ntmps105
  go_wp2
  go_loopw [5] (fun i wr => ∃ k : Nat, k ≤ xs.length ∧ i = .int .i64 k ∧ Fr w wr) (fun i _ => xs.length - (intOf i).toNat)
  case atStart => exact ⟨0, Nat.zero_le _, rfl, Fr.refl _⟩
  case round =>
    obtain ⟨k, hk, rfl, hfr⟩ := hrel
    by_cases hlt : k < xs.length
    · obtain ⟨rfl, hba, fa⟩ := fa (by omega)
      obtain ⟨rfl, hbb, fb⟩ := fb (by omega)
      obtain ⟨ac, ra, ga⟩ := fa k hlt
      obtain ⟨ae, rb, gb⟩ := fb k hlt
      obtain ⟨x, hx⟩ : ∃ x, nAt xs k = x := ⟨_, rfl⟩
      have c0 : ∀ w', Sf wr w' → w'.cell? ⟨ba, oa + k * 2, none⟩ = some (.int .i64 x.f0) := fun w' hf => ((hfr.trans hf.out).cell (p := ⟨ba, _, none⟩) hba).trans (by first | exact ga.1 | (rw [← hx]; exact ga.1))
      have c1 : ∀ w', Sf wr w' → w'.cell? ⟨ba, oa + k * 2 + 1, none⟩ = some (ac) := fun w' hf => ((hfr.trans hf.out).cell (p := ⟨ba, _, none⟩) hba).trans (by first | exact ga.2 | (rw [← hx]; exact ga.2))
      have e0 : ∀ w', Sf wr w' → w'.cell? ⟨bb, ob + k * 2, none⟩ = some (.int .i64 x.f0) := fun w' hf => ((hfr.trans hf.out).cell (p := ⟨bb, _, none⟩) hbb).trans (by first | exact gb.1 | (rw [← hx]; exact gb.1))
      have e1 : ∀ w', Sf wr w' → w'.cell? ⟨bb, ob + k * 2 + 1, none⟩ = some (ae) := fun w' hf => ((hfr.trans hf.out).cell (p := ⟨bb, _, none⟩) hbb).trans (by first | exact gb.2 | (rw [← hx]; exact gb.2))
      rw [hx] at ra rb
      have RA := Lib.hid (RdS.fr ra hfr)
      have RB := Lib.hid (RdS.fr rb hfr)
      obtain ⟨aoc, capc, rfl, _⟩ := RdS.val ra
      obtain ⟨aoe, cape, rfl, _⟩ := RdS.val rb
      clear fa fb hx ga gb ra rb
      go_wp2_with fail
      go_region_held3 (fun w' => Sf wr w') ((refine Sf.mk ?_; repeat (first | (with_reducible exact Fr.refl _) | (with_reducible assumption) | (with_reducible refine Fr.drewN ?_ _) | (with_reducible refine Fr.drew ?_) | (with_reducible refine Fr.alloc ?_ _) | (with_reducible refine Fr.setCell ?_ (by exact Qz) _) | (with_reducible refine Fr.trans ?_ (by with_reducible assumption))))) (first | (go_at_call 158; refine (eqParcel_same _ _ x _ ⟨_, rfl, (RdS.fr RA.out (by exact Qf))⟩ ⟨_, rfl, (RdS.fr RB.out (by exact Qf))⟩).mono ?_; rintro e w2 ⟨rfl, hf1⟩))
      go_wp2_with fail
      go_roundw
      case rel => exact ⟨k + 1, by omega, by go_num, by exact Qf⟩
      case measure => (simp [intOf]; omega)
    · clear fa fb
      go_wp2
      go_ret
      exact ⟨rfl, hfr⟩
set_option maxHeartbeats 1000000 in
set_option maxRecDepth 100000 in
theorem toParcelS_w (a : Value) (xs : List (ParcelD)) (w : World) (ha : ParcelSR w a xs) (hn : ParcelSBulk xs ≤ 1048576) :
    Calls Tryz.prog 115 #[a] w fun e w' => ∃ ao cap, e = .returned (.slice ao xs.length cap) ∧ ParcelSW w' w.heap.size w'.heap.size (.slice ao xs.length cap) xs ∧ Fr w w' := by
  obtain ⟨ao, ba, oa, ca, rfl, hca, hma, fa⟩ := ha.one
  clear ha
  have hn0 : xs.length ≤ 1048576 := by unfold ParcelSBulk nBulk at hn; omega
  have HN := Lib.hid hn
  clear hn
  obtain ⟨i0, hi, hz0, hz1, hz2⟩ := info_parts info_Parcel
  go_enter Tryz.func115, Tryz.ntmps115
  go_wp2_with (at_make; refine wpList_make_full _ rfl _ _ 70 rfl w.heap.size 155 i0 (.agg #[.int .i64 0, .slice none 0 0]) 2 Tryz.underlying70 hi hz0 hz1 _ _ _ _ xs.length rfl rfl rfl rfl (by rw [hz2]; omega) (by unfold maxLen; omega) (by omega) ?_; intro w1 hown hgrow)
  rw [show (madeCells (Value.cells (.agg #[.int .i64 0, .slice none 0 0])) (xs.length * 2)).toList = fillR xs (fun _ => []) [.int .i64 0, .slice none 0 0] 0 from made_fill xs (fun _ => []) [.int .i64 0, .slice none 0 0] 2 rfl (by omega)] at hown
  go_loopw [4] (fun i wr => ∃ k : Nat, k ≤ xs.length ∧ i = .int .i64 k ∧ NestP ParcelEW 155 2 wr w.heap.size wr.heap.size (.slice (some ⟨w.heap.size, 0, none⟩) xs.length xs.length) xs.length ((List.replicate (xs.length - k) [.int .i64 0, .slice none 0 0]).flatten) (xs.take k) ∧ Fr w wr) (fun i _ => xs.length - (intOf i).toNat)
  case atStart => exact ⟨0, Nat.zero_le _, rfl, NestP.none_yet (OwW.of_owns (by simpa [fillR] using hown)), (Fr.refl w).grown hgrow (by simp)⟩
  case round =>
    clear hown hgrow
    obtain ⟨k, hk, rfl, ho, hfr⟩ := hrel
    by_cases hlt : k < xs.length
    · obtain ⟨rfl, hba, fa⟩ := fa (by omega)
      obtain ⟨ac, ra, ga⟩ := fa k hlt
      obtain ⟨x, hx⟩ : ∃ x, nAt xs k = x := ⟨_, rfl⟩
      have hxl : x.f1.length ≤ 1048576 := by
        have h1 := nSum_succ ParcelD.bulk xs k hlt
        have h2 := nSum_le ParcelD.bulk xs (k + 1)
        have h3 := HN.out
        unfold ParcelSBulk nBulk at h3
        rw [hx] at h1
        have h4 : ParcelD.bulk x ≤ 1048576 := by omega
        clear h1 h2 h3 hx
        revert h4
        intro h4
        exact (by unfold ParcelD.bulk at *; omega)
      have c0 : wr.cell? ⟨ba, oa + k * 2, none⟩ = some (.int .i64 x.f0) := (hfr.cell (p := ⟨ba, _, none⟩) hba).trans (by first | exact ga.1 | (rw [← hx]; exact ga.1))
      have c1 : wr.cell? ⟨ba, oa + k * 2 + 1, none⟩ = some (ac) := (hfr.cell (p := ⟨ba, _, none⟩) hba).trans (by first | exact ga.2 | (rw [← hx]; exact ga.2))
      have HX := Lib.hid (take_next xs k hlt)
      rw [hx] at ra HX
      obtain ⟨aoc, capc, rfl, _⟩ := RdS.val ra
      have hkl : (xs.take k).length = k := by simp; omega
      have hsz := ho.block.2.2
      rw [show xs.length - k = (xs.length - (k + 1)) + 1 from by omega, List.replicate_succ, List.flatten_cons] at ho
      clear fa hx ga
      go_wp2_with (go_at_call 160; refine (toParcel_w _ x _ ⟨_, rfl, (ra.fr (by exact Qf))⟩ hxl).mono ?_; rintro e w2 ⟨aor, capr, rfl, hr2, hf1⟩; have p0 := NestP.fr (E := ParcelEW) (fun a b c => ParcelEW.span a b c) ho hf1; obtain ⟨g0, u0, d0⟩ := p0.spot (k * 2) (by omega); obtain ⟨g1, u1, d1⟩ := p0.spot (k * 2 + 1) (by omega))
      have p0 := NestP.fr (E := ParcelEW) (fun a b c => ParcelEW.span a b c) ho hf1
      have p1 := NestP.stored (E := ParcelEW) (fun a b c => ParcelEW.span a b c) p0 0 (.int .i64 x.f0) (by simp) (i := k * 2) (by omega)
      have p2 := NestP.stored (E := ParcelEW) (fun a b c => ParcelEW.span a b c) p1 1 (.slice aor x.f1.length capr) (by simp) (i := k * 2 + 1) (by omega)
      go_roundw
      case rel =>
        refine ⟨k + 1, by omega, by go_num, ?_, by exact Qf⟩
        rw [HX.out]
        have zf := hf1.size
        refine NestP.grow (l1 := wr.heap.size) (h1 := w2.heap.size) (u := [.int .i64 x.f0, .slice aor x.f1.length capr]) p2 rfl ?_ (by omega) (Nat.le_refl _) zf (by exact Qz)
        obtain ⟨_, _, hv, hr2⟩ := hr2; cases hv
        exact ⟨aor, capr, rfl, by change OwW _ _ _ _ _ _ _ _; (repeat (first | (with_reducible refine OwW.drewN ?_ _) | (with_reducible refine OwW.drew ?_) | (with_reducible refine OwW.alloc ?_ _) | (with_reducible refine OwW.set ?_ (by exact Qz) _) | (exact hr2)))⟩
      case measure => (simp [intOf]; omega)
    · clear fa
      obtain rfl : k = xs.length := by omega
      simp only [Nat.sub_self, List.replicate_zero, List.flatten_nil, List.take_length] at ho
      go_wp2
      go_ret
      exact ⟨_, _, rfl, ho, hfr⟩
def mkParcel (k : Int) (d : ParcelD) : ParcelD := ⟨(k), mkWalks (k + 1) d.f1.length⟩
def ParcelCnt1 (d : ParcelD) : Nat := 1 + 4 * d.f1.length
def mkParcelSs : Int → List ParcelD → List ParcelD
  | _, [] => []
  | k, d :: ds => mkParcel k d :: mkParcelSs (k + (ParcelCnt1 d : Int)) ds
theorem mkParcelSs_length : ∀ (k : Int) (ds : List ParcelD), (mkParcelSs k ds).length = ds.length
  | _, [] => rfl
  | k, d :: ds => by rw [mkParcelSs, List.length_cons, List.length_cons, mkParcelSs_length]
def ParcelSCnt (ds : List ParcelD) : Nat := (ds.map ParcelCnt1).sum
theorem ParcelSCnt_cons (d : ParcelD) (ds : List ParcelD) : ParcelSCnt (d :: ds) = ParcelCnt1 d + ParcelSCnt ds := by simp [ParcelSCnt]
theorem ParcelSCnt_ge (ds : List ParcelD) : ds.length ≤ ParcelSCnt ds := by
  induction ds with
  | nil => simp [ParcelSCnt]
  | cons d ds ih => rw [ParcelSCnt_cons, List.length_cons]; unfold ParcelCnt1; omega
theorem Parcel_drop {xs : List ParcelD} {k : Nat} (h : k < xs.length) : xs.drop k = nAt xs k :: xs.drop (k + 1) := by
  rw [List.drop_eq_getElem_cons h]
  simp [nAt, List.getD, List.getElem?_eq_getElem h]
theorem set_mid'' {α : Type} (A B : List α) (k : Nat) (x y : α) (hA : A.length = k) : (A ++ y :: B).set k x = A ++ x :: B := by
  rw [set_mid' A B k x y hA]; simp
theorem Span.setb' {lo hi q i : Nat} {a w : World} {v : Value} (h : Span lo hi a w) (h1 : lo ≤ q) (h2 : q < hi) : Span lo hi a (w.setCell ⟨q, i, none⟩ v) := h.trans (by
  refine ⟨rfl, rfl, rfl, by simp, fun k hk ho => ?_⟩
  exact heap_setCell_other w ⟨q, i, none⟩ k v (by show k ≠ q; omega))
theorem Span.wide {lo hi a b : Nat} {w w' : World} (h : Span a b w w') (h1 : lo ≤ a) (h2 : b ≤ hi) : Span lo hi w w' := ⟨h.os, h.tape, h.output, h.size, fun k hk ho => h.block k hk (by omega)⟩
set_option maxHeartbeats 2000000 in
set_option maxRecDepth 100000 in
theorem markParcelS_w (v : Value) (xs : List ParcelD) (k : Int) (lo hi : Nat) (w : World) (ha : ParcelSW w lo hi v xs) (h0 : 0 < k) (h1 : k + (ParcelSCnt xs : Int) ≤ 4611686018427387904) :
    Calls Tryz.prog 107 #[v, .int .i64 k] w fun e w' => e = .returned (.int .i64 (k + (ParcelSCnt xs : Int))) ∧ ParcelSW w' lo hi v (mkParcelSs k xs) ∧ Span lo hi w w' := by
  obtain ⟨ao, cap, rfl⟩ := ha.val
  have hxl : xs.length ≤ 4611686018427387904 := by have := ParcelSCnt_ge xs; omega
  have HA := Lib.hid ha
  clear ha
  go_enter Tryz.func107, Tryz.ntmps107
  go_wp2
  go_loopw [1, 5] (fun l i wr => ∃ (m : Nat) (Dn : List ParcelD) (kk : Int), m ≤ xs.length ∧ i = .int .i64 m ∧ l = .int .i64 kk ∧ Dn.length = m ∧ Hid (Dn ++ mkParcelSs kk (xs.drop m) = mkParcelSs k xs) ∧ kk + (ParcelSCnt (xs.drop m) : Int) = k + (ParcelSCnt xs : Int) ∧ 0 < kk ∧ Hid (ParcelSW wr lo hi (.slice ao xs.length cap) (Dn ++ xs.drop m)) ∧ Span lo hi w wr) (fun _ i _ => xs.length - (intOf i).toNat)
  case atStart => exact ⟨0, [], k, Nat.zero_le _, rfl, rfl, rfl, Lib.hid rfl, rfl, h0, Lib.hid HA.out, Span.refl _ _ _⟩
  case round =>
    clear HA
    obtain ⟨m, Dn, kk, hm, rfl, rfl, hdl, hd, hcn, hk0, HW, hsp⟩ := hrel
    by_cases hlt : m < xs.length
    · rw [Parcel_drop hlt] at hd hcn HW
      rw [mkParcelSs] at hd
      rw [ParcelSCnt_cons] at hcn
      have hdr : (xs.drop (m + 1)).length = xs.length - (m + 1) := List.length_drop
      generalize nAt xs m = x at hd hcn HW
      have hc1 : ParcelCnt1 x = 1 + 4 * x.f1.length := rfl
      rw [hc1] at hcn
      have HW0 : ParcelSW wr lo hi (.slice ao xs.length cap) (Dn ++ x :: xs.drop (m + 1)) := HW.out
      obtain ⟨g0, cp0, hv0, ga0, gb0, gc0, u0, l0, h0, ul0, ue0, ub0, uc0, ud0, uf0, ug0, uh0⟩ := NestW.turn (E := ParcelEW) (fun a b c => ParcelEW.span a b c) HW0 (k := m) (by simp; omega) (by omega)
      rw [show (Dn ++ x :: xs.drop (m + 1)).length = xs.length by simp; omega] at hv0
      cases hv0
      have HG := Lib.hid (show lo ≤ g0 ∧ g0 < hi from ⟨ga0, gb0⟩)
      rw [mid_at _ _ m _ (by omega)] at ue0
      obtain ⟨aow0, capw0, rfl, hr0⟩ := ue0
      have c0 : wr.cell? ⟨g0, m * 2, none⟩ = some (.int .i64 x.f0) := (uf0 0 _ (by omega) rfl).1
      have f0 : wr.frozen? ⟨g0, m * 2, none⟩ = false := (uf0 0 _ (by omega) rfl).2
      have n0 : ParcelSW (wr.setCell ⟨g0, m * 2, none⟩ (.int .i64 (kk))) lo hi (.slice (some ⟨g0, 0, none⟩) xs.length cap) ((Dn ++ ⟨x.f0, x.f1⟩ :: xs.drop (m + 1)).set m ⟨(kk), x.f1⟩) := ug0 0 (.int .i64 (kk)) ⟨(kk), x.f1⟩ (by omega) ⟨aow0, capw0, rfl, hr0⟩
      rw [set_mid'' _ _ m _ _ (by omega)] at n0
      have sp0 : Span lo hi w (wr.setCell ⟨g0, m * 2, none⟩ (.int .i64 (kk))) := hsp.setb' HG.out.1 HG.out.2
      have NQ0 := Lib.hid n0
      clear n0 uf0 ug0 uh0 hr0
      obtain ⟨g1, cp1, hv1, ga1, gb1, gc1, u1, l1, h1, ul1, ue1, ub1, uc1, ud1, uf1, ug1, uh1⟩ := NestW.turn (E := ParcelEW) (fun a b c => ParcelEW.span a b c) NQ0.out (k := m) (by simp; omega) (by omega)
      rw [show (Dn ++ ⟨(kk), x.f1⟩ :: xs.drop (m + 1)).length = xs.length by simp; omega] at hv1
      cases hv1
      rw [mid_at _ _ m _ (by omega)] at ue1
      obtain ⟨aow1, capw1, rfl, hr1⟩ := ue1
      have c1 : (wr.setCell ⟨g0, m * 2, none⟩ (.int .i64 (kk))).cell? ⟨g0, m * 2 + 1, none⟩ = some (.slice aow1 x.f1.length capw1) := (uf1 1 _ (by omega) rfl).1
      have HU1 := Lib.hid uh1
      have HR1 := Lib.hid hr1
      clear uf1 ug1 uh1 hr1
      go_wp2_with (go_at_call 21; refine (markWalkS_w _ x.f1 (kk + 1) l1 h1 _ HR1.out (by omega) (by omega)).mono ?_; rintro e w1 ⟨rfl, om, spw⟩; have zw := spw.size; (try simp only [World.size_setCell] at zw))
      have n1 := HU1.out w1 ⟨(kk), mkWalks (kk + 1) x.f1.length⟩ spw ⟨aow1, capw1, by simp [mkWalks_length], by simpa [mkWalks_length] using om⟩
      rw [set_mid'' _ _ m _ _ (by omega)] at n1
      have sp1 : Span lo hi w w1 := sp0.trans (Span.wide spw ub1 uc1)
      have NQ1 := Lib.hid n1
      clear n1
      go_wp2_with fail
      go_roundw
      case rel => exact ⟨m + 1, Dn ++ [⟨(kk), mkWalks (kk + 1) x.f1.length⟩], kk + (ParcelCnt1 x : Int), by omega, by go_num, by rw [hc1]; go_num, by simp [hdl], by have := hd.out; rw [List.append_assoc]; exact this, by rw [hc1]; omega, by rw [hc1]; omega, by have := NQ1.out; rw [List.append_assoc]; exact this, sp1⟩
      case measure => (simp [intOf]; omega)
    · obtain rfl : m = xs.length := by omega
      rw [List.drop_length] at hd hcn HW
      simp only [mkParcelSs, List.append_nil, ParcelSCnt, List.map_nil, List.sum_nil] at hd hcn HW
      go_wp2
      go_ret
      exact ⟨ret_int (by unfold ParcelSCnt; omega), by have h := HW.out; rw [hd.out] at h; unfold ParcelSW at h ⊢; exact h, hsp⟩
set_option maxHeartbeats 2000000 in
set_option maxRecDepth 100000 in
theorem heldParcelS_w (v : Value) (xs : List ParcelD) (k : Int) (w : World) (ha : ParcelSR w v (mkParcelSs k xs)) (h0 : 0 < k) (h1 : k + (ParcelSCnt xs : Int) ≤ 4611686018427387904) :
    Calls Tryz.prog 109 #[v, .int .i64 k] w fun e w' => e = .returned (.int .i64 (k + (ParcelSCnt xs : Int))) ∧ Fr w w' := by
  have hxl : xs.length ≤ 4611686018427387904 := by have := ParcelSCnt_ge xs; omega
  obtain ⟨ao, ba, oa, ca, rfl, hca, hma, fa⟩ := ha.one
  clear ha
  rw [mkParcelSs_length] at hca fa ⊢
  have FA := Lib.hid fa
  clear fa
  go_enter Tryz.func109, Tryz.ntmps109
  go_wp2
  go_loopw [1, 5] (fun l i wr => ∃ (m : Nat) (kk : Int), m ≤ xs.length ∧ i = .int .i64 m ∧ l = .int .i64 kk ∧ Hid ((mkParcelSs k xs).drop m = mkParcelSs kk (xs.drop m)) ∧ kk + (ParcelSCnt (xs.drop m) : Int) = k + (ParcelSCnt xs : Int) ∧ 0 < kk ∧ Fr w wr) (fun _ i _ => xs.length - (intOf i).toNat)
  case atStart => exact ⟨0, k, Nat.zero_le _, rfl, rfl, Lib.hid rfl, rfl, h0, Fr.refl _⟩
  case round =>
    obtain ⟨m, kk, hm, rfl, rfl, hd, hcn, hk0, hfr⟩ := hrel
    by_cases hlt : m < xs.length
    · obtain ⟨rfl, hba, fa⟩ := FA.out (by omega)
      obtain ⟨a, ra, c0, c1⟩ := fa m hlt
      have hml : m < (mkParcelSs k xs).length := by rw [mkParcelSs_length]; exact hlt
      have hd2 := hd.out
      rw [Parcel_drop hml, Parcel_drop hlt, mkParcelSs] at hd2
      injection hd2 with hd3 hd4
      simp only [hd3] at ra c0 c1
      rw [Parcel_drop hlt, ParcelSCnt_cons] at hcn
      clear fa hd hd3
      have hd := Lib.hid hd4
      clear hd4
      generalize nAt xs m = x at ra hd hcn c0 c1
      have hc1 : ParcelCnt1 x = 1 + 4 * x.f1.length := rfl
      rw [hc1] at hcn
      simp only [mkParcel] at ra c0 c1
      have HR := Lib.hid (RdS.fr ra hfr)
      obtain ⟨aor, capr, rfl, _⟩ := RdS.val ra
      clear ra
      have d0 := (hfr.cell (p := ⟨ba, _, none⟩) hba).trans c0
      have d1 := (hfr.cell (p := ⟨ba, _, none⟩) hba).trans c1
      clear c0 c1
      go_wp2_with (go_at_call 31; refine (heldWalkS_w _ (kk + 1) x.f1.length _ (RdS.fr HR.out (by exact Qf)) (by omega) (by omega)).mono ?_; rintro e w1 ⟨rfl, hf1⟩)
      go_roundw
      case rel => exact ⟨m + 1, kk + (ParcelCnt1 x : Int), by omega, by go_num, by rw [hc1]; go_num, hd, by rw [hc1]; omega, by rw [hc1]; omega, by exact Qf⟩
      case measure => (simp [intOf]; omega)
    · obtain rfl : m = xs.length := by omega
      rw [List.drop_length] at hcn
      simp only [ParcelSCnt, List.map_nil, List.sum_nil] at hcn
      go_wp2
      go_ret
      exact ⟨ret_int (by unfold ParcelSCnt; omega), hfr⟩
end Go.Proofs.YtmdgdnkllclpcaaGreat

/- Parcels: who owns a vertex, walks by their owners in sixties: plain lemmas. No condition. -/
namespace Go.Proofs.YtmdgdnkllclpcaaGreat
open Go.RowKit
set_option linter.unusedVariables false
set_option linter.unusedSimpArgs false
/-- The owner of a vertex among n workers. -/
def owR (v n : Int) : Int := if (1 ≤ n ∧ n ≤ 8) ∧ 0 ≤ v ∧ v ≤ 11 then (sumOf (vText v) : Int) % n else 0
theorem owR_ge (v n : Int) : 0 ≤ owR v n := by
  unfold owR
  split
  · rename_i h; exact Int.emod_nonneg _ (by omega)
  · exact Int.le_refl _
theorem owR_lt (v n : Int) : owR v n ≤ 7 := by
  unfold owR
  split
  · rename_i h; have := Int.emod_lt_of_pos (sumOf (vText v) : Int) (show 0 < n by omega); omega
  · omega
def chunk (l : List WalkR) : List (List WalkR) := if h : l = [] then [] else l.take 60 :: chunk (l.drop 60)
termination_by l.length
decreasing_by
  have : 0 < l.length := List.length_pos_iff.2 h
  simp only [List.length_drop]; omega
theorem chunk_nil : chunk [] = [] := by unfold chunk; simp
theorem chunk_step {l : List WalkR} (h : 0 < l.length) : chunk l = l.take 60 :: chunk (l.drop 60) := by
  rw [chunk, dif_neg (List.length_pos_iff.1 h)]
theorem chunk_full {a r : List WalkR} (h : a.length = 60) : chunk (a ++ r) = a :: chunk r := by
  rw [chunk_step (by rw [List.length_append]; omega), List.take_append_of_le_length (by omega), List.take_of_length_le (by omega), List.drop_append_of_le_length (by omega), List.drop_of_length_le (by omega), List.nil_append]
theorem chunk_small {a : List WalkR} (h : 0 < a.length) (h2 : a.length ≤ 60) : chunk a = [a] := by
  rw [chunk_step h, List.take_of_length_le h2, List.drop_of_length_le h2, chunk_nil]
theorem ParcelSCnt_append (a b : List ParcelD) : ParcelSCnt (a ++ b) = ParcelSCnt a + ParcelSCnt b := by simp [ParcelSCnt]
theorem chunk_cnt (t : Int) : ∀ (n : Nat) (l : List WalkR), l.length ≤ n → (chunk l).length ≤ l.length ∧ ParcelSCnt ((chunk l).map (ParcelD.mk t)) ≤ 5 * l.length := by
  intro n
  induction n with
  | zero =>
    intro l h
    have : l = [] := List.eq_nil_of_length_eq_zero (by omega)
    subst this
    rw [chunk_nil]
    simp [ParcelSCnt]
  | succ n ih =>
    intro l h
    rcases Nat.eq_zero_or_pos l.length with h0 | h0
    · have : l = [] := List.eq_nil_of_length_eq_zero h0
      subst this
      rw [chunk_nil]
      simp [ParcelSCnt]
    · rw [chunk_step h0]
      obtain ⟨h1, h2⟩ := ih (l.drop 60) (by simp only [List.length_drop]; omega)
      rw [List.map_cons, ParcelSCnt_cons]
      unfold ParcelCnt1
      simp only [List.length_cons, List.length_drop, List.length_take] at h1 h2 ⊢
      omega
def parW (l : List WalkR) (n t : Int) : List WalkR := l.filter fun w => owR w.f2 n == t
theorem parW_len (l : List WalkR) (n t : Int) : (parW l n t).length ≤ l.length := List.length_filter_le _ _
def parO (l : List WalkR) (n t : Int) : List ParcelD := (chunk (parW l n t)).map (ParcelD.mk t)
def parL (l : List WalkR) (n : Int) : Nat → List ParcelD
  | 0 => []
  | t + 1 => parL l n t ++ parO l n t
def parAll (l : List WalkR) (n : Int) : List ParcelD := parL l n (max 0 (min n 8)).toNat
theorem parO_cnt (l : List WalkR) (n t : Int) : (parO l n t).length ≤ l.length ∧ ParcelSCnt (parO l n t) ≤ 5 * l.length := by
  have h := chunk_cnt t _ (parW l n t) (Nat.le_refl _)
  have := parW_len l n t
  unfold parO
  rw [List.length_map]
  omega
theorem parL_cnt (l : List WalkR) (n : Int) : ∀ t, (parL l n t).length ≤ t * l.length ∧ ParcelSCnt (parL l n t) ≤ t * (5 * l.length)
  | 0 => by simp [parL, ParcelSCnt]
  | t + 1 => by
    have h1 := parL_cnt l n t
    have h2 := parO_cnt l n t
    rw [parL, ParcelSCnt_append, List.length_append, Nat.add_mul, Nat.add_mul]
    omega
theorem parL_mono (l : List WalkR) (n : Int) (t : Nat) (ht : t ≤ 8) : (parL l n t).length ≤ 8 * l.length := by
  have := (parL_cnt l n t).1
  have h2 := Nat.mul_le_mul_right l.length ht
  omega
theorem parAll_cnt (l : List WalkR) (n : Int) (h : l.length ≤ 1048576) : ParcelSCnt (parAll l n) ≤ 100000000 := by
  have := (parL_cnt l n (max 0 (min n 8)).toNat).2
  have h2 := Nat.mul_le_mul_right (5 * l.length) (show (max 0 (min n 8)).toNat ≤ 8 by omega)
  unfold parAll
  omega
theorem walk_drop {l : List WalkR} {k : Nat} (h : k < l.length) : l.drop k = walkAt l k :: l.drop (k + 1) := by
  rw [List.drop_eq_getElem_cons h]
  simp [walkAt, List.getD, List.getElem?_eq_getElem h]
theorem parW_skip {l : List WalkR} {k : Nat} {n t : Int} (h : k < l.length) (ht : owR (walkAt l k).f2 n ≠ t) : parW (l.drop k) n t = parW (l.drop (k + 1)) n t := by
  rw [walk_drop h]
  unfold parW
  rw [List.filter_cons_of_neg (by simpa using ht)]
theorem parW_hit {l : List WalkR} {k : Nat} {n t : Int} (h : k < l.length) (ht : owR (walkAt l k).f2 n = t) : parW (l.drop k) n t = walkAt l k :: parW (l.drop (k + 1)) n t := by
  rw [walk_drop h]
  unfold parW
  rw [List.filter_cons_of_pos (by simpa using ht)]
theorem parW_end (l : List WalkR) (n t : Int) : parW (l.drop l.length) n t = [] := by simp [parW]
theorem walk_take (xs : List WalkR) (i : Nat) : (xs.take i).flatMap WalkR.cells = (xs.flatMap WalkR.cells).take (i * 4) := by
  induction xs generalizing i with
  | nil => simp
  | cons x xs ih =>
    cases i with
    | zero => simp
    | succ i =>
      rw [List.flatMap_cons, List.take_succ_cons, List.flatMap_cons, ih i]
      have hl : x.cells.length = 4 := rfl
      rw [List.take_append, hl, show (i + 1) * 4 - 4 = i * 4 by omega, List.take_of_length_le (l := x.cells) (by rw [hl]; omega)]
theorem walk_dropc (xs : List WalkR) (i : Nat) : (xs.drop i).flatMap WalkR.cells = (xs.flatMap WalkR.cells).drop (i * 4) := by
  induction xs generalizing i with
  | nil => simp
  | cons x xs ih =>
    cases i with
    | zero => simp
    | succ i =>
      rw [List.drop_succ_cons, List.flatMap_cons, ih i]
      have hl : x.cells.length = 4 := rfl
      rw [List.drop_append, hl, show (i + 1) * 4 - 4 = i * 4 by omega, List.drop_of_length_le (l := x.cells) (by rw [hl]; omega), List.nil_append]
theorem WalksR.take {w : World} {ao : Option Addr} {n cap : Nat} {ls : List WalkR} (h : WalksR w (.slice ao n cap) ls) (m c : Nat) (hm : m ≤ ls.length) (hc : m ≤ c) (hc2 : c ≤ maxLen) : WalksR w (.slice ao m c) (ls.take m) := by
  have hn : n = ls.length := by obtain ⟨_, _, _, hv, _⟩ := h; cases hv; rfl
  subst hn
  obtain ⟨h1, ao', cap', hv, h2, h3, h4⟩ := h
  cases hv
  have hmz : m * 4 ≤ ls.length * 4 := Nat.mul_le_mul_right 4 hm
  unfold WalksR
  rw [walk_take, show (ls.take m).length = m by simp; omega]
  refine ⟨by rw [List.length_take]; omega, ao, c, rfl, hc, hc2, fun hn => ?_⟩
  obtain ⟨b, o, hb, hs, hcl⟩ := h4 (by omega)
  refine ⟨b, o, hb, hs, fun j hj => ?_⟩
  rw [hcl j (by omega), List.getElem?_take_of_lt (by omega)]
theorem WalksR.drop {w : World} {b o : Nat} {n cap : Nat} {ls : List WalkR} (h : WalksR w (.slice (some ⟨b, o, none⟩) n cap) ls) (m c : Nat) (hm : m ≤ ls.length) (hc : ls.length - m ≤ c) (hc2 : c ≤ maxLen) : WalksR w (.slice (some ⟨b, o + m * 4, none⟩) (ls.length - m) c) (ls.drop m) := by
  have hn : n = ls.length := by obtain ⟨_, _, _, hv, _⟩ := h; cases hv; rfl
  subst hn
  obtain ⟨h1, ao', cap', hv, h2, h3, h4⟩ := h
  cases hv
  have hmz : m * 4 ≤ ls.length * 4 := Nat.mul_le_mul_right 4 hm
  unfold WalksR
  rw [walk_dropc, show (ls.drop m).length = ls.length - m by simp]
  refine ⟨by rw [List.length_drop, Nat.sub_mul]; omega, _, c, rfl, hc, hc2, fun hn => ?_⟩
  obtain ⟨b', o', hb, hs, hcl⟩ := h4 (by omega)
  cases hb
  refine ⟨b, _, rfl, hs, fun j hj => ?_⟩
  rw [Nat.sub_mul] at hj
  rw [Nat.add_assoc, hcl (m * 4 + j) (by omega), List.getElem?_drop]
def lenVP : Value → Nat
  | .slice _ n _ => n
  | _ => 0
end Go.Proofs.YtmdgdnkllclpcaaGreat

/- Walks, plain: what is owned, where walks begin, how a walk goes on. No condition. -/
namespace Go.Proofs.YtmdgdnkllclpcaaGreat
open Go.RowKit
set_option linter.unusedVariables false
set_option linter.unusedSimpArgs false
/-! ### what a worker owns -/
def ownK (k n : Int) : Nat → List Int
  | 0 => []
  | m + 1 => if owR (m : Int) n = k then ownK k n m ++ [(m : Int)] else ownK k n m
def ownL (g : GraphD) (k n : Int) : List Int := if graphB g = true then ownK k n g.f0.toNat else []
theorem ownK_yes {k n : Int} {m : Nat} (h : owR (m : Int) n = k) : ownK k n (m + 1) = ownK k n m ++ [(m : Int)] := if_pos h
theorem ownK_no {k n : Int} {m : Nat} (h : ¬ owR (m : Int) n = k) : ownK k n (m + 1) = ownK k n m := if_neg h
theorem ownK_len (k n : Int) : ∀ m, (ownK k n m).length ≤ m
  | 0 => Nat.le_refl _
  | m + 1 => by
    have := ownK_len k n m
    by_cases h : owR (m : Int) n = k
    · rw [ownK_yes h, List.length_append, List.length_singleton]; omega
    · rw [ownK_no h]; omega
theorem mem_ownK {k n : Int} {v : Int} : ∀ {m : Nat}, v ∈ ownK k n m ↔ ∃ j : Nat, v = (j : Int) ∧ j < m ∧ owR (j : Int) n = k
  | 0 => by simp [ownK]
  | m + 1 => by
    by_cases h : owR (m : Int) n = k
    · rw [ownK_yes h, List.mem_append, mem_ownK (m := m), List.mem_singleton]
      constructor
      · rintro (⟨j, h1, h2, h3⟩ | rfl)
        · exact ⟨j, h1, by omega, h3⟩
        · exact ⟨m, rfl, by omega, h⟩
      · rintro ⟨j, h1, h2, h3⟩
        by_cases e : j = m
        · subst e; exact .inr h1
        · exact .inl ⟨j, h1, by omega, h3⟩
    · rw [ownK_no h, mem_ownK (m := m)]
      constructor
      · rintro ⟨j, h1, h2, h3⟩; exact ⟨j, h1, by omega, h3⟩
      · rintro ⟨j, h1, h2, h3⟩
        by_cases e : j = m
        · subst e; exact absurd h3 h
        · exact ⟨j, h1, by omega, h3⟩
theorem ownL_len {g : GraphD} {k n : Int} : (ownL g k n).length ≤ 12 := by
  unfold ownL
  split
  · rename_i h
    have := (graphB_out h).1
    have := ownK_len k n g.f0.toNat
    omega
  · simp
/-! ### where walks begin -/
def qryD (q : QueryD) : Bool := qryB q.f1 q.f2 q.f3
theorem qryB_atoms {out : List ByteArray} {xs : List AtomR} {fs : List FilterR} (h : qryB out xs fs = true) : (1 ≤ xs.length ∧ xs.length ≤ 4) ∧ atK xs xs.length = true := by
  unfold qryB at h
  simp only [Bool.and_eq_true, decide_eq_true_eq] at h
  exact ⟨h.1.1, h.2.1⟩
def staW (ow : List Int) (m : Nat) : List WalkR := ow.map fun v => ⟨(m : Int), v, v, 0⟩
def staK (ow : List Int) : Nat → List WalkR
  | 0 => []
  | m + 1 => staK ow m ++ staW ow m
theorem staK_len (ow : List Int) : ∀ m, (staK ow m).length = m * ow.length
  | 0 => by simp [staK]
  | m + 1 => by rw [staK, List.length_append, staK_len ow m, Nat.add_mul]; simp [staW]
def staTo (ow : List Int) (m k : Nat) : List WalkR := staK ow m ++ staW (ow.take k) m
theorem staTo_0 (ow : List Int) (m : Nat) : staTo ow m 0 = staK ow m := by simp [staTo, staW]
theorem staTo_all (ow : List Int) (m : Nat) : staTo ow m ow.length = staK ow (m + 1) := by simp [staTo, staK]
theorem staTo_step {ow : List Int} {m k : Nat} (h : k < ow.length) : staTo ow m (k + 1) = staTo ow m k ++ [⟨(m : Int), iAt ow k, iAt ow k, 0⟩] := by
  unfold staTo staW
  rw [List.take_succ_eq_append_getElem h, List.map_append, ← List.append_assoc]
  simp [iAt, List.getD, h]
theorem staTo_len {ow : List Int} {m k : Nat} : (staTo ow m k).length ≤ (m + 1) * ow.length := by
  unfold staTo staW
  rw [List.length_append, staK_len, List.length_map, List.length_take, Nat.add_mul]
  omega
def staL (g : GraphD) (q : QueryD) (k n : Int) : List WalkR := if graphB g = true ∧ qryD q = true then staK (ownL g k n) q.f2.length else []
theorem staL_len (g : GraphD) (q : QueryD) (k n : Int) : (staL g q k n).length ≤ 48 := by
  unfold staL
  split
  · rename_i h
    rw [staK_len]
    have h1 := (qryB_atoms h.2).1.2
    have h2 := ownL_len (g := g) (k := k) (n := n)
    calc q.f2.length * (ownL g k n).length ≤ 4 * 12 := Nat.mul_le_mul h1 h2
      _ = 48 := rfl
  · simp
theorem wlk_snoc (l : List WalkR) (x : WalkR) : (l ++ [x]).flatMap WalkR.cells = l.flatMap WalkR.cells ++ [.int .i64 x.f0, .int .i64 x.f1, .int .i64 x.f2, .int .i64 x.f3] := by simp [WalkR.cells]
/-! ### how a walk goes on -/
def arcOn (w : WalkR) (e c : EdgeR) : List WalkR := if c.f0 = w.f3 ∧ c.f1 = e.f1 then [⟨w.f0, w.f1, e.f2, c.f2⟩] else []
def arcsOn (cs : List EdgeR) (w : WalkR) (e : EdgeR) : List WalkR := if e.f0 = w.f2 then cs.flatMap (arcOn w e) else []
def onL (es cs : List EdgeR) (w : WalkR) : List WalkR := es.flatMap (arcsOn cs w)
def onTo (es cs : List EdgeR) (w : WalkR) (i k : Nat) : List WalkR := onL (es.take i) cs w ++ (cs.take k).flatMap (arcOn w (edgeAt es i))
theorem eTake {es : List EdgeR} {i : Nat} (h : i < es.length) : es.take (i + 1) = es.take i ++ [edgeAt es i] := by
  rw [List.take_succ_eq_append_getElem h]
  simp [edgeAt, List.getD, h]
theorem onL_skip {es cs : List EdgeR} {w : WalkR} {i : Nat} (h : i < es.length) (hn : ¬ (edgeAt es i).f0 = w.f2) : onL (es.take (i + 1)) cs w = onL (es.take i) cs w := by
  unfold onL
  rw [eTake h, List.flatMap_append]
  simp [arcsOn, hn]
theorem onL_hit {es cs : List EdgeR} {w : WalkR} {i : Nat} (h : i < es.length) (hn : (edgeAt es i).f0 = w.f2) : onL (es.take (i + 1)) cs w = onTo es cs w i cs.length := by
  unfold onTo onL
  rw [eTake h, List.flatMap_append, List.take_length]
  simp [arcsOn, hn]
theorem onTo_0 (es cs : List EdgeR) (w : WalkR) (i : Nat) : onTo es cs w i 0 = onL (es.take i) cs w := by simp [onTo]
theorem onTo_step {es cs : List EdgeR} {w : WalkR} {i k : Nat} (h : k < cs.length) : onTo es cs w i (k + 1) = onTo es cs w i k ++ arcOn w (edgeAt es i) (edgeAt cs k) := by
  unfold onTo
  rw [eTake h, List.flatMap_append, ← List.append_assoc]
  simp
theorem arcOn_len (w : WalkR) (e c : EdgeR) : (arcOn w e c).length ≤ 1 := by unfold arcOn; split <;> simp
theorem flat_le {α β : Type} (f : α → List β) (b : Nat) : ∀ l : List α, (∀ x ∈ l, (f x).length ≤ b) → (l.flatMap f).length ≤ l.length * b
  | [], _ => by simp
  | x :: l, h => by
    rw [List.flatMap_cons, List.length_append, List.length_cons, Nat.add_mul]
    have := h x (by simp)
    have := flat_le f b l (fun y hy => h y (by simp [hy]))
    omega
theorem onL_len (es cs : List EdgeR) (w : WalkR) : (onL es cs w).length ≤ es.length * cs.length := flat_le _ _ _ fun e _ => by
  unfold arcsOn
  split
  · have := flat_le (arcOn w e) 1 cs (fun c _ => arcOn_len w e c); omega
  · simp
theorem onTo_len {es cs : List EdgeR} {w : WalkR} {i k : Nat} (hi : i < es.length) : (onTo es cs w i k).length ≤ es.length * cs.length := by
  unfold onTo
  rw [List.length_append]
  have h1 := onL_len (es.take i) cs w
  have h2 := flat_le (arcOn w (edgeAt es i)) 1 (cs.take k) (fun c _ => arcOn_len _ _ c)
  rw [List.length_take] at h1 h2
  have h3 : min i es.length * cs.length ≤ i * cs.length := Nat.mul_le_mul_right _ (Nat.min_le_left _ _)
  have h4 : (i + 1) * cs.length ≤ es.length * cs.length := Nat.mul_le_mul_right _ hi
  rw [Nat.add_mul] at h4
  omega
end Go.Proofs.YtmdgdnkllclpcaaGreat

/- OwnerOf of both. No condition. -/
namespace Go.Proofs.YtmdgdnkllclpcaaGreat
open Go.RowKit
set_option linter.unusedVariables false
set_option linter.unusedSimpArgs false
theorem implOwnerOf_any (v n : Int) (w : World) :
    Calls Tryz.prog 93 #[.int .i64 v, .int .i64 n] w fun e w' => e = .returned (.int .i64 (owR v n)) ∧ Fr w w' := by
  by_cases h1 : n < 1
  · go_enter Tryz.func93, Tryz.ntmps93
    go_wp2
    go_ret
    exact ⟨ret_int (by unfold owR; rw [if_neg (by omega)]), by exact Qf⟩
  by_cases h2 : 8 < n
  · go_enter Tryz.func93, Tryz.ntmps93
    go_wp2
    go_ret
    exact ⟨ret_int (by unfold owR; rw [if_neg (by omega)]), by exact Qf⟩
  by_cases h3 : v < 0
  · go_enter Tryz.func93, Tryz.ntmps93
    go_wp2
    go_ret
    exact ⟨ret_int (by unfold owR; rw [if_neg (by omega)]), by exact Qf⟩
  by_cases h4 : 12 ≤ v
  · go_enter Tryz.func93, Tryz.ntmps93
    go_wp2
    go_ret
    exact ⟨ret_int (by unfold owR; rw [if_neg (by omega)]), by exact Qf⟩
  have hs := sumOf_lt (vText v)
  have hz : (vText v).size ≤ maxLen := by rw [vText_size]; have := varL_len40 v.toNat (by omega); unfold maxLen; omega
  have ho : owR v n = (sumOf (vText v) : Int) % n := by unfold owR; rw [if_pos (by omega)]
  have hm0 : 0 ≤ (sumOf (vText v) : Int) % n := Int.emod_nonneg _ (by omega)
  have hm1 : (sumOf (vText v) : Int) % n < n := Int.emod_lt_of_pos _ (by omega)
  go_enter Tryz.func93, Tryz.ntmps93
  go_wp2_with (first | (go_at_call 148; refine (varText_any v _ (by omega) (by omega)).mono ?_; rintro e w1 ⟨rfl, hf1⟩) | (go_at_call 147; refine (implSumOf_any (vText v) _ hz).mono ?_; rintro e w2 ⟨rfl, rfl⟩))
  go_ret
  exact ⟨ret_int (by rw [ho]), by exact Qf⟩
theorem specOwnerOf_any (v n : Int) (w : World) :
    Calls Tryz.prog 96 #[.int .i64 v, .int .i64 n] w fun e w' => e = .returned (.int .i64 (owR v n)) ∧ Fr w w' := by
  by_cases h1 : 1 ≤ n ∧ n ≤ 8
  · by_cases h2 : 0 ≤ v ∧ v ≤ 11
    · have hs := sumOf_lt (vText v)
      have hz : (vText v).size ≤ maxLen := by rw [vText_size]; have := varL_len40 v.toNat (by omega); unfold maxLen; omega
      have ho : owR v n = (sumOf (vText v) : Int) % n := by unfold owR; rw [if_pos (by omega)]
      have hm0 : 0 ≤ (sumOf (vText v) : Int) % n := Int.emod_nonneg _ (by omega)
      have hm1 : (sumOf (vText v) : Int) % n < n := Int.emod_lt_of_pos _ (by omega)
      have g1 : decide (1 ≤ n ∧ n ≤ 8) = true := by simp [h1]
      have g2 : decide (0 ≤ v ∧ v ≤ 11) = true := by simp [h2]
      go_enter Tryz.func96, Tryz.ntmps96
      go_wp2_with (first | (go_at_call 56; refine (l01In_any _ _ _ _).mono ?_; rintro e w1 ⟨rfl, rfl⟩) | (go_at_call 153; refine (l01Var_any v _ (by omega) (by omega)).mono ?_; rintro e w1 ⟨rfl, hf1⟩) | (go_at_call 152; refine (specSumOf_any (vText v) _ hz).mono ?_; rintro e w2 ⟨rfl, rfl⟩))
      go_ret
      exact ⟨ret_int (by rw [ho]), by exact Qf⟩
    · have g1 : decide (1 ≤ n ∧ n ≤ 8) = true := by simp [h1]
      have g2 : decide (0 ≤ v ∧ v ≤ 11) = false := by simpa using h2
      go_enter Tryz.func96, Tryz.ntmps96
      go_wp2_with (go_at_call 56; refine (l01In_any _ _ _ _).mono ?_; rintro e w1 ⟨rfl, rfl⟩)
      go_ret
      exact ⟨ret_int (by unfold owR; rw [if_neg (by omega)]), by exact Qf⟩
  · have g1 : decide (1 ≤ n ∧ n ≤ 8) = false := by simpa using h1
    go_enter Tryz.func96, Tryz.ntmps96
    go_wp2_with (go_at_call 56; refine (l01In_any _ _ _ _).mono ?_; rintro e w1 ⟨rfl, rfl⟩)
    go_ret
    exact ⟨ret_int (by unfold owR; rw [if_neg (by omega)]), by exact Qf⟩
end Go.Proofs.YtmdgdnkllclpcaaGreat

/- meaningOf, reached of the program. Conditions: at most 12 places, a right path, a right graph. -/
namespace Go.Proofs.YtmdgdnkllclpcaaGreat
open Go.RowKit
set_option linter.unusedVariables false
set_option linter.unusedSimpArgs false
theorem info_rel : (Tryz.prog.info? 205).map (fun i => (i.zero, i.size, i.bytes)) = some (some (.slice none 0 0), 1, 24) := by kernel_rfl
/-- What a label means in a graph. -/
def stR (es : List EdgeR) (l : UInt8) : (Nat → Nat → Bool) := fun i j => es.any fun e => decide (e.f1 = l) && (decide (e.f0 = (i : Int)) && decide (e.f2 = (j : Int)))
def EdgesIn (n : Nat) (es : List EdgeR) : Prop := ∀ k, k < es.length → (0 ≤ (edgeAt es k).f0 ∧ (edgeAt es k).f0 < (n : Int)) ∧ (0 ≤ (edgeAt es k).f2 ∧ (edgeAt es k).f2 < (n : Int))
theorem edgeAt_get {es : List EdgeR} {k : Nat} (h : k < es.length) : es[k] = edgeAt es k := by simp [edgeAt, List.getD, h]
theorem stR_take {es : List EdgeR} {k : Nat} (h : k < es.length) (l : UInt8) (i j : Nat) : stR (es.take (k + 1)) l i j = (stR (es.take k) l i j || (decide ((edgeAt es k).f1 = l) && (decide ((edgeAt es k).f0 = (i : Int)) && decide ((edgeAt es k).f2 = (j : Int))))) := by
  unfold stR
  rw [List.take_succ_eq_append_getElem h, List.any_append, edgeAt_get h]
  simp
theorem sup_st {n : Nat} {es : List EdgeR} (h : EdgesIn n es) (l : UInt8) : Sup n (stR es l) := fun i j hij => by
  unfold stR at hij
  rw [List.any_eq_true] at hij
  obtain ⟨e, he, hb⟩ := hij
  obtain ⟨k, hk, rfl⟩ := List.getElem_of_mem he
  have h1 := h k hk
  rw [edgeAt_get hk] at hb
  simp only [Bool.and_eq_true, decide_eq_true_eq] at hb
  omega
theorem edges_in {g : GraphD} (h : graphB g = true) : EdgesIn g.f0.toNat g.f1 := fun k hk => by
  obtain ⟨⟨h1, h2⟩, h3, h4⟩ := graphB_out h
  have := h4 k hk
  by_cases e0 : 0 ≤ (edgeAt g.f1 k).f0 ∧ (edgeAt g.f1 k).f0 < g.f0
  · by_cases e2 : 0 ≤ (edgeAt g.f1 k).f2 ∧ (edgeAt g.f1 k).f2 < g.f0
    · omega
    · have q := edgK_to (n := g.f0) (xs := g.f1) (k := k) rfl e2
      rw [q] at this
      cases this
  · have q := edgK_from (n := g.f0) (xs := g.f1) (k := k) rfl e0
    rw [q] at this
    cases this
set_option maxHeartbeats 8000000 in
set_option maxRecDepth 100000 in
theorem stepOf_any (l : UInt8) (B n : Nat) (ev : Value) (es : List EdgeR) (w : World) (hn : 0 < n ∧ n ≤ 12) (hb : Box w B #[.int .i64 (n : Int), ev] 55) (he : EdgesR w ev es) (hin : EdgesIn n es) :
    Calls Tryz.prog 191 #[.int .u8 (l.toNat : Int), .pointer (some ⟨B, 0, none⟩)] w fun e w' => ∃ ao cap, e = .returned (.slice ao n cap) ∧ RelO w' w.heap.size (.slice ao n cap) n (stR es l) ∧ Fr w w' := by
  obtain ⟨i0, hi, hz0, hz1, hz2⟩ := info_parts info_u32
  obtain ⟨hn0, hn1⟩ := hn
  have hel := he.le
  obtain ⟨ao, be, oe, ce, rfl, hce, hme, fe⟩ := he.one
  have FE := Lib.hid fe
  have HIN := Lib.hid hin
  have F0 := hb.facts
  have HB := Lib.hid hb
  have hll := l.toNat_lt
  clear fe he hin hb
  go_enter Tryz.func191, Tryz.ntmps191
  go_wp2_with (at_make; refine wpList_make_full _ rfl _ _ 205 rfl w.heap.size 192 i0 (.int .u32 0) 1 Tryz.underlying205 hi hz0 hz1 _ _ _ _ n rfl rfl rfl rfl (by rw [hz2]; omega) (by unfold maxLen; omega) (by omega) ?_; intro w1 hown hgrow; have HF0 : Fr w w1 := (Fr.refl w).grown hgrow (by simp); have F1 := (HB.out.fr HF0).facts)
  rw [show (madeCells (Value.cells (.int .u32 0)) (n * 1)).toList = rCells n rNo from by rw [rCells_no, Nat.mul_one]; exact toList_madeCells_one _ _] at hown; have HO : Hid (RelO w1 w.heap.size (.slice (some ⟨w.heap.size, 0, none⟩) n n) n rNo) := Lib.hid hown; have HF1 : Fr w w1 := (Fr.refl w).grown hgrow (by simp); clear hown hgrow
  clear HF0
  go_loopw [6, 13] (fun _ i wr => ∃ k : Nat, k ≤ es.length ∧ i = .int .i64 k ∧ Hid (RelO wr w.heap.size (.slice (some ⟨w.heap.size, 0, none⟩) n n) n (stR (es.take k) l)) ∧ Fr w wr) (fun _ i _ => es.length - (intOf i).toNat)
  case atStart => exact ⟨0, Nat.zero_le _, rfl, Lib.hid (HO.out.congr fun i hi => by funext j; simp [stR, rNo]), HF1⟩
  case round =>
    clear HO HF1 F1
    obtain ⟨k, hk, rfl, ho, hfr⟩ := hrel
    have zr := hfr.size
    by_cases hlt : k < es.length
    · obtain ⟨rfl, hbe, fe⟩ := FE.out (by omega)
      obtain ⟨g0, g1, g2⟩ := fe k hlt
      obtain ⟨hi0, hi2⟩ := HIN.out k hlt
      have hstep := fun i j => stR_take hlt l i j
      obtain ⟨x, hx⟩ : ∃ x, edgeAt es k = x := ⟨_, rfl⟩
      rw [hx] at g0 g1 g2 hi0 hi2
      have HST : Hid (∀ i j, stR (es.take (k + 1)) l i j = (stR (es.take k) l i j || (decide (x.f1 = l) && (decide (x.f0 = (i : Int)) && decide (x.f2 = (j : Int)))))) := Lib.hid (by rw [← hx]; exact hstep)
      have c0 := (hfr.cell (p := ⟨be, _, none⟩) hbe).trans g0
      have c1 := (hfr.cell (p := ⟨be, _, none⟩) hbe).trans g1
      have c2 := (hfr.cell (p := ⟨be, _, none⟩) hbe).trans g2
      clear fe hx hstep g0 g1 g2
      obtain ⟨x0, x1, x2⟩ := x
      simp only [] at c0 c1 c2 hi0 hi2 HST
      have hxl := x1.toNat_lt
      obtain ⟨p, rfl⟩ := Int.eq_ofNat_of_zero_le hi0.1
      obtain ⟨q, rfl⟩ := Int.eq_ofNat_of_zero_le hi2.1
      have hp : p < n := by omega
      have hq : q < n := by omega
      clear hi0 hi2
      obtain ⟨g, cap, hv, hg1, hg2, hc, hz⟩ := ho.out.one hn0
      cases hv
      have d1 := hc p hp
      have z1 := hz p
      have hne1 : be ≠ w.heap.size := by omega
      have hne2 : wr.heap.size ≠ w.heap.size := by omega
      have hne3 : w.heap.size ≠ wr.heap.size := by omega
      clear hc hz
      by_cases hl : x1 = l
      · subst hl
        have hone := bN_one q (by omega)
        have hone2 : IntKind.u32.wrap (2 ^ q) = (bN (fun j => decide (j = q)) : Int) := by rw [← hone, Int.one_mul]
        have hor := bN_or (stR (es.take k) x1 p) (fun j => decide (j = q))
        have ho2 : Hid (∀ wq, Fr wr wq → RelO (wq.setCell ⟨w.heap.size, p, none⟩ (.int .u32 (bN (fun j => stR (es.take k) x1 p j || decide (j = q)) : Int))) w.heap.size (.slice (some ⟨w.heap.size, 0, none⟩) n n) n (stR (es.take (k + 1)) x1)) := Lib.hid fun wq hq => (RelO.set (ho.out.fr hq) p _).congr fun i hi => by
          funext j
          rw [HST.out]
          by_cases e : i = p
          · subst e
            simp only [if_true, decide_true, Bool.true_and]
            congr 1
            rw [Bool.eq_iff_iff, decide_eq_true_eq, decide_eq_true_eq]
            omega
          · simp only [if_neg e]
            rw [decide_eq_false (show ¬ ((p : Int) = (i : Int)) by omega)]
            simp
        clear ho HST
        go_wp2_with fail
        go_region
        all_goals
          go_wp2_with fail
          go_roundw
          case rel => exact ⟨k + 1, by omega, by go_num, Lib.hid ((ho2.out _ (Fr.refl _)).fr (by exact Qf)), by exact Qf⟩
          case measure => (simp [intOf]; omega)
      · have hb3 : ((x1.toNat : Int) == (l.toNat : Int)) = false := by rw [beq_eq_false_iff_ne, Ne, byte_eq]; exact hl
        have ho2 : Hid (∀ wq, Fr wr wq → RelO wq w.heap.size (.slice (some ⟨w.heap.size, 0, none⟩) n n) n (stR (es.take (k + 1)) l)) := Lib.hid fun wq hq => (ho.out.fr hq).congr fun i hi => by
          funext j
          rw [HST.out, decide_eq_false hl]
          simp
        clear ho HST hl
        go_wp2_with fail
        go_roundw
        case rel => exact ⟨k + 1, by omega, by go_num, by (refine Lib.hid (ho2.out _ ?_); repeat (first | (with_reducible exact Fr.refl _) | (with_reducible assumption) | (with_reducible refine Fr.drewN ?_ _) | (with_reducible refine Fr.drew ?_) | (with_reducible refine Fr.alloc ?_ _) | (with_reducible refine Fr.setCell ?_ (by exact Qz) _) | (with_reducible refine Fr.trans ?_ (by with_reducible assumption)))), by exact Qf⟩
        case measure => (simp [intOf]; omega)
    · have ho2 : Hid (RelO wr w.heap.size (.slice (some ⟨w.heap.size, 0, none⟩) n n) n (stR es l)) := Lib.hid (by have := ho.out; rw [List.take_of_length_le (by omega)] at this; exact this)
      clear ho
      go_wp2_with fail
      go_ret
      exact ⟨_, _, rfl, ho2.out, hfr⟩
end Go.Proofs.YtmdgdnkllclpcaaGreat
