/- Rows whose elements hold rows: one element more, one element turned. No condition. -/
import Derived.Test.YtjgghiniajmfjaaNest
namespace Go.Proofs.Ytjgghiniajmfjaa
open Go.RowKit
set_option linter.unusedVariables false
set_option linter.unusedSimpArgs false
theorem flatten_set {sz : Nat} : ∀ {us : List (List Value)}, (∀ u ∈ us, u.length = sz) → ∀ (k j : Nat) u c, us[k]? = some u → j < sz → us.flatten.set (k * sz + j) c = (us.set k (u.set j c)).flatten
  | [], _, k, j, u, c, h, _ => by simp at h
  | a :: us, hl, k, j, u, c, h, hj => by
    have ha : a.length = sz := hl a (by simp)
    rw [List.flatten_cons]
    cases k with
    | zero =>
      simp at h
      subst h
      rw [Nat.zero_mul, Nat.zero_add, List.set_append_left _ _ (by omega)]
      simp
    | succ k =>
      rw [List.set_append_right _ _ (by rw [ha, Nat.add_mul]; omega), ha, show (k + 1) * sz + j - sz = k * sz + j by rw [Nat.add_mul]; omega]
      rw [flatten_set (fun u hu => hl u (by simp [hu])) k j u c (by simpa using h) hj]
      simp
theorem set_mid' {α : Type} (A B : List α) (k : Nat) (x y : α) (hA : A.length = k) : (A ++ y :: B).set k x = (A ++ [x]) ++ B := by
  subst hA
  rw [List.set_append_right _ _ (Nat.le_refl _), Nat.sub_self]
  simp
theorem mid_at {α : Type} [Inhabited α] (A B : List α) (k : Nat) (y : α) (hA : A.length = k) : nAt (A ++ y :: B) k = y := by
  subst hA
  simp [nAt, List.getD]
theorem grown_cell {w w' : World} {row : Option Nat} (hg : w.grownBy w' row) {b : Nat} (hb : b < w.heap.size) (hne : row ≠ some b) : ∀ o, w'.cell? ⟨b, o, none⟩ = w.cell? ⟨b, o, none⟩ := by
  cases row with
  | none => exact ((Span.of_gr (lo := 0) (hi := 0) hg (fun k hk => by cases hk)).blk b hb (.inr (Nat.zero_le _))).1
  | some g => exact ((Span.of_gr (lo := g) (hi := g + 1) hg (fun k hk => by cases hk; omega)).blk b hb (by have : b ≠ g := fun e => hne (by rw [e]); omega)).1
theorem RdS.move {w w' : World} {ao : Option Addr} {sz n cap b : Nat} {xs : List Value} (h : RdS w sz (.slice ao n cap) n xs) (hb : 0 < n → ∃ o, ao = some ⟨b, o, none⟩) (hs : w.heap.size ≤ w'.heap.size) (hc : 0 < n → ∀ o, w'.cell? ⟨b, o, none⟩ = w.cell? ⟨b, o, none⟩) : RdS w' sz (.slice ao n cap) n xs := by
  obtain ⟨h1, ao', cap', hv, h2, h3, h4⟩ := h
  cases hv
  refine ⟨h1, ao, cap, rfl, h2, h3, fun hn => ?_⟩
  obtain ⟨b', o, he, hb', hcl⟩ := h4 hn
  obtain ⟨o2, he2⟩ := hb hn
  rw [he] at he2
  cases he2
  exact ⟨b, o, he, by omega, fun j hj => (hc hn _).trans (hcl j hj)⟩
section
variable {α : Type} {E : World → Nat → Nat → List Value → α → Prop} {T : TypeId} {sz : Nat} {w : World} {lo hi : Nat} {v : Value} {xs : List α}
/-- An element more: behind an append of its cells. -/
theorem NestW.app (hE : ∀ {w w' l h u x a b}, E w l h u x → Span a b w w' → (h ≤ a ∨ b ≤ l) → E w' l h u x) (h : NestW E T sz w lo hi v xs) :
    ∃ ys : List Value, OwW w lo hi T sz v xs.length ys ∧ ∀ (v' : Value) (w' w'' : World) (u : List Value) (x : α) (l1 h1 hi' H : Nat), Fr w w' → w''.ownsRow lo T sz v' (xs.length + 1) (ys ++ u) → w'.grownBy w'' v.ownBlock → (v'.ownBlock = v.ownBlock ∨ v'.ownBlock = some H) →
      RowIn lo hi' v' → h1 ≤ H → h1 ≤ hi' → u.length = sz → E w' l1 h1 u x → lo ≤ l1 → hi ≤ l1 → l1 ≤ h1 → NestW E T sz w'' lo hi' v' (xs ++ [x]) := by
  obtain ⟨us, los, his, b1, b2, b3, b4⟩ := h
  rw [List.append_nil] at b2
  refine ⟨us.flatten, b2, fun v' w' w'' u x l1 h1 hi' H hf ho hg hat c2 c1 c3' hu he d1 d2 d3 => ?_⟩
  have hin := b2.2
  have sp : ∀ l h, (∀ g, v.ownBlock = some g → g < l ∨ h ≤ g) → ∀ u x, E w' l h u x → E w'' l h u x := by
    intro l h hd u x he
    cases hv : v.ownBlock with
    | none => rw [hv] at hg; exact hE he (Span.of_gr (lo := h) (hi := h) hg (fun k hk => by cases hk)) (.inl (Nat.le_refl _))
    | some g =>
      rw [hv] at hg
      exact hE he (Span.of_gr (lo := g) (hi := g + 1) hg (fun k hk => by cases hk; omega)) (by have := hd g hv; omega)
  refine ⟨us ++ [u], fun k => if k = xs.length then l1 else los k, fun k => if k = xs.length then h1 else his k, by simp [b1], ⟨?_, ?_⟩, fun k u' x' hu' hx' => ?_, fun j k hjk hk => ?_⟩
  · simpa [b1] using ho
  · exact c2
  · by_cases hk : k = xs.length
    · subst hk
      rw [List.getElem?_append_right (by omega), b1, Nat.sub_self] at hu'
      rw [List.getElem?_append_right (by omega), Nat.sub_self] at hx'
      simp at hu' hx'
      subst hu' hx'
      simp only [if_true]
      refine ⟨hu, sp _ _ (fun g hg => by have := hin g hg; omega) _ _ he, d1, d3, by omega, fun g hg => ?_⟩
      rcases hat with e | e
      · rw [e] at hg; have := hin g hg; omega
      · rw [e] at hg; cases hg; omega
    · have hk2 : k < xs.length := by
        have := (List.getElem?_eq_some_iff.1 hx').1
        simp at this
        omega
      rw [List.getElem?_append_left (by omega)] at hu' hx'
      simp only [if_neg hk]
      obtain ⟨c1', c2', c3, c4, c5, c6⟩ := b3 k u' x' hu' hx'
      refine ⟨c1', sp _ _ c6 _ _ (hE c2' (Span.of_fr (lo := his k) (hi := his k) hf) (.inl (Nat.le_refl _))), c3, c4, by omega, fun g hg => ?_⟩
      rcases hat with e | e
      · rw [e] at hg; exact c6 g hg
      · rw [e] at hg; cases hg; omega
  · simp at hk
    simp only [if_neg (show ¬ j = xs.length by omega)]
    split
    · have huj : us[j]? = some (us[j]'(by omega)) := List.getElem?_eq_getElem _
      obtain ⟨e1, e2, e3, e4, e5, e6⟩ := b3 j _ _ huj (List.getElem?_eq_getElem (by omega))
      omega
    · exact b4 j k hjk (by omega)
theorem NestW.rowIn (h : NestW E T sz w lo hi v xs) : RowIn lo hi v := by obtain ⟨us, los, his, h1, h2, h3, h4⟩ := h; exact h2.2
/-- One element of an owned row: its cells, and what is left when they or its blocks turn. -/
theorem NestW.turn [Inhabited α] (hE : ∀ {w w' l h u x a b}, E w l h u x → Span a b w w' → (h ≤ a ∨ b ≤ l) → E w' l h u x) (h : NestW E T sz w lo hi v xs) {k : Nat} (hk : k < xs.length) (hs : 0 < sz) :
    ∃ g cap, v = .slice (some ⟨g, 0, none⟩) xs.length cap ∧ lo ≤ g ∧ g < hi ∧ g < w.heap.size ∧ ∃ u l1 h1, u.length = sz ∧ E w l1 h1 u (nAt xs k) ∧ lo ≤ l1 ∧ h1 ≤ hi ∧ (g < l1 ∨ h1 ≤ g) ∧
      (∀ j c, j < sz → u[j]? = some c → w.cell? ⟨g, k * sz + j, none⟩ = some c ∧ w.frozen? ⟨g, k * sz + j, none⟩ = false) ∧
      (∀ j c x', j < sz → E w l1 h1 (u.set j c) x' → NestW E T sz (w.setCell ⟨g, k * sz + j, none⟩ c) lo hi v (xs.set k x')) ∧
      (∀ w' x', Span l1 h1 w w' → E w' l1 h1 u x' → NestW E T sz w' lo hi v (xs.set k x')) := by
  obtain ⟨us, los, his, b1, b2, b3, b4⟩ := h
  rw [List.append_nil] at b2
  have hu : us[k]? = some us[k] := List.getElem?_eq_getElem (by omega)
  have hx := nAt_get hk
  obtain ⟨c1, c2, c3, c4, c5, c6⟩ := b3 k _ _ hu hx
  have hlen := NestP.lens b1 b3
  rcases owns_shape b2.1 with ⟨rfl, hn, _⟩ | ⟨g, cap, rfl, hgr⟩
  · omega
  have hg := b2.2 g rfl
  have hkk : ∀ j, j < sz → k * sz + j < xs.length * sz := fun j hj => by
    have := Nat.mul_le_mul_right sz (show k + 1 ≤ xs.length by omega)
    rw [Nat.add_mul] at this
    omega
  refine ⟨g, cap, rfl, hg.1, hg.2, (b2.1.lt g rfl).2, us[k], los k, his k, c1, c2, c3, c5, c6 g rfl, fun j c hj hc => ⟨?_, b2.1.frozenAt _⟩, fun j c x' hj he => ?_, fun w' x' sp he => ?_⟩
  · have := b2.1.cellAt (k * sz + j) (hkk j hj)
    rw [this, flatten_at hlen k _ hu j hj]
    exact hc
  · have hst := b2.1.stored (k * sz + j) c
    have sp : Span g (g + 1) w (w.setCell ⟨g, k * sz + j, none⟩ c) := Span.of_gr hst.2 (fun k hk => by cases hk; omega)
    rw [flatten_set hlen k j _ c hu hj] at hst
    refine ⟨us.set k (us[k].set j c), los, his, by simp [b1], ⟨?_, b2.2⟩, fun i u' x1 hu' hx' => ?_, fun i j hij hj => b4 i j hij (by simpa using hj)⟩
    · simpa using hst.1
    · by_cases hik : k = i
      · subst hik
        rw [List.getElem?_set_self (by omega)] at hu' hx'
        cases hu'; cases hx'
        exact ⟨by simpa using c1, hE he sp (by have := c6 g rfl; omega), c3, c4, c5, c6⟩
      · rw [List.getElem?_set_ne hik] at hu' hx'
        obtain ⟨e1, e2, e3, e4, e5, e6⟩ := b3 i _ _ hu' hx'
        exact ⟨e1, hE e2 sp (by have := e6 g rfl; omega), e3, e4, e5, e6⟩
  · refine ⟨us, los, his, by simp [b1], ?_, fun i u' x1 hu' hx' => ?_, fun i j hij hj => b4 i j hij (by simpa using hj)⟩
    · have h1 := sp.owns b2.1 (fun g' hg' => by cases hg'; have := c6 g rfl; omega)
      refine ⟨by simpa using h1, by simpa using b2.2⟩
    · by_cases hik : k = i
      · subst hik
        rw [List.getElem?_set_self (by omega)] at hx'
        cases hx'
        rw [hu] at hu'; cases hu'
        exact ⟨c1, he, c3, c4, c5, c6⟩
      · rw [List.getElem?_set_ne hik] at hx'
        obtain ⟨e1, e2, e3, e4, e5, e6⟩ := b3 i _ _ hu' hx'
        refine ⟨e1, hE e2 sp ?_, e3, e4, e5, e6⟩
        have hil : i < xs.length := (List.getElem?_eq_some_iff.1 hx').1
        rcases Nat.lt_or_gt_of_ne hik with h | h
        · have := b4 k i h hil; omega
        · have := b4 i k h hk; omega
end
end Go.Proofs.Ytjgghiniajmfjaa
