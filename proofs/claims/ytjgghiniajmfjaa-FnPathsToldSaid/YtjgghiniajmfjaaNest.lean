/- Rows whose elements hold rows: what they read as (NestR), owned rows with an interval of blocks for each element (NestP, NestW). No condition. -/
import Derived.Test.YtjgghiniajmfjaaKApp
namespace Go.Proofs.Ytjgghiniajmfjaa
open Go.RowKit
set_option linter.unusedVariables false
set_option linter.unusedSimpArgs false

def nAt {α : Type} [Inhabited α] (xs : List α) (k : Nat) : α := xs.getD k default
theorem nAt_get {α : Type} [Inhabited α] {xs : List α} {k : Nat} (h : k < xs.length) : xs[k]? = some (nAt xs k) := by simp [nAt, List.getD, List.getElem?_eq_getElem h]
theorem nAt_mem {α : Type} [Inhabited α] {xs : List α} {p : α → Prop} (h : ∀ x ∈ xs, p x) (k : Nat) (hk : k < xs.length) : p (nAt xs k) := by
  have := h xs[k] (List.getElem_mem hk)
  simpa [nAt, List.getD, List.getElem?_eq_getElem hk] using this
def nSum {α : Type} (f : α → Nat) (xs : List α) (k : Nat) : Nat := ((xs.take k).map f).sum
theorem nSum_succ {α : Type} [Inhabited α] (f : α → Nat) (xs : List α) (k : Nat) (h : k < xs.length) : nSum f xs (k + 1) = nSum f xs k + f (nAt xs k) := by
  unfold nSum nAt
  rw [List.take_succ_eq_append_getElem h, List.map_append, List.sum_append]
  simp [List.getD, List.getElem?_eq_getElem h]
theorem nSum_le {α : Type} (f : α → Nat) (xs : List α) (k : Nat) : nSum f xs k ≤ nSum f xs xs.length := by
  unfold nSum
  rw [List.take_length]
  conv => rhs; rw [← List.take_append_drop k xs]
  rw [List.map_append, List.sum_append]
  omega
def nBulk {α : Type} (f : α → Nat) (xs : List α) : Nat := xs.length + nSum f xs xs.length
theorem take_next {α : Type} [Inhabited α] (xs : List α) (k : Nat) (h : k < xs.length) : xs.take (k + 1) = xs.take k ++ [nAt xs k] := by
  rw [List.take_succ_eq_append_getElem h]
  simp [nAt, List.getD, List.getElem?_eq_getElem h]

theorem flatten_at {sz : Nat} : ∀ {us : List (List Value)}, (∀ u ∈ us, u.length = sz) → ∀ (k : Nat) u, us[k]? = some u → ∀ j, j < sz → us.flatten[k * sz + j]? = u[j]?
  | [], _, k, u, h, _, _ => by simp at h
  | a :: us, hl, k, u, h, j, hj => by
    have ha : a.length = sz := hl a (by simp)
    rw [List.flatten_cons]
    cases k with
    | zero =>
      simp at h
      subst h
      rw [Nat.zero_mul, Nat.zero_add, List.getElem?_append_left (by omega)]
    | succ k =>
      rw [List.getElem?_append_right (by rw [ha, Nat.add_mul]; omega), ha, show (k + 1) * sz + j - sz = k * sz + j by rw [Nat.add_mul]; omega]
      exact flatten_at (fun u hu => hl u (by simp [hu])) k u (by simpa using h) j hj
theorem flatten_len {sz : Nat} {us : List (List Value)} (h : ∀ u ∈ us, u.length = sz) : us.flatten.length = us.length * sz := by
  induction us with
  | nil => simp
  | cons a us ih => rw [List.flatten_cons, List.length_append, ih (fun u hu => h u (by simp [hu])), h a (by simp), List.length_cons, Nat.add_mul]; omega
theorem mem_at {α : Type} {l : List α} {p : α → Prop} (h : ∀ (k : Nat) u, l[k]? = some u → p u) : ∀ u ∈ l, p u := by
  intro u hu
  obtain ⟨k, hk, rfl⟩ := List.getElem_of_mem hu
  exact h k _ (List.getElem?_eq_getElem hk)

section
variable {α : Type}
/-- A slice whose elements, sz cells each, read as data. -/
def NestR (E : World → List Value → α → Prop) (sz : Nat) (w : World) (v : Value) (xs : List α) : Prop :=
  ∃ us : List (List Value), us.length = xs.length ∧ RdS w sz v xs.length us.flatten ∧ ∀ (k : Nat) u x, us[k]? = some u → xs[k]? = some x → u.length = sz ∧ E w u x
theorem NestR.fr {E : World → List Value → α → Prop} (hE : ∀ {w w' u x}, E w u x → Fr w w' → E w' u x) {sz : Nat} {w w' : World} {v : Value} {xs : List α} (h : NestR E sz w v xs) (hf : Fr w w') : NestR E sz w' v xs := by
  obtain ⟨us, h1, h2, h3⟩ := h
  exact ⟨us, h1, h2.fr hf, fun k u x hu hx => ⟨(h3 k u x hu hx).1, hE (h3 k u x hu hx).2 hf⟩⟩
theorem NestR.le {E : World → List Value → α → Prop} {sz : Nat} {w : World} {v : Value} {xs : List α} (h : NestR E sz w v xs) : xs.length ≤ 9223372036854775807 := by
  obtain ⟨us, h1, h2, h3⟩ := h; exact h2.le
theorem NestR.lens {E : World → List Value → α → Prop} {sz : Nat} {w : World} {xs : List α} {us : List (List Value)} (h1 : us.length = xs.length) (h3 : ∀ (k : Nat) u x, us[k]? = some u → xs[k]? = some x → u.length = sz ∧ E w u x) : ∀ u ∈ us, u.length = sz :=
  mem_at fun k u hu => by
    have hk : k < xs.length := h1 ▸ (List.getElem?_eq_some_iff.1 hu).1
    exact (h3 k u _ hu (List.getElem?_eq_getElem hk)).1
theorem NestR.one [Inhabited α] {E : World → List Value → α → Prop} {sz : Nat} {w : World} {v : Value} {xs : List α} (h : NestR E sz w v xs) :
    ∃ ao b o cap, v = .slice ao xs.length cap ∧ xs.length ≤ cap ∧ cap ≤ 9223372036854775807 ∧ (0 < xs.length → ao = some ⟨b, o, none⟩ ∧ b < w.heap.size ∧ ∀ k, k < xs.length → ∃ u, u.length = sz ∧ E w u (nAt xs k) ∧ ∀ j c, j < sz → u[j]? = some c → w.cell? ⟨b, o + k * sz + j, none⟩ = some c) := by
  obtain ⟨us, h1, h2, h3⟩ := h
  obtain ⟨h4, ao, cap, rfl, h5, h6, h7⟩ := h2
  have hm : cap ≤ 9223372036854775807 := by unfold maxLen at h6; omega
  rcases Nat.eq_zero_or_pos xs.length with h0 | h0
  · exact ⟨ao, 0, 0, cap, rfl, h5, hm, fun h => absurd h (by omega)⟩
  · obtain ⟨b, o, rfl, hb, hc⟩ := h7 h0
    refine ⟨_, b, o, cap, rfl, h5, hm, fun _ => ⟨rfl, hb, fun k hk => ?_⟩⟩
    have hu : us[k]? = some us[k] := List.getElem?_eq_getElem (by omega)
    obtain ⟨h8, h9⟩ := h3 k _ _ hu (nAt_get hk)
    refine ⟨us[k], h8, h9, fun j c hj hc' => ?_⟩
    have hlt : k * sz + j < xs.length * sz := by
      have := Nat.mul_le_mul_right sz (show k + 1 ≤ xs.length by omega)
      rw [Nat.add_mul] at this
      omega
    rw [Nat.add_assoc, hc _ hlt, flatten_at (NestR.lens h1 h3) k _ hu j hj]
    exact hc'

/-- A row of the call's own of n elements: the first of them built, each with its own blocks; the cells zs stand for the rest. -/
def NestP (E : World → Nat → Nat → List Value → α → Prop) (T : TypeId) (sz : Nat) (w : World) (lo hi : Nat) (v : Value) (n : Nat) (zs : List Value) (xs : List α) : Prop :=
  ∃ (us : List (List Value)) (los his : Nat → Nat), us.length = xs.length ∧ OwW w lo hi T sz v n (us.flatten ++ zs) ∧
    (∀ (k : Nat) u x, us[k]? = some u → xs[k]? = some x → u.length = sz ∧ E w (los k) (his k) u x ∧ lo ≤ los k ∧ los k ≤ his k ∧ his k ≤ hi ∧ ∀ g, v.ownBlock = some g → g < los k ∨ his k ≤ g) ∧
    ∀ j k, j < k → k < xs.length → his j ≤ los k
def NestW (E : World → Nat → Nat → List Value → α → Prop) (T : TypeId) (sz : Nat) (w : World) (lo hi : Nat) (v : Value) (xs : List α) : Prop := NestP E T sz w lo hi v xs.length [] xs
section
variable {E : World → Nat → Nat → List Value → α → Prop} {T : TypeId} {sz : Nat} {w w' : World} {lo hi n : Nat} {v : Value} {zs : List Value} {xs : List α}
theorem NestP.span (hE : ∀ {w w' l h u x a b}, E w l h u x → Span a b w w' → (h ≤ a ∨ b ≤ l) → E w' l h u x) (h : NestP E T sz w lo hi v n zs xs) {a b : Nat} (s : Span a b w w') (hd : hi ≤ a ∨ b ≤ lo) : NestP E T sz w' lo hi v n zs xs := by
  obtain ⟨us, los, his, h1, h2, h3, h4⟩ := h
  exact ⟨us, los, his, h1, h2.span s hd, fun k u x hu hx => by obtain ⟨a1, a2, a3, a4, a5, a6⟩ := h3 k u x hu hx; exact ⟨a1, hE a2 s (by omega), a3, a4, a5, a6⟩, h4⟩
theorem NestP.fr (hE : ∀ {w w' l h u x a b}, E w l h u x → Span a b w w' → (h ≤ a ∨ b ≤ l) → E w' l h u x) (h : NestP E T sz w lo hi v n zs xs) (hf : Fr w w') : NestP E T sz w' lo hi v n zs xs := by
  obtain ⟨us, los, his, h1, h2, h3, h4⟩ := h
  exact ⟨us, los, his, h1, h2.fr hf, fun k u x hu hx => by obtain ⟨a1, a2, a3, a4, a5, a6⟩ := h3 k u x hu hx; exact ⟨a1, hE a2 (Span.of_fr (lo := his k) (hi := his k) hf) (.inl (Nat.le_refl _)), a3, a4, a5, a6⟩, h4⟩
theorem Ab.mono' {lo lo' : Nat} {w w' : World} (h : Ab lo w w') (hl : lo ≤ lo') : Ab lo' w w' := ⟨h.1, fun k hk hs => h.2 k (Nat.le_trans hl hk) hs⟩
theorem NestP.ab (hE : ∀ {w w' l h u x}, E w l h u x → Ab l w w' → E w' l h u x) (h : NestP E T sz w lo hi v n zs xs) (hf : Ab lo w w') : NestP E T sz w' lo hi v n zs xs := by
  obtain ⟨us, los, his, h1, h2, h3, h4⟩ := h
  exact ⟨us, los, his, h1, h2.ab hf, fun k u x hu hx => by obtain ⟨a1, a2, a3, a4, a5, a6⟩ := h3 k u x hu hx; exact ⟨a1, hE a2 (hf.mono' a3), a3, a4, a5, a6⟩, h4⟩
theorem NestP.mono (h : NestP E T sz w lo hi v n zs xs) {lo' hi' : Nat} (hl : lo' ≤ lo) (hh : hi ≤ hi') : NestP E T sz w lo' hi' v n zs xs := by
  obtain ⟨us, los, his, h1, h2, h3, h4⟩ := h
  exact ⟨us, los, his, h1, h2.mono hl hh, fun k u x hu hx => by obtain ⟨a1, a2, a3, a4, a5, a6⟩ := h3 k u x hu hx; exact ⟨a1, a2, by omega, a4, by omega, a6⟩, h4⟩
theorem NestP.none_yet (h : OwW w lo hi T sz v n zs) : NestP E T sz w lo hi v n zs [] :=
  ⟨[], fun _ => 0, fun _ => 0, rfl, by simpa using h, fun k u x hu => by simp at hu, fun j k _ hk => by simp at hk⟩
theorem NestP.lens {us : List (List Value)} {p : Nat → List Value → α → Prop} (h1 : us.length = xs.length) (h3 : ∀ (k : Nat) u x, us[k]? = some u → xs[k]? = some x → u.length = sz ∧ p k u x) : ∀ u ∈ us, u.length = sz :=
  mem_at fun k u hu => by
    have hk : k < xs.length := h1 ▸ (List.getElem?_eq_some_iff.1 hu).1
    exact (h3 k u _ hu (List.getElem?_eq_getElem hk)).1
theorem NestP.spot {g cap : Nat} (h : NestP E T sz w lo hi (.slice (some ⟨g, 0, none⟩) n cap) n zs xs) (k : Nat) (hk : k < n * sz) : w.frozen? ⟨g, k, none⟩ = false ∧ ∃ u, w.cell? ⟨g, k, none⟩ = some u := by
  obtain ⟨us, los, his, h1, h2, h3, h4⟩ := h
  exact ⟨h2.1.frozenAt k, owns_cell h2.1 k hk⟩
theorem NestP.block {g cap : Nat} (h : NestP E T sz w lo hi (.slice (some ⟨g, 0, none⟩) n cap) n zs xs) : lo ≤ g ∧ g < hi ∧ g < w.heap.size := by
  obtain ⟨us, los, his, h1, h2, h3, h4⟩ := h
  exact ⟨(h2.2 g rfl).1, (h2.2 g rfl).2, (h2.1.lt g rfl).2⟩
theorem NestP.stored (hE : ∀ {w w' l h u x a b}, E w l h u x → Span a b w w' → (h ≤ a ∨ b ≤ l) → E w' l h u x) {g cap : Nat} (h : NestP E T sz w lo hi (.slice (some ⟨g, 0, none⟩) n cap) n zs xs) (j : Nat) (c : Value) (hj : j < zs.length) {i : Nat} (hi' : i = xs.length * sz + j) :
    NestP E T sz (w.setCell ⟨g, i, none⟩ c) lo hi (.slice (some ⟨g, 0, none⟩) n cap) n (zs.set j c) xs := by
  subst hi'
  obtain ⟨us, los, his, h1, h2, h3, h4⟩ := h
  have hl := flatten_len (NestP.lens h1 h3)
  have hs := h2.1.stored (xs.length * sz + j) c
  rw [List.set_append_right _ _ (by rw [hl, h1]; omega), hl, h1, Nat.add_sub_cancel_left] at hs
  have sp : Span g (g + 1) w (w.setCell ⟨g, xs.length * sz + j, none⟩ c) := Span.of_gr hs.2 (fun k hk => by cases hk; omega)
  refine ⟨us, los, his, h1, ⟨hs.1, h2.2⟩, fun k u x hu hx => ?_, h4⟩
  obtain ⟨a1, a2, a3, a4, a5, a6⟩ := h3 k u x hu hx
  exact ⟨a1, hE a2 sp (by have := a6 g rfl; omega), a3, a4, a5, a6⟩
theorem NestP.grow {u : List Value} {x : α} {l1 h1 hi' : Nat} (h : NestP E T sz w lo hi v n (u ++ zs) xs) (hu : u.length = sz) (he : E w l1 h1 u x) (hlo : lo ≤ l1) (a1 : hi ≤ l1) (a2 : l1 ≤ h1) (a3 : h1 ≤ hi') : NestP E T sz w lo hi' v n zs (xs ++ [x]) := by
  obtain ⟨us, los, his, b1, b2, b3, b4⟩ := h
  refine ⟨us ++ [u], fun k => if k = xs.length then l1 else los k, fun k => if k = xs.length then h1 else his k, by simp [b1], by simpa using b2.mono (Nat.le_refl _) (by omega), fun k u' x' hu' hx' => ?_, fun j k hjk hk => ?_⟩
  · by_cases hk : k = xs.length
    · subst hk
      rw [List.getElem?_append_right (by omega), b1, Nat.sub_self] at hu'
      rw [List.getElem?_append_right (by omega), Nat.sub_self] at hx'
      simp at hu' hx'
      subst hu' hx'
      simp only [if_true]
      exact ⟨hu, he, hlo, a2, a3, fun g hg => by have := b2.2 g hg; omega⟩
    · have hk2 : k < xs.length := by
        have := (List.getElem?_eq_some_iff.1 hx').1
        simp at this
        omega
      rw [List.getElem?_append_left (by omega)] at hu' hx'
      simp only [if_neg hk]
      obtain ⟨c1, c2, c3, c4, c5, c6⟩ := b3 k u' x' hu' hx'
      exact ⟨c1, c2, c3, c4, by omega, c6⟩
  · simp at hk
    simp only [if_neg (show ¬ j = xs.length by omega)]
    split
    · rename_i hk2
      have huj : us[j]? = some (us[j]'(by omega)) := List.getElem?_eq_getElem _
      obtain ⟨c1, c2, c3, c4, c5, c6⟩ := b3 j _ _ huj (List.getElem?_eq_getElem (by omega))
      omega
    · exact b4 j k hjk (by omega)
theorem NestP.rd {E' : World → List Value → α → Prop} (hE : ∀ {w l h u x}, E w l h u x → E' w u x) (h : NestW E T sz w lo hi v xs) : NestR E' sz w v xs := by
  obtain ⟨us, los, his, h1, h2, h3, h4⟩ := h
  exact ⟨us, h1, by simpa using h2.rd, fun k u x hu hx => ⟨(h3 k u x hu hx).1, hE (h3 k u x hu hx).2.1⟩⟩
theorem NestW.val (h : NestW E T sz w lo hi v xs) : ∃ ao cap, v = .slice ao xs.length cap := by
  obtain ⟨us, los, his, h1, h2, h3, h4⟩ := h; exact h2.val
end
end
end Go.Proofs.Ytjgghiniajmfjaa
