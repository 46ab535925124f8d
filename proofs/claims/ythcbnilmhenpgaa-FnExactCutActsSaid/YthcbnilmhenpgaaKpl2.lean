/- Disks, plain: what putting a file in its place is, by the place at which the walk stops. Plain lemmas. No condition. -/
import Derived.Test.YthcbnilmhenpgaaKpl
import Derived.Test.YthcbnilmhenpgaaIns
namespace Go.Proofs.Ythcbnilmhenpgaa
open Go.RowKit
set_option linter.unusedVariables false
set_option linter.unusedSimpArgs false
theorem box_far {w : World} {b q i : Nat} {X : Array Value} {T : TypeId} (h : Box w b X T) (hp : b ≠ q) (v : Value) : Box (w.setCell ⟨q, i, none⟩ v) b X T := h.other (p := ⟨q, i, none⟩) hp v
theorem less_gt {nm : ByteArray} {y : FileR} (h : lessB nm y.f0 = true) : gtF nm y = true := by
  unfold gtF
  have h1 : lessB y.f0 nm = false := by
    cases hc : lessB y.f0 nm
    · rfl
    · have := bless_trans h hc
      rw [bless_irr] at this
      cases this
  have h2 : (y.f0.toList == nm.toList) = false := by
    rw [beq_eq_false_iff_ne]
    intro e
    unfold lessB at h
    rw [e, bless_irr] at h
    cases h
  rw [h1, h2]
  rfl
theorem not_lt_of_gt {nm : ByteArray} {y : FileR} (h : gtF nm y = true) : ltF nm y = false := by
  cases hc : ltF nm y
  · rfl
  · rw [gtF_not_lt hc] at h; cases h
theorem filter_parts {p : FileR → Bool} {A B : List FileR} (hA : ∀ x ∈ A, p x = true) (hB : ∀ x ∈ B, p x = false) : (A ++ B).filter p = A := by
  rw [List.filter_append, List.filter_eq_self.2 hA, List.filter_eq_nil_iff.2 (fun x hx => by rw [hB x hx]; simp), List.append_nil]
theorem filter_parts' {p : FileR → Bool} {A B : List FileR} (hA : ∀ x ∈ A, p x = false) (hB : ∀ x ∈ B, p x = true) : (A ++ B).filter p = B := by
  rw [List.filter_append, List.filter_eq_nil_iff.2 (fun x hx => by rw [hA x hx]; simp), List.filter_eq_self.2 hB, List.nil_append]
theorem take_lt {xs : List FileR} {nm : ByteArray} {k : Nat} (hk : k ≤ xs.length) (h : ∀ j, j < k → lessB (fileAt xs j).f0 nm = true) : ∀ x ∈ xs.take k, ltF nm x = true := by
  intro x hx
  obtain ⟨j, hj, rfl⟩ := List.mem_iff_getElem.1 hx
  rw [List.length_take] at hj
  have := h j (by omega)
  rw [fileAt_get (by omega)] at this
  rw [List.getElem_take]
  exact this
theorem putF_end {xs : List FileR} {f : FileR} (h : ∀ j, j < xs.length → lessB (fileAt xs j).f0 f.f0 = true) : putF xs f = insL xs xs.length f := by
  have h1 := take_lt (Nat.le_refl _) h
  rw [List.take_length] at h1
  unfold putF insL
  rw [List.filter_eq_self.2 h1, List.filter_eq_nil_iff.2 (fun x hx => by rw [gtF_not_lt (h1 x hx)]; simp), List.take_length, List.drop_length]
theorem putF_mid {xs : List FileR} {f : FileR} {k : Nat} (hs : Sorted xs) (hk : k < xs.length) (h : ∀ j, j < k → lessB (fileAt xs j).f0 f.f0 = true) (h1 : lessB (fileAt xs k).f0 f.f0 = false) (h2 : ¬ (fileAt xs k).f0 = f.f0) : putF xs f = insL xs k f := by
  have hA := take_lt (by omega) h
  have hx : gtF f.f0 (fileAt xs k) = true := less_gt (bless_tri h1 (fun e => h2 (WideShapes.bytes_inj (by rw [← Lib.toList_data, ← Lib.toList_data]; exact e))))
  have hB : ∀ y ∈ xs.drop k, gtF f.f0 y = true := by
    intro y hy
    obtain ⟨j, hj, rfl⟩ := List.mem_iff_getElem.1 hy
    rw [List.length_drop] at hj
    rw [List.getElem_drop]
    rcases Nat.eq_zero_or_pos j with rfl | h0
    · rw [fileAt_get hk] at hx; exact hx
    · have := (List.pairwise_iff_getElem.1 hs) k (k + j) hk (by omega) (by omega)
      rw [fileAt_get hk] at hx
      exact less_gt (bless_trans (gtF_less hx) this)
  have e : xs = xs.take k ++ xs.drop k := (List.take_append_drop k xs).symm
  unfold putF insL
  conv => lhs; rw [e]
  rw [filter_parts hA (fun y hy => not_lt_of_gt (hB y hy)), filter_parts' (fun x hx => gtF_not_lt (hA x hx)) hB]
theorem putF_same {xs : List FileR} {f : FileR} {k : Nat} (hs : Sorted xs) (hk : k < xs.length) (h : ∀ j, j < k → lessB (fileAt xs j).f0 f.f0 = true) (h2 : (fileAt xs k).f0 = f.f0) : putF xs f = xs.set k f := by
  have hA := take_lt (by omega) h
  have hx1 : ltF f.f0 (fileAt xs k) = false := by unfold ltF lessB; rw [h2]; exact bless_irr _
  have hx2 : gtF f.f0 (fileAt xs k) = false := by unfold gtF; rw [h2]; simp
  have hB : ∀ y ∈ xs.drop (k + 1), gtF f.f0 y = true := by
    intro y hy
    obtain ⟨j, hj, rfl⟩ := List.mem_iff_getElem.1 hy
    rw [List.length_drop] at hj
    rw [List.getElem_drop]
    have := (List.pairwise_iff_getElem.1 hs) k (k + 1 + j) hk (by omega) (by omega)
    rw [fileAt_get hk] at h2
    rw [h2] at this
    exact less_gt this
  rw [fileAt_get hk] at hx1 hx2
  have e : xs = xs.take k ++ (xs[k] :: xs.drop (k + 1)) := by rw [List.getElem_cons_drop, List.take_append_drop]
  rw [List.set_eq_take_append_cons_drop, if_pos hk]
  unfold putF
  conv => lhs; rw [e]
  rw [List.filter_append, List.filter_append, List.filter_cons, List.filter_cons, hx1, hx2]
  simp only [Bool.false_eq_true, if_false]
  have e1 : (xs.drop (k + 1)).filter (ltF f.f0) = [] := List.filter_eq_nil_iff.2 (fun y hy => by rw [not_lt_of_gt (hB y hy)]; simp)
  have e2 : (xs.take k).filter (gtF f.f0) = [] := List.filter_eq_nil_iff.2 (fun x hx => by rw [gtF_not_lt (hA x hx)]; simp)
  rw [List.filter_eq_self.2 hA, e1, e2, List.filter_eq_self.2 hB]
  simp
theorem set_cells (xs : List FileR) (k : Nat) (f : FileR) (hk : k < xs.length) : (xs.set k f).flatMap FileR.cells = (((xs.flatMap FileR.cells).set (k * 3) (.string f.f0)).set (k * 3 + 1) (.string f.f1)).set (k * 3 + 2) (.int .i64 f.f2) := by
  rw [List.set_eq_take_append_cons_drop, if_pos hk, List.flatMap_append, List.flatMap_cons, (file_takes xs k).1, (file_takes xs (k + 1)).2]
  have hl := file_len xs
  generalize xs.flatMap FileR.cells = C at hl
  refine List.ext_getElem? fun j => ?_
  simp only [List.getElem?_append, List.getElem?_set, List.getElem?_take, List.getElem?_drop, List.length_take, List.length_set, FileR.cells]
  have hmin : min (k * 3) C.length = k * 3 := by omega
  rw [hmin]
  by_cases h1 : j < k * 3
  · simp only [h1, if_true]
    rw [if_neg (by omega), if_neg (by omega), if_neg (by omega)]
  · simp only [h1, if_false]
    rcases (show j = k * 3 ∨ j = k * 3 + 1 ∨ j = k * 3 + 2 ∨ k * 3 + 3 ≤ j by omega) with rfl | rfl | rfl | h2
    · simp [show k * 3 < C.length by omega]
    · simp [show k * 3 + 1 < C.length by omega]
    · simp [show k * 3 + 2 < C.length by omega]
    · rw [if_neg (by simp; omega), if_neg (by omega), if_neg (by omega), if_neg (by omega)]
      congr 1
      simp
      omega
end Go.Proofs.Ythcbnilmhenpgaa
