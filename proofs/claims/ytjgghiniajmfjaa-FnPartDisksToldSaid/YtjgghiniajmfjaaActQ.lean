/- ActQ: ActP, ActQ in one text. -/
import Derived.Test.YtjgghiniajmfjaaKDos
namespace Go.Proofs.Ytjgghiniajmfjaa
open Go.RowKit
set_option linter.unusedVariables false
set_option linter.unusedSimpArgs false
/-! What is read of a disk after an operation: plain lemmas. No condition. -/
theorem fIx_mem {xs : List FileR} (hs : Sorted xs) {x : FileR} (hx : x ∈ xs) : fHas xs x.f0 = true ∧ fTx xs x.f0 = x.f1 := by
  obtain ⟨k, hk, rfl⟩ := List.mem_iff_getElem.1 hx
  have hi : fIx xs xs[k].f0 = k := fIx_hit hk (by rw [fileAt_get hk]) (fun j hj he => by
    have h1 := less_before hs hk j hj
    rw [he, fileAt_get hk] at h1
    exact absurd h1 (by unfold lessB; rw [bless_irr]; decide))
  rw [(fTx_at hi).1, (fTx_at hi).2, fileAt_get hk]
  exact ⟨rfl, rfl⟩
theorem addF_is (xs : List FileR) (a : ActR) : (addF xs a).f0 = a.f1 ∧ (addF xs a).f1 = fTx xs a.f1 ++ a.f2 := by
  rcases fIx_cases xs a.f1 with h | ⟨k, hk, h⟩
  · unfold addF
    rw [if_pos (by rw [h]; decide), (fTx_no h).1]
    exact ⟨rfl, rfl⟩
  · unfold addF actX
    rw [if_neg (by rw [h]; omega), (fTx_at h).1, h]
    exact ⟨(fIx_name h).2, rfl⟩
theorem doB_parts {xs : List FileR} {a : ActR} (h : doB xs a = true) : diskB xs = true ∧ ∃ ys, outA xs a = some ys ∧ doL xs a = ys ∧ diskB ys = true := by
  have h0 := h
  unfold doB at h
  rw [Bool.and_eq_true, Bool.and_eq_true] at h
  cases h2 : outA xs a with
  | none => rw [h2] at h; exact absurd h.2 (by decide)
  | some ys =>
    rw [h2] at h
    exact ⟨h.1.1, ys, rfl, doL_some h.1.1 h.1.2 h2 h.2, h.2⟩
theorem acts_add {xs : List FileR} {a : ActR} (h : doB xs a = true) (hk : a.f0 = 1) : fHas (doL xs a) a.f1 = true ∧ fTx (doL xs a) a.f1 = fTx xs a.f1 ++ a.f2 := by
  obtain ⟨h1, ys, h2, h3, h4⟩ := doB_parts h
  unfold outA at h2
  rw [if_pos hk] at h2
  cases h2
  rw [h3]
  have hm : addF xs a ∈ putF xs (addF xs a) := by unfold putF; simp
  have := fIx_mem (sorted_of h4) hm
  rw [(addF_is xs a).1, (addF_is xs a).2] at this
  exact this
theorem acts_drop {xs : List FileR} {a : ActR} (h : doB xs a = true) (hk : a.f0 = 4) : fHas (doL xs a) a.f1 = false := by
  obtain ⟨h1, ys, h2, h3, h4⟩ := doB_parts h
  unfold outA at h2
  rw [if_neg (by rw [hk]; decide)] at h2
  split at h2
  · exact absurd h2 (by simp)
  · rw [if_neg (by rw [hk]; decide), if_neg (by rw [hk]; decide)] at h2
    cases h2
    rw [h3]
    refine (fTx_no (fIx_miss fun j hj he => ?_)).2
    have hm : fileAt (woF xs a.f1) j ∈ woF xs a.f1 := by rw [fileAt_get hj]; exact List.getElem_mem hj
    have := (List.mem_filter.1 hm).2
    unfold neF at this
    rw [he] at this
    simp at this
/-! Acts one by one against all at once: plain lemmas. No condition. -/
theorem dosGo_ge : ∀ (ls : List ActR) (xs : List FileR) (i : Nat), i ≤ (dosGo ls xs i).2
  | [], xs, i => Nat.le_refl _
  | a :: ls, xs, i => by
    rw [dosGo]
    split
    · have := dosGo_ge ls (doL xs a) (i + 1); omega
    · exact Nat.le_refl _
theorem dos_step {ls : List ActR} {k : Nat} {ys : List FileR} {R : List FileR × Nat} (h : dosGo (ls.drop k) ys k = R) (hk : k < R.2) :
    k < ls.length ∧ doB ys (actAt ls k) = true ∧ dosGo (ls.drop (k + 1)) (doL ys (actAt ls k)) (k + 1) = R := by
  by_cases hl : k < ls.length
  · rw [dosGo_at hl] at h
    cases hb : doB ys (actAt ls k)
    · rw [hb] at h
      simp only [Bool.false_eq_true, if_false] at h
      rw [← h] at hk
      exact absurd hk (Nat.lt_irrefl _)
    · rw [hb] at h
      simp only [if_true] at h
      exact ⟨hl, rfl, h⟩
  · rw [dosGo_end hl] at h
    rw [← h] at hk
    exact absurd hk (Nat.lt_irrefl _)
theorem dos_done {ls : List ActR} {k : Nat} {ys : List FileR} {R : List FileR × Nat} (h : dosGo (ls.drop k) ys k = R) (hk : k = R.2) : ys = R.1 := by
  by_cases hl : k < ls.length
  · rw [dosGo_at hl] at h
    cases hb : doB ys (actAt ls k)
    · rw [hb] at h
      simp only [Bool.false_eq_true, if_false] at h
      rw [← h]
    · rw [hb] at h
      simp only [if_true] at h
      have := dosGo_ge (ls.drop (k + 1)) (doL ys (actAt ls k)) (k + 1)
      rw [h] at this
      omega
  · rw [dosGo_end hl] at h
    rw [← h]
theorem dos_zero (ls : List ActR) (xs : List FileR) : dosGo (ls.drop 0) xs 0 = dosGo ls xs 0 := by rw [List.drop_zero]
end Go.Proofs.Ytjgghiniajmfjaa
