/- Sorted rows told once: what slices.CompactFunc keeps, plain. No condition. -/
import Derived.Test.YtmdgdnkllclpcaaGreatBgs
namespace Go.Proofs.YtmdgdnkllclpcaaGreat
open Go.RowKit
set_option linter.unusedVariables false
set_option linter.unusedSimpArgs false
def UpL (M : List BI) : Prop := M.Pairwise fun x y => rowLt y.r x.r = false
/-- C is what is kept of M: of equal rows one; the last one kept has the last one's row. -/
structure Kept (C M : List BI) : Prop where
  sub : ∀ x ∈ C, x ∈ M
  nod : (M.map BI.g).Nodup → (C.map BI.g).Nodup
  srt : SrtL (C.map BI.r)
  all : ∀ x ∈ M, x.r ∈ C.map BI.r
theorem Kept.one (x : BI) : Kept [x] [x] := ⟨fun y h => h, fun h => h, by simp [SrtL], fun y h => by simp at h; simp [h]⟩
theorem Kept.same {C M : List BI} {x : BI} (h : Kept C M) (hx : x.r ∈ C.map BI.r) : Kept C (M ++ [x]) := by
  refine ⟨fun y hy => List.mem_append.2 (.inl (h.sub y hy)), fun hn => h.nod ?_, h.srt, fun y hy => ?_⟩
  · rw [List.map_append] at hn
    exact (List.nodup_append.1 hn).1
  · rcases List.mem_append.1 hy with hy | hy
    · exact h.all y hy
    · rw [List.mem_singleton] at hy; subst hy; exact hx
theorem Kept.new {C M : List BI} {x : BI} (h : Kept C M) (hlt : ∀ y ∈ M, rowLt y.r x.r = true) : Kept (C ++ [x]) (M ++ [x]) := by
  refine ⟨fun y hy => ?_, fun hn => ?_, ?_, fun y hy => ?_⟩
  · rcases List.mem_append.1 hy with hy | hy
    · exact List.mem_append.2 (.inl (h.sub y hy))
    · exact List.mem_append.2 (.inr hy)
  · rw [List.map_append, List.nodup_append] at hn ⊢
    refine ⟨h.nod hn.1, hn.2.1, fun a ha b hb => ?_⟩
    obtain ⟨y, hy, rfl⟩ := List.mem_map.1 ha
    exact hn.2.2 _ (List.mem_map.2 ⟨y, h.sub y hy, rfl⟩) b hb
  · unfold SrtL
    rw [List.map_append, List.pairwise_append]
    refine ⟨h.srt, by simp, fun a ha b hb => ?_⟩
    obtain ⟨y, hy, rfl⟩ := List.mem_map.1 ha
    simp at hb
    subst hb
    exact hlt y (h.sub y hy)
  · rw [List.map_append, List.mem_append]
    rcases List.mem_append.1 hy with hy | hy
    · exact .inl (h.all y hy)
    · rw [List.mem_singleton] at hy; subst hy; exact .inr (by simp)
/-- In rising rows: what differs from the row before is greater than all before. -/
theorem UpL.gt {M : List BI} {k : Nat} (h : UpL M) (hk : k + 1 < M.length) (hne : (biAt M (k + 1)).r ≠ (biAt M k).r) : ∀ y ∈ M.take (k + 1), rowLt y.r (biAt M (k + 1)).r = true := fun y hy => by
  have e1 : biAt M (k + 1) = M[k + 1] := by simp [biAt, List.getD, hk]
  have e0 : biAt M k = M[k] := by simp [biAt, List.getD, show k < M.length by omega]
  rw [e1, e0] at hne
  rw [e1]
  have hp := List.pairwise_iff_getElem.1 h
  have h1 : rowLt M[k].r M[k + 1].r = true := by
    have := hp k (k + 1) (by omega) hk (by omega)
    rcases rowLt_total M[k].r M[k + 1].r with q | q | q
    · exact q
    · exact absurd q.symm hne
    · rw [q] at this; cases this
  obtain ⟨i, hi, rfl⟩ := List.getElem_of_mem hy
  rw [List.length_take] at hi
  rw [List.getElem_take]
  by_cases hik : i = k
  · subst hik; exact h1
  · have h2 := hp i k (by omega) (by omega) (by omega)
    rcases rowLt_total M[i].r M[k].r with q | q | q
    · exact rowLt_trans q h1
    · rw [q]; exact h1
    · rw [q] at h2; cases h2
theorem Kept.rows {C M : List BI} {l : List (List Int)} (h : Kept C M) (hm : ∀ x, x ∈ M.map BI.r ↔ x ∈ l) : C.map BI.r = sdL l := by
  refine sdL_of h.srt fun x => ?_
  rw [← hm x]
  constructor
  · intro hx
    obtain ⟨y, hy, rfl⟩ := List.mem_map.1 hx
    exact List.mem_map.2 ⟨y, h.sub y hy, rfl⟩
  · intro hx
    obtain ⟨y, hy, rfl⟩ := List.mem_map.1 hx
    exact h.all y hy
end Go.Proofs.YtmdgdnkllclpcaaGreat
