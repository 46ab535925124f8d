/- Rows sorted and told once, plain. No condition. -/
import Derived.Test.YtmdgdnkllclpcaaGreatGSEdge
namespace Go.Proofs.YtmdgdnkllclpcaaGreat
open Go.RowKit
set_option linter.unusedVariables false
set_option linter.unusedSimpArgs false
theorem rowLt_cons {x y : Int} {a b : List Int} : rowLt (x :: a) (y :: b) = true ↔ x < y ∨ (x = y ∧ rowLt a b = true) := by
  unfold rowLt
  rw [decide_eq_true_eq, decide_eq_true_eq, cmpL]
  by_cases h : x < y
  · simp [h]
  · by_cases h2 : y < x
    · simp [h, h2]; omega
    · have : x = y := by omega
      subst this
      simp
theorem rowLt_nil_cons {y : Int} {b : List Int} : rowLt [] (y :: b) = true := by unfold rowLt; rw [decide_eq_true_eq, cmpL]; decide
theorem rowLt_cons_nil {y : Int} {b : List Int} : rowLt (y :: b) [] = false := by unfold rowLt; rw [decide_eq_false_iff_not, cmpL]; decide
theorem rowLt_irrefl (a : List Int) : rowLt a a = false := by unfold rowLt; rw [(cmpL_eq a a).2 rfl]; rfl
theorem rowLt_trans : ∀ {a b c : List Int}, rowLt a b = true → rowLt b c = true → rowLt a c = true
  | [], [], c, h, k => by rw [rowLt_irrefl] at h; cases h
  | [], y :: b, [], h, k => by rw [rowLt_cons_nil] at k; cases k
  | [], y :: b, z :: c, h, k => rowLt_nil_cons
  | x :: a, [], c, h, k => by rw [rowLt_cons_nil] at h; cases h
  | x :: a, y :: b, [], h, k => by rw [rowLt_cons_nil] at k; cases k
  | x :: a, y :: b, z :: c, h, k => by
    rw [rowLt_cons] at h k ⊢
    rcases h with h | ⟨h1, h2⟩
    · rcases k with k | ⟨k1, _⟩
      · left; omega
      · left; omega
    · rcases k with k | ⟨k1, k2⟩
      · left; omega
      · right; exact ⟨by omega, rowLt_trans h2 k2⟩
theorem rowLt_total : ∀ (a b : List Int), rowLt a b = true ∨ a = b ∨ rowLt b a = true
  | [], [] => .inr (.inl rfl)
  | [], y :: b => .inl rowLt_nil_cons
  | x :: a, [] => .inr (.inr rowLt_nil_cons)
  | x :: a, y :: b => by
    rw [rowLt_cons, rowLt_cons]
    by_cases h : x < y
    · exact .inl (.inl h)
    · by_cases h2 : y < x
      · exact .inr (.inr (.inl h2))
      · have : x = y := by omega
        subst this
        rcases rowLt_total a b with k | k | k
        · exact .inl (.inr ⟨rfl, k⟩)
        · exact .inr (.inl (by rw [k]))
        · exact .inr (.inr (.inr ⟨rfl, k⟩))
def SrtL (l : List (List Int)) : Prop := l.Pairwise fun a b => rowLt a b = true
theorem SrtL.uniq : ∀ {l k : List (List Int)}, SrtL l → SrtL k → (∀ x, x ∈ l ↔ x ∈ k) → l = k
  | [], [], _, _, _ => rfl
  | [], y :: k, _, _, h => by have := (h y).2 (by simp); cases this
  | x :: l, [], _, _, h => by have := (h x).1 (by simp); cases this
  | x :: l, y :: k, hl, hk, h => by
    obtain ⟨l1, l2⟩ := List.pairwise_cons.1 hl
    obtain ⟨k1, k2⟩ := List.pairwise_cons.1 hk
    have hxy : x = y := by
      have h1 := (h x).1 (by simp)
      have h2 := (h y).2 (by simp)
      rw [List.mem_cons] at h1 h2
      rcases h1 with h1 | h1
      · exact h1
      · rcases h2 with h2 | h2
        · exact h2.symm
        · have := rowLt_trans (k1 x h1) (l1 y h2)
          rw [rowLt_irrefl] at this; cases this
    subst hxy
    refine congrArg (x :: ·) (SrtL.uniq l2 k2 fun z => ?_)
    have hz := h z
    rw [List.mem_cons, List.mem_cons] at hz
    constructor
    · intro hm
      rcases hz.1 (.inr hm) with e | e
      · subst e; have := l1 z hm; rw [rowLt_irrefl] at this; cases this
      · exact e
    · intro hm
      rcases hz.2 (.inr hm) with e | e
      · subst e; have := k1 z hm; rw [rowLt_irrefl] at this; cases this
      · exact e
/-- A row more, where it belongs; told once. -/
def putL (p : List Int) : List (List Int) → List (List Int)
  | [] => [p]
  | y :: ys => if y = p then y :: ys else if rowLt p y = true then p :: y :: ys else y :: putL p ys
theorem putL_mem (p : List Int) : ∀ (l : List (List Int)) (x : List Int), x ∈ putL p l ↔ x = p ∨ x ∈ l
  | [], x => by simp [putL]
  | y :: ys, x => by
    rw [putL]
    split
    · rename_i h; subst h; simp
    · split
      · simp
      · rw [List.mem_cons, putL_mem p ys, List.mem_cons]
        constructor
        · rintro (h | h | h)
          · exact .inr (.inl h)
          · exact .inl h
          · exact .inr (.inr h)
        · rintro (h | h | h)
          · exact .inr (.inl h)
          · exact .inl h
          · exact .inr (.inr h)
theorem putL_srt (p : List Int) : ∀ {l : List (List Int)}, SrtL l → SrtL (putL p l)
  | [], _ => by simp [putL, SrtL]
  | y :: ys, h => by
    obtain ⟨h1, h2⟩ := List.pairwise_cons.1 h
    rw [putL]
    split
    · exact h
    · rename_i hne
      split
      · rename_i hlt
        refine List.pairwise_cons.2 ⟨fun z hz => ?_, h⟩
        rcases List.mem_cons.1 hz with e | e
        · subst e; exact hlt
        · exact rowLt_trans hlt (h1 z e)
      · rename_i hlt
        refine List.pairwise_cons.2 ⟨fun z hz => ?_, putL_srt p h2⟩
        rcases (putL_mem p ys z).1 hz with e | e
        · subst e
          rcases rowLt_total y z with k | k | k
          · exact k
          · exact absurd k hne
          · exact absurd k hlt
        · exact h1 z e
def sdL (l : List (List Int)) : List (List Int) := l.foldl (fun acc p => putL p acc) []
theorem sdL_snoc (l : List (List Int)) (p : List Int) : sdL (l ++ [p]) = putL p (sdL l) := by simp [sdL]
theorem sdL_go : ∀ (l acc : List (List Int)), SrtL acc → SrtL (l.foldl (fun acc p => putL p acc) acc) ∧ ∀ x, x ∈ l.foldl (fun acc p => putL p acc) acc ↔ x ∈ l ∨ x ∈ acc
  | [], acc, h => ⟨h, by simp⟩
  | p :: l, acc, h => by
    obtain ⟨h1, h2⟩ := sdL_go l (putL p acc) (putL_srt p h)
    refine ⟨h1, fun x => ?_⟩
    rw [List.foldl_cons, h2 x, putL_mem, List.mem_cons]
    constructor
    · rintro (k | k | k)
      · exact .inl (.inr k)
      · exact .inl (.inl k)
      · exact .inr k
    · rintro ((k | k) | k)
      · exact .inr (.inl k)
      · exact .inl k
      · exact .inr (.inr k)
theorem sdL_srt (l : List (List Int)) : SrtL (sdL l) := (sdL_go l [] List.Pairwise.nil).1
theorem sdL_mem (l : List (List Int)) (x : List Int) : x ∈ sdL l ↔ x ∈ l := by
  rw [sdL, (sdL_go l [] List.Pairwise.nil).2 x]; simp
theorem sdL_of {l k : List (List Int)} (h : SrtL k) (hm : ∀ x, x ∈ k ↔ x ∈ l) : k = sdL l := h.uniq (sdL_srt l) fun x => by rw [hm, sdL_mem]
theorem putL_len (p : List Int) : ∀ l : List (List Int), (putL p l).length ≤ l.length + 1
  | [] => by simp [putL]
  | y :: ys => by
    rw [putL]
    split
    · simp
    · split
      · simp
      · have := putL_len p ys; simp; omega
theorem sdL_len (l : List (List Int)) : (sdL l).length ≤ l.length := by
  have h : ∀ (l acc : List (List Int)), (l.foldl (fun acc p => putL p acc) acc).length ≤ acc.length + l.length := by
    intro l
    induction l with
    | nil => intro acc; simp
    | cons p l ih => intro acc; have := ih (putL p acc); have h2 := putL_len p acc; simp only [List.foldl_cons, List.length_cons]; omega
  have := h l []
  simpa [sdL] using this
end Go.Proofs.YtmdgdnkllclpcaaGreat
