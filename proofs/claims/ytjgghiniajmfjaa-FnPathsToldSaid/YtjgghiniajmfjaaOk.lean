/- Contracts of the functions on plain records: bounds, walks, pushes, packets. Each returns the value of a plain function; no old memory turns. No condition. -/
import Derived.Test.YtjgghiniajmfjaaKBase
namespace Go.Proofs.Ytjgghiniajmfjaa
open Go.RowKit
set_option linter.unusedVariables false
set_option linter.unusedSimpArgs false

theorem l01In_any (n lo hi : Int) (w : World) :
    Calls Try.prog 94 #[.int .i64 n, .int .i64 lo, .int .i64 hi] w fun e w' => e = .returned (.bool (decide (lo ≤ n ∧ n ≤ hi))) ∧ w = w' := by
  go_enter Try.func94, Try.ntmps94
  go_wp2
  all_goals go_ret
  all_goals exact ⟨ret_bool (by rw [Bool.eq_iff_iff]; simp; omega), rfl⟩

def walkB (a s t x : Int) : Bool := decide (0 ≤ a ∧ a ≤ 3 ∧ 0 ≤ s ∧ s ≤ 11 ∧ 0 ≤ t ∧ t ≤ 11 ∧ 0 ≤ x ∧ x ≤ 23)
theorem specWalkOk_any (a s t x : Int) (w : World) :
    Calls Try.prog 79 #[.agg #[.int .i64 a, .int .i64 s, .int .i64 t, .int .i64 x]] w fun e w' => e = .returned (.bool (walkB a s t x)) ∧ Fr w w' := by
  go_enter Try.func79, Try.ntmps79
  go_wp2_with (go_at_call 94; refine (l01In_any _ _ _ _).mono ?_; rintro e w' ⟨rfl, rfl⟩)
  all_goals go_ret
  all_goals exact ⟨ret_bool (by rw [Bool.eq_iff_iff]; simp [walkB]; omega), by repeat (first | (with_reducible exact Fr.refl _) | (with_reducible assumption) | (with_reducible refine Fr.drewN ?_ _) | (with_reducible refine Fr.drew ?_) | (with_reducible refine Fr.alloc ?_ _) | (with_reducible refine Fr.setCell ?_ (by (first | (with_reducible assumption) | omega | (simp only [World.size_alloc, World.size_setCell, World.size_drew, World.heap_drewN]; omega) | (simp; done) | (simp; omega))) _) | (with_reducible refine Fr.trans ?_ (by with_reducible assumption)))⟩
theorem implWalkOk_any (a s t x : Int) (w : World) :
    Calls Try.prog 78 #[.agg #[.int .i64 a, .int .i64 s, .int .i64 t, .int .i64 x]] w fun e w' => e = .returned (.bool (walkB a s t x)) ∧ Fr w w' := by
  go_enter Try.func78, Try.ntmps78
  go_wp2
  all_goals go_ret
  all_goals exact ⟨ret_bool (by rw [Bool.eq_iff_iff]; simp [walkB]; omega), by repeat (first | (with_reducible exact Fr.refl _) | (with_reducible assumption) | (with_reducible refine Fr.drewN ?_ _) | (with_reducible refine Fr.drew ?_) | (with_reducible refine Fr.alloc ?_ _) | (with_reducible refine Fr.setCell ?_ (by (first | (with_reducible assumption) | omega | (simp only [World.size_alloc, World.size_setCell, World.size_drew, World.heap_drewN]; omega) | (simp; done) | (simp; omega))) _) | (with_reducible refine Fr.trans ?_ (by with_reducible assumption)))⟩
end Go.Proofs.Ytjgghiniajmfjaa
