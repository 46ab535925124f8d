/- Contracts of the functions on plain records: bounds, walks, pushes, packets. Each returns the value of a plain function; no old memory turns. No condition. -/
import Derived.Test.YtlomckhfdcdljaaBase
namespace Go.Proofs.Ytlomckhfdcdljaa
open Go.RowKit
set_option linter.unusedVariables false
set_option linter.unusedSimpArgs false

theorem l01In_any (n lo hi : Int) (w : World) :
    Calls Try.prog 60 #[.int .i64 n, .int .i64 lo, .int .i64 hi] w fun e w' => e = .returned (.bool (decide (lo ≤ n ∧ n ≤ hi))) ∧ w = w' := by
  go_enter Try.func60, Try.ntmps60
  go_wp2
  all_goals go_ret
  all_goals exact ⟨ret_bool (by rw [Bool.eq_iff_iff]; simp; omega), rfl⟩

def walkB (a s t x : Int) : Bool := decide (0 ≤ a ∧ a ≤ 3 ∧ 0 ≤ s ∧ s ≤ 11 ∧ 0 ≤ t ∧ t ≤ 11 ∧ 0 ≤ x ∧ x ≤ 23)
theorem specWalkOk_any (a s t x : Int) (w : World) :
    Calls Try.prog 15 #[.agg #[.int .i64 a, .int .i64 s, .int .i64 t, .int .i64 x]] w fun e w' => e = .returned (.bool (walkB a s t x)) ∧ Fr w w' := by
  go_enter Try.func15, Try.ntmps15
  go_wp2_with (go_at_call 60; refine (l01In_any _ _ _ _).mono ?_; rintro e w' ⟨rfl, rfl⟩)
  all_goals go_ret
  all_goals exact ⟨ret_bool (by rw [Bool.eq_iff_iff]; simp [walkB]; omega), by repeat (first | exact Fr.refl _ | assumption | apply Fr.drew | apply Fr.alloc | (refine Fr.setCell ?_ (by simp <;> omega) _) | (refine Fr.trans ?_ (by assumption)))⟩
theorem implWalkOk_any (a s t x : Int) (w : World) :
    Calls Try.prog 17 #[.agg #[.int .i64 a, .int .i64 s, .int .i64 t, .int .i64 x]] w fun e w' => e = .returned (.bool (walkB a s t x)) ∧ Fr w w' := by
  go_enter Try.func17, Try.ntmps17
  go_wp2
  all_goals go_ret
  all_goals exact ⟨ret_bool (by rw [Bool.eq_iff_iff]; simp [walkB]; omega), by repeat (first | exact Fr.refl _ | assumption | apply Fr.drew | apply Fr.alloc | (refine Fr.setCell ?_ (by simp <;> omega) _) | (refine Fr.trans ?_ (by assumption)))⟩
theorem toWalk_any (a s t x : Int) (w : World) :
    Calls Try.prog 16 #[.agg #[.int .i64 a, .int .i64 s, .int .i64 t, .int .i64 x]] w fun e w' => e = .returned (.agg #[.int .i64 a, .int .i64 s, .int .i64 t, .int .i64 x]) ∧ Fr w w' := by
  go_enter Try.func16, Try.ntmps16
  go_wp2
  exact bodyPost_ret (v := .agg #[.int .i64 a, .int .i64 s, .int .i64 t, .int .i64 x]) (by simp [results, Try.results16, go_sem]) rfl ⟨rfl, by repeat (first | exact Fr.refl _ | assumption | apply Fr.drew | apply Fr.alloc | (refine Fr.setCell ?_ (by simp <;> omega) _) | (refine Fr.trans ?_ (by assumption)))⟩
theorem fnWalkOk_any (a s t x : Int) (w : World) :
    Calls Try.prog 3 #[.agg #[.int .i64 a, .int .i64 s, .int .i64 t, .int .i64 x]] w fun e w' => e = .returned (.bool true) ∧ Fr w w' := by
  go_enter Try.func3, Try.ntmps3
  go_wp2_with (first | (go_at_call 16; refine (toWalk_any _ _ _ _ _).mono ?_; rintro e w1 ⟨rfl, hf⟩; have z1 := hf.size; (try simp only [World.size_alloc, World.size_setCell, World.size_drew] at z1); have k1 := hf.blk w.heap.size (by (first | omega | (simp only [World.size_alloc, World.size_setCell, World.size_drew]; omega)))) | (go_at_call 15; refine (specWalkOk_any _ _ _ _ _).mono ?_; rintro e w1 ⟨rfl, hf⟩; have z1 := hf.size; (try simp only [World.size_alloc, World.size_setCell, World.size_drew] at z1); have k1 := hf.blk w.heap.size (by (first | omega | (simp only [World.size_alloc, World.size_setCell, World.size_drew]; omega)))) | (go_at_call 17; refine (implWalkOk_any _ _ _ _ _).mono ?_; rintro e w1 ⟨rfl, hf⟩; have z1 := hf.size; (try simp only [World.size_alloc, World.size_setCell, World.size_drew] at z1); have k1 := hf.blk w.heap.size (by (first | omega | (simp only [World.size_alloc, World.size_setCell, World.size_drew]; omega)))))
  go_ret
  exact ⟨rfl, by repeat (first | exact Fr.refl _ | assumption | apply Fr.drew | apply Fr.alloc | (refine Fr.setCell ?_ (by simp <;> omega) _) | (refine Fr.trans ?_ (by assumption)))⟩
end Go.Proofs.Ytlomckhfdcdljaa
