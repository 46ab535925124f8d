/- Contracts of the functions on plain records: bounds, walks, pushes, packets. Each returns the value of a plain function; no old memory turns. No condition. -/
import Derived.Test.YthcbnilmhenpgaaRd
namespace Go.Proofs.Ythcbnilmhenpgaa
open Go.RowKit
set_option linter.unusedVariables false
set_option linter.unusedSimpArgs false

theorem l01In_any (n lo hi : Int) (w : World) :
    Calls Try.prog 44 #[.int .i64 n, .int .i64 lo, .int .i64 hi] w fun e w' => e = .returned (.bool (decide (lo ≤ n ∧ n ≤ hi))) ∧ w = w' := by
  go_enter Try.func44, Try.ntmps44
  go_wp2
  all_goals go_ret
  all_goals exact ⟨ret_bool (by rw [Bool.eq_iff_iff]; simp; omega), rfl⟩

end Go.Proofs.Ythcbnilmhenpgaa
