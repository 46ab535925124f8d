/- isAtom of the program. No condition. -/
import Derived.Test.YtmdgdnkllclpcaaGreatNfl
namespace Go.Proofs.YtmdgdnkllclpcaaGreat
open Go.RowKit
set_option linter.unusedVariables false
set_option linter.unusedSimpArgs false
theorem isAtom_any (q : Bool) (vo vf : Value) (ax : Option Addr) (n c : Nat) (k : Int) (w : World) (hvo : ∃ a n c, vo = .slice a n c) (hvf : ∃ a n c, vf = .slice a n c) :
    Calls Tryz.prog 63 #[.agg #[.bool q, vo, .slice ax n c, vf], .int .i64 k] w fun e w' => e = .returned (.bool (decide (0 ≤ k ∧ k < (n : Int)))) ∧ Fr w w' := by
  obtain ⟨ao, no, co, rfl⟩ := hvo
  obtain ⟨af, nf, cf, rfl⟩ := hvf
  by_cases h : 0 ≤ k
  · have g1 : decide (0 ≤ k) = true := by simpa using h
    go_enter Tryz.func63, Tryz.ntmps63
    go_wp2_with fail
    all_goals go_ret
    all_goals exact ⟨ret_bool (by first | (rw [Bool.eq_iff_iff]; (simp <;> omega)) | (simp [h] <;> omega) | simp_all), by exact Qf⟩
  · have g1 : decide (0 ≤ k) = false := by simpa using h
    go_enter Tryz.func63, Tryz.ntmps63
    go_wp2_with fail
    go_ret
    exact ⟨ret_bool (by first | (rw [Bool.eq_iff_iff]; (simp <;> omega)) | (simp [h] <;> omega) | simp_all), by exact Qf⟩
end Go.Proofs.YtmdgdnkllclpcaaGreat
