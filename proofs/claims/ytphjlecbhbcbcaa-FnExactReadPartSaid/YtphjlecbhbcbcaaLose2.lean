/- Disks: copies, LoseDisk of the reference. Conditions: bounds on the lengths of what is copied, which the laws pay. -/
import Derived.Test.YtphjlecbhbcbcaaLose
import Derived.Deep.RegionLaw
import Derived.Deep.RegionHeld3
import Derived.BigRegion
namespace Go.Proofs.Ytphjlecbhbcbcaa
open Go.RowKit
set_option linter.unusedVariables false
set_option linter.unusedSimpArgs false
theorem extract_all (s : ByteArray) : s.extract 0 s.size = s := by
  apply WideShapes.bytes_inj
  simp
theorem loseK_succ (xs : List FileR) (ls : List Int) (k : Nat) {x : FileR} (hx : fileAt xs k = x) {n : Int} (hn : leftAt ls k = n) {m : Nat} (hm : loseN x n = (m : Int)) :
    (loseK xs ls (k + 1)).flatMap FileR.cells = (loseK xs ls k).flatMap FileR.cells ++ [.string x.f0, .string (x.f1.extract 0 m), .int .i64 m] := by
  unfold loseK
  rw [List.range_succ, List.map_append, List.flatMap_append]
  simp [FileR.cells, loseF, hx, hn, hm]
end Go.Proofs.Ytphjlecbhbcbcaa
