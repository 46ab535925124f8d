/- Contracts of the laws' own helpers on slices of ints and of bools: size, copy, comparison, marks. No condition but the sizes that the reading gives. (Printed by mk_flat.py.) -/
import Derived.Test.YtphjlecbhbcbcaaStr
namespace Go.Proofs.Ytphjlecbhbcbcaa
open Go.RowKit
set_option linter.unusedVariables false
set_option linter.unusedSimpArgs false

theorem info_int : (Try.prog.info? 3).map (fun i => (i.zero, i.size, i.bytes)) = some (some (.int .i64 0), 1, 8) := by kernel_rfl
/-- A slice of the call's own, made from block lo on. -/
def IntsO (w : World) (lo : Nat) (v : Value) (ss : List Int) : Prop := w.ownsRow lo 3 1 v ss.length (ss.map (Value.int .i64))
theorem IntsO.rd {w : World} {lo : Nat} {v : Value} {ss : List Int} (h : IntsO w lo v ss) : IntsR w v ss := RdS.of_owns h
theorem IntsO.val {w : World} {lo : Nat} {v : Value} {ss : List Int} (h : IntsO w lo v ss) : ∃ ao cap, v = .slice ao ss.length cap := owns_val h
theorem IntsO.fr {w w' : World} {lo : Nat} {v : Value} {ss : List Int} (h : IntsO w lo v ss) (hf : Fr w w') : IntsO w' lo v ss := owns_fr h hf


theorem info_bool : (Try.prog.info? 4).map (fun i => (i.zero, i.size, i.bytes)) = some (some (.bool false), 1, 1) := by kernel_rfl
/-- A slice of the call's own, made from block lo on. -/
def BoolsO (w : World) (lo : Nat) (v : Value) (ss : List Bool) : Prop := w.ownsRow lo 4 1 v ss.length (ss.map (Value.bool))
theorem BoolsO.rd {w : World} {lo : Nat} {v : Value} {ss : List Bool} (h : BoolsO w lo v ss) : BoolsR w v ss := RdS.of_owns h
theorem BoolsO.val {w : World} {lo : Nat} {v : Value} {ss : List Bool} (h : BoolsO w lo v ss) : ∃ ao cap, v = .slice ao ss.length cap := owns_val h
theorem BoolsO.fr {w w' : World} {lo : Nat} {v : Value} {ss : List Bool} (h : BoolsO w lo v ss) (hf : Fr w w') : BoolsO w' lo v ss := owns_fr h hf

end Go.Proofs.Ytphjlecbhbcbcaa
