/- Contracts of the laws' own helpers on slices of strings: size, copy, comparison, marks. No condition but the sizes that the reading gives. -/
import Derived.Test.YtnlcgffffjjojaaRd
import Derived.Deep.QuietTactic
import Derived.BigQuiet
import Derived.Deep.RegionHeld3
import Derived.Test.YtnlcgffffjjojaaMark
namespace Go.Proofs.Ytnlcgffffjjojaa
open Go.RowKit
set_option linter.unusedVariables false
set_option linter.unusedSimpArgs false

theorem info_string : (Try.prog.info? 9).map (fun i => (i.zero, i.size, i.bytes)) = some (some (.string ⟨#[]⟩), 1, 16) := by kernel_rfl


/-- A slice of strings of the call's own, made from block lo on. -/
def StrsO (w : World) (lo : Nat) (v : Value) (ss : List ByteArray) : Prop := w.ownsRow lo 9 1 v ss.length (ss.map Value.string)
theorem StrsO.val {w : World} {lo : Nat} {v : Value} {ss : List ByteArray} (h : StrsO w lo v ss) : ∃ ao cap, v = .slice ao ss.length cap := owns_val h
theorem StrsO.fr {w w' : World} {lo : Nat} {v : Value} {ss : List ByteArray} (h : StrsO w lo v ss) (hf : Fr w w') : StrsO w' lo v ss := owns_fr h hf
theorem StrsO.rd {w : World} {lo : Nat} {v : Value} {ss : List ByteArray} (h : StrsO w lo v ss) : StrsR w v ss := RdS.of_owns h


end Go.Proofs.Ytnlcgffffjjojaa
