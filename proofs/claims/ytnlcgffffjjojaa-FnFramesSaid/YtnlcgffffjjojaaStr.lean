/- Contracts of the laws' own helpers on slices of strings: size, copy, comparison, marks. No condition but the sizes that the reading gives. -/
import Derived.Test.YtnlcgffffjjojaaRd
import Derived.Deep.QuietTactic
import Derived.BigQuiet
import Derived.Deep.RegionHeld3
import Derived.Test.YtnlcgffffjjojaaMark
namespace Go.Proofs.Ytnlcgffffjjojaa
open Go.RowKit
set_option linter.unusedVariables false
set_option linter.unusedSimpArgs false

theorem info_string : (Try.prog.info? 9).map (fun i => (i.zero, i.size, i.bytes)) = some (some (.string ⟨#[]⟩), 1, 16) := by kernel_rfl



end Go.Proofs.Ytnlcgffffjjojaa
