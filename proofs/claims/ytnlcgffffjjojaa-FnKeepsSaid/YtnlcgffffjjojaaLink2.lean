/- Links, further: copies, puts, marks. -/
import Derived.Test.YtnlcgffffjjojaaLink
namespace Go.Proofs.Ytnlcgffffjjojaa
open Go.RowKit
set_option linter.unusedVariables false
set_option linter.unusedSimpArgs false

end Go.Proofs.Ytnlcgffffjjojaa
