/- Contracts of the functions on links. No condition but the sizes that the reading gives. -/
import Derived.Test.YtphjlecbhbcbcaaOk
import Derived.Test.YtphjlecbhbcbcaaStr
namespace Go.Proofs.Ytphjlecbhbcbcaa
open Go.RowKit
set_option linter.unusedVariables false
set_option linter.unusedSimpArgs false

def bodyB (s : ByteArray) : Bool := decide (1 ≤ s.size ∧ s.size ≤ 6000)
def linkB (ss : List ByteArray) (a t : Int) : Bool := decide (ss.length ≤ 200 ∧ 0 ≤ a ∧ a ≤ ss.length ∧ 0 ≤ t ∧ t ≤ 200) && ss.all bodyB



end Go.Proofs.Ytphjlecbhbcbcaa
