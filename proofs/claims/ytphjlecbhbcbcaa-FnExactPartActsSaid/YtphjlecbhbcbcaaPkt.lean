/- Contracts of the functions on packets and sealed texts. No condition but the bound of a text that the reading gives. -/
import Derived.Test.YtphjlecbhbcbcaaSum
import Derived.Test.YtphjlecbhbcbcaaLink
namespace Go.Proofs.Ytphjlecbhbcbcaa
open Go.RowKit
set_option linter.unusedVariables false
set_option linter.unusedSimpArgs false

def pktB (e f t q a : Int) (s : ByteArray) : Bool := decide (1 ≤ e ∧ e ≤ 100000 ∧ 0 ≤ f ∧ f ≤ 8 ∧ 0 ≤ t ∧ t ≤ 8 ∧ f ≠ t ∧ 0 ≤ q ∧ q ≤ 200 ∧ 0 ≤ a ∧ a ≤ 200) && (if q = 0 then decide (s.size = 0) else bodyB s)
theorem pktB_no {e f t q a : Int} {s : ByteArray} (h : ¬ (1 ≤ e ∧ e ≤ 100000 ∧ 0 ≤ f ∧ f ≤ 8 ∧ 0 ≤ t ∧ t ≤ 8 ∧ f ≠ t ∧ 0 ≤ q ∧ q ≤ 200 ∧ 0 ≤ a ∧ a ≤ 200)) : pktB e f t q a s = false := by
  unfold pktB
  rw [decide_eq_false h, Bool.false_and]
theorem pktB_zero {e f t q a : Int} {s : ByteArray} (h : 1 ≤ e ∧ e ≤ 100000 ∧ 0 ≤ f ∧ f ≤ 8 ∧ 0 ≤ t ∧ t ≤ 8 ∧ f ≠ t ∧ 0 ≤ q ∧ q ≤ 200 ∧ 0 ≤ a ∧ a ≤ 200) (hq : q = 0) : pktB e f t q a s = decide (s.size = 0) := by
  unfold pktB
  rw [decide_eq_true h, Bool.true_and, if_pos hq]
theorem pktB_body {e f t q a : Int} {s : ByteArray} (h : 1 ≤ e ∧ e ≤ 100000 ∧ 0 ≤ f ∧ f ≤ 8 ∧ 0 ≤ t ∧ t ≤ 8 ∧ f ≠ t ∧ 0 ≤ q ∧ q ≤ 200 ∧ 0 ≤ a ∧ a ≤ 200) (hq : q ≠ 0) : pktB e f t q a s = bodyB s := by
  unfold pktB
  rw [decide_eq_true h, Bool.true_and, if_neg hq]
theorem bodyB_int (s : ByteArray) : decide ((1 : Int) ≤ (s.size : Int) ∧ (s.size : Int) ≤ 6000) = bodyB s := by unfold bodyB; congr 1; simp; omega


def sealedT (x : ByteArray) : ByteArray := x ++ fourT (sumOf x)
end Go.Proofs.Ytphjlecbhbcbcaa
