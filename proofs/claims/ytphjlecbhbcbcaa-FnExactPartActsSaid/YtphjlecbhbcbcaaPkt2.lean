/- Packets as bytes; the laws on them. No condition but the bound of a text that the reading gives. -/
import Derived.Test.YtphjlecbhbcbcaaPkt
namespace Go.Proofs.Ytphjlecbhbcbcaa
open Go.RowKit
set_option linter.unusedVariables false
set_option linter.unusedSimpArgs false

def pktT (e f t q a : Int) (s : ByteArray) : ByteArray := vText e ++ strOfNums [f, t] ++ vText q ++ vText a ++ s
def pktR (e f t q a : Int) (s : ByteArray) : ByteArray := if pktB e f t q a s then sealedT (pktT e f t q a s) else ByteArray.empty
theorem pktR_ok {e f t q a : Int} {s : ByteArray} (h : pktB e f t q a s = true) : pktR e f t q a s = sealedT (pktT e f t q a s) := if_pos h
theorem pktR_no {e f t q a : Int} {s : ByteArray} (h : pktB e f t q a s = false) : pktR e f t q a s = ByteArray.empty := if_neg (by simp [h])
theorem pktB_bounds {e f t q a : Int} {s : ByteArray} (h : pktB e f t q a s = true) : 1 ≤ e ∧ e ≤ 100000 ∧ 0 ≤ f ∧ f ≤ 8 ∧ 0 ≤ t ∧ t ≤ 8 ∧ 0 ≤ q ∧ q ≤ 200 ∧ 0 ≤ a ∧ a ≤ 200 ∧ s.size ≤ 6000 := by
  unfold pktB at h
  rw [Bool.and_eq_true, decide_eq_true_eq] at h
  obtain ⟨⟨h1, h2, h3, h4, h5, h6, h7, h8, h9, h10, h11⟩, h12⟩ := h
  refine ⟨h1, h2, h3, h4, h5, h6, h8, h9, h10, h11, ?_⟩
  split at h12
  · have := of_decide_eq_true h12; omega
  · have := of_decide_eq_true h12; omega
theorem vText_le (n : Int) (h : n < 1099511627776) : (vText n).size ≤ 6 := by rw [vText_size]; exact varL_len40 _ (by omega)
theorem pktT_size {e f t q a : Int} {s : ByteArray} (h : pktB e f t q a s = true) : (pktT e f t q a s).size ≤ 6020 := by
  obtain ⟨h1, h2, h3, h4, h5, h6, h8, h9, h10, h11, h12⟩ := pktB_bounds h
  have e1 := vText_le e (by omega)
  have e2 := vText_le q (by omega)
  have e3 := vText_le a (by omega)
  have e4 : (strOfNums [f, t]).size = 2 := by rw [strOfNums_size]; rfl
  unfold pktT
  simp only [ByteArray.size_append]
  omega

end Go.Proofs.Ytphjlecbhbcbcaa
