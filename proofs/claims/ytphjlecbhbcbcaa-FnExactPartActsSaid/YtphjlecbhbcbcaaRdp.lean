/- Unsealed and ReadPacket of both. No condition but the size. -/
import Derived.Test.YtphjlecbhbcbcaaScan
import Derived.Test.YtphjlecbhbcbcaaPkt3
import Derived.Test.YtphjlecbhbcbcaaUnf2
namespace Go.Proofs.Ytphjlecbhbcbcaa
open Go.RowKit
set_option linter.unusedVariables false
set_option linter.unusedSimpArgs false

theorem Box.far {w : World} {b q i : Nat} {X : Array Value} {T : TypeId} (h : Box w b X T) (hp : b ≠ q) (v : Value) : Box (w.setCell ⟨q, i, none⟩ v) b X T := h.other (p := ⟨q, i, none⟩) hp v
def unB (t : ByteArray) : Bool := decide (4 ≤ t.size ∧ t.size ≤ 20004 ∧ t.extract (t.size - 4) t.size = fourT (sumOf (t.extract 0 (t.size - 4))))
def unT (t : ByteArray) : ByteArray := if unB t then t.extract 0 (t.size - 4) else ByteArray.empty
theorem unT_no {t : ByteArray} (h : unB t = false) : unT t = ByteArray.empty := if_neg (by simp [h])
theorem unT_ok {t : ByteArray} (h : unB t = true) : unT t = t.extract 0 (t.size - 4) := if_pos h
theorem unT_size (t : ByteArray) (hs : t.size ≤ 1048576) : (unT t).size ≤ 1048576 := by
  cases h : unB t
  · rw [unT_no h]; simp
  · rw [unT_ok h, ByteArray.size_extract]; omega
structure PkO where
  e : Int
  f : Int
  t : Int
  q : Int
  a : Int
  s : ByteArray
  ok : Bool
def pkNo : PkO := ⟨0, 0, 0, 0, 0, ByteArray.empty, false⟩
def rdS1 (x : ByteArray) := scVar (unT x) ⟨0, !unB x⟩
def rdS2 (x : ByteArray) := scByte (unT x) (rdS1 x).2
def rdS3 (x : ByteArray) := scByte (unT x) (rdS2 x).2
def rdS4 (x : ByteArray) := scVar (unT x) (rdS3 x).2
def rdS5 (x : ByteArray) := scVar (unT x) (rdS4 x).2
def rdBody (x : ByteArray) : ByteArray := (unT x).extract (rdS5 x).2.a (unT x).size
def rdp (x : ByteArray) : PkO := if (rdS5 x).2.bad = false ∧ pktB (rdS1 x).1 (rdS2 x).1 (rdS3 x).1 (rdS4 x).1 (rdS5 x).1 (rdBody x) = true then ⟨(rdS1 x).1, (rdS2 x).1, (rdS3 x).1, (rdS4 x).1, (rdS5 x).1, rdBody x, true⟩ else pkNo
theorem rdp_def (x : ByteArray) : rdp x = if (rdS5 x).2.bad = false ∧ pktB (rdS1 x).1 (rdS2 x).1 (rdS3 x).1 (rdS4 x).1 (rdS5 x).1 ((unT x).extract (rdS5 x).2.a (unT x).size) = true then ⟨(rdS1 x).1, (rdS2 x).1, (rdS3 x).1, (rdS4 x).1, (rdS5 x).1, (unT x).extract (rdS5 x).2.a (unT x).size, true⟩ else pkNo := rfl
theorem bytes_of_extract (x : ByteArray) (a b : Nat) (h : a ≤ b) : (x.extract a b).data.toList = bytesAt x a (b - a) := by
  have := extract_bytes x a (b - a)
  rwa [show a + (b - a) = b by omega] at this
theorem strOf_two {m n : Nat} (hm : m < 256) (hn : n < 256) : (strOfNums [(m : Int), (n : Int)]).data.toList = [UInt8.ofNat m, UInt8.ofNat n] := by
  have h : [(m : Int), (n : Int)] = nums [UInt8.ofNat m, UInt8.ofNat n] := by simp only [nums, List.map_cons, List.map_nil, num_byte m hm, num_byte n hn]
  rw [h, str_nums]
/-- What was read and is right is the text of what was read. -/
theorem rdp_back (x : ByteArray) (h5 : (rdS5 x).2.bad = false) : unB x = true ∧ sealedT (pktT (rdS1 x).1 (rdS2 x).1 (rdS3 x).1 (rdS4 x).1 (rdS5 x).1 (rdBody x)) = x := by
  have l1 : (rdS1 x).2.a ≤ (unT x).size := scVar_le (c := ⟨0, !unB x⟩) (Nat.zero_le _)
  have l2 : (rdS2 x).2.a ≤ (unT x).size := scByte_le l1
  have l3 : (rdS3 x).2.a ≤ (unT x).size := scByte_le l2
  have l4 : (rdS4 x).2.a ≤ (unT x).size := scVar_le l3
  obtain ⟨b4, n5, j5, e5, z5, _, k5⟩ := scVar_read l4 h5
  obtain ⟨b3, n4, j4, e4, z4, _, k4⟩ := scVar_read l3 b4
  obtain ⟨b2, z3, e3⟩ := scByte_read b3
  obtain ⟨b1, z2, e2⟩ := scByte_read b2
  obtain ⟨b0, n1, j1, e1, z1, _, k1⟩ := scVar_read (c := ⟨0, !unB x⟩) (Nat.zero_le _) b1
  have hu : unB x = true := by simpa using b0
  refine ⟨hu, ?_⟩
  change rdS1 x = _ at e1
  change rdS2 x = _ at e2
  change rdS3 x = _ at e3
  change rdS4 x = _ at e4
  change rdS5 x = _ at e5
  simp only [Nat.zero_add] at e1 z1 k1
  have A1 : (rdS1 x).2.a = j1 + 1 := by rw [e1]
  have A2 : (rdS2 x).2.a = j1 + 1 + 1 := by rw [e2]; show (rdS1 x).2.a + 1 = _; rw [A1]
  have A3 : (rdS3 x).2.a = j1 + 1 + 1 + 1 := by rw [e3]; show (rdS2 x).2.a + 1 = _; rw [A2]
  have A4 : (rdS4 x).2.a = j1 + 1 + 1 + 1 + j4 + 1 := by rw [e4]; show (rdS3 x).2.a + j4 + 1 = _; rw [A3]
  have A5 : (rdS5 x).2.a = j1 + 1 + 1 + 1 + j4 + 1 + j5 + 1 := by rw [e5]; show (rdS4 x).2.a + j5 + 1 = _; rw [A4]
  have hT : pktT (rdS1 x).1 (rdS2 x).1 (rdS3 x).1 (rdS4 x).1 (rdS5 x).1 (rdBody x) = unT x := by
    apply WideShapes.bytes_inj
    have v1 : (rdS1 x).1 = (n1 : Int) := by rw [e1]
    have v2 : (rdS2 x).1 = ((((unT x)[(rdS1 x).2.a]'z2).toNat : Nat) : Int) := by rw [e2]
    have v3 : (rdS3 x).1 = ((((unT x)[(rdS2 x).2.a]'z3).toNat : Nat) : Int) := by rw [e3]
    have v4 : (rdS4 x).1 = (n4 : Int) := by rw [e4]
    have v5 : (rdS5 x).1 = (n5 : Int) := by rw [e5]
    rw [v1, v2, v3, v4, v5]
    unfold pktT vText rdBody
    simp only [ByteArray.data_append, Array.toList_append, Int.toNat_natCast]
    rw [strOf_two ((unT x)[(rdS1 x).2.a]'z2).toNat_lt ((unT x)[(rdS2 x).2.a]'z3).toNat_lt, k1, k4, k5, bytes_of_extract _ _ _ (by rw [A5]; rw [A4] at z5; omega)]
    have hb2 : [UInt8.ofNat ((unT x)[(rdS1 x).2.a]'z2).toNat, UInt8.ofNat ((unT x)[(rdS2 x).2.a]'z3).toNat] = bytesAt (unT x) (j1 + 1) 2 := by
      rw [show (2 : Nat) = 0 + 1 + 1 from rfl, bytesAt_succ (by rw [A2] at z3; omega), bytesAt_succ (by rw [A1] at z2; omega)]
      simp only [bytesAt, List.take_zero, List.nil_append, List.cons_append, Nat.add_zero, UInt8.ofNat_toNat]
      simp only [A1, A2]
    rw [hb2, A3, A4, A5]
    have hall : (unT x).data.toList = bytesAt (unT x) 0 ((j1 + 1) + 2 + (j4 + 1) + (j5 + 1) + ((unT x).size - (j1 + 1 + 1 + 1 + j4 + 1 + j5 + 1))) := by
      rw [A4] at z5
      unfold bytesAt
      rw [List.drop_zero, List.take_of_length_le]
      rw [Array.length_toList]
      show (unT x).size ≤ _
      omega
    rw [hall, bytesAt_add _ _ (j1 + 1 + 2 + (j4 + 1) + (j5 + 1)) _, bytesAt_add _ _ (j1 + 1 + 2 + (j4 + 1)) (j5 + 1), bytesAt_add _ _ (j1 + 1 + 2) (j4 + 1), bytesAt_add _ _ (j1 + 1) 2]
    simp only [Nat.zero_add]
    rfl
  unfold sealedT
  rw [hT]
  have hb : 4 ≤ x.size ∧ x.size ≤ 20004 ∧ x.extract (x.size - 4) x.size = fourT (sumOf (x.extract 0 (x.size - 4))) := by unfold unB at hu; exact of_decide_eq_true hu
  rw [unT_ok hu, ← hb.2.2]
  apply WideShapes.bytes_inj
  rw [ByteArray.data_append, Array.toList_append, bytes_of_extract _ _ _ (by omega), bytes_of_extract _ _ _ (by omega)]
  have := (bytesAt_add x 0 (x.size - 4 - 0) (x.size - (x.size - 4))).symm
  rw [show 0 + (x.size - 4 - 0) = x.size - 4 by omega] at this
  rw [this]
  unfold bytesAt
  rw [List.drop_zero, List.take_of_length_le]
  rw [Array.length_toList]
  show x.size ≤ _
  omega
end Go.Proofs.Ytphjlecbhbcbcaa
