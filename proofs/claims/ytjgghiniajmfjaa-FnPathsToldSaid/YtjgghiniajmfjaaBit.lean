/- Sets of places as bits of a number: joining, testing, one place. No condition. -/
import Derived.Test.YtjgghiniajmfjaaRel
import Derived.Laws.BitsAllLaws
namespace Go.Proofs.Ytjgghiniajmfjaa
open Go.RowKit
set_option linter.unusedVariables false
set_option linter.unusedSimpArgs false
def bitN (p : Nat → Bool) : Nat → Nat
  | 0 => 0
  | m + 1 => bitN p m + (if p m then 2 ^ m else 0)
theorem bitN_lt (p : Nat → Bool) : ∀ m, bitN p m < 2 ^ m
  | 0 => by simp [bitN]
  | m + 1 => by
    have := bitN_lt p m
    rw [bitN, Nat.pow_succ]
    split <;> omega
theorem bitN_test (p : Nat → Bool) : ∀ m j, (bitN p m).testBit j = (decide (j < m) && p j)
  | 0, j => by simp [bitN]
  | m + 1, j => by
    have hl := bitN_lt p m
    rw [bitN]
    cases hp : p m
    · simp only [Bool.false_eq_true, if_false, Nat.add_zero]
      rw [bitN_test p m j]
      by_cases e : j = m
      · subst e
        simp [hp]
      · congr 1
        rw [Bool.eq_iff_iff, decide_eq_true_eq, decide_eq_true_eq]
        omega
    · simp only [if_true]
      rw [Nat.add_comm]
      by_cases e : j = m
      · subst e
        rw [Nat.testBit_two_pow_add_eq, Nat.testBit_lt_two_pow hl]
        simp [hp]
      · rcases Nat.lt_or_ge j m with h | h
        · rw [Nat.testBit_two_pow_add_gt h, bitN_test p m j]
          congr 1
          rw [Bool.eq_iff_iff, decide_eq_true_eq, decide_eq_true_eq]
          omega
        · rw [Nat.testBit_lt_two_pow (Nat.lt_of_lt_of_le (show 2 ^ m + bitN p m < 2 ^ (m + 1) by rw [Nat.pow_succ]; omega) (Nat.pow_le_pow_right (by omega) (by omega)))]
          rw [decide_eq_false (by omega), Bool.false_and]
/-- A set of places below 32 as a number. -/
def bN (p : Nat → Bool) : Nat := bitN p 32
theorem bN_lt (p : Nat → Bool) : bN p < 4294967296 := bitN_lt p 32
theorem bN_test (p : Nat → Bool) (j : Nat) : (bN p).testBit j = (decide (j < 32) && p j) := bitN_test p 32 j
theorem bN_eq {x : Nat} {p : Nat → Bool} (hx : x < 4294967296) (h : ∀ j, j < 32 → x.testBit j = p j) : x = bN p := by
  apply Nat.eq_of_testBit_eq
  intro i
  rw [bN_test]
  by_cases hi : i < 32
  · rw [h i hi]; simp [hi]
  · rw [Nat.testBit_lt_two_pow (Nat.lt_of_lt_of_le hx (by
      have : 2 ^ 32 ≤ 2 ^ i := Nat.pow_le_pow_right (by omega) (by omega)
      simpa using this))]
    simp [hi]
theorem bN_congr {p q : Nat → Bool} (h : ∀ j, j < 32 → p j = q j) : bN p = bN q := bN_eq (bN_lt p) fun j hj => by rw [bN_test, h j hj]; simp [hj]
theorem u32_small (x : Nat) (hx : x < 4294967296) : IntKind.u32.wrap (x : Int) = (x : Int) := by
  simp [IntKind.wrap, IntKind.bits, IntKind.signed]
  omega
theorem u32_bv (x : Nat) (hx : x < 4294967296) : (BitVec.ofInt 32 (x : Int)).toNat = x := by
  rw [BitVec.toNat_ofInt]
  have : ((x : Int) % ((2 ^ 32 : Nat) : Int)).toNat = x := by omega
  exact this
theorem bits_or32 (x y : Nat) (hx : x < 4294967296) (hy : y < 4294967296) : bits .or .u32 (x : Int) (y : Int) = ((x ||| y : Nat) : Int) := by
  have hl : x ||| y < 4294967296 := Nat.or_lt_two_pow (n := 32) hx hy
  show IntKind.u32.wrap ((BitVec.ofInt 32 (x : Int) ||| BitVec.ofInt 32 (y : Int)).toNat : Int) = _
  rw [BitVec.toNat_or, u32_bv x hx, u32_bv y hy]
  exact u32_small _ hl
theorem bits_and1 (x : Nat) (hx : x < 4294967296) : bits .and .u32 (x : Int) 1 = ((x % 2 : Nat) : Int) := by
  show IntKind.u32.wrap ((BitVec.ofInt 32 (x : Int) &&& BitVec.ofInt 32 (1 : Int)).toNat : Int) = _
  rw [BitVec.toNat_and, u32_bv x hx, show (BitVec.ofInt 32 (1 : Int)).toNat = 1 from rfl, Nat.and_one_is_mod]
  exact u32_small _ (by omega)
theorem bN_or (p q : Nat → Bool) : bits .or .u32 (bN p : Int) (bN q : Int) = (bN (fun j => p j || q j) : Int) := by
  rw [bits_or32 _ _ (bN_lt p) (bN_lt q)]
  congr 1
  refine bN_eq (Nat.or_lt_two_pow (n := 32) (bN_lt p) (bN_lt q)) fun j hj => ?_
  rw [Nat.testBit_or, bN_test, bN_test]
  simp [hj]
theorem bN_bit (p : Nat → Bool) (j : Nat) (hj : j < 32) : bits .and .u32 ((bN p : Int) / 2 ^ j) 1 = if p j = true then 1 else 0 := by
  have e : ((bN p : Int) / 2 ^ j) = ((bN p / 2 ^ j : Nat) : Int) := by simp
  rw [e, bits_and1 _ (Nat.lt_of_le_of_lt (Nat.div_le_self _ _) (bN_lt p))]
  have h := bN_test p j
  rw [Nat.testBit_eq_decide_div_mod_eq] at h
  simp [hj] at h
  split
  · rename_i hp
    rw [hp] at h
    simp at h
    omega
  · rename_i hp
    rw [show p j = false by simpa using hp] at h
    simp at h
    omega
theorem bN_one (i : Nat) (hi : i < 32) : IntKind.u32.wrap (1 * 2 ^ i) = (bN (fun j => decide (j = i)) : Int) := by
  have hl : 2 ^ i < 4294967296 := Nat.pow_lt_pow_right (by omega) (show i < 32 from hi)
  have e : (1 * 2 ^ i : Int) = ((2 ^ i : Nat) : Int) := by simp
  rw [e, u32_small _ hl]
  congr 1
  refine bN_eq hl fun j hj => ?_
  rw [Nat.testBit_two_pow]
  rw [Bool.eq_iff_iff, decide_eq_true_eq, decide_eq_true_eq]
  exact eq_comm
theorem bN_no : (bN (fun _ => false) : Int) = 0 := by
  have : bN (fun _ => false) = 0 := (bN_eq (by omega) fun j hj => by simp).symm
  rw [this]
  rfl
end Go.Proofs.Ytjgghiniajmfjaa
