/- The text that marks a place: laws.markText. No condition but a bound on the number. -/
import Derived.Test.YtphjlecbhbcbcaaRd
namespace Go.Proofs.Ytphjlecbhbcbcaa
open Go.RowKit
set_option linter.unusedVariables false
set_option linter.unusedSimpArgs false

/-- 'string([]byte{..})', the bytes in a block that was just laid. -/
theorem conv_lit (xs : List Int) (w : World) (n : Nat) (hn : xs.length = n) :
    (convert 77 9 (.slice (some ⟨w.heap.size, 0, none⟩) n n)).run Try.prog (w.alloc (.cells (xs.map (Value.int .u8)).toArray 5)) = .ok (.string (strOfNums xs)) (w.alloc (.cells (xs.map (Value.int .u8)).toArray 5)) := by
  refine run_convert_bytes_arg _ 77 5 Try.underlying77 Try.underlying5 w.heap.size 0 n n xs hn (fun i hi => ?_) 9 Try.underlying9
  rw [World.cell?_alloc_at _ _ _ _ rfl]
  have : i < xs.length := by omega
  simp [List.getD, List.getElem?_eq_getElem this]

theorem conv_at2 (x y : Int) (b : Nat) (w : World) (h0 : w.cell? ⟨b, 0, none⟩ = some (.int .u8 x)) (h1 : w.cell? ⟨b, 1, none⟩ = some (.int .u8 y)) :
    (convert 77 9 (.slice (some ⟨b, 0, none⟩) 2 2)).run Try.prog w = .ok (.string (strOfNums [x, y])) w := by
  refine run_convert_bytes_arg _ 77 5 Try.underlying77 Try.underlying5 b 0 2 2 [x, y] rfl (fun i hi => ?_) 9 Try.underlying9
  match i, hi with
  | 0, _ => simpa using h0
  | 1, _ => simpa using h1

def mDig (m : Nat) : List UInt8 := if h : m = 0 then [] else mDig (m / 10) ++ [UInt8.ofNat (48 + m % 10)]
theorem mDig_zero : mDig 0 = [] := by rw [mDig]; simp
theorem mDig_pos {m : Nat} (h : 0 < m) : mDig m = mDig (m / 10) ++ [UInt8.ofNat (48 + m % 10)] := by rw [mDig, dif_neg (by omega)]
theorem mDig_len (m : Nat) : (mDig m).length ≤ m := by
  induction m using Nat.strongRecOn with
  | ind m ih =>
    rcases Nat.eq_zero_or_pos m with rfl | h
    · simp [mDig_zero]
    · rw [mDig_pos h, List.length_append]
      have := ih (m / 10) (by omega)
      simp
      omega
def mText (m : Nat) : ByteArray := ⟨(109 :: mDig m).toArray⟩

set_option maxRecDepth 100000 in
theorem markText_any (k : Nat) (w : World) (h0 : 0 < k) (h1 : k ≤ 1099511627776) :
    Calls Try.prog 97 #[.int .i64 k] w fun e w' => e = .returned (.string (mText k)) ∧ Fr w w' := by
  have hcv := fun (x : Int) (w : World) => conv_lit [x] w 1 rfl
  simp only [List.map_cons, List.map_nil] at hcv
  have hk0 : decide (k = 0) = false := by simp; omega
  have hlen := mDig_len k
  go_enter Try.func97, Try.ntmps97
  go_wp2
  go_loopw [0, 3] (fun i o wr => ∃ (m : Nat) (l : List UInt8), i = .int .i64 m ∧ o = .string ⟨l.toArray⟩ ∧ m ≤ k ∧ Hid (mDig m ++ l = mDig k) ∧ Fr w wr) (fun i _ _ => (intOf i).toNat)
  case atStart => exact ⟨k, [], rfl, rfl, Nat.le_refl _, by simp [Hid], Fr.refl _⟩
  case round =>
    obtain ⟨m, l, rfl, rfl, hm, hd, hfr⟩ := hrel
    have hll : l.length ≤ k := by
      have := congrArg List.length hd.out
      simp only [List.length_append] at this
      omega
    by_cases hlt : 0 < m
    · have hs1 : (strOfNums [48 + (m : Int) % 10]).size = 1 := by rw [strOfNums_size]; rfl
      have hd' : Hid (mDig (m / 10) ++ (UInt8.ofNat (48 + m % 10) :: l) = mDig k) := by
        have := hd.out
        rw [mDig_pos hlt, List.append_assoc] at this
        exact this
      have hcat : strOfNums [48 + (m : Int) % 10] ++ (⟨l.toArray⟩ : ByteArray) = ⟨(UInt8.ofNat (48 + m % 10) :: l).toArray⟩ := by
        apply WideShapes.bytes_inj
        have e1 : ((48 + (m : Int) % 10)).toNat = 48 + m % 10 := by omega
        simp [strOfNums, e1]
      have HC := Lib.hid hcat
      clear hcat hd hlen
      go_wp2
      go_roundw
      case rel => exact ⟨m / 10, _, rfl, by rw [HC.out], by omega, hd', by repeat (first | (with_reducible exact Fr.refl _) | (with_reducible assumption) | (with_reducible refine Fr.drewN ?_ _) | (with_reducible refine Fr.drew ?_) | (with_reducible refine Fr.alloc ?_ _) | (with_reducible refine Fr.setCell ?_ (by (first | (with_reducible assumption) | omega | (simp only [World.size_alloc, World.size_setCell, World.size_drew, World.heap_drewN]; omega) | (simp; done) | (simp; omega))) _) | (with_reducible refine Fr.trans ?_ (by with_reducible assumption)))⟩
      case measure => (simp [intOf]; omega)
    · obtain rfl : m = 0 := by omega
      have hd' := hd.out
      rw [mDig_zero, List.nil_append] at hd'
      have hfin : (⟨#[109]⟩ : ByteArray) ++ (⟨l.toArray⟩ : ByteArray) = mText k := by
        apply WideShapes.bytes_inj
        simp [mText, hd']
      have HF := Lib.hid hfin
      clear hfin hd' hd
      go_wp2
      go_ret
      exact ⟨ret_str HF.out, hfr⟩
def mTextI (k : Int) : ByteArray := mText k.toNat
theorem markText_int (k : Int) (w : World) (h0 : 0 < k) (h1 : k ≤ 1099511627776) :
    Calls Try.prog 97 #[.int .i64 k] w fun e w' => e = .returned (.string (mTextI k)) ∧ Fr w w' := by
  obtain ⟨n, rfl⟩ := Int.eq_ofNat_of_zero_le (show 0 ≤ k by omega)
  exact markText_any n w (by omega) (by omega)
end Go.Proofs.Ytphjlecbhbcbcaa
