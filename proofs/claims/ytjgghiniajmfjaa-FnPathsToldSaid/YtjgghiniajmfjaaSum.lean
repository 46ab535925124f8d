/- The check sum: impl.SumMore and spec.SumMore give the same number. No condition but the bound of the text that the reading gives. -/
import Derived.Test.YtjgghiniajmfjaaKApp
import Derived.Test.YtjgghiniajmfjaaOk
namespace Go.Proofs.Ytjgghiniajmfjaa
open Go.RowKit
set_option linter.unusedVariables false
set_option linter.unusedSimpArgs false

def poly : Nat := 3558460437
def step1 (x : Nat) : Nat := if x % 2 = 1 then (x / 2) ^^^ poly else x / 2
def stepN : Nat → Nat → Nat
  | 0, x => x
  | j + 1, x => step1 (stepN j x)
def sumByte (x : Nat) (b : UInt8) : Nat := stepN 8 (x ^^^ b.toNat)
def sumL (x : Nat) (l : List UInt8) : Nat := l.foldl sumByte x
theorem step1_lt {x : Nat} (h : x < 4294967296) : step1 x < 4294967296 := by
  unfold step1
  split
  · exact Nat.xor_lt_two_pow (n := 32) (by omega) (by unfold poly; omega)
  · omega
theorem stepN_lt {x : Nat} (h : x < 4294967296) (j : Nat) : stepN j x < 4294967296 := by
  induction j with
  | zero => exact h
  | succ j ih => exact step1_lt ih
theorem xor_byte_lt {x : Nat} (h : x < 4294967296) (b : UInt8) : x ^^^ b.toNat < 4294967296 := Nat.xor_lt_two_pow (n := 32) (by omega) (by have := b.toNat_lt; omega)
theorem sumByte_lt {x : Nat} (h : x < 4294967296) (b : UInt8) : sumByte x b < 4294967296 := stepN_lt (xor_byte_lt h b) 8
theorem sumL_lt {x : Nat} (h : x < 4294967296) (l : List UInt8) : sumL x l < 4294967296 := by
  induction l generalizing x with
  | nil => exact h
  | cons b l ih => exact ih (sumByte_lt h b)
theorem sumL_snoc (x : Nat) (l : List UInt8) (b : UInt8) : sumL x (l ++ [b]) = sumByte (sumL x l) b := by simp [sumL]
theorem take_snoc (s : ByteArray) (k : Nat) (h : k < s.size) : s.data.toList.take (k + 1) = s.data.toList.take k ++ [s[k]] := by
  rw [List.take_succ_eq_append_getElem (by simpa using h)]; rfl
theorem u32_and_one (x : Nat) (h : x < 4294967296) : bits .and .u32 (x : Int) 1 = ((x % 2 : Nat) : Int) := by
  have := u32_and_nat x 1 h (by omega)
  rw [Nat.and_one_is_mod] at this
  exact this

set_option maxRecDepth 100000 in
set_option maxHeartbeats 400000 in
theorem implSumMore_any (x : Nat) (s : ByteArray) (w : World) (hx : x < 4294967296) (hs : s.size ≤ maxLen) :
    Calls Try.prog 267 #[.int .u32 x, .string s] w fun e w' => e = .returned (.int .u32 (sumL x s.data.toList)) ∧ w = w' := by
  unfold maxLen at hs
  go_enter Try.func267, Try.ntmps267
  go_wp2
  go_loop [0, 5] (fun v i => ∃ k y : Nat, k ≤ s.size ∧ i = .int .i64 k ∧ v = .int .u32 y ∧ y < 4294967296 ∧ Hid (y = sumL x (s.data.toList.take k))) (fun _ i => s.size - (intOf i).toNat)
  case atStart => exact ⟨0, x, Nat.zero_le _, rfl, rfl, hx, by simp [Hid, sumL]⟩
  case round =>
    obtain ⟨k, y, hk, rfl, rfl, hy, hd⟩ := hrel
    by_cases hlt : k < s.size
    · obtain ⟨z, hz⟩ : ∃ z, z = y ^^^ s[k].toNat := ⟨_, rfl⟩
      have hb : bits .xor .u32 (y : Int) ((s[k].toNat : Int) % 4294967296) = (z : Int) := by
        have hb0 := s[k].toNat_lt
        rw [show ((s[k].toNat : Int) % 4294967296) = ((s[k].toNat : Nat) : Int) from by omega, hz]
        exact u32_xor_nat y _ hy (by omega)
      have hzl : z < 4294967296 := by rw [hz]; exact xor_byte_lt hy _
      have HZ := Lib.hid hz
      clear hz
      go_wp2
      go_loop [0, 19] (fun v i => ∃ j q : Nat, j ≤ 8 ∧ i = .int .i64 j ∧ v = .int .u32 q ∧ q < 4294967296 ∧ Hid (q = stepN j z)) (fun _ i => 8 - (intOf i).toNat)
      case atStart => exact ⟨0, z, by omega, rfl, rfl, hzl, rfl⟩
      case round =>
        clear hb
        obtain ⟨j, q, hj, rfl, rfl, hq, hdq⟩ := hrel
        by_cases hlj : j < 8
        · have ha := u32_and_one q hq
          by_cases hodd : q % 2 = 1
          · obtain ⟨r, hr⟩ : ∃ r, r = (q / 2) ^^^ poly := ⟨_, rfl⟩
            have hxr : bits .xor .u32 ((q : Int) / 2) 3558460437 = (r : Int) := by
              rw [hr, show ((q : Int) / 2) = ((q / 2 : Nat) : Int) from by omega]
              exact u32_xor_nat (q / 2) poly (by omega) (by unfold poly; omega)
            have hrl : r < 4294967296 := by rw [hr]; exact Nat.xor_lt_two_pow (n := 32) (by omega) (by unfold poly; omega)
            have HR : Hid (r = stepN (j + 1) z) := by show r = step1 (stepN j z); rw [← hdq.out, hr]; unfold step1; rw [if_pos hodd]
            have ho : ((q : Int) % 2) = 1 := by omega
            clear hr
            go_wp2
            go_round
            case rel => exact ⟨j + 1, r, by omega, by go_num, rfl, hrl, HR⟩
            case measure => (simp [intOf]; omega)
          · have ho : ((q : Int) % 2 == 1) = false := by simp; omega
            have HR : Hid (q / 2 = stepN (j + 1) z) := by show q / 2 = step1 (stepN j z); rw [← hdq.out]; unfold step1; rw [if_neg hodd]
            go_wp2
            go_round
            case rel => exact ⟨j + 1, q / 2, by omega, by go_num, by go_num, by omega, HR⟩
            case measure => (simp [intOf]; omega)
        · obtain rfl : j = 8 := by omega
          have hts := take_snoc s k hlt
          have HS : Hid (q = sumL x (s.data.toList.take (k + 1))) := by rw [hts, sumL_snoc, ← hd.out, hdq.out, HZ.out]; rfl
          clear hts
          go_wp2
          go_round
          case rel => exact ⟨k + 1, q, by omega, by go_num, rfl, hq, HS⟩
          case measure => (simp [intOf]; omega)
    · have hfin : Hid (y = sumL x s.data.toList) := by have := hd.out; rwa [List.take_of_length_le (by simp; omega)] at this
      go_wp2
      go_ret
      exact ⟨ret_int (by rw [hfin.out]), rfl⟩
set_option maxRecDepth 100000 in
set_option maxHeartbeats 400000 in
theorem specSumMore_any (x : Nat) (s : ByteArray) (w : World) (hx : x < 4294967296) (hs : s.size ≤ maxLen) :
    Calls Try.prog 221 #[.int .u32 x, .string s] w fun e w' => e = .returned (.int .u32 (sumL x s.data.toList)) ∧ w = w' := by
  unfold maxLen at hs
  go_enter Try.func221, Try.ntmps221
  go_wp2
  go_loop [0, 5] (fun v i => ∃ k y : Nat, k ≤ s.size ∧ i = .int .i64 k ∧ v = .int .u32 y ∧ y < 4294967296 ∧ Hid (y = sumL x (s.data.toList.take k))) (fun _ i => s.size - (intOf i).toNat)
  case atStart => exact ⟨0, x, Nat.zero_le _, rfl, rfl, hx, by simp [Hid, sumL]⟩
  case round =>
    obtain ⟨k, y, hk, rfl, rfl, hy, hd⟩ := hrel
    by_cases hlt : k < s.size
    · obtain ⟨z, hz⟩ : ∃ z, z = y ^^^ s[k].toNat := ⟨_, rfl⟩
      have hb : bits .xor .u32 (y : Int) ((s[k].toNat : Int) % 4294967296) = (z : Int) := by
        have hb0 := s[k].toNat_lt
        rw [show ((s[k].toNat : Int) % 4294967296) = ((s[k].toNat : Nat) : Int) from by omega, hz]
        exact u32_xor_nat y _ hy (by omega)
      have hzl : z < 4294967296 := by rw [hz]; exact xor_byte_lt hy _
      have HZ := Lib.hid hz
      clear hz
      go_wp2
      go_loop [0, 6] (fun v i => ∃ j q : Nat, j ≤ 8 ∧ i = .int .i64 j ∧ v = .int .u32 q ∧ q < 4294967296 ∧ Hid (q = stepN j z)) (fun _ i => 8 - (intOf i).toNat)
      case atStart => exact ⟨0, z, by omega, rfl, rfl, hzl, rfl⟩
      case round =>
        clear hb
        obtain ⟨j, q, hj, rfl, rfl, hq, hdq⟩ := hrel
        by_cases hlj : j < 8
        · have ha := u32_and_one q hq
          by_cases hodd : q % 2 = 1
          · obtain ⟨r, hr⟩ : ∃ r, r = (q / 2) ^^^ poly := ⟨_, rfl⟩
            have hxr : bits .xor .u32 ((q : Int) / 2) 3558460437 = (r : Int) := by
              rw [hr, show ((q : Int) / 2) = ((q / 2 : Nat) : Int) from by omega]
              exact u32_xor_nat (q / 2) poly (by omega) (by unfold poly; omega)
            have hrl : r < 4294967296 := by rw [hr]; exact Nat.xor_lt_two_pow (n := 32) (by omega) (by unfold poly; omega)
            have HR : Hid (r = stepN (j + 1) z) := by show r = step1 (stepN j z); rw [← hdq.out, hr]; unfold step1; rw [if_pos hodd]
            have ho : ((q : Int) % 2) = 1 := by omega
            clear hr
            go_wp2
            go_round
            case rel => exact ⟨j + 1, r, by omega, by go_num, rfl, hrl, HR⟩
            case measure => (simp [intOf]; omega)
          · have ho : ((q : Int) % 2 == 1) = false := by simp; omega
            have HR : Hid (q / 2 = stepN (j + 1) z) := by show q / 2 = step1 (stepN j z); rw [← hdq.out]; unfold step1; rw [if_neg hodd]
            go_wp2
            go_round
            case rel => exact ⟨j + 1, q / 2, by omega, by go_num, by go_num, by omega, HR⟩
            case measure => (simp [intOf]; omega)
        · obtain rfl : j = 8 := by omega
          have hts := take_snoc s k hlt
          have HS : Hid (q = sumL x (s.data.toList.take (k + 1))) := by rw [hts, sumL_snoc, ← hd.out, hdq.out, HZ.out]; rfl
          clear hts
          go_wp2
          go_round
          case rel => exact ⟨k + 1, q, by omega, by go_num, rfl, hq, HS⟩
          case measure => (simp [intOf]; omega)
    · have hfin : Hid (y = sumL x s.data.toList) := by have := hd.out; rwa [List.take_of_length_le (by simp; omega)] at this
      go_wp2
      go_ret
      exact ⟨ret_int (by rw [hfin.out]), rfl⟩

def sumOf (s : ByteArray) : Nat := sumL 4294967295 s.data.toList
theorem sumOf_lt (s : ByteArray) : sumOf s < 4294967296 := sumL_lt (by omega) _
/-- The check sum's four bytes. -/
def fourL (x : Nat) : List UInt8 := [UInt8.ofNat (x / 16777216), UInt8.ofNat (x / 65536 % 256), UInt8.ofNat (x / 256 % 256), UInt8.ofNat (x % 256)]
def fourT (x : Nat) : ByteArray := ⟨(fourL x).toArray⟩
theorem fourT_nums (x : Nat) : strOfNums [(x : Int) / 16777216, (x : Int) / 65536 % 256, (x : Int) / 256 % 256, (x : Int) % 256] = fourT x := by
  apply WideShapes.bytes_inj
  have e1 : ((x : Int) / 16777216).toNat = x / 16777216 := by omega
  have e2 : ((x : Int) / 65536 % 256).toNat = x / 65536 % 256 := by omega
  have e3 : ((x : Int) / 256 % 256).toNat = x / 256 % 256 := by omega
  have e4 : ((x : Int) % 256).toNat = x % 256 := by omega
  rw [strOfNums_data, List.map_cons, List.map_cons, List.map_cons, List.map_cons, List.map_nil, e1, e2, e3, e4]
  rfl
theorem implSumOf_any (s : ByteArray) (w : World) (hs : s.size ≤ maxLen) :
    Calls Try.prog 241 #[.string s] w fun e w' => e = .returned (.int .u32 (sumOf s)) ∧ w = w' := by
  go_enter Try.func241, Try.ntmps241
  go_wp2_with (go_at_call 267; refine (implSumMore_any 4294967295 s _ (by omega) hs).mono ?_; rintro e w1 ⟨rfl, rfl⟩)
  go_ret
  exact ⟨rfl, rfl⟩
theorem specSumOf_any (s : ByteArray) (w : World) (hs : s.size ≤ maxLen) :
    Calls Try.prog 190 #[.string s] w fun e w' => e = .returned (.int .u32 (sumOf s)) ∧ w = w' := by
  go_enter Try.func190, Try.ntmps190
  go_wp2_with (go_at_call 221; refine (specSumMore_any 4294967295 s _ (by omega) hs).mono ?_; rintro e w1 ⟨rfl, rfl⟩)
  go_ret
  exact ⟨rfl, rfl⟩
set_option maxRecDepth 100000 in
theorem l02Four_any (x : Nat) (w : World) (hx : x < 4294967296) :
    Calls Try.prog 189 #[.int .u32 x] w fun e w' => e = .returned (.string (fourT x)) ∧ Fr w w' := by
  have hcv := fun (a b c d : Int) (w : World) => conv_lit [a, b, c, d] w 4 rfl
  simp only [List.map_cons, List.map_nil] at hcv
  have hft := fourT_nums x
  go_enter Try.func189, Try.ntmps189
  go_wp2
  go_ret
  exact ⟨ret_str hft, by repeat (first | (with_reducible exact Fr.refl _) | (with_reducible assumption) | (with_reducible refine Fr.drewN ?_ _) | (with_reducible refine Fr.drew ?_) | (with_reducible refine Fr.alloc ?_ _) | (with_reducible refine Fr.setCell ?_ (by (first | (with_reducible assumption) | omega | (simp only [World.size_alloc, World.size_setCell, World.size_drew, World.heap_drewN]; omega) | (simp; done) | (simp; omega))) _) | (with_reducible refine Fr.trans ?_ (by with_reducible assumption)))⟩
set_option maxRecDepth 100000 in
theorem sumText_any (s : ByteArray) (w : World) (hs : s.size ≤ maxLen) :
    Calls Try.prog 210 #[.string s] w fun e w' => e = .returned (.string (fourT (sumOf s))) ∧ Fr w w' := by
  have hcv := fun (a b c d : Int) (w : World) => conv_lit [a, b, c, d] w 4 rfl
  simp only [List.map_cons, List.map_nil] at hcv
  have hx := sumOf_lt s
  have hft := fourT_nums (sumOf s)
  go_enter Try.func210, Try.ntmps210
  go_wp2_with (go_at_call 241; refine (implSumOf_any s _ hs).mono ?_; rintro e w1 ⟨rfl, rfl⟩)
  go_ret
  exact ⟨ret_str hft, by repeat (first | (with_reducible exact Fr.refl _) | (with_reducible assumption) | (with_reducible refine Fr.drewN ?_ _) | (with_reducible refine Fr.drew ?_) | (with_reducible refine Fr.alloc ?_ _) | (with_reducible refine Fr.setCell ?_ (by (first | (with_reducible assumption) | omega | (simp only [World.size_alloc, World.size_setCell, World.size_drew, World.heap_drewN]; omega) | (simp; done) | (simp; omega))) _) | (with_reducible refine Fr.trans ?_ (by with_reducible assumption)))⟩
def frameT (s : ByteArray) : ByteArray := vText s.size ++ fourT (sumOf s) ++ s
def frameB (s : ByteArray) : Bool := decide (1 ≤ s.size ∧ s.size ≤ 9000)
def frameR (s : ByteArray) : ByteArray := if frameB s then frameT s else ByteArray.empty
theorem frameR_ok {s : ByteArray} (h : frameB s = true) : frameR s = frameT s := if_pos h
theorem frameR_no {s : ByteArray} (h : frameB s = false) : frameR s = ByteArray.empty := if_neg (by simp [h])
theorem ret_sb {a b : ByteArray} {c d : Bool} (h : a = b) (k : c = d) : Ending.returned (.tuple #[.string a, .bool c]) = .returned (.tuple #[.string b, .bool d]) := by rw [h, k]
set_option maxRecDepth 100000 in
theorem implFrame_any (s : ByteArray) (w : World) (hs : s.size ≤ maxLen) :
    Calls Try.prog 171 #[.string s] w fun e w' => e = .returned (.tuple #[.string (frameR s), .bool (frameB s)]) ∧ Fr w w' := by
  by_cases hb : 1 ≤ s.size ∧ s.size ≤ 9000
  · obtain ⟨h1, h2⟩ := hb
    have HB : Hid (frameB s = true) := by simp [Hid, frameB, h1, h2]
    have hv : (vText s.size).size ≤ 6 := by rw [vText_size]; exact varL_len40 _ (by omega)
    have hf4 : (fourT (sumOf s)).size ≤ 4 := Nat.le_of_eq rfl
    go_enter Try.func171, Try.ntmps171
    go_wp2_with (first | (go_at_call 104; refine (varText_any _ _ (by omega) (by omega)).mono ?_; rintro e w1 ⟨rfl, hf1⟩) | (go_at_call 210; refine (sumText_any s _ hs).mono ?_; rintro e w2 ⟨rfl, hf2⟩))
    go_ret2
    exact ⟨ret_sb (frameR_ok HB.out).symm HB.out.symm, by repeat (first | (with_reducible exact Fr.refl _) | (with_reducible assumption) | (with_reducible refine Fr.drewN ?_ _) | (with_reducible refine Fr.drew ?_) | (with_reducible refine Fr.alloc ?_ _) | (with_reducible refine Fr.setCell ?_ (by (first | (with_reducible assumption) | omega | (simp only [World.size_alloc, World.size_setCell, World.size_drew, World.heap_drewN]; omega) | (simp; done) | (simp; omega))) _) | (with_reducible refine Fr.trans ?_ (by with_reducible assumption)))⟩
  · have HB : Hid (frameB s = false) := by simpa [Hid, frameB] using hb
    go_enter Try.func171, Try.ntmps171
    go_wp2_with fail
    all_goals go_ret2
    all_goals exact ⟨ret_sb (frameR_no HB.out).symm HB.out.symm, by repeat (first | (with_reducible exact Fr.refl _) | (with_reducible assumption) | (with_reducible refine Fr.drewN ?_ _) | (with_reducible refine Fr.drew ?_) | (with_reducible refine Fr.alloc ?_ _) | (with_reducible refine Fr.setCell ?_ (by (first | (with_reducible assumption) | omega | (simp only [World.size_alloc, World.size_setCell, World.size_drew, World.heap_drewN]; omega) | (simp; done) | (simp; omega))) _) | (with_reducible refine Fr.trans ?_ (by with_reducible assumption)))⟩
set_option maxRecDepth 100000 in
theorem specFrame_any (s : ByteArray) (w : World) (hs : s.size ≤ maxLen) :
    Calls Try.prog 128 #[.string s] w fun e w' => e = .returned (.tuple #[.string (frameR s), .bool (frameB s)]) ∧ Fr w w' := by
  by_cases hb : 1 ≤ s.size ∧ s.size ≤ 9000
  · obtain ⟨h1, h2⟩ := hb
    have HB : Hid (frameB s = true) := by simp [Hid, frameB, h1, h2]
    have hv : (vText s.size).size ≤ 6 := by rw [vText_size]; exact varL_len40 _ (by omega)
    have hf4 : (fourT (sumOf s)).size ≤ 4 := Nat.le_of_eq rfl
    have hd : decide ((1 : Int) ≤ (s.size : Int) ∧ (s.size : Int) ≤ 9000) = true := by simp; omega
    have hlt := sumOf_lt s
    go_enter Try.func128, Try.ntmps128
    go_wp2_with (first | (go_at_call 94; refine (l01In_any _ _ _ _).mono ?_; rintro e w1 ⟨rfl, rfl⟩) | (go_at_call 130; refine (l01Var_any _ _ (by omega) (by omega)).mono ?_; rintro e w1 ⟨rfl, hf1⟩) | (go_at_call 190; refine (specSumOf_any s _ hs).mono ?_; rintro e w2 ⟨rfl, rfl⟩) | (go_at_call 189; refine (l02Four_any _ _ hlt).mono ?_; rintro e w2 ⟨rfl, hf2⟩))
    go_ret2
    exact ⟨ret_sb (frameR_ok HB.out).symm HB.out.symm, by repeat (first | (with_reducible exact Fr.refl _) | (with_reducible assumption) | (with_reducible refine Fr.drewN ?_ _) | (with_reducible refine Fr.drew ?_) | (with_reducible refine Fr.alloc ?_ _) | (with_reducible refine Fr.setCell ?_ (by (first | (with_reducible assumption) | omega | (simp only [World.size_alloc, World.size_setCell, World.size_drew, World.heap_drewN]; omega) | (simp; done) | (simp; omega))) _) | (with_reducible refine Fr.trans ?_ (by with_reducible assumption)))⟩
  · have HB : Hid (frameB s = false) := by simpa [Hid, frameB] using hb
    have hd : decide ((1 : Int) ≤ (s.size : Int) ∧ (s.size : Int) ≤ 9000) = false := by simp; omega
    go_enter Try.func128, Try.ntmps128
    go_wp2_with (go_at_call 94; refine (l01In_any _ _ _ _).mono ?_; rintro e w1 ⟨rfl, rfl⟩)
    go_ret2
    exact ⟨ret_sb (frameR_no HB.out).symm HB.out.symm, by repeat (first | (with_reducible exact Fr.refl _) | (with_reducible assumption) | (with_reducible refine Fr.drewN ?_ _) | (with_reducible refine Fr.drew ?_) | (with_reducible refine Fr.alloc ?_ _) | (with_reducible refine Fr.setCell ?_ (by (first | (with_reducible assumption) | omega | (simp only [World.size_alloc, World.size_setCell, World.size_drew, World.heap_drewN]; omega) | (simp; done) | (simp; omega))) _) | (with_reducible refine Fr.trans ?_ (by with_reducible assumption)))⟩
end Go.Proofs.Ytjgghiniajmfjaa
