/- Numbers as bytes: impl.varText and spec.l01Var give the same bytes. Condition: the number is not negative and below 2^40. -/
import Derived.Test.YtphjlecbhbcbcaaMark
namespace Go.Proofs.Ytphjlecbhbcbcaa
open Go.RowKit
set_option linter.unusedVariables false
set_option linter.unusedSimpArgs false

/-- The bytes of a number, low ones first. -/
def varL (n : Nat) : List UInt8 := if h : n ≤ 127 then [UInt8.ofNat n] else UInt8.ofNat (128 + n % 128) :: varL (n / 128)
theorem varL_small {n : Nat} (h : n ≤ 127) : varL n = [UInt8.ofNat n] := by rw [varL, dif_pos h]
theorem varL_big {n : Nat} (h : 127 < n) : varL n = UInt8.ofNat (128 + n % 128) :: varL (n / 128) := by rw [varL, dif_neg (by omega)]
theorem varL_len (n : Nat) : (varL n).length ≤ n + 1 := by
  induction n using Nat.strongRecOn with
  | ind n ih =>
    by_cases h : n ≤ 127
    · rw [varL_small h]; simp
    · rw [varL_big (by omega), List.length_cons]
      have := ih (n / 128) (by omega)
      omega
theorem varL_pos (n : Nat) : 0 < (varL n).length := by
  by_cases h : n ≤ 127
  · rw [varL_small h]; simp
  · rw [varL_big (by omega)]; simp
theorem varL_len40 (n : Nat) (h : n < 1099511627776) : (varL n).length ≤ 6 := by
  have step : ∀ m k, (∀ n, n < m → (varL n).length ≤ k) → ∀ n, n < m * 128 → (varL n).length ≤ k + 1 := by
    intro m k hk n hn
    by_cases h : n ≤ 127
    · rw [varL_small h]; simp
    · rw [varL_big (by omega), List.length_cons]
      have := hk (n / 128) (by omega)
      omega
  have h1 : ∀ n, n < 128 → (varL n).length ≤ 1 := fun n hn => by rw [varL_small (by omega)]; simp
  have h6 := step _ _ (step _ _ (step _ _ (step _ _ (step _ _ h1))))
  exact h6 n (by omega)
def vText (n : Int) : ByteArray := ⟨(varL n.toNat).toArray⟩
theorem vText_size (n : Int) : (vText n).size = (varL n.toNat).length := by simp [vText, ByteArray.size]

theorem info_byte : (Try.prog.info? 5).map (fun i => (i.zero, i.size, i.bytes)) = some (some (.int .u8 0), 1, 1) := by kernel_rfl

/-- 'string(b)' of bytes that the call itself laid. -/
theorem conv_own {w : World} {lo : Nat} {v : Value} {n : Nat} {xs : List Int} (h : w.ownsRow lo 5 1 v n (xs.map (Value.int .u8))) :
    (convert 77 9 v).run Try.prog w = .ok (.string (strOfNums xs)) w := by
  have h0 := h
  obtain ⟨h1, ⟨rfl, rfl⟩ | ⟨g, cap, cur, rfl, _⟩⟩ := h
  · have : xs = [] := by simpa using h1
    subst this
    exact run_convert_bytes_nil _ 77 5 Try.underlying77 Try.underlying5 0 0 9 Try.underlying9
  · have hn : xs.length = n := by simpa using h1
    refine run_convert_bytes_arg _ 77 5 Try.underlying77 Try.underlying5 g 0 n cap xs hn (fun i hi => ?_) 9 Try.underlying9
    rw [Nat.zero_add, h0.cellAt i (by omega)]
    have : i < xs.length := by omega
    simp [List.getD, List.getElem?_eq_getElem this]

/-- The bytes l as numbers. -/
def nums (l : List UInt8) : List Int := l.map fun b => (b.toNat : Int)
theorem nums_append (l m : List UInt8) : nums (l ++ m) = nums l ++ nums m := by simp [nums]
theorem nums_length (l : List UInt8) : (nums l).length = l.length := by simp [nums]
theorem str_nums (l : List UInt8) : strOfNums (nums l) = ⟨l.toArray⟩ := by
  apply WideShapes.bytes_inj
  rw [strOfNums_data, nums, List.map_map]
  show l.map _ = l
  conv => rhs; rw [← List.map_id l]
  apply List.map_congr_left
  intro b _
  simp
theorem num_byte (m : Nat) (h : m < 256) : ((UInt8.ofNat m).toNat : Int) = m := by
  have : (UInt8.ofNat m).toNat = m := by simp; omega
  omega

def BytesO (w : World) (lo : Nat) (v : Value) (l : List UInt8) : Prop := w.ownsRow lo 5 1 v l.length ((nums l).map (Value.int .u8))

theorem BytesO.snoc {w : World} {lo : Nat} {v : Value} {l : List UInt8} {x : Int} {b : UInt8} (h : w.ownsRow lo 5 1 v (l.length + 1) ((nums l).map (Value.int .u8) ++ [.int .u8 x])) (hx : x = (b.toNat : Int)) : BytesO w lo v (l ++ [b]) := by
  subst hx
  unfold BytesO
  rw [nums_append, List.map_append, List.length_append]
  exact h
theorem BytesO.conv {w : World} {lo : Nat} {v : Value} {l : List UInt8} (h : BytesO w lo v l) : (convert 77 9 v).run Try.prog w = .ok (.string ⟨l.toArray⟩) w := by
  rw [← str_nums]
  exact conv_own h
/-- Behind an append of the call's own: nothing old has turned. -/
theorem append_fr {w wr w1 : World} {o : Obj} {e : TypeId} {sz : Nat} {v : Value} {n : Nat} {xs : List Value} (hfr : Fr w wr) (ho : wr.ownsRow w.heap.size e sz v n xs) (hg : (wr.alloc o).grownBy w1 v.ownBlock) : Fr w w1 :=
  (hfr.alloc o).grown hg (fun k hk => (ho.lt k hk).1)

set_option maxRecDepth 100000 in
theorem varText_nat (k : Nat) (w : World) (h1 : k ≤ 1099511627775) :
    Calls Try.prog 101 #[.int .i64 k] w fun e w' => e = .returned (.string (vText k)) ∧ Fr w w' := by
  obtain ⟨i0, hi, hz0, hz1, hz2⟩ := info_parts info_byte
  have hlen := varL_len40 k (by omega)
  go_enter Try.func101, Try.ntmps101
  go_wp2
  go_loopw [0, 3] (fun i v wr => ∃ (m : Nat) (l : List UInt8), i = .int .i64 m ∧ BytesO wr w.heap.size v l ∧ m ≤ k ∧ Hid (l ++ varL m = varL k) ∧ Fr w wr) (fun i _ _ => (intOf i).toNat)
  case atStart => exact ⟨k, [], rfl, World.ownsRow_nil _ _ _ _, Nat.le_refl _, by simp [Hid], Fr.refl _⟩
  case round =>
    obtain ⟨m, l, rfl, ho, hm, hd, hfr⟩ := hrel
    have hll : l.length ≤ 6 := by
      have := congrArg List.length hd.out
      simp only [List.length_append] at this
      omega
    clear hlen
    by_cases hlt : 127 < m
    · go_wp2_with (at_builtin; refine wpList_append_own _ rfl _ _ 77 rfl w.heap.size 5 i0 (.int .u8 0) 1 1 Try.underlying77 hi hz0 hz1 hz2 rfl (by decide) _ _ _ rfl (World.ownsRow.alloc ho _) ⟨wr.heap.size, 0, none⟩ 1 1 [.int .u8 (128 + (m : Int) % 128)] rfl rfl (cell_one_new _ _ _) (by simp [Value.oneCell']) (by unfold maxLen; omega) (by omega) (by have := hfr.size; simp; omega) ?_; intro v' w1 hown' hgrow _)
      have hf1 := append_fr hfr ho hgrow
      have ho1 := BytesO.snoc (b := UInt8.ofNat (128 + m % 128)) hown' (by rw [num_byte _ (by omega)]; omega)
      have hd1 : Hid ((l ++ [UInt8.ofNat (128 + m % 128)]) ++ varL (m / 128) = varL k) := by have := hd.out; rw [varL_big hlt] at this; rw [List.append_assoc]; exact this
      clear hown' hgrow
      go_roundw
      case rel => exact ⟨m / 128, _, rfl, ho1, by omega, hd1, hf1⟩
      case measure => (simp [intOf]; omega)
    · go_wp2_with (at_builtin; refine wpList_append_own _ rfl _ _ 77 rfl w.heap.size 5 i0 (.int .u8 0) 1 1 Try.underlying77 hi hz0 hz1 hz2 rfl (by decide) _ _ _ rfl (World.ownsRow.alloc ho _) ⟨wr.heap.size, 0, none⟩ 1 1 [.int .u8 (m : Int)] rfl rfl (cell_one_new _ _ _) (by simp [Value.oneCell']) (by unfold maxLen; omega) (by omega) (by have := hfr.size; simp; omega) ?_; intro v' w1 hown' hgrow _; have hf1 := append_fr hfr ho hgrow; have ho1 := BytesO.snoc (b := UInt8.ofNat m) hown' (by rw [num_byte _ (by omega)]); have hcv := ho1.conv)
      go_ret
      exact ⟨ret_str (by have := hd.out; rw [varL_small (by omega)] at this; unfold vText; rw [Int.toNat_natCast, ← this]), hf1⟩
theorem varText_any (k : Int) (w : World) (h0 : 0 ≤ k) (h1 : k ≤ 1099511627775) :
    Calls Try.prog 101 #[.int .i64 k] w fun e w' => e = .returned (.string (vText k)) ∧ Fr w w' := by
  obtain ⟨n, rfl⟩ := Int.eq_ofNat_of_zero_le h0
  exact varText_nat n w (by omega)
set_option maxRecDepth 100000 in
theorem l01Var_nat (k : Nat) (w : World) (h1 : k ≤ 1099511627775) :
    Calls Try.prog 98 #[.int .i64 k] w fun e w' => e = .returned (.string (vText k)) ∧ Fr w w' := by
  obtain ⟨i0, hi, hz0, hz1, hz2⟩ := info_parts info_byte
  have hlen := varL_len40 k (by omega)
  go_enter Try.func98, Try.ntmps98
  go_wp2
  go_loopw [0, 3] (fun i v wr => ∃ (m : Nat) (l : List UInt8), i = .int .i64 m ∧ BytesO wr w.heap.size v l ∧ m ≤ k ∧ Hid (l ++ varL m = varL k) ∧ Fr w wr) (fun i _ _ => (intOf i).toNat)
  case atStart => exact ⟨k, [], rfl, World.ownsRow_lit w #[] 0 (Nat.le_refl _) (by simp [maxLen]) rfl, Nat.le_refl _, by simp [Hid], (Fr.refl _).alloc _⟩
  case round =>
    obtain ⟨m, l, rfl, ho, hm, hd, hfr⟩ := hrel
    have hll : l.length ≤ 6 := by
      have := congrArg List.length hd.out
      simp only [List.length_append] at this
      omega
    clear hlen
    by_cases hlt : 127 < m
    · go_wp2_with (at_builtin; refine wpList_append_own _ rfl _ _ 77 rfl w.heap.size 5 i0 (.int .u8 0) 1 1 Try.underlying77 hi hz0 hz1 hz2 rfl (by decide) _ _ _ rfl (World.ownsRow.alloc ho _) ⟨wr.heap.size, 0, none⟩ 1 1 [.int .u8 ((m : Int) % 128 + 128)] rfl rfl (cell_one_new _ _ _) (by simp [Value.oneCell']) (by unfold maxLen; omega) (by omega) (by have := hfr.size; simp; omega) ?_; intro v' w1 hown' hgrow _)
      have hf1 := append_fr hfr ho hgrow
      have ho1 := BytesO.snoc (b := UInt8.ofNat (128 + m % 128)) hown' (by rw [num_byte _ (by omega)]; omega)
      have hd1 : Hid ((l ++ [UInt8.ofNat (128 + m % 128)]) ++ varL (m / 128) = varL k) := by have := hd.out; rw [varL_big hlt] at this; rw [List.append_assoc]; exact this
      clear hown' hgrow
      go_roundw
      case rel => exact ⟨m / 128, _, rfl, ho1, by omega, hd1, hf1⟩
      case measure => (simp [intOf]; omega)
    · go_wp2_with (at_builtin; refine wpList_append_own _ rfl _ _ 77 rfl w.heap.size 5 i0 (.int .u8 0) 1 1 Try.underlying77 hi hz0 hz1 hz2 rfl (by decide) _ _ _ rfl (World.ownsRow.alloc ho _) ⟨wr.heap.size, 0, none⟩ 1 1 [.int .u8 (m : Int)] rfl rfl (cell_one_new _ _ _) (by simp [Value.oneCell']) (by unfold maxLen; omega) (by omega) (by have := hfr.size; simp; omega) ?_; intro v' w1 hown' hgrow _; have hf1 := append_fr hfr ho hgrow; have ho1 := BytesO.snoc (b := UInt8.ofNat m) hown' (by rw [num_byte _ (by omega)]); have hcv := ho1.conv)
      go_ret
      exact ⟨ret_str (by have := hd.out; rw [varL_small (by omega)] at this; unfold vText; rw [Int.toNat_natCast, ← this]), hf1⟩
theorem l01Var_any (k : Int) (w : World) (h0 : 0 ≤ k) (h1 : k ≤ 1099511627775) :
    Calls Try.prog 98 #[.int .i64 k] w fun e w' => e = .returned (.string (vText k)) ∧ Fr w w' := by
  obtain ⟨n, rfl⟩ := Int.eq_ofNat_of_zero_le h0
  exact l01Var_nat n w (by omega)
end Go.Proofs.Ytphjlecbhbcbcaa
