/- The reference's draws: a cursor over the bytes of a draw (spec.l01New, l01Byte, l01Below, l01Once): each number drawn lies in its bounds; nothing but the cursor's box turns. No condition but the size of the draw. -/
import Derived.Test.YtphjlecbhbcbcaaApp
import Derived.Test.YtphjlecbhbcbcaaNum
import Derived.Laws.Bits128
import Derived.Deep.QuietTactic
import Derived.BigQuiet
import Derived.Deep.RegionHeld3
namespace Go.Proofs.Ytphjlecbhbcbcaa
open Go.RowKit
set_option linter.unusedVariables false
set_option linter.unusedSimpArgs false

theorem and255 (n : Int) : bits .and .i64 n 255 = n % 256 := by
  have h : (BitVec.ofInt 64 255).toNat = 2 ^ 8 - 1 := by decide
  have key : (BitVec.ofInt 64 n &&& BitVec.ofInt 64 255).toNat = (n % ((2 ^ 64 : Nat) : Int)).toNat % 2 ^ 8 := by
    rw [BitVec.toNat_and, BitVec.toNat_ofInt, h, Nat.and_two_pow_sub_one_eq_mod]
  show IntKind.i64.wrap ((BitVec.ofInt 64 n &&& BitVec.ofInt 64 255).toNat : Nat) = n % 256
  rw [key, IntKind.wrap_i64]
  omega
theorem and30 (n : Int) : bits .and .i64 n 1073741823 = n % 1073741824 := by
  have h : (BitVec.ofInt 64 1073741823).toNat = 2 ^ 30 - 1 := by decide
  have key : (BitVec.ofInt 64 n &&& BitVec.ofInt 64 1073741823).toNat = (n % ((2 ^ 64 : Nat) : Int)).toNat % 2 ^ 30 := by
    rw [BitVec.toNat_and, BitVec.toNat_ofInt, h, Nat.and_two_pow_sub_one_eq_mod]
  show IntKind.i64.wrap ((BitVec.ofInt 64 n &&& BitVec.ofInt 64 1073741823).toNat : Nat) = n % 1073741824
  rw [key, IntKind.wrap_i64]
  omega
/-- A slice of bytes that lies below block hi. -/
def ByR (w : World) (hi : Nat) (ao : Option Addr) (n cap : Nat) : Prop :=
  n ≤ cap ∧ cap ≤ 9223372036854775807 ∧ (0 < n → ∃ c o, ao = some ⟨c, o, none⟩ ∧ c < hi ∧ c < w.heap.size ∧ ∀ j, j < n → ∃ x : Nat, x < 256 ∧ w.cell? ⟨c, o + j, none⟩ = some (.int .u8 x))
theorem ByR.fr {w w' : World} {hi : Nat} {ao : Option Addr} {n cap : Nat} (h : ByR w hi ao n cap) (hf : Fr w w') : ByR w' hi ao n cap := by
  obtain ⟨h1, h2, h3⟩ := h
  refine ⟨h1, h2, fun hn => ?_⟩
  obtain ⟨c, o, ha, hc, hs, hx⟩ := h3 hn
  refine ⟨c, o, ha, hc, Nat.lt_of_lt_of_le hs hf.size, fun j hj => ?_⟩
  obtain ⟨x, hx1, hx2⟩ := hx j hj
  exact ⟨x, hx1, (hf.cell (p := ⟨c, _, none⟩) hs).trans hx2⟩
theorem ByR.span {w w' : World} {hi a b : Nat} {ao : Option Addr} {n cap : Nat} (h : ByR w hi ao n cap) (s : Span a b w w') (ha : hi ≤ a) : ByR w' hi ao n cap := by
  obtain ⟨h1, h2, h3⟩ := h
  refine ⟨h1, h2, fun hn => ?_⟩
  obtain ⟨c, o, hao, hc, hs, hx⟩ := h3 hn
  refine ⟨c, o, hao, hc, Nat.lt_of_lt_of_le hs s.size, fun j hj => ?_⟩
  obtain ⟨x, hx1, hx2⟩ := hx j hj
  exact ⟨x, hx1, ((s.blk c hs (.inl (by omega))).1 _).trans hx2⟩
/-- A cursor of the draws in block b. -/
def Cu (w : World) (b : Nat) : Prop := ∃ ao n cap i, ∃ h : Int, Box w b #[.slice ao n cap, .int .i64 (i : Nat), .int .i64 h] 192 ∧ ByR w b ao n cap ∧ i ≤ n
theorem Cu.fr {w w' : World} {b : Nat} (h : Cu w b) (hf : Fr w w') : Cu w' b := by
  obtain ⟨ao, n, cap, i, x, h1, h2, h3⟩ := h
  exact ⟨ao, n, cap, i, x, h1.fr hf, h2.fr hf, h3⟩
theorem Cu.lt {w : World} {b : Nat} (h : Cu w b) : b < w.heap.size := by obtain ⟨ao, n, cap, i, x, h1, _⟩ := h; exact h1.lt
theorem Cu.span {w w' : World} {b lo hi : Nat} (h : Cu w b) (s : Span lo hi w w') (hb : b < lo) : Cu w' b := by
  obtain ⟨ao, n, cap, i, x, h1, h2, h3⟩ := h
  exact ⟨ao, n, cap, i, x, h1.span s (.inl hb), h2.span s (by omega), h3⟩
theorem and255_nat (n : Int) : bits .and .i64 n 255 = (((n % 256).toNat : Nat) : Int) := by rw [and255]; omega
theorem mod256_lt (n : Int) : (n % 256).toNat < 256 := by omega
theorem Span.setc {b i : Nat} {a w : World} {v : Value} (h : Span b (b + 1) a w) : Span b (b + 1) a (w.setCell ⟨b, i, none⟩ v) := h.trans (by
  refine ⟨rfl, rfl, rfl, by simp, fun k hk ho => ?_⟩
  exact heap_setCell_other w ⟨b, i, none⟩ k v (by show k ≠ b; omega))
theorem Span.drewN' {b c n : Nat} {a w : World} (h : Span b c a w) : Span b c a (w.drewN n) := h.then_fr ((Fr.refl _).drewN _)
theorem Span.drew' {b c : Nat} {a w : World} (h : Span b c a w) : Span b c a w.drew := h.then_fr (Fr.refl _).drew
theorem Cu.mk' {w w' : World} {b n cap i' : Nat} {ao : Option Addr} {h' : Int} (hy : ByR w b ao n cap) (s : Span b (b + 1) w w') (hb : Box w' b #[.slice ao n cap, .int .i64 (i' : Int), .int .i64 h'] 192) (hi : i' ≤ n) : Cu w' b := ⟨ao, n, cap, i', h', hb, hy.span s (Nat.le_refl _), hi⟩
theorem Span.set2 {b i : Nat} {w : World} {v : Value} : Span b (b + 1) w (w.setCell ⟨b, i, none⟩ v) := by
  refine ⟨rfl, rfl, rfl, by simp, fun k hk ho => ?_⟩
  exact heap_setCell_other w ⟨b, i, none⟩ k v (by show k ≠ b; omega)
set_option maxHeartbeats 2000000 in
set_option maxRecDepth 100000 in
theorem l01Byte_any (b : Nat) (w : World) (hc : Cu w b) :
    Calls Try.prog 122 #[.pointer (some ⟨b, 0, none⟩)] w fun e w' => ∃ x : Nat, x < 256 ∧ e = .returned (.int .i64 x) ∧ Cu w' b ∧ Span b (b + 1) w w' := by
  obtain ⟨ao, n, cap, i, h, hb, hy, hi⟩ := hc
  have HB := Lib.hid hb
  have HY := Lib.hid hy
  have F := hb.facts
  have hcap := hy.2.1
  have hn := hy.1
  clear hb
  by_cases hlt : i < n
  · obtain ⟨c, o, rfl, hcb, hcs, hx⟩ := hy.2.2 (by omega)
    obtain ⟨x, hx1, hx2⟩ := hx i hlt
    clear hx hy
    go_enter Try.func122, Try.ntmps122
    go_wp2_with fail
    go_quiet (fail)
    go_wp2_with fail
    go_quiet (fail)
    go_wp2_with fail
    go_quiet (fail)
    go_wp2_with fail
    go_ret
    refine ⟨_, mod256_lt _, ret_int (and255_nat _), Cu.mk' (i' := i + 1) HY.out ?_ (((HB.out.set 2 _).drewN _).set_to (by simp; rfl)) (by omega), ?_⟩
    · repeat (first | exact Span.refl _ _ _ | apply Span.drewN' | apply Span.setc)
    · repeat (first | exact Span.refl _ _ _ | apply Span.drewN' | apply Span.setc)
  · obtain rfl : i = n := by omega
    go_enter Try.func122, Try.ntmps122
    go_wp2_with fail
    go_quiet (fail)
    go_wp2_with fail
    go_quiet (fail)
    go_wp2_with fail
    go_ret
    refine ⟨_, mod256_lt _, ret_int (and255_nat _), Cu.mk' (i' := i) (h' := wrap64 (wrap64 (h * 6364136223846793005) + 1442695040888963407)) HY.out ?_ ?_ (by omega), ?_⟩
    rotate_left
    · exact ((HB.out.set 2 _).drewN _).drewN _
    · repeat (first | exact Span.refl _ _ _ | apply Span.drewN' | apply Span.setc)
    · repeat (first | exact Span.refl _ _ _ | apply Span.drewN' | apply Span.setc)
theorem rem_lt {x n : Int} (hn : 0 < n) : ∃ y : Nat, x % n = (y : Int) ∧ (y : Int) < n := by
  have h1 := Int.emod_nonneg x (show n ≠ 0 by omega)
  have h2 := Int.emod_lt_of_pos x hn
  exact ⟨(x % n).toNat, by omega, by omega⟩
set_option maxHeartbeats 2000000 in
set_option maxRecDepth 100000 in
theorem l01Below_any (b : Nat) (n : Int) (w : World) (hc : Cu w b) (hn : n ≤ 9223372036854775807) :
    Calls Try.prog 123 #[.pointer (some ⟨b, 0, none⟩), .int .i64 n] w fun e w' => ∃ x : Nat, (0 < n → (x : Int) < n) ∧ (n ≤ 0 → x = 0) ∧ e = .returned (.int .i64 x) ∧ Cu w' b ∧ Span b (b + 1) w w' := by
  by_cases h0 : n ≤ 0
  · go_enter Try.func123, Try.ntmps123
    go_wp2_with fail
    go_ret
    exact ⟨0, fun h => by omega, fun _ => rfl, rfl, hc, Span.refl _ _ _⟩
  · by_cases h1 : n ≤ 256
    · go_enter Try.func123, Try.ntmps123
      go_wp2_with fail
      refine (l01Byte_any b _ hc).mono ?_
      rintro e w1 ⟨x, hx, rfl, hc1, sp1⟩
      obtain ⟨y, hy1, hy2⟩ := rem_lt (x := (x : Int)) (n := n) (by omega)
      go_wp2_with fail
      go_ret
      exact ⟨y, fun _ => hy2, fun h => by omega, ret_int (by first | exact hy1 | rfl), hc1, sp1⟩
    · go_enter Try.func123, Try.ntmps123
      go_wp2_with fail
      refine (l01Byte_any b _ hc).mono ?_
      rintro e w1 ⟨x1, hx1, rfl, hc1, sp1⟩
      go_wp2_with fail
      refine (l01Byte_any b _ hc1).mono ?_
      rintro e w2 ⟨x2, hx2, rfl, hc2, sp2⟩
      go_wp2_with fail
      refine (l01Byte_any b _ hc2).mono ?_
      rintro e w3 ⟨x3, hx3, rfl, hc3, sp3⟩
      go_wp2_with fail
      refine (l01Byte_any b _ hc3).mono ?_
      rintro e w4 ⟨x4, hx4, rfl, hc4, sp4⟩
      obtain ⟨y, hy1, hy2⟩ := rem_lt (x := (x1 : Int) * 16777216 + x2 * 65536 + x3 * 256 + x4) (n := n) (by omega)
      go_wp2_with fail
      go_ret
      exact ⟨y, fun _ => hy2, fun h => by omega, ret_int (by first | exact hy1 | rfl), hc4, sp1.trans (sp2.trans (sp3.trans sp4))⟩
theorem l01Once_any (b : Nat) (n : Int) (w : World) (hc : Cu w b) (hn : n ≤ 9223372036854775807) :
    Calls Try.prog 188 #[.pointer (some ⟨b, 0, none⟩), .int .i64 n] w fun e w' => ∃ x : Bool, e = .returned (.bool x) ∧ Cu w' b ∧ Span b (b + 1) w w' := by
  go_enter Try.func188, Try.ntmps188
  go_wp2_with fail
  refine (l01Below_any b n _ hc hn).mono ?_
  rintro e w1 ⟨x, _, _, rfl, hc1, sp1⟩
  go_wp2_with fail
  go_ret
  exact ⟨_, rfl, hc1, sp1⟩
set_option maxHeartbeats 2000000 in
set_option maxRecDepth 100000 in
theorem l01New_any (ao : Option Addr) (n cap : Nat) (w : World) (hy : ByR w w.heap.size ao n cap) :
    Calls Try.prog 120 #[.slice ao n cap] w fun e w' => ∃ b, e = .returned (.pointer (some ⟨b, 0, none⟩)) ∧ w.heap.size ≤ b ∧ Cu w' b ∧ Fr w w' := by
  obtain ⟨hn, hcap, fy⟩ := hy
  have HY : Hid (ByR w w.heap.size ao n cap) := ⟨hn, hcap, fy⟩
  have FY := Lib.hid fy
  clear fy
  go_enter Try.func120, Try.ntmps120
  go_wp2_with fail
  go_loopw [3, 4] (fun h i wr => ∃ (k : Nat) (x : Int), k ≤ n ∧ k ≤ 4000 ∧ i = .int .i64 k ∧ h = .int .i64 x ∧ wr = w) (fun _ i _ => 4000 - (intOf i).toNat)
  case atStart => exact ⟨0, _, Nat.zero_le _, Nat.zero_le _, rfl, rfl, by first | rfl | trivial⟩
  case round =>
    obtain ⟨k, x, hk, hk2, rfl, rfl, rfl⟩ := hrel
    by_cases hlt : k < n
    · obtain ⟨c, o, rfl, hc1, hc2, hx⟩ := FY.out (by omega)
      obtain ⟨y, hy1, hy2⟩ := hx k hlt
      clear hx
      by_cases h4 : k < 4000
      · go_wp2_with fail
        go_roundw
        case rel => exact ⟨k + 1, _, by omega, by omega, by go_num, rfl, by first | rfl | trivial⟩
        case measure => (simp [intOf]; omega)
      · go_wp2_with fail
        go_ret
        exact ⟨_, rfl, Nat.le_refl _, ⟨_, n, cap, 0, _, Box.new _ _ _, HY.out.fr ((Fr.refl _).alloc _), Nat.zero_le _⟩, (Fr.refl _).alloc _⟩
    · go_wp2_with fail
      go_ret
      exact ⟨_, rfl, Nat.le_refl _, ⟨_, n, cap, 0, _, Box.new _ _ _, HY.out.fr ((Fr.refl _).alloc _), Nat.zero_le _⟩, (Fr.refl _).alloc _⟩
end Go.Proofs.Ytphjlecbhbcbcaa
