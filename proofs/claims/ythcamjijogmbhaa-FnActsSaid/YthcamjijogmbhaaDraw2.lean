/- The reference's draws: texts (spec.l01Text, l01Long), DrawPlaces, DrawHex: how long each is; nothing old but the cursor's box turns. No condition but the size of the draw. -/
import Derived.Test.YthcamjijogmbhaaDraw
import Derived.Test.YthcamjijogmbhaaTFlat
namespace Go.Proofs.Ythcamjijogmbhaa
open Go.RowKit
set_option linter.unusedVariables false
set_option linter.unusedSimpArgs false

theorem cell_first {w : World} {u : Value} {T : TypeId} {b : Nat} (hb : b = w.heap.size) : ∀ (j : Nat) (v : Value), [u][j]? = some v → (w.alloc (.cells #[u] T)).cell? ((⟨b, 0, none⟩ : Addr).add j) = some v := cell_new hb
theorem Span.above {b : Nat} {a w w' : World} {v : Value} (s : Span b (b + 1) a w) (hg : w.grownBy w' v.ownBlock) (hv : ∀ g, v.ownBlock = some g → a.heap.size ≤ g) : Span b (b + 1) a w' :=
  s.app hg (fun k hk => .inr (hv k hk))
theorem Span.alloc' {b c : Nat} {a w : World} (h : Span b c a w) (o : Obj) : Span b c a (w.alloc o) := h.then_fr ((Fr.refl _).alloc _)
theorem Cu.gr {w w' : World} {b : Nat} {v : Value} (h : Cu w b) (hg : w.grownBy w' v.ownBlock) (hv : ∀ g, v.ownBlock = some g → b < g) : Cu w' b := by
  have s : Span (b + 1) (w.heap.size + b + 2 + (v.ownBlock.getD 0)) w w' := Span.of_gr hg (fun k hk => ⟨hv k hk, by rw [hk]; simp only [Option.getD_some]; omega⟩)
  exact h.span s (by omega)
set_option maxHeartbeats 2000000 in
set_option maxRecDepth 100000 in
theorem l01Text_any (b : Nat) (n : Int) (w : World) (hc : Cu w b) :
    Calls Try.prog 125 #[.pointer (some ⟨b, 0, none⟩), .int .i64 n] w fun e w' => ∃ s : ByteArray, s.size = (min n 5000).toNat ∧ e = .returned (.string s) ∧ Cu w' b ∧ Span b (b + 1) w w' := by
  obtain ⟨i0, hi, hz0, hz1, hz2⟩ := info_parts info_byte
  obtain ⟨m, hm⟩ : ∃ m, min n 5000 = m := ⟨_, rfl⟩
  have hm5 : m ≤ 5000 := by omega
  have HM := Lib.hid hm
  rw [hm]
  by_cases hn : n ≤ 5000
  · obtain rfl : m = n := by omega
    clear hm
    have hbl := hc.lt
    go_enter Try.func125, Try.ntmps125
    go_wp2_with fail
    go_loopw [5, 6] (fun v i wr => ∃ (l : List UInt8), (l.length : Int) ≤ max m 0 ∧ i = .int .i64 l.length ∧ BytesO wr w.heap.size v l ∧ Cu wr b ∧ Span b (b + 1) w wr) (fun _ i _ => 5000 - (intOf i).toNat)
    case atStart => exact ⟨[], by first | (simp; done) | (simp; omega), rfl, World.ownsRow_made w #[] 0 (Nat.le_refl _) (Nat.zero_le _) rfl, hc.fr ((Fr.refl _).alloc _), Span.of_fr ((Fr.refl _).alloc _)⟩
    case round =>
      obtain ⟨l, hk, rfl, ho, hcu, hsp⟩ := hrel
      have HO := Lib.hid ho
      obtain ⟨ao, cap, rfl⟩ := owns_val ho
      have hsz := hsp.size
      by_cases hlt : (l.length : Int) < m
      · go_wp2_with fail
        refine (l01Byte_any b _ hcu).mono ?_
        rintro e w1 ⟨x, hx, rfl, hc1, sp1⟩
        have hs1 := sp1.size
        have ho1 : BytesO w1 w.heap.size _ l := sp1.owns HO.out (fun g hg => .inr (by have := (HO.out).lt g hg; omega))
        have u1 : IntKind.u8.wrap (x : Int) = x := IntWalk.u8_in _ (by omega)
        go_wp2_with (at_builtin; refine wpList_append_rd rfl _ _ 60 rfl w.heap.size 5 i0 (.int .u8 0) 1 1 Try.underlying60 hi hz0 hz1 hz2 rfl (by decide) _ l.length ((nums l).map (Value.int .u8)) rfl (World.ownsRow.alloc ho1 _) _ 1 [.int .u8 (x : Int)] rfl (RdS.new (by first | rfl | simp) rfl) (by simp [Value.oneCell']) (by unfold maxLen; omega) (by omega) (by (first | (with_reducible assumption) | omega | (simp only [World.size_alloc, World.size_setCell, World.size_drew, World.heap_drewN]; omega) | (simp; done) | (simp; omega))) ?_; intro ao' cap' w2 hown hgrow hat)
        have ho2 := BytesO.snoc (b := UInt8.ofNat x) hown (by rw [num_byte _ hx])
        have hc2 : Cu w2 b := (hc1.fr ((Fr.refl _).alloc _)).gr hgrow (fun g hg => by have := World.ownsRow.lt ho1 g hg; omega)
        have hs2 : Span b (b + 1) w w2 := ((hsp.trans sp1).alloc' _).above hgrow (fun g hg => (World.ownsRow.lt ho1 g hg).1)
        go_roundw
        case rel => exact ⟨l ++ [UInt8.ofNat x], by first | (simp; done) | (simp; omega), by first | (simp; done) | (simp; go_num), by simpa using ho2, hc2, hs2⟩
        case measure => (simp [intOf]; omega)
      · have hcv := BytesO.conv HO.out
        go_wp2_with fail
        go_ret
        exact ⟨_, by first | (simp [ByteArray.size]; done) | (simp [ByteArray.size]; omega), rfl, hcu, hsp⟩
  · obtain rfl : m = 5000 := by omega
    clear hm
    have hbl := hc.lt
    go_enter Try.func125, Try.ntmps125
    go_wp2_with fail
    go_loopw [5, 6] (fun v i wr => ∃ (l : List UInt8), (l.length : Int) ≤ 5000 ∧ i = .int .i64 l.length ∧ BytesO wr w.heap.size v l ∧ Cu wr b ∧ Span b (b + 1) w wr) (fun _ i _ => 5000 - (intOf i).toNat)
    case atStart => exact ⟨[], by first | (simp; done) | (simp; omega), rfl, World.ownsRow_made w #[] 0 (Nat.le_refl _) (Nat.zero_le _) rfl, hc.fr ((Fr.refl _).alloc _), Span.of_fr ((Fr.refl _).alloc _)⟩
    case round =>
      obtain ⟨l, hk, rfl, ho, hcu, hsp⟩ := hrel
      have HO := Lib.hid ho
      obtain ⟨ao, cap, rfl⟩ := owns_val ho
      have hsz := hsp.size
      by_cases hlt : (l.length : Int) < 5000
      · go_wp2_with fail
        refine (l01Byte_any b _ hcu).mono ?_
        rintro e w1 ⟨x, hx, rfl, hc1, sp1⟩
        have hs1 := sp1.size
        have ho1 : BytesO w1 w.heap.size _ l := sp1.owns HO.out (fun g hg => .inr (by have := (HO.out).lt g hg; omega))
        have u1 : IntKind.u8.wrap (x : Int) = x := IntWalk.u8_in _ (by omega)
        go_wp2_with (at_builtin; refine wpList_append_rd rfl _ _ 60 rfl w.heap.size 5 i0 (.int .u8 0) 1 1 Try.underlying60 hi hz0 hz1 hz2 rfl (by decide) _ l.length ((nums l).map (Value.int .u8)) rfl (World.ownsRow.alloc ho1 _) _ 1 [.int .u8 (x : Int)] rfl (RdS.new (by first | rfl | simp) rfl) (by simp [Value.oneCell']) (by unfold maxLen; omega) (by omega) (by (first | (with_reducible assumption) | omega | (simp only [World.size_alloc, World.size_setCell, World.size_drew, World.heap_drewN]; omega) | (simp; done) | (simp; omega))) ?_; intro ao' cap' w2 hown hgrow hat)
        have ho2 := BytesO.snoc (b := UInt8.ofNat x) hown (by rw [num_byte _ hx])
        have hc2 : Cu w2 b := (hc1.fr ((Fr.refl _).alloc _)).gr hgrow (fun g hg => by have := World.ownsRow.lt ho1 g hg; omega)
        have hs2 : Span b (b + 1) w w2 := ((hsp.trans sp1).alloc' _).above hgrow (fun g hg => (World.ownsRow.lt ho1 g hg).1)
        go_roundw
        case rel => exact ⟨l ++ [UInt8.ofNat x], by first | (simp; done) | (simp; omega), by first | (simp; done) | (simp; go_num), by simpa using ho2, hc2, hs2⟩
        case measure => (simp [intOf]; omega)
      · have hcv := BytesO.conv HO.out
        go_wp2_with fail
        go_ret
        exact ⟨_, by first | (simp [ByteArray.size]; done) | (simp [ByteArray.size]; omega), rfl, hcu, hsp⟩
set_option maxHeartbeats 1000000 in
set_option maxRecDepth 100000 in
theorem l01Long_any (n : Nat) (x : Int) (w : World) (hn : n ≤ 16777216) :
    Calls Try.prog 131 #[.int .i64 n, .int .u8 x] w fun e w' => ∃ s : ByteArray, s.size = n ∧ e = .returned (.string s) ∧ Fr w w' := by
  obtain ⟨i0, hi, hz0, hz1, hz2⟩ := info_parts info_byte
  go_enter Try.func131, Try.ntmps131
  go_wp2_with (at_make; refine wpList_make_full _ rfl _ _ 60 rfl w.heap.size 5 i0 (.int .u8 0) 1 Try.underlying60 hi hz0 hz1 _ _ _ _ n rfl rfl rfl rfl (by rw [hz2]; omega) (by unfold maxLen; omega) (by omega) ?_; intro w1 hown hgrow)
  rw [show (madeCells (Value.cells (.int .u8 0)) (n * 1)).toList = fill ((List.replicate n x).map (Value.int .u8)) (.int .u8 0) n 0 from by rw [fill_zero, Nat.mul_one]; exact toList_madeCells_one _ _] at hown
  go_loopw [6] (fun i wr => ∃ k : Nat, k ≤ n ∧ i = .int .i64 k ∧ wr.ownsRow w.heap.size 5 1 (.slice (some ⟨w.heap.size, 0, none⟩) n n) n (fill ((List.replicate n x).map (Value.int .u8)) (.int .u8 0) n k) ∧ Fr w wr) (fun i _ => n - (intOf i).toNat)
  case atStart => exact ⟨0, Nat.zero_le _, rfl, hown, (Fr.refl w).grown hgrow (by simp)⟩
  case round =>
    clear hown hgrow
    obtain ⟨k, hk, rfl, ho, hfr⟩ := hrel
    by_cases hlt : k < n
    · have f2 := ho.frozenAt k
      obtain ⟨u, c2⟩ := owns_cell ho k (by omega)
      have hst := ho.stored k (.int .u8 x)
      rw [fill_set _ _ _ _ _ hlt (by simp) (by simp [hlt])] at hst
      clear ho
      go_wp2
      go_roundw
      case rel => exact ⟨k + 1, by omega, by go_num, hst.1, hfr.setCell (Nat.le_refl _) _⟩
      case measure => (simp [intOf]; omega)
    · obtain rfl : k = n := by omega
      rw [fill_all _ _ _ (by simp)] at ho
      have hcv := conv_own ho
      go_wp2
      go_ret
      exact ⟨_, by rw [strOfNums_size]; simp, rfl, hfr⟩
theorem l01Long_int (m : Int) (n : Nat) (x : Int) (w : World) (hm : m = (n : Int)) (hn : n ≤ 16777216) :
    Calls Try.prog 131 #[.int .i64 m, .int .u8 x] w fun e w' => ∃ s : ByteArray, s.size = n ∧ e = .returned (.string s) ∧ Fr w w' := by
  subst hm
  exact l01Long_any n x w hn
theorem Span.above' {lo hi L M : Nat} {a w w' : World} (h : Span lo hi a w) (k : Span L M w w') (hL : a.heap.size ≤ L) : Span lo hi a w' :=
  ⟨k.os.trans h.os, k.tape.trans h.tape, k.output.trans h.output, Nat.le_trans h.size k.size, fun i hi ho => (k.block i (Nat.lt_of_lt_of_le hi h.size) (.inl (by omega))).trans (h.block i hi ho)⟩
theorem Span.setb {lo hi q i : Nat} {a w : World} {v : Value} (h : Span lo hi a w) (h1 : lo ≤ q) (h2 : q < hi) : Span lo hi a (w.setCell ⟨q, i, none⟩ v) := h.trans (by
  refine ⟨rfl, rfl, rfl, by simp, fun k hk ho => ?_⟩
  exact heap_setCell_other w ⟨q, i, none⟩ k v (by show k ≠ q; omega))
theorem Box.far' {w : World} {b q i : Nat} {X : Array Value} {T : TypeId} (h : Box w b X T) (hp : b ≠ q) (v : Value) : Box (w.setCell ⟨q, i, none⟩ v) b X T := h.other (p := ⟨q, i, none⟩) hp v
theorem ByR.here {w w' : World} {hi : Nat} {ao : Option Addr} {n cap : Nat} (h : ByR w hi ao n cap) (hf : Fr w w') : ByR w' w'.heap.size ao n cap := by
  have h2 := h.fr hf
  exact ⟨h2.1, h2.2.1, fun hn => by obtain ⟨c, o, a1, a2, a3, a4⟩ := h2.2.2 hn; exact ⟨c, o, a1, a3, a3, a4⟩⟩
end Go.Proofs.Ythcamjijogmbhaa
