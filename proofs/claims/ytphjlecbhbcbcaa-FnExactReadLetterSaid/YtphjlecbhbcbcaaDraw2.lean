/- The reference's draws: texts (spec.l01Text, l01Long), DrawPlaces, DrawHex: how long each is; nothing old but the cursor's box turns. No condition but the size of the draw. -/
import Derived.Test.YtphjlecbhbcbcaaDraw
import Derived.Test.YtphjlecbhbcbcaaTFlat
namespace Go.Proofs.Ytphjlecbhbcbcaa
open Go.RowKit
set_option linter.unusedVariables false
set_option linter.unusedSimpArgs false

theorem cell_first {w : World} {u : Value} {T : TypeId} {b : Nat} (hb : b = w.heap.size) : ∀ (j : Nat) (v : Value), [u][j]? = some v → (w.alloc (.cells #[u] T)).cell? ((⟨b, 0, none⟩ : Addr).add j) = some v := cell_new hb
theorem Span.above {b : Nat} {a w w' : World} {v : Value} (s : Span b (b + 1) a w) (hg : w.grownBy w' v.ownBlock) (hv : ∀ g, v.ownBlock = some g → a.heap.size ≤ g) : Span b (b + 1) a w' :=
  s.app hg (fun k hk => .inr (hv k hk))
theorem Span.alloc' {b c : Nat} {a w : World} (h : Span b c a w) (o : Obj) : Span b c a (w.alloc o) := h.then_fr ((Fr.refl _).alloc _)
theorem Cu.gr {w w' : World} {b : Nat} {v : Value} (h : Cu w b) (hg : w.grownBy w' v.ownBlock) (hv : ∀ g, v.ownBlock = some g → b < g) : Cu w' b := by
  have s : Span (b + 1) (w.heap.size + b + 2 + (v.ownBlock.getD 0)) w w' := Span.of_gr hg (fun k hk => ⟨hv k hk, by rw [hk]; simp only [Option.getD_some]; omega⟩)
  exact h.span s (by omega)
set_option maxHeartbeats 2000000 in
set_option maxRecDepth 100000 in
theorem l01Text_any (b : Nat) (n : Int) (w : World) (hc : Cu w b) :
    Calls Try.prog 168 #[.pointer (some ⟨b, 0, none⟩), .int .i64 n] w fun e w' => ∃ s : ByteArray, s.size = (min n 5000).toNat ∧ e = .returned (.string s) ∧ Cu w' b ∧ Span b (b + 1) w w' := by
  obtain ⟨i0, hi, hz0, hz1, hz2⟩ := info_parts info_byte
  obtain ⟨m, hm⟩ : ∃ m, min n 5000 = m := ⟨_, rfl⟩
  have hm5 : m ≤ 5000 := by omega
  have HM := Lib.hid hm
  rw [hm]
  by_cases hn : n ≤ 5000
  · obtain rfl : m = n := by omega
    clear hm
    have hbl := hc.lt
    go_enter Try.func168, Try.ntmps168
    go_wp2_with fail
    go_loopw [5, 6] (fun v i wr => ∃ (l : List UInt8), (l.length : Int) ≤ max m 0 ∧ i = .int .i64 l.length ∧ BytesO wr w.heap.size v l ∧ Cu wr b ∧ Span b (b + 1) w wr) (fun _ i _ => 5000 - (intOf i).toNat)
    case atStart => exact ⟨[], by first | (simp; done) | (simp; omega), rfl, World.ownsRow_made w #[] 0 (Nat.le_refl _) (Nat.zero_le _) rfl, hc.fr ((Fr.refl _).alloc _), Span.of_fr ((Fr.refl _).alloc _)⟩
    case round =>
      obtain ⟨l, hk, rfl, ho, hcu, hsp⟩ := hrel
      have HO := Lib.hid ho
      obtain ⟨ao, cap, rfl⟩ := owns_val ho
      have hsz := hsp.size
      by_cases hlt : (l.length : Int) < m
      · go_wp2_with fail
        refine (l01Byte_any b _ hcu).mono ?_
        rintro e w1 ⟨x, hx, rfl, hc1, sp1⟩
        have hs1 := sp1.size
        have ho1 : BytesO w1 w.heap.size _ l := sp1.owns HO.out (fun g hg => .inr (by have := (HO.out).lt g hg; omega))
        have u1 : IntKind.u8.wrap (x : Int) = x := IntWalk.u8_in _ (by omega)
        go_wp2_with (at_builtin; refine wpList_append_rd rfl _ _ 77 rfl w.heap.size 5 i0 (.int .u8 0) 1 1 Try.underlying77 hi hz0 hz1 hz2 rfl (by decide) _ l.length ((nums l).map (Value.int .u8)) rfl (World.ownsRow.alloc ho1 _) _ 1 [.int .u8 (x : Int)] rfl (RdS.new (by first | rfl | simp) rfl) (by simp [Value.oneCell']) (by unfold maxLen; omega) (by omega) (by (first | (with_reducible assumption) | omega | (simp only [World.size_alloc, World.size_setCell, World.size_drew, World.heap_drewN]; omega) | (simp; done) | (simp; omega))) ?_; intro ao' cap' w2 hown hgrow hat)
        have ho2 := BytesO.snoc (b := UInt8.ofNat x) hown (by rw [num_byte _ hx])
        have hc2 : Cu w2 b := (hc1.fr ((Fr.refl _).alloc _)).gr hgrow (fun g hg => by have := World.ownsRow.lt ho1 g hg; omega)
        have hs2 : Span b (b + 1) w w2 := ((hsp.trans sp1).alloc' _).above hgrow (fun g hg => (World.ownsRow.lt ho1 g hg).1)
        go_roundw
        case rel => exact ⟨l ++ [UInt8.ofNat x], by first | (simp; done) | (simp; omega), by first | (simp; done) | (simp; go_num), by simpa using ho2, hc2, hs2⟩
        case measure => (simp [intOf]; omega)
      · have hcv := BytesO.conv HO.out
        go_wp2_with fail
        go_ret
        exact ⟨_, by first | (simp [ByteArray.size]; done) | (simp [ByteArray.size]; omega), rfl, hcu, hsp⟩
  · obtain rfl : m = 5000 := by omega
    clear hm
    have hbl := hc.lt
    go_enter Try.func168, Try.ntmps168
    go_wp2_with fail
    go_loopw [5, 6] (fun v i wr => ∃ (l : List UInt8), (l.length : Int) ≤ 5000 ∧ i = .int .i64 l.length ∧ BytesO wr w.heap.size v l ∧ Cu wr b ∧ Span b (b + 1) w wr) (fun _ i _ => 5000 - (intOf i).toNat)
    case atStart => exact ⟨[], by first | (simp; done) | (simp; omega), rfl, World.ownsRow_made w #[] 0 (Nat.le_refl _) (Nat.zero_le _) rfl, hc.fr ((Fr.refl _).alloc _), Span.of_fr ((Fr.refl _).alloc _)⟩
    case round =>
      obtain ⟨l, hk, rfl, ho, hcu, hsp⟩ := hrel
      have HO := Lib.hid ho
      obtain ⟨ao, cap, rfl⟩ := owns_val ho
      have hsz := hsp.size
      by_cases hlt : (l.length : Int) < 5000
      · go_wp2_with fail
        refine (l01Byte_any b _ hcu).mono ?_
        rintro e w1 ⟨x, hx, rfl, hc1, sp1⟩
        have hs1 := sp1.size
        have ho1 : BytesO w1 w.heap.size _ l := sp1.owns HO.out (fun g hg => .inr (by have := (HO.out).lt g hg; omega))
        have u1 : IntKind.u8.wrap (x : Int) = x := IntWalk.u8_in _ (by omega)
        go_wp2_with (at_builtin; refine wpList_append_rd rfl _ _ 77 rfl w.heap.size 5 i0 (.int .u8 0) 1 1 Try.underlying77 hi hz0 hz1 hz2 rfl (by decide) _ l.length ((nums l).map (Value.int .u8)) rfl (World.ownsRow.alloc ho1 _) _ 1 [.int .u8 (x : Int)] rfl (RdS.new (by first | rfl | simp) rfl) (by simp [Value.oneCell']) (by unfold maxLen; omega) (by omega) (by (first | (with_reducible assumption) | omega | (simp only [World.size_alloc, World.size_setCell, World.size_drew, World.heap_drewN]; omega) | (simp; done) | (simp; omega))) ?_; intro ao' cap' w2 hown hgrow hat)
        have ho2 := BytesO.snoc (b := UInt8.ofNat x) hown (by rw [num_byte _ hx])
        have hc2 : Cu w2 b := (hc1.fr ((Fr.refl _).alloc _)).gr hgrow (fun g hg => by have := World.ownsRow.lt ho1 g hg; omega)
        have hs2 : Span b (b + 1) w w2 := ((hsp.trans sp1).alloc' _).above hgrow (fun g hg => (World.ownsRow.lt ho1 g hg).1)
        go_roundw
        case rel => exact ⟨l ++ [UInt8.ofNat x], by first | (simp; done) | (simp; omega), by first | (simp; done) | (simp; go_num), by simpa using ho2, hc2, hs2⟩
        case measure => (simp [intOf]; omega)
      · have hcv := BytesO.conv HO.out
        go_wp2_with fail
        go_ret
        exact ⟨_, by first | (simp [ByteArray.size]; done) | (simp [ByteArray.size]; omega), rfl, hcu, hsp⟩
set_option maxHeartbeats 1000000 in
set_option maxRecDepth 100000 in
theorem l01Long_any (n : Nat) (x : Int) (w : World) (hn : n ≤ 16777216) :
    Calls Try.prog 167 #[.int .i64 n, .int .u8 x] w fun e w' => ∃ s : ByteArray, s.size = n ∧ e = .returned (.string s) ∧ Fr w w' := by
  obtain ⟨i0, hi, hz0, hz1, hz2⟩ := info_parts info_byte
  go_enter Try.func167, Try.ntmps167
  go_wp2_with (at_make; refine wpList_make_full _ rfl _ _ 77 rfl w.heap.size 5 i0 (.int .u8 0) 1 Try.underlying77 hi hz0 hz1 _ _ _ _ n rfl rfl rfl rfl (by rw [hz2]; omega) (by unfold maxLen; omega) (by omega) ?_; intro w1 hown hgrow)
  rw [show (madeCells (Value.cells (.int .u8 0)) (n * 1)).toList = fill ((List.replicate n x).map (Value.int .u8)) (.int .u8 0) n 0 from by rw [fill_zero, Nat.mul_one]; exact toList_madeCells_one _ _] at hown
  go_loopw [6] (fun i wr => ∃ k : Nat, k ≤ n ∧ i = .int .i64 k ∧ wr.ownsRow w.heap.size 5 1 (.slice (some ⟨w.heap.size, 0, none⟩) n n) n (fill ((List.replicate n x).map (Value.int .u8)) (.int .u8 0) n k) ∧ Fr w wr) (fun i _ => n - (intOf i).toNat)
  case atStart => exact ⟨0, Nat.zero_le _, rfl, hown, (Fr.refl w).grown hgrow (by simp)⟩
  case round =>
    clear hown hgrow
    obtain ⟨k, hk, rfl, ho, hfr⟩ := hrel
    by_cases hlt : k < n
    · have f2 := ho.frozenAt k
      obtain ⟨u, c2⟩ := owns_cell ho k (by omega)
      have hst := ho.stored k (.int .u8 x)
      rw [fill_set _ _ _ _ _ hlt (by simp) (by simp [hlt])] at hst
      clear ho
      go_wp2
      go_roundw
      case rel => exact ⟨k + 1, by omega, by go_num, hst.1, hfr.setCell (Nat.le_refl _) _⟩
      case measure => (simp [intOf]; omega)
    · obtain rfl : k = n := by omega
      rw [fill_all _ _ _ (by simp)] at ho
      have hcv := conv_own ho
      go_wp2
      go_ret
      exact ⟨_, by rw [strOfNums_size]; simp, rfl, hfr⟩
theorem l01Long_int (m : Int) (n : Nat) (x : Int) (w : World) (hm : m = (n : Int)) (hn : n ≤ 16777216) :
    Calls Try.prog 167 #[.int .i64 m, .int .u8 x] w fun e w' => ∃ s : ByteArray, s.size = n ∧ e = .returned (.string s) ∧ Fr w w' := by
  subst hm
  exact l01Long_any n x w hn
set_option maxHeartbeats 2000000 in
set_option maxRecDepth 100000 in
theorem DrawPlaces_any (ao : Option Addr) (n cap : Nat) (w : World) (hy : ByR w w.heap.size ao n cap) :
    Calls Try.prog 53 #[.slice ao n cap] w fun e w' => ∃ (ps : List Int) (ao' : Option Addr) (cap' : Nat), ps.length = 12 ∧ (∀ p ∈ ps, 0 ≤ p ∧ p < 10000) ∧ e = .returned (.slice ao' 12 cap') ∧ IntsW w' w.heap.size w'.heap.size (.slice ao' 12 cap') ps ∧ Fr w w' := by
  obtain ⟨i0, hi, hz0, hz1, hz2⟩ := info_parts info_int
  go_enter Try.func53, Try.ntmps53
  go_wp2_with fail
  refine (l01New_any ao n cap _ hy).mono ?_
  rintro e w1 ⟨b, rfl, hb, hc1, hf1⟩
  go_wp2_with fail
  refine (l01Byte_any b _ hc1).mono ?_
  rintro e w2 ⟨x, hx, rfl, hc2, sp2⟩
  have hf2 : Fr w w2 := sp2.fr hf1 hb
  have hb2 := hc2.lt
  go_wp2_with fail
  go_loopw [4, 5] (fun v i wr => ∃ (ps : List Int), ps.length ≤ 12 ∧ (∀ p ∈ ps, 0 ≤ p ∧ p < 10000) ∧ i = .int .i64 ps.length ∧ IntsO wr w2.heap.size v ps ∧ Cu wr b ∧ Fr w wr ∧ w2.heap.size ≤ wr.heap.size) (fun _ i _ => 12 - (intOf i).toNat)
  case atStart => exact ⟨[], by simp, by simp, rfl, World.ownsRow_made w2 #[] 0 (Nat.le_refl _) (Nat.zero_le _) rfl, hc2.fr ((Fr.refl _).alloc _), hf2.alloc _, by simp⟩
  case round =>
    obtain ⟨ps, hk, hps, rfl, ho, hcu, hfr, hs0⟩ := hrel
    have HO := Lib.hid ho
    have HPS := Lib.hid hps
    clear hps
    obtain ⟨ao1, cap1, rfl⟩ := owns_val ho
    by_cases hlt : ps.length < 12
    · go_wp2_with fail
      refine (l01Below_any b _ _ hcu (by omega)).mono ?_
      rintro e w3 ⟨y, hy1, hy2, rfl, hc3, sp3⟩
      have hs1 := sp3.size
      have hy3 := hy1 (by omega)
      clear hy1 hy2
      have ho1 : IntsO w3 w2.heap.size _ ps := sp3.owns HO.out (fun g hg => .inr (by have := (HO.out).lt g hg; omega))
      have hf3 : Fr w w3 := sp3.fr hfr hb
      go_wp2_with (at_builtin; refine wpList_append_rd rfl _ _ 81 rfl w2.heap.size 3 i0 (.int .i64 0) 1 8 Try.underlying81 hi hz0 hz1 hz2 rfl (by decide) _ ps.length (ps.map (Value.int .i64)) rfl (World.ownsRow.alloc ho1 _) _ 1 [.int .i64 (y : Int)] rfl (RdS.new (by first | rfl | simp) rfl) (by simp [Value.oneCell']) (by unfold maxLen; omega) (by omega) (by (first | (with_reducible assumption) | omega | (simp only [World.size_alloc, World.size_setCell, World.size_drew, World.heap_drewN]; omega) | (simp; done) | (simp; omega))) ?_; intro ao' cap' w4 hown hgrow hat)
      have hc4 : Cu w4 b := (hc3.fr ((Fr.refl _).alloc _)).gr hgrow (fun g hg => by have := World.ownsRow.lt ho1 g hg; omega)
      have hf4 : Fr w w4 := (hf3.alloc _).grown hgrow (fun k hk => by have := World.ownsRow.lt ho1 k hk; have := hf2.size; omega)
      have hs4 := hgrow.size
      simp only [World.size_alloc] at hs4
      go_roundw
      case rel => exact ⟨ps ++ [(y : Int)], by first | (simp; done) | (simp; omega), fun p hp => by rcases List.mem_append.1 hp with h | h; exact HPS.out p h; (simp at h; subst h; omega), by first | (simp; done) | (simp; go_num), by simpa [IntsO] using hown, hc4, hf4, by omega⟩
      case measure => (simp [intOf]; omega)
    · have hl : ps.length = 12 := by omega
      go_wp2_with fail
      go_ret
      rw [hl]
      exact ⟨ps, ao1, cap1, hl, HPS.out, rfl, by rw [← hl]; exact ⟨owns_lo HO.out hf2.size, fun g hg => by have := (HO.out).lt g hg; have := hf2.size; omega⟩, hfr⟩
theorem Span.above' {lo hi L M : Nat} {a w w' : World} (h : Span lo hi a w) (k : Span L M w w') (hL : a.heap.size ≤ L) : Span lo hi a w' :=
  ⟨k.os.trans h.os, k.tape.trans h.tape, k.output.trans h.output, Nat.le_trans h.size k.size, fun i hi ho => (k.block i (Nat.lt_of_lt_of_le hi h.size) (.inl (by omega))).trans (h.block i hi ho)⟩
theorem Span.setb {lo hi q i : Nat} {a w : World} {v : Value} (h : Span lo hi a w) (h1 : lo ≤ q) (h2 : q < hi) : Span lo hi a (w.setCell ⟨q, i, none⟩ v) := h.trans (by
  refine ⟨rfl, rfl, rfl, by simp, fun k hk ho => ?_⟩
  exact heap_setCell_other w ⟨q, i, none⟩ k v (by show k ≠ q; omega))
theorem Box.far' {w : World} {b q i : Nat} {X : Array Value} {T : TypeId} (h : Box w b X T) (hp : b ≠ q) (v : Value) : Box (w.setCell ⟨q, i, none⟩ v) b X T := h.other (p := ⟨q, i, none⟩) hp v
theorem ByR.here {w w' : World} {hi : Nat} {ao : Option Addr} {n cap : Nat} (h : ByR w hi ao n cap) (hf : Fr w w') : ByR w' w'.heap.size ao n cap := by
  have h2 := h.fr hf
  exact ⟨h2.1, h2.2.1, fun hn => by obtain ⟨c, o, a1, a2, a3, a4⟩ := h2.2.2 hn; exact ⟨c, o, a1, a3, a3, a4⟩⟩
end Go.Proofs.Ytphjlecbhbcbcaa
