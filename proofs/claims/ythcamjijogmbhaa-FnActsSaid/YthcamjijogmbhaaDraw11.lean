/- The reference's draws of acts and numbers (spec.Decimal, l14Act, l14Left, l01Place). No condition but the size of the draw. -/
import Derived.Test.YthcamjijogmbhaaDraw10
import Derived.Test.YthcamjijogmbhaaDraw4
import Derived.Test.YthcamjijogmbhaaMark
import Derived.Test.YthcamjijogmbhaaSAct
namespace Go.Proofs.Ythcamjijogmbhaa
open Go.RowKit
set_option linter.unusedVariables false
set_option linter.unusedSimpArgs false
theorem l01Figure_any (x : Int) (w : World) (h0 : 0 ≤ x) (h1 : x < 10) :
    Calls Try.prog 161 #[.int .i64 x] w fun e w' => e = .returned (.int .u8 (48 + x)) ∧ w' = w := by
  have u1 : IntKind.u8.wrap (48 + x) = 48 + x := IntWalk.u8_in _ (by omega)
  go_enter Try.func161, Try.ntmps161
  go_wp2_with fail
  go_ret
  exact ⟨rfl, rfl⟩
set_option maxHeartbeats 2000000 in
set_option maxRecDepth 100000 in
theorem Decimal_any (n : Int) (w : World) (h0 : 0 < n) (h1 : n ≤ 1000) :
    Calls Try.prog 130 #[.int .i64 n] w fun e w' => ∃ s : ByteArray, s.size ≤ 1000 ∧ e = .returned (.string s) ∧ Fr w w' := by
  have hcv := fun (x : Int) (w : World) => conv_lit [x] w 1 rfl
  simp only [List.map_cons, List.map_nil] at hcv
  have hs1 : ∀ x : Int, (strOfNums [x]).size = 1 := fun x => by rw [strOfNums_size]; rfl
  have hn0 : (n == 0) = false := by rw [beq_eq_false_iff_ne]; omega
  have hn1 : decide (n < 0) = false := by simp; omega
  go_enter Try.func130, Try.ntmps130
  go_wp2_with fail
  go_loopw [0, 4, 5] (fun i o d wr => ∃ (m : Nat) (s : ByteArray) (dd : Value), i = .int .i64 m ∧ o = .string s ∧ d = dd ∧ m + s.size ≤ 1000 ∧ Fr w wr) (fun i _ _ _ => (intOf i).toNat)
  case atStart => exact ⟨n.toNat, ⟨#[]⟩, _, by rw [Int.toNat_of_nonneg (by omega)], rfl, rfl, (by show n.toNat + 0 ≤ 1000; omega), by repeat (first | (with_reducible exact Fr.refl _) | (with_reducible assumption) | (with_reducible refine Fr.drewN ?_ _) | (with_reducible refine Fr.drew ?_) | (with_reducible refine Fr.alloc ?_ _) | (with_reducible refine Fr.setCell ?_ (by (first | (with_reducible assumption) | omega | (simp only [World.size_alloc, World.size_setCell, World.size_drew, World.heap_drewN]; omega) | (simp; done) | (simp; omega))) _) | (with_reducible refine Fr.trans ?_ (by with_reducible assumption)))⟩
  case round =>
    obtain ⟨m, s, dd, rfl, rfl, rfl, hm, hfr⟩ := hrel
    by_cases hlt : 0 < m
    · have e1 := hs1 (48 + (m : Int) % 10)
      have hb : m / 10 < m := by omega
      go_wp2_with fail
      refine (l01Figure_any _ _ (by omega) (by omega)).mono ?_
      rintro e w1 ⟨rfl, rfl⟩
      go_wp2_with fail
      go_roundw
      case rel => exact ⟨m / 10, strOfNums [48 + (m : Int) % 10] ++ s, _, by first | rfl | go_num, rfl, rfl, by rw [ByteArray.size_append, e1]; omega, by repeat (first | (with_reducible exact Fr.refl _) | (with_reducible assumption) | (with_reducible refine Fr.drewN ?_ _) | (with_reducible refine Fr.drew ?_) | (with_reducible refine Fr.alloc ?_ _) | (with_reducible refine Fr.setCell ?_ (by (first | (with_reducible assumption) | omega | (simp only [World.size_alloc, World.size_setCell, World.size_drew, World.heap_drewN]; omega) | (simp; done) | (simp; omega))) _) | (with_reducible refine Fr.trans ?_ (by with_reducible assumption)))⟩
      case measure => (simp [intOf]; omega)
    · obtain rfl : m = 0 := by omega
      go_wp2_with fail
      go_ret
      exact ⟨s, by omega, rfl, hfr⟩
def ActR.small (a : ActR) : Prop := a.f1.size ≤ 9 ∧ a.f2.size ≤ 9 ∧ a.f3.size ≤ 9
def actNames : List ByteArray := [⟨#[]⟩, ⟨#[49, 50, 51, 52, 53, 54, 55, 56, 57]⟩, ⟨#[110, 101, 119]⟩]
theorem actNames_ok (k : Nat) (h : k < 3) : (sAt actNames k).size ≤ 9 := by
  rcases (show k = 0 ∨ k = 1 ∨ k = 2 by omega) with rfl | rfl | rfl <;> decide
theorem nameB_size {s : ByteArray} (h : nameB s = true) : s.size ≤ 8 := by unfold nameB at h; rw [decide_eq_true_eq] at h; exact h.2
set_option maxHeartbeats 16000000 in
set_option maxRecDepth 100000 in
theorem l14Act_any (b : Nat) (w : World) (hc : Cu w b) :
    Calls Try.prog 132 #[.pointer (some ⟨b, 0, none⟩)] w fun e w' => ∃ a : ActR, a.small ∧ e = .returned (.agg #[.int .i64 a.f0, .string a.f1, .string a.f2, .string a.f3]) ∧ Cu w' b ∧ Span b (b + 1) w w' := by
  have hbl := hc.lt
  go_enter Try.func132, Try.ntmps132
  go_wp2_with fail
  refine (l01Below_any b _ _ (hc.fr (by repeat (first | (with_reducible exact Fr.refl _) | (with_reducible assumption) | (with_reducible refine Fr.drewN ?_ _) | (with_reducible refine Fr.drew ?_) | (with_reducible refine Fr.alloc ?_ _) | (with_reducible refine Fr.setCell ?_ (by (first | (with_reducible assumption) | omega | (simp only [World.size_alloc, World.size_setCell, World.size_drew, World.heap_drewN]; omega) | (simp; done) | (simp; omega))) _) | (with_reducible refine Fr.trans ?_ (by with_reducible assumption))))) (by omega)).mono ?_
  rintro e w1 ⟨x, hx1, _, rfl, hc1, sp1⟩
  have hx1 := hx1 (by omega)
  have hs1 := sp1.size
  simp only [World.size_alloc] at hs1
  have BR : Box w1 w.heap.size #[.int .i64 0, .string ⟨#[]⟩, .string ⟨#[]⟩, .string ⟨#[]⟩] 74 := (Box.new _ _ _).span sp1 (.inr (by omega))
  go_wp2_with fail
  refine (l14Named_any b _ hc1).mono ?_
  rintro e w2 ⟨nm, hnm, rfl, hc2, sp2⟩
  have hnm : nm.size ≤ 9 := Nat.le_succ_of_le (nameB_size hnm)
  have hs2 := sp2.size
  have BR2 := BR.span sp2 (.inr (by omega))
  have sp02 : Span b (b + 1) w w2 := ((Span.of_fr ((Fr.refl w).alloc _)).trans sp1).trans sp2
  have hte : (⟨#[]⟩ : ByteArray).size ≤ 9 := by decide
  have hbl2 : b < w2.heap.size := by omega
  clear BR sp1 sp2 hc1
  rcases (show x = 0 ∨ x = 2 ∨ x = 1 ∨ x = 3 by omega) with rfl | rfl | rfl | rfl
  · go_wp2_with fail
    refine (l01Below_any b _ _ (hc2.fr (by repeat (first | (with_reducible exact Fr.refl _) | (with_reducible assumption) | (with_reducible refine Fr.drewN ?_ _) | (with_reducible refine Fr.drew ?_) | (with_reducible refine Fr.alloc ?_ _) | (with_reducible refine Fr.setCell ?_ (by (first | (with_reducible assumption) | omega | (simp only [World.size_alloc, World.size_setCell, World.size_drew, World.heap_drewN]; omega) | (simp; done) | (simp; omega))) _) | (with_reducible refine Fr.trans ?_ (by with_reducible assumption))))) (by omega)).mono ?_
    rintro e w3 ⟨y, hy1, _, rfl, hc3, sp3⟩
    have hy1 := hy1 (by omega)
    have hs3 := sp3.size
    simp only [World.size_alloc] at hs3
    have BA3 : Box w3 w2.heap.size #[.int .i64 1, .string nm, .string ⟨#[]⟩, .string ⟨#[]⟩] 74 := (Box.new _ _ _).span sp3 (.inr (by omega))
    have BR3 := (BR2.alloc _).span sp3 (.inr (by omega))
    have sp03 := (sp02.alloc' _).trans sp3
    go_wp2_with fail
    refine (l01Text_any b _ _ hc3).mono ?_
    rintro e w4 ⟨tx, htx, rfl, hc4, sp4⟩
    have htx : tx.size ≤ 9 := by omega
    have hs4 := sp4.size
    have BA4 := BA3.span sp4 (.inr (by omega))
    have BR4 := BR3.span sp4 (.inr (by omega))
    have FA4 := BA4.facts
    have sp04 := sp03.trans sp4
    go_wp2_with fail
    clear FA4 BA3 BR3 BR2
    have BA5 := BA4.set 2 (.string tx)
    have BR5 := BR4.far' (q := w2.heap.size) (i := 2) (by omega) (.string tx)
    have q5 : Span w.heap.size (w2.heap.size + 1) w4 (w4.setCell ⟨w2.heap.size, 2, none⟩ (.string tx)) := Span.setb (Span.refl _ _ _) (by omega) (by omega)
    have hc5 := hc4.span q5 (by omega)
    have sp05 := sp04.above' q5 (Nat.le_refl _)
    have hsT : w2.heap.size + 1 ≤ (w4.setCell ⟨w2.heap.size, 2, none⟩ (.string tx)).heap.size := by simp; omega
    generalize w4.setCell ⟨w2.heap.size, 2, none⟩ (.string tx) = wT at *
    go_wp2_with fail
    refine (l01Below_any b _ _ hc5 (by omega)).mono ?_
    rintro e w6 ⟨z, hz1, _, rfl, hc6, sp6⟩
    have hs6 := sp6.size
    have BA6 := BA5.span sp6 (.inr (by omega))
    have BR6 := BR5.span sp6 (.inr (by omega))
    have sp06 := sp05.trans sp6
    clear BA5 BR5 sp05 hc5 sp6 hz1
    have FA6 := BA6.facts
    have FR6 := BR6.facts
    rcases (show z = 0 ∨ z = 1 ∨ z = 2 ∨ z = 3 ∨ 4 ≤ z by omega) with rfl | rfl | rfl | rfl | hz
    · go_wp2_with fail
      refine (l01PickInt_any b w6.heap.size [0, 5] 3 _ (hc6.fr (by repeat (first | (with_reducible exact Fr.refl _) | (with_reducible assumption) | (with_reducible refine Fr.drewN ?_ _) | (with_reducible refine Fr.drew ?_) | (with_reducible refine Fr.alloc ?_ _) | (with_reducible refine Fr.setCell ?_ (by (first | (with_reducible assumption) | omega | (simp only [World.size_alloc, World.size_setCell, World.size_drew, World.heap_drewN]; omega) | (simp; done) | (simp; omega))) _) | (with_reducible refine Fr.trans ?_ (by with_reducible assumption))))) (Box.new _ _ _) (by omega) (by decide) (by decide)).mono ?_
      rintro e w7 ⟨j, hj, rfl, hc7, sp7⟩
      have hs7 := sp7.size
      simp only [World.size_alloc] at hs7
      have BA7 := (BA6.alloc _).span sp7 (.inr (by omega))
      have BR7 := (BR6.alloc _).span sp7 (.inr (by omega))
      have sp07 := (sp06.alloc' _).trans sp7
      clear FA6 FR6 BA6 BR6
      have FA7 := BA7.facts
      have FR7 := BR7.facts
      obtain ⟨kv, hkv⟩ : ∃ kv, iAt [0, 5] j = kv := ⟨_, rfl⟩
      simp only [hkv]
      go_wp2_with fail
      refine bodyPost_ret (v := .agg #[.int .i64 kv, .string nm, .string tx, .string ⟨#[]⟩]) (by simp [results, Try.results132, go_sem, *]) rfl ⟨⟨kv, nm, tx, ⟨#[]⟩⟩, ⟨by assumption, by assumption, by assumption⟩, rfl, ?_, ?_⟩
      · refine Cu.span (lo := b + 1) (hi := w7.heap.size + 1) hc7 ?_ (by omega)
        repeat (first | with_reducible exact Span.refl _ _ _ | with_reducible refine Span.setb ?_ (by omega) (by omega) | with_reducible apply Span.alloc' | with_reducible apply Span.drew')
      · refine Span.above' (L := w.heap.size) (M := w7.heap.size + 1) sp07 ?_ (Nat.le_refl _)
        repeat (first | with_reducible exact Span.refl _ _ _ | with_reducible refine Span.setb ?_ (by omega) (by omega) | with_reducible apply Span.alloc' | with_reducible apply Span.drew')
    · go_wp2_with fail
      refine (l01Pick_any b w6.heap.size actNames 9 _ (hc6.fr (by repeat (first | (with_reducible exact Fr.refl _) | (with_reducible assumption) | (with_reducible refine Fr.drewN ?_ _) | (with_reducible refine Fr.drew ?_) | (with_reducible refine Fr.alloc ?_ _) | (with_reducible refine Fr.setCell ?_ (by (first | (with_reducible assumption) | omega | (simp only [World.size_alloc, World.size_setCell, World.size_drew, World.heap_drewN]; omega) | (simp; done) | (simp; omega))) _) | (with_reducible refine Fr.trans ?_ (by with_reducible assumption))))) (Box.new _ _ _) (by omega) (by decide) (by decide)).mono ?_
      rintro e w7 ⟨j, hj, rfl, hc7, sp7⟩
      have hs7 := sp7.size
      simp only [World.size_alloc] at hs7
      have BA7 := (BA6.alloc _).span sp7 (.inr (by omega))
      have BR7 := (BR6.alloc _).span sp7 (.inr (by omega))
      have sp07 := (sp06.alloc' _).trans sp7
      clear FA6 FR6 BA6 BR6
      have FA7 := BA7.facts
      have FR7 := BR7.facts
      have hnv := actNames_ok j hj
      obtain ⟨nv, hnv2⟩ : ∃ nv, sAt actNames j = nv := ⟨_, rfl⟩
      rw [hnv2] at hnv
      simp only [hnv2]
      clear hnv2
      go_wp2_with fail
      refine bodyPost_ret (v := .agg #[.int .i64 1, .string nv, .string tx, .string ⟨#[]⟩]) (by simp [results, Try.results132, go_sem, *]) rfl ⟨⟨1, nv, tx, ⟨#[]⟩⟩, ⟨by assumption, by assumption, by assumption⟩, rfl, ?_, ?_⟩
      · refine Cu.span (lo := b + 1) (hi := w7.heap.size + 1) hc7 ?_ (by omega)
        repeat (first | with_reducible exact Span.refl _ _ _ | with_reducible refine Span.setb ?_ (by omega) (by omega) | with_reducible apply Span.alloc' | with_reducible apply Span.drew')
      · refine Span.above' (L := w.heap.size) (M := w7.heap.size + 1) sp07 ?_ (Nat.le_refl _)
        repeat (first | with_reducible exact Span.refl _ _ _ | with_reducible refine Span.setb ?_ (by omega) (by omega) | with_reducible apply Span.alloc' | with_reducible apply Span.drew')
    · have hx9 : (⟨#[120]⟩ : ByteArray).size ≤ 9 := by decide
      go_wp2_with fail
      refine bodyPost_ret (v := .agg #[.int .i64 1, .string nm, .string tx, .string ⟨#[120]⟩]) (by simp [results, Try.results132, go_sem, *]) rfl ⟨⟨1, nm, tx, ⟨#[120]⟩⟩, ⟨by assumption, by assumption, by assumption⟩, rfl, ?_, ?_⟩
      · refine Cu.span (lo := b + 1) (hi := w6.heap.size + 1) hc6 ?_ (by omega)
        repeat (first | with_reducible exact Span.refl _ _ _ | with_reducible refine Span.setb ?_ (by omega) (by omega) | with_reducible apply Span.alloc' | with_reducible apply Span.drew')
      · refine Span.above' (L := w.heap.size) (M := w6.heap.size + 1) sp06 ?_ (Nat.le_refl _)
        repeat (first | with_reducible exact Span.refl _ _ _ | with_reducible refine Span.setb ?_ (by omega) (by omega) | with_reducible apply Span.alloc' | with_reducible apply Span.drew')
    · have hx9 : (⟨#[120]⟩ : ByteArray).size ≤ 9 := by decide
      go_wp2_with fail
      refine bodyPost_ret (v := .agg #[.int .i64 1, .string nm, .string ⟨#[120]⟩, .string ⟨#[]⟩]) (by simp [results, Try.results132, go_sem, *]) rfl ⟨⟨1, nm, ⟨#[120]⟩, ⟨#[]⟩⟩, ⟨by assumption, by assumption, by assumption⟩, rfl, ?_, ?_⟩
      · refine Cu.span (lo := b + 1) (hi := w6.heap.size + 1) hc6 ?_ (by omega)
        repeat (first | with_reducible exact Span.refl _ _ _ | with_reducible refine Span.setb ?_ (by omega) (by omega) | with_reducible apply Span.alloc' | with_reducible apply Span.drew')
      · refine Span.above' (L := w.heap.size) (M := w6.heap.size + 1) sp06 ?_ (Nat.le_refl _)
        repeat (first | with_reducible exact Span.refl _ _ _ | with_reducible refine Span.setb ?_ (by omega) (by omega) | with_reducible apply Span.alloc' | with_reducible apply Span.drew')
    · go_wp2_with fail
      refine bodyPost_ret (v := .agg #[.int .i64 1, .string nm, .string tx, .string ⟨#[]⟩]) (by simp [results, Try.results132, go_sem, *]) rfl ⟨⟨1, nm, tx, ⟨#[]⟩⟩, ⟨by assumption, by assumption, by assumption⟩, rfl, ?_, ?_⟩
      · refine Cu.span (lo := b + 1) (hi := w6.heap.size + 1) hc6 ?_ (by omega)
        repeat (first | with_reducible exact Span.refl _ _ _ | with_reducible refine Span.setb ?_ (by omega) (by omega) | with_reducible apply Span.alloc' | with_reducible apply Span.drew')
      · refine Span.above' (L := w.heap.size) (M := w6.heap.size + 1) sp06 ?_ (Nat.le_refl _)
        repeat (first | with_reducible exact Span.refl _ _ _ | with_reducible refine Span.setb ?_ (by omega) (by omega) | with_reducible apply Span.alloc' | with_reducible apply Span.drew')
  · go_wp2_with fail
    refine (l14Named_any b _ (hc2.fr (by repeat (first | (with_reducible exact Fr.refl _) | (with_reducible assumption) | (with_reducible refine Fr.drewN ?_ _) | (with_reducible refine Fr.drew ?_) | (with_reducible refine Fr.alloc ?_ _) | (with_reducible refine Fr.setCell ?_ (by (first | (with_reducible assumption) | omega | (simp only [World.size_alloc, World.size_setCell, World.size_drew, World.heap_drewN]; omega) | (simp; done) | (simp; omega))) _) | (with_reducible refine Fr.trans ?_ (by with_reducible assumption)))))).mono ?_
    rintro e w4 ⟨to, hto, rfl, hc4, sp4⟩
    have hto : to.size ≤ 9 := Nat.le_succ_of_le (nameB_size hto)
    have hs4 := sp4.size
    simp only [World.size_alloc] at hs4
    have BA4 : Box w4 w2.heap.size #[.int .i64 3, .string nm, .string ⟨#[]⟩, .string ⟨#[]⟩] 74 := (Box.new _ _ _).span sp4 (.inr (by omega))
    have BR4 := (BR2.alloc _).span sp4 (.inr (by omega))
    have FA4 := BA4.facts
    have sp04 := (sp02.alloc' _).trans sp4
    go_wp2_with fail
    clear FA4 BR2
    have BA5 := BA4.set 3 (.string to)
    have BR5 := BR4.far' (q := w2.heap.size) (i := 3) (by omega) (.string to)
    have q5 : Span w.heap.size (w2.heap.size + 1) w4 (w4.setCell ⟨w2.heap.size, 3, none⟩ (.string to)) := Span.setb (Span.refl _ _ _) (by omega) (by omega)
    have hc5 := hc4.span q5 (by omega)
    have sp05 := sp04.above' q5 (Nat.le_refl _)
    have hsT : w2.heap.size + 1 ≤ (w4.setCell ⟨w2.heap.size, 3, none⟩ (.string to)).heap.size := by simp; omega
    generalize w4.setCell ⟨w2.heap.size, 3, none⟩ (.string to) = wT at *
    go_wp2_with fail
    refine (l01Below_any b _ _ hc5 (by omega)).mono ?_
    rintro e w6 ⟨z, hz1, _, rfl, hc6, sp6⟩
    have hs6 := sp6.size
    have BA6 := BA5.span sp6 (.inr (by omega))
    have BR6 := BR5.span sp6 (.inr (by omega))
    have sp06 := sp05.trans sp6
    clear BA5 BR5 sp05 hc5 sp6 hz1
    have FA6 := BA6.facts
    have FR6 := BR6.facts
    rcases (show z = 0 ∨ z = 1 ∨ z = 2 ∨ z = 3 ∨ 4 ≤ z by omega) with rfl | rfl | rfl | rfl | hz
    · go_wp2_with fail
      refine (l01PickInt_any b w6.heap.size [0, 5] 3 _ (hc6.fr (by repeat (first | (with_reducible exact Fr.refl _) | (with_reducible assumption) | (with_reducible refine Fr.drewN ?_ _) | (with_reducible refine Fr.drew ?_) | (with_reducible refine Fr.alloc ?_ _) | (with_reducible refine Fr.setCell ?_ (by (first | (with_reducible assumption) | omega | (simp only [World.size_alloc, World.size_setCell, World.size_drew, World.heap_drewN]; omega) | (simp; done) | (simp; omega))) _) | (with_reducible refine Fr.trans ?_ (by with_reducible assumption))))) (Box.new _ _ _) (by omega) (by decide) (by decide)).mono ?_
      rintro e w7 ⟨j, hj, rfl, hc7, sp7⟩
      have hs7 := sp7.size
      simp only [World.size_alloc] at hs7
      have BA7 := (BA6.alloc _).span sp7 (.inr (by omega))
      have BR7 := (BR6.alloc _).span sp7 (.inr (by omega))
      have sp07 := (sp06.alloc' _).trans sp7
      clear FA6 FR6 BA6 BR6
      have FA7 := BA7.facts
      have FR7 := BR7.facts
      obtain ⟨kv, hkv⟩ : ∃ kv, iAt [0, 5] j = kv := ⟨_, rfl⟩
      simp only [hkv]
      go_wp2_with fail
      refine bodyPost_ret (v := .agg #[.int .i64 kv, .string nm, .string ⟨#[]⟩, .string to]) (by simp [results, Try.results132, go_sem, *]) rfl ⟨⟨kv, nm, ⟨#[]⟩, to⟩, ⟨by assumption, by assumption, by assumption⟩, rfl, ?_, ?_⟩
      · refine Cu.span (lo := b + 1) (hi := w7.heap.size + 1) hc7 ?_ (by omega)
        repeat (first | with_reducible exact Span.refl _ _ _ | with_reducible refine Span.setb ?_ (by omega) (by omega) | with_reducible apply Span.alloc' | with_reducible apply Span.drew')
      · refine Span.above' (L := w.heap.size) (M := w7.heap.size + 1) sp07 ?_ (Nat.le_refl _)
        repeat (first | with_reducible exact Span.refl _ _ _ | with_reducible refine Span.setb ?_ (by omega) (by omega) | with_reducible apply Span.alloc' | with_reducible apply Span.drew')
    · go_wp2_with fail
      refine (l01Pick_any b w6.heap.size actNames 9 _ (hc6.fr (by repeat (first | (with_reducible exact Fr.refl _) | (with_reducible assumption) | (with_reducible refine Fr.drewN ?_ _) | (with_reducible refine Fr.drew ?_) | (with_reducible refine Fr.alloc ?_ _) | (with_reducible refine Fr.setCell ?_ (by (first | (with_reducible assumption) | omega | (simp only [World.size_alloc, World.size_setCell, World.size_drew, World.heap_drewN]; omega) | (simp; done) | (simp; omega))) _) | (with_reducible refine Fr.trans ?_ (by with_reducible assumption))))) (Box.new _ _ _) (by omega) (by decide) (by decide)).mono ?_
      rintro e w7 ⟨j, hj, rfl, hc7, sp7⟩
      have hs7 := sp7.size
      simp only [World.size_alloc] at hs7
      have BA7 := (BA6.alloc _).span sp7 (.inr (by omega))
      have BR7 := (BR6.alloc _).span sp7 (.inr (by omega))
      have sp07 := (sp06.alloc' _).trans sp7
      clear FA6 FR6 BA6 BR6
      have FA7 := BA7.facts
      have FR7 := BR7.facts
      have hnv := actNames_ok j hj
      obtain ⟨nv, hnv2⟩ : ∃ nv, sAt actNames j = nv := ⟨_, rfl⟩
      rw [hnv2] at hnv
      simp only [hnv2]
      clear hnv2
      go_wp2_with fail
      refine bodyPost_ret (v := .agg #[.int .i64 3, .string nv, .string ⟨#[]⟩, .string to]) (by simp [results, Try.results132, go_sem, *]) rfl ⟨⟨3, nv, ⟨#[]⟩, to⟩, ⟨by assumption, by assumption, by assumption⟩, rfl, ?_, ?_⟩
      · refine Cu.span (lo := b + 1) (hi := w7.heap.size + 1) hc7 ?_ (by omega)
        repeat (first | with_reducible exact Span.refl _ _ _ | with_reducible refine Span.setb ?_ (by omega) (by omega) | with_reducible apply Span.alloc' | with_reducible apply Span.drew')
      · refine Span.above' (L := w.heap.size) (M := w7.heap.size + 1) sp07 ?_ (Nat.le_refl _)
        repeat (first | with_reducible exact Span.refl _ _ _ | with_reducible refine Span.setb ?_ (by omega) (by omega) | with_reducible apply Span.alloc' | with_reducible apply Span.drew')
    · have hx9 : (⟨#[120]⟩ : ByteArray).size ≤ 9 := by decide
      go_wp2_with fail
      refine bodyPost_ret (v := .agg #[.int .i64 3, .string nm, .string ⟨#[]⟩, .string ⟨#[120]⟩]) (by simp [results, Try.results132, go_sem, *]) rfl ⟨⟨3, nm, ⟨#[]⟩, ⟨#[120]⟩⟩, ⟨by assumption, by assumption, by assumption⟩, rfl, ?_, ?_⟩
      · refine Cu.span (lo := b + 1) (hi := w6.heap.size + 1) hc6 ?_ (by omega)
        repeat (first | with_reducible exact Span.refl _ _ _ | with_reducible refine Span.setb ?_ (by omega) (by omega) | with_reducible apply Span.alloc' | with_reducible apply Span.drew')
      · refine Span.above' (L := w.heap.size) (M := w6.heap.size + 1) sp06 ?_ (Nat.le_refl _)
        repeat (first | with_reducible exact Span.refl _ _ _ | with_reducible refine Span.setb ?_ (by omega) (by omega) | with_reducible apply Span.alloc' | with_reducible apply Span.drew')
    · have hx9 : (⟨#[120]⟩ : ByteArray).size ≤ 9 := by decide
      go_wp2_with fail
      refine bodyPost_ret (v := .agg #[.int .i64 3, .string nm, .string ⟨#[120]⟩, .string to]) (by simp [results, Try.results132, go_sem, *]) rfl ⟨⟨3, nm, ⟨#[120]⟩, to⟩, ⟨by assumption, by assumption, by assumption⟩, rfl, ?_, ?_⟩
      · refine Cu.span (lo := b + 1) (hi := w6.heap.size + 1) hc6 ?_ (by omega)
        repeat (first | with_reducible exact Span.refl _ _ _ | with_reducible refine Span.setb ?_ (by omega) (by omega) | with_reducible apply Span.alloc' | with_reducible apply Span.drew')
      · refine Span.above' (L := w.heap.size) (M := w6.heap.size + 1) sp06 ?_ (Nat.le_refl _)
        repeat (first | with_reducible exact Span.refl _ _ _ | with_reducible refine Span.setb ?_ (by omega) (by omega) | with_reducible apply Span.alloc' | with_reducible apply Span.drew')
    · go_wp2_with fail
      refine bodyPost_ret (v := .agg #[.int .i64 3, .string nm, .string ⟨#[]⟩, .string to]) (by simp [results, Try.results132, go_sem, *]) rfl ⟨⟨3, nm, ⟨#[]⟩, to⟩, ⟨by assumption, by assumption, by assumption⟩, rfl, ?_, ?_⟩
      · refine Cu.span (lo := b + 1) (hi := w6.heap.size + 1) hc6 ?_ (by omega)
        repeat (first | with_reducible exact Span.refl _ _ _ | with_reducible refine Span.setb ?_ (by omega) (by omega) | with_reducible apply Span.alloc' | with_reducible apply Span.drew')
      · refine Span.above' (L := w.heap.size) (M := w6.heap.size + 1) sp06 ?_ (Nat.le_refl _)
        repeat (first | with_reducible exact Span.refl _ _ _ | with_reducible refine Span.setb ?_ (by omega) (by omega) | with_reducible apply Span.alloc' | with_reducible apply Span.drew')
  · go_wp2_with fail
    have BA5 : Box (w2.alloc (.cells #[.int .i64 2, .string nm, .string ⟨#[]⟩, .string ⟨#[]⟩] 74)) w2.heap.size #[.int .i64 2, .string nm, .string ⟨#[]⟩, .string ⟨#[]⟩] 74 := Box.new _ _ _
    have BR5 := BR2.alloc (.cells #[.int .i64 2, .string nm, .string ⟨#[]⟩, .string ⟨#[]⟩] 74)
    have hc5 : Cu (w2.alloc (.cells #[.int .i64 2, .string nm, .string ⟨#[]⟩, .string ⟨#[]⟩] 74)) b := hc2.fr (by repeat (first | (with_reducible exact Fr.refl _) | (with_reducible assumption) | (with_reducible refine Fr.drewN ?_ _) | (with_reducible refine Fr.drew ?_) | (with_reducible refine Fr.alloc ?_ _) | (with_reducible refine Fr.setCell ?_ (by (first | (with_reducible assumption) | omega | (simp only [World.size_alloc, World.size_setCell, World.size_drew, World.heap_drewN]; omega) | (simp; done) | (simp; omega))) _) | (with_reducible refine Fr.trans ?_ (by with_reducible assumption))))
    have sp05 := sp02.alloc' (.cells #[.int .i64 2, .string nm, .string ⟨#[]⟩, .string ⟨#[]⟩] 74)
    have hsT : w2.heap.size + 1 ≤ (w2.alloc (.cells #[.int .i64 2, .string nm, .string ⟨#[]⟩, .string ⟨#[]⟩] 74)).heap.size := by simp
    clear BR2
    generalize w2.alloc (.cells #[.int .i64 2, .string nm, .string ⟨#[]⟩, .string ⟨#[]⟩] 74) = wT at *
    go_wp2_with fail
    refine (l01Below_any b _ _ hc5 (by omega)).mono ?_
    rintro e w6 ⟨z, hz1, _, rfl, hc6, sp6⟩
    have hs6 := sp6.size
    have BA6 := BA5.span sp6 (.inr (by omega))
    have BR6 := BR5.span sp6 (.inr (by omega))
    have sp06 := sp05.trans sp6
    clear BA5 BR5 sp05 hc5 sp6 hz1
    have FA6 := BA6.facts
    have FR6 := BR6.facts
    rcases (show z = 0 ∨ z = 1 ∨ z = 2 ∨ z = 3 ∨ 4 ≤ z by omega) with rfl | rfl | rfl | rfl | hz
    · go_wp2_with fail
      refine (l01PickInt_any b w6.heap.size [0, 5] 3 _ (hc6.fr (by repeat (first | (with_reducible exact Fr.refl _) | (with_reducible assumption) | (with_reducible refine Fr.drewN ?_ _) | (with_reducible refine Fr.drew ?_) | (with_reducible refine Fr.alloc ?_ _) | (with_reducible refine Fr.setCell ?_ (by (first | (with_reducible assumption) | omega | (simp only [World.size_alloc, World.size_setCell, World.size_drew, World.heap_drewN]; omega) | (simp; done) | (simp; omega))) _) | (with_reducible refine Fr.trans ?_ (by with_reducible assumption))))) (Box.new _ _ _) (by omega) (by decide) (by decide)).mono ?_
      rintro e w7 ⟨j, hj, rfl, hc7, sp7⟩
      have hs7 := sp7.size
      simp only [World.size_alloc] at hs7
      have BA7 := (BA6.alloc _).span sp7 (.inr (by omega))
      have BR7 := (BR6.alloc _).span sp7 (.inr (by omega))
      have sp07 := (sp06.alloc' _).trans sp7
      clear FA6 FR6 BA6 BR6
      have FA7 := BA7.facts
      have FR7 := BR7.facts
      obtain ⟨kv, hkv⟩ : ∃ kv, iAt [0, 5] j = kv := ⟨_, rfl⟩
      simp only [hkv]
      go_wp2_with fail
      refine bodyPost_ret (v := .agg #[.int .i64 kv, .string nm, .string ⟨#[]⟩, .string ⟨#[]⟩]) (by simp [results, Try.results132, go_sem, *]) rfl ⟨⟨kv, nm, ⟨#[]⟩, ⟨#[]⟩⟩, ⟨by assumption, by assumption, by assumption⟩, rfl, ?_, ?_⟩
      · refine Cu.span (lo := b + 1) (hi := w7.heap.size + 1) hc7 ?_ (by omega)
        repeat (first | with_reducible exact Span.refl _ _ _ | with_reducible refine Span.setb ?_ (by omega) (by omega) | with_reducible apply Span.alloc' | with_reducible apply Span.drew')
      · refine Span.above' (L := w.heap.size) (M := w7.heap.size + 1) sp07 ?_ (Nat.le_refl _)
        repeat (first | with_reducible exact Span.refl _ _ _ | with_reducible refine Span.setb ?_ (by omega) (by omega) | with_reducible apply Span.alloc' | with_reducible apply Span.drew')
    · go_wp2_with fail
      refine (l01Pick_any b w6.heap.size actNames 9 _ (hc6.fr (by repeat (first | (with_reducible exact Fr.refl _) | (with_reducible assumption) | (with_reducible refine Fr.drewN ?_ _) | (with_reducible refine Fr.drew ?_) | (with_reducible refine Fr.alloc ?_ _) | (with_reducible refine Fr.setCell ?_ (by (first | (with_reducible assumption) | omega | (simp only [World.size_alloc, World.size_setCell, World.size_drew, World.heap_drewN]; omega) | (simp; done) | (simp; omega))) _) | (with_reducible refine Fr.trans ?_ (by with_reducible assumption))))) (Box.new _ _ _) (by omega) (by decide) (by decide)).mono ?_
      rintro e w7 ⟨j, hj, rfl, hc7, sp7⟩
      have hs7 := sp7.size
      simp only [World.size_alloc] at hs7
      have BA7 := (BA6.alloc _).span sp7 (.inr (by omega))
      have BR7 := (BR6.alloc _).span sp7 (.inr (by omega))
      have sp07 := (sp06.alloc' _).trans sp7
      clear FA6 FR6 BA6 BR6
      have FA7 := BA7.facts
      have FR7 := BR7.facts
      have hnv := actNames_ok j hj
      obtain ⟨nv, hnv2⟩ : ∃ nv, sAt actNames j = nv := ⟨_, rfl⟩
      rw [hnv2] at hnv
      simp only [hnv2]
      clear hnv2
      go_wp2_with fail
      refine bodyPost_ret (v := .agg #[.int .i64 2, .string nv, .string ⟨#[]⟩, .string ⟨#[]⟩]) (by simp [results, Try.results132, go_sem, *]) rfl ⟨⟨2, nv, ⟨#[]⟩, ⟨#[]⟩⟩, ⟨by assumption, by assumption, by assumption⟩, rfl, ?_, ?_⟩
      · refine Cu.span (lo := b + 1) (hi := w7.heap.size + 1) hc7 ?_ (by omega)
        repeat (first | with_reducible exact Span.refl _ _ _ | with_reducible refine Span.setb ?_ (by omega) (by omega) | with_reducible apply Span.alloc' | with_reducible apply Span.drew')
      · refine Span.above' (L := w.heap.size) (M := w7.heap.size + 1) sp07 ?_ (Nat.le_refl _)
        repeat (first | with_reducible exact Span.refl _ _ _ | with_reducible refine Span.setb ?_ (by omega) (by omega) | with_reducible apply Span.alloc' | with_reducible apply Span.drew')
    · have hx9 : (⟨#[120]⟩ : ByteArray).size ≤ 9 := by decide
      go_wp2_with fail
      refine bodyPost_ret (v := .agg #[.int .i64 2, .string nm, .string ⟨#[]⟩, .string ⟨#[120]⟩]) (by simp [results, Try.results132, go_sem, *]) rfl ⟨⟨2, nm, ⟨#[]⟩, ⟨#[120]⟩⟩, ⟨by assumption, by assumption, by assumption⟩, rfl, ?_, ?_⟩
      · refine Cu.span (lo := b + 1) (hi := w6.heap.size + 1) hc6 ?_ (by omega)
        repeat (first | with_reducible exact Span.refl _ _ _ | with_reducible refine Span.setb ?_ (by omega) (by omega) | with_reducible apply Span.alloc' | with_reducible apply Span.drew')
      · refine Span.above' (L := w.heap.size) (M := w6.heap.size + 1) sp06 ?_ (Nat.le_refl _)
        repeat (first | with_reducible exact Span.refl _ _ _ | with_reducible refine Span.setb ?_ (by omega) (by omega) | with_reducible apply Span.alloc' | with_reducible apply Span.drew')
    · have hx9 : (⟨#[120]⟩ : ByteArray).size ≤ 9 := by decide
      go_wp2_with fail
      refine bodyPost_ret (v := .agg #[.int .i64 2, .string nm, .string ⟨#[120]⟩, .string ⟨#[]⟩]) (by simp [results, Try.results132, go_sem, *]) rfl ⟨⟨2, nm, ⟨#[120]⟩, ⟨#[]⟩⟩, ⟨by assumption, by assumption, by assumption⟩, rfl, ?_, ?_⟩
      · refine Cu.span (lo := b + 1) (hi := w6.heap.size + 1) hc6 ?_ (by omega)
        repeat (first | with_reducible exact Span.refl _ _ _ | with_reducible refine Span.setb ?_ (by omega) (by omega) | with_reducible apply Span.alloc' | with_reducible apply Span.drew')
      · refine Span.above' (L := w.heap.size) (M := w6.heap.size + 1) sp06 ?_ (Nat.le_refl _)
        repeat (first | with_reducible exact Span.refl _ _ _ | with_reducible refine Span.setb ?_ (by omega) (by omega) | with_reducible apply Span.alloc' | with_reducible apply Span.drew')
    · go_wp2_with fail
      refine bodyPost_ret (v := .agg #[.int .i64 2, .string nm, .string ⟨#[]⟩, .string ⟨#[]⟩]) (by simp [results, Try.results132, go_sem, *]) rfl ⟨⟨2, nm, ⟨#[]⟩, ⟨#[]⟩⟩, ⟨by assumption, by assumption, by assumption⟩, rfl, ?_, ?_⟩
      · refine Cu.span (lo := b + 1) (hi := w6.heap.size + 1) hc6 ?_ (by omega)
        repeat (first | with_reducible exact Span.refl _ _ _ | with_reducible refine Span.setb ?_ (by omega) (by omega) | with_reducible apply Span.alloc' | with_reducible apply Span.drew')
      · refine Span.above' (L := w.heap.size) (M := w6.heap.size + 1) sp06 ?_ (Nat.le_refl _)
        repeat (first | with_reducible exact Span.refl _ _ _ | with_reducible refine Span.setb ?_ (by omega) (by omega) | with_reducible apply Span.alloc' | with_reducible apply Span.drew')
  · go_wp2_with fail
    have BA5 : Box (w2.alloc (.cells #[.int .i64 4, .string nm, .string ⟨#[]⟩, .string ⟨#[]⟩] 74)) w2.heap.size #[.int .i64 4, .string nm, .string ⟨#[]⟩, .string ⟨#[]⟩] 74 := Box.new _ _ _
    have BR5 := BR2.alloc (.cells #[.int .i64 4, .string nm, .string ⟨#[]⟩, .string ⟨#[]⟩] 74)
    have hc5 : Cu (w2.alloc (.cells #[.int .i64 4, .string nm, .string ⟨#[]⟩, .string ⟨#[]⟩] 74)) b := hc2.fr (by repeat (first | (with_reducible exact Fr.refl _) | (with_reducible assumption) | (with_reducible refine Fr.drewN ?_ _) | (with_reducible refine Fr.drew ?_) | (with_reducible refine Fr.alloc ?_ _) | (with_reducible refine Fr.setCell ?_ (by (first | (with_reducible assumption) | omega | (simp only [World.size_alloc, World.size_setCell, World.size_drew, World.heap_drewN]; omega) | (simp; done) | (simp; omega))) _) | (with_reducible refine Fr.trans ?_ (by with_reducible assumption))))
    have sp05 := sp02.alloc' (.cells #[.int .i64 4, .string nm, .string ⟨#[]⟩, .string ⟨#[]⟩] 74)
    have hsT : w2.heap.size + 1 ≤ (w2.alloc (.cells #[.int .i64 4, .string nm, .string ⟨#[]⟩, .string ⟨#[]⟩] 74)).heap.size := by simp
    clear BR2
    generalize w2.alloc (.cells #[.int .i64 4, .string nm, .string ⟨#[]⟩, .string ⟨#[]⟩] 74) = wT at *
    go_wp2_with fail
    refine (l01Below_any b _ _ hc5 (by omega)).mono ?_
    rintro e w6 ⟨z, hz1, _, rfl, hc6, sp6⟩
    have hs6 := sp6.size
    have BA6 := BA5.span sp6 (.inr (by omega))
    have BR6 := BR5.span sp6 (.inr (by omega))
    have sp06 := sp05.trans sp6
    clear BA5 BR5 sp05 hc5 sp6 hz1
    have FA6 := BA6.facts
    have FR6 := BR6.facts
    rcases (show z = 0 ∨ z = 1 ∨ z = 2 ∨ z = 3 ∨ 4 ≤ z by omega) with rfl | rfl | rfl | rfl | hz
    · go_wp2_with fail
      refine (l01PickInt_any b w6.heap.size [0, 5] 3 _ (hc6.fr (by repeat (first | (with_reducible exact Fr.refl _) | (with_reducible assumption) | (with_reducible refine Fr.drewN ?_ _) | (with_reducible refine Fr.drew ?_) | (with_reducible refine Fr.alloc ?_ _) | (with_reducible refine Fr.setCell ?_ (by (first | (with_reducible assumption) | omega | (simp only [World.size_alloc, World.size_setCell, World.size_drew, World.heap_drewN]; omega) | (simp; done) | (simp; omega))) _) | (with_reducible refine Fr.trans ?_ (by with_reducible assumption))))) (Box.new _ _ _) (by omega) (by decide) (by decide)).mono ?_
      rintro e w7 ⟨j, hj, rfl, hc7, sp7⟩
      have hs7 := sp7.size
      simp only [World.size_alloc] at hs7
      have BA7 := (BA6.alloc _).span sp7 (.inr (by omega))
      have BR7 := (BR6.alloc _).span sp7 (.inr (by omega))
      have sp07 := (sp06.alloc' _).trans sp7
      clear FA6 FR6 BA6 BR6
      have FA7 := BA7.facts
      have FR7 := BR7.facts
      obtain ⟨kv, hkv⟩ : ∃ kv, iAt [0, 5] j = kv := ⟨_, rfl⟩
      simp only [hkv]
      go_wp2_with fail
      refine bodyPost_ret (v := .agg #[.int .i64 kv, .string nm, .string ⟨#[]⟩, .string ⟨#[]⟩]) (by simp [results, Try.results132, go_sem, *]) rfl ⟨⟨kv, nm, ⟨#[]⟩, ⟨#[]⟩⟩, ⟨by assumption, by assumption, by assumption⟩, rfl, ?_, ?_⟩
      · refine Cu.span (lo := b + 1) (hi := w7.heap.size + 1) hc7 ?_ (by omega)
        repeat (first | with_reducible exact Span.refl _ _ _ | with_reducible refine Span.setb ?_ (by omega) (by omega) | with_reducible apply Span.alloc' | with_reducible apply Span.drew')
      · refine Span.above' (L := w.heap.size) (M := w7.heap.size + 1) sp07 ?_ (Nat.le_refl _)
        repeat (first | with_reducible exact Span.refl _ _ _ | with_reducible refine Span.setb ?_ (by omega) (by omega) | with_reducible apply Span.alloc' | with_reducible apply Span.drew')
    · go_wp2_with fail
      refine (l01Pick_any b w6.heap.size actNames 9 _ (hc6.fr (by repeat (first | (with_reducible exact Fr.refl _) | (with_reducible assumption) | (with_reducible refine Fr.drewN ?_ _) | (with_reducible refine Fr.drew ?_) | (with_reducible refine Fr.alloc ?_ _) | (with_reducible refine Fr.setCell ?_ (by (first | (with_reducible assumption) | omega | (simp only [World.size_alloc, World.size_setCell, World.size_drew, World.heap_drewN]; omega) | (simp; done) | (simp; omega))) _) | (with_reducible refine Fr.trans ?_ (by with_reducible assumption))))) (Box.new _ _ _) (by omega) (by decide) (by decide)).mono ?_
      rintro e w7 ⟨j, hj, rfl, hc7, sp7⟩
      have hs7 := sp7.size
      simp only [World.size_alloc] at hs7
      have BA7 := (BA6.alloc _).span sp7 (.inr (by omega))
      have BR7 := (BR6.alloc _).span sp7 (.inr (by omega))
      have sp07 := (sp06.alloc' _).trans sp7
      clear FA6 FR6 BA6 BR6
      have FA7 := BA7.facts
      have FR7 := BR7.facts
      have hnv := actNames_ok j hj
      obtain ⟨nv, hnv2⟩ : ∃ nv, sAt actNames j = nv := ⟨_, rfl⟩
      rw [hnv2] at hnv
      simp only [hnv2]
      clear hnv2
      go_wp2_with fail
      refine bodyPost_ret (v := .agg #[.int .i64 4, .string nv, .string ⟨#[]⟩, .string ⟨#[]⟩]) (by simp [results, Try.results132, go_sem, *]) rfl ⟨⟨4, nv, ⟨#[]⟩, ⟨#[]⟩⟩, ⟨by assumption, by assumption, by assumption⟩, rfl, ?_, ?_⟩
      · refine Cu.span (lo := b + 1) (hi := w7.heap.size + 1) hc7 ?_ (by omega)
        repeat (first | with_reducible exact Span.refl _ _ _ | with_reducible refine Span.setb ?_ (by omega) (by omega) | with_reducible apply Span.alloc' | with_reducible apply Span.drew')
      · refine Span.above' (L := w.heap.size) (M := w7.heap.size + 1) sp07 ?_ (Nat.le_refl _)
        repeat (first | with_reducible exact Span.refl _ _ _ | with_reducible refine Span.setb ?_ (by omega) (by omega) | with_reducible apply Span.alloc' | with_reducible apply Span.drew')
    · have hx9 : (⟨#[120]⟩ : ByteArray).size ≤ 9 := by decide
      go_wp2_with fail
      refine bodyPost_ret (v := .agg #[.int .i64 4, .string nm, .string ⟨#[]⟩, .string ⟨#[120]⟩]) (by simp [results, Try.results132, go_sem, *]) rfl ⟨⟨4, nm, ⟨#[]⟩, ⟨#[120]⟩⟩, ⟨by assumption, by assumption, by assumption⟩, rfl, ?_, ?_⟩
      · refine Cu.span (lo := b + 1) (hi := w6.heap.size + 1) hc6 ?_ (by omega)
        repeat (first | with_reducible exact Span.refl _ _ _ | with_reducible refine Span.setb ?_ (by omega) (by omega) | with_reducible apply Span.alloc' | with_reducible apply Span.drew')
      · refine Span.above' (L := w.heap.size) (M := w6.heap.size + 1) sp06 ?_ (Nat.le_refl _)
        repeat (first | with_reducible exact Span.refl _ _ _ | with_reducible refine Span.setb ?_ (by omega) (by omega) | with_reducible apply Span.alloc' | with_reducible apply Span.drew')
    · have hx9 : (⟨#[120]⟩ : ByteArray).size ≤ 9 := by decide
      go_wp2_with fail
      refine bodyPost_ret (v := .agg #[.int .i64 4, .string nm, .string ⟨#[120]⟩, .string ⟨#[]⟩]) (by simp [results, Try.results132, go_sem, *]) rfl ⟨⟨4, nm, ⟨#[120]⟩, ⟨#[]⟩⟩, ⟨by assumption, by assumption, by assumption⟩, rfl, ?_, ?_⟩
      · refine Cu.span (lo := b + 1) (hi := w6.heap.size + 1) hc6 ?_ (by omega)
        repeat (first | with_reducible exact Span.refl _ _ _ | with_reducible refine Span.setb ?_ (by omega) (by omega) | with_reducible apply Span.alloc' | with_reducible apply Span.drew')
      · refine Span.above' (L := w.heap.size) (M := w6.heap.size + 1) sp06 ?_ (Nat.le_refl _)
        repeat (first | with_reducible exact Span.refl _ _ _ | with_reducible refine Span.setb ?_ (by omega) (by omega) | with_reducible apply Span.alloc' | with_reducible apply Span.drew')
    · go_wp2_with fail
      refine bodyPost_ret (v := .agg #[.int .i64 4, .string nm, .string ⟨#[]⟩, .string ⟨#[]⟩]) (by simp [results, Try.results132, go_sem, *]) rfl ⟨⟨4, nm, ⟨#[]⟩, ⟨#[]⟩⟩, ⟨by assumption, by assumption, by assumption⟩, rfl, ?_, ?_⟩
      · refine Cu.span (lo := b + 1) (hi := w6.heap.size + 1) hc6 ?_ (by omega)
        repeat (first | with_reducible exact Span.refl _ _ _ | with_reducible refine Span.setb ?_ (by omega) (by omega) | with_reducible apply Span.alloc' | with_reducible apply Span.drew')
      · refine Span.above' (L := w.heap.size) (M := w6.heap.size + 1) sp06 ?_ (Nat.le_refl _)
        repeat (first | with_reducible exact Span.refl _ _ _ | with_reducible refine Span.setb ?_ (by omega) (by omega) | with_reducible apply Span.alloc' | with_reducible apply Span.drew')
def leftNums : List Int := [0, 1, 2, 3, 5, 9, 40, 200, -1, 9223372036854775807]
set_option maxHeartbeats 4000000 in
set_option maxRecDepth 100000 in
theorem l14Left_any (b : Nat) (w : World) (hc : Cu w b) :
    Calls Try.prog 87 #[.pointer (some ⟨b, 0, none⟩)] w fun e w' => ∃ (ls : List Int) (ao : Option Addr) (cap : Nat), ls.length ≤ 5 ∧ e = .returned (.slice ao ls.length cap) ∧ IntsO w' w.heap.size (.slice ao ls.length cap) ls ∧ Cu w' b ∧ Span b (b + 1) w w' := by
  obtain ⟨i0, hi, hz0, hz1, hz2⟩ := info_parts info_int
  have hbl := hc.lt
  go_enter Try.func87, Try.ntmps87
  go_wp2_with fail
  go_loopw [3, 4] (fun v i wr => ∃ (ls : List Int), ls.length ≤ 5 ∧ i = .int .i64 ls.length ∧ IntsO wr w.heap.size v ls ∧ Cu wr b ∧ Span b (b + 1) w wr) (fun _ i _ => 6 - (intOf i).toNat)
  case atStart => exact ⟨[], by simp, rfl, World.ownsRow_made w #[] 0 (Nat.le_refl _) (Nat.zero_le _) rfl, hc.fr (by repeat (first | (with_reducible exact Fr.refl _) | (with_reducible assumption) | (with_reducible refine Fr.drewN ?_ _) | (with_reducible refine Fr.drew ?_) | (with_reducible refine Fr.alloc ?_ _) | (with_reducible refine Fr.setCell ?_ (by (first | (with_reducible assumption) | omega | (simp only [World.size_alloc, World.size_setCell, World.size_drew, World.heap_drewN]; omega) | (simp; done) | (simp; omega))) _) | (with_reducible refine Fr.trans ?_ (by with_reducible assumption)))), Span.of_fr ((Fr.refl w).alloc _)⟩
  case round =>
    obtain ⟨ls, hk, rfl, ho, hcu, hsp⟩ := hrel
    have HO := Lib.hid ho
    obtain ⟨ao1, cap1, rfl⟩ := owns_val ho
    have hsz := hsp.size
    go_wp2_with fail
    refine (l01Below_any b _ _ hcu (by omega)).mono ?_
    rintro e w1 ⟨x, hx1, _, rfl, hc1, sp1⟩
    have hx1 := hx1 (by omega)
    have hs1 := sp1.size
    have HO1 : Hid (IntsO w1 w.heap.size _ ls) := sp1.owns HO.out (fun g hg => .inr (by have := (HO.out).lt g hg; omega))
    clear ho
    by_cases hlt : ls.length < x
    · go_wp2_with fail
      refine (l01PickInt_any b w1.heap.size leftNums 3 _ (hc1.fr (by repeat (first | (with_reducible exact Fr.refl _) | (with_reducible assumption) | (with_reducible refine Fr.drewN ?_ _) | (with_reducible refine Fr.drew ?_) | (with_reducible refine Fr.alloc ?_ _) | (with_reducible refine Fr.setCell ?_ (by (first | (with_reducible assumption) | omega | (simp only [World.size_alloc, World.size_setCell, World.size_drew, World.heap_drewN]; omega) | (simp; done) | (simp; omega))) _) | (with_reducible refine Fr.trans ?_ (by with_reducible assumption))))) (Box.new _ _ _) (by omega) (by decide) (by decide)).mono ?_
      rintro e w2 ⟨j, hj, rfl, hc2, sp2⟩
      have hs2 := sp2.size
      simp only [World.size_alloc] at hs2
      have HO2 : Hid (IntsO w2 w.heap.size _ ls) := sp2.owns (World.ownsRow.alloc HO1.out _) (fun g hg => .inr (by have := (HO1.out).lt g hg; omega))
      obtain ⟨y, hy⟩ : ∃ y, iAt leftNums j = y := ⟨_, rfl⟩
      simp only [hy]
      clear hy
      go_wp2_with (at_builtin; (refine wpList_append_rd rfl _ _ 65 rfl w.heap.size 3 i0 (.int .i64 0) 1 8 Try.underlying65 hi hz0 hz1 hz2 rfl (by decide) _ ls.length (ls.map (Value.int .i64)) rfl (World.ownsRow.alloc HO2.out _) _ 1 [.int .i64 y] rfl (RdS.new (by first | rfl | simp) rfl) (by simp [Value.oneCell']) (by unfold maxLen; omega) (by omega) (by (first | (with_reducible assumption) | omega | (simp only [World.size_alloc, World.size_setCell, World.size_drew, World.heap_drewN]; omega) | (simp; done) | (simp; omega))) ?_; intro ao' cap' w4 hown hgrow hat))
      have hc4 : Cu w4 b := (hc2.fr ((Fr.refl _).alloc _)).gr hgrow (fun g hg => by have := World.ownsRow.lt HO2.out g hg; omega)
      have hs4 : Span b (b + 1) w w4 := (((((hsp.trans sp1).alloc' _).trans sp2)).alloc' _).above hgrow (fun g hg => (World.ownsRow.lt HO2.out g hg).1)
      go_roundw
      case rel => exact ⟨ls ++ [y], by first | (simp; done) | (simp; omega), by first | (simp; done) | (simp; go_num), by simpa [IntsO] using hown, hc4, hs4⟩
      case measure => (simp [intOf]; omega)
    · go_wp2_with fail
      go_ret
      exact ⟨ls, ao1, cap1, hk, rfl, HO1.out, hc1, hsp.trans sp1⟩
set_option maxHeartbeats 2000000 in
theorem l01Place_any (b : Nat) (n : Int) (w : World) (hc : Cu w b) (h0 : 0 ≤ n) (hn : n ≤ 1048576) :
    Calls Try.prog 86 #[.pointer (some ⟨b, 0, none⟩), .int .i64 n] w fun e w' => ∃ p : Int, e = .returned (.int .i64 p) ∧ Cu w' b ∧ Span b (b + 1) w w' := by
  have hbl := hc.lt
  have u1 : IntKind.i64.wrap (n + 1) = n + 1 := IntWalk.i64_in _ (by omega)
  go_enter Try.func86, Try.ntmps86
  go_wp2_with fail
  refine (l01Once_any b _ _ hc (by omega)).mono ?_
  rintro e w1 ⟨x, rfl, hc1, sp1⟩
  have hs1 := sp1.size
  cases x
  · go_wp2_with fail
    refine (l01Below_any b _ _ hc1 (by omega)).mono ?_
    rintro e w2 ⟨y, _, _, rfl, hc2, sp2⟩
    go_wp2_with fail
    go_ret
    exact ⟨_, rfl, hc2, sp1.trans sp2⟩
  · go_wp2_with fail
    refine (l01PickInt_any b w1.heap.size [-1, n, n + 1, 9223372036854775807, -9223372036854775808] 3 _ (hc1.fr (by repeat (first | (with_reducible exact Fr.refl _) | (with_reducible assumption) | (with_reducible refine Fr.drewN ?_ _) | (with_reducible refine Fr.drew ?_) | (with_reducible refine Fr.alloc ?_ _) | (with_reducible refine Fr.setCell ?_ (by (first | (with_reducible assumption) | omega | (simp only [World.size_alloc, World.size_setCell, World.size_drew, World.heap_drewN]; omega) | (simp; done) | (simp; omega))) _) | (with_reducible refine Fr.trans ?_ (by with_reducible assumption))))) (Box.new _ _ _) (by omega) (by simp) (by simp)).mono ?_
    rintro e w2 ⟨j, hj, rfl, hc2, sp2⟩
    go_wp2_with fail
    go_ret
    exact ⟨_, rfl, hc2, (sp1.alloc' _).trans sp2⟩
end Go.Proofs.Ythcamjijogmbhaa
