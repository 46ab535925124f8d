/- The reference's drawn link, right or not (spec.l18Any). No condition but the size of the draw. (Printed by mk_draw6.py.) -/
import Derived.Test.YtnlcgffffjjojaaDraw3
namespace Go.Proofs.Ytnlcgffffjjojaa
open Go.RowKit
set_option linter.unusedVariables false
set_option linter.unusedSimpArgs false

/-- How far the row in the box at p is from 300 elements. -/
def lenAt (w : World) (p : Nat) : Nat := match w.cell? ⟨p, 0, none⟩ with | some (.slice _ n _) => 300 - n | _ => 0
theorem lenAt_box {w : World} {p n cap : Nat} {ao : Option Addr} {x y : Value} {T : TypeId} (h : Box w p #[.slice ao n cap, x, y] T) : lenAt w p = 300 - n := by
  unfold lenAt
  rw [h.cell]
  rfl
set_option maxHeartbeats 8000000 in
set_option maxRecDepth 100000 in
theorem l18Any_any (b : Nat) (w : World) (hc : Cu w b) :
    Calls Try.prog 108 #[.pointer (some ⟨b, 0, none⟩)] w fun e w' => ∃ (d : LinkD) (ao : Option Addr) (cap lo hi : Nat), d.f0.length ≤ 300 ∧
      e = .returned (.agg #[.slice ao d.f0.length cap, .int .i64 d.f1, .int .i64 d.f2]) ∧ StrsW w' lo hi (.slice ao d.f0.length cap) d.f0 ∧ w.heap.size ≤ lo ∧ Cu w' b ∧ Span b (b + 1) w w' := by
  obtain ⟨i0, hi, hz0, hz1, hz2⟩ := info_parts info_string
  have hbl := hc.lt
  go_enter Try.func108, Try.ntmps108
  go_wp2_with fail
  refine (l01Below_any b _ _ (hc.fr (by repeat (first | (with_reducible exact Fr.refl _) | (with_reducible assumption) | (with_reducible refine Fr.drewN ?_ _) | (with_reducible refine Fr.drew ?_) | (with_reducible refine Fr.alloc ?_ _) | (with_reducible refine Fr.setCell ?_ (by (first | (with_reducible assumption) | omega | (simp only [World.size_alloc, World.size_setCell, World.size_drew, World.heap_drewN]; omega) | (simp; done) | (simp; omega))) _) | (with_reducible refine Fr.trans ?_ (by with_reducible assumption))))) (by omega)).mono ?_
  rintro e w1 ⟨x1, hx1, _, rfl, hc1, sp1⟩
  have hx1 := hx1 (by omega)
  have hs1 := sp1.size
  simp only [World.size_alloc] at hs1
  have BR : Box w1 w.heap.size #[.slice none 0 0, .int .i64 0, .int .i64 0] 53 := (Box.new _ _ _).span sp1 (.inr (by omega))
  go_wp2_with fail
  refine (l01Below_any b _ _ hc1 (by omega)).mono ?_
  rintro e w2 ⟨x2, hx2, _, rfl, hc2, sp2⟩
  have hx2 := hx2 (by omega)
  have hs2 := sp2.size
  go_wp2_with fail
  refine (l18Link_any b _ hc2).mono ?_
  rintro e w3 ⟨⟨ss, a, t⟩, a3, c3, hl, _, ha0, ha1, ht0, ht1, rfl, ⟨lo3, hi3, hw3, _⟩, hc3, sp3⟩
  simp only [] at hl ha0 ha1 ht0 ht1 hw3
  have hs3 := sp3.size
  have HW3 := Lib.hid hw3
  clear hw3
  go_wp2_with fail
  refine (l18Copy_any _ ⟨ss, a, t⟩ _ ⟨_, rfl, HW3.out.rd⟩ (by show ss.length ≤ _; omega)).mono ?_
  rintro e w4 ⟨a4, c4, rfl, hw4, hf4⟩
  obtain ⟨a5, c5, hv5, hw5⟩ := hw4
  cases hv5
  have hs4 := hf4.size
  have hc4 : Cu w4 b := hc3.fr hf4
  have HW := Lib.hid hw5
  clear hw5
  have BR4 := ((BR.span sp2 (.inr (by omega))).span sp3 (.inr (by omega))).fr hf4
  have FR4 := BR4.facts
  have sp14 : Span b (b + 1) w w4 := ((((Span.of_fr ((Fr.refl w).alloc _)).trans sp1).trans sp2).trans sp3).then_fr hf4
  clear BR
  have hcase : x1 = 0 ∨ x1 = 1 ∨ x1 = 2 ∨ x1 = 3 ∨ 3 < x1 := by omega
  rcases hcase with hk | hk | hk | hk | hk
  · subst hk
    have hwl : IntKind.i64.wrap ((ss.length : Int) + 1) = (ss.length : Int) + 1 := IntWalk.i64_in _ (by omega)
    have hm : x2 % 3 = 0 ∨ x2 % 3 = 1 ∨ x2 % 3 = 2 := by omega
    rcases hm with hm | hm | hm
    · have hmi : (x2 : Int) % 3 = 0 := by omega
      go_wp2_with fail
      refine bodyPost_ret (v := .agg #[.slice a4 ss.length c4, .int .i64 (-1), .int .i64 t]) (by simp [results, Try.results108, go_sem, *]) rfl ⟨⟨ss, (-1), t⟩, a4, c4, w3.heap.size, w4.heap.size, by show ss.length ≤ _; omega, rfl, ?_, by omega, ?_, ?_⟩
      · show StrsW _ w3.heap.size w4.heap.size (.slice a4 ss.length c4) ss
        change OwW _ _ _ _ _ _ _ _; (repeat (first | (with_reducible refine OwW.drewN ?_ _) | (with_reducible refine OwW.drew ?_) | (with_reducible refine OwW.alloc ?_ _) | (with_reducible refine OwW.set ?_ (by (first | (with_reducible assumption) | omega | (simp only [World.size_alloc, World.size_setCell, World.size_drew, World.heap_drewN]; omega) | (simp; done) | (simp; omega))) _) | (exact HW.out)))
      · refine Cu.span (lo := b + 1) (hi := w4.heap.size + 1) hc4 ?_ (by omega)
        repeat (first | with_reducible exact Span.refl _ _ _ | with_reducible refine Span.setb ?_ (by omega) (by omega) | with_reducible apply Span.alloc' | with_reducible apply Span.drew')
      · refine Span.above' (L := w.heap.size) (M := w4.heap.size + 1) sp14 ?_ (Nat.le_refl _)
        repeat (first | with_reducible exact Span.refl _ _ _ | with_reducible refine Span.setb ?_ (by omega) (by omega) | with_reducible apply Span.alloc' | with_reducible apply Span.drew')
    · have hmi : (x2 : Int) % 3 = 1 := by omega
      go_wp2_with fail
      refine bodyPost_ret (v := .agg #[.slice a4 ss.length c4, .int .i64 (ss.length : Int), .int .i64 t]) (by simp [results, Try.results108, go_sem, *]) rfl ⟨⟨ss, (ss.length : Int), t⟩, a4, c4, w3.heap.size, w4.heap.size, by show ss.length ≤ _; omega, rfl, ?_, by omega, ?_, ?_⟩
      · show StrsW _ w3.heap.size w4.heap.size (.slice a4 ss.length c4) ss
        change OwW _ _ _ _ _ _ _ _; (repeat (first | (with_reducible refine OwW.drewN ?_ _) | (with_reducible refine OwW.drew ?_) | (with_reducible refine OwW.alloc ?_ _) | (with_reducible refine OwW.set ?_ (by (first | (with_reducible assumption) | omega | (simp only [World.size_alloc, World.size_setCell, World.size_drew, World.heap_drewN]; omega) | (simp; done) | (simp; omega))) _) | (exact HW.out)))
      · refine Cu.span (lo := b + 1) (hi := w4.heap.size + 1) hc4 ?_ (by omega)
        repeat (first | with_reducible exact Span.refl _ _ _ | with_reducible refine Span.setb ?_ (by omega) (by omega) | with_reducible apply Span.alloc' | with_reducible apply Span.drew')
      · refine Span.above' (L := w.heap.size) (M := w4.heap.size + 1) sp14 ?_ (Nat.le_refl _)
        repeat (first | with_reducible exact Span.refl _ _ _ | with_reducible refine Span.setb ?_ (by omega) (by omega) | with_reducible apply Span.alloc' | with_reducible apply Span.drew')
    · have hmi : (x2 : Int) % 3 = 2 := by omega
      go_wp2_with fail
      refine bodyPost_ret (v := .agg #[.slice a4 ss.length c4, .int .i64 ((ss.length : Int) + 1), .int .i64 t]) (by simp [results, Try.results108, go_sem, *]) rfl ⟨⟨ss, ((ss.length : Int) + 1), t⟩, a4, c4, w3.heap.size, w4.heap.size, by show ss.length ≤ _; omega, rfl, ?_, by omega, ?_, ?_⟩
      · show StrsW _ w3.heap.size w4.heap.size (.slice a4 ss.length c4) ss
        change OwW _ _ _ _ _ _ _ _; (repeat (first | (with_reducible refine OwW.drewN ?_ _) | (with_reducible refine OwW.drew ?_) | (with_reducible refine OwW.alloc ?_ _) | (with_reducible refine OwW.set ?_ (by (first | (with_reducible assumption) | omega | (simp only [World.size_alloc, World.size_setCell, World.size_drew, World.heap_drewN]; omega) | (simp; done) | (simp; omega))) _) | (exact HW.out)))
      · refine Cu.span (lo := b + 1) (hi := w4.heap.size + 1) hc4 ?_ (by omega)
        repeat (first | with_reducible exact Span.refl _ _ _ | with_reducible refine Span.setb ?_ (by omega) (by omega) | with_reducible apply Span.alloc' | with_reducible apply Span.drew')
      · refine Span.above' (L := w.heap.size) (M := w4.heap.size + 1) sp14 ?_ (Nat.le_refl _)
        repeat (first | with_reducible exact Span.refl _ _ _ | with_reducible refine Span.setb ?_ (by omega) (by omega) | with_reducible apply Span.alloc' | with_reducible apply Span.drew')
  · subst hk
    have hwl : IntKind.i64.wrap ((ss.length : Int) + 1) = (ss.length : Int) + 1 := IntWalk.i64_in _ (by omega)
    have hm : x2 % 3 = 0 ∨ x2 % 3 = 1 ∨ x2 % 3 = 2 := by omega
    rcases hm with hm | hm | hm
    · have hmi : (x2 : Int) % 3 = 0 := by omega
      go_wp2_with fail
      refine bodyPost_ret (v := .agg #[.slice a4 ss.length c4, .int .i64 a, .int .i64 (-1)]) (by simp [results, Try.results108, go_sem, *]) rfl ⟨⟨ss, a, (-1)⟩, a4, c4, w3.heap.size, w4.heap.size, by show ss.length ≤ _; omega, rfl, ?_, by omega, ?_, ?_⟩
      · show StrsW _ w3.heap.size w4.heap.size (.slice a4 ss.length c4) ss
        change OwW _ _ _ _ _ _ _ _; (repeat (first | (with_reducible refine OwW.drewN ?_ _) | (with_reducible refine OwW.drew ?_) | (with_reducible refine OwW.alloc ?_ _) | (with_reducible refine OwW.set ?_ (by (first | (with_reducible assumption) | omega | (simp only [World.size_alloc, World.size_setCell, World.size_drew, World.heap_drewN]; omega) | (simp; done) | (simp; omega))) _) | (exact HW.out)))
      · refine Cu.span (lo := b + 1) (hi := w4.heap.size + 1) hc4 ?_ (by omega)
        repeat (first | with_reducible exact Span.refl _ _ _ | with_reducible refine Span.setb ?_ (by omega) (by omega) | with_reducible apply Span.alloc' | with_reducible apply Span.drew')
      · refine Span.above' (L := w.heap.size) (M := w4.heap.size + 1) sp14 ?_ (Nat.le_refl _)
        repeat (first | with_reducible exact Span.refl _ _ _ | with_reducible refine Span.setb ?_ (by omega) (by omega) | with_reducible apply Span.alloc' | with_reducible apply Span.drew')
    · have hmi : (x2 : Int) % 3 = 1 := by omega
      go_wp2_with fail
      refine bodyPost_ret (v := .agg #[.slice a4 ss.length c4, .int .i64 a, .int .i64 200]) (by simp [results, Try.results108, go_sem, *]) rfl ⟨⟨ss, a, 200⟩, a4, c4, w3.heap.size, w4.heap.size, by show ss.length ≤ _; omega, rfl, ?_, by omega, ?_, ?_⟩
      · show StrsW _ w3.heap.size w4.heap.size (.slice a4 ss.length c4) ss
        change OwW _ _ _ _ _ _ _ _; (repeat (first | (with_reducible refine OwW.drewN ?_ _) | (with_reducible refine OwW.drew ?_) | (with_reducible refine OwW.alloc ?_ _) | (with_reducible refine OwW.set ?_ (by (first | (with_reducible assumption) | omega | (simp only [World.size_alloc, World.size_setCell, World.size_drew, World.heap_drewN]; omega) | (simp; done) | (simp; omega))) _) | (exact HW.out)))
      · refine Cu.span (lo := b + 1) (hi := w4.heap.size + 1) hc4 ?_ (by omega)
        repeat (first | with_reducible exact Span.refl _ _ _ | with_reducible refine Span.setb ?_ (by omega) (by omega) | with_reducible apply Span.alloc' | with_reducible apply Span.drew')
      · refine Span.above' (L := w.heap.size) (M := w4.heap.size + 1) sp14 ?_ (Nat.le_refl _)
        repeat (first | with_reducible exact Span.refl _ _ _ | with_reducible refine Span.setb ?_ (by omega) (by omega) | with_reducible apply Span.alloc' | with_reducible apply Span.drew')
    · have hmi : (x2 : Int) % 3 = 2 := by omega
      go_wp2_with fail
      refine bodyPost_ret (v := .agg #[.slice a4 ss.length c4, .int .i64 a, .int .i64 201]) (by simp [results, Try.results108, go_sem, *]) rfl ⟨⟨ss, a, 201⟩, a4, c4, w3.heap.size, w4.heap.size, by show ss.length ≤ _; omega, rfl, ?_, by omega, ?_, ?_⟩
      · show StrsW _ w3.heap.size w4.heap.size (.slice a4 ss.length c4) ss
        change OwW _ _ _ _ _ _ _ _; (repeat (first | (with_reducible refine OwW.drewN ?_ _) | (with_reducible refine OwW.drew ?_) | (with_reducible refine OwW.alloc ?_ _) | (with_reducible refine OwW.set ?_ (by (first | (with_reducible assumption) | omega | (simp only [World.size_alloc, World.size_setCell, World.size_drew, World.heap_drewN]; omega) | (simp; done) | (simp; omega))) _) | (exact HW.out)))
      · refine Cu.span (lo := b + 1) (hi := w4.heap.size + 1) hc4 ?_ (by omega)
        repeat (first | with_reducible exact Span.refl _ _ _ | with_reducible refine Span.setb ?_ (by omega) (by omega) | with_reducible apply Span.alloc' | with_reducible apply Span.drew')
      · refine Span.above' (L := w.heap.size) (M := w4.heap.size + 1) sp14 ?_ (Nat.le_refl _)
        repeat (first | with_reducible exact Span.refl _ _ _ | with_reducible refine Span.setb ?_ (by omega) (by omega) | with_reducible apply Span.alloc' | with_reducible apply Span.drew')
  · subst hk
    go_wp2_with (at_builtin; refine wpList_append_rd rfl _ _ 47 rfl w3.heap.size 9 i0 (.string ⟨#[]⟩) 1 16 Try.underlying47 hi hz0 hz1 hz2 rfl (by decide) (.slice a4 ss.length c4) ss.length (ss.map Value.string) rfl (World.ownsRow.alloc (World.ownsRow.alloc HW.out.1 _) _) _ 1 [.string ⟨#[]⟩] rfl (RdS.new (by first | rfl | simp) rfl) (by simp [Value.oneCell']) (by unfold maxLen; omega) (by omega) (by (first | (with_reducible assumption) | omega | (simp only [World.size_alloc, World.size_setCell, World.size_drew, World.heap_drewN]; omega) | (simp; done) | (simp; omega))) ?_; intro ao' cap' w5 hown hgrow hat; have BP5 : Box w5 w4.heap.size #[.slice a4 ss.length c4, .int .i64 a, .int .i64 t] 53 := ((Box.new w4 _ _).alloc _).gr hgrow (fun e => by have := HW.out.2 _ e; omega); have FP5 := BP5.facts; have BR5 := ((BR4.alloc _).alloc _).gr hgrow (fun e => by have := HW.out.2 _ e; omega); have FR5 := BR5.facts)
    have hs5 := hgrow.size
    simp only [World.size_alloc] at hs5
    have hne : (Value.slice ao' (ss.length + 1) cap').ownBlock = (Value.slice a4 ss.length c4).ownBlock ∨ (Value.slice ao' (ss.length + 1) cap').ownBlock = some (w4.heap.size + 2) := by simpa using hat
    have nP : (Value.slice ao' (ss.length + 1) cap').ownBlock ≠ some w4.heap.size := ne_block HW.out.2 hne _ (by omega) (by omega)
    have nR : (Value.slice ao' (ss.length + 1) cap').ownBlock ≠ some w.heap.size := ne_block HW.out.2 hne _ (by omega) (by omega)
    have hrow := RowIn.of_owns hown
    have hc5 : Cu w5 b := ((hc4.fr (show Fr w4 (w4.alloc _) by repeat (first | (with_reducible exact Fr.refl _) | (with_reducible assumption) | (with_reducible refine Fr.drewN ?_ _) | (with_reducible refine Fr.drew ?_) | (with_reducible refine Fr.alloc ?_ _) | (with_reducible refine Fr.setCell ?_ (by (first | (with_reducible assumption) | omega | (simp only [World.size_alloc, World.size_setCell, World.size_drew, World.heap_drewN]; omega) | (simp; done) | (simp; omega))) _) | (with_reducible refine Fr.trans ?_ (by with_reducible assumption))))).fr (Fr.alloc (Fr.refl _) _)).gr hgrow (fun g hg => by have := HW.out.2 g hg; omega)
    have sp15 : Span b (b + 1) w w5 := ((sp14.alloc' _).alloc' _).above hgrow (fun g hg => by have := HW.out.2 g hg; omega)
    have hl1 : (ss ++ [(⟨#[]⟩ : ByteArray)]).length = ss.length + 1 := by simp
    have hown' : w5.ownsRow w3.heap.size 9 1 (.slice ao' (ss.length + 1) cap') (ss.length + 1) ((ss ++ [(⟨#[]⟩ : ByteArray)]).map Value.string) := by simpa using hown
    refine bodyPost_ret (v := .agg #[.slice ao' (ss.length + 1) cap', .int .i64 a, .int .i64 t]) (by simp [results, Try.results108, go_sem, *]) rfl ⟨⟨ss ++ [⟨#[]⟩], a, t⟩, ao', cap', w3.heap.size, w5.heap.size, by show (ss ++ [_]).length ≤ _; rw [hl1]; omega, by show _ = Ending.returned (.agg #[.slice ao' (ss ++ [_]).length cap', _, _]); rw [hl1], ?_, by omega, ?_, ?_⟩
    · show StrsW _ w3.heap.size w5.heap.size (.slice ao' (ss ++ [(⟨#[]⟩ : ByteArray)]).length cap') (ss ++ [⟨#[]⟩])
      rw [hl1]
      refine ⟨?_, hrow⟩
      rw [hl1]
      repeat (first | (with_reducible exact hown') | (refine owns_far ?_ (by first | (with_reducible assumption) | assumption) _))
    · refine Cu.span (lo := b + 1) (hi := w5.heap.size + 1) hc5 ?_ (by omega)
      repeat (first | with_reducible exact Span.refl _ _ _ | with_reducible refine Span.setb ?_ (by omega) (by omega))
    · refine Span.above' (L := w.heap.size) (M := w5.heap.size + 1) sp15 ?_ (Nat.le_refl _)
      repeat (first | with_reducible exact Span.refl _ _ _ | with_reducible refine Span.setb ?_ (by omega) (by omega))
  · subst hk
    obtain ⟨mm, hmm1, hmm2⟩ := rem_lt (x := (x2 : Int)) (n := 3) (by omega)
    go_wp2_with fail
    go_loopw [] (fun wr => ∃ (l : List ByteArray) (ao : Option Addr) (cap : Nat), l.length ≤ 201 ∧ Box wr w4.heap.size #[.slice ao l.length cap, .int .i64 a, .int .i64 t] 53 ∧ wr.ownsRow w3.heap.size 9 1 (.slice ao l.length cap) l.length (l.map Value.string) ∧ (Value.slice ao l.length cap).ownBlock ≠ some w4.heap.size ∧ (Value.slice ao l.length cap).ownBlock ≠ some w.heap.size ∧ Box wr w.heap.size #[.slice none 0 0, .int .i64 0, .int .i64 0] 53 ∧ Cu wr b ∧ Span b (b + 1) w wr ∧ w4.heap.size + 1 ≤ wr.heap.size) (fun wr => lenAt wr w4.heap.size)
    case atStart => exact ⟨ss, a4, c4, by omega, Box.new _ _ _, World.ownsRow.alloc HW.out.1 _, fun e => by have := HW.out.2 _ e; omega, fun e => by have := HW.out.2 _ e; omega, BR4.alloc _, hc4.fr ((Fr.refl _).alloc _), sp14.alloc' _, by simp⟩
    case round =>
      obtain ⟨l, ao, cap, hl2, BP, ho, nP, nR, BRr, hcu, hsp, hsz⟩ := hrel
      have HO := Lib.hid ho
      have NP := Lib.hid nP
      have NR := Lib.hid nR
      clear ho nP nR
      have FP := BP.facts
      have FR := BRr.facts
      by_cases hlt : (l.length : Int) < 199 + mm
      · go_wp2_with (at_builtin; refine wpList_append_rd rfl _ _ 47 rfl w3.heap.size 9 i0 (.string ⟨#[]⟩) 1 16 Try.underlying47 hi hz0 hz1 hz2 rfl (by decide) (.slice ao l.length cap) l.length (l.map Value.string) rfl (World.ownsRow.alloc HO.out _) _ 1 [.string ⟨#[120]⟩] rfl (RdS.new (by first | rfl | simp) rfl) (by simp [Value.oneCell']) (by unfold maxLen; omega) (by omega) (by (first | (with_reducible assumption) | omega | (simp only [World.size_alloc, World.size_setCell, World.size_drew, World.heap_drewN]; omega) | (simp; done) | (simp; omega))) ?_; intro ao' cap' w5 hown hgrow hat; have BP5 := (BP.alloc _).gr hgrow (fun e => NP.out e); have FP5 := BP5.facts)
        have hs5 := hgrow.size
        simp only [World.size_alloc] at hs5
        have hne : (Value.slice ao' (l.length + 1) cap').ownBlock = (Value.slice ao l.length cap).ownBlock ∨ (Value.slice ao' (l.length + 1) cap').ownBlock = some (wr.heap.size + 1) := by simpa using hat
        have nP' : (Value.slice ao' (l.length + 1) cap').ownBlock ≠ some w4.heap.size := by rcases hne with e | e <;> rw [e]; exact NP.out; simp; omega
        have nR' : (Value.slice ao' (l.length + 1) cap').ownBlock ≠ some w.heap.size := by rcases hne with e | e <;> rw [e]; exact NR.out; simp; omega
        have BR5 := (BRr.alloc _).gr hgrow (fun e => NR.out e)
        have hc5 : Cu w5 b := (hcu.fr ((Fr.refl _).alloc _)).gr hgrow (fun g hg => by have := World.ownsRow.lt HO.out g hg; omega)
        have sp5 : Span b (b + 1) w w5 := (hsp.alloc' _).above hgrow (fun g hg => by have := World.ownsRow.lt HO.out g hg; omega)
        have hl1 : (l ++ [(⟨#[120]⟩ : ByteArray)]).length = l.length + 1 := by simp
        have hown' : w5.ownsRow w3.heap.size 9 1 (.slice ao' (l.length + 1) cap') (l.length + 1) ((l ++ [(⟨#[120]⟩ : ByteArray)]).map Value.string) := by simpa using hown
        have BP6 : Box (w5.setCell ⟨w4.heap.size, 0, none⟩ (.slice ao' (l.length + 1) cap')) w4.heap.size #[.slice ao' (l.length + 1) cap', .int .i64 a, .int .i64 t] 53 := BP5.set_to (by simp)
        go_roundw
        case rel =>
          refine ⟨l ++ [⟨#[120]⟩], ao', cap', by rw [hl1]; omega, by rw [hl1]; exact BP6, by rw [hl1]; exact owns_far hown' nP' _, by rw [hl1]; exact nP', by rw [hl1]; exact nR', BR5.far' (by omega) _, ?_, ?_, by simp; omega⟩
          · exact hc5.span (lo := b + 1) (hi := w5.heap.size + 1) (Span.setb (Span.refl _ _ _) (by omega) (by omega)) (by omega)
          · exact Span.above' (L := w.heap.size) (M := w5.heap.size + 1) sp5 (Span.setb (Span.refl _ _ _) (by omega) (by omega)) (Nat.le_refl _)
        case measure =>
          show lenAt _ _ < lenAt _ _
          rw [lenAt_box BP6, lenAt_box BP]
          omega
      · go_wp2_with fail
        have nP := NP.out
        have nR := NR.out
        have hrow := RowIn.of_owns HO.out
        refine bodyPost_ret (v := .agg #[.slice ao l.length cap, .int .i64 a, .int .i64 t]) (by simp [results, Try.results108, go_sem, *]) rfl ?_
        refine ⟨⟨l, a, t⟩, by show l.length ≤ _; omega, ao, cap, rfl, w3.heap.size, ⟨wr.heap.size, ?_⟩, by omega, ?_, ?_⟩
        · show StrsW _ w3.heap.size wr.heap.size (.slice ao l.length cap) l
          refine ⟨?_, hrow⟩
          repeat (first | (with_reducible exact HO.out) | (refine owns_far ?_ (by first | (with_reducible assumption) | assumption) _))
        · refine Cu.span (lo := b + 1) (hi := wr.heap.size + 1) hcu ?_ (by omega)
          repeat (first | with_reducible exact Span.refl _ _ _ | with_reducible refine Span.setb ?_ (by omega) (by omega))
        · refine Span.above' (L := w.heap.size) (M := wr.heap.size + 1) hsp ?_ (Nat.le_refl _)
          repeat (first | with_reducible exact Span.refl _ _ _ | with_reducible refine Span.setb ?_ (by omega) (by omega))
  · have h0 : ((x1 : Int) == 0) = false := by rw [beq_eq_false_iff_ne]; omega
    have h1 : ((x1 : Int) == 1) = false := by rw [beq_eq_false_iff_ne]; omega
    have h2 : ((x1 : Int) == 2) = false := by rw [beq_eq_false_iff_ne]; omega
    have h3 : ((x1 : Int) == 3) = false := by rw [beq_eq_false_iff_ne]; omega
    go_wp2_with fail
    refine bodyPost_ret (v := .agg #[.slice a4 ss.length c4, .int .i64 a, .int .i64 t]) (by simp [results, Try.results108, go_sem, *]) rfl ⟨⟨ss, a, t⟩, a4, c4, w3.heap.size, w4.heap.size, by show ss.length ≤ _; omega, rfl, ?_, by omega, ?_, ?_⟩
    · show StrsW _ w3.heap.size w4.heap.size (.slice a4 ss.length c4) ss
      change OwW _ _ _ _ _ _ _ _; (repeat (first | (with_reducible refine OwW.drewN ?_ _) | (with_reducible refine OwW.drew ?_) | (with_reducible refine OwW.alloc ?_ _) | (with_reducible refine OwW.set ?_ (by (first | (with_reducible assumption) | omega | (simp only [World.size_alloc, World.size_setCell, World.size_drew, World.heap_drewN]; omega) | (simp; done) | (simp; omega))) _) | (exact HW.out)))
    · refine Cu.span (lo := b + 1) (hi := w4.heap.size + 1) hc4 ?_ (by omega)
      repeat (first | with_reducible exact Span.refl _ _ _ | with_reducible refine Span.setb ?_ (by omega) (by omega) | with_reducible apply Span.alloc' | with_reducible apply Span.drew')
    · refine Span.above' (L := w.heap.size) (M := w4.heap.size + 1) sp14 ?_ (Nat.le_refl _)
      repeat (first | with_reducible exact Span.refl _ _ _ | with_reducible refine Span.setb ?_ (by omega) (by omega) | with_reducible apply Span.alloc' | with_reducible apply Span.drew')
end Go.Proofs.Ytnlcgffffjjojaa
