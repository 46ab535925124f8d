/- The reference's drawn packet (spec.l01PickInt, l18Packet): what bounds its fields keep. No condition but the size of the draw. -/
import Derived.Test.YtnlcgffffjjojaaDraw3
namespace Go.Proofs.Ytnlcgffffjjojaa
open Go.RowKit
set_option linter.unusedVariables false
set_option linter.unusedSimpArgs false

set_option maxHeartbeats 1000000 in
theorem l01PickInt_any (b g : Nat) (xs : List Int) (T : TypeId) (w : World) (hc : Cu w b) (hb : Box w g (xs.map (Value.int .i64)).toArray T) (hg : b < g) (hx : 0 < xs.length) (hl : xs.length ≤ 256) :
    Calls Try.prog 110 #[.pointer (some ⟨b, 0, none⟩), .slice (some ⟨g, 0, none⟩) xs.length xs.length] w fun e w' => ∃ k, k < xs.length ∧ e = .returned (.int .i64 (iAt xs k)) ∧ Cu w' b ∧ Span b (b + 1) w w' := by
  go_enter Try.func110, Try.ntmps110
  go_wp2_with fail
  refine (l01Below_any b _ _ hc (by omega)).mono ?_
  rintro e w1 ⟨k, hk1, hk2, rfl, hc1, sp1⟩
  have hk3 : k < xs.length := by have := hk1 (by omega); omega
  have c0 : w1.cell? ⟨g, k, none⟩ = some (.int .i64 (iAt xs k)) := by
    rw [(hb.span sp1 (.inr (by omega))).cell]
    simp [iAt, List.getD, List.getElem?_eq_getElem hk3, hk3]
  clear hb
  go_wp2_with fail
  go_ret
  exact ⟨k, hk3, rfl, hc1, sp1⟩
set_option maxHeartbeats 4000000 in
set_option maxRecDepth 100000 in
theorem l18Packet_any (b : Nat) (w : World) (hc : Cu w b) :
    Calls Try.prog 173 #[.pointer (some ⟨b, 0, none⟩)] w fun e w' => ∃ (ep fr sq ak : Nat) (s : ByteArray), 1 ≤ ep ∧ ep ≤ 4 ∧ fr ≤ 2 ∧ sq ≤ 4 ∧ ak ≤ 4 ∧ (sq = 0 → s.size = 0) ∧ (0 < sq → 1 ≤ s.size ∧ s.size ≤ 5) ∧
      e = .returned (.agg #[.int .i64 ep, .int .i64 fr, .int .i64 ((fr : Int) + 1), .int .i64 sq, .int .i64 ak, .string s]) ∧ Cu w' b ∧ Span b (b + 1) w w' := by
  have hbl := hc.lt
  go_enter Try.func173, Try.ntmps173
  go_wp2_with fail
  refine (l01Below_any b _ _ (hc.fr (by repeat (first | (with_reducible exact Fr.refl _) | (with_reducible assumption) | (with_reducible refine Fr.drewN ?_ _) | (with_reducible refine Fr.drew ?_) | (with_reducible refine Fr.alloc ?_ _) | (with_reducible refine Fr.setCell ?_ (by (first | (with_reducible assumption) | omega | (simp only [World.size_alloc, World.size_setCell, World.size_drew, World.heap_drewN]; omega) | (simp; done) | (simp; omega))) _) | (with_reducible refine Fr.trans ?_ (by with_reducible assumption))))) (by omega)).mono ?_
  rintro e w1 ⟨x1, hx1, _, rfl, hc1, sp1⟩
  have hx1 := hx1 (by omega)
  have hs1 := sp1.size
  simp only [World.size_alloc] at hs1
  have BR : Box w1 w.heap.size #[.int .i64 0, .int .i64 0, .int .i64 0, .int .i64 0, .int .i64 0, .string ⟨#[]⟩] 27 := (Box.new _ _ _).span sp1 (.inr (by omega))
  go_wp2_with fail
  refine (l01Below_any b _ _ hc1 (by omega)).mono ?_
  rintro e w2 ⟨x2, hx2, _, rfl, hc2, sp2⟩
  have hx2 := hx2 (by omega)
  have hs2 := sp2.size
  go_wp2_with fail
  refine (l01Below_any b _ _ hc2 (by omega)).mono ?_
  rintro e w3 ⟨x3, hx3, _, rfl, hc3, sp3⟩
  have hx3 := hx3 (by omega)
  have hs3 := sp3.size
  go_wp2_with fail
  refine (l01Below_any b _ _ hc3 (by omega)).mono ?_
  rintro e w4 ⟨x4, hx4, _, rfl, hc4, sp4⟩
  have hx4 := hx4 (by omega)
  have hs4 := sp4.size
  have BR4 := ((BR.span sp2 (.inr (by omega))).span sp3 (.inr (by omega))).span sp4 (.inr (by omega))
  have sp14 : Span b (b + 1) w w4 := ((((Span.of_fr ((Fr.refl w).alloc _)).trans sp1).trans sp2).trans sp3).trans sp4
  clear BR
  by_cases hq : 0 < x3
  · go_wp2_with fail
    refine (l01Below_any b _ _ (hc4.fr (by repeat (first | (with_reducible exact Fr.refl _) | (with_reducible assumption) | (with_reducible refine Fr.drewN ?_ _) | (with_reducible refine Fr.drew ?_) | (with_reducible refine Fr.alloc ?_ _) | (with_reducible refine Fr.setCell ?_ (by (first | (with_reducible assumption) | omega | (simp only [World.size_alloc, World.size_setCell, World.size_drew, World.heap_drewN]; omega) | (simp; done) | (simp; omega))) _) | (with_reducible refine Fr.trans ?_ (by with_reducible assumption))))) (by omega)).mono ?_
    rintro e w5 ⟨y, hy1, _, rfl, hc5, sp5⟩
    have hy1 := hy1 (by omega)
    have hs5 := sp5.size
    simp only [World.size_alloc] at hs5
    have BP5 : Box w5 w4.heap.size #[.int .i64 (1 + (x1 : Int)), .int .i64 x2, .int .i64 ((x2 : Int) + 1), .int .i64 x3, .int .i64 x4, .string ⟨#[]⟩] 27 := (Box.new _ _ _).span sp5 (.inr (by omega))
    have BR5 := (BR4.alloc _).span sp5 (.inr (by omega))
    have sp15 := (sp14.alloc' _).trans sp5
    go_wp2_with fail
    refine (l01Text_any b _ _ hc5).mono ?_
    rintro e w6 ⟨s, hs, rfl, hc6, sp6⟩
    have hs6 := sp6.size
    have hsz : 1 ≤ s.size ∧ s.size ≤ 5 := by first | omega | (rw [show IntKind.i64.wrap (1 + (y : Int)) = 1 + y from IntWalk.i64_in _ (by omega)] at hs; omega)
    have BP6 := BP5.span sp6 (.inr (by omega))
    have BR6 := BR5.span sp6 (.inr (by omega))
    have FP6 := BP6.facts
    have FR6 := BR6.facts
    have sp16 := sp15.trans sp6
    go_wp2_with fail
    refine bodyPost_ret (v := .agg #[.int .i64 (1 + (x1 : Int)), .int .i64 x2, .int .i64 ((x2 : Int) + 1), .int .i64 x3, .int .i64 x4, .string s]) (by simp [results, Try.results173, go_sem, *]) rfl ⟨1 + x1, x2, x3, x4, s, by omega, by omega, by omega, by omega, by omega, fun h => by omega, fun _ => hsz, by rw [show ((1 + x1 : Nat) : Int) = 1 + (x1 : Int) by omega], ?_, ?_⟩
    · refine Cu.span (lo := b + 1) (hi := w6.heap.size + 1) hc6 ?_ (by omega)
      repeat (first | with_reducible exact Span.refl _ _ _ | with_reducible refine Span.setb ?_ (by omega) (by omega) | with_reducible apply Span.alloc' | with_reducible apply Span.drew')
    · refine Span.above' (L := w.heap.size) (M := w6.heap.size + 1) sp16 ?_ (Nat.le_refl _)
      repeat (first | with_reducible exact Span.refl _ _ _ | with_reducible refine Span.setb ?_ (by omega) (by omega) | with_reducible apply Span.alloc' | with_reducible apply Span.drew')
  · have FR4 := BR4.facts
    go_wp2_with fail
    refine bodyPost_ret (v := .agg #[.int .i64 (1 + (x1 : Int)), .int .i64 x2, .int .i64 ((x2 : Int) + 1), .int .i64 x3, .int .i64 x4, .string ⟨#[]⟩]) (by simp [results, Try.results173, go_sem, *]) rfl ⟨1 + x1, x2, x3, x4, ⟨#[]⟩, by omega, by omega, by omega, by omega, by omega, fun h => rfl, fun h => by omega, by rw [show ((1 + x1 : Nat) : Int) = 1 + (x1 : Int) by omega], ?_, ?_⟩
    · refine Cu.span (lo := b + 1) (hi := w4.heap.size + 1) hc4 ?_ (by omega)
      repeat (first | with_reducible exact Span.refl _ _ _ | with_reducible refine Span.setb ?_ (by omega) (by omega) | with_reducible apply Span.alloc' | with_reducible apply Span.drew')
    · refine Span.above' (L := w.heap.size) (M := w4.heap.size + 1) sp14 ?_ (Nat.le_refl _)
      repeat (first | with_reducible exact Span.refl _ _ _ | with_reducible refine Span.setb ?_ (by omega) (by omega) | with_reducible apply Span.alloc' | with_reducible apply Span.drew')
end Go.Proofs.Ytnlcgffffjjojaa
