/- The reference's drawn packet, right or not (spec.l18AnyPacket). No condition but the size of the draw. (Printed by mk_draw5.py.) -/
import Derived.Test.YtnlcgffffjjojaaDraw4
import Derived.Test.YtnlcgffffjjojaaSPacket
namespace Go.Proofs.Ytnlcgffffjjojaa
open Go.RowKit
set_option linter.unusedVariables false
set_option linter.unusedSimpArgs false

set_option maxHeartbeats 8000000 in
set_option maxRecDepth 100000 in
theorem l18AnyPacket_any (b : Nat) (w : World) (hc : Cu w b) :
    Calls Try.prog 107 #[.pointer (some ⟨b, 0, none⟩)] w fun e w' => ∃ p : PacketR, p.f5.size ≤ 5 ∧ e = .returned (.agg #[.int .i64 p.f0, .int .i64 p.f1, .int .i64 p.f2, .int .i64 p.f3, .int .i64 p.f4, .string p.f5]) ∧ Cu w' b ∧ Span b (b + 1) w w' := by
  have hbl := hc.lt
  go_enter Try.func107, Try.ntmps107
  go_wp2_with fail
  refine (l01Below_any b _ _ (hc.fr (by repeat (first | (with_reducible exact Fr.refl _) | (with_reducible assumption) | (with_reducible refine Fr.drewN ?_ _) | (with_reducible refine Fr.drew ?_) | (with_reducible refine Fr.alloc ?_ _) | (with_reducible refine Fr.setCell ?_ (by (first | (with_reducible assumption) | omega | (simp only [World.size_alloc, World.size_setCell, World.size_drew, World.heap_drewN]; omega) | (simp; done) | (simp; omega))) _) | (with_reducible refine Fr.trans ?_ (by with_reducible assumption))))) (by omega)).mono ?_
  rintro e w1 ⟨x1, hx1, _, rfl, hc1, sp1⟩
  have hx1 := hx1 (by omega)
  have hs1 := sp1.size
  simp only [World.size_alloc] at hs1
  have BR : Box w1 w.heap.size #[.int .i64 0, .int .i64 0, .int .i64 0, .int .i64 0, .int .i64 0, .string ⟨#[]⟩] 27 := (Box.new _ _ _).span sp1 (.inr (by omega))
  go_wp2_with fail
  refine (l01Below_any b _ _ hc1 (by omega)).mono ?_
  rintro e w2 ⟨x2, hx2, _, rfl, hc2, sp2⟩
  have hx2 := hx2 (by omega)
  have hs2 := sp2.size
  go_wp2_with fail
  refine (l18Packet_any b _ hc2).mono ?_
  rintro e w3 ⟨ep, fr, sq, ak, s, _, _, _, _, _, hz0, hz1, rfl, hc3, sp3⟩
  have hsz : s.size ≤ 5 := by rcases Nat.eq_zero_or_pos sq with h | h; (have := hz0 h; omega); exact (hz1 h).2
  clear hz0 hz1
  have hs3 := sp3.size
  have BR3 := (BR.span sp2 (.inr (by omega))).span sp3 (.inr (by omega))
  have FR3 := BR3.facts
  have sp13 : Span b (b + 1) w w3 := (((Span.of_fr ((Fr.refl w).alloc _)).trans sp1).trans sp2).trans sp3
  clear BR
  have hcase : x1 = 0 ∨ x1 = 1 ∨ x1 = 2 ∨ x1 = 3 ∨ x1 = 4 ∨ 4 < x1 := by omega
  rcases hcase with hk | hk | hk | hk | hk | hk
  · subst hk
    have hm : x2 % 3 = 0 ∨ x2 % 3 = 1 ∨ x2 % 3 = 2 := by omega
    rcases hm with hm | hm | hm
    · have hmi : (x2 : Int) % 3 = 0 := by omega
      go_wp2_with fail
      refine bodyPost_ret (v := .agg #[.int .i64 0, .int .i64 (fr : Int), .int .i64 ((fr : Int) + 1), .int .i64 (sq : Int), .int .i64 (ak : Int), .string s]) (by simp [results, Try.results107, go_sem, *]) rfl ⟨⟨0, (fr : Int), ((fr : Int) + 1), (sq : Int), (ak : Int), s⟩, hsz, rfl, ?_, ?_⟩
      · refine Cu.span (lo := b + 1) (hi := w3.heap.size + 1) hc3 ?_ (by omega)
        repeat (first | with_reducible exact Span.refl _ _ _ | with_reducible refine Span.setb ?_ (by omega) (by omega) | with_reducible apply Span.alloc' | with_reducible apply Span.drew')
      · refine Span.above' (L := w.heap.size) (M := w3.heap.size + 1) sp13 ?_ (Nat.le_refl _)
        repeat (first | with_reducible exact Span.refl _ _ _ | with_reducible refine Span.setb ?_ (by omega) (by omega) | with_reducible apply Span.alloc' | with_reducible apply Span.drew')
    · have hmi : (x2 : Int) % 3 = 1 := by omega
      go_wp2_with fail
      refine bodyPost_ret (v := .agg #[.int .i64 100000, .int .i64 (fr : Int), .int .i64 ((fr : Int) + 1), .int .i64 (sq : Int), .int .i64 (ak : Int), .string s]) (by simp [results, Try.results107, go_sem, *]) rfl ⟨⟨100000, (fr : Int), ((fr : Int) + 1), (sq : Int), (ak : Int), s⟩, hsz, rfl, ?_, ?_⟩
      · refine Cu.span (lo := b + 1) (hi := w3.heap.size + 1) hc3 ?_ (by omega)
        repeat (first | with_reducible exact Span.refl _ _ _ | with_reducible refine Span.setb ?_ (by omega) (by omega) | with_reducible apply Span.alloc' | with_reducible apply Span.drew')
      · refine Span.above' (L := w.heap.size) (M := w3.heap.size + 1) sp13 ?_ (Nat.le_refl _)
        repeat (first | with_reducible exact Span.refl _ _ _ | with_reducible refine Span.setb ?_ (by omega) (by omega) | with_reducible apply Span.alloc' | with_reducible apply Span.drew')
    · have hmi : (x2 : Int) % 3 = 2 := by omega
      go_wp2_with fail
      refine bodyPost_ret (v := .agg #[.int .i64 100001, .int .i64 (fr : Int), .int .i64 ((fr : Int) + 1), .int .i64 (sq : Int), .int .i64 (ak : Int), .string s]) (by simp [results, Try.results107, go_sem, *]) rfl ⟨⟨100001, (fr : Int), ((fr : Int) + 1), (sq : Int), (ak : Int), s⟩, hsz, rfl, ?_, ?_⟩
      · refine Cu.span (lo := b + 1) (hi := w3.heap.size + 1) hc3 ?_ (by omega)
        repeat (first | with_reducible exact Span.refl _ _ _ | with_reducible refine Span.setb ?_ (by omega) (by omega) | with_reducible apply Span.alloc' | with_reducible apply Span.drew')
      · refine Span.above' (L := w.heap.size) (M := w3.heap.size + 1) sp13 ?_ (Nat.le_refl _)
        repeat (first | with_reducible exact Span.refl _ _ _ | with_reducible refine Span.setb ?_ (by omega) (by omega) | with_reducible apply Span.alloc' | with_reducible apply Span.drew')
  · subst hk
    have hwx : IntKind.i64.wrap ((x2 : Int) % 11 - 1) = (x2 : Int) % 11 - 1 := IntWalk.i64_in _ (by omega)
    go_wp2_with fail
    refine bodyPost_ret (v := .agg #[.int .i64 (ep : Int), .int .i64 (fr : Int), .int .i64 ((x2 : Int) % 11 - 1), .int .i64 (sq : Int), .int .i64 (ak : Int), .string s]) (by simp [results, Try.results107, go_sem, *]) rfl ⟨⟨(ep : Int), (fr : Int), ((x2 : Int) % 11 - 1), (sq : Int), (ak : Int), s⟩, hsz, rfl, ?_, ?_⟩
    · refine Cu.span (lo := b + 1) (hi := w3.heap.size + 1) hc3 ?_ (by omega)
      repeat (first | with_reducible exact Span.refl _ _ _ | with_reducible refine Span.setb ?_ (by omega) (by omega) | with_reducible apply Span.alloc' | with_reducible apply Span.drew')
    · refine Span.above' (L := w.heap.size) (M := w3.heap.size + 1) sp13 ?_ (Nat.le_refl _)
      repeat (first | with_reducible exact Span.refl _ _ _ | with_reducible refine Span.setb ?_ (by omega) (by omega) | with_reducible apply Span.alloc' | with_reducible apply Span.drew')
  · subst hk
    have hm : x2 % 3 = 0 ∨ x2 % 3 = 1 ∨ x2 % 3 = 2 := by omega
    rcases hm with hm | hm | hm
    · have hmi : (x2 : Int) % 3 = 0 := by omega
      go_wp2_with fail
      refine bodyPost_ret (v := .agg #[.int .i64 (ep : Int), .int .i64 (fr : Int), .int .i64 ((fr : Int) + 1), .int .i64 (-1), .int .i64 (ak : Int), .string s]) (by simp [results, Try.results107, go_sem, *]) rfl ⟨⟨(ep : Int), (fr : Int), ((fr : Int) + 1), (-1), (ak : Int), s⟩, hsz, rfl, ?_, ?_⟩
      · refine Cu.span (lo := b + 1) (hi := w3.heap.size + 1) hc3 ?_ (by omega)
        repeat (first | with_reducible exact Span.refl _ _ _ | with_reducible refine Span.setb ?_ (by omega) (by omega) | with_reducible apply Span.alloc' | with_reducible apply Span.drew')
      · refine Span.above' (L := w.heap.size) (M := w3.heap.size + 1) sp13 ?_ (Nat.le_refl _)
        repeat (first | with_reducible exact Span.refl _ _ _ | with_reducible refine Span.setb ?_ (by omega) (by omega) | with_reducible apply Span.alloc' | with_reducible apply Span.drew')
    · have hmi : (x2 : Int) % 3 = 1 := by omega
      go_wp2_with fail
      refine bodyPost_ret (v := .agg #[.int .i64 (ep : Int), .int .i64 (fr : Int), .int .i64 ((fr : Int) + 1), .int .i64 200, .int .i64 (ak : Int), .string s]) (by simp [results, Try.results107, go_sem, *]) rfl ⟨⟨(ep : Int), (fr : Int), ((fr : Int) + 1), 200, (ak : Int), s⟩, hsz, rfl, ?_, ?_⟩
      · refine Cu.span (lo := b + 1) (hi := w3.heap.size + 1) hc3 ?_ (by omega)
        repeat (first | with_reducible exact Span.refl _ _ _ | with_reducible refine Span.setb ?_ (by omega) (by omega) | with_reducible apply Span.alloc' | with_reducible apply Span.drew')
      · refine Span.above' (L := w.heap.size) (M := w3.heap.size + 1) sp13 ?_ (Nat.le_refl _)
        repeat (first | with_reducible exact Span.refl _ _ _ | with_reducible refine Span.setb ?_ (by omega) (by omega) | with_reducible apply Span.alloc' | with_reducible apply Span.drew')
    · have hmi : (x2 : Int) % 3 = 2 := by omega
      go_wp2_with fail
      refine bodyPost_ret (v := .agg #[.int .i64 (ep : Int), .int .i64 (fr : Int), .int .i64 ((fr : Int) + 1), .int .i64 201, .int .i64 (ak : Int), .string s]) (by simp [results, Try.results107, go_sem, *]) rfl ⟨⟨(ep : Int), (fr : Int), ((fr : Int) + 1), 201, (ak : Int), s⟩, hsz, rfl, ?_, ?_⟩
      · refine Cu.span (lo := b + 1) (hi := w3.heap.size + 1) hc3 ?_ (by omega)
        repeat (first | with_reducible exact Span.refl _ _ _ | with_reducible refine Span.setb ?_ (by omega) (by omega) | with_reducible apply Span.alloc' | with_reducible apply Span.drew')
      · refine Span.above' (L := w.heap.size) (M := w3.heap.size + 1) sp13 ?_ (Nat.le_refl _)
        repeat (first | with_reducible exact Span.refl _ _ _ | with_reducible refine Span.setb ?_ (by omega) (by omega) | with_reducible apply Span.alloc' | with_reducible apply Span.drew')
  · subst hk
    have hm : x2 % 3 = 0 ∨ x2 % 3 = 1 ∨ x2 % 3 = 2 := by omega
    rcases hm with hm | hm | hm
    · have hmi : (x2 : Int) % 3 = 0 := by omega
      go_wp2_with fail
      refine bodyPost_ret (v := .agg #[.int .i64 (ep : Int), .int .i64 (fr : Int), .int .i64 ((fr : Int) + 1), .int .i64 (sq : Int), .int .i64 (-1), .string s]) (by simp [results, Try.results107, go_sem, *]) rfl ⟨⟨(ep : Int), (fr : Int), ((fr : Int) + 1), (sq : Int), (-1), s⟩, hsz, rfl, ?_, ?_⟩
      · refine Cu.span (lo := b + 1) (hi := w3.heap.size + 1) hc3 ?_ (by omega)
        repeat (first | with_reducible exact Span.refl _ _ _ | with_reducible refine Span.setb ?_ (by omega) (by omega) | with_reducible apply Span.alloc' | with_reducible apply Span.drew')
      · refine Span.above' (L := w.heap.size) (M := w3.heap.size + 1) sp13 ?_ (Nat.le_refl _)
        repeat (first | with_reducible exact Span.refl _ _ _ | with_reducible refine Span.setb ?_ (by omega) (by omega) | with_reducible apply Span.alloc' | with_reducible apply Span.drew')
    · have hmi : (x2 : Int) % 3 = 1 := by omega
      go_wp2_with fail
      refine bodyPost_ret (v := .agg #[.int .i64 (ep : Int), .int .i64 (fr : Int), .int .i64 ((fr : Int) + 1), .int .i64 (sq : Int), .int .i64 200, .string s]) (by simp [results, Try.results107, go_sem, *]) rfl ⟨⟨(ep : Int), (fr : Int), ((fr : Int) + 1), (sq : Int), 200, s⟩, hsz, rfl, ?_, ?_⟩
      · refine Cu.span (lo := b + 1) (hi := w3.heap.size + 1) hc3 ?_ (by omega)
        repeat (first | with_reducible exact Span.refl _ _ _ | with_reducible refine Span.setb ?_ (by omega) (by omega) | with_reducible apply Span.alloc' | with_reducible apply Span.drew')
      · refine Span.above' (L := w.heap.size) (M := w3.heap.size + 1) sp13 ?_ (Nat.le_refl _)
        repeat (first | with_reducible exact Span.refl _ _ _ | with_reducible refine Span.setb ?_ (by omega) (by omega) | with_reducible apply Span.alloc' | with_reducible apply Span.drew')
    · have hmi : (x2 : Int) % 3 = 2 := by omega
      go_wp2_with fail
      refine bodyPost_ret (v := .agg #[.int .i64 (ep : Int), .int .i64 (fr : Int), .int .i64 ((fr : Int) + 1), .int .i64 (sq : Int), .int .i64 201, .string s]) (by simp [results, Try.results107, go_sem, *]) rfl ⟨⟨(ep : Int), (fr : Int), ((fr : Int) + 1), (sq : Int), 201, s⟩, hsz, rfl, ?_, ?_⟩
      · refine Cu.span (lo := b + 1) (hi := w3.heap.size + 1) hc3 ?_ (by omega)
        repeat (first | with_reducible exact Span.refl _ _ _ | with_reducible refine Span.setb ?_ (by omega) (by omega) | with_reducible apply Span.alloc' | with_reducible apply Span.drew')
      · refine Span.above' (L := w.heap.size) (M := w3.heap.size + 1) sp13 ?_ (Nat.le_refl _)
        repeat (first | with_reducible exact Span.refl _ _ _ | with_reducible refine Span.setb ?_ (by omega) (by omega) | with_reducible apply Span.alloc' | with_reducible apply Span.drew')
  · subst hk
    go_wp2_with fail
    refine bodyPost_ret (v := .agg #[.int .i64 (ep : Int), .int .i64 (fr : Int), .int .i64 ((fr : Int) + 1), .int .i64 (sq : Int), .int .i64 (ak : Int), .string ⟨#[]⟩]) (by simp [results, Try.results107, go_sem, *]) rfl ⟨⟨(ep : Int), (fr : Int), ((fr : Int) + 1), (sq : Int), (ak : Int), ⟨#[]⟩⟩, Nat.zero_le 5, rfl, ?_, ?_⟩
    · refine Cu.span (lo := b + 1) (hi := w3.heap.size + 1) hc3 ?_ (by omega)
      repeat (first | with_reducible exact Span.refl _ _ _ | with_reducible refine Span.setb ?_ (by omega) (by omega) | with_reducible apply Span.alloc' | with_reducible apply Span.drew')
    · refine Span.above' (L := w.heap.size) (M := w3.heap.size + 1) sp13 ?_ (Nat.le_refl _)
      repeat (first | with_reducible exact Span.refl _ _ _ | with_reducible refine Span.setb ?_ (by omega) (by omega) | with_reducible apply Span.alloc' | with_reducible apply Span.drew')
  · have h0 : ((x1 : Int) == 0) = false := by rw [beq_eq_false_iff_ne]; omega
    have h1 : ((x1 : Int) == 1) = false := by rw [beq_eq_false_iff_ne]; omega
    have h2 : ((x1 : Int) == 2) = false := by rw [beq_eq_false_iff_ne]; omega
    have h3 : ((x1 : Int) == 3) = false := by rw [beq_eq_false_iff_ne]; omega
    have h4 : ((x1 : Int) == 4) = false := by rw [beq_eq_false_iff_ne]; omega
    go_wp2_with fail
    refine bodyPost_ret (v := .agg #[.int .i64 (ep : Int), .int .i64 (fr : Int), .int .i64 ((fr : Int) + 1), .int .i64 (sq : Int), .int .i64 (ak : Int), .string s]) (by simp [results, Try.results107, go_sem, *]) rfl ⟨⟨(ep : Int), (fr : Int), ((fr : Int) + 1), (sq : Int), (ak : Int), s⟩, hsz, rfl, ?_, ?_⟩
    · refine Cu.span (lo := b + 1) (hi := w3.heap.size + 1) hc3 ?_ (by omega)
      repeat (first | with_reducible exact Span.refl _ _ _ | with_reducible refine Span.setb ?_ (by omega) (by omega) | with_reducible apply Span.alloc' | with_reducible apply Span.drew')
    · refine Span.above' (L := w.heap.size) (M := w3.heap.size + 1) sp13 ?_ (Nat.le_refl _)
      repeat (first | with_reducible exact Span.refl _ _ _ | with_reducible refine Span.setb ?_ (by omega) (by omega) | with_reducible apply Span.alloc' | with_reducible apply Span.drew')
end Go.Proofs.Ytnlcgffffjjojaa
