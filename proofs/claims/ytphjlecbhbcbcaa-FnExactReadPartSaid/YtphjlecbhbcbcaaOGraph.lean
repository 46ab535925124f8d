/- The struct Graph, which holds one row: the laws' helpers. (Printed by mk_types.py.) No condition but the sizes that the reading gives. -/
import Derived.Test.YtphjlecbhbcbcaaTEdge
namespace Go.Proofs.Ytphjlecbhbcbcaa
open Go.RowKit
set_option linter.unusedVariables false
set_option linter.unusedSimpArgs false

structure GraphD where
  f0 : Int
  f1 : List EdgeR
def GraphRd (w : World) (v : Value) (d : GraphD) : Prop := ∃ u, v = .agg #[.int .i64 d.f0, u] ∧ EdgesR w u d.f1
def GraphW (w : World) (lo hi : Nat) (v : Value) (d : GraphD) : Prop := ∃ ao cap, v = .agg #[.int .i64 d.f0, .slice ao d.f1.length cap] ∧ EdgesW w lo hi (.slice ao d.f1.length cap) d.f1
theorem GraphRd.fr {w w' : World} {v : Value} {d : GraphD} (h : GraphRd w v d) (hf : Fr w w') : GraphRd w' v d := by obtain ⟨u, h1, h2⟩ := h; exact ⟨u, h1, h2.fr hf⟩
theorem GraphW.fr {w w' : World} {lo hi : Nat} {v : Value} {d : GraphD} (h : GraphW w lo hi v d) (hf : Fr w w') : GraphW w' lo hi v d := by obtain ⟨a, c, h1, h2⟩ := h; exact ⟨a, c, h1, h2.fr hf⟩
theorem GraphW.rd {w : World} {lo hi : Nat} {v : Value} {d : GraphD} (h : GraphW w lo hi v d) : GraphRd w v d := by obtain ⟨a, c, h1, h2⟩ := h; exact ⟨_, h1, h2.rd⟩
theorem GraphW.span {w w' : World} {lo hi : Nat} {v : Value} {d : GraphD} (h : GraphW w lo hi v d) {a b : Nat} (s : Span a b w w') (hd : hi ≤ a ∨ b ≤ lo) : GraphW w' lo hi v d := by obtain ⟨x, c, h1, h2⟩ := h; exact ⟨x, c, h1, h2.span s hd⟩
theorem GraphW.val {w : World} {lo hi : Nat} {v : Value} {d : GraphD} (h : GraphW w lo hi v d) : ∃ ao cap, v = .agg #[.int .i64 d.f0, .slice ao d.f1.length cap] := by obtain ⟨a, c, h1, h2⟩ := h; exact ⟨a, c, h1⟩
set_option maxHeartbeats 1000000 in
theorem toGraph_w (v : Value) (d : GraphD) (w : World) (hv : GraphRd w v d) (hn : d.f1.length ≤ 1048576) :
    Calls Try.prog 30 #[v] w fun e w' => ∃ ao cap, e = .returned (.agg #[.int .i64 d.f0, .slice ao d.f1.length cap]) ∧ GraphW w' w.heap.size w'.heap.size (.agg #[.int .i64 d.f0, .slice ao d.f1.length cap]) d ∧ Fr w w' := by
  obtain ⟨u, rfl, hu⟩ := hv
  go_enter Try.func30, Try.ntmps30
  go_wp2_with fail
  refine (toEdgeS_w _ d.f1 _ (hu.fr (by repeat (first | (with_reducible exact Fr.refl _) | (with_reducible assumption) | (with_reducible refine Fr.drewN ?_ _) | (with_reducible refine Fr.drew ?_) | (with_reducible refine Fr.alloc ?_ _) | (with_reducible refine Fr.setCell ?_ (by (first | (with_reducible assumption) | omega | (simp only [World.size_alloc, World.size_setCell, World.size_drew, World.heap_drewN]; omega) | (simp; done) | (simp; omega))) _) | (with_reducible refine Fr.trans ?_ (by with_reducible assumption))))) hn).mono ?_
  rintro e w1 ⟨ao, ca, rfl, ho, hf⟩
  have k0 := hf.blk w.heap.size (by (first | (with_reducible assumption) | omega | (simp only [World.size_alloc, World.size_setCell, World.size_drew, World.heap_drewN]; omega) | (simp; done) | (simp; omega))); have k1 := hf.blk (w.heap.size + 1) (by (first | (with_reducible assumption) | omega | (simp only [World.size_alloc, World.size_setCell, World.size_drew, World.heap_drewN]; omega) | (simp; done) | (simp; omega))); have k2 := hf.blk (w.heap.size + 1 + 1) (by (first | (with_reducible assumption) | omega | (simp only [World.size_alloc, World.size_setCell, World.size_drew, World.heap_drewN]; omega) | (simp; done) | (simp; omega))); have z1 := hf.size; (try simp only [World.size_alloc, World.size_setCell, World.size_drew] at z1)
  go_wp2_with fail
  refine bodyPost_ret (v := .agg #[.int .i64 d.f0, .slice ao d.f1.length ca]) (by simp [results, Try.results30, go_sem, *]) rfl ⟨_, _, rfl, ?_, by repeat (first | (with_reducible exact Fr.refl _) | (with_reducible assumption) | (with_reducible refine Fr.drewN ?_ _) | (with_reducible refine Fr.drew ?_) | (with_reducible refine Fr.alloc ?_ _) | (with_reducible refine Fr.setCell ?_ (by (first | (with_reducible assumption) | omega | (simp only [World.size_alloc, World.size_setCell, World.size_drew, World.heap_drewN]; omega) | (simp; done) | (simp; omega))) _) | (with_reducible refine Fr.trans ?_ (by with_reducible assumption)))⟩
  exact ⟨ao, ca, rfl, OwW.mono (OwW.ab ho (by repeat (first | (with_reducible exact Ab.refl _ _) | (with_reducible assumption) | (with_reducible refine Ab.drewN ?_ _) | (with_reducible refine Ab.drew ?_) | (with_reducible refine Ab.alloc ?_ _) | (with_reducible refine Ab.setCell ?_ (by (first | (with_reducible assumption) | omega | (simp only [World.size_alloc, World.size_setCell, World.size_drew, World.heap_drewN]; omega) | (simp; done) | (simp; omega))) _) | (with_reducible refine Ab.fr ?_ (by with_reducible assumption))))) (by (first | (with_reducible assumption) | omega | (simp only [World.size_alloc, World.size_setCell, World.size_drew, World.heap_drewN]; omega) | (simp; done) | (simp; omega))) (by (first | (with_reducible assumption) | omega | (simp only [World.size_alloc, World.size_setCell, World.size_drew, World.heap_drewN]; omega) | (simp; done) | (simp; omega)))⟩
set_option maxHeartbeats 1000000 in
theorem eqGraph_same (a b : Value) (d : GraphD) (w : World) (ha : GraphRd w a d) (hb : GraphRd w b d) :
    Calls Try.prog 33 #[a, b] w fun e w' => e = .returned (.bool true) ∧ Fr w w' := by
  obtain ⟨u, rfl, hu⟩ := ha
  obtain ⟨v, rfl, hv⟩ := hb
  go_enter Try.func33, Try.ntmps33
  go_wp2_with (go_at_call 95; refine (eqEdgeS_same _ _ d.f1 _ (hu.fr (by repeat (first | (with_reducible exact Fr.refl _) | (with_reducible assumption) | (with_reducible refine Fr.drewN ?_ _) | (with_reducible refine Fr.drew ?_) | (with_reducible refine Fr.alloc ?_ _) | (with_reducible refine Fr.setCell ?_ (by (first | (with_reducible assumption) | omega | (simp only [World.size_alloc, World.size_setCell, World.size_drew, World.heap_drewN]; omega) | (simp; done) | (simp; omega))) _) | (with_reducible refine Fr.trans ?_ (by with_reducible assumption))))) (hv.fr (by repeat (first | (with_reducible exact Fr.refl _) | (with_reducible assumption) | (with_reducible refine Fr.drewN ?_ _) | (with_reducible refine Fr.drew ?_) | (with_reducible refine Fr.alloc ?_ _) | (with_reducible refine Fr.setCell ?_ (by (first | (with_reducible assumption) | omega | (simp only [World.size_alloc, World.size_setCell, World.size_drew, World.heap_drewN]; omega) | (simp; done) | (simp; omega))) _) | (with_reducible refine Fr.trans ?_ (by with_reducible assumption)))))).mono ?_; rintro e w1 ⟨rfl, hf⟩; have z1 := hf.size; (try simp only [World.size_alloc, World.size_setCell, World.size_drew] at z1); have k0 := hf.blk w.heap.size (by (first | (with_reducible assumption) | omega | (simp only [World.size_alloc, World.size_setCell, World.size_drew, World.heap_drewN]; omega) | (simp; done) | (simp; omega))); have k1 := hf.blk (w.heap.size + 1) (by (first | (with_reducible assumption) | omega | (simp only [World.size_alloc, World.size_setCell, World.size_drew, World.heap_drewN]; omega) | (simp; done) | (simp; omega))))
  go_ret
  exact ⟨rfl, by repeat (first | (with_reducible exact Fr.refl _) | (with_reducible assumption) | (with_reducible refine Fr.drewN ?_ _) | (with_reducible refine Fr.drew ?_) | (with_reducible refine Fr.alloc ?_ _) | (with_reducible refine Fr.setCell ?_ (by (first | (with_reducible assumption) | omega | (simp only [World.size_alloc, World.size_setCell, World.size_drew, World.heap_drewN]; omega) | (simp; done) | (simp; omega))) _) | (with_reducible refine Fr.trans ?_ (by with_reducible assumption)))⟩
def GraphD.bulk (d : GraphD) : Nat := (d.f1.length)
def GraphD.okSize (d : GraphD) : Prop := True
def GraphD.cnt (d : GraphD) : Nat := 3 * d.f1.length
set_option maxHeartbeats 1000000 in
set_option maxRecDepth 100000 in
theorem szGraph_w (v : Value) (d : GraphD) (left : Int) (w : World) (hv : GraphRd w v d) (hs : d.okSize) (h0 : 0 ≤ left) (h1 : left ≤ 1048576) :
    Calls Try.prog 28 #[v, .int .i64 left] w fun e w' => e = .returned (.int .i64 (szR left d.bulk)) ∧ Fr w w' := by
  obtain ⟨u, rfl, hu⟩ := hv
  unfold GraphD.okSize at hs
  by_cases hl : (d.bulk : Int) ≤ left
  · have hr := szR_ok hl
    go_enter Try.func28, Try.ntmps28
    go_wp2_with (go_at_call 88; refine (szEdgeS_any _ d.f1 _ _ (hu.fr (by repeat (first | (with_reducible exact Fr.refl _) | (with_reducible assumption) | (with_reducible refine Fr.drewN ?_ _) | (with_reducible refine Fr.drew ?_) | (with_reducible refine Fr.alloc ?_ _) | (with_reducible refine Fr.setCell ?_ (by (first | (with_reducible assumption) | omega | (simp only [World.size_alloc, World.size_setCell, World.size_drew, World.heap_drewN]; omega) | (simp; done) | (simp; omega))) _) | (with_reducible refine Fr.trans ?_ (by with_reducible assumption))))) (by omega) (by omega)).mono ?_; rintro e w1 ⟨rfl, hf⟩; subst hf)
    all_goals go_ret
    all_goals exact ⟨ret_int (by first | rfl | exact hr.symm | (rw [hr]; omega) | (exfalso; unfold GraphD.bulk at *; omega)), by repeat (first | (with_reducible exact Fr.refl _) | (with_reducible assumption) | (with_reducible refine Fr.drewN ?_ _) | (with_reducible refine Fr.drew ?_) | (with_reducible refine Fr.alloc ?_ _) | (with_reducible refine Fr.setCell ?_ (by (first | (with_reducible assumption) | omega | (simp only [World.size_alloc, World.size_setCell, World.size_drew, World.heap_drewN]; omega) | (simp; done) | (simp; omega))) _) | (with_reducible refine Fr.trans ?_ (by with_reducible assumption)))⟩
  · have hr := szR_no hl
    go_enter Try.func28, Try.ntmps28
    go_wp2_with (go_at_call 88; refine (szEdgeS_any _ d.f1 _ _ (hu.fr (by repeat (first | (with_reducible exact Fr.refl _) | (with_reducible assumption) | (with_reducible refine Fr.drewN ?_ _) | (with_reducible refine Fr.drew ?_) | (with_reducible refine Fr.alloc ?_ _) | (with_reducible refine Fr.setCell ?_ (by (first | (with_reducible assumption) | omega | (simp only [World.size_alloc, World.size_setCell, World.size_drew, World.heap_drewN]; omega) | (simp; done) | (simp; omega))) _) | (with_reducible refine Fr.trans ?_ (by with_reducible assumption))))) (by omega) (by omega)).mono ?_; rintro e w1 ⟨rfl, hf⟩; subst hf)
    all_goals go_ret
    all_goals exact ⟨ret_int (by first | rfl | exact hr.symm | (rw [hr]; omega) | (exfalso; unfold GraphD.bulk at *; omega)), by repeat (first | (with_reducible exact Fr.refl _) | (with_reducible assumption) | (with_reducible refine Fr.drewN ?_ _) | (with_reducible refine Fr.drew ?_) | (with_reducible refine Fr.alloc ?_ _) | (with_reducible refine Fr.setCell ?_ (by (first | (with_reducible assumption) | omega | (simp only [World.size_alloc, World.size_setCell, World.size_drew, World.heap_drewN]; omega) | (simp; done) | (simp; omega))) _) | (with_reducible refine Fr.trans ?_ (by with_reducible assumption)))⟩
def GraphD.mkd (d : GraphD) (k : Int) : GraphD := { d with f1 := mkEdges k d.f1.length }
theorem GraphD.mkd_cnt (d : GraphD) (k : Int) : (d.mkd k).cnt = d.cnt := by simp [GraphD.cnt, GraphD.mkd, mkEdges_length]
set_option maxHeartbeats 1000000 in
theorem markGraph_w (v : Value) (d : GraphD) (k : Int) (lo hi : Nat) (w : World) (ha : GraphW w lo hi v d) (hh : hi ≤ w.heap.size) (h0 : 0 < k) (h1 : k + d.cnt ≤ 1073741824) :
    Calls Try.prog 34 #[v, .int .i64 k] w fun e w' => e = .returned (.int .i64 (k + d.cnt)) ∧ GraphW w' lo hi v (d.mkd k) ∧ Span lo hi w w' := by
  unfold GraphD.cnt at h1 ⊢
  obtain ⟨ao, cap, rfl, hu⟩ := ha
  go_enter Try.func34, Try.ntmps34
  go_wp2_with fail
  refine (markEdgeS_w _ d.f1 k lo hi _ (hu.fr (by repeat (first | (with_reducible exact Fr.refl _) | (with_reducible assumption) | (with_reducible refine Fr.drewN ?_ _) | (with_reducible refine Fr.drew ?_) | (with_reducible refine Fr.alloc ?_ _) | (with_reducible refine Fr.setCell ?_ (by (first | (with_reducible assumption) | omega | (simp only [World.size_alloc, World.size_setCell, World.size_drew, World.heap_drewN]; omega) | (simp; done) | (simp; omega))) _) | (with_reducible refine Fr.trans ?_ (by with_reducible assumption))))) h0 (by omega)).mono ?_
  rintro e w1 ⟨rfl, ho, sp⟩
  have B := (Box.new w _ _).span sp (.inr hh)
  have F := B.facts
  go_wp2_with fail
  go_ret
  exact ⟨ret_int (by simp), ⟨ao, cap, by simp [GraphD.mkd, mkEdges_length], by simpa [GraphD.mkd, mkEdges_length] using ho⟩, (Span.of_fr (by repeat (first | (with_reducible exact Fr.refl _) | (with_reducible assumption) | (with_reducible refine Fr.drewN ?_ _) | (with_reducible refine Fr.drew ?_) | (with_reducible refine Fr.alloc ?_ _) | (with_reducible refine Fr.setCell ?_ (by (first | (with_reducible assumption) | omega | (simp only [World.size_alloc, World.size_setCell, World.size_drew, World.heap_drewN]; omega) | (simp; done) | (simp; omega))) _) | (with_reducible refine Fr.trans ?_ (by with_reducible assumption))))).trans sp⟩
set_option maxHeartbeats 1000000 in
theorem heldGraph_w (v : Value) (d : GraphD) (k : Int) (w : World) (ha : GraphRd w v (d.mkd k)) (h0 : 0 < k) (h1 : k + d.cnt ≤ 1073741824) :
    Calls Try.prog 49 #[v, .int .i64 k] w fun e w' => e = .returned (.int .i64 (k + d.cnt)) ∧ Fr w w' := by
  unfold GraphD.cnt at h1 ⊢
  obtain ⟨u, rfl, hu⟩ := ha
  go_enter Try.func49, Try.ntmps49
  go_wp2_with fail
  refine (heldEdgeS_w _ k d.f1.length _ (hu.fr (by repeat (first | (with_reducible exact Fr.refl _) | (with_reducible assumption) | (with_reducible refine Fr.drewN ?_ _) | (with_reducible refine Fr.drew ?_) | (with_reducible refine Fr.alloc ?_ _) | (with_reducible refine Fr.setCell ?_ (by (first | (with_reducible assumption) | omega | (simp only [World.size_alloc, World.size_setCell, World.size_drew, World.heap_drewN]; omega) | (simp; done) | (simp; omega))) _) | (with_reducible refine Fr.trans ?_ (by with_reducible assumption))))) h0 (by omega)).mono ?_
  rintro e w1 ⟨rfl, hf⟩
  go_wp2_with fail
  go_ret
  exact ⟨ret_int (by simp), by repeat (first | (with_reducible exact Fr.refl _) | (with_reducible assumption) | (with_reducible refine Fr.drewN ?_ _) | (with_reducible refine Fr.drew ?_) | (with_reducible refine Fr.alloc ?_ _) | (with_reducible refine Fr.setCell ?_ (by (first | (with_reducible assumption) | omega | (simp only [World.size_alloc, World.size_setCell, World.size_drew, World.heap_drewN]; omega) | (simp; done) | (simp; omega))) _) | (with_reducible refine Fr.trans ?_ (by with_reducible assumption)))⟩
end Go.Proofs.Ytphjlecbhbcbcaa
