/- Texts in one: TEdge, OGraph, Gr, Nest. -/
import Derived.Test.YtmdgdnkllclpcaaGreatGSEdge
import Derived.Test.YtmdgdnkllclpcaaGreatGApp
import Derived.Deep.RegionHeld3
/- Marks of slices of Edge; their interface. (Printed by mk_types.py.) No condition but the sizes that the reading gives. -/
namespace Go.Proofs.YtmdgdnkllclpcaaGreat
open Go.RowKit
set_option linter.unusedVariables false
set_option linter.unusedSimpArgs false

theorem num_u8 (x : Int) (h : 0 ≤ x) : ((UInt8.ofNat x.toNat).toNat : Int) = x % 256 := by simp; omega
def mkEdge (k : Int) : EdgeR := ⟨k, UInt8.ofNat (k + 1).toNat, (k + 1 + 1)⟩
def mkEdges (k : Int) (n : Nat) : List EdgeR := (List.range n).map fun i : Nat => mkEdge (k + 3 * i)
theorem mkEdges_length (k : Int) (n : Nat) : (mkEdges k n).length = n := by simp [mkEdges]
theorem mkEdges_at (k : Int) (n j : Nat) (h : j < n) : edgeAt (mkEdges k n) j = mkEdge (k + 3 * j) := by simp [mkEdges, edgeAt, List.getD, h]
theorem edge_oneCells (xs : List EdgeR) : ∀ u ∈ xs.flatMap EdgeR.cells, u.oneCell' = true := by
  intro u hu
  obtain ⟨x, _, h⟩ := List.mem_flatMap.1 hu
  simp only [EdgeR.cells, List.mem_cons, List.not_mem_nil, or_false] at h
  rcases h with rfl | rfl | rfl <;> rfl
def EdgesW (w : World) (lo hi : Nat) (v : Value) (xs : List EdgeR) : Prop := OwW w lo hi 184 3 v xs.length (xs.flatMap EdgeR.cells)
theorem EdgesW.rd {w : World} {lo hi : Nat} {v : Value} {xs : List EdgeR} (h : EdgesW w lo hi v xs) : EdgesR w v xs := OwW.rd h
theorem EdgesW.val {w : World} {lo hi : Nat} {v : Value} {xs : List EdgeR} (h : EdgesW w lo hi v xs) : ∃ ao cap, v = .slice ao xs.length cap := OwW.val h
theorem EdgesW.fr {w w' : World} {lo hi : Nat} {v : Value} {xs : List EdgeR} (h : EdgesW w lo hi v xs) (hf : Fr w w') : EdgesW w' lo hi v xs := OwW.fr h hf
theorem EdgesW.span {w w' : World} {lo hi : Nat} {v : Value} {xs : List EdgeR} (h : EdgesW w lo hi v xs) {a b : Nat} (s : Span a b w w') (hd : hi ≤ a ∨ b ≤ lo) : EdgesW w' lo hi v xs := OwW.span h s hd
theorem EdgesW.nil (w : World) (lo hi : Nat) : EdgesW w lo hi (.slice none 0 0) [] := OwW.nil _ _ _ _ _
theorem toEdgeS_w (a : Value) (xs : List EdgeR) (w : World) (ha : EdgesR w a xs) (hn : xs.length ≤ 1048576) :
    Calls Tryz.prog 83 #[a] w fun e w' => ∃ ao cap, e = .returned (.slice ao xs.length cap) ∧ EdgesW w' w.heap.size w'.heap.size (.slice ao xs.length cap) xs ∧ Fr w w' :=
  (toEdgeS_any a xs w ha hn).mono fun e w' h => by
    obtain ⟨v, rfl, ho, hf⟩ := h
    obtain ⟨ao, cap, rfl⟩ := ho.val
    exact ⟨ao, cap, rfl, OwW.of_owns ho, hf⟩
theorem edge_part (new old : List EdgeR) (m : Nat) (hm : m < old.length) (hl : new.length = old.length) : ((((partR new old EdgeR.cells m).set (m * 3) (Value.int .i64 (edgeAt new m).f0)).set (m * 3 + 1) (Value.int .u8 ((edgeAt new m).f1.toNat : Int))).set (m * 3 + 2) (Value.int .i64 (edgeAt new m).f2)) = partR new old EdgeR.cells (m + 1) := by
  rw [partR_split new old EdgeR.cells m hm]
  have ha : ((new.take m).flatMap EdgeR.cells).length = m * 3 := flat_len new EdgeR.cells 3 EdgeR.cells_length m (by omega)
  rw [set_mid _ _ _ 0 _ (by rw [ha]; rfl) (by rw [EdgeR.cells_length]; omega)]
  rw [set_mid _ _ _ 1 _ (by rw [ha]) (by simp only [List.length_set]; rw [EdgeR.cells_length]; omega)]
  rw [set_mid _ _ _ 2 _ (by rw [ha]) (by simp only [List.length_set]; rw [EdgeR.cells_length]; omega)]
  rw [partR_next new old EdgeR.cells m (by omega)]
  rfl
set_option maxHeartbeats 1000000 in
set_option maxRecDepth 100000 in
theorem markEdgeS_any (g n cap : Nat) (xs : List EdgeR) (k : Int) (lo : Nat) (w : World) (ha : w.ownsRow lo 184 3 (.slice (some ⟨g, 0, none⟩) n cap) n (xs.flatMap EdgeR.cells)) (hn : xs.length = n) (h0 : 0 < k) (h1 : k + 3 * n ≤ 1073741824) :
    Calls Tryz.prog 87 #[.slice (some ⟨g, 0, none⟩) n cap, .int .i64 k] w fun e w' => e = .returned (.int .i64 (k + 3 * n)) ∧ w'.ownsRow lo 184 3 (.slice (some ⟨g, 0, none⟩) n cap) n ((mkEdges k n).flatMap EdgeR.cells) ∧ w.grownBy w' (some g) := by
  have hg0 : g < w.heap.size := (ha.lt g rfl).2
  go_enter Tryz.func87, Tryz.ntmps87
  go_wp2
  go_loopw [1, 5] (fun l i wr => ∃ m : Nat, m ≤ n ∧ i = .int .i64 m ∧ l = .int .i64 (k + 3 * m) ∧ wr.ownsRow lo 184 3 (.slice (some ⟨g, 0, none⟩) n cap) n (partR (mkEdges k n) xs EdgeR.cells m) ∧ w.grownBy wr (some g)) (fun _ i _ => n - (intOf i).toNat)
  case atStart => exact ⟨0, Nat.zero_le _, rfl, by simp, by rw [partR_zero]; exact ha, World.grownBy.refl _ _⟩
  case round =>
    clear ha
    obtain ⟨m, hm, rfl, rfl, ho, hfr⟩ := hrel
    by_cases hlt : m < n
    · have hp := edge_part (mkEdges k n) xs m (by omega) (by rw [mkEdges_length, hn])
      rw [mkEdges_at k n m hlt] at hp
      simp only [mkEdge] at hp
      rw [num_u8 _ (by omega)] at hp
      have HP := Lib.hid hp
      clear hp
      have f0 := ho.frozenAt (m * 3); obtain ⟨u0, c0⟩ := owns_cell ho (m * 3) (by omega); have s0 := ho.stored (m * 3) (.int .i64 (k + 3 * m))
      have f1 := s0.1.frozenAt (m * 3 + 1); obtain ⟨u1, c1⟩ := owns_cell s0.1 (m * 3 + 1) (by omega); have s1 := s0.1.stored (m * 3 + 1) (.int .u8 ((k + 3 * m + 1) % 256))
      have f2 := s1.1.frozenAt (m * 3 + 2); obtain ⟨u2, c2⟩ := owns_cell s1.1 (m * 3 + 2) (by omega); have s2 := s1.1.stored (m * 3 + 2) (.int .i64 (k + 3 * m + 1 + 1))
      go_wp2_with fail
      go_roundw
      case rel => exact ⟨m + 1, by omega, by go_num, by go_num, HP.out ▸ s2.1, gr_trans (gr_trans (gr_trans hfr (s0.2)) (s1.2)) (s2.2)⟩
      case measure => (simp [intOf]; omega)
    · obtain rfl : m = n := by omega
      rw [partR_all _ _ _ m (by rw [mkEdges_length]) hn] at ho
      go_wp2
      go_ret
      exact ⟨rfl, ho, hfr⟩
theorem markEdgeS_w (v : Value) (xs : List EdgeR) (k : Int) (lo hi : Nat) (w : World) (ha : EdgesW w lo hi v xs) (h0 : 0 < k) (h1 : k + 3 * xs.length ≤ 1073741824) :
    Calls Tryz.prog 87 #[v, .int .i64 k] w fun e w' => e = .returned (.int .i64 (k + 3 * xs.length)) ∧ EdgesW w' lo hi v (mkEdges k xs.length) ∧ Span lo hi w w' := by
  rcases owns_shape ha.1 with ⟨rfl, hn, hx⟩ | ⟨g, cap, rfl, _⟩
  · have h3 : xs = [] := List.eq_nil_of_length_eq_zero hn
    subst h3
    clear ha hn hx
    go_enter Tryz.func87, Tryz.ntmps87
    go_wp2
    go_loopw [1, 5] (fun l i wr => i = .int .i64 0 ∧ l = .int .i64 k ∧ wr = w) (fun _ i _ => 0)
    case atStart => exact ⟨rfl, rfl, rfl⟩
    case round =>
      obtain ⟨rfl, rfl, rfl⟩ := hrel
      go_wp2
      go_ret
      exact ⟨by simp, by simpa [EdgesW, mkEdges] using OwW.nil _ _ _ _ _, Span.refl _ _ _⟩
  · refine (markEdgeS_any g xs.length cap xs k lo w ha.1 rfl h0 h1).mono fun e w' h => ⟨h.1, ⟨?_, ha.2⟩, Span.of_gr h.2.2 ha.2⟩
    rw [mkEdges_length]
    exact h.2.1
end Go.Proofs.YtmdgdnkllclpcaaGreat

/- The struct Graph, which holds one row: the laws' helpers. (Printed by mk_types.py.) No condition but the sizes that the reading gives. -/
namespace Go.Proofs.YtmdgdnkllclpcaaGreat
open Go.RowKit
set_option linter.unusedVariables false
set_option linter.unusedSimpArgs false

structure GraphD where
  f0 : Int
  f1 : List EdgeR
def GraphRd (w : World) (v : Value) (d : GraphD) : Prop := ∃ u, v = .agg #[.int .i64 d.f0, u] ∧ EdgesR w u d.f1
def GraphW (w : World) (lo hi : Nat) (v : Value) (d : GraphD) : Prop := ∃ ao cap, v = .agg #[.int .i64 d.f0, .slice ao d.f1.length cap] ∧ EdgesW w lo hi (.slice ao d.f1.length cap) d.f1
theorem GraphRd.fr {w w' : World} {v : Value} {d : GraphD} (h : GraphRd w v d) (hf : Fr w w') : GraphRd w' v d := by obtain ⟨u, h1, h2⟩ := h; exact ⟨u, h1, h2.fr hf⟩
theorem GraphW.fr {w w' : World} {lo hi : Nat} {v : Value} {d : GraphD} (h : GraphW w lo hi v d) (hf : Fr w w') : GraphW w' lo hi v d := by obtain ⟨a, c, h1, h2⟩ := h; exact ⟨a, c, h1, h2.fr hf⟩
theorem GraphW.rd {w : World} {lo hi : Nat} {v : Value} {d : GraphD} (h : GraphW w lo hi v d) : GraphRd w v d := by obtain ⟨a, c, h1, h2⟩ := h; exact ⟨_, h1, h2.rd⟩
theorem GraphW.span {w w' : World} {lo hi : Nat} {v : Value} {d : GraphD} (h : GraphW w lo hi v d) {a b : Nat} (s : Span a b w w') (hd : hi ≤ a ∨ b ≤ lo) : GraphW w' lo hi v d := by obtain ⟨x, c, h1, h2⟩ := h; exact ⟨x, c, h1, h2.span s hd⟩
theorem GraphW.val {w : World} {lo hi : Nat} {v : Value} {d : GraphD} (h : GraphW w lo hi v d) : ∃ ao cap, v = .agg #[.int .i64 d.f0, .slice ao d.f1.length cap] := by obtain ⟨a, c, h1, h2⟩ := h; exact ⟨a, c, h1⟩
set_option maxHeartbeats 1000000 in
theorem toGraph_w (v : Value) (d : GraphD) (w : World) (hv : GraphRd w v d) (hn : d.f1.length ≤ 1048576) :
    Calls Tryz.prog 26 #[v] w fun e w' => ∃ ao cap, e = .returned (.agg #[.int .i64 d.f0, .slice ao d.f1.length cap]) ∧ GraphW w' w.heap.size w'.heap.size (.agg #[.int .i64 d.f0, .slice ao d.f1.length cap]) d ∧ Fr w w' := by
  obtain ⟨u, rfl, hu⟩ := hv
  go_enter Tryz.func26, Tryz.ntmps26
  go_wp2_with fail
  refine (toEdgeS_w _ d.f1 _ (hu.fr (by exact Qf)) hn).mono ?_
  rintro e w1 ⟨ao, ca, rfl, ho, hf⟩
  have k0 := hf.blk w.heap.size (by exact Qz); have k1 := hf.blk (w.heap.size + 1) (by exact Qz); have k2 := hf.blk (w.heap.size + 1 + 1) (by exact Qz); have z1 := hf.size; (try simp only [World.size_alloc, World.size_setCell, World.size_drew] at z1)
  go_wp2_with fail
  refine bodyPost_ret (v := .agg #[.int .i64 d.f0, .slice ao d.f1.length ca]) (by simp [results, Tryz.results26, go_sem, *]) rfl ⟨_, _, rfl, ?_, by exact Qf⟩
  exact ⟨ao, ca, rfl, OwW.mono (OwW.ab ho (by exact Qa)) (by exact Qz) (by exact Qz)⟩
set_option maxHeartbeats 1000000 in
theorem eqGraph_same (a b : Value) (d : GraphD) (w : World) (ha : GraphRd w a d) (hb : GraphRd w b d) :
    Calls Tryz.prog 29 #[a, b] w fun e w' => e = .returned (.bool true) ∧ Fr w w' := by
  obtain ⟨u, rfl, hu⟩ := ha
  obtain ⟨v, rfl, hv⟩ := hb
  go_enter Tryz.func29, Tryz.ntmps29
  go_wp2_with (go_at_call 86; refine (eqEdgeS_same _ _ d.f1 _ (hu.fr (by exact Qf)) (hv.fr (by exact Qf))).mono ?_; rintro e w1 ⟨rfl, hf⟩; have z1 := hf.size; (try simp only [World.size_alloc, World.size_setCell, World.size_drew] at z1); have k0 := hf.blk w.heap.size (by exact Qz); have k1 := hf.blk (w.heap.size + 1) (by exact Qz))
  go_ret
  exact ⟨rfl, by exact Qf⟩
def GraphD.bulk (d : GraphD) : Nat := (d.f1.length)
def GraphD.okSize (d : GraphD) : Prop := True
def GraphD.cnt (d : GraphD) : Nat := 3 * d.f1.length
set_option maxHeartbeats 1000000 in
set_option maxRecDepth 100000 in
theorem szGraph_w (v : Value) (d : GraphD) (left : Int) (w : World) (hv : GraphRd w v d) (hs : d.okSize) (h0 : 0 ≤ left) (h1 : left ≤ 1048576) :
    Calls Tryz.prog 24 #[v, .int .i64 left] w fun e w' => e = .returned (.int .i64 (szR left d.bulk)) ∧ Fr w w' := by
  obtain ⟨u, rfl, hu⟩ := hv
  unfold GraphD.okSize at hs
  by_cases hl : (d.bulk : Int) ≤ left
  · have hr := szR_ok hl
    go_enter Tryz.func24, Tryz.ntmps24
    go_wp2_with (go_at_call 80; refine (szEdgeS_any _ d.f1 _ _ (hu.fr (by exact Qf)) (by omega) (by omega)).mono ?_; rintro e w1 ⟨rfl, hf⟩; subst hf)
    all_goals go_ret
    all_goals exact ⟨ret_int (by first | rfl | exact hr.symm | (rw [hr]; omega) | (exfalso; unfold GraphD.bulk at *; omega)), by exact Qf⟩
  · have hr := szR_no hl
    go_enter Tryz.func24, Tryz.ntmps24
    go_wp2_with (go_at_call 80; refine (szEdgeS_any _ d.f1 _ _ (hu.fr (by exact Qf)) (by omega) (by omega)).mono ?_; rintro e w1 ⟨rfl, hf⟩; subst hf)
    all_goals go_ret
    all_goals exact ⟨ret_int (by first | rfl | exact hr.symm | (rw [hr]; omega) | (exfalso; unfold GraphD.bulk at *; omega)), by exact Qf⟩
def GraphD.mkd (d : GraphD) (k : Int) : GraphD := { d with f1 := mkEdges k d.f1.length }
theorem GraphD.mkd_cnt (d : GraphD) (k : Int) : (d.mkd k).cnt = d.cnt := by simp [GraphD.cnt, GraphD.mkd, mkEdges_length]
set_option maxHeartbeats 1000000 in
theorem markGraph_w (v : Value) (d : GraphD) (k : Int) (lo hi : Nat) (w : World) (ha : GraphW w lo hi v d) (hh : hi ≤ w.heap.size) (h0 : 0 < k) (h1 : k + d.cnt ≤ 1073741824) :
    Calls Tryz.prog 30 #[v, .int .i64 k] w fun e w' => e = .returned (.int .i64 (k + d.cnt)) ∧ GraphW w' lo hi v (d.mkd k) ∧ Span lo hi w w' := by
  unfold GraphD.cnt at h1 ⊢
  obtain ⟨ao, cap, rfl, hu⟩ := ha
  go_enter Tryz.func30, Tryz.ntmps30
  go_wp2_with fail
  refine (markEdgeS_w _ d.f1 k lo hi _ (hu.fr (by exact Qf)) h0 (by omega)).mono ?_
  rintro e w1 ⟨rfl, ho, sp⟩
  have B := (Box.new w _ _).span sp (.inr hh)
  have F := B.facts
  go_wp2_with fail
  go_ret
  exact ⟨ret_int (by simp), ⟨ao, cap, by simp [GraphD.mkd, mkEdges_length], by simpa [GraphD.mkd, mkEdges_length] using ho⟩, (Span.of_fr (by exact Qf)).trans sp⟩
end Go.Proofs.YtmdgdnkllclpcaaGreat

/- Edges compared, graphs held to be right: of both. No condition. -/
namespace Go.Proofs.YtmdgdnkllclpcaaGreat
open Go.RowKit
set_option linter.unusedVariables false
set_option linter.unusedSimpArgs false
def edgeLt (x y : EdgeR) : Bool := if x.f0 ≠ y.f0 then decide (x.f0 < y.f0) else if x.f1 ≠ y.f1 then decide (x.f1.toNat < y.f1.toNat) else decide (x.f2 < y.f2)
def edgeC (x y : EdgeR) : Int := if x.f1 ≠ y.f1 ∧ x.f0 = y.f0 then (x.f1.toNat : Int) - y.f1.toNat else cmpL [x.f0, x.f2] [y.f0, y.f2]
theorem edgeC_lt (x y : EdgeR) : decide (edgeC x y < 0) = edgeLt x y := by
  rw [Bool.eq_iff_iff, decide_eq_true_eq]
  unfold edgeC edgeLt
  by_cases h0 : x.f0 = y.f0
  · by_cases h1 : x.f1 = y.f1
    · rw [if_neg (by simp [h1]), if_neg (by simp [h0]), if_neg (by simp [h1]), decide_eq_true_eq]
      simp only [cmpL]
      repeat' split
      all_goals omega
    · rw [if_pos ⟨h1, h0⟩, if_neg (by simp [h0]), if_pos h1, decide_eq_true_eq]
      omega
  · rw [if_neg (fun h => h0 h.2), if_pos h0, decide_eq_true_eq]
    simp only [cmpL]
    repeat' split
    all_goals omega
def edgB (n : Int) (x : EdgeR) : Bool := decide (0 ≤ x.f0 ∧ x.f0 < n) && (decide (0 ≤ x.f2 ∧ x.f2 < n) && decide (97 ≤ x.f1.toNat ∧ x.f1.toNat ≤ 100))
def edgK (n : Int) (xs : List EdgeR) (k : Nat) : Bool := edgB n (edgeAt xs k) && (decide (k = 0) || edgeLt (edgeAt xs (k - 1)) (edgeAt xs k))
def graphB (g : GraphD) : Bool := decide (1 ≤ g.f0 ∧ g.f0 ≤ 12) && (decide (g.f1.length ≤ 40) && (List.range g.f1.length).all (edgK g.f0 g.f1))
theorem graphB_size {g : GraphD} (h : ¬ (1 ≤ g.f0 ∧ g.f0 ≤ 12)) : graphB g = false := by unfold graphB; rw [decide_eq_false h, Bool.false_and]
theorem graphB_long {g : GraphD} (h : ¬ g.f1.length ≤ 40) : graphB g = false := by unfold graphB; rw [decide_eq_false h, Bool.false_and, Bool.and_false]
theorem graphB_no {g : GraphD} {k : Nat} (hk : k < g.f1.length) (h : edgK g.f0 g.f1 k = false) : graphB g = false := by unfold graphB; rw [rng_not_all hk h, Bool.and_false, Bool.and_false]
theorem graphB_ok {g : GraphD} (h1 : 1 ≤ g.f0 ∧ g.f0 ≤ 12) (h2 : g.f1.length ≤ 40) (h : ∀ j, j < g.f1.length → edgK g.f0 g.f1 j = true) : graphB g = true := by unfold graphB; rw [rng_all h, decide_eq_true h1, decide_eq_true h2]; rfl
theorem graphB_out {g : GraphD} (h : graphB g = true) : (1 ≤ g.f0 ∧ g.f0 ≤ 12) ∧ g.f1.length ≤ 40 ∧ ∀ j, j < g.f1.length → edgK g.f0 g.f1 j = true := by
  unfold graphB at h
  simp only [Bool.and_eq_true, decide_eq_true_eq, List.all_eq_true] at h
  exact ⟨h.1, h.2.1, fun j hj => h.2.2 j (List.mem_range.2 hj)⟩
theorem edgK_from {n : Int} {xs : List EdgeR} {k : Nat} {x : EdgeR} (hx : edgeAt xs k = x) (h : ¬ (0 ≤ x.f0 ∧ x.f0 < n)) : edgK n xs k = false := by
  unfold edgK edgB; rw [hx, decide_eq_false h]; rfl
theorem edgK_to {n : Int} {xs : List EdgeR} {k : Nat} {x : EdgeR} (hx : edgeAt xs k = x) (h : ¬ (0 ≤ x.f2 ∧ x.f2 < n)) : edgK n xs k = false := by
  unfold edgK edgB; rw [hx, decide_eq_false h, Bool.false_and, Bool.and_false]; rfl
theorem edgK_label {n : Int} {xs : List EdgeR} {k : Nat} {x : EdgeR} (hx : edgeAt xs k = x) (h : ¬ (97 ≤ x.f1.toNat ∧ x.f1.toNat ≤ 100)) : edgK n xs k = false := by
  unfold edgK edgB; rw [hx, decide_eq_false h, Bool.and_false, Bool.and_false]; rfl
theorem edgK_less {n : Int} {xs : List EdgeR} {k : Nat} {x y : EdgeR} (hx : edgeAt xs k = x) (hy : edgeAt xs (k - 1) = y) (hk : 0 < k) (h : edgeLt y x = false) : edgK n xs k = false := by
  unfold edgK; rw [hx, hy, h, decide_eq_false (by omega : ¬ k = 0)]; simp
theorem edgK_ok {n : Int} {xs : List EdgeR} {k : Nat} {x y : EdgeR} (hx : edgeAt xs k = x) (hy : edgeAt xs (k - 1) = y) (h0 : 0 ≤ x.f0 ∧ x.f0 < n) (h2 : 0 ≤ x.f2 ∧ x.f2 < n) (h1 : 97 ≤ x.f1.toNat ∧ x.f1.toNat ≤ 100) (h : k = 0 ∨ edgeLt y x = true) : edgK n xs k = true := by
  unfold edgK edgB; rw [hx, hy, decide_eq_true h0, decide_eq_true h1, decide_eq_true h2]
  rcases h with h | h
  · rw [decide_eq_true h]; rfl
  · rw [h]; simp
theorem byte_eq {x y : UInt8} : ((x.toNat : Int) = y.toNat) ↔ x = y := ⟨fun h => UInt8.toNat_inj.1 (by omega), fun h => by rw [h]⟩
theorem specEdgeLess_any (x y : EdgeR) (w : World) :
    Calls Tryz.prog 140 #[.agg #[.int .i64 x.f0, .int .u8 (x.f1.toNat : Int), .int .i64 x.f2], .agg #[.int .i64 y.f0, .int .u8 (y.f1.toNat : Int), .int .i64 y.f2]] w fun e w' => e = .returned (.bool (edgeLt x y)) ∧ Fr w w' := by
  obtain ⟨p, hp⟩ : ∃ p, edgeLt x y = p := ⟨_, rfl⟩
  rw [hp]
  have HP := Lib.hid hp
  clear hp
  obtain ⟨a, l, t⟩ := x
  obtain ⟨b, m, u⟩ := y
  have hl := l.toNat_lt
  have hm := m.toNat_lt
  by_cases h0 : a = b
  · have q0 : (a != b) = false := by simpa using h0
    have H0 := Lib.hid h0
    clear h0
    by_cases h1 : l = m
    · have q1 : ((l.toNat : Int) != (m.toNat : Int)) = false := by rw [bne_eq_false_iff_eq, byte_eq]; exact h1
      have HQ : Hid (decide (t < u) = p) := Lib.hid (by rw [← HP.out]; unfold edgeLt; rw [if_neg (by simp [H0.out]), if_neg (by simp [h1])])
      clear h1
      go_enter Tryz.func140, Tryz.ntmps140
      go_wp2
      go_ret
      exact ⟨ret_bool HQ.out, by exact Qf⟩
    · have q1 : ((l.toNat : Int) != (m.toNat : Int)) = true := by rw [bne_iff_ne]; exact fun h => h1 (byte_eq.1 h)
      have HQ : Hid (decide ((l.toNat : Int) < (m.toNat : Int)) = p) := Lib.hid (by rw [← HP.out]; unfold edgeLt; rw [if_neg (by simp [H0.out]), if_pos h1, Bool.eq_iff_iff, decide_eq_true_eq, decide_eq_true_eq]; simp only []; omega)
      clear h1
      go_enter Tryz.func140, Tryz.ntmps140
      go_wp2
      go_ret
      exact ⟨ret_bool (by first | exact HQ.out | (rw [← HQ.out]; simp)), by exact Qf⟩
  · have q0 : (a != b) = true := by simpa using h0
    have HQ : Hid (decide (a < b) = p) := Lib.hid (by rw [← HP.out]; unfold edgeLt; rw [if_pos h0])
    clear h0
    go_enter Tryz.func140, Tryz.ntmps140
    go_wp2
    go_ret
    exact ⟨ret_bool HQ.out, by exact Qf⟩
theorem ints2 {w : World} {b : Nat} {x y : Int} {T : TypeId} (h : Box w b #[.int .i64 x, .int .i64 y] T) : IntsR w (.slice (some ⟨b, 0, none⟩) 2 2) [x, y] := by
  refine ⟨rfl, _, _, rfl, Nat.le_refl _, by unfold maxLen; omega, fun _ => ⟨b, 0, rfl, h.lt, fun j hj => ?_⟩⟩
  rw [Nat.zero_add, h.cell]
  match j, hj with
  | 0, _ => rfl
  | 1, _ => rfl
theorem compareEdges_any (x y : EdgeR) (w : World) :
    Calls Tryz.prog 180 #[.agg #[.int .i64 x.f0, .int .u8 (x.f1.toNat : Int), .int .i64 x.f2], .agg #[.int .i64 y.f0, .int .u8 (y.f1.toNat : Int), .int .i64 y.f2]] w fun e w' => e = .returned (.int .i64 (edgeC x y)) ∧ Fr w w' := by
  obtain ⟨p, hp⟩ : ∃ p, edgeC x y = p := ⟨_, rfl⟩
  rw [hp]
  have HP := Lib.hid hp
  clear hp
  obtain ⟨a, l, t⟩ := x
  obtain ⟨b, m, u⟩ := y
  have hl := l.toNat_lt
  have hm := m.toNat_lt
  by_cases h1 : l = m
  · have q1 : ((l.toNat : Int) != (m.toNat : Int)) = false := by rw [bne_eq_false_iff_eq, byte_eq]; exact h1
    have HQ : Hid (cmpL [a, t] [b, u] = p) := Lib.hid (by rw [← HP.out]; unfold edgeC; rw [if_neg (by simp [h1])])
    clear h1
    go_enter Tryz.func180, Tryz.ntmps180
    go_wp2_with fail
    refine (slicesCompare_any _ _ [a, t] [b, u] _ (ints2 (Box.alloc (Box.new' (by simp)) _)) (ints2 (Box.new' (by simp)))).mono ?_
    rintro e w1 ⟨rfl, rfl⟩
    go_wp2_with fail
    go_ret
    exact ⟨ret_int HQ.out, by exact Qf⟩
  · have q1 : ((l.toNat : Int) != (m.toNat : Int)) = true := by rw [bne_iff_ne]; exact fun h => h1 (byte_eq.1 h)
    by_cases h0 : a = b
    · have q0 : (a == b) = true := by simpa using h0
      have HQ : Hid ((l.toNat : Int) - m.toNat = p) := Lib.hid (by rw [← HP.out]; unfold edgeC; rw [if_pos ⟨h1, h0⟩])
      clear h1 h0
      go_enter Tryz.func180, Tryz.ntmps180
      go_wp2_with fail
      go_ret
      exact ⟨ret_int HQ.out, by exact Qf⟩
    · have q0 : (a == b) = false := by simpa using h0
      have HQ : Hid (cmpL [a, t] [b, u] = p) := Lib.hid (by rw [← HP.out]; unfold edgeC; rw [if_neg (fun h => h0 h.2)])
      clear h1 h0
      go_enter Tryz.func180, Tryz.ntmps180
      go_wp2_with fail
      refine (slicesCompare_any _ _ [a, t] [b, u] _ (ints2 (Box.alloc (Box.new' (by simp)) _)) (ints2 (Box.new' (by simp)))).mono ?_
      rintro e w1 ⟨rfl, rfl⟩
      go_wp2_with fail
      go_ret
      exact ⟨ret_int HQ.out, by exact Qf⟩
theorem implEdgeLess_any (x y : EdgeR) (w : World) :
    Calls Tryz.prog 144 #[.agg #[.int .i64 x.f0, .int .u8 (x.f1.toNat : Int), .int .i64 x.f2], .agg #[.int .i64 y.f0, .int .u8 (y.f1.toNat : Int), .int .i64 y.f2]] w fun e w' => e = .returned (.bool (edgeLt x y)) ∧ Fr w w' := by
  obtain ⟨c, hc⟩ : ∃ c, edgeC x y = c := ⟨_, rfl⟩
  have CT : Hid (∀ w', Calls Tryz.prog 180 #[.agg #[.int .i64 x.f0, .int .u8 (x.f1.toNat : Int), .int .i64 x.f2], .agg #[.int .i64 y.f0, .int .u8 (y.f1.toNat : Int), .int .i64 y.f2]] w' fun e w'' => e = .returned (.int .i64 c) ∧ Fr w' w'') := Lib.hid fun w' => by rw [← hc]; exact compareEdges_any x y w'
  have HR : Hid (edgeLt x y = decide (c < 0)) := Lib.hid (by rw [← edgeC_lt, hc])
  clear hc
  go_enter Tryz.func144, Tryz.ntmps144
  go_wp2_with (go_at_call 180; refine (CT.out _).mono ?_; rintro e w1 ⟨rfl, hf1⟩)
  go_ret
  exact ⟨ret_bool HR.out.symm, by exact Qf⟩
theorem isVertex_any (n : Int) (u : Value) (v : Int) (w : World) :
    Calls Tryz.prog 142 #[.agg #[.int .i64 n, u], .int .i64 v] w fun e w' => e = .returned (.bool (decide (0 ≤ v ∧ v < n))) ∧ Fr w w' := by
  by_cases h0 : 0 ≤ v
  · go_enter Tryz.func142, Tryz.ntmps142
    go_wp2
    go_ret
    exact ⟨ret_bool (by simp [h0]), by exact Qf⟩
  · go_enter Tryz.func142, Tryz.ntmps142
    go_wp2
    go_ret
    exact ⟨ret_bool (by first | (simp; done) | (simp; omega)), by exact Qf⟩
theorem isLabel_any (c : UInt8) (w : World) :
    Calls Tryz.prog 143 #[.int .u8 (c.toNat : Int)] w fun e w' => e = .returned (.bool (decide (97 ≤ c.toNat ∧ c.toNat ≤ 100))) ∧ w' = w := by
  by_cases h0 : 97 ≤ c.toNat
  · go_enter Tryz.func143, Tryz.ntmps143
    go_wp2
    go_ret
    exact ⟨ret_bool (by first | (simp [h0]; done) | (simp [h0]; omega)), rfl⟩
  · go_enter Tryz.func143, Tryz.ntmps143
    go_wp2
    go_ret
    exact ⟨ret_bool (by first | (simp; done) | (simp; omega)), rfl⟩
end Go.Proofs.YtmdgdnkllclpcaaGreat

/- Rows whose elements hold rows: what they read as (NestR), owned rows with an interval of blocks for each element (NestP, NestW). No condition. -/
namespace Go.Proofs.YtmdgdnkllclpcaaGreat
open Go.RowKit
set_option linter.unusedVariables false
set_option linter.unusedSimpArgs false

def nAt {α : Type} [Inhabited α] (xs : List α) (k : Nat) : α := xs.getD k default
theorem nAt_get {α : Type} [Inhabited α] {xs : List α} {k : Nat} (h : k < xs.length) : xs[k]? = some (nAt xs k) := by simp [nAt, List.getD, List.getElem?_eq_getElem h]
theorem nAt_mem {α : Type} [Inhabited α] {xs : List α} {p : α → Prop} (h : ∀ x ∈ xs, p x) (k : Nat) (hk : k < xs.length) : p (nAt xs k) := by
  have := h xs[k] (List.getElem_mem hk)
  simpa [nAt, List.getD, List.getElem?_eq_getElem hk] using this
def nSum {α : Type} (f : α → Nat) (xs : List α) (k : Nat) : Nat := ((xs.take k).map f).sum
theorem nSum_succ {α : Type} [Inhabited α] (f : α → Nat) (xs : List α) (k : Nat) (h : k < xs.length) : nSum f xs (k + 1) = nSum f xs k + f (nAt xs k) := by
  unfold nSum nAt
  rw [List.take_succ_eq_append_getElem h, List.map_append, List.sum_append]
  simp [List.getD, List.getElem?_eq_getElem h]
theorem nSum_le {α : Type} (f : α → Nat) (xs : List α) (k : Nat) : nSum f xs k ≤ nSum f xs xs.length := by
  unfold nSum
  rw [List.take_length]
  conv => rhs; rw [← List.take_append_drop k xs]
  rw [List.map_append, List.sum_append]
  omega
def nBulk {α : Type} (f : α → Nat) (xs : List α) : Nat := xs.length + nSum f xs xs.length
theorem take_next {α : Type} [Inhabited α] (xs : List α) (k : Nat) (h : k < xs.length) : xs.take (k + 1) = xs.take k ++ [nAt xs k] := by
  rw [List.take_succ_eq_append_getElem h]
  simp [nAt, List.getD, List.getElem?_eq_getElem h]

theorem flatten_at {sz : Nat} : ∀ {us : List (List Value)}, (∀ u ∈ us, u.length = sz) → ∀ (k : Nat) u, us[k]? = some u → ∀ j, j < sz → us.flatten[k * sz + j]? = u[j]?
  | [], _, k, u, h, _, _ => by simp at h
  | a :: us, hl, k, u, h, j, hj => by
    have ha : a.length = sz := hl a (by simp)
    rw [List.flatten_cons]
    cases k with
    | zero =>
      simp at h
      subst h
      rw [Nat.zero_mul, Nat.zero_add, List.getElem?_append_left (by omega)]
    | succ k =>
      rw [List.getElem?_append_right (by rw [ha, Nat.add_mul]; omega), ha, show (k + 1) * sz + j - sz = k * sz + j by rw [Nat.add_mul]; omega]
      exact flatten_at (fun u hu => hl u (by simp [hu])) k u (by simpa using h) j hj
theorem flatten_len {sz : Nat} {us : List (List Value)} (h : ∀ u ∈ us, u.length = sz) : us.flatten.length = us.length * sz := by
  induction us with
  | nil => simp
  | cons a us ih => rw [List.flatten_cons, List.length_append, ih (fun u hu => h u (by simp [hu])), h a (by simp), List.length_cons, Nat.add_mul]; omega
theorem mem_at {α : Type} {l : List α} {p : α → Prop} (h : ∀ (k : Nat) u, l[k]? = some u → p u) : ∀ u ∈ l, p u := by
  intro u hu
  obtain ⟨k, hk, rfl⟩ := List.getElem_of_mem hu
  exact h k _ (List.getElem?_eq_getElem hk)

section
variable {α : Type}
/-- A slice whose elements, sz cells each, read as data. -/
def NestR (E : World → List Value → α → Prop) (sz : Nat) (w : World) (v : Value) (xs : List α) : Prop :=
  ∃ us : List (List Value), us.length = xs.length ∧ RdS w sz v xs.length us.flatten ∧ ∀ (k : Nat) u x, us[k]? = some u → xs[k]? = some x → u.length = sz ∧ E w u x
theorem NestR.fr {E : World → List Value → α → Prop} (hE : ∀ {w w' u x}, E w u x → Fr w w' → E w' u x) {sz : Nat} {w w' : World} {v : Value} {xs : List α} (h : NestR E sz w v xs) (hf : Fr w w') : NestR E sz w' v xs := by
  obtain ⟨us, h1, h2, h3⟩ := h
  exact ⟨us, h1, h2.fr hf, fun k u x hu hx => ⟨(h3 k u x hu hx).1, hE (h3 k u x hu hx).2 hf⟩⟩
theorem NestR.le {E : World → List Value → α → Prop} {sz : Nat} {w : World} {v : Value} {xs : List α} (h : NestR E sz w v xs) : xs.length ≤ 9223372036854775807 := by
  obtain ⟨us, h1, h2, h3⟩ := h; exact h2.le
theorem NestR.lens {E : World → List Value → α → Prop} {sz : Nat} {w : World} {xs : List α} {us : List (List Value)} (h1 : us.length = xs.length) (h3 : ∀ (k : Nat) u x, us[k]? = some u → xs[k]? = some x → u.length = sz ∧ E w u x) : ∀ u ∈ us, u.length = sz :=
  mem_at fun k u hu => by
    have hk : k < xs.length := h1 ▸ (List.getElem?_eq_some_iff.1 hu).1
    exact (h3 k u _ hu (List.getElem?_eq_getElem hk)).1
theorem NestR.one [Inhabited α] {E : World → List Value → α → Prop} {sz : Nat} {w : World} {v : Value} {xs : List α} (h : NestR E sz w v xs) :
    ∃ ao b o cap, v = .slice ao xs.length cap ∧ xs.length ≤ cap ∧ cap ≤ 9223372036854775807 ∧ (0 < xs.length → ao = some ⟨b, o, none⟩ ∧ b < w.heap.size ∧ ∀ k, k < xs.length → ∃ u, u.length = sz ∧ E w u (nAt xs k) ∧ ∀ j c, j < sz → u[j]? = some c → w.cell? ⟨b, o + k * sz + j, none⟩ = some c) := by
  obtain ⟨us, h1, h2, h3⟩ := h
  obtain ⟨h4, ao, cap, rfl, h5, h6, h7⟩ := h2
  have hm : cap ≤ 9223372036854775807 := by unfold maxLen at h6; omega
  rcases Nat.eq_zero_or_pos xs.length with h0 | h0
  · exact ⟨ao, 0, 0, cap, rfl, h5, hm, fun h => absurd h (by omega)⟩
  · obtain ⟨b, o, rfl, hb, hc⟩ := h7 h0
    refine ⟨_, b, o, cap, rfl, h5, hm, fun _ => ⟨rfl, hb, fun k hk => ?_⟩⟩
    have hu : us[k]? = some us[k] := List.getElem?_eq_getElem (by omega)
    obtain ⟨h8, h9⟩ := h3 k _ _ hu (nAt_get hk)
    refine ⟨us[k], h8, h9, fun j c hj hc' => ?_⟩
    have hlt : k * sz + j < xs.length * sz := by
      have := Nat.mul_le_mul_right sz (show k + 1 ≤ xs.length by omega)
      rw [Nat.add_mul] at this
      omega
    rw [Nat.add_assoc, hc _ hlt, flatten_at (NestR.lens h1 h3) k _ hu j hj]
    exact hc'

/-- A row of the call's own of n elements: the first of them built, each with its own blocks; the cells zs stand for the rest. -/
def NestP (E : World → Nat → Nat → List Value → α → Prop) (T : TypeId) (sz : Nat) (w : World) (lo hi : Nat) (v : Value) (n : Nat) (zs : List Value) (xs : List α) : Prop :=
  ∃ (us : List (List Value)) (los his : Nat → Nat), us.length = xs.length ∧ OwW w lo hi T sz v n (us.flatten ++ zs) ∧
    (∀ (k : Nat) u x, us[k]? = some u → xs[k]? = some x → u.length = sz ∧ E w (los k) (his k) u x ∧ lo ≤ los k ∧ los k ≤ his k ∧ his k ≤ hi ∧ ∀ g, v.ownBlock = some g → g < los k ∨ his k ≤ g) ∧
    ∀ j k, j < k → k < xs.length → his j ≤ los k
def NestW (E : World → Nat → Nat → List Value → α → Prop) (T : TypeId) (sz : Nat) (w : World) (lo hi : Nat) (v : Value) (xs : List α) : Prop := NestP E T sz w lo hi v xs.length [] xs
section
variable {E : World → Nat → Nat → List Value → α → Prop} {T : TypeId} {sz : Nat} {w w' : World} {lo hi n : Nat} {v : Value} {zs : List Value} {xs : List α}
theorem NestP.span (hE : ∀ {w w' l h u x a b}, E w l h u x → Span a b w w' → (h ≤ a ∨ b ≤ l) → E w' l h u x) (h : NestP E T sz w lo hi v n zs xs) {a b : Nat} (s : Span a b w w') (hd : hi ≤ a ∨ b ≤ lo) : NestP E T sz w' lo hi v n zs xs := by
  obtain ⟨us, los, his, h1, h2, h3, h4⟩ := h
  exact ⟨us, los, his, h1, h2.span s hd, fun k u x hu hx => by obtain ⟨a1, a2, a3, a4, a5, a6⟩ := h3 k u x hu hx; exact ⟨a1, hE a2 s (by omega), a3, a4, a5, a6⟩, h4⟩
theorem NestP.fr (hE : ∀ {w w' l h u x a b}, E w l h u x → Span a b w w' → (h ≤ a ∨ b ≤ l) → E w' l h u x) (h : NestP E T sz w lo hi v n zs xs) (hf : Fr w w') : NestP E T sz w' lo hi v n zs xs := by
  obtain ⟨us, los, his, h1, h2, h3, h4⟩ := h
  exact ⟨us, los, his, h1, h2.fr hf, fun k u x hu hx => by obtain ⟨a1, a2, a3, a4, a5, a6⟩ := h3 k u x hu hx; exact ⟨a1, hE a2 (Span.of_fr (lo := his k) (hi := his k) hf) (.inl (Nat.le_refl _)), a3, a4, a5, a6⟩, h4⟩
theorem Ab.mono' {lo lo' : Nat} {w w' : World} (h : Ab lo w w') (hl : lo ≤ lo') : Ab lo' w w' := ⟨h.1, fun k hk hs => h.2 k (Nat.le_trans hl hk) hs⟩
theorem NestP.ab (hE : ∀ {w w' l h u x}, E w l h u x → Ab l w w' → E w' l h u x) (h : NestP E T sz w lo hi v n zs xs) (hf : Ab lo w w') : NestP E T sz w' lo hi v n zs xs := by
  obtain ⟨us, los, his, h1, h2, h3, h4⟩ := h
  exact ⟨us, los, his, h1, h2.ab hf, fun k u x hu hx => by obtain ⟨a1, a2, a3, a4, a5, a6⟩ := h3 k u x hu hx; exact ⟨a1, hE a2 (hf.mono' a3), a3, a4, a5, a6⟩, h4⟩
theorem NestP.mono (h : NestP E T sz w lo hi v n zs xs) {lo' hi' : Nat} (hl : lo' ≤ lo) (hh : hi ≤ hi') : NestP E T sz w lo' hi' v n zs xs := by
  obtain ⟨us, los, his, h1, h2, h3, h4⟩ := h
  exact ⟨us, los, his, h1, h2.mono hl hh, fun k u x hu hx => by obtain ⟨a1, a2, a3, a4, a5, a6⟩ := h3 k u x hu hx; exact ⟨a1, a2, by omega, a4, by omega, a6⟩, h4⟩
theorem NestP.none_yet (h : OwW w lo hi T sz v n zs) : NestP E T sz w lo hi v n zs [] :=
  ⟨[], fun _ => 0, fun _ => 0, rfl, by simpa using h, fun k u x hu => by simp at hu, fun j k _ hk => by simp at hk⟩
theorem NestP.lens {us : List (List Value)} {p : Nat → List Value → α → Prop} (h1 : us.length = xs.length) (h3 : ∀ (k : Nat) u x, us[k]? = some u → xs[k]? = some x → u.length = sz ∧ p k u x) : ∀ u ∈ us, u.length = sz :=
  mem_at fun k u hu => by
    have hk : k < xs.length := h1 ▸ (List.getElem?_eq_some_iff.1 hu).1
    exact (h3 k u _ hu (List.getElem?_eq_getElem hk)).1
theorem NestP.spot {g cap : Nat} (h : NestP E T sz w lo hi (.slice (some ⟨g, 0, none⟩) n cap) n zs xs) (k : Nat) (hk : k < n * sz) : w.frozen? ⟨g, k, none⟩ = false ∧ ∃ u, w.cell? ⟨g, k, none⟩ = some u := by
  obtain ⟨us, los, his, h1, h2, h3, h4⟩ := h
  exact ⟨h2.1.frozenAt k, owns_cell h2.1 k hk⟩
theorem NestP.block {g cap : Nat} (h : NestP E T sz w lo hi (.slice (some ⟨g, 0, none⟩) n cap) n zs xs) : lo ≤ g ∧ g < hi ∧ g < w.heap.size := by
  obtain ⟨us, los, his, h1, h2, h3, h4⟩ := h
  exact ⟨(h2.2 g rfl).1, (h2.2 g rfl).2, (h2.1.lt g rfl).2⟩
theorem NestP.stored (hE : ∀ {w w' l h u x a b}, E w l h u x → Span a b w w' → (h ≤ a ∨ b ≤ l) → E w' l h u x) {g cap : Nat} (h : NestP E T sz w lo hi (.slice (some ⟨g, 0, none⟩) n cap) n zs xs) (j : Nat) (c : Value) (hj : j < zs.length) {i : Nat} (hi' : i = xs.length * sz + j) :
    NestP E T sz (w.setCell ⟨g, i, none⟩ c) lo hi (.slice (some ⟨g, 0, none⟩) n cap) n (zs.set j c) xs := by
  subst hi'
  obtain ⟨us, los, his, h1, h2, h3, h4⟩ := h
  have hl := flatten_len (NestP.lens h1 h3)
  have hs := h2.1.stored (xs.length * sz + j) c
  rw [List.set_append_right _ _ (by rw [hl, h1]; omega), hl, h1, Nat.add_sub_cancel_left] at hs
  have sp : Span g (g + 1) w (w.setCell ⟨g, xs.length * sz + j, none⟩ c) := Span.of_gr hs.2 (fun k hk => by cases hk; omega)
  refine ⟨us, los, his, h1, ⟨hs.1, h2.2⟩, fun k u x hu hx => ?_, h4⟩
  obtain ⟨a1, a2, a3, a4, a5, a6⟩ := h3 k u x hu hx
  exact ⟨a1, hE a2 sp (by have := a6 g rfl; omega), a3, a4, a5, a6⟩
theorem NestP.grow {u : List Value} {x : α} {l1 h1 hi' : Nat} (h : NestP E T sz w lo hi v n (u ++ zs) xs) (hu : u.length = sz) (he : E w l1 h1 u x) (hlo : lo ≤ l1) (a1 : hi ≤ l1) (a2 : l1 ≤ h1) (a3 : h1 ≤ hi') : NestP E T sz w lo hi' v n zs (xs ++ [x]) := by
  obtain ⟨us, los, his, b1, b2, b3, b4⟩ := h
  refine ⟨us ++ [u], fun k => if k = xs.length then l1 else los k, fun k => if k = xs.length then h1 else his k, by simp [b1], by simpa using b2.mono (Nat.le_refl _) (by omega), fun k u' x' hu' hx' => ?_, fun j k hjk hk => ?_⟩
  · by_cases hk : k = xs.length
    · subst hk
      rw [List.getElem?_append_right (by omega), b1, Nat.sub_self] at hu'
      rw [List.getElem?_append_right (by omega), Nat.sub_self] at hx'
      simp at hu' hx'
      subst hu' hx'
      simp only [if_true]
      exact ⟨hu, he, hlo, a2, a3, fun g hg => by have := b2.2 g hg; omega⟩
    · have hk2 : k < xs.length := by
        have := (List.getElem?_eq_some_iff.1 hx').1
        simp at this
        omega
      rw [List.getElem?_append_left (by omega)] at hu' hx'
      simp only [if_neg hk]
      obtain ⟨c1, c2, c3, c4, c5, c6⟩ := b3 k u' x' hu' hx'
      exact ⟨c1, c2, c3, c4, by omega, c6⟩
  · simp at hk
    simp only [if_neg (show ¬ j = xs.length by omega)]
    split
    · rename_i hk2
      have huj : us[j]? = some (us[j]'(by omega)) := List.getElem?_eq_getElem _
      obtain ⟨c1, c2, c3, c4, c5, c6⟩ := b3 j _ _ huj (List.getElem?_eq_getElem (by omega))
      omega
    · exact b4 j k hjk (by omega)
theorem NestP.rd {E' : World → List Value → α → Prop} (hE : ∀ {w l h u x}, E w l h u x → E' w u x) (h : NestW E T sz w lo hi v xs) : NestR E' sz w v xs := by
  obtain ⟨us, los, his, h1, h2, h3, h4⟩ := h
  exact ⟨us, h1, by simpa using h2.rd, fun k u x hu hx => ⟨(h3 k u x hu hx).1, hE (h3 k u x hu hx).2.1⟩⟩
theorem NestW.val (h : NestW E T sz w lo hi v xs) : ∃ ao cap, v = .slice ao xs.length cap := by
  obtain ⟨us, los, his, h1, h2, h3, h4⟩ := h; exact h2.val
end
end
end Go.Proofs.YtmdgdnkllclpcaaGreat
