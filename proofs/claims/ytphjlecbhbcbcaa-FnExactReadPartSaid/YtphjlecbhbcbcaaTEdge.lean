/- Marks of slices of Edge; their interface. (Printed by mk_types.py.) No condition but the sizes that the reading gives. -/
import Derived.Test.YtphjlecbhbcbcaaSEdge
import Derived.Test.YtphjlecbhbcbcaaApp
namespace Go.Proofs.Ytphjlecbhbcbcaa
open Go.RowKit
set_option linter.unusedVariables false
set_option linter.unusedSimpArgs false

theorem num_u8 (x : Int) (h : 0 ≤ x) : ((UInt8.ofNat x.toNat).toNat : Int) = x % 256 := by simp; omega
def mkEdge (k : Int) : EdgeR := ⟨k, UInt8.ofNat (k + 1).toNat, (k + 1 + 1)⟩
def mkEdges (k : Int) (n : Nat) : List EdgeR := (List.range n).map fun i : Nat => mkEdge (k + 3 * i)
theorem mkEdges_length (k : Int) (n : Nat) : (mkEdges k n).length = n := by simp [mkEdges]
theorem mkEdges_at (k : Int) (n j : Nat) (h : j < n) : edgeAt (mkEdges k n) j = mkEdge (k + 3 * j) := by simp [mkEdges, edgeAt, List.getD, h]
theorem edge_oneCells (xs : List EdgeR) : ∀ u ∈ xs.flatMap EdgeR.cells, u.oneCell' = true := by
  intro u hu
  obtain ⟨x, _, h⟩ := List.mem_flatMap.1 hu
  simp only [EdgeR.cells, List.mem_cons, List.not_mem_nil, or_false] at h
  rcases h with rfl | rfl | rfl <;> rfl
def EdgesW (w : World) (lo hi : Nat) (v : Value) (xs : List EdgeR) : Prop := OwW w lo hi 170 3 v xs.length (xs.flatMap EdgeR.cells)
theorem EdgesW.rd {w : World} {lo hi : Nat} {v : Value} {xs : List EdgeR} (h : EdgesW w lo hi v xs) : EdgesR w v xs := OwW.rd h
theorem EdgesW.val {w : World} {lo hi : Nat} {v : Value} {xs : List EdgeR} (h : EdgesW w lo hi v xs) : ∃ ao cap, v = .slice ao xs.length cap := OwW.val h
theorem EdgesW.fr {w w' : World} {lo hi : Nat} {v : Value} {xs : List EdgeR} (h : EdgesW w lo hi v xs) (hf : Fr w w') : EdgesW w' lo hi v xs := OwW.fr h hf
theorem EdgesW.span {w w' : World} {lo hi : Nat} {v : Value} {xs : List EdgeR} (h : EdgesW w lo hi v xs) {a b : Nat} (s : Span a b w w') (hd : hi ≤ a ∨ b ≤ lo) : EdgesW w' lo hi v xs := OwW.span h s hd
theorem EdgesW.nil (w : World) (lo hi : Nat) : EdgesW w lo hi (.slice none 0 0) [] := OwW.nil _ _ _ _ _
theorem toEdgeS_w (a : Value) (xs : List EdgeR) (w : World) (ha : EdgesR w a xs) (hn : xs.length ≤ 1048576) :
    Calls Try.prog 91 #[a] w fun e w' => ∃ ao cap, e = .returned (.slice ao xs.length cap) ∧ EdgesW w' w.heap.size w'.heap.size (.slice ao xs.length cap) xs ∧ Fr w w' :=
  (toEdgeS_any a xs w ha hn).mono fun e w' h => by
    obtain ⟨v, rfl, ho, hf⟩ := h
    obtain ⟨ao, cap, rfl⟩ := ho.val
    exact ⟨ao, cap, rfl, OwW.of_owns ho, hf⟩
theorem edge_part (new old : List EdgeR) (m : Nat) (hm : m < old.length) (hl : new.length = old.length) : ((((partR new old EdgeR.cells m).set (m * 3) (Value.int .i64 (edgeAt new m).f0)).set (m * 3 + 1) (Value.int .u8 ((edgeAt new m).f1.toNat : Int))).set (m * 3 + 2) (Value.int .i64 (edgeAt new m).f2)) = partR new old EdgeR.cells (m + 1) := by
  rw [partR_split new old EdgeR.cells m hm]
  have ha : ((new.take m).flatMap EdgeR.cells).length = m * 3 := flat_len new EdgeR.cells 3 EdgeR.cells_length m (by omega)
  rw [set_mid _ _ _ 0 _ (by rw [ha]; rfl) (by rw [EdgeR.cells_length]; omega)]
  rw [set_mid _ _ _ 1 _ (by rw [ha]) (by simp only [List.length_set]; rw [EdgeR.cells_length]; omega)]
  rw [set_mid _ _ _ 2 _ (by rw [ha]) (by simp only [List.length_set]; rw [EdgeR.cells_length]; omega)]
  rw [partR_next new old EdgeR.cells m (by omega)]
  rfl
set_option maxHeartbeats 1000000 in
set_option maxRecDepth 100000 in
theorem markEdgeS_any (g n cap : Nat) (xs : List EdgeR) (k : Int) (lo : Nat) (w : World) (ha : w.ownsRow lo 170 3 (.slice (some ⟨g, 0, none⟩) n cap) n (xs.flatMap EdgeR.cells)) (hn : xs.length = n) (h0 : 0 < k) (h1 : k + 3 * n ≤ 1073741824) :
    Calls Try.prog 96 #[.slice (some ⟨g, 0, none⟩) n cap, .int .i64 k] w fun e w' => e = .returned (.int .i64 (k + 3 * n)) ∧ w'.ownsRow lo 170 3 (.slice (some ⟨g, 0, none⟩) n cap) n ((mkEdges k n).flatMap EdgeR.cells) ∧ w.grownBy w' (some g) := by
  have hg0 : g < w.heap.size := (ha.lt g rfl).2
  go_enter Try.func96, Try.ntmps96
  go_wp2
  go_loopw [1, 5] (fun l i wr => ∃ m : Nat, m ≤ n ∧ i = .int .i64 m ∧ l = .int .i64 (k + 3 * m) ∧ wr.ownsRow lo 170 3 (.slice (some ⟨g, 0, none⟩) n cap) n (partR (mkEdges k n) xs EdgeR.cells m) ∧ w.grownBy wr (some g)) (fun _ i _ => n - (intOf i).toNat)
  case atStart => exact ⟨0, Nat.zero_le _, rfl, by simp, by rw [partR_zero]; exact ha, World.grownBy.refl _ _⟩
  case round =>
    clear ha
    obtain ⟨m, hm, rfl, rfl, ho, hfr⟩ := hrel
    by_cases hlt : m < n
    · have hp := edge_part (mkEdges k n) xs m (by omega) (by rw [mkEdges_length, hn])
      rw [mkEdges_at k n m hlt] at hp
      simp only [mkEdge] at hp
      rw [num_u8 _ (by omega)] at hp
      have HP := Lib.hid hp
      clear hp
      have f0 := ho.frozenAt (m * 3); obtain ⟨u0, c0⟩ := owns_cell ho (m * 3) (by omega); have s0 := ho.stored (m * 3) (.int .i64 (k + 3 * m))
      have f1 := s0.1.frozenAt (m * 3 + 1); obtain ⟨u1, c1⟩ := owns_cell s0.1 (m * 3 + 1) (by omega); have s1 := s0.1.stored (m * 3 + 1) (.int .u8 ((k + 3 * m + 1) % 256))
      have f2 := s1.1.frozenAt (m * 3 + 2); obtain ⟨u2, c2⟩ := owns_cell s1.1 (m * 3 + 2) (by omega); have s2 := s1.1.stored (m * 3 + 2) (.int .i64 (k + 3 * m + 1 + 1))
      go_wp2_with fail
      go_roundw
      case rel => exact ⟨m + 1, by omega, by go_num, by go_num, HP.out ▸ s2.1, gr_trans (gr_trans (gr_trans hfr (s0.2)) (s1.2)) (s2.2)⟩
      case measure => (simp [intOf]; omega)
    · obtain rfl : m = n := by omega
      rw [partR_all _ _ _ m (by rw [mkEdges_length]) hn] at ho
      go_wp2
      go_ret
      exact ⟨rfl, ho, hfr⟩
theorem markEdgeS_w (v : Value) (xs : List EdgeR) (k : Int) (lo hi : Nat) (w : World) (ha : EdgesW w lo hi v xs) (h0 : 0 < k) (h1 : k + 3 * xs.length ≤ 1073741824) :
    Calls Try.prog 96 #[v, .int .i64 k] w fun e w' => e = .returned (.int .i64 (k + 3 * xs.length)) ∧ EdgesW w' lo hi v (mkEdges k xs.length) ∧ Span lo hi w w' := by
  rcases owns_shape ha.1 with ⟨rfl, hn, hx⟩ | ⟨g, cap, rfl, _⟩
  · have h3 : xs = [] := List.eq_nil_of_length_eq_zero hn
    subst h3
    clear ha hn hx
    go_enter Try.func96, Try.ntmps96
    go_wp2
    go_loopw [1, 5] (fun l i wr => i = .int .i64 0 ∧ l = .int .i64 k ∧ wr = w) (fun _ i _ => 0)
    case atStart => exact ⟨rfl, rfl, rfl⟩
    case round =>
      obtain ⟨rfl, rfl, rfl⟩ := hrel
      go_wp2
      go_ret
      exact ⟨by simp, by simpa [EdgesW, mkEdges] using OwW.nil _ _ _ _ _, Span.refl _ _ _⟩
  · refine (markEdgeS_any g xs.length cap xs k lo w ha.1 rfl h0 h1).mono fun e w' h => ⟨h.1, ⟨?_, ha.2⟩, Span.of_gr h.2.2 ha.2⟩
    rw [mkEdges_length]
    exact h.2.1
set_option maxHeartbeats 1000000 in
set_option maxRecDepth 100000 in
theorem heldEdgeS_any (a : Value) (k : Int) (n : Nat) (w : World) (ha : EdgesR w a (mkEdges k n)) (h0 : 0 < k) (h1 : k + 3 * n ≤ 1073741824) :
    Calls Try.prog 118 #[a, .int .i64 k] w fun e w' => e = .returned (.int .i64 (k + 3 * n)) ∧ Fr w w' := by
  obtain ⟨ao, ba, oa, ca, rfl, hca, hma, fa⟩ := ha.one
  clear ha
  rw [mkEdges_length] at hca fa ⊢
  go_enter Try.func118, Try.ntmps118
  go_wp2
  go_loopw [1, 5] (fun l i wr => ∃ m : Nat, m ≤ n ∧ i = .int .i64 m ∧ l = .int .i64 (k + 3 * m) ∧ Fr w wr) (fun _ i _ => n - (intOf i).toNat)
  case atStart => exact ⟨0, Nat.zero_le _, rfl, by simp, Fr.refl _⟩
  case round =>
    obtain ⟨m, hm, rfl, rfl, hfr⟩ := hrel
    by_cases hlt : m < n
    · obtain ⟨rfl, hba, fa⟩ := fa (by omega)
      have c0 : ∀ w', Fr wr w' → w'.cell? ⟨ba, oa + m * 3, none⟩ = some (.int .i64 (k + 3 * m)) := fun w' hf => ((hfr.trans hf).cell (p := ⟨ba, _, none⟩) hba).trans ((fa m hlt).1.trans (by rw [mkEdges_at k n m hlt]; rfl))
      have c1 : ∀ w', Fr wr w' → w'.cell? ⟨ba, oa + m * 3 + 1, none⟩ = some (.int .u8 ((k + 3 * m + 1) % 256)) := fun w' hf => ((hfr.trans hf).cell (p := ⟨ba, _, none⟩) hba).trans ((fa m hlt).2.1.trans (by rw [mkEdges_at k n m hlt]; simp only [mkEdge]; rw [num_u8 _ (by omega)]))
      have c2 : ∀ w', Fr wr w' → w'.cell? ⟨ba, oa + m * 3 + 2, none⟩ = some (.int .i64 (k + 3 * m + 1 + 1)) := fun w' hf => ((hfr.trans hf).cell (p := ⟨ba, _, none⟩) hba).trans ((fa m hlt).2.2.trans (by rw [mkEdges_at k n m hlt]; rfl))
      clear fa
      have d0 := c0 wr (by repeat (first | (with_reducible exact Fr.refl _) | (with_reducible assumption) | (with_reducible refine Fr.drewN ?_ _) | (with_reducible refine Fr.drew ?_) | (with_reducible refine Fr.alloc ?_ _) | (with_reducible refine Fr.setCell ?_ (by (first | (with_reducible assumption) | omega | (simp only [World.size_alloc, World.size_setCell, World.size_drew, World.heap_drewN]; omega) | (simp; done) | (simp; omega))) _) | (with_reducible refine Fr.trans ?_ (by with_reducible assumption))))
      have d1 := c1 wr (by repeat (first | (with_reducible exact Fr.refl _) | (with_reducible assumption) | (with_reducible refine Fr.drewN ?_ _) | (with_reducible refine Fr.drew ?_) | (with_reducible refine Fr.alloc ?_ _) | (with_reducible refine Fr.setCell ?_ (by (first | (with_reducible assumption) | omega | (simp only [World.size_alloc, World.size_setCell, World.size_drew, World.heap_drewN]; omega) | (simp; done) | (simp; omega))) _) | (with_reducible refine Fr.trans ?_ (by with_reducible assumption))))
      have d2 := c2 wr (by repeat (first | (with_reducible exact Fr.refl _) | (with_reducible assumption) | (with_reducible refine Fr.drewN ?_ _) | (with_reducible refine Fr.drew ?_) | (with_reducible refine Fr.alloc ?_ _) | (with_reducible refine Fr.setCell ?_ (by (first | (with_reducible assumption) | omega | (simp only [World.size_alloc, World.size_setCell, World.size_drew, World.heap_drewN]; omega) | (simp; done) | (simp; omega))) _) | (with_reducible refine Fr.trans ?_ (by with_reducible assumption))))
      go_wp2_with fail
      try go_quiet (fail)
      try go_wp2_with fail
      try go_wp2_with fail
      go_roundw
      case rel => exact ⟨m + 1, by omega, by go_num, by go_num, by repeat (first | (with_reducible exact Fr.refl _) | (with_reducible assumption) | (with_reducible refine Fr.drewN ?_ _) | (with_reducible refine Fr.drew ?_) | (with_reducible refine Fr.alloc ?_ _) | (with_reducible refine Fr.setCell ?_ (by (first | (with_reducible assumption) | omega | (simp only [World.size_alloc, World.size_setCell, World.size_drew, World.heap_drewN]; omega) | (simp; done) | (simp; omega))) _) | (with_reducible refine Fr.trans ?_ (by with_reducible assumption)))⟩
      case measure => (simp [intOf]; omega)
    · clear fa
      obtain rfl : m = n := by omega
      go_wp2
      go_ret
      exact ⟨rfl, hfr⟩
theorem heldEdgeS_w (a : Value) (k : Int) (n : Nat) (w : World) (ha : EdgesR w a (mkEdges k n)) (h0 : 0 < k) (h1 : k + 3 * n ≤ 1073741824) :
    Calls Try.prog 118 #[a, .int .i64 k] w fun e w' => e = .returned (.int .i64 (k + 3 * n)) ∧ Fr w w' := heldEdgeS_any a k n w ha h0 h1
end Go.Proofs.Ytphjlecbhbcbcaa
