/- Texts in one: SEdge, TEdge, OGraph. -/
import Derived.Test.YtjgghiniajmfjaaKFlat
import Derived.Test.YtjgghiniajmfjaaOk
import Derived.Deep.QuietTactic
import Derived.BigQuiet
import Derived.Deep.RegionHeld3
import Derived.Test.YtjgghiniajmfjaaKApp
/- The struct Edge and slices of it: what they read as; the laws' helpers. No condition but the sizes that the reading gives. (Printed by mk_structs.py.) -/
namespace Go.Proofs.Ytjgghiniajmfjaa
open Go.RowKit
set_option linter.unusedVariables false
set_option linter.unusedSimpArgs false

structure EdgeR where
  f0 : Int
  f1 : UInt8
  f2 : Int
instance : Inhabited EdgeR := ⟨⟨default, default, default⟩⟩
def EdgeR.cells (x : EdgeR) : List Value := [.int .i64 x.f0, .int .u8 (x.f1.toNat : Int), .int .i64 x.f2]
theorem EdgeR.cells_length (x : EdgeR) : x.cells.length = 3 := rfl
def edgeAt (l : List EdgeR) (k : Nat) : EdgeR := l.getD k default
theorem EdgeR.ext' {x y : EdgeR} (h0 : x.f0 = y.f0) (h1 : x.f1 = y.f1) (h2 : x.f2 = y.f2) : x = y := by cases x; cases y; simp_all

def EdgesR (w : World) (v : Value) (xs : List EdgeR) : Prop := RdS w 3 v xs.length (xs.flatMap EdgeR.cells)
theorem EdgesR.fr {w w' : World} {v : Value} {xs : List EdgeR} (h : EdgesR w v xs) (hf : Fr w w') : EdgesR w' v xs := RdS.fr h hf
theorem EdgesR.le {w : World} {v : Value} {xs : List EdgeR} (h : EdgesR w v xs) : xs.length ≤ 9223372036854775807 := RdS.le h
theorem edge_flat (xs : List EdgeR) (k j : Nat) (hk : k < xs.length) (hj : j < 3) (d : Value) : (xs.flatMap EdgeR.cells).getD (k * 3 + j) d = (edgeAt xs k).cells.getD j d := by
  induction xs generalizing k with
  | nil => simp at hk
  | cons x xs ih =>
    rw [List.flatMap_cons]
    cases k with
    | zero => simp [List.getD, List.getElem?_append_left (show j < x.cells.length by rw [EdgeR.cells_length]; exact hj), edgeAt]
    | succ k =>
      have := ih k (by simpa using hk)
      simp only [List.getD] at this ⊢
      rw [List.getElem?_append_right (by rw [EdgeR.cells_length]; omega), show (k + 1) * 3 + j - x.cells.length = k * 3 + j by rw [EdgeR.cells_length]; omega, this]
      simp [edgeAt]
theorem EdgesR.one {w : World} {v : Value} {xs : List EdgeR} (h : EdgesR w v xs) :
    ∃ ao b o cap, v = .slice ao xs.length cap ∧ xs.length ≤ cap ∧ cap ≤ 9223372036854775807 ∧ (0 < xs.length → ao = some ⟨b, o, none⟩ ∧ b < w.heap.size ∧ ∀ k, k < xs.length → w.cell? ⟨b, o + k * 3, none⟩ = some (.int .i64 (edgeAt xs k).f0) ∧ w.cell? ⟨b, o + k * 3 + 1, none⟩ = some (.int .u8 ((edgeAt xs k).f1.toNat : Int)) ∧ w.cell? ⟨b, o + k * 3 + 2, none⟩ = some (.int .i64 (edgeAt xs k).f2)) := by
  obtain ⟨ao, b, o, cap, h1, h2, h3, h4⟩ := RdS.one h undef
  refine ⟨ao, b, o, cap, h1, h2, h3, fun hn => ⟨(h4 hn).1, (h4 hn).2.1, fun k hk => ?_⟩⟩
  have hc := (h4 hn).2.2
  exact ⟨by have := hc (k * 3 + 0) (by omega); rw [edge_flat xs k 0 hk (by omega)] at this; exact this, by have := hc (k * 3 + 1) (by omega); rw [edge_flat xs k 1 hk (by omega)] at this; exact this, by have := hc (k * 3 + 2) (by omega); rw [edge_flat xs k 2 hk (by omega)] at this; exact this⟩

theorem toEdge_any (x : EdgeR) (w : World) :
    Calls Try.prog 179 #[.agg #[.int .i64 x.f0, .int .u8 (x.f1.toNat : Int), .int .i64 x.f2]] w fun e w' => e = .returned (.agg #[.int .i64 x.f0, .int .u8 (x.f1.toNat : Int), .int .i64 x.f2]) ∧ Fr w w' := by
  go_enter Try.func179, Try.ntmps179
  go_wp2
  exact bodyPost_ret (v := .agg #[.int .i64 x.f0, .int .u8 (x.f1.toNat : Int), .int .i64 x.f2]) (by simp [results, Try.results179, go_sem]) rfl ⟨rfl, by repeat (first | (with_reducible exact Fr.refl _) | (with_reducible assumption) | (with_reducible refine Fr.drewN ?_ _) | (with_reducible refine Fr.drew ?_) | (with_reducible refine Fr.alloc ?_ _) | (with_reducible refine Fr.setCell ?_ (by (first | (with_reducible assumption) | omega | (simp only [World.size_alloc, World.size_setCell, World.size_drew, World.heap_drewN]; omega) | (simp; done) | (simp; omega))) _) | (with_reducible refine Fr.trans ?_ (by with_reducible assumption)))⟩

theorem eqEdge_same (x : EdgeR) (w : World) :
    Calls Try.prog 181 #[.agg #[.int .i64 x.f0, .int .u8 (x.f1.toNat : Int), .int .i64 x.f2], .agg #[.int .i64 x.f0, .int .u8 (x.f1.toNat : Int), .int .i64 x.f2]] w fun e w' => e = .returned (.bool true) ∧ Fr w w' := by
  go_enter Try.func181, Try.ntmps181
  go_wp2
  go_ret
  exact ⟨rfl, by repeat (first | (with_reducible exact Fr.refl _) | (with_reducible assumption) | (with_reducible refine Fr.drewN ?_ _) | (with_reducible refine Fr.drew ?_) | (with_reducible refine Fr.alloc ?_ _) | (with_reducible refine Fr.setCell ?_ (by (first | (with_reducible assumption) | omega | (simp only [World.size_alloc, World.size_setCell, World.size_drew, World.heap_drewN]; omega) | (simp; done) | (simp; omega))) _) | (with_reducible refine Fr.trans ?_ (by with_reducible assumption)))⟩

def EdgeR.bulk (x : EdgeR) : Nat := 0
def EdgeR.okSize (x : EdgeR) : Prop := True

theorem info_Edge : (Try.prog.info? 157).map (fun i => (i.zero, i.size, i.bytes)) = some (some (.agg #[.int .i64 0, .int .u8 0, .int .i64 0]), 3, 24) := by kernel_rfl
def EdgesO (w : World) (lo : Nat) (v : Value) (xs : List EdgeR) : Prop := w.ownsRow lo 157 3 v xs.length (xs.flatMap EdgeR.cells)
theorem EdgesO.rd {w : World} {lo : Nat} {v : Value} {xs : List EdgeR} (h : EdgesO w lo v xs) : EdgesR w v xs := RdS.of_owns h
theorem EdgesO.val {w : World} {lo : Nat} {v : Value} {xs : List EdgeR} (h : EdgesO w lo v xs) : ∃ ao cap, v = .slice ao xs.length cap := owns_val h
theorem EdgesO.fr {w w' : World} {lo : Nat} {v : Value} {xs : List EdgeR} (h : EdgesO w lo v xs) (hf : Fr w w') : EdgesO w' lo v xs := owns_fr h hf
def sumEdge (xs : List EdgeR) (k : Nat) : Nat := ((xs.take k).map EdgeR.bulk).sum
theorem sumEdge_succ (xs : List EdgeR) (k : Nat) (h : k < xs.length) : sumEdge xs (k + 1) = sumEdge xs k + (edgeAt xs k).bulk := by
  unfold sumEdge edgeAt
  rw [List.take_succ_eq_append_getElem h, List.map_append, List.sum_append]
  simp [List.getD, List.getElem?_eq_getElem h]
theorem sumEdge_le (xs : List EdgeR) (k : Nat) : sumEdge xs k ≤ sumEdge xs xs.length := by
  unfold sumEdge
  rw [List.take_length]
  conv => rhs; rw [← List.take_append_drop k xs]
  rw [List.map_append, List.sum_append]
  omega
def EdgesBulk (xs : List EdgeR) : Nat := xs.length + sumEdge xs xs.length
theorem edge_mem {xs : List EdgeR} {p : EdgeR → Prop} (h : ∀ x ∈ xs, p x) (k : Nat) (hk : k < xs.length) : p (edgeAt xs k) := by
  have := h xs[k] (List.getElem_mem hk)
  simpa [edgeAt, List.getD, List.getElem?_eq_getElem hk] using this

theorem szEdgeS_any (a : Value) (xs : List EdgeR) (left : Int) (w : World) (ha : EdgesR w a xs) (h0 : 0 ≤ left) (h1 : left ≤ 1048576) :
    Calls Try.prog 111 #[a, .int .i64 left] w fun e w' => e = .returned (.int .i64 (szR left xs.length)) ∧ w = w' := by
  obtain ⟨ao, ba, oa, ca, rfl, hca, hma, fa⟩ := ha.one
  clear ha fa
  by_cases hl : (xs.length : Int) ≤ left
  · have hr := szR_ok hl
    go_enter Try.func111, Try.ntmps111
    go_wp2
    go_ret
    exact ⟨ret_int (by first | rfl | exact hr.symm), rfl⟩
  · have hr := szR_no hl
    go_enter Try.func111, Try.ntmps111
    go_wp2
    go_ret
    exact ⟨ret_int (by first | rfl | exact hr.symm), rfl⟩

theorem edge_fill (xs : List EdgeR) (k : Nat) (hk : k < xs.length) : ((((fillR xs EdgeR.cells [.int .i64 0, .int .u8 0, .int .i64 0] k).set (k * 3) (Value.int .i64 (edgeAt xs k).f0)).set (k * 3 + 1) (Value.int .u8 ((edgeAt xs k).f1.toNat : Int))).set (k * 3 + 2) (Value.int .i64 (edgeAt xs k).f2)) = fillR xs EdgeR.cells [.int .i64 0, .int .u8 0, .int .i64 0] (k + 1) := by
  rw [fillR_split xs EdgeR.cells [.int .i64 0, .int .u8 0, .int .i64 0] k hk]
  have ha : ((xs.take k).flatMap EdgeR.cells).length = k * 3 := flat_len xs EdgeR.cells 3 EdgeR.cells_length k (Nat.le_of_lt hk)
  rw [set_mid _ _ _ 0 _ (by rw [ha]; rfl) (by simp)]
  rw [set_mid _ _ _ 1 _ (by rw [ha]) (by simp)]
  rw [set_mid _ _ _ 2 _ (by rw [ha]) (by simp)]
  rw [fillR_next xs EdgeR.cells [.int .i64 0, .int .u8 0, .int .i64 0] k hk]
  rfl
set_option maxHeartbeats 400000 in
theorem toEdgeS_any (a : Value) (xs : List EdgeR) (w : World) (ha : EdgesR w a xs) (hn : xs.length ≤ 1048576) :
    Calls Try.prog 112 #[a] w fun e w' => ∃ v, e = .returned v ∧ EdgesO w' w.heap.size v xs ∧ Fr w w' := by
  obtain ⟨ao, ba, oa, ca, rfl, hca, hma, fa⟩ := ha.one
  clear ha
  obtain ⟨i0, hi, hz0, hz1, hz2⟩ := info_parts info_Edge
  go_enter Try.func112, Try.ntmps112
  go_wp2_with (at_make; refine wpList_make_full _ rfl _ _ 30 rfl w.heap.size 157 i0 (.agg #[.int .i64 0, .int .u8 0, .int .i64 0]) 3 Try.underlying30 hi hz0 hz1 _ _ _ _ xs.length rfl rfl rfl rfl (by rw [hz2]; omega) (by unfold maxLen; omega) (by omega) ?_; intro w1 hown hgrow)
  rw [show (madeCells (Value.cells (.agg #[.int .i64 0, .int .u8 0, .int .i64 0])) (xs.length * 3)).toList = fillR xs EdgeR.cells [.int .i64 0, .int .u8 0, .int .i64 0] 0 from made_fill xs EdgeR.cells [.int .i64 0, .int .u8 0, .int .i64 0] 3 rfl (by omega)] at hown
  go_loopw [4] (fun i wr => ∃ k : Nat, k ≤ xs.length ∧ i = .int .i64 k ∧ wr.ownsRow w.heap.size 157 3 (.slice (some ⟨w.heap.size, 0, none⟩) xs.length xs.length) xs.length (fillR xs EdgeR.cells [.int .i64 0, .int .u8 0, .int .i64 0] k) ∧ Fr w wr) (fun i _ => xs.length - (intOf i).toNat)
  case atStart => exact ⟨0, Nat.zero_le _, rfl, hown, (Fr.refl w).grown hgrow (by simp)⟩
  case round =>
    clear hown hgrow
    obtain ⟨k, hk, rfl, ho, hfr⟩ := hrel
    by_cases hlt : k < xs.length
    · obtain ⟨rfl, hba, fa⟩ := fa (by omega)
      obtain ⟨x, hx⟩ : ∃ x, edgeAt xs k = x := ⟨_, rfl⟩
      have c0 : wr.cell? ⟨ba, oa + k * 3, none⟩ = some (.int .i64 x.f0) := (hfr.cell (p := ⟨ba, _, none⟩) hba).trans (hx ▸ (fa k hlt).1)
      have c1 : wr.cell? ⟨ba, oa + k * 3 + 1, none⟩ = some (.int .u8 (x.f1.toNat : Int)) := (hfr.cell (p := ⟨ba, _, none⟩) hba).trans (hx ▸ (fa k hlt).2.1)
      have c2 : wr.cell? ⟨ba, oa + k * 3 + 2, none⟩ = some (.int .i64 x.f2) := (hfr.cell (p := ⟨ba, _, none⟩) hba).trans (hx ▸ (fa k hlt).2.2)
      have hfl := Lib.hid (edge_fill xs k hlt)
      rw [hx] at hfl
      have hgs : w.heap.size < wr.heap.size := (ho.lt _ rfl).2
      clear fa hx
      go_wp2_with (go_at_call 179; refine (toEdge_any x _).mono ?_; rintro e w2 ⟨rfl, hf1⟩; have ho2 := owns_fr ho hf1; have g0 := ho2.frozenAt (k * 3); obtain ⟨u0, d0⟩ := owns_cell ho2 (k * 3) (by omega); have g1 := ho2.frozenAt (k * 3 + 1); obtain ⟨u1, d1⟩ := owns_cell ho2 (k * 3 + 1) (by omega); have g2 := ho2.frozenAt (k * 3 + 2); obtain ⟨u2, d2⟩ := owns_cell ho2 (k * 3 + 2) (by omega))
      have ho2 := owns_fr ho hf1
      have s0 := ho2.stored (k * 3) (.int .i64 x.f0)
      have s1 := s0.1.stored (k * 3 + 1) (.int .u8 (x.f1.toNat : Int))
      have s2 := s1.1.stored (k * 3 + 2) (.int .i64 x.f2)
      go_roundw
      case rel => exact ⟨k + 1, by omega, by go_num, hfl.out ▸ s2.1, by repeat (first | (with_reducible exact Fr.refl _) | (with_reducible assumption) | (with_reducible refine Fr.drewN ?_ _) | (with_reducible refine Fr.drew ?_) | (with_reducible refine Fr.alloc ?_ _) | (with_reducible refine Fr.setCell ?_ (by (first | (with_reducible assumption) | omega | (simp only [World.size_alloc, World.size_setCell, World.size_drew, World.heap_drewN]; omega) | (simp; done) | (simp; omega))) _) | (with_reducible refine Fr.trans ?_ (by with_reducible assumption)))⟩
      case measure => (simp [intOf]; omega)
    · clear fa
      obtain rfl : k = xs.length := by omega
      rw [fillR_all] at ho
      go_wp2
      go_ret
      exact ⟨_, rfl, ho, hfr⟩

theorem eqEdgeS_same (a b : Value) (xs : List EdgeR) (w : World) (ha : EdgesR w a xs) (hb : EdgesR w b xs) :
    Calls Try.prog 114 #[a, b] w fun e w' => e = .returned (.bool true) ∧ Fr w w' := by
  obtain ⟨ao, ba, oa, ca, rfl, hca, hma, fa⟩ := ha.one
  obtain ⟨bo, bb, ob, cb, rfl, hcb, hmb, fb⟩ := hb.one
  clear ha hb
  go_enter Try.func114, Try.ntmps114
  go_wp2
  go_loopw [5] (fun i wr => ∃ k : Nat, k ≤ xs.length ∧ i = .int .i64 k ∧ Fr w wr) (fun i _ => xs.length - (intOf i).toNat)
  case atStart => exact ⟨0, Nat.zero_le _, rfl, Fr.refl _⟩
  case round =>
    obtain ⟨k, hk, rfl, hfr⟩ := hrel
    by_cases hlt : k < xs.length
    · obtain ⟨rfl, hba, fa⟩ := fa (by omega)
      obtain ⟨rfl, hbb, fb⟩ := fb (by omega)
      obtain ⟨x, hx⟩ : ∃ x, edgeAt xs k = x := ⟨_, rfl⟩
      have c0 : ∀ w', Fr wr w' → w'.cell? ⟨ba, oa + k * 3, none⟩ = some (.int .i64 x.f0) := fun w' hf => ((hfr.trans hf).cell (p := ⟨ba, _, none⟩) hba).trans (hx ▸ (fa k hlt).1)
      have c1 : ∀ w', Fr wr w' → w'.cell? ⟨ba, oa + k * 3 + 1, none⟩ = some (.int .u8 (x.f1.toNat : Int)) := fun w' hf => ((hfr.trans hf).cell (p := ⟨ba, _, none⟩) hba).trans (hx ▸ (fa k hlt).2.1)
      have c2 : ∀ w', Fr wr w' → w'.cell? ⟨ba, oa + k * 3 + 2, none⟩ = some (.int .i64 x.f2) := fun w' hf => ((hfr.trans hf).cell (p := ⟨ba, _, none⟩) hba).trans (hx ▸ (fa k hlt).2.2)
      have e0 : ∀ w', Fr wr w' → w'.cell? ⟨bb, ob + k * 3, none⟩ = some (.int .i64 x.f0) := fun w' hf => ((hfr.trans hf).cell (p := ⟨bb, _, none⟩) hbb).trans (hx ▸ (fb k hlt).1)
      have e1 : ∀ w', Fr wr w' → w'.cell? ⟨bb, ob + k * 3 + 1, none⟩ = some (.int .u8 (x.f1.toNat : Int)) := fun w' hf => ((hfr.trans hf).cell (p := ⟨bb, _, none⟩) hbb).trans (hx ▸ (fb k hlt).2.1)
      have e2 : ∀ w', Fr wr w' → w'.cell? ⟨bb, ob + k * 3 + 2, none⟩ = some (.int .i64 x.f2) := fun w' hf => ((hfr.trans hf).cell (p := ⟨bb, _, none⟩) hbb).trans (hx ▸ (fb k hlt).2.2)
      clear fa fb hx
      go_wp2_with fail
      go_region_held3 (fun w' => Fr wr w') (repeat (first | (with_reducible exact Fr.refl _) | (with_reducible assumption) | (with_reducible refine Fr.drewN ?_ _) | (with_reducible refine Fr.drew ?_) | (with_reducible refine Fr.alloc ?_ _) | (with_reducible refine Fr.setCell ?_ (by (first | (with_reducible assumption) | omega | (simp only [World.size_alloc, World.size_setCell, World.size_drew, World.heap_drewN]; omega) | (simp; done) | (simp; omega))) _) | (with_reducible refine Fr.trans ?_ (by with_reducible assumption)))) (first | (go_at_call 181; refine (eqEdge_same x _).mono ?_; rintro e w2 ⟨rfl, hf1⟩))
      go_wp2_with fail
      go_roundw
      case rel => exact ⟨k + 1, by omega, by go_num, by repeat (first | (with_reducible exact Fr.refl _) | (with_reducible assumption) | (with_reducible refine Fr.drewN ?_ _) | (with_reducible refine Fr.drew ?_) | (with_reducible refine Fr.alloc ?_ _) | (with_reducible refine Fr.setCell ?_ (by (first | (with_reducible assumption) | omega | (simp only [World.size_alloc, World.size_setCell, World.size_drew, World.heap_drewN]; omega) | (simp; done) | (simp; omega))) _) | (with_reducible refine Fr.trans ?_ (by with_reducible assumption)))⟩
      case measure => (simp [intOf]; omega)
    · clear fa fb
      go_wp2
      go_ret
      exact ⟨rfl, hfr⟩
end Go.Proofs.Ytjgghiniajmfjaa

/- Marks of slices of Edge; their interface. (Printed by mk_types.py.) No condition but the sizes that the reading gives. -/
namespace Go.Proofs.Ytjgghiniajmfjaa
open Go.RowKit
set_option linter.unusedVariables false
set_option linter.unusedSimpArgs false

theorem num_u8 (x : Int) (h : 0 ≤ x) : ((UInt8.ofNat x.toNat).toNat : Int) = x % 256 := by simp; omega
def mkEdge (k : Int) : EdgeR := ⟨k, UInt8.ofNat (k + 1).toNat, (k + 1 + 1)⟩
def mkEdges (k : Int) (n : Nat) : List EdgeR := (List.range n).map fun i : Nat => mkEdge (k + 3 * i)
theorem mkEdges_length (k : Int) (n : Nat) : (mkEdges k n).length = n := by simp [mkEdges]
theorem mkEdges_at (k : Int) (n j : Nat) (h : j < n) : edgeAt (mkEdges k n) j = mkEdge (k + 3 * j) := by simp [mkEdges, edgeAt, List.getD, h]
theorem edge_oneCells (xs : List EdgeR) : ∀ u ∈ xs.flatMap EdgeR.cells, u.oneCell' = true := by
  intro u hu
  obtain ⟨x, _, h⟩ := List.mem_flatMap.1 hu
  simp only [EdgeR.cells, List.mem_cons, List.not_mem_nil, or_false] at h
  rcases h with rfl | rfl | rfl <;> rfl
def EdgesW (w : World) (lo hi : Nat) (v : Value) (xs : List EdgeR) : Prop := OwW w lo hi 157 3 v xs.length (xs.flatMap EdgeR.cells)
theorem EdgesW.rd {w : World} {lo hi : Nat} {v : Value} {xs : List EdgeR} (h : EdgesW w lo hi v xs) : EdgesR w v xs := OwW.rd h
theorem EdgesW.val {w : World} {lo hi : Nat} {v : Value} {xs : List EdgeR} (h : EdgesW w lo hi v xs) : ∃ ao cap, v = .slice ao xs.length cap := OwW.val h
theorem EdgesW.fr {w w' : World} {lo hi : Nat} {v : Value} {xs : List EdgeR} (h : EdgesW w lo hi v xs) (hf : Fr w w') : EdgesW w' lo hi v xs := OwW.fr h hf
theorem EdgesW.span {w w' : World} {lo hi : Nat} {v : Value} {xs : List EdgeR} (h : EdgesW w lo hi v xs) {a b : Nat} (s : Span a b w w') (hd : hi ≤ a ∨ b ≤ lo) : EdgesW w' lo hi v xs := OwW.span h s hd
theorem EdgesW.nil (w : World) (lo hi : Nat) : EdgesW w lo hi (.slice none 0 0) [] := OwW.nil _ _ _ _ _
theorem toEdgeS_w (a : Value) (xs : List EdgeR) (w : World) (ha : EdgesR w a xs) (hn : xs.length ≤ 1048576) :
    Calls Try.prog 112 #[a] w fun e w' => ∃ ao cap, e = .returned (.slice ao xs.length cap) ∧ EdgesW w' w.heap.size w'.heap.size (.slice ao xs.length cap) xs ∧ Fr w w' :=
  (toEdgeS_any a xs w ha hn).mono fun e w' h => by
    obtain ⟨v, rfl, ho, hf⟩ := h
    obtain ⟨ao, cap, rfl⟩ := ho.val
    exact ⟨ao, cap, rfl, OwW.of_owns ho, hf⟩
theorem edge_part (new old : List EdgeR) (m : Nat) (hm : m < old.length) (hl : new.length = old.length) : ((((partR new old EdgeR.cells m).set (m * 3) (Value.int .i64 (edgeAt new m).f0)).set (m * 3 + 1) (Value.int .u8 ((edgeAt new m).f1.toNat : Int))).set (m * 3 + 2) (Value.int .i64 (edgeAt new m).f2)) = partR new old EdgeR.cells (m + 1) := by
  rw [partR_split new old EdgeR.cells m hm]
  have ha : ((new.take m).flatMap EdgeR.cells).length = m * 3 := flat_len new EdgeR.cells 3 EdgeR.cells_length m (by omega)
  rw [set_mid _ _ _ 0 _ (by rw [ha]; rfl) (by rw [EdgeR.cells_length]; omega)]
  rw [set_mid _ _ _ 1 _ (by rw [ha]) (by simp only [List.length_set]; rw [EdgeR.cells_length]; omega)]
  rw [set_mid _ _ _ 2 _ (by rw [ha]) (by simp only [List.length_set]; rw [EdgeR.cells_length]; omega)]
  rw [partR_next new old EdgeR.cells m (by omega)]
  rfl
set_option maxHeartbeats 1000000 in
set_option maxRecDepth 100000 in
theorem markEdgeS_any (g n cap : Nat) (xs : List EdgeR) (k : Int) (lo : Nat) (w : World) (ha : w.ownsRow lo 157 3 (.slice (some ⟨g, 0, none⟩) n cap) n (xs.flatMap EdgeR.cells)) (hn : xs.length = n) (h0 : 0 < k) (h1 : k + 3 * n ≤ 1073741824) :
    Calls Try.prog 115 #[.slice (some ⟨g, 0, none⟩) n cap, .int .i64 k] w fun e w' => e = .returned (.int .i64 (k + 3 * n)) ∧ w'.ownsRow lo 157 3 (.slice (some ⟨g, 0, none⟩) n cap) n ((mkEdges k n).flatMap EdgeR.cells) ∧ w.grownBy w' (some g) := by
  have hg0 : g < w.heap.size := (ha.lt g rfl).2
  go_enter Try.func115, Try.ntmps115
  go_wp2
  go_loopw [1, 5] (fun l i wr => ∃ m : Nat, m ≤ n ∧ i = .int .i64 m ∧ l = .int .i64 (k + 3 * m) ∧ wr.ownsRow lo 157 3 (.slice (some ⟨g, 0, none⟩) n cap) n (partR (mkEdges k n) xs EdgeR.cells m) ∧ w.grownBy wr (some g)) (fun _ i _ => n - (intOf i).toNat)
  case atStart => exact ⟨0, Nat.zero_le _, rfl, by simp, by rw [partR_zero]; exact ha, World.grownBy.refl _ _⟩
  case round =>
    clear ha
    obtain ⟨m, hm, rfl, rfl, ho, hfr⟩ := hrel
    by_cases hlt : m < n
    · have hp := edge_part (mkEdges k n) xs m (by omega) (by rw [mkEdges_length, hn])
      rw [mkEdges_at k n m hlt] at hp
      simp only [mkEdge] at hp
      rw [num_u8 _ (by omega)] at hp
      have HP := Lib.hid hp
      clear hp
      have f0 := ho.frozenAt (m * 3); obtain ⟨u0, c0⟩ := owns_cell ho (m * 3) (by omega); have s0 := ho.stored (m * 3) (.int .i64 (k + 3 * m))
      have f1 := s0.1.frozenAt (m * 3 + 1); obtain ⟨u1, c1⟩ := owns_cell s0.1 (m * 3 + 1) (by omega); have s1 := s0.1.stored (m * 3 + 1) (.int .u8 ((k + 3 * m + 1) % 256))
      have f2 := s1.1.frozenAt (m * 3 + 2); obtain ⟨u2, c2⟩ := owns_cell s1.1 (m * 3 + 2) (by omega); have s2 := s1.1.stored (m * 3 + 2) (.int .i64 (k + 3 * m + 1 + 1))
      go_wp2_with fail
      go_roundw
      case rel => exact ⟨m + 1, by omega, by go_num, by go_num, HP.out ▸ s2.1, gr_trans (gr_trans (gr_trans hfr (s0.2)) (s1.2)) (s2.2)⟩
      case measure => (simp [intOf]; omega)
    · obtain rfl : m = n := by omega
      rw [partR_all _ _ _ m (by rw [mkEdges_length]) hn] at ho
      go_wp2
      go_ret
      exact ⟨rfl, ho, hfr⟩
theorem markEdgeS_w (v : Value) (xs : List EdgeR) (k : Int) (lo hi : Nat) (w : World) (ha : EdgesW w lo hi v xs) (h0 : 0 < k) (h1 : k + 3 * xs.length ≤ 1073741824) :
    Calls Try.prog 115 #[v, .int .i64 k] w fun e w' => e = .returned (.int .i64 (k + 3 * xs.length)) ∧ EdgesW w' lo hi v (mkEdges k xs.length) ∧ Span lo hi w w' := by
  rcases owns_shape ha.1 with ⟨rfl, hn, hx⟩ | ⟨g, cap, rfl, _⟩
  · have h3 : xs = [] := List.eq_nil_of_length_eq_zero hn
    subst h3
    clear ha hn hx
    go_enter Try.func115, Try.ntmps115
    go_wp2
    go_loopw [1, 5] (fun l i wr => i = .int .i64 0 ∧ l = .int .i64 k ∧ wr = w) (fun _ i _ => 0)
    case atStart => exact ⟨rfl, rfl, rfl⟩
    case round =>
      obtain ⟨rfl, rfl, rfl⟩ := hrel
      go_wp2
      go_ret
      exact ⟨by simp, by simpa [EdgesW, mkEdges] using OwW.nil _ _ _ _ _, Span.refl _ _ _⟩
  · refine (markEdgeS_any g xs.length cap xs k lo w ha.1 rfl h0 h1).mono fun e w' h => ⟨h.1, ⟨?_, ha.2⟩, Span.of_gr h.2.2 ha.2⟩
    rw [mkEdges_length]
    exact h.2.1
end Go.Proofs.Ytjgghiniajmfjaa

/- The struct Graph, which holds one row: the laws' helpers. (Printed by mk_types.py.) No condition but the sizes that the reading gives. -/
namespace Go.Proofs.Ytjgghiniajmfjaa
open Go.RowKit
set_option linter.unusedVariables false
set_option linter.unusedSimpArgs false

structure GraphD where
  f0 : Int
  f1 : List EdgeR
def GraphRd (w : World) (v : Value) (d : GraphD) : Prop := ∃ u, v = .agg #[.int .i64 d.f0, u] ∧ EdgesR w u d.f1
def GraphW (w : World) (lo hi : Nat) (v : Value) (d : GraphD) : Prop := ∃ ao cap, v = .agg #[.int .i64 d.f0, .slice ao d.f1.length cap] ∧ EdgesW w lo hi (.slice ao d.f1.length cap) d.f1
theorem GraphRd.fr {w w' : World} {v : Value} {d : GraphD} (h : GraphRd w v d) (hf : Fr w w') : GraphRd w' v d := by obtain ⟨u, h1, h2⟩ := h; exact ⟨u, h1, h2.fr hf⟩
theorem GraphW.fr {w w' : World} {lo hi : Nat} {v : Value} {d : GraphD} (h : GraphW w lo hi v d) (hf : Fr w w') : GraphW w' lo hi v d := by obtain ⟨a, c, h1, h2⟩ := h; exact ⟨a, c, h1, h2.fr hf⟩
theorem GraphW.rd {w : World} {lo hi : Nat} {v : Value} {d : GraphD} (h : GraphW w lo hi v d) : GraphRd w v d := by obtain ⟨a, c, h1, h2⟩ := h; exact ⟨_, h1, h2.rd⟩
theorem GraphW.span {w w' : World} {lo hi : Nat} {v : Value} {d : GraphD} (h : GraphW w lo hi v d) {a b : Nat} (s : Span a b w w') (hd : hi ≤ a ∨ b ≤ lo) : GraphW w' lo hi v d := by obtain ⟨x, c, h1, h2⟩ := h; exact ⟨x, c, h1, h2.span s hd⟩
theorem GraphW.val {w : World} {lo hi : Nat} {v : Value} {d : GraphD} (h : GraphW w lo hi v d) : ∃ ao cap, v = .agg #[.int .i64 d.f0, .slice ao d.f1.length cap] := by obtain ⟨a, c, h1, h2⟩ := h; exact ⟨a, c, h1⟩
set_option maxHeartbeats 1000000 in
theorem toGraph_w (v : Value) (d : GraphD) (w : World) (hv : GraphRd w v d) (hn : d.f1.length ≤ 1048576) :
    Calls Try.prog 40 #[v] w fun e w' => ∃ ao cap, e = .returned (.agg #[.int .i64 d.f0, .slice ao d.f1.length cap]) ∧ GraphW w' w.heap.size w'.heap.size (.agg #[.int .i64 d.f0, .slice ao d.f1.length cap]) d ∧ Fr w w' := by
  obtain ⟨u, rfl, hu⟩ := hv
  go_enter Try.func40, Try.ntmps40
  go_wp2_with fail
  refine (toEdgeS_w _ d.f1 _ (hu.fr (by repeat (first | (with_reducible exact Fr.refl _) | (with_reducible assumption) | (with_reducible refine Fr.drewN ?_ _) | (with_reducible refine Fr.drew ?_) | (with_reducible refine Fr.alloc ?_ _) | (with_reducible refine Fr.setCell ?_ (by (first | (with_reducible assumption) | omega | (simp only [World.size_alloc, World.size_setCell, World.size_drew, World.heap_drewN]; omega) | (simp; done) | (simp; omega))) _) | (with_reducible refine Fr.trans ?_ (by with_reducible assumption))))) hn).mono ?_
  rintro e w1 ⟨ao, ca, rfl, ho, hf⟩
  have k0 := hf.blk w.heap.size (by (first | (with_reducible assumption) | omega | (simp only [World.size_alloc, World.size_setCell, World.size_drew, World.heap_drewN]; omega) | (simp; done) | (simp; omega))); have k1 := hf.blk (w.heap.size + 1) (by (first | (with_reducible assumption) | omega | (simp only [World.size_alloc, World.size_setCell, World.size_drew, World.heap_drewN]; omega) | (simp; done) | (simp; omega))); have k2 := hf.blk (w.heap.size + 1 + 1) (by (first | (with_reducible assumption) | omega | (simp only [World.size_alloc, World.size_setCell, World.size_drew, World.heap_drewN]; omega) | (simp; done) | (simp; omega))); have z1 := hf.size; (try simp only [World.size_alloc, World.size_setCell, World.size_drew] at z1)
  go_wp2_with fail
  refine bodyPost_ret (v := .agg #[.int .i64 d.f0, .slice ao d.f1.length ca]) (by simp [results, Try.results40, go_sem, *]) rfl ⟨_, _, rfl, ?_, by repeat (first | (with_reducible exact Fr.refl _) | (with_reducible assumption) | (with_reducible refine Fr.drewN ?_ _) | (with_reducible refine Fr.drew ?_) | (with_reducible refine Fr.alloc ?_ _) | (with_reducible refine Fr.setCell ?_ (by (first | (with_reducible assumption) | omega | (simp only [World.size_alloc, World.size_setCell, World.size_drew, World.heap_drewN]; omega) | (simp; done) | (simp; omega))) _) | (with_reducible refine Fr.trans ?_ (by with_reducible assumption)))⟩
  exact ⟨ao, ca, rfl, OwW.mono (OwW.ab ho (by repeat (first | (with_reducible exact Ab.refl _ _) | (with_reducible assumption) | (with_reducible refine Ab.drewN ?_ _) | (with_reducible refine Ab.drew ?_) | (with_reducible refine Ab.alloc ?_ _) | (with_reducible refine Ab.setCell ?_ (by (first | (with_reducible assumption) | omega | (simp only [World.size_alloc, World.size_setCell, World.size_drew, World.heap_drewN]; omega) | (simp; done) | (simp; omega))) _) | (with_reducible refine Ab.fr ?_ (by with_reducible assumption))))) (by (first | (with_reducible assumption) | omega | (simp only [World.size_alloc, World.size_setCell, World.size_drew, World.heap_drewN]; omega) | (simp; done) | (simp; omega))) (by (first | (with_reducible assumption) | omega | (simp only [World.size_alloc, World.size_setCell, World.size_drew, World.heap_drewN]; omega) | (simp; done) | (simp; omega)))⟩
set_option maxHeartbeats 1000000 in
theorem eqGraph_same (a b : Value) (d : GraphD) (w : World) (ha : GraphRd w a d) (hb : GraphRd w b d) :
    Calls Try.prog 43 #[a, b] w fun e w' => e = .returned (.bool true) ∧ Fr w w' := by
  obtain ⟨u, rfl, hu⟩ := ha
  obtain ⟨v, rfl, hv⟩ := hb
  go_enter Try.func43, Try.ntmps43
  go_wp2_with (go_at_call 114; refine (eqEdgeS_same _ _ d.f1 _ (hu.fr (by repeat (first | (with_reducible exact Fr.refl _) | (with_reducible assumption) | (with_reducible refine Fr.drewN ?_ _) | (with_reducible refine Fr.drew ?_) | (with_reducible refine Fr.alloc ?_ _) | (with_reducible refine Fr.setCell ?_ (by (first | (with_reducible assumption) | omega | (simp only [World.size_alloc, World.size_setCell, World.size_drew, World.heap_drewN]; omega) | (simp; done) | (simp; omega))) _) | (with_reducible refine Fr.trans ?_ (by with_reducible assumption))))) (hv.fr (by repeat (first | (with_reducible exact Fr.refl _) | (with_reducible assumption) | (with_reducible refine Fr.drewN ?_ _) | (with_reducible refine Fr.drew ?_) | (with_reducible refine Fr.alloc ?_ _) | (with_reducible refine Fr.setCell ?_ (by (first | (with_reducible assumption) | omega | (simp only [World.size_alloc, World.size_setCell, World.size_drew, World.heap_drewN]; omega) | (simp; done) | (simp; omega))) _) | (with_reducible refine Fr.trans ?_ (by with_reducible assumption)))))).mono ?_; rintro e w1 ⟨rfl, hf⟩; have z1 := hf.size; (try simp only [World.size_alloc, World.size_setCell, World.size_drew] at z1); have k0 := hf.blk w.heap.size (by (first | (with_reducible assumption) | omega | (simp only [World.size_alloc, World.size_setCell, World.size_drew, World.heap_drewN]; omega) | (simp; done) | (simp; omega))); have k1 := hf.blk (w.heap.size + 1) (by (first | (with_reducible assumption) | omega | (simp only [World.size_alloc, World.size_setCell, World.size_drew, World.heap_drewN]; omega) | (simp; done) | (simp; omega))))
  go_ret
  exact ⟨rfl, by repeat (first | (with_reducible exact Fr.refl _) | (with_reducible assumption) | (with_reducible refine Fr.drewN ?_ _) | (with_reducible refine Fr.drew ?_) | (with_reducible refine Fr.alloc ?_ _) | (with_reducible refine Fr.setCell ?_ (by (first | (with_reducible assumption) | omega | (simp only [World.size_alloc, World.size_setCell, World.size_drew, World.heap_drewN]; omega) | (simp; done) | (simp; omega))) _) | (with_reducible refine Fr.trans ?_ (by with_reducible assumption)))⟩
def GraphD.bulk (d : GraphD) : Nat := (d.f1.length)
def GraphD.okSize (d : GraphD) : Prop := True
def GraphD.cnt (d : GraphD) : Nat := 3 * d.f1.length
set_option maxHeartbeats 1000000 in
set_option maxRecDepth 100000 in
theorem szGraph_w (v : Value) (d : GraphD) (left : Int) (w : World) (hv : GraphRd w v d) (hs : d.okSize) (h0 : 0 ≤ left) (h1 : left ≤ 1048576) :
    Calls Try.prog 38 #[v, .int .i64 left] w fun e w' => e = .returned (.int .i64 (szR left d.bulk)) ∧ Fr w w' := by
  obtain ⟨u, rfl, hu⟩ := hv
  unfold GraphD.okSize at hs
  by_cases hl : (d.bulk : Int) ≤ left
  · have hr := szR_ok hl
    go_enter Try.func38, Try.ntmps38
    go_wp2_with (go_at_call 111; refine (szEdgeS_any _ d.f1 _ _ (hu.fr (by repeat (first | (with_reducible exact Fr.refl _) | (with_reducible assumption) | (with_reducible refine Fr.drewN ?_ _) | (with_reducible refine Fr.drew ?_) | (with_reducible refine Fr.alloc ?_ _) | (with_reducible refine Fr.setCell ?_ (by (first | (with_reducible assumption) | omega | (simp only [World.size_alloc, World.size_setCell, World.size_drew, World.heap_drewN]; omega) | (simp; done) | (simp; omega))) _) | (with_reducible refine Fr.trans ?_ (by with_reducible assumption))))) (by omega) (by omega)).mono ?_; rintro e w1 ⟨rfl, hf⟩; subst hf)
    all_goals go_ret
    all_goals exact ⟨ret_int (by first | rfl | exact hr.symm | (rw [hr]; omega) | (exfalso; unfold GraphD.bulk at *; omega)), by repeat (first | (with_reducible exact Fr.refl _) | (with_reducible assumption) | (with_reducible refine Fr.drewN ?_ _) | (with_reducible refine Fr.drew ?_) | (with_reducible refine Fr.alloc ?_ _) | (with_reducible refine Fr.setCell ?_ (by (first | (with_reducible assumption) | omega | (simp only [World.size_alloc, World.size_setCell, World.size_drew, World.heap_drewN]; omega) | (simp; done) | (simp; omega))) _) | (with_reducible refine Fr.trans ?_ (by with_reducible assumption)))⟩
  · have hr := szR_no hl
    go_enter Try.func38, Try.ntmps38
    go_wp2_with (go_at_call 111; refine (szEdgeS_any _ d.f1 _ _ (hu.fr (by repeat (first | (with_reducible exact Fr.refl _) | (with_reducible assumption) | (with_reducible refine Fr.drewN ?_ _) | (with_reducible refine Fr.drew ?_) | (with_reducible refine Fr.alloc ?_ _) | (with_reducible refine Fr.setCell ?_ (by (first | (with_reducible assumption) | omega | (simp only [World.size_alloc, World.size_setCell, World.size_drew, World.heap_drewN]; omega) | (simp; done) | (simp; omega))) _) | (with_reducible refine Fr.trans ?_ (by with_reducible assumption))))) (by omega) (by omega)).mono ?_; rintro e w1 ⟨rfl, hf⟩; subst hf)
    all_goals go_ret
    all_goals exact ⟨ret_int (by first | rfl | exact hr.symm | (rw [hr]; omega) | (exfalso; unfold GraphD.bulk at *; omega)), by repeat (first | (with_reducible exact Fr.refl _) | (with_reducible assumption) | (with_reducible refine Fr.drewN ?_ _) | (with_reducible refine Fr.drew ?_) | (with_reducible refine Fr.alloc ?_ _) | (with_reducible refine Fr.setCell ?_ (by (first | (with_reducible assumption) | omega | (simp only [World.size_alloc, World.size_setCell, World.size_drew, World.heap_drewN]; omega) | (simp; done) | (simp; omega))) _) | (with_reducible refine Fr.trans ?_ (by with_reducible assumption)))⟩
def GraphD.mkd (d : GraphD) (k : Int) : GraphD := { d with f1 := mkEdges k d.f1.length }
theorem GraphD.mkd_cnt (d : GraphD) (k : Int) : (d.mkd k).cnt = d.cnt := by simp [GraphD.cnt, GraphD.mkd, mkEdges_length]
set_option maxHeartbeats 1000000 in
theorem markGraph_w (v : Value) (d : GraphD) (k : Int) (lo hi : Nat) (w : World) (ha : GraphW w lo hi v d) (hh : hi ≤ w.heap.size) (h0 : 0 < k) (h1 : k + d.cnt ≤ 1073741824) :
    Calls Try.prog 44 #[v, .int .i64 k] w fun e w' => e = .returned (.int .i64 (k + d.cnt)) ∧ GraphW w' lo hi v (d.mkd k) ∧ Span lo hi w w' := by
  unfold GraphD.cnt at h1 ⊢
  obtain ⟨ao, cap, rfl, hu⟩ := ha
  go_enter Try.func44, Try.ntmps44
  go_wp2_with fail
  refine (markEdgeS_w _ d.f1 k lo hi _ (hu.fr (by repeat (first | (with_reducible exact Fr.refl _) | (with_reducible assumption) | (with_reducible refine Fr.drewN ?_ _) | (with_reducible refine Fr.drew ?_) | (with_reducible refine Fr.alloc ?_ _) | (with_reducible refine Fr.setCell ?_ (by (first | (with_reducible assumption) | omega | (simp only [World.size_alloc, World.size_setCell, World.size_drew, World.heap_drewN]; omega) | (simp; done) | (simp; omega))) _) | (with_reducible refine Fr.trans ?_ (by with_reducible assumption))))) h0 (by omega)).mono ?_
  rintro e w1 ⟨rfl, ho, sp⟩
  have B := (Box.new w _ _).span sp (.inr hh)
  have F := B.facts
  go_wp2_with fail
  go_ret
  exact ⟨ret_int (by simp), ⟨ao, cap, by simp [GraphD.mkd, mkEdges_length], by simpa [GraphD.mkd, mkEdges_length] using ho⟩, (Span.of_fr (by repeat (first | (with_reducible exact Fr.refl _) | (with_reducible assumption) | (with_reducible refine Fr.drewN ?_ _) | (with_reducible refine Fr.drew ?_) | (with_reducible refine Fr.alloc ?_ _) | (with_reducible refine Fr.setCell ?_ (by (first | (with_reducible assumption) | omega | (simp only [World.size_alloc, World.size_setCell, World.size_drew, World.heap_drewN]; omega) | (simp; done) | (simp; omega))) _) | (with_reducible refine Fr.trans ?_ (by with_reducible assumption))))).trans sp⟩
end Go.Proofs.Ytjgghiniajmfjaa
