/- The struct Edge and slices of it: what they read as; the laws' helpers. No condition but the sizes that the reading gives. (Printed by mk_structs.py.) -/
import Derived.Test.YtphjlecbhbcbcaaStr
import Derived.Test.YtphjlecbhbcbcaaOk
import Derived.Deep.QuietTactic
import Derived.BigQuiet
import Derived.Deep.RegionHeld3
namespace Go.Proofs.Ytphjlecbhbcbcaa
open Go.RowKit
set_option linter.unusedVariables false
set_option linter.unusedSimpArgs false

structure EdgeR where
  f0 : Int
  f1 : UInt8
  f2 : Int
instance : Inhabited EdgeR := ⟨⟨default, default, default⟩⟩
def EdgeR.cells (x : EdgeR) : List Value := [.int .i64 x.f0, .int .u8 (x.f1.toNat : Int), .int .i64 x.f2]
theorem EdgeR.cells_length (x : EdgeR) : x.cells.length = 3 := rfl
def edgeAt (l : List EdgeR) (k : Nat) : EdgeR := l.getD k default
theorem EdgeR.ext' {x y : EdgeR} (h0 : x.f0 = y.f0) (h1 : x.f1 = y.f1) (h2 : x.f2 = y.f2) : x = y := by cases x; cases y; simp_all

def EdgesR (w : World) (v : Value) (xs : List EdgeR) : Prop := RdS w 3 v xs.length (xs.flatMap EdgeR.cells)
theorem EdgesR.fr {w w' : World} {v : Value} {xs : List EdgeR} (h : EdgesR w v xs) (hf : Fr w w') : EdgesR w' v xs := RdS.fr h hf
theorem EdgesR.le {w : World} {v : Value} {xs : List EdgeR} (h : EdgesR w v xs) : xs.length ≤ 9223372036854775807 := RdS.le h
theorem edge_flat (xs : List EdgeR) (k j : Nat) (hk : k < xs.length) (hj : j < 3) (d : Value) : (xs.flatMap EdgeR.cells).getD (k * 3 + j) d = (edgeAt xs k).cells.getD j d := by
  induction xs generalizing k with
  | nil => simp at hk
  | cons x xs ih =>
    rw [List.flatMap_cons]
    cases k with
    | zero => simp [List.getD, List.getElem?_append_left (show j < x.cells.length by rw [EdgeR.cells_length]; exact hj), edgeAt]
    | succ k =>
      have := ih k (by simpa using hk)
      simp only [List.getD] at this ⊢
      rw [List.getElem?_append_right (by rw [EdgeR.cells_length]; omega), show (k + 1) * 3 + j - x.cells.length = k * 3 + j by rw [EdgeR.cells_length]; omega, this]
      simp [edgeAt]
theorem EdgesR.one {w : World} {v : Value} {xs : List EdgeR} (h : EdgesR w v xs) :
    ∃ ao b o cap, v = .slice ao xs.length cap ∧ xs.length ≤ cap ∧ cap ≤ 9223372036854775807 ∧ (0 < xs.length → ao = some ⟨b, o, none⟩ ∧ b < w.heap.size ∧ ∀ k, k < xs.length → w.cell? ⟨b, o + k * 3, none⟩ = some (.int .i64 (edgeAt xs k).f0) ∧ w.cell? ⟨b, o + k * 3 + 1, none⟩ = some (.int .u8 ((edgeAt xs k).f1.toNat : Int)) ∧ w.cell? ⟨b, o + k * 3 + 2, none⟩ = some (.int .i64 (edgeAt xs k).f2)) := by
  obtain ⟨ao, b, o, cap, h1, h2, h3, h4⟩ := RdS.one h undef
  refine ⟨ao, b, o, cap, h1, h2, h3, fun hn => ⟨(h4 hn).1, (h4 hn).2.1, fun k hk => ?_⟩⟩
  have hc := (h4 hn).2.2
  exact ⟨by have := hc (k * 3 + 0) (by omega); rw [edge_flat xs k 0 hk (by omega)] at this; exact this, by have := hc (k * 3 + 1) (by omega); rw [edge_flat xs k 1 hk (by omega)] at this; exact this, by have := hc (k * 3 + 2) (by omega); rw [edge_flat xs k 2 hk (by omega)] at this; exact this⟩

theorem toEdge_any (x : EdgeR) (w : World) :
    Calls Try.prog 143 #[.agg #[.int .i64 x.f0, .int .u8 (x.f1.toNat : Int), .int .i64 x.f2]] w fun e w' => e = .returned (.agg #[.int .i64 x.f0, .int .u8 (x.f1.toNat : Int), .int .i64 x.f2]) ∧ Fr w w' := by
  go_enter Try.func143, Try.ntmps143
  go_wp2
  exact bodyPost_ret (v := .agg #[.int .i64 x.f0, .int .u8 (x.f1.toNat : Int), .int .i64 x.f2]) (by simp [results, Try.results143, go_sem]) rfl ⟨rfl, by repeat (first | (with_reducible exact Fr.refl _) | (with_reducible assumption) | (with_reducible refine Fr.drewN ?_ _) | (with_reducible refine Fr.drew ?_) | (with_reducible refine Fr.alloc ?_ _) | (with_reducible refine Fr.setCell ?_ (by (first | (with_reducible assumption) | omega | (simp only [World.size_alloc, World.size_setCell, World.size_drew, World.heap_drewN]; omega) | (simp; done) | (simp; omega))) _) | (with_reducible refine Fr.trans ?_ (by with_reducible assumption)))⟩

theorem eqEdge_same (x : EdgeR) (w : World) :
    Calls Try.prog 146 #[.agg #[.int .i64 x.f0, .int .u8 (x.f1.toNat : Int), .int .i64 x.f2], .agg #[.int .i64 x.f0, .int .u8 (x.f1.toNat : Int), .int .i64 x.f2]] w fun e w' => e = .returned (.bool true) ∧ Fr w w' := by
  go_enter Try.func146, Try.ntmps146
  go_wp2
  go_ret
  exact ⟨rfl, by repeat (first | (with_reducible exact Fr.refl _) | (with_reducible assumption) | (with_reducible refine Fr.drewN ?_ _) | (with_reducible refine Fr.drew ?_) | (with_reducible refine Fr.alloc ?_ _) | (with_reducible refine Fr.setCell ?_ (by (first | (with_reducible assumption) | omega | (simp only [World.size_alloc, World.size_setCell, World.size_drew, World.heap_drewN]; omega) | (simp; done) | (simp; omega))) _) | (with_reducible refine Fr.trans ?_ (by with_reducible assumption)))⟩

def EdgeR.bulk (x : EdgeR) : Nat := 0
def EdgeR.okSize (x : EdgeR) : Prop := True

theorem info_Edge : (Try.prog.info? 170).map (fun i => (i.zero, i.size, i.bytes)) = some (some (.agg #[.int .i64 0, .int .u8 0, .int .i64 0]), 3, 24) := by kernel_rfl
def EdgesO (w : World) (lo : Nat) (v : Value) (xs : List EdgeR) : Prop := w.ownsRow lo 170 3 v xs.length (xs.flatMap EdgeR.cells)
theorem EdgesO.rd {w : World} {lo : Nat} {v : Value} {xs : List EdgeR} (h : EdgesO w lo v xs) : EdgesR w v xs := RdS.of_owns h
theorem EdgesO.val {w : World} {lo : Nat} {v : Value} {xs : List EdgeR} (h : EdgesO w lo v xs) : ∃ ao cap, v = .slice ao xs.length cap := owns_val h
theorem EdgesO.fr {w w' : World} {lo : Nat} {v : Value} {xs : List EdgeR} (h : EdgesO w lo v xs) (hf : Fr w w') : EdgesO w' lo v xs := owns_fr h hf
def sumEdge (xs : List EdgeR) (k : Nat) : Nat := ((xs.take k).map EdgeR.bulk).sum
theorem sumEdge_succ (xs : List EdgeR) (k : Nat) (h : k < xs.length) : sumEdge xs (k + 1) = sumEdge xs k + (edgeAt xs k).bulk := by
  unfold sumEdge edgeAt
  rw [List.take_succ_eq_append_getElem h, List.map_append, List.sum_append]
  simp [List.getD, List.getElem?_eq_getElem h]
theorem sumEdge_le (xs : List EdgeR) (k : Nat) : sumEdge xs k ≤ sumEdge xs xs.length := by
  unfold sumEdge
  rw [List.take_length]
  conv => rhs; rw [← List.take_append_drop k xs]
  rw [List.map_append, List.sum_append]
  omega
def EdgesBulk (xs : List EdgeR) : Nat := xs.length + sumEdge xs xs.length
theorem edge_mem {xs : List EdgeR} {p : EdgeR → Prop} (h : ∀ x ∈ xs, p x) (k : Nat) (hk : k < xs.length) : p (edgeAt xs k) := by
  have := h xs[k] (List.getElem_mem hk)
  simpa [edgeAt, List.getD, List.getElem?_eq_getElem hk] using this

theorem szEdgeS_any (a : Value) (xs : List EdgeR) (left : Int) (w : World) (ha : EdgesR w a xs) (h0 : 0 ≤ left) (h1 : left ≤ 1048576) :
    Calls Try.prog 88 #[a, .int .i64 left] w fun e w' => e = .returned (.int .i64 (szR left xs.length)) ∧ w = w' := by
  obtain ⟨ao, ba, oa, ca, rfl, hca, hma, fa⟩ := ha.one
  clear ha fa
  by_cases hl : (xs.length : Int) ≤ left
  · have hr := szR_ok hl
    go_enter Try.func88, Try.ntmps88
    go_wp2
    go_ret
    exact ⟨ret_int (by first | rfl | exact hr.symm), rfl⟩
  · have hr := szR_no hl
    go_enter Try.func88, Try.ntmps88
    go_wp2
    go_ret
    exact ⟨ret_int (by first | rfl | exact hr.symm), rfl⟩

theorem edge_fill (xs : List EdgeR) (k : Nat) (hk : k < xs.length) : ((((fillR xs EdgeR.cells [.int .i64 0, .int .u8 0, .int .i64 0] k).set (k * 3) (Value.int .i64 (edgeAt xs k).f0)).set (k * 3 + 1) (Value.int .u8 ((edgeAt xs k).f1.toNat : Int))).set (k * 3 + 2) (Value.int .i64 (edgeAt xs k).f2)) = fillR xs EdgeR.cells [.int .i64 0, .int .u8 0, .int .i64 0] (k + 1) := by
  rw [fillR_split xs EdgeR.cells [.int .i64 0, .int .u8 0, .int .i64 0] k hk]
  have ha : ((xs.take k).flatMap EdgeR.cells).length = k * 3 := flat_len xs EdgeR.cells 3 EdgeR.cells_length k (Nat.le_of_lt hk)
  rw [set_mid _ _ _ 0 _ (by rw [ha]; rfl) (by simp)]
  rw [set_mid _ _ _ 1 _ (by rw [ha]) (by simp)]
  rw [set_mid _ _ _ 2 _ (by rw [ha]) (by simp)]
  rw [fillR_next xs EdgeR.cells [.int .i64 0, .int .u8 0, .int .i64 0] k hk]
  rfl
set_option maxHeartbeats 400000 in
theorem toEdgeS_any (a : Value) (xs : List EdgeR) (w : World) (ha : EdgesR w a xs) (hn : xs.length ≤ 1048576) :
    Calls Try.prog 91 #[a] w fun e w' => ∃ v, e = .returned v ∧ EdgesO w' w.heap.size v xs ∧ Fr w w' := by
  obtain ⟨ao, ba, oa, ca, rfl, hca, hma, fa⟩ := ha.one
  clear ha
  obtain ⟨i0, hi, hz0, hz1, hz2⟩ := info_parts info_Edge
  go_enter Try.func91, Try.ntmps91
  go_wp2_with (at_make; refine wpList_make_full _ rfl _ _ 49 rfl w.heap.size 170 i0 (.agg #[.int .i64 0, .int .u8 0, .int .i64 0]) 3 Try.underlying49 hi hz0 hz1 _ _ _ _ xs.length rfl rfl rfl rfl (by rw [hz2]; omega) (by unfold maxLen; omega) (by omega) ?_; intro w1 hown hgrow)
  rw [show (madeCells (Value.cells (.agg #[.int .i64 0, .int .u8 0, .int .i64 0])) (xs.length * 3)).toList = fillR xs EdgeR.cells [.int .i64 0, .int .u8 0, .int .i64 0] 0 from made_fill xs EdgeR.cells [.int .i64 0, .int .u8 0, .int .i64 0] 3 rfl (by omega)] at hown
  go_loopw [4] (fun i wr => ∃ k : Nat, k ≤ xs.length ∧ i = .int .i64 k ∧ wr.ownsRow w.heap.size 170 3 (.slice (some ⟨w.heap.size, 0, none⟩) xs.length xs.length) xs.length (fillR xs EdgeR.cells [.int .i64 0, .int .u8 0, .int .i64 0] k) ∧ Fr w wr) (fun i _ => xs.length - (intOf i).toNat)
  case atStart => exact ⟨0, Nat.zero_le _, rfl, hown, (Fr.refl w).grown hgrow (by simp)⟩
  case round =>
    clear hown hgrow
    obtain ⟨k, hk, rfl, ho, hfr⟩ := hrel
    by_cases hlt : k < xs.length
    · obtain ⟨rfl, hba, fa⟩ := fa (by omega)
      obtain ⟨x, hx⟩ : ∃ x, edgeAt xs k = x := ⟨_, rfl⟩
      have c0 : wr.cell? ⟨ba, oa + k * 3, none⟩ = some (.int .i64 x.f0) := (hfr.cell (p := ⟨ba, _, none⟩) hba).trans (hx ▸ (fa k hlt).1)
      have c1 : wr.cell? ⟨ba, oa + k * 3 + 1, none⟩ = some (.int .u8 (x.f1.toNat : Int)) := (hfr.cell (p := ⟨ba, _, none⟩) hba).trans (hx ▸ (fa k hlt).2.1)
      have c2 : wr.cell? ⟨ba, oa + k * 3 + 2, none⟩ = some (.int .i64 x.f2) := (hfr.cell (p := ⟨ba, _, none⟩) hba).trans (hx ▸ (fa k hlt).2.2)
      have hfl := Lib.hid (edge_fill xs k hlt)
      rw [hx] at hfl
      have hgs : w.heap.size < wr.heap.size := (ho.lt _ rfl).2
      clear fa hx
      go_wp2_with (go_at_call 143; refine (toEdge_any x _).mono ?_; rintro e w2 ⟨rfl, hf1⟩; have ho2 := owns_fr ho hf1; have g0 := ho2.frozenAt (k * 3); obtain ⟨u0, d0⟩ := owns_cell ho2 (k * 3) (by omega); have g1 := ho2.frozenAt (k * 3 + 1); obtain ⟨u1, d1⟩ := owns_cell ho2 (k * 3 + 1) (by omega); have g2 := ho2.frozenAt (k * 3 + 2); obtain ⟨u2, d2⟩ := owns_cell ho2 (k * 3 + 2) (by omega))
      have ho2 := owns_fr ho hf1
      have s0 := ho2.stored (k * 3) (.int .i64 x.f0)
      have s1 := s0.1.stored (k * 3 + 1) (.int .u8 (x.f1.toNat : Int))
      have s2 := s1.1.stored (k * 3 + 2) (.int .i64 x.f2)
      go_roundw
      case rel => exact ⟨k + 1, by omega, by go_num, hfl.out ▸ s2.1, by repeat (first | (with_reducible exact Fr.refl _) | (with_reducible assumption) | (with_reducible refine Fr.drewN ?_ _) | (with_reducible refine Fr.drew ?_) | (with_reducible refine Fr.alloc ?_ _) | (with_reducible refine Fr.setCell ?_ (by (first | (with_reducible assumption) | omega | (simp only [World.size_alloc, World.size_setCell, World.size_drew, World.heap_drewN]; omega) | (simp; done) | (simp; omega))) _) | (with_reducible refine Fr.trans ?_ (by with_reducible assumption)))⟩
      case measure => (simp [intOf]; omega)
    · clear fa
      obtain rfl : k = xs.length := by omega
      rw [fillR_all] at ho
      go_wp2
      go_ret
      exact ⟨_, rfl, ho, hfr⟩

theorem eqEdgeS_same (a b : Value) (xs : List EdgeR) (w : World) (ha : EdgesR w a xs) (hb : EdgesR w b xs) :
    Calls Try.prog 95 #[a, b] w fun e w' => e = .returned (.bool true) ∧ Fr w w' := by
  obtain ⟨ao, ba, oa, ca, rfl, hca, hma, fa⟩ := ha.one
  obtain ⟨bo, bb, ob, cb, rfl, hcb, hmb, fb⟩ := hb.one
  clear ha hb
  go_enter Try.func95, Try.ntmps95
  go_wp2
  go_loopw [5] (fun i wr => ∃ k : Nat, k ≤ xs.length ∧ i = .int .i64 k ∧ Fr w wr) (fun i _ => xs.length - (intOf i).toNat)
  case atStart => exact ⟨0, Nat.zero_le _, rfl, Fr.refl _⟩
  case round =>
    obtain ⟨k, hk, rfl, hfr⟩ := hrel
    by_cases hlt : k < xs.length
    · obtain ⟨rfl, hba, fa⟩ := fa (by omega)
      obtain ⟨rfl, hbb, fb⟩ := fb (by omega)
      obtain ⟨x, hx⟩ : ∃ x, edgeAt xs k = x := ⟨_, rfl⟩
      have c0 : ∀ w', Fr wr w' → w'.cell? ⟨ba, oa + k * 3, none⟩ = some (.int .i64 x.f0) := fun w' hf => ((hfr.trans hf).cell (p := ⟨ba, _, none⟩) hba).trans (hx ▸ (fa k hlt).1)
      have c1 : ∀ w', Fr wr w' → w'.cell? ⟨ba, oa + k * 3 + 1, none⟩ = some (.int .u8 (x.f1.toNat : Int)) := fun w' hf => ((hfr.trans hf).cell (p := ⟨ba, _, none⟩) hba).trans (hx ▸ (fa k hlt).2.1)
      have c2 : ∀ w', Fr wr w' → w'.cell? ⟨ba, oa + k * 3 + 2, none⟩ = some (.int .i64 x.f2) := fun w' hf => ((hfr.trans hf).cell (p := ⟨ba, _, none⟩) hba).trans (hx ▸ (fa k hlt).2.2)
      have e0 : ∀ w', Fr wr w' → w'.cell? ⟨bb, ob + k * 3, none⟩ = some (.int .i64 x.f0) := fun w' hf => ((hfr.trans hf).cell (p := ⟨bb, _, none⟩) hbb).trans (hx ▸ (fb k hlt).1)
      have e1 : ∀ w', Fr wr w' → w'.cell? ⟨bb, ob + k * 3 + 1, none⟩ = some (.int .u8 (x.f1.toNat : Int)) := fun w' hf => ((hfr.trans hf).cell (p := ⟨bb, _, none⟩) hbb).trans (hx ▸ (fb k hlt).2.1)
      have e2 : ∀ w', Fr wr w' → w'.cell? ⟨bb, ob + k * 3 + 2, none⟩ = some (.int .i64 x.f2) := fun w' hf => ((hfr.trans hf).cell (p := ⟨bb, _, none⟩) hbb).trans (hx ▸ (fb k hlt).2.2)
      clear fa fb hx
      go_wp2_with fail
      go_region_held3 (fun w' => Fr wr w') (repeat (first | (with_reducible exact Fr.refl _) | (with_reducible assumption) | (with_reducible refine Fr.drewN ?_ _) | (with_reducible refine Fr.drew ?_) | (with_reducible refine Fr.alloc ?_ _) | (with_reducible refine Fr.setCell ?_ (by (first | (with_reducible assumption) | omega | (simp only [World.size_alloc, World.size_setCell, World.size_drew, World.heap_drewN]; omega) | (simp; done) | (simp; omega))) _) | (with_reducible refine Fr.trans ?_ (by with_reducible assumption)))) (first | (go_at_call 146; refine (eqEdge_same x _).mono ?_; rintro e w2 ⟨rfl, hf1⟩))
      go_wp2_with fail
      go_roundw
      case rel => exact ⟨k + 1, by omega, by go_num, by repeat (first | (with_reducible exact Fr.refl _) | (with_reducible assumption) | (with_reducible refine Fr.drewN ?_ _) | (with_reducible refine Fr.drew ?_) | (with_reducible refine Fr.alloc ?_ _) | (with_reducible refine Fr.setCell ?_ (by (first | (with_reducible assumption) | omega | (simp only [World.size_alloc, World.size_setCell, World.size_drew, World.heap_drewN]; omega) | (simp; done) | (simp; omega))) _) | (with_reducible refine Fr.trans ?_ (by with_reducible assumption)))⟩
      case measure => (simp [intOf]; omega)
    · clear fa fb
      go_wp2
      go_ret
      exact ⟨rfl, hfr⟩
end Go.Proofs.Ytphjlecbhbcbcaa
