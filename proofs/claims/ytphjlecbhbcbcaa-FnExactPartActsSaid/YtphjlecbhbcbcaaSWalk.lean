/- The struct Walk and slices of it: what they read as; the laws' helpers. No condition but the sizes that the reading gives. (Printed by mk_structs.py.) -/
import Derived.Test.YtphjlecbhbcbcaaStr
import Derived.Test.YtphjlecbhbcbcaaOk
import Derived.Deep.QuietTactic
import Derived.BigQuiet
import Derived.Deep.RegionHeld3
namespace Go.Proofs.Ytphjlecbhbcbcaa
open Go.RowKit
set_option linter.unusedVariables false
set_option linter.unusedSimpArgs false

structure WalkR where
  f0 : Int
  f1 : Int
  f2 : Int
  f3 : Int
instance : Inhabited WalkR := ⟨⟨default, default, default, default⟩⟩
def WalkR.cells (x : WalkR) : List Value := [.int .i64 x.f0, .int .i64 x.f1, .int .i64 x.f2, .int .i64 x.f3]
theorem WalkR.cells_length (x : WalkR) : x.cells.length = 4 := rfl
def walkAt (l : List WalkR) (k : Nat) : WalkR := l.getD k default
theorem WalkR.ext' {x y : WalkR} (h0 : x.f0 = y.f0) (h1 : x.f1 = y.f1) (h2 : x.f2 = y.f2) (h3 : x.f3 = y.f3) : x = y := by cases x; cases y; simp_all

def WalksR (w : World) (v : Value) (xs : List WalkR) : Prop := RdS w 4 v xs.length (xs.flatMap WalkR.cells)
theorem WalksR.fr {w w' : World} {v : Value} {xs : List WalkR} (h : WalksR w v xs) (hf : Fr w w') : WalksR w' v xs := RdS.fr h hf
theorem WalksR.le {w : World} {v : Value} {xs : List WalkR} (h : WalksR w v xs) : xs.length ≤ 9223372036854775807 := RdS.le h
theorem walk_flat (xs : List WalkR) (k j : Nat) (hk : k < xs.length) (hj : j < 4) (d : Value) : (xs.flatMap WalkR.cells).getD (k * 4 + j) d = (walkAt xs k).cells.getD j d := by
  induction xs generalizing k with
  | nil => simp at hk
  | cons x xs ih =>
    rw [List.flatMap_cons]
    cases k with
    | zero => simp [List.getD, List.getElem?_append_left (show j < x.cells.length by rw [WalkR.cells_length]; exact hj), walkAt]
    | succ k =>
      have := ih k (by simpa using hk)
      simp only [List.getD] at this ⊢
      rw [List.getElem?_append_right (by rw [WalkR.cells_length]; omega), show (k + 1) * 4 + j - x.cells.length = k * 4 + j by rw [WalkR.cells_length]; omega, this]
      simp [walkAt]
theorem WalksR.one {w : World} {v : Value} {xs : List WalkR} (h : WalksR w v xs) :
    ∃ ao b o cap, v = .slice ao xs.length cap ∧ xs.length ≤ cap ∧ cap ≤ 9223372036854775807 ∧ (0 < xs.length → ao = some ⟨b, o, none⟩ ∧ b < w.heap.size ∧ ∀ k, k < xs.length → w.cell? ⟨b, o + k * 4, none⟩ = some (.int .i64 (walkAt xs k).f0) ∧ w.cell? ⟨b, o + k * 4 + 1, none⟩ = some (.int .i64 (walkAt xs k).f1) ∧ w.cell? ⟨b, o + k * 4 + 2, none⟩ = some (.int .i64 (walkAt xs k).f2) ∧ w.cell? ⟨b, o + k * 4 + 3, none⟩ = some (.int .i64 (walkAt xs k).f3)) := by
  obtain ⟨ao, b, o, cap, h1, h2, h3, h4⟩ := RdS.one h undef
  refine ⟨ao, b, o, cap, h1, h2, h3, fun hn => ⟨(h4 hn).1, (h4 hn).2.1, fun k hk => ?_⟩⟩
  have hc := (h4 hn).2.2
  exact ⟨by have := hc (k * 4 + 0) (by omega); rw [walk_flat xs k 0 hk (by omega)] at this; exact this, by have := hc (k * 4 + 1) (by omega); rw [walk_flat xs k 1 hk (by omega)] at this; exact this, by have := hc (k * 4 + 2) (by omega); rw [walk_flat xs k 2 hk (by omega)] at this; exact this, by have := hc (k * 4 + 3) (by omega); rw [walk_flat xs k 3 hk (by omega)] at this; exact this⟩

theorem toWalk_any (x : WalkR) (w : World) :
    Calls Try.prog 78 #[.agg #[.int .i64 x.f0, .int .i64 x.f1, .int .i64 x.f2, .int .i64 x.f3]] w fun e w' => e = .returned (.agg #[.int .i64 x.f0, .int .i64 x.f1, .int .i64 x.f2, .int .i64 x.f3]) ∧ Fr w w' := by
  go_enter Try.func78, Try.ntmps78
  go_wp2
  exact bodyPost_ret (v := .agg #[.int .i64 x.f0, .int .i64 x.f1, .int .i64 x.f2, .int .i64 x.f3]) (by simp [results, Try.results78, go_sem]) rfl ⟨rfl, by repeat (first | (with_reducible exact Fr.refl _) | (with_reducible assumption) | (with_reducible refine Fr.drewN ?_ _) | (with_reducible refine Fr.drew ?_) | (with_reducible refine Fr.alloc ?_ _) | (with_reducible refine Fr.setCell ?_ (by (first | (with_reducible assumption) | omega | (simp only [World.size_alloc, World.size_setCell, World.size_drew, World.heap_drewN]; omega) | (simp; done) | (simp; omega))) _) | (with_reducible refine Fr.trans ?_ (by with_reducible assumption)))⟩

theorem eqWalk_same (x : WalkR) (w : World) :
    Calls Try.prog 82 #[.agg #[.int .i64 x.f0, .int .i64 x.f1, .int .i64 x.f2, .int .i64 x.f3], .agg #[.int .i64 x.f0, .int .i64 x.f1, .int .i64 x.f2, .int .i64 x.f3]] w fun e w' => e = .returned (.bool true) ∧ Fr w w' := by
  go_enter Try.func82, Try.ntmps82
  go_wp2
  go_ret
  exact ⟨rfl, by repeat (first | (with_reducible exact Fr.refl _) | (with_reducible assumption) | (with_reducible refine Fr.drewN ?_ _) | (with_reducible refine Fr.drew ?_) | (with_reducible refine Fr.alloc ?_ _) | (with_reducible refine Fr.setCell ?_ (by (first | (with_reducible assumption) | omega | (simp only [World.size_alloc, World.size_setCell, World.size_drew, World.heap_drewN]; omega) | (simp; done) | (simp; omega))) _) | (with_reducible refine Fr.trans ?_ (by with_reducible assumption)))⟩

def WalkR.bulk (x : WalkR) : Nat := 0
def WalkR.okSize (x : WalkR) : Prop := True

theorem info_Walk : (Try.prog.info? 97).map (fun i => (i.zero, i.size, i.bytes)) = some (some (.agg #[.int .i64 0, .int .i64 0, .int .i64 0, .int .i64 0]), 4, 32) := by kernel_rfl
def WalksO (w : World) (lo : Nat) (v : Value) (xs : List WalkR) : Prop := w.ownsRow lo 97 4 v xs.length (xs.flatMap WalkR.cells)
theorem WalksO.rd {w : World} {lo : Nat} {v : Value} {xs : List WalkR} (h : WalksO w lo v xs) : WalksR w v xs := RdS.of_owns h
theorem WalksO.val {w : World} {lo : Nat} {v : Value} {xs : List WalkR} (h : WalksO w lo v xs) : ∃ ao cap, v = .slice ao xs.length cap := owns_val h
theorem WalksO.fr {w w' : World} {lo : Nat} {v : Value} {xs : List WalkR} (h : WalksO w lo v xs) (hf : Fr w w') : WalksO w' lo v xs := owns_fr h hf
def sumWalk (xs : List WalkR) (k : Nat) : Nat := ((xs.take k).map WalkR.bulk).sum
theorem sumWalk_succ (xs : List WalkR) (k : Nat) (h : k < xs.length) : sumWalk xs (k + 1) = sumWalk xs k + (walkAt xs k).bulk := by
  unfold sumWalk walkAt
  rw [List.take_succ_eq_append_getElem h, List.map_append, List.sum_append]
  simp [List.getD, List.getElem?_eq_getElem h]
theorem sumWalk_le (xs : List WalkR) (k : Nat) : sumWalk xs k ≤ sumWalk xs xs.length := by
  unfold sumWalk
  rw [List.take_length]
  conv => rhs; rw [← List.take_append_drop k xs]
  rw [List.map_append, List.sum_append]
  omega
def WalksBulk (xs : List WalkR) : Nat := xs.length + sumWalk xs xs.length
theorem walk_mem {xs : List WalkR} {p : WalkR → Prop} (h : ∀ x ∈ xs, p x) (k : Nat) (hk : k < xs.length) : p (walkAt xs k) := by
  have := h xs[k] (List.getElem_mem hk)
  simpa [walkAt, List.getD, List.getElem?_eq_getElem hk] using this

theorem szWalkS_any (a : Value) (xs : List WalkR) (left : Int) (w : World) (ha : WalksR w a xs) (h0 : 0 ≤ left) (h1 : left ≤ 1048576) :
    Calls Try.prog 14 #[a, .int .i64 left] w fun e w' => e = .returned (.int .i64 (szR left xs.length)) ∧ w = w' := by
  obtain ⟨ao, ba, oa, ca, rfl, hca, hma, fa⟩ := ha.one
  clear ha fa
  by_cases hl : (xs.length : Int) ≤ left
  · have hr := szR_ok hl
    go_enter Try.func14, Try.ntmps14
    go_wp2
    go_ret
    exact ⟨ret_int (by first | rfl | exact hr.symm), rfl⟩
  · have hr := szR_no hl
    go_enter Try.func14, Try.ntmps14
    go_wp2
    go_ret
    exact ⟨ret_int (by first | rfl | exact hr.symm), rfl⟩

theorem walk_fill (xs : List WalkR) (k : Nat) (hk : k < xs.length) : (((((fillR xs WalkR.cells [.int .i64 0, .int .i64 0, .int .i64 0, .int .i64 0] k).set (k * 4) (Value.int .i64 (walkAt xs k).f0)).set (k * 4 + 1) (Value.int .i64 (walkAt xs k).f1)).set (k * 4 + 2) (Value.int .i64 (walkAt xs k).f2)).set (k * 4 + 3) (Value.int .i64 (walkAt xs k).f3)) = fillR xs WalkR.cells [.int .i64 0, .int .i64 0, .int .i64 0, .int .i64 0] (k + 1) := by
  rw [fillR_split xs WalkR.cells [.int .i64 0, .int .i64 0, .int .i64 0, .int .i64 0] k hk]
  have ha : ((xs.take k).flatMap WalkR.cells).length = k * 4 := flat_len xs WalkR.cells 4 WalkR.cells_length k (Nat.le_of_lt hk)
  rw [set_mid _ _ _ 0 _ (by rw [ha]; rfl) (by simp)]
  rw [set_mid _ _ _ 1 _ (by rw [ha]) (by simp)]
  rw [set_mid _ _ _ 2 _ (by rw [ha]) (by simp)]
  rw [set_mid _ _ _ 3 _ (by rw [ha]) (by simp)]
  rw [fillR_next xs WalkR.cells [.int .i64 0, .int .i64 0, .int .i64 0, .int .i64 0] k hk]
  rfl
set_option maxHeartbeats 400000 in
theorem toWalkS_any (a : Value) (xs : List WalkR) (w : World) (ha : WalksR w a xs) (hn : xs.length ≤ 1048576) :
    Calls Try.prog 16 #[a] w fun e w' => ∃ v, e = .returned v ∧ WalksO w' w.heap.size v xs ∧ Fr w w' := by
  obtain ⟨ao, ba, oa, ca, rfl, hca, hma, fa⟩ := ha.one
  clear ha
  obtain ⟨i0, hi, hz0, hz1, hz2⟩ := info_parts info_Walk
  go_enter Try.func16, Try.ntmps16
  go_wp2_with (at_make; refine wpList_make_full _ rfl _ _ 26 rfl w.heap.size 97 i0 (.agg #[.int .i64 0, .int .i64 0, .int .i64 0, .int .i64 0]) 4 Try.underlying26 hi hz0 hz1 _ _ _ _ xs.length rfl rfl rfl rfl (by rw [hz2]; omega) (by unfold maxLen; omega) (by omega) ?_; intro w1 hown hgrow)
  rw [show (madeCells (Value.cells (.agg #[.int .i64 0, .int .i64 0, .int .i64 0, .int .i64 0])) (xs.length * 4)).toList = fillR xs WalkR.cells [.int .i64 0, .int .i64 0, .int .i64 0, .int .i64 0] 0 from made_fill xs WalkR.cells [.int .i64 0, .int .i64 0, .int .i64 0, .int .i64 0] 4 rfl (by omega)] at hown
  go_loopw [4] (fun i wr => ∃ k : Nat, k ≤ xs.length ∧ i = .int .i64 k ∧ wr.ownsRow w.heap.size 97 4 (.slice (some ⟨w.heap.size, 0, none⟩) xs.length xs.length) xs.length (fillR xs WalkR.cells [.int .i64 0, .int .i64 0, .int .i64 0, .int .i64 0] k) ∧ Fr w wr) (fun i _ => xs.length - (intOf i).toNat)
  case atStart => exact ⟨0, Nat.zero_le _, rfl, hown, (Fr.refl w).grown hgrow (by simp)⟩
  case round =>
    clear hown hgrow
    obtain ⟨k, hk, rfl, ho, hfr⟩ := hrel
    by_cases hlt : k < xs.length
    · obtain ⟨rfl, hba, fa⟩ := fa (by omega)
      obtain ⟨x, hx⟩ : ∃ x, walkAt xs k = x := ⟨_, rfl⟩
      have c0 : wr.cell? ⟨ba, oa + k * 4, none⟩ = some (.int .i64 x.f0) := (hfr.cell (p := ⟨ba, _, none⟩) hba).trans (hx ▸ (fa k hlt).1)
      have c1 : wr.cell? ⟨ba, oa + k * 4 + 1, none⟩ = some (.int .i64 x.f1) := (hfr.cell (p := ⟨ba, _, none⟩) hba).trans (hx ▸ (fa k hlt).2.1)
      have c2 : wr.cell? ⟨ba, oa + k * 4 + 2, none⟩ = some (.int .i64 x.f2) := (hfr.cell (p := ⟨ba, _, none⟩) hba).trans (hx ▸ (fa k hlt).2.2.1)
      have c3 : wr.cell? ⟨ba, oa + k * 4 + 3, none⟩ = some (.int .i64 x.f3) := (hfr.cell (p := ⟨ba, _, none⟩) hba).trans (hx ▸ (fa k hlt).2.2.2)
      have hfl := Lib.hid (walk_fill xs k hlt)
      rw [hx] at hfl
      have hgs : w.heap.size < wr.heap.size := (ho.lt _ rfl).2
      clear fa hx
      go_wp2_with (go_at_call 78; refine (toWalk_any x _).mono ?_; rintro e w2 ⟨rfl, hf1⟩; have ho2 := owns_fr ho hf1; have g0 := ho2.frozenAt (k * 4); obtain ⟨u0, d0⟩ := owns_cell ho2 (k * 4) (by omega); have g1 := ho2.frozenAt (k * 4 + 1); obtain ⟨u1, d1⟩ := owns_cell ho2 (k * 4 + 1) (by omega); have g2 := ho2.frozenAt (k * 4 + 2); obtain ⟨u2, d2⟩ := owns_cell ho2 (k * 4 + 2) (by omega); have g3 := ho2.frozenAt (k * 4 + 3); obtain ⟨u3, d3⟩ := owns_cell ho2 (k * 4 + 3) (by omega))
      have ho2 := owns_fr ho hf1
      have s0 := ho2.stored (k * 4) (.int .i64 x.f0)
      have s1 := s0.1.stored (k * 4 + 1) (.int .i64 x.f1)
      have s2 := s1.1.stored (k * 4 + 2) (.int .i64 x.f2)
      have s3 := s2.1.stored (k * 4 + 3) (.int .i64 x.f3)
      go_roundw
      case rel => exact ⟨k + 1, by omega, by go_num, hfl.out ▸ s3.1, by repeat (first | (with_reducible exact Fr.refl _) | (with_reducible assumption) | (with_reducible refine Fr.drewN ?_ _) | (with_reducible refine Fr.drew ?_) | (with_reducible refine Fr.alloc ?_ _) | (with_reducible refine Fr.setCell ?_ (by (first | (with_reducible assumption) | omega | (simp only [World.size_alloc, World.size_setCell, World.size_drew, World.heap_drewN]; omega) | (simp; done) | (simp; omega))) _) | (with_reducible refine Fr.trans ?_ (by with_reducible assumption)))⟩
      case measure => (simp [intOf]; omega)
    · clear fa
      obtain rfl : k = xs.length := by omega
      rw [fillR_all] at ho
      go_wp2
      go_ret
      exact ⟨_, rfl, ho, hfr⟩

theorem eqWalkS_same (a b : Value) (xs : List WalkR) (w : World) (ha : WalksR w a xs) (hb : WalksR w b xs) :
    Calls Try.prog 19 #[a, b] w fun e w' => e = .returned (.bool true) ∧ Fr w w' := by
  obtain ⟨ao, ba, oa, ca, rfl, hca, hma, fa⟩ := ha.one
  obtain ⟨bo, bb, ob, cb, rfl, hcb, hmb, fb⟩ := hb.one
  clear ha hb
  go_enter Try.func19, Try.ntmps19
  go_wp2
  go_loopw [5] (fun i wr => ∃ k : Nat, k ≤ xs.length ∧ i = .int .i64 k ∧ Fr w wr) (fun i _ => xs.length - (intOf i).toNat)
  case atStart => exact ⟨0, Nat.zero_le _, rfl, Fr.refl _⟩
  case round =>
    obtain ⟨k, hk, rfl, hfr⟩ := hrel
    by_cases hlt : k < xs.length
    · obtain ⟨rfl, hba, fa⟩ := fa (by omega)
      obtain ⟨rfl, hbb, fb⟩ := fb (by omega)
      obtain ⟨x, hx⟩ : ∃ x, walkAt xs k = x := ⟨_, rfl⟩
      have c0 : ∀ w', Fr wr w' → w'.cell? ⟨ba, oa + k * 4, none⟩ = some (.int .i64 x.f0) := fun w' hf => ((hfr.trans hf).cell (p := ⟨ba, _, none⟩) hba).trans (hx ▸ (fa k hlt).1)
      have c1 : ∀ w', Fr wr w' → w'.cell? ⟨ba, oa + k * 4 + 1, none⟩ = some (.int .i64 x.f1) := fun w' hf => ((hfr.trans hf).cell (p := ⟨ba, _, none⟩) hba).trans (hx ▸ (fa k hlt).2.1)
      have c2 : ∀ w', Fr wr w' → w'.cell? ⟨ba, oa + k * 4 + 2, none⟩ = some (.int .i64 x.f2) := fun w' hf => ((hfr.trans hf).cell (p := ⟨ba, _, none⟩) hba).trans (hx ▸ (fa k hlt).2.2.1)
      have c3 : ∀ w', Fr wr w' → w'.cell? ⟨ba, oa + k * 4 + 3, none⟩ = some (.int .i64 x.f3) := fun w' hf => ((hfr.trans hf).cell (p := ⟨ba, _, none⟩) hba).trans (hx ▸ (fa k hlt).2.2.2)
      have e0 : ∀ w', Fr wr w' → w'.cell? ⟨bb, ob + k * 4, none⟩ = some (.int .i64 x.f0) := fun w' hf => ((hfr.trans hf).cell (p := ⟨bb, _, none⟩) hbb).trans (hx ▸ (fb k hlt).1)
      have e1 : ∀ w', Fr wr w' → w'.cell? ⟨bb, ob + k * 4 + 1, none⟩ = some (.int .i64 x.f1) := fun w' hf => ((hfr.trans hf).cell (p := ⟨bb, _, none⟩) hbb).trans (hx ▸ (fb k hlt).2.1)
      have e2 : ∀ w', Fr wr w' → w'.cell? ⟨bb, ob + k * 4 + 2, none⟩ = some (.int .i64 x.f2) := fun w' hf => ((hfr.trans hf).cell (p := ⟨bb, _, none⟩) hbb).trans (hx ▸ (fb k hlt).2.2.1)
      have e3 : ∀ w', Fr wr w' → w'.cell? ⟨bb, ob + k * 4 + 3, none⟩ = some (.int .i64 x.f3) := fun w' hf => ((hfr.trans hf).cell (p := ⟨bb, _, none⟩) hbb).trans (hx ▸ (fb k hlt).2.2.2)
      clear fa fb hx
      go_wp2_with fail
      go_region_held3 (fun w' => Fr wr w') (repeat (first | (with_reducible exact Fr.refl _) | (with_reducible assumption) | (with_reducible refine Fr.drewN ?_ _) | (with_reducible refine Fr.drew ?_) | (with_reducible refine Fr.alloc ?_ _) | (with_reducible refine Fr.setCell ?_ (by (first | (with_reducible assumption) | omega | (simp only [World.size_alloc, World.size_setCell, World.size_drew, World.heap_drewN]; omega) | (simp; done) | (simp; omega))) _) | (with_reducible refine Fr.trans ?_ (by with_reducible assumption)))) (first | (go_at_call 82; refine (eqWalk_same x _).mono ?_; rintro e w2 ⟨rfl, hf1⟩))
      go_wp2_with fail
      go_roundw
      case rel => exact ⟨k + 1, by omega, by go_num, by repeat (first | (with_reducible exact Fr.refl _) | (with_reducible assumption) | (with_reducible refine Fr.drewN ?_ _) | (with_reducible refine Fr.drew ?_) | (with_reducible refine Fr.alloc ?_ _) | (with_reducible refine Fr.setCell ?_ (by (first | (with_reducible assumption) | omega | (simp only [World.size_alloc, World.size_setCell, World.size_drew, World.heap_drewN]; omega) | (simp; done) | (simp; omega))) _) | (with_reducible refine Fr.trans ?_ (by with_reducible assumption)))⟩
      case measure => (simp [intOf]; omega)
    · clear fa fb
      go_wp2
      go_ret
      exact ⟨rfl, hfr⟩
end Go.Proofs.Ytphjlecbhbcbcaa
