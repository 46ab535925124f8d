/- The struct Act and slices of it: what they read as; the laws' helpers. No condition but the sizes that the reading gives. (Printed by mk_structs.py.) -/
import Derived.Test.YthcbnilmhenpgaaStr
import Derived.Test.YthcbnilmhenpgaaOk
import Derived.Deep.QuietTactic
import Derived.BigQuiet
import Derived.Deep.RegionHeld3
namespace Go.Proofs.Ythcbnilmhenpgaa
open Go.RowKit
set_option linter.unusedVariables false
set_option linter.unusedSimpArgs false

structure ActR where
  f0 : Int
  f1 : ByteArray
  f2 : ByteArray
  f3 : ByteArray
instance : Inhabited ActR := ⟨⟨default, ByteArray.empty, ByteArray.empty, ByteArray.empty⟩⟩
def ActR.cells (x : ActR) : List Value := [.int .i64 x.f0, .string x.f1, .string x.f2, .string x.f3]
theorem ActR.cells_length (x : ActR) : x.cells.length = 4 := rfl
def actAt (l : List ActR) (k : Nat) : ActR := l.getD k default
theorem ActR.ext' {x y : ActR} (h0 : x.f0 = y.f0) (h1 : x.f1 = y.f1) (h2 : x.f2 = y.f2) (h3 : x.f3 = y.f3) : x = y := by cases x; cases y; simp_all

def ActsR (w : World) (v : Value) (xs : List ActR) : Prop := RdS w 4 v xs.length (xs.flatMap ActR.cells)
theorem ActsR.fr {w w' : World} {v : Value} {xs : List ActR} (h : ActsR w v xs) (hf : Fr w w') : ActsR w' v xs := RdS.fr h hf
theorem ActsR.le {w : World} {v : Value} {xs : List ActR} (h : ActsR w v xs) : xs.length ≤ 9223372036854775807 := RdS.le h
theorem act_flat (xs : List ActR) (k j : Nat) (hk : k < xs.length) (hj : j < 4) (d : Value) : (xs.flatMap ActR.cells).getD (k * 4 + j) d = (actAt xs k).cells.getD j d := by
  induction xs generalizing k with
  | nil => simp at hk
  | cons x xs ih =>
    rw [List.flatMap_cons]
    cases k with
    | zero => simp [List.getD, List.getElem?_append_left (show j < x.cells.length by rw [ActR.cells_length]; exact hj), actAt]
    | succ k =>
      have := ih k (by simpa using hk)
      simp only [List.getD] at this ⊢
      rw [List.getElem?_append_right (by rw [ActR.cells_length]; omega), show (k + 1) * 4 + j - x.cells.length = k * 4 + j by rw [ActR.cells_length]; omega, this]
      simp [actAt]
theorem ActsR.one {w : World} {v : Value} {xs : List ActR} (h : ActsR w v xs) :
    ∃ ao b o cap, v = .slice ao xs.length cap ∧ xs.length ≤ cap ∧ cap ≤ 9223372036854775807 ∧ (0 < xs.length → ao = some ⟨b, o, none⟩ ∧ b < w.heap.size ∧ ∀ k, k < xs.length → w.cell? ⟨b, o + k * 4, none⟩ = some (.int .i64 (actAt xs k).f0) ∧ w.cell? ⟨b, o + k * 4 + 1, none⟩ = some (.string (actAt xs k).f1) ∧ w.cell? ⟨b, o + k * 4 + 2, none⟩ = some (.string (actAt xs k).f2) ∧ w.cell? ⟨b, o + k * 4 + 3, none⟩ = some (.string (actAt xs k).f3)) := by
  obtain ⟨ao, b, o, cap, h1, h2, h3, h4⟩ := RdS.one h undef
  refine ⟨ao, b, o, cap, h1, h2, h3, fun hn => ⟨(h4 hn).1, (h4 hn).2.1, fun k hk => ?_⟩⟩
  have hc := (h4 hn).2.2
  exact ⟨by have := hc (k * 4 + 0) (by omega); rw [act_flat xs k 0 hk (by omega)] at this; exact this, by have := hc (k * 4 + 1) (by omega); rw [act_flat xs k 1 hk (by omega)] at this; exact this, by have := hc (k * 4 + 2) (by omega); rw [act_flat xs k 2 hk (by omega)] at this; exact this, by have := hc (k * 4 + 3) (by omega); rw [act_flat xs k 3 hk (by omega)] at this; exact this⟩

theorem toAct_any (x : ActR) (w : World) :
    Calls Try.prog 10 #[.agg #[.int .i64 x.f0, .string x.f1, .string x.f2, .string x.f3]] w fun e w' => e = .returned (.agg #[.int .i64 x.f0, .string x.f1, .string x.f2, .string x.f3]) ∧ Fr w w' := by
  go_enter Try.func10, Try.ntmps10
  go_wp2
  exact bodyPost_ret (v := .agg #[.int .i64 x.f0, .string x.f1, .string x.f2, .string x.f3]) (by simp [results, Try.results10, go_sem]) rfl ⟨rfl, by repeat (first | (with_reducible exact Fr.refl _) | (with_reducible assumption) | (with_reducible refine Fr.drewN ?_ _) | (with_reducible refine Fr.drew ?_) | (with_reducible refine Fr.alloc ?_ _) | (with_reducible refine Fr.setCell ?_ (by (first | (with_reducible assumption) | omega | (simp only [World.size_alloc, World.size_setCell, World.size_drew, World.heap_drewN]; omega) | (simp; done) | (simp; omega))) _) | (with_reducible refine Fr.trans ?_ (by with_reducible assumption)))⟩

theorem eqAct_same (x : ActR) (w : World) :
    Calls Try.prog 42 #[.agg #[.int .i64 x.f0, .string x.f1, .string x.f2, .string x.f3], .agg #[.int .i64 x.f0, .string x.f1, .string x.f2, .string x.f3]] w fun e w' => e = .returned (.bool true) ∧ Fr w w' := by
  have q1 : (x.f1.toList == x.f1.toList) = true := bytes_beq rfl
  have q2 : (x.f2.toList == x.f2.toList) = true := bytes_beq rfl
  have q3 : (x.f3.toList == x.f3.toList) = true := bytes_beq rfl
  go_enter Try.func42, Try.ntmps42
  go_wp2
  go_ret
  exact ⟨rfl, by repeat (first | (with_reducible exact Fr.refl _) | (with_reducible assumption) | (with_reducible refine Fr.drewN ?_ _) | (with_reducible refine Fr.drew ?_) | (with_reducible refine Fr.alloc ?_ _) | (with_reducible refine Fr.setCell ?_ (by (first | (with_reducible assumption) | omega | (simp only [World.size_alloc, World.size_setCell, World.size_drew, World.heap_drewN]; omega) | (simp; done) | (simp; omega))) _) | (with_reducible refine Fr.trans ?_ (by with_reducible assumption)))⟩

def ActR.bulk (x : ActR) : Nat := x.f1.size + x.f2.size + x.f3.size
def ActR.okSize (x : ActR) : Prop := x.f1.size ≤ maxLen ∧ x.f2.size ≤ maxLen ∧ x.f3.size ≤ maxLen
set_option maxRecDepth 100000 in
theorem szAct_any (x : ActR) (left : Int) (w : World) (hx : x.okSize) (h0 : 0 ≤ left) (h1 : left ≤ 1048576) :
    Calls Try.prog 7 #[.agg #[.int .i64 x.f0, .string x.f1, .string x.f2, .string x.f3], .int .i64 left] w fun e w' => e = .returned (.int .i64 (szR left x.bulk)) ∧ Fr w w' := by
  unfold ActR.okSize maxLen at hx
  by_cases c0 : (x.f1.size : Int) ≤ left
  · skip
    by_cases c1 : (x.f2.size : Int) ≤ left - x.f1.size
    · skip
      by_cases c2 : (x.f3.size : Int) ≤ left - x.f1.size - x.f2.size
      · have hr : szR left x.bulk = left - x.bulk := szR_ok (by unfold ActR.bulk; omega)
        have hb : (x.bulk : Int) = (x.f1.size : Int) + (x.f2.size : Int) + (x.f3.size : Int) := by unfold ActR.bulk; omega
        go_enter Try.func7, Try.ntmps7
        go_wp2
        go_ret
        exact ⟨ret_int (by rw [szR_ok (by omega)]; omega), by repeat (first | (with_reducible exact Fr.refl _) | (with_reducible assumption) | (with_reducible refine Fr.drewN ?_ _) | (with_reducible refine Fr.drew ?_) | (with_reducible refine Fr.alloc ?_ _) | (with_reducible refine Fr.setCell ?_ (by (first | (with_reducible assumption) | omega | (simp only [World.size_alloc, World.size_setCell, World.size_drew, World.heap_drewN]; omega) | (simp; done) | (simp; omega))) _) | (with_reducible refine Fr.trans ?_ (by with_reducible assumption)))⟩
      · go_enter Try.func7, Try.ntmps7
        go_wp2
        go_ret
        exact ⟨ret_int (by rw [szR_no (by unfold ActR.bulk; omega)]), by repeat (first | (with_reducible exact Fr.refl _) | (with_reducible assumption) | (with_reducible refine Fr.drewN ?_ _) | (with_reducible refine Fr.drew ?_) | (with_reducible refine Fr.alloc ?_ _) | (with_reducible refine Fr.setCell ?_ (by (first | (with_reducible assumption) | omega | (simp only [World.size_alloc, World.size_setCell, World.size_drew, World.heap_drewN]; omega) | (simp; done) | (simp; omega))) _) | (with_reducible refine Fr.trans ?_ (by with_reducible assumption)))⟩
    · go_enter Try.func7, Try.ntmps7
      go_wp2
      go_ret
      exact ⟨ret_int (by rw [szR_no (by unfold ActR.bulk; omega)]), by repeat (first | (with_reducible exact Fr.refl _) | (with_reducible assumption) | (with_reducible refine Fr.drewN ?_ _) | (with_reducible refine Fr.drew ?_) | (with_reducible refine Fr.alloc ?_ _) | (with_reducible refine Fr.setCell ?_ (by (first | (with_reducible assumption) | omega | (simp only [World.size_alloc, World.size_setCell, World.size_drew, World.heap_drewN]; omega) | (simp; done) | (simp; omega))) _) | (with_reducible refine Fr.trans ?_ (by with_reducible assumption)))⟩
  · go_enter Try.func7, Try.ntmps7
    go_wp2
    go_ret
    exact ⟨ret_int (by rw [szR_no (by unfold ActR.bulk; omega)]), by repeat (first | (with_reducible exact Fr.refl _) | (with_reducible assumption) | (with_reducible refine Fr.drewN ?_ _) | (with_reducible refine Fr.drew ?_) | (with_reducible refine Fr.alloc ?_ _) | (with_reducible refine Fr.setCell ?_ (by (first | (with_reducible assumption) | omega | (simp only [World.size_alloc, World.size_setCell, World.size_drew, World.heap_drewN]; omega) | (simp; done) | (simp; omega))) _) | (with_reducible refine Fr.trans ?_ (by with_reducible assumption)))⟩

theorem info_Act : (Try.prog.info? 35).map (fun i => (i.zero, i.size, i.bytes)) = some (some (.agg #[.int .i64 0, .string ⟨#[]⟩, .string ⟨#[]⟩, .string ⟨#[]⟩]), 4, 56) := by kernel_rfl
def ActsO (w : World) (lo : Nat) (v : Value) (xs : List ActR) : Prop := w.ownsRow lo 35 4 v xs.length (xs.flatMap ActR.cells)
theorem ActsO.rd {w : World} {lo : Nat} {v : Value} {xs : List ActR} (h : ActsO w lo v xs) : ActsR w v xs := RdS.of_owns h
theorem ActsO.val {w : World} {lo : Nat} {v : Value} {xs : List ActR} (h : ActsO w lo v xs) : ∃ ao cap, v = .slice ao xs.length cap := owns_val h
theorem ActsO.fr {w w' : World} {lo : Nat} {v : Value} {xs : List ActR} (h : ActsO w lo v xs) (hf : Fr w w') : ActsO w' lo v xs := owns_fr h hf
def sumAct (xs : List ActR) (k : Nat) : Nat := ((xs.take k).map ActR.bulk).sum
theorem sumAct_succ (xs : List ActR) (k : Nat) (h : k < xs.length) : sumAct xs (k + 1) = sumAct xs k + (actAt xs k).bulk := by
  unfold sumAct actAt
  rw [List.take_succ_eq_append_getElem h, List.map_append, List.sum_append]
  simp [List.getD, List.getElem?_eq_getElem h]
theorem sumAct_le (xs : List ActR) (k : Nat) : sumAct xs k ≤ sumAct xs xs.length := by
  unfold sumAct
  rw [List.take_length]
  conv => rhs; rw [← List.take_append_drop k xs]
  rw [List.map_append, List.sum_append]
  omega
def ActsBulk (xs : List ActR) : Nat := xs.length + sumAct xs xs.length
theorem act_mem {xs : List ActR} {p : ActR → Prop} (h : ∀ x ∈ xs, p x) (k : Nat) (hk : k < xs.length) : p (actAt xs k) := by
  have := h xs[k] (List.getElem_mem hk)
  simpa [actAt, List.getD, List.getElem?_eq_getElem hk] using this

theorem szActS_any (a : Value) (xs : List ActR) (left : Int) (w : World) (ha : ActsR w a xs) (hs : ∀ x ∈ xs, x.okSize) (h0 : 0 ≤ left) (h1 : left ≤ 1048576) :
    Calls Try.prog 15 #[a, .int .i64 left] w fun e w' => e = .returned (.int .i64 (szR left (ActsBulk xs))) ∧ Fr w w' := by
  obtain ⟨ao, ba, oa, ca, rfl, hca, hma, fa⟩ := ha.one
  clear ha
  by_cases hl : (xs.length : Int) ≤ left
  · go_enter Try.func15, Try.ntmps15
    go_wp2
    go_loopw [1, 5] (fun l i wr => ∃ k : Nat, k ≤ xs.length ∧ i = .int .i64 k ∧ l = .int .i64 (left - xs.length - sumAct xs k) ∧ (sumAct xs k : Int) ≤ left - xs.length ∧ Fr w wr) (fun _ i _ => xs.length - (intOf i).toNat)
    case atStart => exact ⟨0, Nat.zero_le _, rfl, by simp [sumAct], by simp [sumAct]; omega, Fr.refl _⟩
    case round =>
      obtain ⟨k, hk, rfl, rfl, hj, hfr⟩ := hrel
      by_cases hlt : k < xs.length
      · obtain ⟨rfl, hba, fa⟩ := fa (by omega)
        obtain ⟨x, hx⟩ : ∃ x, actAt xs k = x := ⟨_, rfl⟩
        have c0 : wr.cell? ⟨ba, oa + k * 4, none⟩ = some (.int .i64 x.f0) := (hfr.cell (p := ⟨ba, _, none⟩) hba).trans (hx ▸ (fa k hlt).1)
        have c1 : wr.cell? ⟨ba, oa + k * 4 + 1, none⟩ = some (.string x.f1) := (hfr.cell (p := ⟨ba, _, none⟩) hba).trans (hx ▸ (fa k hlt).2.1)
        have c2 : wr.cell? ⟨ba, oa + k * 4 + 2, none⟩ = some (.string x.f2) := (hfr.cell (p := ⟨ba, _, none⟩) hba).trans (hx ▸ (fa k hlt).2.2.1)
        have c3 : wr.cell? ⟨ba, oa + k * 4 + 3, none⟩ = some (.string x.f3) := (hfr.cell (p := ⟨ba, _, none⟩) hba).trans (hx ▸ (fa k hlt).2.2.2)
        have hok : x.okSize := hx ▸ act_mem hs k hlt
        have hsu := sumAct_succ xs k hlt
        rw [hx] at hsu
        have hle := sumAct_le xs (k + 1)
        have HSU := Lib.hid hsu
        clear hsu fa hx
        by_cases hr : (x.bulk : Int) ≤ left - xs.length - sumAct xs k
        · have hz := szR_ok hr
          go_wp2_with (go_at_call 7; refine (szAct_any x _ _ hok (by omega) (by omega)).mono ?_; rintro e w1 ⟨rfl, hf1⟩)
          go_roundw
          case rel => exact ⟨k + 1, by omega, by go_num, by rw [HSU.out]; go_num, by rw [HSU.out]; omega, by repeat (first | (with_reducible exact Fr.refl _) | (with_reducible assumption) | (with_reducible refine Fr.drewN ?_ _) | (with_reducible refine Fr.drew ?_) | (with_reducible refine Fr.alloc ?_ _) | (with_reducible refine Fr.setCell ?_ (by (first | (with_reducible assumption) | omega | (simp only [World.size_alloc, World.size_setCell, World.size_drew, World.heap_drewN]; omega) | (simp; done) | (simp; omega))) _) | (with_reducible refine Fr.trans ?_ (by with_reducible assumption)))⟩
          case measure => (simp [intOf]; omega)
        · have hz := szR_no hr
          go_wp2_with (go_at_call 7; refine (szAct_any x _ _ hok (by omega) (by omega)).mono ?_; rintro e w1 ⟨rfl, hf1⟩)
          go_ret
          exact ⟨ret_int (by rw [szR_no]; unfold ActsBulk; have := HSU.out; omega), by repeat (first | (with_reducible exact Fr.refl _) | (with_reducible assumption) | (with_reducible refine Fr.drewN ?_ _) | (with_reducible refine Fr.drew ?_) | (with_reducible refine Fr.alloc ?_ _) | (with_reducible refine Fr.setCell ?_ (by (first | (with_reducible assumption) | omega | (simp only [World.size_alloc, World.size_setCell, World.size_drew, World.heap_drewN]; omega) | (simp; done) | (simp; omega))) _) | (with_reducible refine Fr.trans ?_ (by with_reducible assumption)))⟩
      · clear fa
        obtain rfl : k = xs.length := by omega
        go_wp2
        go_ret
        exact ⟨ret_int (by rw [szR_ok]; · unfold ActsBulk; omega
                           · unfold ActsBulk; omega), by repeat (first | (with_reducible exact Fr.refl _) | (with_reducible assumption) | (with_reducible refine Fr.drewN ?_ _) | (with_reducible refine Fr.drew ?_) | (with_reducible refine Fr.alloc ?_ _) | (with_reducible refine Fr.setCell ?_ (by (first | (with_reducible assumption) | omega | (simp only [World.size_alloc, World.size_setCell, World.size_drew, World.heap_drewN]; omega) | (simp; done) | (simp; omega))) _) | (with_reducible refine Fr.trans ?_ (by with_reducible assumption)))⟩
  · go_enter Try.func15, Try.ntmps15
    go_wp2
    go_ret
    exact ⟨ret_int (by rw [szR_no]; unfold ActsBulk; omega), by repeat (first | (with_reducible exact Fr.refl _) | (with_reducible assumption) | (with_reducible refine Fr.drewN ?_ _) | (with_reducible refine Fr.drew ?_) | (with_reducible refine Fr.alloc ?_ _) | (with_reducible refine Fr.setCell ?_ (by (first | (with_reducible assumption) | omega | (simp only [World.size_alloc, World.size_setCell, World.size_drew, World.heap_drewN]; omega) | (simp; done) | (simp; omega))) _) | (with_reducible refine Fr.trans ?_ (by with_reducible assumption)))⟩

theorem act_fill (xs : List ActR) (k : Nat) (hk : k < xs.length) : (((((fillR xs ActR.cells [.int .i64 0, .string ⟨#[]⟩, .string ⟨#[]⟩, .string ⟨#[]⟩] k).set (k * 4) (Value.int .i64 (actAt xs k).f0)).set (k * 4 + 1) (Value.string (actAt xs k).f1)).set (k * 4 + 2) (Value.string (actAt xs k).f2)).set (k * 4 + 3) (Value.string (actAt xs k).f3)) = fillR xs ActR.cells [.int .i64 0, .string ⟨#[]⟩, .string ⟨#[]⟩, .string ⟨#[]⟩] (k + 1) := by
  rw [fillR_split xs ActR.cells [.int .i64 0, .string ⟨#[]⟩, .string ⟨#[]⟩, .string ⟨#[]⟩] k hk]
  have ha : ((xs.take k).flatMap ActR.cells).length = k * 4 := flat_len xs ActR.cells 4 ActR.cells_length k (Nat.le_of_lt hk)
  rw [set_mid _ _ _ 0 _ (by rw [ha]; rfl) (by simp)]
  rw [set_mid _ _ _ 1 _ (by rw [ha]) (by simp)]
  rw [set_mid _ _ _ 2 _ (by rw [ha]) (by simp)]
  rw [set_mid _ _ _ 3 _ (by rw [ha]) (by simp)]
  rw [fillR_next xs ActR.cells [.int .i64 0, .string ⟨#[]⟩, .string ⟨#[]⟩, .string ⟨#[]⟩] k hk]
  rfl
set_option maxHeartbeats 400000 in
theorem toActS_any (a : Value) (xs : List ActR) (w : World) (ha : ActsR w a xs) (hn : xs.length ≤ 1048576) :
    Calls Try.prog 17 #[a] w fun e w' => ∃ v, e = .returned v ∧ ActsO w' w.heap.size v xs ∧ Fr w w' := by
  obtain ⟨ao, ba, oa, ca, rfl, hca, hma, fa⟩ := ha.one
  clear ha
  obtain ⟨i0, hi, hz0, hz1, hz2⟩ := info_parts info_Act
  go_enter Try.func17, Try.ntmps17
  go_wp2_with (at_make; refine wpList_make_full _ rfl _ _ 44 rfl w.heap.size 35 i0 (.agg #[.int .i64 0, .string ⟨#[]⟩, .string ⟨#[]⟩, .string ⟨#[]⟩]) 4 Try.underlying44 hi hz0 hz1 _ _ _ _ xs.length rfl rfl rfl rfl (by rw [hz2]; omega) (by unfold maxLen; omega) (by omega) ?_; intro w1 hown hgrow)
  rw [show (madeCells (Value.cells (.agg #[.int .i64 0, .string ⟨#[]⟩, .string ⟨#[]⟩, .string ⟨#[]⟩])) (xs.length * 4)).toList = fillR xs ActR.cells [.int .i64 0, .string ⟨#[]⟩, .string ⟨#[]⟩, .string ⟨#[]⟩] 0 from made_fill xs ActR.cells [.int .i64 0, .string ⟨#[]⟩, .string ⟨#[]⟩, .string ⟨#[]⟩] 4 rfl (by omega)] at hown
  go_loopw [4] (fun i wr => ∃ k : Nat, k ≤ xs.length ∧ i = .int .i64 k ∧ wr.ownsRow w.heap.size 35 4 (.slice (some ⟨w.heap.size, 0, none⟩) xs.length xs.length) xs.length (fillR xs ActR.cells [.int .i64 0, .string ⟨#[]⟩, .string ⟨#[]⟩, .string ⟨#[]⟩] k) ∧ Fr w wr) (fun i _ => xs.length - (intOf i).toNat)
  case atStart => exact ⟨0, Nat.zero_le _, rfl, hown, (Fr.refl w).grown hgrow (by simp)⟩
  case round =>
    clear hown hgrow
    obtain ⟨k, hk, rfl, ho, hfr⟩ := hrel
    by_cases hlt : k < xs.length
    · obtain ⟨rfl, hba, fa⟩ := fa (by omega)
      obtain ⟨x, hx⟩ : ∃ x, actAt xs k = x := ⟨_, rfl⟩
      have c0 : wr.cell? ⟨ba, oa + k * 4, none⟩ = some (.int .i64 x.f0) := (hfr.cell (p := ⟨ba, _, none⟩) hba).trans (hx ▸ (fa k hlt).1)
      have c1 : wr.cell? ⟨ba, oa + k * 4 + 1, none⟩ = some (.string x.f1) := (hfr.cell (p := ⟨ba, _, none⟩) hba).trans (hx ▸ (fa k hlt).2.1)
      have c2 : wr.cell? ⟨ba, oa + k * 4 + 2, none⟩ = some (.string x.f2) := (hfr.cell (p := ⟨ba, _, none⟩) hba).trans (hx ▸ (fa k hlt).2.2.1)
      have c3 : wr.cell? ⟨ba, oa + k * 4 + 3, none⟩ = some (.string x.f3) := (hfr.cell (p := ⟨ba, _, none⟩) hba).trans (hx ▸ (fa k hlt).2.2.2)
      have hfl := Lib.hid (act_fill xs k hlt)
      rw [hx] at hfl
      have hgs : w.heap.size < wr.heap.size := (ho.lt _ rfl).2
      clear fa hx
      go_wp2_with (go_at_call 10; refine (toAct_any x _).mono ?_; rintro e w2 ⟨rfl, hf1⟩; have ho2 := owns_fr ho hf1; have g0 := ho2.frozenAt (k * 4); obtain ⟨u0, d0⟩ := owns_cell ho2 (k * 4) (by omega); have g1 := ho2.frozenAt (k * 4 + 1); obtain ⟨u1, d1⟩ := owns_cell ho2 (k * 4 + 1) (by omega); have g2 := ho2.frozenAt (k * 4 + 2); obtain ⟨u2, d2⟩ := owns_cell ho2 (k * 4 + 2) (by omega); have g3 := ho2.frozenAt (k * 4 + 3); obtain ⟨u3, d3⟩ := owns_cell ho2 (k * 4 + 3) (by omega))
      have ho2 := owns_fr ho hf1
      have s0 := ho2.stored (k * 4) (.int .i64 x.f0)
      have s1 := s0.1.stored (k * 4 + 1) (.string x.f1)
      have s2 := s1.1.stored (k * 4 + 2) (.string x.f2)
      have s3 := s2.1.stored (k * 4 + 3) (.string x.f3)
      go_roundw
      case rel => exact ⟨k + 1, by omega, by go_num, hfl.out ▸ s3.1, by repeat (first | (with_reducible exact Fr.refl _) | (with_reducible assumption) | (with_reducible refine Fr.drewN ?_ _) | (with_reducible refine Fr.drew ?_) | (with_reducible refine Fr.alloc ?_ _) | (with_reducible refine Fr.setCell ?_ (by (first | (with_reducible assumption) | omega | (simp only [World.size_alloc, World.size_setCell, World.size_drew, World.heap_drewN]; omega) | (simp; done) | (simp; omega))) _) | (with_reducible refine Fr.trans ?_ (by with_reducible assumption)))⟩
      case measure => (simp [intOf]; omega)
    · clear fa
      obtain rfl : k = xs.length := by omega
      rw [fillR_all] at ho
      go_wp2
      go_ret
      exact ⟨_, rfl, ho, hfr⟩

theorem eqActS_same (a b : Value) (xs : List ActR) (w : World) (ha : ActsR w a xs) (hb : ActsR w b xs) :
    Calls Try.prog 19 #[a, b] w fun e w' => e = .returned (.bool true) ∧ Fr w w' := by
  obtain ⟨ao, ba, oa, ca, rfl, hca, hma, fa⟩ := ha.one
  obtain ⟨bo, bb, ob, cb, rfl, hcb, hmb, fb⟩ := hb.one
  clear ha hb
  go_enter Try.func19, Try.ntmps19
  go_wp2
  go_loopw [5] (fun i wr => ∃ k : Nat, k ≤ xs.length ∧ i = .int .i64 k ∧ Fr w wr) (fun i _ => xs.length - (intOf i).toNat)
  case atStart => exact ⟨0, Nat.zero_le _, rfl, Fr.refl _⟩
  case round =>
    obtain ⟨k, hk, rfl, hfr⟩ := hrel
    by_cases hlt : k < xs.length
    · obtain ⟨rfl, hba, fa⟩ := fa (by omega)
      obtain ⟨rfl, hbb, fb⟩ := fb (by omega)
      obtain ⟨x, hx⟩ : ∃ x, actAt xs k = x := ⟨_, rfl⟩
      have c0 : ∀ w', Fr wr w' → w'.cell? ⟨ba, oa + k * 4, none⟩ = some (.int .i64 x.f0) := fun w' hf => ((hfr.trans hf).cell (p := ⟨ba, _, none⟩) hba).trans (hx ▸ (fa k hlt).1)
      have c1 : ∀ w', Fr wr w' → w'.cell? ⟨ba, oa + k * 4 + 1, none⟩ = some (.string x.f1) := fun w' hf => ((hfr.trans hf).cell (p := ⟨ba, _, none⟩) hba).trans (hx ▸ (fa k hlt).2.1)
      have c2 : ∀ w', Fr wr w' → w'.cell? ⟨ba, oa + k * 4 + 2, none⟩ = some (.string x.f2) := fun w' hf => ((hfr.trans hf).cell (p := ⟨ba, _, none⟩) hba).trans (hx ▸ (fa k hlt).2.2.1)
      have c3 : ∀ w', Fr wr w' → w'.cell? ⟨ba, oa + k * 4 + 3, none⟩ = some (.string x.f3) := fun w' hf => ((hfr.trans hf).cell (p := ⟨ba, _, none⟩) hba).trans (hx ▸ (fa k hlt).2.2.2)
      have e0 : ∀ w', Fr wr w' → w'.cell? ⟨bb, ob + k * 4, none⟩ = some (.int .i64 x.f0) := fun w' hf => ((hfr.trans hf).cell (p := ⟨bb, _, none⟩) hbb).trans (hx ▸ (fb k hlt).1)
      have e1 : ∀ w', Fr wr w' → w'.cell? ⟨bb, ob + k * 4 + 1, none⟩ = some (.string x.f1) := fun w' hf => ((hfr.trans hf).cell (p := ⟨bb, _, none⟩) hbb).trans (hx ▸ (fb k hlt).2.1)
      have e2 : ∀ w', Fr wr w' → w'.cell? ⟨bb, ob + k * 4 + 2, none⟩ = some (.string x.f2) := fun w' hf => ((hfr.trans hf).cell (p := ⟨bb, _, none⟩) hbb).trans (hx ▸ (fb k hlt).2.2.1)
      have e3 : ∀ w', Fr wr w' → w'.cell? ⟨bb, ob + k * 4 + 3, none⟩ = some (.string x.f3) := fun w' hf => ((hfr.trans hf).cell (p := ⟨bb, _, none⟩) hbb).trans (hx ▸ (fb k hlt).2.2.2)
      clear fa fb hx
      go_wp2_with fail
      go_region_held3 (fun w' => Fr wr w') (repeat (first | (with_reducible exact Fr.refl _) | (with_reducible assumption) | (with_reducible refine Fr.drewN ?_ _) | (with_reducible refine Fr.drew ?_) | (with_reducible refine Fr.alloc ?_ _) | (with_reducible refine Fr.setCell ?_ (by (first | (with_reducible assumption) | omega | (simp only [World.size_alloc, World.size_setCell, World.size_drew, World.heap_drewN]; omega) | (simp; done) | (simp; omega))) _) | (with_reducible refine Fr.trans ?_ (by with_reducible assumption)))) (first | (go_at_call 42; refine (eqAct_same x _).mono ?_; rintro e w2 ⟨rfl, hf1⟩))
      go_wp2_with fail
      go_roundw
      case rel => exact ⟨k + 1, by omega, by go_num, by repeat (first | (with_reducible exact Fr.refl _) | (with_reducible assumption) | (with_reducible refine Fr.drewN ?_ _) | (with_reducible refine Fr.drew ?_) | (with_reducible refine Fr.alloc ?_ _) | (with_reducible refine Fr.setCell ?_ (by (first | (with_reducible assumption) | omega | (simp only [World.size_alloc, World.size_setCell, World.size_drew, World.heap_drewN]; omega) | (simp; done) | (simp; omega))) _) | (with_reducible refine Fr.trans ?_ (by with_reducible assumption)))⟩
      case measure => (simp [intOf]; omega)
    · clear fa fb
      go_wp2
      go_ret
      exact ⟨rfl, hfr⟩
end Go.Proofs.Ythcbnilmhenpgaa
