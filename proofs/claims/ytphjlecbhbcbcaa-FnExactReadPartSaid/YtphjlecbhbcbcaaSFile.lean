/- The struct File and slices of it: what they read as; the laws' helpers. No condition but the sizes that the reading gives. (Printed by mk_structs.py.) -/
import Derived.Test.YtphjlecbhbcbcaaStr
import Derived.Test.YtphjlecbhbcbcaaOk
import Derived.Deep.QuietTactic
import Derived.BigQuiet
import Derived.Deep.RegionHeld3
namespace Go.Proofs.Ytphjlecbhbcbcaa
open Go.RowKit
set_option linter.unusedVariables false
set_option linter.unusedSimpArgs false

structure FileR where
  f0 : ByteArray
  f1 : ByteArray
  f2 : Int
instance : Inhabited FileR := ⟨⟨ByteArray.empty, ByteArray.empty, default⟩⟩
def FileR.cells (x : FileR) : List Value := [.string x.f0, .string x.f1, .int .i64 x.f2]
theorem FileR.cells_length (x : FileR) : x.cells.length = 3 := rfl
def fileAt (l : List FileR) (k : Nat) : FileR := l.getD k default
theorem FileR.ext' {x y : FileR} (h0 : x.f0 = y.f0) (h1 : x.f1 = y.f1) (h2 : x.f2 = y.f2) : x = y := by cases x; cases y; simp_all

def FilesR (w : World) (v : Value) (xs : List FileR) : Prop := RdS w 3 v xs.length (xs.flatMap FileR.cells)
theorem FilesR.fr {w w' : World} {v : Value} {xs : List FileR} (h : FilesR w v xs) (hf : Fr w w') : FilesR w' v xs := RdS.fr h hf
theorem FilesR.le {w : World} {v : Value} {xs : List FileR} (h : FilesR w v xs) : xs.length ≤ 9223372036854775807 := RdS.le h
theorem file_flat (xs : List FileR) (k j : Nat) (hk : k < xs.length) (hj : j < 3) (d : Value) : (xs.flatMap FileR.cells).getD (k * 3 + j) d = (fileAt xs k).cells.getD j d := by
  induction xs generalizing k with
  | nil => simp at hk
  | cons x xs ih =>
    rw [List.flatMap_cons]
    cases k with
    | zero => simp [List.getD, List.getElem?_append_left (show j < x.cells.length by rw [FileR.cells_length]; exact hj), fileAt]
    | succ k =>
      have := ih k (by simpa using hk)
      simp only [List.getD] at this ⊢
      rw [List.getElem?_append_right (by rw [FileR.cells_length]; omega), show (k + 1) * 3 + j - x.cells.length = k * 3 + j by rw [FileR.cells_length]; omega, this]
      simp [fileAt]
theorem FilesR.one {w : World} {v : Value} {xs : List FileR} (h : FilesR w v xs) :
    ∃ ao b o cap, v = .slice ao xs.length cap ∧ xs.length ≤ cap ∧ cap ≤ 9223372036854775807 ∧ (0 < xs.length → ao = some ⟨b, o, none⟩ ∧ b < w.heap.size ∧ ∀ k, k < xs.length → w.cell? ⟨b, o + k * 3, none⟩ = some (.string (fileAt xs k).f0) ∧ w.cell? ⟨b, o + k * 3 + 1, none⟩ = some (.string (fileAt xs k).f1) ∧ w.cell? ⟨b, o + k * 3 + 2, none⟩ = some (.int .i64 (fileAt xs k).f2)) := by
  obtain ⟨ao, b, o, cap, h1, h2, h3, h4⟩ := RdS.one h undef
  refine ⟨ao, b, o, cap, h1, h2, h3, fun hn => ⟨(h4 hn).1, (h4 hn).2.1, fun k hk => ?_⟩⟩
  have hc := (h4 hn).2.2
  exact ⟨by have := hc (k * 3 + 0) (by omega); rw [file_flat xs k 0 hk (by omega)] at this; exact this, by have := hc (k * 3 + 1) (by omega); rw [file_flat xs k 1 hk (by omega)] at this; exact this, by have := hc (k * 3 + 2) (by omega); rw [file_flat xs k 2 hk (by omega)] at this; exact this⟩

theorem toFile_any (x : FileR) (w : World) :
    Calls Try.prog 153 #[.agg #[.string x.f0, .string x.f1, .int .i64 x.f2]] w fun e w' => e = .returned (.agg #[.string x.f0, .string x.f1, .int .i64 x.f2]) ∧ Fr w w' := by
  go_enter Try.func153, Try.ntmps153
  go_wp2
  exact bodyPost_ret (v := .agg #[.string x.f0, .string x.f1, .int .i64 x.f2]) (by simp [results, Try.results153, go_sem]) rfl ⟨rfl, by repeat (first | (with_reducible exact Fr.refl _) | (with_reducible assumption) | (with_reducible refine Fr.drewN ?_ _) | (with_reducible refine Fr.drew ?_) | (with_reducible refine Fr.alloc ?_ _) | (with_reducible refine Fr.setCell ?_ (by (first | (with_reducible assumption) | omega | (simp only [World.size_alloc, World.size_setCell, World.size_drew, World.heap_drewN]; omega) | (simp; done) | (simp; omega))) _) | (with_reducible refine Fr.trans ?_ (by with_reducible assumption)))⟩

theorem eqFile_same (x : FileR) (w : World) :
    Calls Try.prog 157 #[.agg #[.string x.f0, .string x.f1, .int .i64 x.f2], .agg #[.string x.f0, .string x.f1, .int .i64 x.f2]] w fun e w' => e = .returned (.bool true) ∧ Fr w w' := by
  have q0 : (x.f0.toList == x.f0.toList) = true := bytes_beq rfl
  have q1 : (x.f1.toList == x.f1.toList) = true := bytes_beq rfl
  go_enter Try.func157, Try.ntmps157
  go_wp2
  go_ret
  exact ⟨rfl, by repeat (first | (with_reducible exact Fr.refl _) | (with_reducible assumption) | (with_reducible refine Fr.drewN ?_ _) | (with_reducible refine Fr.drew ?_) | (with_reducible refine Fr.alloc ?_ _) | (with_reducible refine Fr.setCell ?_ (by (first | (with_reducible assumption) | omega | (simp only [World.size_alloc, World.size_setCell, World.size_drew, World.heap_drewN]; omega) | (simp; done) | (simp; omega))) _) | (with_reducible refine Fr.trans ?_ (by with_reducible assumption)))⟩

def FileR.bulk (x : FileR) : Nat := x.f0.size + x.f1.size
def FileR.okSize (x : FileR) : Prop := x.f0.size ≤ maxLen ∧ x.f1.size ≤ maxLen
set_option maxRecDepth 100000 in
theorem szFile_any (x : FileR) (left : Int) (w : World) (hx : x.okSize) (h0 : 0 ≤ left) (h1 : left ≤ 1048576) :
    Calls Try.prog 150 #[.agg #[.string x.f0, .string x.f1, .int .i64 x.f2], .int .i64 left] w fun e w' => e = .returned (.int .i64 (szR left x.bulk)) ∧ Fr w w' := by
  unfold FileR.okSize maxLen at hx
  by_cases c0 : (x.f0.size : Int) ≤ left
  · skip
    by_cases c1 : (x.f1.size : Int) ≤ left - x.f0.size
    · have hr : szR left x.bulk = left - x.bulk := szR_ok (by unfold FileR.bulk; omega)
      have hb : (x.bulk : Int) = (x.f0.size : Int) + (x.f1.size : Int) := by unfold FileR.bulk; omega
      go_enter Try.func150, Try.ntmps150
      go_wp2
      go_ret
      exact ⟨ret_int (by rw [szR_ok (by omega)]; omega), by repeat (first | (with_reducible exact Fr.refl _) | (with_reducible assumption) | (with_reducible refine Fr.drewN ?_ _) | (with_reducible refine Fr.drew ?_) | (with_reducible refine Fr.alloc ?_ _) | (with_reducible refine Fr.setCell ?_ (by (first | (with_reducible assumption) | omega | (simp only [World.size_alloc, World.size_setCell, World.size_drew, World.heap_drewN]; omega) | (simp; done) | (simp; omega))) _) | (with_reducible refine Fr.trans ?_ (by with_reducible assumption)))⟩
    · go_enter Try.func150, Try.ntmps150
      go_wp2
      go_ret
      exact ⟨ret_int (by rw [szR_no (by unfold FileR.bulk; omega)]), by repeat (first | (with_reducible exact Fr.refl _) | (with_reducible assumption) | (with_reducible refine Fr.drewN ?_ _) | (with_reducible refine Fr.drew ?_) | (with_reducible refine Fr.alloc ?_ _) | (with_reducible refine Fr.setCell ?_ (by (first | (with_reducible assumption) | omega | (simp only [World.size_alloc, World.size_setCell, World.size_drew, World.heap_drewN]; omega) | (simp; done) | (simp; omega))) _) | (with_reducible refine Fr.trans ?_ (by with_reducible assumption)))⟩
  · go_enter Try.func150, Try.ntmps150
    go_wp2
    go_ret
    exact ⟨ret_int (by rw [szR_no (by unfold FileR.bulk; omega)]), by repeat (first | (with_reducible exact Fr.refl _) | (with_reducible assumption) | (with_reducible refine Fr.drewN ?_ _) | (with_reducible refine Fr.drew ?_) | (with_reducible refine Fr.alloc ?_ _) | (with_reducible refine Fr.setCell ?_ (by (first | (with_reducible assumption) | omega | (simp only [World.size_alloc, World.size_setCell, World.size_drew, World.heap_drewN]; omega) | (simp; done) | (simp; omega))) _) | (with_reducible refine Fr.trans ?_ (by with_reducible assumption)))⟩

theorem info_File : (Try.prog.info? 166).map (fun i => (i.zero, i.size, i.bytes)) = some (some (.agg #[.string ⟨#[]⟩, .string ⟨#[]⟩, .int .i64 0]), 3, 40) := by kernel_rfl
def FilesO (w : World) (lo : Nat) (v : Value) (xs : List FileR) : Prop := w.ownsRow lo 166 3 v xs.length (xs.flatMap FileR.cells)
theorem FilesO.rd {w : World} {lo : Nat} {v : Value} {xs : List FileR} (h : FilesO w lo v xs) : FilesR w v xs := RdS.of_owns h
theorem FilesO.val {w : World} {lo : Nat} {v : Value} {xs : List FileR} (h : FilesO w lo v xs) : ∃ ao cap, v = .slice ao xs.length cap := owns_val h
theorem FilesO.fr {w w' : World} {lo : Nat} {v : Value} {xs : List FileR} (h : FilesO w lo v xs) (hf : Fr w w') : FilesO w' lo v xs := owns_fr h hf
def sumFile (xs : List FileR) (k : Nat) : Nat := ((xs.take k).map FileR.bulk).sum
theorem sumFile_succ (xs : List FileR) (k : Nat) (h : k < xs.length) : sumFile xs (k + 1) = sumFile xs k + (fileAt xs k).bulk := by
  unfold sumFile fileAt
  rw [List.take_succ_eq_append_getElem h, List.map_append, List.sum_append]
  simp [List.getD, List.getElem?_eq_getElem h]
theorem sumFile_le (xs : List FileR) (k : Nat) : sumFile xs k ≤ sumFile xs xs.length := by
  unfold sumFile
  rw [List.take_length]
  conv => rhs; rw [← List.take_append_drop k xs]
  rw [List.map_append, List.sum_append]
  omega
def FilesBulk (xs : List FileR) : Nat := xs.length + sumFile xs xs.length
theorem file_mem {xs : List FileR} {p : FileR → Prop} (h : ∀ x ∈ xs, p x) (k : Nat) (hk : k < xs.length) : p (fileAt xs k) := by
  have := h xs[k] (List.getElem_mem hk)
  simpa [fileAt, List.getD, List.getElem?_eq_getElem hk] using this

theorem szFileS_any (a : Value) (xs : List FileR) (left : Int) (w : World) (ha : FilesR w a xs) (hs : ∀ x ∈ xs, x.okSize) (h0 : 0 ≤ left) (h1 : left ≤ 1048576) :
    Calls Try.prog 108 #[a, .int .i64 left] w fun e w' => e = .returned (.int .i64 (szR left (FilesBulk xs))) ∧ Fr w w' := by
  obtain ⟨ao, ba, oa, ca, rfl, hca, hma, fa⟩ := ha.one
  clear ha
  by_cases hl : (xs.length : Int) ≤ left
  · go_enter Try.func108, Try.ntmps108
    go_wp2
    go_loopw [1, 5] (fun l i wr => ∃ k : Nat, k ≤ xs.length ∧ i = .int .i64 k ∧ l = .int .i64 (left - xs.length - sumFile xs k) ∧ (sumFile xs k : Int) ≤ left - xs.length ∧ Fr w wr) (fun _ i _ => xs.length - (intOf i).toNat)
    case atStart => exact ⟨0, Nat.zero_le _, rfl, by simp [sumFile], by simp [sumFile]; omega, Fr.refl _⟩
    case round =>
      obtain ⟨k, hk, rfl, rfl, hj, hfr⟩ := hrel
      by_cases hlt : k < xs.length
      · obtain ⟨rfl, hba, fa⟩ := fa (by omega)
        obtain ⟨x, hx⟩ : ∃ x, fileAt xs k = x := ⟨_, rfl⟩
        have c0 : wr.cell? ⟨ba, oa + k * 3, none⟩ = some (.string x.f0) := (hfr.cell (p := ⟨ba, _, none⟩) hba).trans (hx ▸ (fa k hlt).1)
        have c1 : wr.cell? ⟨ba, oa + k * 3 + 1, none⟩ = some (.string x.f1) := (hfr.cell (p := ⟨ba, _, none⟩) hba).trans (hx ▸ (fa k hlt).2.1)
        have c2 : wr.cell? ⟨ba, oa + k * 3 + 2, none⟩ = some (.int .i64 x.f2) := (hfr.cell (p := ⟨ba, _, none⟩) hba).trans (hx ▸ (fa k hlt).2.2)
        have hok : x.okSize := hx ▸ file_mem hs k hlt
        have hsu := sumFile_succ xs k hlt
        rw [hx] at hsu
        have hle := sumFile_le xs (k + 1)
        have HSU := Lib.hid hsu
        clear hsu fa hx
        by_cases hr : (x.bulk : Int) ≤ left - xs.length - sumFile xs k
        · have hz := szR_ok hr
          go_wp2_with (go_at_call 150; refine (szFile_any x _ _ hok (by omega) (by omega)).mono ?_; rintro e w1 ⟨rfl, hf1⟩)
          go_roundw
          case rel => exact ⟨k + 1, by omega, by go_num, by rw [HSU.out]; go_num, by rw [HSU.out]; omega, by repeat (first | (with_reducible exact Fr.refl _) | (with_reducible assumption) | (with_reducible refine Fr.drewN ?_ _) | (with_reducible refine Fr.drew ?_) | (with_reducible refine Fr.alloc ?_ _) | (with_reducible refine Fr.setCell ?_ (by (first | (with_reducible assumption) | omega | (simp only [World.size_alloc, World.size_setCell, World.size_drew, World.heap_drewN]; omega) | (simp; done) | (simp; omega))) _) | (with_reducible refine Fr.trans ?_ (by with_reducible assumption)))⟩
          case measure => (simp [intOf]; omega)
        · have hz := szR_no hr
          go_wp2_with (go_at_call 150; refine (szFile_any x _ _ hok (by omega) (by omega)).mono ?_; rintro e w1 ⟨rfl, hf1⟩)
          go_ret
          exact ⟨ret_int (by rw [szR_no]; unfold FilesBulk; have := HSU.out; omega), by repeat (first | (with_reducible exact Fr.refl _) | (with_reducible assumption) | (with_reducible refine Fr.drewN ?_ _) | (with_reducible refine Fr.drew ?_) | (with_reducible refine Fr.alloc ?_ _) | (with_reducible refine Fr.setCell ?_ (by (first | (with_reducible assumption) | omega | (simp only [World.size_alloc, World.size_setCell, World.size_drew, World.heap_drewN]; omega) | (simp; done) | (simp; omega))) _) | (with_reducible refine Fr.trans ?_ (by with_reducible assumption)))⟩
      · clear fa
        obtain rfl : k = xs.length := by omega
        go_wp2
        go_ret
        exact ⟨ret_int (by rw [szR_ok]; · unfold FilesBulk; omega
                           · unfold FilesBulk; omega), by repeat (first | (with_reducible exact Fr.refl _) | (with_reducible assumption) | (with_reducible refine Fr.drewN ?_ _) | (with_reducible refine Fr.drew ?_) | (with_reducible refine Fr.alloc ?_ _) | (with_reducible refine Fr.setCell ?_ (by (first | (with_reducible assumption) | omega | (simp only [World.size_alloc, World.size_setCell, World.size_drew, World.heap_drewN]; omega) | (simp; done) | (simp; omega))) _) | (with_reducible refine Fr.trans ?_ (by with_reducible assumption)))⟩
  · go_enter Try.func108, Try.ntmps108
    go_wp2
    go_ret
    exact ⟨ret_int (by rw [szR_no]; unfold FilesBulk; omega), by repeat (first | (with_reducible exact Fr.refl _) | (with_reducible assumption) | (with_reducible refine Fr.drewN ?_ _) | (with_reducible refine Fr.drew ?_) | (with_reducible refine Fr.alloc ?_ _) | (with_reducible refine Fr.setCell ?_ (by (first | (with_reducible assumption) | omega | (simp only [World.size_alloc, World.size_setCell, World.size_drew, World.heap_drewN]; omega) | (simp; done) | (simp; omega))) _) | (with_reducible refine Fr.trans ?_ (by with_reducible assumption)))⟩

theorem file_fill (xs : List FileR) (k : Nat) (hk : k < xs.length) : ((((fillR xs FileR.cells [.string ⟨#[]⟩, .string ⟨#[]⟩, .int .i64 0] k).set (k * 3) (Value.string (fileAt xs k).f0)).set (k * 3 + 1) (Value.string (fileAt xs k).f1)).set (k * 3 + 2) (Value.int .i64 (fileAt xs k).f2)) = fillR xs FileR.cells [.string ⟨#[]⟩, .string ⟨#[]⟩, .int .i64 0] (k + 1) := by
  rw [fillR_split xs FileR.cells [.string ⟨#[]⟩, .string ⟨#[]⟩, .int .i64 0] k hk]
  have ha : ((xs.take k).flatMap FileR.cells).length = k * 3 := flat_len xs FileR.cells 3 FileR.cells_length k (Nat.le_of_lt hk)
  rw [set_mid _ _ _ 0 _ (by rw [ha]; rfl) (by simp)]
  rw [set_mid _ _ _ 1 _ (by rw [ha]) (by simp)]
  rw [set_mid _ _ _ 2 _ (by rw [ha]) (by simp)]
  rw [fillR_next xs FileR.cells [.string ⟨#[]⟩, .string ⟨#[]⟩, .int .i64 0] k hk]
  rfl
set_option maxHeartbeats 400000 in
theorem toFileS_any (a : Value) (xs : List FileR) (w : World) (ha : FilesR w a xs) (hn : xs.length ≤ 1048576) :
    Calls Try.prog 113 #[a] w fun e w' => ∃ v, e = .returned v ∧ FilesO w' w.heap.size v xs ∧ Fr w w' := by
  obtain ⟨ao, ba, oa, ca, rfl, hca, hma, fa⟩ := ha.one
  clear ha
  obtain ⟨i0, hi, hz0, hz1, hz2⟩ := info_parts info_File
  go_enter Try.func113, Try.ntmps113
  go_wp2_with (at_make; refine wpList_make_full _ rfl _ _ 70 rfl w.heap.size 166 i0 (.agg #[.string ⟨#[]⟩, .string ⟨#[]⟩, .int .i64 0]) 3 Try.underlying70 hi hz0 hz1 _ _ _ _ xs.length rfl rfl rfl rfl (by rw [hz2]; omega) (by unfold maxLen; omega) (by omega) ?_; intro w1 hown hgrow)
  rw [show (madeCells (Value.cells (.agg #[.string ⟨#[]⟩, .string ⟨#[]⟩, .int .i64 0])) (xs.length * 3)).toList = fillR xs FileR.cells [.string ⟨#[]⟩, .string ⟨#[]⟩, .int .i64 0] 0 from made_fill xs FileR.cells [.string ⟨#[]⟩, .string ⟨#[]⟩, .int .i64 0] 3 rfl (by omega)] at hown
  go_loopw [4] (fun i wr => ∃ k : Nat, k ≤ xs.length ∧ i = .int .i64 k ∧ wr.ownsRow w.heap.size 166 3 (.slice (some ⟨w.heap.size, 0, none⟩) xs.length xs.length) xs.length (fillR xs FileR.cells [.string ⟨#[]⟩, .string ⟨#[]⟩, .int .i64 0] k) ∧ Fr w wr) (fun i _ => xs.length - (intOf i).toNat)
  case atStart => exact ⟨0, Nat.zero_le _, rfl, hown, (Fr.refl w).grown hgrow (by simp)⟩
  case round =>
    clear hown hgrow
    obtain ⟨k, hk, rfl, ho, hfr⟩ := hrel
    by_cases hlt : k < xs.length
    · obtain ⟨rfl, hba, fa⟩ := fa (by omega)
      obtain ⟨x, hx⟩ : ∃ x, fileAt xs k = x := ⟨_, rfl⟩
      have c0 : wr.cell? ⟨ba, oa + k * 3, none⟩ = some (.string x.f0) := (hfr.cell (p := ⟨ba, _, none⟩) hba).trans (hx ▸ (fa k hlt).1)
      have c1 : wr.cell? ⟨ba, oa + k * 3 + 1, none⟩ = some (.string x.f1) := (hfr.cell (p := ⟨ba, _, none⟩) hba).trans (hx ▸ (fa k hlt).2.1)
      have c2 : wr.cell? ⟨ba, oa + k * 3 + 2, none⟩ = some (.int .i64 x.f2) := (hfr.cell (p := ⟨ba, _, none⟩) hba).trans (hx ▸ (fa k hlt).2.2)
      have hfl := Lib.hid (file_fill xs k hlt)
      rw [hx] at hfl
      have hgs : w.heap.size < wr.heap.size := (ho.lt _ rfl).2
      clear fa hx
      go_wp2_with (go_at_call 153; refine (toFile_any x _).mono ?_; rintro e w2 ⟨rfl, hf1⟩; have ho2 := owns_fr ho hf1; have g0 := ho2.frozenAt (k * 3); obtain ⟨u0, d0⟩ := owns_cell ho2 (k * 3) (by omega); have g1 := ho2.frozenAt (k * 3 + 1); obtain ⟨u1, d1⟩ := owns_cell ho2 (k * 3 + 1) (by omega); have g2 := ho2.frozenAt (k * 3 + 2); obtain ⟨u2, d2⟩ := owns_cell ho2 (k * 3 + 2) (by omega))
      have ho2 := owns_fr ho hf1
      have s0 := ho2.stored (k * 3) (.string x.f0)
      have s1 := s0.1.stored (k * 3 + 1) (.string x.f1)
      have s2 := s1.1.stored (k * 3 + 2) (.int .i64 x.f2)
      go_roundw
      case rel => exact ⟨k + 1, by omega, by go_num, hfl.out ▸ s2.1, by repeat (first | (with_reducible exact Fr.refl _) | (with_reducible assumption) | (with_reducible refine Fr.drewN ?_ _) | (with_reducible refine Fr.drew ?_) | (with_reducible refine Fr.alloc ?_ _) | (with_reducible refine Fr.setCell ?_ (by (first | (with_reducible assumption) | omega | (simp only [World.size_alloc, World.size_setCell, World.size_drew, World.heap_drewN]; omega) | (simp; done) | (simp; omega))) _) | (with_reducible refine Fr.trans ?_ (by with_reducible assumption)))⟩
      case measure => (simp [intOf]; omega)
    · clear fa
      obtain rfl : k = xs.length := by omega
      rw [fillR_all] at ho
      go_wp2
      go_ret
      exact ⟨_, rfl, ho, hfr⟩

theorem eqFileS_same (a b : Value) (xs : List FileR) (w : World) (ha : FilesR w a xs) (hb : FilesR w b xs) :
    Calls Try.prog 116 #[a, b] w fun e w' => e = .returned (.bool true) ∧ Fr w w' := by
  obtain ⟨ao, ba, oa, ca, rfl, hca, hma, fa⟩ := ha.one
  obtain ⟨bo, bb, ob, cb, rfl, hcb, hmb, fb⟩ := hb.one
  clear ha hb
  go_enter Try.func116, Try.ntmps116
  go_wp2
  go_loopw [5] (fun i wr => ∃ k : Nat, k ≤ xs.length ∧ i = .int .i64 k ∧ Fr w wr) (fun i _ => xs.length - (intOf i).toNat)
  case atStart => exact ⟨0, Nat.zero_le _, rfl, Fr.refl _⟩
  case round =>
    obtain ⟨k, hk, rfl, hfr⟩ := hrel
    by_cases hlt : k < xs.length
    · obtain ⟨rfl, hba, fa⟩ := fa (by omega)
      obtain ⟨rfl, hbb, fb⟩ := fb (by omega)
      obtain ⟨x, hx⟩ : ∃ x, fileAt xs k = x := ⟨_, rfl⟩
      have c0 : ∀ w', Fr wr w' → w'.cell? ⟨ba, oa + k * 3, none⟩ = some (.string x.f0) := fun w' hf => ((hfr.trans hf).cell (p := ⟨ba, _, none⟩) hba).trans (hx ▸ (fa k hlt).1)
      have c1 : ∀ w', Fr wr w' → w'.cell? ⟨ba, oa + k * 3 + 1, none⟩ = some (.string x.f1) := fun w' hf => ((hfr.trans hf).cell (p := ⟨ba, _, none⟩) hba).trans (hx ▸ (fa k hlt).2.1)
      have c2 : ∀ w', Fr wr w' → w'.cell? ⟨ba, oa + k * 3 + 2, none⟩ = some (.int .i64 x.f2) := fun w' hf => ((hfr.trans hf).cell (p := ⟨ba, _, none⟩) hba).trans (hx ▸ (fa k hlt).2.2)
      have e0 : ∀ w', Fr wr w' → w'.cell? ⟨bb, ob + k * 3, none⟩ = some (.string x.f0) := fun w' hf => ((hfr.trans hf).cell (p := ⟨bb, _, none⟩) hbb).trans (hx ▸ (fb k hlt).1)
      have e1 : ∀ w', Fr wr w' → w'.cell? ⟨bb, ob + k * 3 + 1, none⟩ = some (.string x.f1) := fun w' hf => ((hfr.trans hf).cell (p := ⟨bb, _, none⟩) hbb).trans (hx ▸ (fb k hlt).2.1)
      have e2 : ∀ w', Fr wr w' → w'.cell? ⟨bb, ob + k * 3 + 2, none⟩ = some (.int .i64 x.f2) := fun w' hf => ((hfr.trans hf).cell (p := ⟨bb, _, none⟩) hbb).trans (hx ▸ (fb k hlt).2.2)
      clear fa fb hx
      go_wp2_with fail
      go_region_held3 (fun w' => Fr wr w') (repeat (first | (with_reducible exact Fr.refl _) | (with_reducible assumption) | (with_reducible refine Fr.drewN ?_ _) | (with_reducible refine Fr.drew ?_) | (with_reducible refine Fr.alloc ?_ _) | (with_reducible refine Fr.setCell ?_ (by (first | (with_reducible assumption) | omega | (simp only [World.size_alloc, World.size_setCell, World.size_drew, World.heap_drewN]; omega) | (simp; done) | (simp; omega))) _) | (with_reducible refine Fr.trans ?_ (by with_reducible assumption)))) (first | (go_at_call 157; refine (eqFile_same x _).mono ?_; rintro e w2 ⟨rfl, hf1⟩))
      go_wp2_with fail
      go_roundw
      case rel => exact ⟨k + 1, by omega, by go_num, by repeat (first | (with_reducible exact Fr.refl _) | (with_reducible assumption) | (with_reducible refine Fr.drewN ?_ _) | (with_reducible refine Fr.drew ?_) | (with_reducible refine Fr.alloc ?_ _) | (with_reducible refine Fr.setCell ?_ (by (first | (with_reducible assumption) | omega | (simp only [World.size_alloc, World.size_setCell, World.size_drew, World.heap_drewN]; omega) | (simp; done) | (simp; omega))) _) | (with_reducible refine Fr.trans ?_ (by with_reducible assumption)))⟩
      case measure => (simp [intOf]; omega)
    · clear fa fb
      go_wp2
      go_ret
      exact ⟨rfl, hfr⟩
end Go.Proofs.Ytphjlecbhbcbcaa
