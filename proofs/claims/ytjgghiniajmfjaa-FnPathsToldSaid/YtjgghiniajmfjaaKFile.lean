/- Texts in one: SFile, TFile, ODisk. -/
import Derived.Test.YtjgghiniajmfjaaKFlat
import Derived.Test.YtjgghiniajmfjaaOk
import Derived.Deep.QuietTactic
import Derived.BigQuiet
import Derived.Deep.RegionHeld3
import Derived.Test.YtjgghiniajmfjaaKApp
/- The struct File and slices of it: what they read as; the laws' helpers. No condition but the sizes that the reading gives. (Printed by mk_structs.py.) -/
namespace Go.Proofs.Ytjgghiniajmfjaa
open Go.RowKit
set_option linter.unusedVariables false
set_option linter.unusedSimpArgs false

structure FileR where
  f0 : ByteArray
  f1 : ByteArray
  f2 : Int
instance : Inhabited FileR := ⟨⟨ByteArray.empty, ByteArray.empty, default⟩⟩
def FileR.cells (x : FileR) : List Value := [.string x.f0, .string x.f1, .int .i64 x.f2]
theorem FileR.cells_length (x : FileR) : x.cells.length = 3 := rfl
def fileAt (l : List FileR) (k : Nat) : FileR := l.getD k default
theorem FileR.ext' {x y : FileR} (h0 : x.f0 = y.f0) (h1 : x.f1 = y.f1) (h2 : x.f2 = y.f2) : x = y := by cases x; cases y; simp_all

def FilesR (w : World) (v : Value) (xs : List FileR) : Prop := RdS w 3 v xs.length (xs.flatMap FileR.cells)
theorem FilesR.fr {w w' : World} {v : Value} {xs : List FileR} (h : FilesR w v xs) (hf : Fr w w') : FilesR w' v xs := RdS.fr h hf
theorem FilesR.le {w : World} {v : Value} {xs : List FileR} (h : FilesR w v xs) : xs.length ≤ 9223372036854775807 := RdS.le h
theorem file_flat (xs : List FileR) (k j : Nat) (hk : k < xs.length) (hj : j < 3) (d : Value) : (xs.flatMap FileR.cells).getD (k * 3 + j) d = (fileAt xs k).cells.getD j d := by
  induction xs generalizing k with
  | nil => simp at hk
  | cons x xs ih =>
    rw [List.flatMap_cons]
    cases k with
    | zero => simp [List.getD, List.getElem?_append_left (show j < x.cells.length by rw [FileR.cells_length]; exact hj), fileAt]
    | succ k =>
      have := ih k (by simpa using hk)
      simp only [List.getD] at this ⊢
      rw [List.getElem?_append_right (by rw [FileR.cells_length]; omega), show (k + 1) * 3 + j - x.cells.length = k * 3 + j by rw [FileR.cells_length]; omega, this]
      simp [fileAt]
theorem FilesR.one {w : World} {v : Value} {xs : List FileR} (h : FilesR w v xs) :
    ∃ ao b o cap, v = .slice ao xs.length cap ∧ xs.length ≤ cap ∧ cap ≤ 9223372036854775807 ∧ (0 < xs.length → ao = some ⟨b, o, none⟩ ∧ b < w.heap.size ∧ ∀ k, k < xs.length → w.cell? ⟨b, o + k * 3, none⟩ = some (.string (fileAt xs k).f0) ∧ w.cell? ⟨b, o + k * 3 + 1, none⟩ = some (.string (fileAt xs k).f1) ∧ w.cell? ⟨b, o + k * 3 + 2, none⟩ = some (.int .i64 (fileAt xs k).f2)) := by
  obtain ⟨ao, b, o, cap, h1, h2, h3, h4⟩ := RdS.one h undef
  refine ⟨ao, b, o, cap, h1, h2, h3, fun hn => ⟨(h4 hn).1, (h4 hn).2.1, fun k hk => ?_⟩⟩
  have hc := (h4 hn).2.2
  exact ⟨by have := hc (k * 3 + 0) (by omega); rw [file_flat xs k 0 hk (by omega)] at this; exact this, by have := hc (k * 3 + 1) (by omega); rw [file_flat xs k 1 hk (by omega)] at this; exact this, by have := hc (k * 3 + 2) (by omega); rw [file_flat xs k 2 hk (by omega)] at this; exact this⟩


theorem eqFile_same (x : FileR) (w : World) :
    Calls Try.prog 180 #[.agg #[.string x.f0, .string x.f1, .int .i64 x.f2], .agg #[.string x.f0, .string x.f1, .int .i64 x.f2]] w fun e w' => e = .returned (.bool true) ∧ Fr w w' := by
  have q0 : (x.f0.toList == x.f0.toList) = true := bytes_beq rfl
  have q1 : (x.f1.toList == x.f1.toList) = true := bytes_beq rfl
  go_enter Try.func180, Try.ntmps180
  go_wp2
  go_ret
  exact ⟨rfl, by repeat (first | (with_reducible exact Fr.refl _) | (with_reducible assumption) | (with_reducible refine Fr.drewN ?_ _) | (with_reducible refine Fr.drew ?_) | (with_reducible refine Fr.alloc ?_ _) | (with_reducible refine Fr.setCell ?_ (by (first | (with_reducible assumption) | omega | (simp only [World.size_alloc, World.size_setCell, World.size_drew, World.heap_drewN]; omega) | (simp; done) | (simp; omega))) _) | (with_reducible refine Fr.trans ?_ (by with_reducible assumption)))⟩

def FileR.bulk (x : FileR) : Nat := x.f0.size + x.f1.size
def FileR.okSize (x : FileR) : Prop := x.f0.size ≤ maxLen ∧ x.f1.size ≤ maxLen

theorem info_File : (Try.prog.info? 147).map (fun i => (i.zero, i.size, i.bytes)) = some (some (.agg #[.string ⟨#[]⟩, .string ⟨#[]⟩, .int .i64 0]), 3, 40) := by kernel_rfl
def FilesO (w : World) (lo : Nat) (v : Value) (xs : List FileR) : Prop := w.ownsRow lo 147 3 v xs.length (xs.flatMap FileR.cells)
theorem FilesO.rd {w : World} {lo : Nat} {v : Value} {xs : List FileR} (h : FilesO w lo v xs) : FilesR w v xs := RdS.of_owns h
theorem FilesO.val {w : World} {lo : Nat} {v : Value} {xs : List FileR} (h : FilesO w lo v xs) : ∃ ao cap, v = .slice ao xs.length cap := owns_val h
theorem FilesO.fr {w w' : World} {lo : Nat} {v : Value} {xs : List FileR} (h : FilesO w lo v xs) (hf : Fr w w') : FilesO w' lo v xs := owns_fr h hf
def sumFile (xs : List FileR) (k : Nat) : Nat := ((xs.take k).map FileR.bulk).sum
theorem sumFile_succ (xs : List FileR) (k : Nat) (h : k < xs.length) : sumFile xs (k + 1) = sumFile xs k + (fileAt xs k).bulk := by
  unfold sumFile fileAt
  rw [List.take_succ_eq_append_getElem h, List.map_append, List.sum_append]
  simp [List.getD, List.getElem?_eq_getElem h]
theorem sumFile_le (xs : List FileR) (k : Nat) : sumFile xs k ≤ sumFile xs xs.length := by
  unfold sumFile
  rw [List.take_length]
  conv => rhs; rw [← List.take_append_drop k xs]
  rw [List.map_append, List.sum_append]
  omega
def FilesBulk (xs : List FileR) : Nat := xs.length + sumFile xs xs.length
theorem file_mem {xs : List FileR} {p : FileR → Prop} (h : ∀ x ∈ xs, p x) (k : Nat) (hk : k < xs.length) : p (fileAt xs k) := by
  have := h xs[k] (List.getElem_mem hk)
  simpa [fileAt, List.getD, List.getElem?_eq_getElem hk] using this



theorem eqFileS_same (a b : Value) (xs : List FileR) (w : World) (ha : FilesR w a xs) (hb : FilesR w b xs) :
    Calls Try.prog 113 #[a, b] w fun e w' => e = .returned (.bool true) ∧ Fr w w' := by
  obtain ⟨ao, ba, oa, ca, rfl, hca, hma, fa⟩ := ha.one
  obtain ⟨bo, bb, ob, cb, rfl, hcb, hmb, fb⟩ := hb.one
  clear ha hb
  go_enter Try.func113, Try.ntmps113
  go_wp2
  go_loopw [5] (fun i wr => ∃ k : Nat, k ≤ xs.length ∧ i = .int .i64 k ∧ Fr w wr) (fun i _ => xs.length - (intOf i).toNat)
  case atStart => exact ⟨0, Nat.zero_le _, rfl, Fr.refl _⟩
  case round =>
    obtain ⟨k, hk, rfl, hfr⟩ := hrel
    by_cases hlt : k < xs.length
    · obtain ⟨rfl, hba, fa⟩ := fa (by omega)
      obtain ⟨rfl, hbb, fb⟩ := fb (by omega)
      obtain ⟨x, hx⟩ : ∃ x, fileAt xs k = x := ⟨_, rfl⟩
      have c0 : ∀ w', Fr wr w' → w'.cell? ⟨ba, oa + k * 3, none⟩ = some (.string x.f0) := fun w' hf => ((hfr.trans hf).cell (p := ⟨ba, _, none⟩) hba).trans (hx ▸ (fa k hlt).1)
      have c1 : ∀ w', Fr wr w' → w'.cell? ⟨ba, oa + k * 3 + 1, none⟩ = some (.string x.f1) := fun w' hf => ((hfr.trans hf).cell (p := ⟨ba, _, none⟩) hba).trans (hx ▸ (fa k hlt).2.1)
      have c2 : ∀ w', Fr wr w' → w'.cell? ⟨ba, oa + k * 3 + 2, none⟩ = some (.int .i64 x.f2) := fun w' hf => ((hfr.trans hf).cell (p := ⟨ba, _, none⟩) hba).trans (hx ▸ (fa k hlt).2.2)
      have e0 : ∀ w', Fr wr w' → w'.cell? ⟨bb, ob + k * 3, none⟩ = some (.string x.f0) := fun w' hf => ((hfr.trans hf).cell (p := ⟨bb, _, none⟩) hbb).trans (hx ▸ (fb k hlt).1)
      have e1 : ∀ w', Fr wr w' → w'.cell? ⟨bb, ob + k * 3 + 1, none⟩ = some (.string x.f1) := fun w' hf => ((hfr.trans hf).cell (p := ⟨bb, _, none⟩) hbb).trans (hx ▸ (fb k hlt).2.1)
      have e2 : ∀ w', Fr wr w' → w'.cell? ⟨bb, ob + k * 3 + 2, none⟩ = some (.int .i64 x.f2) := fun w' hf => ((hfr.trans hf).cell (p := ⟨bb, _, none⟩) hbb).trans (hx ▸ (fb k hlt).2.2)
      clear fa fb hx
      go_wp2_with fail
      go_region_held3 (fun w' => Fr wr w') (repeat (first | (with_reducible exact Fr.refl _) | (with_reducible assumption) | (with_reducible refine Fr.drewN ?_ _) | (with_reducible refine Fr.drew ?_) | (with_reducible refine Fr.alloc ?_ _) | (with_reducible refine Fr.setCell ?_ (by (first | (with_reducible assumption) | omega | (simp only [World.size_alloc, World.size_setCell, World.size_drew, World.heap_drewN]; omega) | (simp; done) | (simp; omega))) _) | (with_reducible refine Fr.trans ?_ (by with_reducible assumption)))) (first | (go_at_call 180; refine (eqFile_same x _).mono ?_; rintro e w2 ⟨rfl, hf1⟩))
      go_wp2_with fail
      go_roundw
      case rel => exact ⟨k + 1, by omega, by go_num, by repeat (first | (with_reducible exact Fr.refl _) | (with_reducible assumption) | (with_reducible refine Fr.drewN ?_ _) | (with_reducible refine Fr.drew ?_) | (with_reducible refine Fr.alloc ?_ _) | (with_reducible refine Fr.setCell ?_ (by (first | (with_reducible assumption) | omega | (simp only [World.size_alloc, World.size_setCell, World.size_drew, World.heap_drewN]; omega) | (simp; done) | (simp; omega))) _) | (with_reducible refine Fr.trans ?_ (by with_reducible assumption)))⟩
      case measure => (simp [intOf]; omega)
    · clear fa fb
      go_wp2
      go_ret
      exact ⟨rfl, hfr⟩
end Go.Proofs.Ytjgghiniajmfjaa

/- Marks of slices of File; their interface. (Printed by mk_types.py.) No condition but the sizes that the reading gives. -/
namespace Go.Proofs.Ytjgghiniajmfjaa
open Go.RowKit
set_option linter.unusedVariables false
set_option linter.unusedSimpArgs false

def mkFile (k : Int) : FileR := ⟨mTextI k, mTextI (k + 1), (k + 1 + 1)⟩
def mkFiles (k : Int) (n : Nat) : List FileR := (List.range n).map fun i : Nat => mkFile (k + 3 * i)
theorem mkFiles_length (k : Int) (n : Nat) : (mkFiles k n).length = n := by simp [mkFiles]
theorem mkFiles_at (k : Int) (n j : Nat) (h : j < n) : fileAt (mkFiles k n) j = mkFile (k + 3 * j) := by simp [mkFiles, fileAt, List.getD, h]
theorem file_oneCells (xs : List FileR) : ∀ u ∈ xs.flatMap FileR.cells, u.oneCell' = true := by
  intro u hu
  obtain ⟨x, _, h⟩ := List.mem_flatMap.1 hu
  simp only [FileR.cells, List.mem_cons, List.not_mem_nil, or_false] at h
  rcases h with rfl | rfl | rfl <;> rfl
def FilesW (w : World) (lo hi : Nat) (v : Value) (xs : List FileR) : Prop := OwW w lo hi 147 3 v xs.length (xs.flatMap FileR.cells)
theorem FilesW.rd {w : World} {lo hi : Nat} {v : Value} {xs : List FileR} (h : FilesW w lo hi v xs) : FilesR w v xs := OwW.rd h
theorem FilesW.val {w : World} {lo hi : Nat} {v : Value} {xs : List FileR} (h : FilesW w lo hi v xs) : ∃ ao cap, v = .slice ao xs.length cap := OwW.val h
theorem FilesW.fr {w w' : World} {lo hi : Nat} {v : Value} {xs : List FileR} (h : FilesW w lo hi v xs) (hf : Fr w w') : FilesW w' lo hi v xs := OwW.fr h hf
theorem FilesW.span {w w' : World} {lo hi : Nat} {v : Value} {xs : List FileR} (h : FilesW w lo hi v xs) {a b : Nat} (s : Span a b w w') (hd : hi ≤ a ∨ b ≤ lo) : FilesW w' lo hi v xs := OwW.span h s hd
theorem FilesW.nil (w : World) (lo hi : Nat) : FilesW w lo hi (.slice none 0 0) [] := OwW.nil _ _ _ _ _
theorem file_part (new old : List FileR) (m : Nat) (hm : m < old.length) (hl : new.length = old.length) : ((((partR new old FileR.cells m).set (m * 3) (Value.string (fileAt new m).f0)).set (m * 3 + 1) (Value.string (fileAt new m).f1)).set (m * 3 + 2) (Value.int .i64 (fileAt new m).f2)) = partR new old FileR.cells (m + 1) := by
  rw [partR_split new old FileR.cells m hm]
  have ha : ((new.take m).flatMap FileR.cells).length = m * 3 := flat_len new FileR.cells 3 FileR.cells_length m (by omega)
  rw [set_mid _ _ _ 0 _ (by rw [ha]; rfl) (by rw [FileR.cells_length]; omega)]
  rw [set_mid _ _ _ 1 _ (by rw [ha]) (by simp only [List.length_set]; rw [FileR.cells_length]; omega)]
  rw [set_mid _ _ _ 2 _ (by rw [ha]) (by simp only [List.length_set]; rw [FileR.cells_length]; omega)]
  rw [partR_next new old FileR.cells m (by omega)]
  rfl
set_option maxHeartbeats 1000000 in
set_option maxRecDepth 100000 in
theorem markFileS_any (g n cap : Nat) (xs : List FileR) (k : Int) (lo : Nat) (w : World) (ha : w.ownsRow lo 147 3 (.slice (some ⟨g, 0, none⟩) n cap) n (xs.flatMap FileR.cells)) (hn : xs.length = n) (h0 : 0 < k) (h1 : k + 3 * n ≤ 1073741824) :
    Calls Try.prog 116 #[.slice (some ⟨g, 0, none⟩) n cap, .int .i64 k] w fun e w' => e = .returned (.int .i64 (k + 3 * n)) ∧ w'.ownsRow lo 147 3 (.slice (some ⟨g, 0, none⟩) n cap) n ((mkFiles k n).flatMap FileR.cells) ∧ w.grownBy w' (some g) := by
  have hg0 : g < w.heap.size := (ha.lt g rfl).2
  go_enter Try.func116, Try.ntmps116
  go_wp2
  go_loopw [1, 5] (fun l i wr => ∃ m : Nat, m ≤ n ∧ i = .int .i64 m ∧ l = .int .i64 (k + 3 * m) ∧ wr.ownsRow lo 147 3 (.slice (some ⟨g, 0, none⟩) n cap) n (partR (mkFiles k n) xs FileR.cells m) ∧ w.grownBy wr (some g)) (fun _ i _ => n - (intOf i).toNat)
  case atStart => exact ⟨0, Nat.zero_le _, rfl, by simp, by rw [partR_zero]; exact ha, World.grownBy.refl _ _⟩
  case round =>
    clear ha
    obtain ⟨m, hm, rfl, rfl, ho, hfr⟩ := hrel
    by_cases hlt : m < n
    · have hp := file_part (mkFiles k n) xs m (by omega) (by rw [mkFiles_length, hn])
      rw [mkFiles_at k n m hlt] at hp
      have HP := Lib.hid hp
      clear hp
      go_wp2_with fail
      refine (markText_int (k + 3 * m) _ (by omega) (by omega)).mono ?_
      rintro e w0 ⟨rfl, hf0⟩
      have o0 := owns_fr ho hf0
      have f0 := o0.frozenAt (m * 3); obtain ⟨u0, c0⟩ := owns_cell o0 (m * 3) (by omega); have s0 := o0.stored (m * 3) (.string (mTextI (k + 3 * m)))
      go_wp2_with fail
      refine (markText_int (k + 3 * m + 1) _ (by omega) (by omega)).mono ?_
      rintro e w1 ⟨rfl, hf1⟩
      have o1 := owns_fr s0.1 hf1
      have f1 := o1.frozenAt (m * 3 + 1); obtain ⟨u1, c1⟩ := owns_cell o1 (m * 3 + 1) (by omega); have s1 := o1.stored (m * 3 + 1) (.string (mTextI (k + 3 * m + 1)))
      have f2 := s1.1.frozenAt (m * 3 + 2); obtain ⟨u2, c2⟩ := owns_cell s1.1 (m * 3 + 2) (by omega); have s2 := s1.1.stored (m * 3 + 2) (.int .i64 (k + 3 * m + 1 + 1))
      go_wp2_with fail
      go_roundw
      case rel => exact ⟨m + 1, by omega, by go_num, by go_num, HP.out ▸ s2.1, gr_trans (gr_trans (gr_trans (gr_trans (gr_trans hfr (hf0.gr _)) (s0.2)) (hf1.gr _)) (s1.2)) (s2.2)⟩
      case measure => (simp [intOf]; omega)
    · obtain rfl : m = n := by omega
      rw [partR_all _ _ _ m (by rw [mkFiles_length]) hn] at ho
      go_wp2
      go_ret
      exact ⟨rfl, ho, hfr⟩
theorem markFileS_w (v : Value) (xs : List FileR) (k : Int) (lo hi : Nat) (w : World) (ha : FilesW w lo hi v xs) (h0 : 0 < k) (h1 : k + 3 * xs.length ≤ 1073741824) :
    Calls Try.prog 116 #[v, .int .i64 k] w fun e w' => e = .returned (.int .i64 (k + 3 * xs.length)) ∧ FilesW w' lo hi v (mkFiles k xs.length) ∧ Span lo hi w w' := by
  rcases owns_shape ha.1 with ⟨rfl, hn, hx⟩ | ⟨g, cap, rfl, _⟩
  · have h3 : xs = [] := List.eq_nil_of_length_eq_zero hn
    subst h3
    clear ha hn hx
    go_enter Try.func116, Try.ntmps116
    go_wp2
    go_loopw [1, 5] (fun l i wr => i = .int .i64 0 ∧ l = .int .i64 k ∧ wr = w) (fun _ i _ => 0)
    case atStart => exact ⟨rfl, rfl, rfl⟩
    case round =>
      obtain ⟨rfl, rfl, rfl⟩ := hrel
      go_wp2
      go_ret
      exact ⟨by simp, by simpa [FilesW, mkFiles] using OwW.nil _ _ _ _ _, Span.refl _ _ _⟩
  · refine (markFileS_any g xs.length cap xs k lo w ha.1 rfl h0 h1).mono fun e w' h => ⟨h.1, ⟨?_, ha.2⟩, Span.of_gr h.2.2 ha.2⟩
    rw [mkFiles_length]
    exact h.2.1
set_option maxHeartbeats 1000000 in
set_option maxRecDepth 100000 in
theorem heldFileS_any (a : Value) (k : Int) (n : Nat) (w : World) (ha : FilesR w a (mkFiles k n)) (h0 : 0 < k) (h1 : k + 3 * n ≤ 1073741824) :
    Calls Try.prog 117 #[a, .int .i64 k] w fun e w' => e = .returned (.int .i64 (k + 3 * n)) ∧ Fr w w' := by
  obtain ⟨ao, ba, oa, ca, rfl, hca, hma, fa⟩ := ha.one
  clear ha
  rw [mkFiles_length] at hca fa ⊢
  go_enter Try.func117, Try.ntmps117
  go_wp2
  go_loopw [1, 5] (fun l i wr => ∃ m : Nat, m ≤ n ∧ i = .int .i64 m ∧ l = .int .i64 (k + 3 * m) ∧ Fr w wr) (fun _ i _ => n - (intOf i).toNat)
  case atStart => exact ⟨0, Nat.zero_le _, rfl, by simp, Fr.refl _⟩
  case round =>
    obtain ⟨m, hm, rfl, rfl, hfr⟩ := hrel
    by_cases hlt : m < n
    · obtain ⟨rfl, hba, fa⟩ := fa (by omega)
      have c0 : ∀ w', Fr wr w' → w'.cell? ⟨ba, oa + m * 3, none⟩ = some (.string (mTextI (k + 3 * m))) := fun w' hf => ((hfr.trans hf).cell (p := ⟨ba, _, none⟩) hba).trans ((fa m hlt).1.trans (by rw [mkFiles_at k n m hlt]; rfl))
      have c1 : ∀ w', Fr wr w' → w'.cell? ⟨ba, oa + m * 3 + 1, none⟩ = some (.string (mTextI (k + 3 * m + 1))) := fun w' hf => ((hfr.trans hf).cell (p := ⟨ba, _, none⟩) hba).trans ((fa m hlt).2.1.trans (by rw [mkFiles_at k n m hlt]; rfl))
      have c2 : ∀ w', Fr wr w' → w'.cell? ⟨ba, oa + m * 3 + 2, none⟩ = some (.int .i64 (k + 3 * m + 1 + 1)) := fun w' hf => ((hfr.trans hf).cell (p := ⟨ba, _, none⟩) hba).trans ((fa m hlt).2.2.trans (by rw [mkFiles_at k n m hlt]; rfl))
      clear fa
      go_wp2_with fail
      have e0 : ∀ w', Fr wr w' → w'.cell? ⟨ba, oa + m * 3, none⟩ = some (.string (mTextI (k + 3 * m))) := fun w' hf => c0 w' (by repeat (first | (with_reducible exact Fr.refl _) | (with_reducible assumption) | (with_reducible refine Fr.drewN ?_ _) | (with_reducible refine Fr.drew ?_) | (with_reducible refine Fr.alloc ?_ _) | (with_reducible refine Fr.setCell ?_ (by (first | (with_reducible assumption) | omega | (simp only [World.size_alloc, World.size_setCell, World.size_drew, World.heap_drewN]; omega) | (simp; done) | (simp; omega))) _) | (with_reducible refine Fr.trans ?_ (by with_reducible assumption))))
      go_region_held3 (fun w' => Fr wr w') (repeat (first | (with_reducible exact Fr.refl _) | (with_reducible assumption) | (with_reducible refine Fr.drewN ?_ _) | (with_reducible refine Fr.drew ?_) | (with_reducible refine Fr.alloc ?_ _) | (with_reducible refine Fr.setCell ?_ (by (first | (with_reducible assumption) | omega | (simp only [World.size_alloc, World.size_setCell, World.size_drew, World.heap_drewN]; omega) | (simp; done) | (simp; omega))) _) | (with_reducible refine Fr.trans ?_ (by with_reducible assumption)))) (first | (go_at_call 182; refine (markText_int (k + 3 * m) _ (by omega) (by omega)).mono ?_; rintro e w0 ⟨rfl, hf0⟩))
      clear e0
      go_wp2_with fail
      have e1 : ∀ w', Fr w0 w' → w'.cell? ⟨ba, oa + m * 3 + 1, none⟩ = some (.string (mTextI (k + 3 * m + 1))) := fun w' hf => c1 w' (by repeat (first | (with_reducible exact Fr.refl _) | (with_reducible assumption) | (with_reducible refine Fr.drewN ?_ _) | (with_reducible refine Fr.drew ?_) | (with_reducible refine Fr.alloc ?_ _) | (with_reducible refine Fr.setCell ?_ (by (first | (with_reducible assumption) | omega | (simp only [World.size_alloc, World.size_setCell, World.size_drew, World.heap_drewN]; omega) | (simp; done) | (simp; omega))) _) | (with_reducible refine Fr.trans ?_ (by with_reducible assumption))))
      go_region_held3 (fun w' => Fr w0 w') (repeat (first | (with_reducible exact Fr.refl _) | (with_reducible assumption) | (with_reducible refine Fr.drewN ?_ _) | (with_reducible refine Fr.drew ?_) | (with_reducible refine Fr.alloc ?_ _) | (with_reducible refine Fr.setCell ?_ (by (first | (with_reducible assumption) | omega | (simp only [World.size_alloc, World.size_setCell, World.size_drew, World.heap_drewN]; omega) | (simp; done) | (simp; omega))) _) | (with_reducible refine Fr.trans ?_ (by with_reducible assumption)))) (first | (go_at_call 182; refine (markText_int (k + 3 * m + 1) _ (by omega) (by omega)).mono ?_; rintro e w1 ⟨rfl, hf1⟩))
      clear e1
      have d2 := c2 w1 (by repeat (first | (with_reducible exact Fr.refl _) | (with_reducible assumption) | (with_reducible refine Fr.drewN ?_ _) | (with_reducible refine Fr.drew ?_) | (with_reducible refine Fr.alloc ?_ _) | (with_reducible refine Fr.setCell ?_ (by (first | (with_reducible assumption) | omega | (simp only [World.size_alloc, World.size_setCell, World.size_drew, World.heap_drewN]; omega) | (simp; done) | (simp; omega))) _) | (with_reducible refine Fr.trans ?_ (by with_reducible assumption))))
      go_wp2_with fail
      try go_quiet (fail)
      try go_wp2_with fail
      try go_wp2_with fail
      go_roundw
      case rel => exact ⟨m + 1, by omega, by go_num, by go_num, by repeat (first | (with_reducible exact Fr.refl _) | (with_reducible assumption) | (with_reducible refine Fr.drewN ?_ _) | (with_reducible refine Fr.drew ?_) | (with_reducible refine Fr.alloc ?_ _) | (with_reducible refine Fr.setCell ?_ (by (first | (with_reducible assumption) | omega | (simp only [World.size_alloc, World.size_setCell, World.size_drew, World.heap_drewN]; omega) | (simp; done) | (simp; omega))) _) | (with_reducible refine Fr.trans ?_ (by with_reducible assumption)))⟩
      case measure => (simp [intOf]; omega)
    · clear fa
      obtain rfl : m = n := by omega
      go_wp2
      go_ret
      exact ⟨rfl, hfr⟩
theorem heldFileS_w (a : Value) (k : Int) (n : Nat) (w : World) (ha : FilesR w a (mkFiles k n)) (h0 : 0 < k) (h1 : k + 3 * n ≤ 1073741824) :
    Calls Try.prog 117 #[a, .int .i64 k] w fun e w' => e = .returned (.int .i64 (k + 3 * n)) ∧ Fr w w' := heldFileS_any a k n w ha h0 h1
set_option maxHeartbeats 1000000 in
set_option maxRecDepth 100000 in
theorem cloneFile_w (v : Value) (xs : List FileR) (w : World) (hv : FilesR w v xs) (hn : xs.length ≤ 1048576) :
    Calls Try.prog 211 #[v] w fun e w' => ∃ ao cap, e = .returned (.slice ao xs.length cap) ∧ FilesW w' w.heap.size w'.heap.size (.slice ao xs.length cap) xs ∧ Fr w w' := by
  obtain ⟨ao, cap, rfl, hnil⟩ := RdS.val hv
  obtain ⟨i0, hi, hz0, hz1, hz2⟩ := info_parts info_File
  have q : ∀ (w : World) (a : Option Addr) (n c n' c' : Nat), (binOp .eql 44 (.slice a n c) (.slice none n' c')).run Try.prog w = .ok (.bool a.isNone) w := fun w a n c n' c' => Lib.run_eql_slice_nil w _ _ a n c n' c' Try.underlying44
  cases ao with
  | none =>
    have h3 : xs = [] := List.eq_nil_of_length_eq_zero (hnil rfl)
    subst h3
    clear hnil hv
    go_enter Try.func211, Try.ntmps211
    go_wp2
    go_ret
    exact ⟨none, 0, rfl, FilesW.nil _ _ _, by repeat (first | (with_reducible exact Fr.refl _) | (with_reducible assumption) | (with_reducible refine Fr.drewN ?_ _) | (with_reducible refine Fr.drew ?_) | (with_reducible refine Fr.alloc ?_ _) | (with_reducible refine Fr.setCell ?_ (by (first | (with_reducible assumption) | omega | (simp only [World.size_alloc, World.size_setCell, World.size_drew, World.heap_drewN]; omega) | (simp; done) | (simp; omega))) _) | (with_reducible refine Fr.trans ?_ (by with_reducible assumption)))⟩
  | some a =>
    clear hnil
    have HV := Lib.hid hv
    clear hv
    go_enter Try.func211, Try.ntmps211
    go_wp2_with (at_builtin; refine wpList_append_rd rfl _ _ 44 rfl w.heap.size 147 i0 (.agg #[.string ⟨#[]⟩, .string ⟨#[]⟩, .int .i64 0]) 3 40 Try.underlying44 hi hz0 hz1 hz2 rfl (by decide) (.slice (some ⟨w.heap.size, 0, none⟩) 0 0) 0 [] rfl (World.ownsRow_made w #[] 0 (Nat.le_refl _) (Nat.zero_le _) rfl) _ xs.length (xs.flatMap FileR.cells) rfl (RdS.fr HV.out (by repeat (first | (with_reducible exact Fr.refl _) | (with_reducible assumption) | (with_reducible refine Fr.drewN ?_ _) | (with_reducible refine Fr.drew ?_) | (with_reducible refine Fr.alloc ?_ _) | (with_reducible refine Fr.setCell ?_ (by (first | (with_reducible assumption) | omega | (simp only [World.size_alloc, World.size_setCell, World.size_drew, World.heap_drewN]; omega) | (simp; done) | (simp; omega))) _) | (with_reducible refine Fr.trans ?_ (by with_reducible assumption))))) (file_oneCells _) (by unfold maxLen; omega) (by omega) (by (first | (with_reducible assumption) | omega | (simp only [World.size_alloc, World.size_setCell, World.size_drew, World.heap_drewN]; omega) | (simp; done) | (simp; omega))) ?_; intro ao' cap' w1 hown hgrow hat)
    go_ret
    simp only [Nat.zero_add] at hown ⊢
    exact ⟨ao', cap', rfl, OwW.of_owns (by simpa using hown), ((Fr.refl _).alloc _).grown hgrow (by intro k hk; simp [Value.ownBlock] at hk; omega)⟩
end Go.Proofs.Ytjgghiniajmfjaa

/- The struct Disk, which holds one row: the laws' helpers. (Printed by mk_types.py.) No condition but the sizes that the reading gives. -/
namespace Go.Proofs.Ytjgghiniajmfjaa
open Go.RowKit
set_option linter.unusedVariables false
set_option linter.unusedSimpArgs false

structure DiskD where
  f0 : List FileR
def DiskRd (w : World) (v : Value) (d : DiskD) : Prop := ∃ u, v = .agg #[u] ∧ FilesR w u d.f0
def DiskW (w : World) (lo hi : Nat) (v : Value) (d : DiskD) : Prop := ∃ ao cap, v = .agg #[.slice ao d.f0.length cap] ∧ FilesW w lo hi (.slice ao d.f0.length cap) d.f0
theorem DiskRd.fr {w w' : World} {v : Value} {d : DiskD} (h : DiskRd w v d) (hf : Fr w w') : DiskRd w' v d := by obtain ⟨u, h1, h2⟩ := h; exact ⟨u, h1, h2.fr hf⟩
theorem DiskW.fr {w w' : World} {lo hi : Nat} {v : Value} {d : DiskD} (h : DiskW w lo hi v d) (hf : Fr w w') : DiskW w' lo hi v d := by obtain ⟨a, c, h1, h2⟩ := h; exact ⟨a, c, h1, h2.fr hf⟩
theorem DiskW.rd {w : World} {lo hi : Nat} {v : Value} {d : DiskD} (h : DiskW w lo hi v d) : DiskRd w v d := by obtain ⟨a, c, h1, h2⟩ := h; exact ⟨_, h1, h2.rd⟩
theorem DiskW.span {w w' : World} {lo hi : Nat} {v : Value} {d : DiskD} (h : DiskW w lo hi v d) {a b : Nat} (s : Span a b w w') (hd : hi ≤ a ∨ b ≤ lo) : DiskW w' lo hi v d := by obtain ⟨x, c, h1, h2⟩ := h; exact ⟨x, c, h1, h2.span s hd⟩
theorem DiskW.val {w : World} {lo hi : Nat} {v : Value} {d : DiskD} (h : DiskW w lo hi v d) : ∃ ao cap, v = .agg #[.slice ao d.f0.length cap] := by obtain ⟨a, c, h1, h2⟩ := h; exact ⟨a, c, h1⟩
set_option maxHeartbeats 1000000 in
theorem eqDisk_same (a b : Value) (d : DiskD) (w : World) (ha : DiskRd w a d) (hb : DiskRd w b d) :
    Calls Try.prog 42 #[a, b] w fun e w' => e = .returned (.bool true) ∧ Fr w w' := by
  obtain ⟨u, rfl, hu⟩ := ha
  obtain ⟨v, rfl, hv⟩ := hb
  go_enter Try.func42, Try.ntmps42
  go_wp2_with (go_at_call 113; refine (eqFileS_same _ _ d.f0 _ (hu.fr (by repeat (first | (with_reducible exact Fr.refl _) | (with_reducible assumption) | (with_reducible refine Fr.drewN ?_ _) | (with_reducible refine Fr.drew ?_) | (with_reducible refine Fr.alloc ?_ _) | (with_reducible refine Fr.setCell ?_ (by (first | (with_reducible assumption) | omega | (simp only [World.size_alloc, World.size_setCell, World.size_drew, World.heap_drewN]; omega) | (simp; done) | (simp; omega))) _) | (with_reducible refine Fr.trans ?_ (by with_reducible assumption))))) (hv.fr (by repeat (first | (with_reducible exact Fr.refl _) | (with_reducible assumption) | (with_reducible refine Fr.drewN ?_ _) | (with_reducible refine Fr.drew ?_) | (with_reducible refine Fr.alloc ?_ _) | (with_reducible refine Fr.setCell ?_ (by (first | (with_reducible assumption) | omega | (simp only [World.size_alloc, World.size_setCell, World.size_drew, World.heap_drewN]; omega) | (simp; done) | (simp; omega))) _) | (with_reducible refine Fr.trans ?_ (by with_reducible assumption)))))).mono ?_; rintro e w1 ⟨rfl, hf⟩; have z1 := hf.size; (try simp only [World.size_alloc, World.size_setCell, World.size_drew] at z1); have k0 := hf.blk w.heap.size (by (first | (with_reducible assumption) | omega | (simp only [World.size_alloc, World.size_setCell, World.size_drew, World.heap_drewN]; omega) | (simp; done) | (simp; omega))); have k1 := hf.blk (w.heap.size + 1) (by (first | (with_reducible assumption) | omega | (simp only [World.size_alloc, World.size_setCell, World.size_drew, World.heap_drewN]; omega) | (simp; done) | (simp; omega))))
  go_ret
  exact ⟨rfl, by repeat (first | (with_reducible exact Fr.refl _) | (with_reducible assumption) | (with_reducible refine Fr.drewN ?_ _) | (with_reducible refine Fr.drew ?_) | (with_reducible refine Fr.alloc ?_ _) | (with_reducible refine Fr.setCell ?_ (by (first | (with_reducible assumption) | omega | (simp only [World.size_alloc, World.size_setCell, World.size_drew, World.heap_drewN]; omega) | (simp; done) | (simp; omega))) _) | (with_reducible refine Fr.trans ?_ (by with_reducible assumption)))⟩
def DiskD.bulk (d : DiskD) : Nat := (FilesBulk d.f0)
def DiskD.okSize (d : DiskD) : Prop := (∀ x ∈ d.f0, x.okSize)
def DiskD.cnt (d : DiskD) : Nat := 3 * d.f0.length
def DiskD.mkd (d : DiskD) (k : Int) : DiskD := { d with f0 := mkFiles k d.f0.length }
theorem DiskD.mkd_cnt (d : DiskD) (k : Int) : (d.mkd k).cnt = d.cnt := by simp [DiskD.cnt, DiskD.mkd, mkFiles_length]
set_option maxHeartbeats 1000000 in
theorem markDisk_w (v : Value) (d : DiskD) (k : Int) (lo hi : Nat) (w : World) (ha : DiskW w lo hi v d) (hh : hi ≤ w.heap.size) (h0 : 0 < k) (h1 : k + d.cnt ≤ 1073741824) :
    Calls Try.prog 45 #[v, .int .i64 k] w fun e w' => e = .returned (.int .i64 (k + d.cnt)) ∧ DiskW w' lo hi v (d.mkd k) ∧ Span lo hi w w' := by
  unfold DiskD.cnt at h1 ⊢
  obtain ⟨ao, cap, rfl, hu⟩ := ha
  go_enter Try.func45, Try.ntmps45
  go_wp2_with fail
  refine (markFileS_w _ d.f0 k lo hi _ (hu.fr (by repeat (first | (with_reducible exact Fr.refl _) | (with_reducible assumption) | (with_reducible refine Fr.drewN ?_ _) | (with_reducible refine Fr.drew ?_) | (with_reducible refine Fr.alloc ?_ _) | (with_reducible refine Fr.setCell ?_ (by (first | (with_reducible assumption) | omega | (simp only [World.size_alloc, World.size_setCell, World.size_drew, World.heap_drewN]; omega) | (simp; done) | (simp; omega))) _) | (with_reducible refine Fr.trans ?_ (by with_reducible assumption))))) h0 (by omega)).mono ?_
  rintro e w1 ⟨rfl, ho, sp⟩
  have B := (Box.new w _ _).span sp (.inr hh)
  have F := B.facts
  go_wp2_with fail
  go_ret
  exact ⟨ret_int (by simp), ⟨ao, cap, by simp [DiskD.mkd, mkFiles_length], by simpa [DiskD.mkd, mkFiles_length] using ho⟩, (Span.of_fr (by repeat (first | (with_reducible exact Fr.refl _) | (with_reducible assumption) | (with_reducible refine Fr.drewN ?_ _) | (with_reducible refine Fr.drew ?_) | (with_reducible refine Fr.alloc ?_ _) | (with_reducible refine Fr.setCell ?_ (by (first | (with_reducible assumption) | omega | (simp only [World.size_alloc, World.size_setCell, World.size_drew, World.heap_drewN]; omega) | (simp; done) | (simp; omega))) _) | (with_reducible refine Fr.trans ?_ (by with_reducible assumption))))).trans sp⟩
set_option maxHeartbeats 1000000 in
theorem heldDisk_w (v : Value) (d : DiskD) (k : Int) (w : World) (ha : DiskRd w v (d.mkd k)) (h0 : 0 < k) (h1 : k + d.cnt ≤ 1073741824) :
    Calls Try.prog 46 #[v, .int .i64 k] w fun e w' => e = .returned (.int .i64 (k + d.cnt)) ∧ Fr w w' := by
  unfold DiskD.cnt at h1 ⊢
  obtain ⟨u, rfl, hu⟩ := ha
  go_enter Try.func46, Try.ntmps46
  go_wp2_with fail
  refine (heldFileS_w _ k d.f0.length _ (hu.fr (by repeat (first | (with_reducible exact Fr.refl _) | (with_reducible assumption) | (with_reducible refine Fr.drewN ?_ _) | (with_reducible refine Fr.drew ?_) | (with_reducible refine Fr.alloc ?_ _) | (with_reducible refine Fr.setCell ?_ (by (first | (with_reducible assumption) | omega | (simp only [World.size_alloc, World.size_setCell, World.size_drew, World.heap_drewN]; omega) | (simp; done) | (simp; omega))) _) | (with_reducible refine Fr.trans ?_ (by with_reducible assumption))))) h0 (by omega)).mono ?_
  rintro e w1 ⟨rfl, hf⟩
  go_wp2_with fail
  go_ret
  exact ⟨ret_int (by simp), by repeat (first | (with_reducible exact Fr.refl _) | (with_reducible assumption) | (with_reducible refine Fr.drewN ?_ _) | (with_reducible refine Fr.drew ?_) | (with_reducible refine Fr.alloc ?_ _) | (with_reducible refine Fr.setCell ?_ (by (first | (with_reducible assumption) | omega | (simp only [World.size_alloc, World.size_setCell, World.size_drew, World.heap_drewN]; omega) | (simp; done) | (simp; omega))) _) | (with_reducible refine Fr.trans ?_ (by with_reducible assumption)))⟩
end Go.Proofs.Ytjgghiniajmfjaa
