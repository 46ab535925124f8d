/- Texts in one: Lose, Lose2. -/
import Derived.Test.YtjgghiniajmfjaaDisk2
import Derived.Test.YtjgghiniajmfjaaKFile
import Derived.Deep.RegionHeld3
import Derived.BigRegion
import Derived.Deep.RegionLaw
/- Disks: copies, LoseDisk of the program and of the reference. Conditions: bounds on the lengths of what is copied, which the laws pay. -/
namespace Go.Proofs.Ytjgghiniajmfjaa
open Go.RowKit
set_option linter.unusedVariables false
set_option linter.unusedSimpArgs false
def loseN (x : FileR) (n : Int) : Int := min (max n x.f2) x.f1.size
def loseF (x : FileR) (n : Int) : FileR := ⟨x.f0, x.f1.extract 0 (loseN x n).toNat, loseN x n⟩
def leftAt (ls : List Int) (i : Nat) : Int := if i < ls.length then iAt ls i else 0
def loseK (xs : List FileR) (ls : List Int) (k : Nat) : List FileR := (List.range k).map fun i => loseF (fileAt xs i) (leftAt ls i)
def loseB (d : DiskD) : Bool := diskB d.f0
def loseD (d : DiskD) (ls : List Int) : DiskD := ⟨if diskB d.f0 then loseK d.f0 ls d.f0.length else []⟩
theorem loseK_length (xs : List FileR) (ls : List Int) (k : Nat) : (loseK xs ls k).length = k := by simp [loseK]
theorem loseK_at (xs : List FileR) (ls : List Int) (k j : Nat) (h : j < k) : fileAt (loseK xs ls k) j = loseF (fileAt xs j) (leftAt ls j) := by simp [loseK, fileAt, List.getD, h]
theorem loseD_cnt {d : DiskD} {ls : List Int} (hn : d.f0.length ≤ 1048576) : (loseD d ls).cnt ≤ 100000000 := by
  unfold loseD DiskD.cnt
  split <;> simp [loseK_length] <;> omega
theorem diskB_file {xs : List FileR} (h : diskB xs = true) {k : Nat} (hk : k < xs.length) : (fileAt xs k).f1.size ≤ 20000 ∧ 0 ≤ (fileAt xs k).f2 ∧ (fileAt xs k).f2 ≤ (fileAt xs k).f1.size := by
  unfold diskB at h
  rw [Bool.and_eq_true, List.all_eq_true] at h
  have := h.2 k (List.mem_range.2 hk)
  unfold fileK fileB at this
  simp only [Bool.and_eq_true, decide_eq_true_eq] at this
  exact ⟨this.1.1.2, this.1.2.1, this.1.2.2⟩
theorem diskB_len {xs : List FileR} (h : diskB xs = true) : xs.length ≤ 30 := by
  unfold diskB at h
  rw [Bool.and_eq_true, decide_eq_true_eq] at h
  exact h.1
set_option maxHeartbeats 1600000 in
theorem copyDisk_any (v : Value) (d : DiskD) (w : World) (hv : DiskRd w v d) (hn : d.f0.length ≤ 1048576) :
    Calls Try.prog 172 #[v] w fun e w' => ∃ ao cap, e = .returned (.agg #[.slice ao d.f0.length cap]) ∧ DiskW w' w.heap.size w'.heap.size (.agg #[.slice ao d.f0.length cap]) d ∧ Fr w w' := by
  obtain ⟨u, rfl, hu⟩ := hv
  go_enter Try.func172, Try.ntmps172
  go_wp2_with fail
  refine (cloneFile_w u d.f0 _ (hu.fr (by repeat (first | (with_reducible exact Fr.refl _) | (with_reducible assumption) | (with_reducible refine Fr.drewN ?_ _) | (with_reducible refine Fr.drew ?_) | (with_reducible refine Fr.alloc ?_ _) | (with_reducible refine Fr.setCell ?_ (by (first | (with_reducible assumption) | omega | (simp only [World.size_alloc, World.size_setCell, World.size_drew, World.heap_drewN]; omega) | (simp; done) | (simp; omega))) _) | (with_reducible refine Fr.trans ?_ (by with_reducible assumption))))) hn).mono ?_
  rintro e w1 ⟨ao, cap, rfl, o1, hf1⟩
  have B0 : Box w1 (w.heap.size) #[u] 46 := (Box.new' (w := w) rfl).fr (by repeat (first | (with_reducible exact Fr.refl _) | (with_reducible assumption) | (with_reducible refine Fr.drewN ?_ _) | (with_reducible refine Fr.drew ?_) | (with_reducible refine Fr.alloc ?_ _) | (with_reducible refine Fr.setCell ?_ (by (first | (with_reducible assumption) | omega | (simp only [World.size_alloc, World.size_setCell, World.size_drew, World.heap_drewN]; omega) | (simp; done) | (simp; omega))) _) | (with_reducible refine Fr.trans ?_ (by with_reducible assumption))))
  have C1 : Box w1 (w.heap.size + 1) #[.slice none 0 0] 46 := (Box.new' (w := w.alloc (.cells #[u] 46)) (by simp)).fr (by repeat (first | (with_reducible exact Fr.refl _) | (with_reducible assumption) | (with_reducible refine Fr.drewN ?_ _) | (with_reducible refine Fr.drew ?_) | (with_reducible refine Fr.alloc ?_ _) | (with_reducible refine Fr.setCell ?_ (by (first | (with_reducible assumption) | omega | (simp only [World.size_alloc, World.size_setCell, World.size_drew, World.heap_drewN]; omega) | (simp; done) | (simp; omega))) _) | (with_reducible refine Fr.trans ?_ (by with_reducible assumption))))
  have F1 := B0.facts; have F2 := C1.facts
  have z1 := hf1.size; (try simp only [World.size_alloc, World.size_setCell, World.size_drew] at z1)
  go_wp2
  refine bodyPost_ret (v := .agg #[.slice ao d.f0.length cap]) (by simp [results, Try.results172, go_sem, *]) rfl ⟨_, _, rfl, ⟨ao, cap, rfl, ?_⟩, by repeat (first | (with_reducible exact Fr.refl _) | (with_reducible assumption) | (with_reducible refine Fr.drewN ?_ _) | (with_reducible refine Fr.drew ?_) | (with_reducible refine Fr.alloc ?_ _) | (with_reducible refine Fr.setCell ?_ (by (first | (with_reducible assumption) | omega | (simp only [World.size_alloc, World.size_setCell, World.size_drew, World.heap_drewN]; omega) | (simp; done) | (simp; omega))) _) | (with_reducible refine Fr.trans ?_ (by with_reducible assumption)))⟩
  exact OwW.mono (OwW.ab o1 (by repeat (first | (with_reducible exact Ab.refl _ _) | (with_reducible assumption) | (with_reducible refine Ab.drewN ?_ _) | (with_reducible refine Ab.drew ?_) | (with_reducible refine Ab.alloc ?_ _) | (with_reducible refine Ab.setCell ?_ (by (first | (with_reducible assumption) | omega | (simp only [World.size_alloc, World.size_setCell, World.size_drew, World.heap_drewN]; omega) | (simp; done) | (simp; omega))) _) | (with_reducible refine Ab.fr ?_ (by with_reducible assumption))))) (by (first | (with_reducible assumption) | omega | (simp only [World.size_alloc, World.size_setCell, World.size_drew, World.heap_drewN]; omega) | (simp; done) | (simp; omega))) (by (first | (with_reducible assumption) | omega | (simp only [World.size_alloc, World.size_setCell, World.size_drew, World.heap_drewN]; omega) | (simp; done) | (simp; omega)))
theorem file_part_at (new old : List FileR) (m j : Nat) (hm : m < old.length) (hl : new.length = old.length) (hj : j < 3) : (partR new old FileR.cells m)[m * 3 + j]? = (fileAt old m).cells[j]? := by
  rw [partR_split new old FileR.cells m hm]
  have ha : ((new.take m).flatMap FileR.cells).length = m * 3 := flat_len new FileR.cells 3 FileR.cells_length m (by omega)
  rw [List.append_assoc, List.getElem?_append_right (by omega), ha, Nat.add_sub_cancel_left, List.getElem?_append_left (by rw [FileR.cells_length]; exact hj)]
  rfl
theorem lose_part (xs : List FileR) (ls : List Int) (k : Nat) (hk : k < xs.length) {x : FileR} (hx : fileAt xs k = x) {n : Int} (hn : leftAt ls k = n) {m : Nat} (hm : loseN x n = (m : Int)) :
    ((partR (loseK xs ls xs.length) xs FileR.cells k).set (k * 3 + 2) (.int .i64 m)).set (k * 3 + 1) (.string (x.f1.extract 0 m)) = partR (loseK xs ls xs.length) xs FileR.cells (k + 1) := by
  have ha : (((loseK xs ls xs.length).take k).flatMap FileR.cells).length = k * 3 := flat_len _ FileR.cells 3 FileR.cells_length k (by rw [loseK_length]; omega)
  rw [partR_split _ xs FileR.cells k hk, set_mid _ _ _ 2 _ (by rw [ha]) (by rw [FileR.cells_length]; omega), set_mid _ _ _ 1 _ (by rw [ha]) (by simp only [List.length_set]; rw [FileR.cells_length]; omega), partR_next _ xs FileR.cells k (by rw [loseK_length]; exact hk)]
  have h1 : (loseK xs ls xs.length).getD k default = loseF x n := by rw [← hx, ← hn]; exact loseK_at xs ls xs.length k hk
  have h2 : xs.getD k default = x := hx
  rw [h1, h2]
  unfold loseF
  rw [hm]
  rfl
set_option maxHeartbeats 2000000 in
set_option maxRecDepth 100000 in
theorem implLoseDisk_any (d : DiskD) (ls : List Int) (hn : d.f0.length ≤ 1048576) (v v1 : Value) (w : World) (hv : DiskRd w v d) (hv1 : IntsR w v1 ls) :
    Calls Try.prog 106 #[v, v1] w fun e w' => ∃ ao cap, e = .returned (.tuple #[.agg #[.slice ao (loseD d ls).f0.length cap], .bool (loseB d)]) ∧ DiskW w' w.heap.size w'.heap.size (.agg #[.slice ao (loseD d ls).f0.length cap]) (loseD d ls) ∧ Fr w w' := by
  obtain ⟨xs⟩ := d
  obtain ⟨u, rfl, hu⟩ := hv
  have hv : DiskRd w _ ⟨xs⟩ := ⟨_, rfl, hu⟩
  simp only at hn hu
  have hl := hu.le
  obtain ⟨a0, c0, rfl, _⟩ := RdS.val hu
  obtain ⟨a1, b1, o1, c1, rfl, hc1, hm1, f1⟩ := hv1.one
  cases hb : diskB xs
  · have HD : Hid (loseD ⟨xs⟩ ls = ⟨[]⟩) := by unfold loseD; rw [hb]; rfl
    have HB : Hid (loseB ⟨xs⟩ = false) := hb
    go_enter Try.func106, Try.ntmps106
    go_wp2_with fail
    refine (implDiskOk_any _ xs _ (hu.fr (by repeat (first | (with_reducible exact Fr.refl _) | (with_reducible assumption) | (with_reducible refine Fr.drewN ?_ _) | (with_reducible refine Fr.drew ?_) | (with_reducible refine Fr.alloc ?_ _) | (with_reducible refine Fr.setCell ?_ (by (first | (with_reducible assumption) | omega | (simp only [World.size_alloc, World.size_setCell, World.size_drew, World.heap_drewN]; omega) | (simp; done) | (simp; omega))) _) | (with_reducible refine Fr.trans ?_ (by with_reducible assumption)))))).mono ?_
    rintro e w1 ⟨rfl, hf1⟩
    have BR : Box w1 (w.heap.size + 1) #[.slice none 0 0] 46 := (Box.new' (w := w.alloc (.cells #[.slice a0 xs.length c0] 46)) (by simp)).fr (by repeat (first | (with_reducible exact Fr.refl _) | (with_reducible assumption) | (with_reducible refine Fr.drewN ?_ _) | (with_reducible refine Fr.drew ?_) | (with_reducible refine Fr.alloc ?_ _) | (with_reducible refine Fr.setCell ?_ (by (first | (with_reducible assumption) | omega | (simp only [World.size_alloc, World.size_setCell, World.size_drew, World.heap_drewN]; omega) | (simp; done) | (simp; omega))) _) | (with_reducible refine Fr.trans ?_ (by with_reducible assumption))))
    have FRR := BR.facts
    have z1 := hf1.size; (try simp only [World.size_alloc, World.size_setCell, World.size_drew] at z1)
    go_wp2_with fail
    rw [HD.out, HB.out]
    refine bodyPost_ret (v := .tuple #[.agg #[.slice none 0 0], .bool false]) (by simp [results, Try.results106, go_sem, *]) rfl ⟨none, 0, rfl, ⟨none, 0, rfl, FilesW.nil _ _ _⟩, by repeat (first | (with_reducible exact Fr.refl _) | (with_reducible assumption) | (with_reducible refine Fr.drewN ?_ _) | (with_reducible refine Fr.drew ?_) | (with_reducible refine Fr.alloc ?_ _) | (with_reducible refine Fr.setCell ?_ (by (first | (with_reducible assumption) | omega | (simp only [World.size_alloc, World.size_setCell, World.size_drew, World.heap_drewN]; omega) | (simp; done) | (simp; omega))) _) | (with_reducible refine Fr.trans ?_ (by with_reducible assumption)))⟩
  · have hlen := diskB_len hb
    have hfile := fun k (hk : k < xs.length) => diskB_file hb hk
    have HF := Lib.hid hfile
    have HD : Hid (loseD ⟨xs⟩ ls = ⟨loseK xs ls xs.length⟩) := by unfold loseD; rw [hb]; rfl
    have HB : Hid (loseB ⟨xs⟩ = true) := hb
    have HB' := Lib.hid hb
    clear hfile hb
    go_enter Try.func106, Try.ntmps106
    go_wp2_with fail
    refine (implDiskOk_any _ xs _ (hu.fr (by repeat (first | (with_reducible exact Fr.refl _) | (with_reducible assumption) | (with_reducible refine Fr.drewN ?_ _) | (with_reducible refine Fr.drew ?_) | (with_reducible refine Fr.alloc ?_ _) | (with_reducible refine Fr.setCell ?_ (by (first | (with_reducible assumption) | omega | (simp only [World.size_alloc, World.size_setCell, World.size_drew, World.heap_drewN]; omega) | (simp; done) | (simp; omega))) _) | (with_reducible refine Fr.trans ?_ (by with_reducible assumption)))))).mono ?_
    rintro e w1 ⟨rfl, hf1⟩
    rw [HB'.out]
    have BD : Box w1 (w.heap.size) #[.slice a0 xs.length c0] 46 := (Box.new' (w := w) rfl).fr (by repeat (first | (with_reducible exact Fr.refl _) | (with_reducible assumption) | (with_reducible refine Fr.drewN ?_ _) | (with_reducible refine Fr.drew ?_) | (with_reducible refine Fr.alloc ?_ _) | (with_reducible refine Fr.setCell ?_ (by (first | (with_reducible assumption) | omega | (simp only [World.size_alloc, World.size_setCell, World.size_drew, World.heap_drewN]; omega) | (simp; done) | (simp; omega))) _) | (with_reducible refine Fr.trans ?_ (by with_reducible assumption))))
    have BR : Box w1 (w.heap.size + 1) #[.slice none 0 0] 46 := (Box.new' (w := w.alloc (.cells #[.slice a0 xs.length c0] 46)) (by simp)).fr (by repeat (first | (with_reducible exact Fr.refl _) | (with_reducible assumption) | (with_reducible refine Fr.drewN ?_ _) | (with_reducible refine Fr.drew ?_) | (with_reducible refine Fr.alloc ?_ _) | (with_reducible refine Fr.setCell ?_ (by (first | (with_reducible assumption) | omega | (simp only [World.size_alloc, World.size_setCell, World.size_drew, World.heap_drewN]; omega) | (simp; done) | (simp; omega))) _) | (with_reducible refine Fr.trans ?_ (by with_reducible assumption))))
    have FD := BD.facts; have FRR := BR.facts
    have z1 := hf1.size; (try simp only [World.size_alloc, World.size_setCell, World.size_drew] at z1)
    go_wp2_with fail
    refine (copyDisk_any _ ⟨xs⟩ _ (hv.fr (by repeat (first | (with_reducible exact Fr.refl _) | (with_reducible assumption) | (with_reducible refine Fr.drewN ?_ _) | (with_reducible refine Fr.drew ?_) | (with_reducible refine Fr.alloc ?_ _) | (with_reducible refine Fr.setCell ?_ (by (first | (with_reducible assumption) | omega | (simp only [World.size_alloc, World.size_setCell, World.size_drew, World.heap_drewN]; omega) | (simp; done) | (simp; omega))) _) | (with_reducible refine Fr.trans ?_ (by with_reducible assumption))))) hn).mono ?_
    rintro e w2 ⟨ao, cap, rfl, o2, hf2⟩
    obtain ⟨_, _, h9, o2⟩ := o2
    cases h9
    have z2 := hf2.size
    have BR := BR.fr hf2
    have BO : Box (w2.alloc (.cells #[.slice ao xs.length cap] 46)) w2.heap.size #[.slice ao xs.length cap] 46 := Box.new _ _ _
    have FRR := BR.facts
    go_wp2_with fail
    go_loopw [7, 8, 9, 19] (fun _ _ _ i wr => ∃ k : Nat, k ≤ xs.length ∧ i = .int .i64 k ∧ wr.ownsRow w1.heap.size 147 3 (.slice ao xs.length cap) xs.length (partR (loseK xs ls xs.length) xs FileR.cells k) ∧ Box wr w2.heap.size #[.slice ao xs.length cap] 46 ∧ Box wr (w.heap.size + 1) #[.slice none 0 0] 46 ∧ Fr w wr) (fun _ _ _ i _ => xs.length - (intOf i).toNat)
    case atStart => exact ⟨0, Nat.zero_le _, rfl, by rw [partR_zero]; exact World.ownsRow.alloc o2.1 _, BO, BR.alloc _, by repeat (first | (with_reducible exact Fr.refl _) | (with_reducible assumption) | (with_reducible refine Fr.drewN ?_ _) | (with_reducible refine Fr.drew ?_) | (with_reducible refine Fr.alloc ?_ _) | (with_reducible refine Fr.setCell ?_ (by (first | (with_reducible assumption) | omega | (simp only [World.size_alloc, World.size_setCell, World.size_drew, World.heap_drewN]; omega) | (simp; done) | (simp; omega))) _) | (with_reducible refine Fr.trans ?_ (by with_reducible assumption)))⟩
    case round =>
      clear BO BR FRR FD
      obtain ⟨k, hk, rfl, ho, BO, BR, hfr⟩ := hrel
      have FO := BO.facts
      by_cases hlt : k < xs.length
      · rcases owns_shape ho with ⟨_, h0, _⟩ | ⟨g, cap', hval, hg1, hg2, _, hcm⟩
        · omega
        cases hval
        unfold maxLen at hcm
        obtain ⟨x, hx⟩ : ∃ x, fileAt xs k = x := ⟨_, rfl⟩
        have hok := HF.out k hlt
        have q0 : wr.cell? ⟨g, k * 3, none⟩ = some (.string x.f0) := (ho.cellAt (k * 3) (by omega)).trans ((file_part_at _ xs k 0 hlt (loseK_length _ _ _) (by omega)).trans (by rw [hx]; rfl))
        have q1 : wr.cell? ⟨g, k * 3 + 1, none⟩ = some (.string x.f1) := (ho.cellAt (k * 3 + 1) (by omega)).trans ((file_part_at _ xs k 1 hlt (loseK_length _ _ _) (by omega)).trans (by rw [hx]; rfl))
        have q2 : wr.cell? ⟨g, k * 3 + 2, none⟩ = some (.int .i64 x.f2) := (ho.cellAt (k * 3 + 2) (by omega)).trans ((file_part_at _ xs k 2 hlt (loseK_length _ _ _) (by omega)).trans (by rw [hx]; rfl))
        have p1 := ho.frozenAt (k * 3 + 1); have p2 := ho.frozenAt (k * 3 + 2)
        rw [hx] at hok
        have HX := Lib.hid hx
        clear hx
        by_cases hk2 : k < ls.length
        · obtain ⟨rfl, hb1, f1⟩ := f1 (by omega)
          have r1 : wr.cell? ⟨b1, o1 + k, none⟩ = some (.int .i64 (iAt ls k)) := (hfr.cell (p := ⟨b1, _, none⟩) hb1).trans (f1 k hk2)
          obtain ⟨n, hnn⟩ : ∃ n, iAt ls k = n := ⟨_, rfl⟩
          rw [hnn] at r1
          have HN : Hid (leftAt ls k = n) := by unfold leftAt; rw [if_pos hk2]; exact hnn
          clear hnn f1
          go_wp2_with fail
          go_region
          obtain ⟨M, hM⟩ : ∃ M, min (max n x.f2) (x.f1.size : Int) = M := ⟨_, rfl⟩
          have hM0 : 0 ≤ M := by omega
          have hM1 : M ≤ x.f1.size := by omega
          obtain ⟨mm, rfl⟩ := Int.eq_ofNat_of_zero_le hM0
          have hM2 : mm ≤ x.f1.size := by omega
          have HM := Lib.hid hM
          rw [hM]
          clear hM hM0
          have hsz : x.f1.size ≤ 20000 := hok.1
          clear hok
          go_wp2_with fail
          go_region
          go_wp2_with fail
          have hgl := o2.2 g rfl
          have s1 := ho.stored (k * 3 + 2) (.int .i64 (mm : Int))
          have s2 := s1.1.stored (k * 3 + 1) (.string (x.f1.extract 0 mm))
          have hpt := lose_part xs ls k hlt HX.out HN.out HM.out
          rw [hpt] at s2
          go_roundw
          case rel => exact ⟨k + 1, by omega, by go_num, World.ownsRow.drew (World.ownsRow.drew s2.1), ((BO.other (p := ⟨g, k * 3 + 2, none⟩) (by simp; omega) _).other (p := ⟨g, k * 3 + 1, none⟩) (by simp; omega) _).drew.drew, ((BR.other (p := ⟨g, k * 3 + 2, none⟩) (by simp; omega) _).other (p := ⟨g, k * 3 + 1, none⟩) (by simp; omega) _).drew.drew, by repeat (first | (with_reducible exact Fr.refl _) | (with_reducible assumption) | (with_reducible refine Fr.drewN ?_ _) | (with_reducible refine Fr.drew ?_) | (with_reducible refine Fr.alloc ?_ _) | (with_reducible refine Fr.setCell ?_ (by (first | (with_reducible assumption) | omega | (simp only [World.size_alloc, World.size_setCell, World.size_drew, World.heap_drewN]; omega) | (simp; done) | (simp; omega))) _) | (with_reducible refine Fr.trans ?_ (by with_reducible assumption)))⟩
          case measure => (simp [intOf]; omega)
        · obtain ⟨n, hnn⟩ : ∃ n : Int, n = 0 := ⟨_, rfl⟩
          have HN : Hid (leftAt ls k = n) := by unfold leftAt; rw [if_neg hk2, hnn]; exact rfl
          clear f1
          go_wp2_with fail
          rw [← hnn]
          clear hnn
          go_region
          obtain ⟨M, hM⟩ : ∃ M, min (max n x.f2) (x.f1.size : Int) = M := ⟨_, rfl⟩
          have hM0 : 0 ≤ M := by omega
          have hM1 : M ≤ x.f1.size := by omega
          obtain ⟨mm, rfl⟩ := Int.eq_ofNat_of_zero_le hM0
          have hM2 : mm ≤ x.f1.size := by omega
          have HM := Lib.hid hM
          rw [hM]
          clear hM hM0
          have hsz : x.f1.size ≤ 20000 := hok.1
          clear hok
          go_wp2_with fail
          go_region
          go_wp2_with fail
          have hgl := o2.2 g rfl
          have s1 := ho.stored (k * 3 + 2) (.int .i64 (mm : Int))
          have s2 := s1.1.stored (k * 3 + 1) (.string (x.f1.extract 0 mm))
          have hpt := lose_part xs ls k hlt HX.out HN.out HM.out
          rw [hpt] at s2
          go_roundw
          case rel => exact ⟨k + 1, by omega, by go_num, World.ownsRow.drew (World.ownsRow.drew s2.1), ((BO.other (p := ⟨g, k * 3 + 2, none⟩) (by simp; omega) _).other (p := ⟨g, k * 3 + 1, none⟩) (by simp; omega) _).drew.drew, ((BR.other (p := ⟨g, k * 3 + 2, none⟩) (by simp; omega) _).other (p := ⟨g, k * 3 + 1, none⟩) (by simp; omega) _).drew.drew, by repeat (first | (with_reducible exact Fr.refl _) | (with_reducible assumption) | (with_reducible refine Fr.drewN ?_ _) | (with_reducible refine Fr.drew ?_) | (with_reducible refine Fr.alloc ?_ _) | (with_reducible refine Fr.setCell ?_ (by (first | (with_reducible assumption) | omega | (simp only [World.size_alloc, World.size_setCell, World.size_drew, World.heap_drewN]; omega) | (simp; done) | (simp; omega))) _) | (with_reducible refine Fr.trans ?_ (by with_reducible assumption)))⟩
          case measure => (simp [intOf]; omega)
      · obtain rfl : k = xs.length := by omega
        rw [partR_all _ _ _ _ (loseK_length _ _ _) rfl] at ho
        have FRR := BR.facts
        have hll := loseK_length xs ls xs.length
        have HLL := Lib.hid hll
        have hrz := hfr.size
        clear f1 hll
        go_wp2_with fail
        rw [HD.out, HB.out]
        refine bodyPost_ret (v := .tuple #[.agg #[.slice ao xs.length cap], .bool true]) (by simp [results, Try.results106, go_sem, *]) rfl ⟨ao, cap, by rw [HLL.out], ⟨ao, cap, rfl, ?_⟩, by repeat (first | (with_reducible exact Fr.refl _) | (with_reducible assumption) | (with_reducible refine Fr.drewN ?_ _) | (with_reducible refine Fr.drew ?_) | (with_reducible refine Fr.alloc ?_ _) | (with_reducible refine Fr.setCell ?_ (by (first | (with_reducible assumption) | omega | (simp only [World.size_alloc, World.size_setCell, World.size_drew, World.heap_drewN]; omega) | (simp; done) | (simp; omega))) _) | (with_reducible refine Fr.trans ?_ (by with_reducible assumption)))⟩
        unfold FilesW
        rw [HLL.out]
        exact OwW.mono (OwW.set (OwW.of_owns ho) (.inl (by (first | (with_reducible assumption) | omega | (simp only [World.size_alloc, World.size_setCell, World.size_drew, World.heap_drewN]; omega) | (simp; done) | (simp; omega)))) _) (by (first | (with_reducible assumption) | omega | (simp only [World.size_alloc, World.size_setCell, World.size_drew, World.heap_drewN]; omega) | (simp; done) | (simp; omega))) (by (first | (with_reducible assumption) | omega | (simp only [World.size_alloc, World.size_setCell, World.size_drew, World.heap_drewN]; omega) | (simp; done) | (simp; omega)))
end Go.Proofs.Ytjgghiniajmfjaa

/- Disks: copies, LoseDisk of the reference. Conditions: bounds on the lengths of what is copied, which the laws pay. -/
namespace Go.Proofs.Ytjgghiniajmfjaa
open Go.RowKit
set_option linter.unusedVariables false
set_option linter.unusedSimpArgs false
theorem extract_all (s : ByteArray) : s.extract 0 s.size = s := by
  apply WideShapes.bytes_inj
  simp
theorem loseK_succ (xs : List FileR) (ls : List Int) (k : Nat) {x : FileR} (hx : fileAt xs k = x) {n : Int} (hn : leftAt ls k = n) {m : Nat} (hm : loseN x n = (m : Int)) :
    (loseK xs ls (k + 1)).flatMap FileR.cells = (loseK xs ls k).flatMap FileR.cells ++ [.string x.f0, .string (x.f1.extract 0 m), .int .i64 m] := by
  unfold loseK
  rw [List.range_succ, List.map_append, List.flatMap_append]
  simp [FileR.cells, loseF, hx, hn, hm]
end Go.Proofs.Ytjgghiniajmfjaa
