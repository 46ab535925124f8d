/- The reference's DoAct, part 4. Condition: bounds on what is read, which the laws pay. (Printed by mk_act.py.) -/
import Derived.Test.YthcbnilmhenpgaaAct
import Derived.Test.YthcbnilmhenpgaaODisk
namespace Go.Proofs.Ythcbnilmhenpgaa
open Go.RowKit
set_option linter.unusedVariables false
set_option linter.unusedSimpArgs false
set_option maxHeartbeats 4000000 in
set_option maxRecDepth 100000 in
theorem sda_mvn (xs : List FileR) (nm tx to : ByteArray) (hn : xs.length ≤ 1048576) (ha : tx.size ≤ 1048576) (a0 : Option Addr) (b0 o0 c0 : Nat) (w : World) (HU : Hid (FilesR w (.slice a0 xs.length c0) xs)) (F0 : Hid (FilesAt w xs a0 b0 o0)) (HD : Hid (diskB xs = true)) (h1 : nameB nm = true) (ht : tx.toList.isEmpty = true) (j : Nat) (hj : j < xs.length) (hhit : fIx xs nm = (j : Int)) (hkp : (fileAt xs j).f2 = ((fileAt xs j).f1.size : Int)) (h6 : (to.toList == nm.toList) = false) (h5 : nameB to = false) : SDA xs 3 nm tx to a0 c0 w := by
  unfold SDA
  have HB : Hid (doB xs ⟨3, nm, tx, to⟩ = false) := doB_fits (by unfold fitsB; simp [h5])
  have HL := Lib.hid (doL_no HB.out)
  have HFI := Lib.hid (fun j (hj : j < xs.length) => diskB_file HD.out hj)
  have hlen := diskB_len HD.out
  have HK : Hid (fIx xs nm = (j : Int)) := hhit
  obtain ⟨x, hx⟩ : ∃ x, fileAt xs j = x := ⟨_, rfl⟩
  have HX := Lib.hid hx
  have HAX : Hid (∀ q tx to, actX xs ⟨q, nm, tx, to⟩ = x) := fun q tx to => by unfold actX; simp only []; rw [hhit, Int.toNat_natCast]; exact hx
  obtain ⟨hx1, hx2, hx3⟩ := HFI.out j hj
  rw [hx] at hx1 hx2 hx3
  have hneg : ¬ fIx xs nm < 0 := by rw [hhit]; omega
  have HNG := Lib.hid hneg
  clear hx hhit hneg
  have hkq : ¬ x.f2 < (x.f1.size : Int) := by rw [HX.out] at hkp; omega
  clear hkp
  go_enter Try.func8, Try.ntmps8
  go_wp2_with fail
  refine (specDiskOk_any _ xs _ (HU.out.fr (by repeat (first | (with_reducible exact Fr.refl _) | (with_reducible assumption) | (with_reducible refine Fr.drewN ?_ _) | (with_reducible refine Fr.drew ?_) | (with_reducible refine Fr.alloc ?_ _) | (with_reducible refine Fr.setCell ?_ (by (first | (with_reducible assumption) | omega | (simp only [World.size_alloc, World.size_setCell, World.size_drew, World.heap_drewN]; omega) | (simp; done) | (simp; omega))) _) | (with_reducible refine Fr.trans ?_ (by with_reducible assumption)))))).mono ?_
  rintro e w1 ⟨rfl, hf1⟩
  have BD : Box w1 w.heap.size #[.slice a0 xs.length c0] 31 := (((Box.new _ _ _).alloc _).alloc _).fr hf1
  have BA : Box w1 (w.heap.size + 1) #[.int .i64 3, .string nm, .string tx, .string to] 35 := ((Box.new' (w := w.alloc (.cells #[.slice a0 xs.length c0] 31)) (by simp)).alloc _).fr hf1
  have BR : Box w1 (w.heap.size + 1 + 1) #[.slice none 0 0] 31 := (Box.new' (w := (w.alloc (.cells #[.slice a0 xs.length c0] 31)).alloc (.cells #[.int .i64 3, .string nm, .string tx, .string to] 35)) (by simp)).fr hf1
  have FD := BD.facts; have FA := BA.facts; have FRR := BR.facts
  have z1 := hf1.size; (try simp only [World.size_alloc, World.size_setCell, World.size_drew] at z1)
  rw [HD.out]
  go_wp2_with (go_at_call 28; refine (l14Name_any _ _).mono ?_; rintro e w9 ⟨rfl, rfl⟩)
  refine (l14At_any _ xs nm _ (HU.out.fr (by repeat (first | (with_reducible exact Fr.refl _) | (with_reducible assumption) | (with_reducible refine Fr.drewN ?_ _) | (with_reducible refine Fr.drew ?_) | (with_reducible refine Fr.alloc ?_ _) | (with_reducible refine Fr.setCell ?_ (by (first | (with_reducible assumption) | omega | (simp only [World.size_alloc, World.size_setCell, World.size_drew, World.heap_drewN]; omega) | (simp; done) | (simp; omega))) _) | (with_reducible refine Fr.trans ?_ (by with_reducible assumption)))))).mono ?_
  rintro e w2 ⟨rfl, hf2⟩
  rw [HK.out]
  have BD := BD.fr hf2; have BA := BA.fr hf2; have BR := BR.fr hf2
  clear FD FA FRR
  have FD := BD.facts; have FA := BA.facts; have FRR := BR.facts
  have z2 := hf2.size
  obtain ⟨rfl, hb0, f0⟩ := F0.out (by omega)
  have fk := f0 j hj
  rw [HX.out] at fk
  obtain ⟨g0, g1, g2⟩ := fk
  have hf02 : Fr w w2 := by repeat (first | (with_reducible exact Fr.refl _) | (with_reducible assumption) | (with_reducible refine Fr.drewN ?_ _) | (with_reducible refine Fr.drew ?_) | (with_reducible refine Fr.alloc ?_ _) | (with_reducible refine Fr.setCell ?_ (by (first | (with_reducible assumption) | omega | (simp only [World.size_alloc, World.size_setCell, World.size_drew, World.heap_drewN]; omega) | (simp; done) | (simp; omega))) _) | (with_reducible refine Fr.trans ?_ (by with_reducible assumption)))
  have q0 := (hf02.cell (p := ⟨b0, _, none⟩) hb0).trans g0
  have q1 := (hf02.cell (p := ⟨b0, _, none⟩) hb0).trans g1
  have q2 := (hf02.cell (p := ⟨b0, _, none⟩) hb0).trans g2
  have hb2 : b0 < w2.heap.size := Nat.lt_of_lt_of_le hb0 hf02.size
  clear g0 g1 g2 f0
  go_wp2_with (go_at_call 28; refine (l14Name_any _ _).mono ?_; rintro e w9 ⟨rfl, rfl⟩)
  all_goals
    rw [HL.out, HB.out]
    refine bodyPost_ret (v := .tuple #[.agg #[.slice none 0 0], .bool false]) (by simp [results, Try.results8, go_sem, *]) rfl ⟨none, 0, rfl, FilesW.nil _ _ _, by repeat (first | (with_reducible exact Fr.refl _) | (with_reducible assumption) | (with_reducible refine Fr.drewN ?_ _) | (with_reducible refine Fr.drew ?_) | (with_reducible refine Fr.alloc ?_ _) | (with_reducible refine Fr.setCell ?_ (by (first | (with_reducible assumption) | omega | (simp only [World.size_alloc, World.size_setCell, World.size_drew, World.heap_drewN]; omega) | (simp; done) | (simp; omega))) _) | (with_reducible refine Fr.trans ?_ (by with_reducible assumption)))⟩
set_option maxHeartbeats 4000000 in
set_option maxRecDepth 100000 in
theorem sda_mvs (xs : List FileR) (nm tx to : ByteArray) (hn : xs.length ≤ 1048576) (ha : tx.size ≤ 1048576) (a0 : Option Addr) (b0 o0 c0 : Nat) (w : World) (HU : Hid (FilesR w (.slice a0 xs.length c0) xs)) (F0 : Hid (FilesAt w xs a0 b0 o0)) (HD : Hid (diskB xs = true)) (h1 : nameB nm = true) (ht : tx.toList.isEmpty = true) (j : Nat) (hj : j < xs.length) (hhit : fIx xs nm = (j : Int)) (hkp : (fileAt xs j).f2 = ((fileAt xs j).f1.size : Int)) (h6 : (to.toList == nm.toList) = true) : SDA xs 3 nm tx to a0 c0 w := by
  unfold SDA
  have HB : Hid (doB xs ⟨3, nm, tx, to⟩ = false) := doB_fits (by unfold fitsB; simp [h6])
  have HL := Lib.hid (doL_no HB.out)
  have HFI := Lib.hid (fun j (hj : j < xs.length) => diskB_file HD.out hj)
  have hlen := diskB_len HD.out
  have HK : Hid (fIx xs nm = (j : Int)) := hhit
  obtain ⟨x, hx⟩ : ∃ x, fileAt xs j = x := ⟨_, rfl⟩
  have HX := Lib.hid hx
  have HAX : Hid (∀ q tx to, actX xs ⟨q, nm, tx, to⟩ = x) := fun q tx to => by unfold actX; simp only []; rw [hhit, Int.toNat_natCast]; exact hx
  obtain ⟨hx1, hx2, hx3⟩ := HFI.out j hj
  rw [hx] at hx1 hx2 hx3
  have hneg : ¬ fIx xs nm < 0 := by rw [hhit]; omega
  have HNG := Lib.hid hneg
  clear hx hhit hneg
  have hkq : ¬ x.f2 < (x.f1.size : Int) := by rw [HX.out] at hkp; omega
  clear hkp
  go_enter Try.func8, Try.ntmps8
  go_wp2_with fail
  refine (specDiskOk_any _ xs _ (HU.out.fr (by repeat (first | (with_reducible exact Fr.refl _) | (with_reducible assumption) | (with_reducible refine Fr.drewN ?_ _) | (with_reducible refine Fr.drew ?_) | (with_reducible refine Fr.alloc ?_ _) | (with_reducible refine Fr.setCell ?_ (by (first | (with_reducible assumption) | omega | (simp only [World.size_alloc, World.size_setCell, World.size_drew, World.heap_drewN]; omega) | (simp; done) | (simp; omega))) _) | (with_reducible refine Fr.trans ?_ (by with_reducible assumption)))))).mono ?_
  rintro e w1 ⟨rfl, hf1⟩
  have BD : Box w1 w.heap.size #[.slice a0 xs.length c0] 31 := (((Box.new _ _ _).alloc _).alloc _).fr hf1
  have BA : Box w1 (w.heap.size + 1) #[.int .i64 3, .string nm, .string tx, .string to] 35 := ((Box.new' (w := w.alloc (.cells #[.slice a0 xs.length c0] 31)) (by simp)).alloc _).fr hf1
  have BR : Box w1 (w.heap.size + 1 + 1) #[.slice none 0 0] 31 := (Box.new' (w := (w.alloc (.cells #[.slice a0 xs.length c0] 31)).alloc (.cells #[.int .i64 3, .string nm, .string tx, .string to] 35)) (by simp)).fr hf1
  have FD := BD.facts; have FA := BA.facts; have FRR := BR.facts
  have z1 := hf1.size; (try simp only [World.size_alloc, World.size_setCell, World.size_drew] at z1)
  rw [HD.out]
  go_wp2_with (go_at_call 28; refine (l14Name_any _ _).mono ?_; rintro e w9 ⟨rfl, rfl⟩)
  refine (l14At_any _ xs nm _ (HU.out.fr (by repeat (first | (with_reducible exact Fr.refl _) | (with_reducible assumption) | (with_reducible refine Fr.drewN ?_ _) | (with_reducible refine Fr.drew ?_) | (with_reducible refine Fr.alloc ?_ _) | (with_reducible refine Fr.setCell ?_ (by (first | (with_reducible assumption) | omega | (simp only [World.size_alloc, World.size_setCell, World.size_drew, World.heap_drewN]; omega) | (simp; done) | (simp; omega))) _) | (with_reducible refine Fr.trans ?_ (by with_reducible assumption)))))).mono ?_
  rintro e w2 ⟨rfl, hf2⟩
  rw [HK.out]
  have BD := BD.fr hf2; have BA := BA.fr hf2; have BR := BR.fr hf2
  clear FD FA FRR
  have FD := BD.facts; have FA := BA.facts; have FRR := BR.facts
  have z2 := hf2.size
  obtain ⟨rfl, hb0, f0⟩ := F0.out (by omega)
  have fk := f0 j hj
  rw [HX.out] at fk
  obtain ⟨g0, g1, g2⟩ := fk
  have hf02 : Fr w w2 := by repeat (first | (with_reducible exact Fr.refl _) | (with_reducible assumption) | (with_reducible refine Fr.drewN ?_ _) | (with_reducible refine Fr.drew ?_) | (with_reducible refine Fr.alloc ?_ _) | (with_reducible refine Fr.setCell ?_ (by (first | (with_reducible assumption) | omega | (simp only [World.size_alloc, World.size_setCell, World.size_drew, World.heap_drewN]; omega) | (simp; done) | (simp; omega))) _) | (with_reducible refine Fr.trans ?_ (by with_reducible assumption)))
  have q0 := (hf02.cell (p := ⟨b0, _, none⟩) hb0).trans g0
  have q1 := (hf02.cell (p := ⟨b0, _, none⟩) hb0).trans g1
  have q2 := (hf02.cell (p := ⟨b0, _, none⟩) hb0).trans g2
  have hb2 : b0 < w2.heap.size := Nat.lt_of_lt_of_le hb0 hf02.size
  clear g0 g1 g2 f0
  go_wp2_with (go_at_call 28; refine (l14Name_any _ _).mono ?_; rintro e w9 ⟨rfl, rfl⟩)
  all_goals
    rw [HL.out, HB.out]
    refine bodyPost_ret (v := .tuple #[.agg #[.slice none 0 0], .bool false]) (by simp [results, Try.results8, go_sem, *]) rfl ⟨none, 0, rfl, FilesW.nil _ _ _, by repeat (first | (with_reducible exact Fr.refl _) | (with_reducible assumption) | (with_reducible refine Fr.drewN ?_ _) | (with_reducible refine Fr.drew ?_) | (with_reducible refine Fr.alloc ?_ _) | (with_reducible refine Fr.setCell ?_ (by (first | (with_reducible assumption) | omega | (simp only [World.size_alloc, World.size_setCell, World.size_drew, World.heap_drewN]; omega) | (simp; done) | (simp; omega))) _) | (with_reducible refine Fr.trans ?_ (by with_reducible assumption)))⟩
set_option maxHeartbeats 4000000 in
set_option maxRecDepth 100000 in
theorem sda_mvk (xs : List FileR) (nm tx to : ByteArray) (hn : xs.length ≤ 1048576) (ha : tx.size ≤ 1048576) (a0 : Option Addr) (b0 o0 c0 : Nat) (w : World) (HU : Hid (FilesR w (.slice a0 xs.length c0) xs)) (F0 : Hid (FilesAt w xs a0 b0 o0)) (HD : Hid (diskB xs = true)) (h1 : nameB nm = true) (ht : tx.toList.isEmpty = true) (j : Nat) (hj : j < xs.length) (hhit : fIx xs nm = (j : Int)) (hkp : ¬ (fileAt xs j).f2 = ((fileAt xs j).f1.size : Int)) : SDA xs 3 nm tx to a0 c0 w := by
  unfold SDA
  have HFI := Lib.hid (fun j (hj : j < xs.length) => diskB_file HD.out hj)
  have hlen := diskB_len HD.out
  have HK : Hid (fIx xs nm = (j : Int)) := hhit
  obtain ⟨x, hx⟩ : ∃ x, fileAt xs j = x := ⟨_, rfl⟩
  have HX := Lib.hid hx
  have HAX : Hid (∀ q tx to, actX xs ⟨q, nm, tx, to⟩ = x) := fun q tx to => by unfold actX; simp only []; rw [hhit, Int.toNat_natCast]; exact hx
  obtain ⟨hx1, hx2, hx3⟩ := HFI.out j hj
  rw [hx] at hx1 hx2 hx3
  have hneg : ¬ fIx xs nm < 0 := by rw [hhit]; omega
  have HNG := Lib.hid hneg
  clear hx hhit hneg
  rw [HX.out] at hkp
  have HB : Hid (doB xs ⟨3, nm, tx, to⟩ = false) := doB_none (by unfold outA; simp only []; rw [if_neg (by omega), if_neg HNG.out, if_neg (by omega), if_pos trivial, HAX.out, if_neg hkp])
  have HL := Lib.hid (doL_no HB.out)
  have hkq : x.f2 < (x.f1.size : Int) := by omega
  clear hkp
  go_enter Try.func8, Try.ntmps8
  go_wp2_with fail
  refine (specDiskOk_any _ xs _ (HU.out.fr (by repeat (first | (with_reducible exact Fr.refl _) | (with_reducible assumption) | (with_reducible refine Fr.drewN ?_ _) | (with_reducible refine Fr.drew ?_) | (with_reducible refine Fr.alloc ?_ _) | (with_reducible refine Fr.setCell ?_ (by (first | (with_reducible assumption) | omega | (simp only [World.size_alloc, World.size_setCell, World.size_drew, World.heap_drewN]; omega) | (simp; done) | (simp; omega))) _) | (with_reducible refine Fr.trans ?_ (by with_reducible assumption)))))).mono ?_
  rintro e w1 ⟨rfl, hf1⟩
  have BD : Box w1 w.heap.size #[.slice a0 xs.length c0] 31 := (((Box.new _ _ _).alloc _).alloc _).fr hf1
  have BA : Box w1 (w.heap.size + 1) #[.int .i64 3, .string nm, .string tx, .string to] 35 := ((Box.new' (w := w.alloc (.cells #[.slice a0 xs.length c0] 31)) (by simp)).alloc _).fr hf1
  have BR : Box w1 (w.heap.size + 1 + 1) #[.slice none 0 0] 31 := (Box.new' (w := (w.alloc (.cells #[.slice a0 xs.length c0] 31)).alloc (.cells #[.int .i64 3, .string nm, .string tx, .string to] 35)) (by simp)).fr hf1
  have FD := BD.facts; have FA := BA.facts; have FRR := BR.facts
  have z1 := hf1.size; (try simp only [World.size_alloc, World.size_setCell, World.size_drew] at z1)
  rw [HD.out]
  go_wp2_with (go_at_call 28; refine (l14Name_any _ _).mono ?_; rintro e w9 ⟨rfl, rfl⟩)
  refine (l14At_any _ xs nm _ (HU.out.fr (by repeat (first | (with_reducible exact Fr.refl _) | (with_reducible assumption) | (with_reducible refine Fr.drewN ?_ _) | (with_reducible refine Fr.drew ?_) | (with_reducible refine Fr.alloc ?_ _) | (with_reducible refine Fr.setCell ?_ (by (first | (with_reducible assumption) | omega | (simp only [World.size_alloc, World.size_setCell, World.size_drew, World.heap_drewN]; omega) | (simp; done) | (simp; omega))) _) | (with_reducible refine Fr.trans ?_ (by with_reducible assumption)))))).mono ?_
  rintro e w2 ⟨rfl, hf2⟩
  rw [HK.out]
  have BD := BD.fr hf2; have BA := BA.fr hf2; have BR := BR.fr hf2
  clear FD FA FRR
  have FD := BD.facts; have FA := BA.facts; have FRR := BR.facts
  have z2 := hf2.size
  obtain ⟨rfl, hb0, f0⟩ := F0.out (by omega)
  have fk := f0 j hj
  rw [HX.out] at fk
  obtain ⟨g0, g1, g2⟩ := fk
  have hf02 : Fr w w2 := by repeat (first | (with_reducible exact Fr.refl _) | (with_reducible assumption) | (with_reducible refine Fr.drewN ?_ _) | (with_reducible refine Fr.drew ?_) | (with_reducible refine Fr.alloc ?_ _) | (with_reducible refine Fr.setCell ?_ (by (first | (with_reducible assumption) | omega | (simp only [World.size_alloc, World.size_setCell, World.size_drew, World.heap_drewN]; omega) | (simp; done) | (simp; omega))) _) | (with_reducible refine Fr.trans ?_ (by with_reducible assumption)))
  have q0 := (hf02.cell (p := ⟨b0, _, none⟩) hb0).trans g0
  have q1 := (hf02.cell (p := ⟨b0, _, none⟩) hb0).trans g1
  have q2 := (hf02.cell (p := ⟨b0, _, none⟩) hb0).trans g2
  have hb2 : b0 < w2.heap.size := Nat.lt_of_lt_of_le hb0 hf02.size
  clear g0 g1 g2 f0
  go_wp2_with (go_at_call 28; refine (l14Name_any _ _).mono ?_; rintro e w9 ⟨rfl, rfl⟩)
  all_goals
    rw [HL.out, HB.out]
    refine bodyPost_ret (v := .tuple #[.agg #[.slice none 0 0], .bool false]) (by simp [results, Try.results8, go_sem, *]) rfl ⟨none, 0, rfl, FilesW.nil _ _ _, by repeat (first | (with_reducible exact Fr.refl _) | (with_reducible assumption) | (with_reducible refine Fr.drewN ?_ _) | (with_reducible refine Fr.drew ?_) | (with_reducible refine Fr.alloc ?_ _) | (with_reducible refine Fr.setCell ?_ (by (first | (with_reducible assumption) | omega | (simp only [World.size_alloc, World.size_setCell, World.size_drew, World.heap_drewN]; omega) | (simp; done) | (simp; omega))) _) | (with_reducible refine Fr.trans ?_ (by with_reducible assumption)))⟩
set_option maxHeartbeats 4000000 in
set_option maxRecDepth 100000 in
theorem sda_ot0 (xs : List FileR) (k : Int) (nm tx to : ByteArray) (hn : xs.length ≤ 1048576) (ha : tx.size ≤ 1048576) (a0 : Option Addr) (b0 o0 c0 : Nat) (w : World) (HU : Hid (FilesR w (.slice a0 xs.length c0) xs)) (F0 : Hid (FilesAt w xs a0 b0 o0)) (HD : Hid (diskB xs = true)) (h1 : nameB nm = true) (h3 : to.toList.isEmpty = true) (ht : tx.toList.isEmpty = true) (hkc : ¬ (1 ≤ k ∧ k ≤ 4)) (hmiss : fIx xs nm = -1) : SDA xs k nm tx to a0 c0 w := by
  unfold SDA
  have hz1 : ¬ k = 1 := by omega
  have hz2 : ¬ k = 2 := by omega
  have hz3 : ¬ k = 3 := by omega
  have hz4 : ¬ k = 4 := by omega
  have HB : Hid (doB xs ⟨k, nm, tx, to⟩ = false) := doB_fits (by unfold fitsB; simp only []; rw [decide_eq_false hkc]; rfl)
  have HL := Lib.hid (doL_no HB.out)
  clear hkc
  have HK : Hid (fIx xs nm = -1) := hmiss
  clear hmiss
  go_enter Try.func8, Try.ntmps8
  go_wp2_with fail
  refine (specDiskOk_any _ xs _ (HU.out.fr (by repeat (first | (with_reducible exact Fr.refl _) | (with_reducible assumption) | (with_reducible refine Fr.drewN ?_ _) | (with_reducible refine Fr.drew ?_) | (with_reducible refine Fr.alloc ?_ _) | (with_reducible refine Fr.setCell ?_ (by (first | (with_reducible assumption) | omega | (simp only [World.size_alloc, World.size_setCell, World.size_drew, World.heap_drewN]; omega) | (simp; done) | (simp; omega))) _) | (with_reducible refine Fr.trans ?_ (by with_reducible assumption)))))).mono ?_
  rintro e w1 ⟨rfl, hf1⟩
  have BD : Box w1 w.heap.size #[.slice a0 xs.length c0] 31 := (((Box.new _ _ _).alloc _).alloc _).fr hf1
  have BA : Box w1 (w.heap.size + 1) #[.int .i64 k, .string nm, .string tx, .string to] 35 := ((Box.new' (w := w.alloc (.cells #[.slice a0 xs.length c0] 31)) (by simp)).alloc _).fr hf1
  have BR : Box w1 (w.heap.size + 1 + 1) #[.slice none 0 0] 31 := (Box.new' (w := (w.alloc (.cells #[.slice a0 xs.length c0] 31)).alloc (.cells #[.int .i64 k, .string nm, .string tx, .string to] 35)) (by simp)).fr hf1
  have FD := BD.facts; have FA := BA.facts; have FRR := BR.facts
  have z1 := hf1.size; (try simp only [World.size_alloc, World.size_setCell, World.size_drew] at z1)
  rw [HD.out]
  go_wp2_with (go_at_call 28; refine (l14Name_any _ _).mono ?_; rintro e w9 ⟨rfl, rfl⟩)
  refine (l14At_any _ xs nm _ (HU.out.fr (by repeat (first | (with_reducible exact Fr.refl _) | (with_reducible assumption) | (with_reducible refine Fr.drewN ?_ _) | (with_reducible refine Fr.drew ?_) | (with_reducible refine Fr.alloc ?_ _) | (with_reducible refine Fr.setCell ?_ (by (first | (with_reducible assumption) | omega | (simp only [World.size_alloc, World.size_setCell, World.size_drew, World.heap_drewN]; omega) | (simp; done) | (simp; omega))) _) | (with_reducible refine Fr.trans ?_ (by with_reducible assumption)))))).mono ?_
  rintro e w2 ⟨rfl, hf2⟩
  rw [HK.out]
  have BD := BD.fr hf2; have BA := BA.fr hf2; have BR := BR.fr hf2
  clear FD FA FRR
  have FD := BD.facts; have FA := BA.facts; have FRR := BR.facts
  have z2 := hf2.size
  go_wp2_with fail
  all_goals
    rw [HL.out, HB.out]
    refine bodyPost_ret (v := .tuple #[.agg #[.slice none 0 0], .bool false]) (by simp [results, Try.results8, go_sem, *]) rfl ⟨none, 0, rfl, FilesW.nil _ _ _, by repeat (first | (with_reducible exact Fr.refl _) | (with_reducible assumption) | (with_reducible refine Fr.drewN ?_ _) | (with_reducible refine Fr.drew ?_) | (with_reducible refine Fr.alloc ?_ _) | (with_reducible refine Fr.setCell ?_ (by (first | (with_reducible assumption) | omega | (simp only [World.size_alloc, World.size_setCell, World.size_drew, World.heap_drewN]; omega) | (simp; done) | (simp; omega))) _) | (with_reducible refine Fr.trans ?_ (by with_reducible assumption)))⟩
set_option maxHeartbeats 4000000 in
set_option maxRecDepth 100000 in
theorem sda_ot (xs : List FileR) (k : Int) (nm tx to : ByteArray) (hn : xs.length ≤ 1048576) (ha : tx.size ≤ 1048576) (a0 : Option Addr) (b0 o0 c0 : Nat) (w : World) (HU : Hid (FilesR w (.slice a0 xs.length c0) xs)) (F0 : Hid (FilesAt w xs a0 b0 o0)) (HD : Hid (diskB xs = true)) (h1 : nameB nm = true) (h3 : to.toList.isEmpty = true) (ht : tx.toList.isEmpty = true) (hkc : ¬ (1 ≤ k ∧ k ≤ 4)) (j : Nat) (hj : j < xs.length) (hhit : fIx xs nm = (j : Int)) : SDA xs k nm tx to a0 c0 w := by
  unfold SDA
  have hz1 : ¬ k = 1 := by omega
  have hz2 : ¬ k = 2 := by omega
  have hz3 : ¬ k = 3 := by omega
  have hz4 : ¬ k = 4 := by omega
  have HB : Hid (doB xs ⟨k, nm, tx, to⟩ = false) := doB_fits (by unfold fitsB; simp only []; rw [decide_eq_false hkc]; rfl)
  have HL := Lib.hid (doL_no HB.out)
  clear hkc
  have HFI := Lib.hid (fun j (hj : j < xs.length) => diskB_file HD.out hj)
  have hlen := diskB_len HD.out
  have HK : Hid (fIx xs nm = (j : Int)) := hhit
  obtain ⟨x, hx⟩ : ∃ x, fileAt xs j = x := ⟨_, rfl⟩
  have HX := Lib.hid hx
  have HAX : Hid (∀ q tx to, actX xs ⟨q, nm, tx, to⟩ = x) := fun q tx to => by unfold actX; simp only []; rw [hhit, Int.toNat_natCast]; exact hx
  obtain ⟨hx1, hx2, hx3⟩ := HFI.out j hj
  rw [hx] at hx1 hx2 hx3
  have hneg : ¬ fIx xs nm < 0 := by rw [hhit]; omega
  have HNG := Lib.hid hneg
  clear hx hhit hneg
  go_enter Try.func8, Try.ntmps8
  go_wp2_with fail
  refine (specDiskOk_any _ xs _ (HU.out.fr (by repeat (first | (with_reducible exact Fr.refl _) | (with_reducible assumption) | (with_reducible refine Fr.drewN ?_ _) | (with_reducible refine Fr.drew ?_) | (with_reducible refine Fr.alloc ?_ _) | (with_reducible refine Fr.setCell ?_ (by (first | (with_reducible assumption) | omega | (simp only [World.size_alloc, World.size_setCell, World.size_drew, World.heap_drewN]; omega) | (simp; done) | (simp; omega))) _) | (with_reducible refine Fr.trans ?_ (by with_reducible assumption)))))).mono ?_
  rintro e w1 ⟨rfl, hf1⟩
  have BD : Box w1 w.heap.size #[.slice a0 xs.length c0] 31 := (((Box.new _ _ _).alloc _).alloc _).fr hf1
  have BA : Box w1 (w.heap.size + 1) #[.int .i64 k, .string nm, .string tx, .string to] 35 := ((Box.new' (w := w.alloc (.cells #[.slice a0 xs.length c0] 31)) (by simp)).alloc _).fr hf1
  have BR : Box w1 (w.heap.size + 1 + 1) #[.slice none 0 0] 31 := (Box.new' (w := (w.alloc (.cells #[.slice a0 xs.length c0] 31)).alloc (.cells #[.int .i64 k, .string nm, .string tx, .string to] 35)) (by simp)).fr hf1
  have FD := BD.facts; have FA := BA.facts; have FRR := BR.facts
  have z1 := hf1.size; (try simp only [World.size_alloc, World.size_setCell, World.size_drew] at z1)
  rw [HD.out]
  go_wp2_with (go_at_call 28; refine (l14Name_any _ _).mono ?_; rintro e w9 ⟨rfl, rfl⟩)
  refine (l14At_any _ xs nm _ (HU.out.fr (by repeat (first | (with_reducible exact Fr.refl _) | (with_reducible assumption) | (with_reducible refine Fr.drewN ?_ _) | (with_reducible refine Fr.drew ?_) | (with_reducible refine Fr.alloc ?_ _) | (with_reducible refine Fr.setCell ?_ (by (first | (with_reducible assumption) | omega | (simp only [World.size_alloc, World.size_setCell, World.size_drew, World.heap_drewN]; omega) | (simp; done) | (simp; omega))) _) | (with_reducible refine Fr.trans ?_ (by with_reducible assumption)))))).mono ?_
  rintro e w2 ⟨rfl, hf2⟩
  rw [HK.out]
  have BD := BD.fr hf2; have BA := BA.fr hf2; have BR := BR.fr hf2
  clear FD FA FRR
  have FD := BD.facts; have FA := BA.facts; have FRR := BR.facts
  have z2 := hf2.size
  obtain ⟨rfl, hb0, f0⟩ := F0.out (by omega)
  have fk := f0 j hj
  rw [HX.out] at fk
  obtain ⟨g0, g1, g2⟩ := fk
  have hf02 : Fr w w2 := by repeat (first | (with_reducible exact Fr.refl _) | (with_reducible assumption) | (with_reducible refine Fr.drewN ?_ _) | (with_reducible refine Fr.drew ?_) | (with_reducible refine Fr.alloc ?_ _) | (with_reducible refine Fr.setCell ?_ (by (first | (with_reducible assumption) | omega | (simp only [World.size_alloc, World.size_setCell, World.size_drew, World.heap_drewN]; omega) | (simp; done) | (simp; omega))) _) | (with_reducible refine Fr.trans ?_ (by with_reducible assumption)))
  have q0 := (hf02.cell (p := ⟨b0, _, none⟩) hb0).trans g0
  have q1 := (hf02.cell (p := ⟨b0, _, none⟩) hb0).trans g1
  have q2 := (hf02.cell (p := ⟨b0, _, none⟩) hb0).trans g2
  have hb2 : b0 < w2.heap.size := Nat.lt_of_lt_of_le hb0 hf02.size
  clear g0 g1 g2 f0
  go_wp2_with fail
  all_goals
    rw [HL.out, HB.out]
    refine bodyPost_ret (v := .tuple #[.agg #[.slice none 0 0], .bool false]) (by simp [results, Try.results8, go_sem, *]) rfl ⟨none, 0, rfl, FilesW.nil _ _ _, by repeat (first | (with_reducible exact Fr.refl _) | (with_reducible assumption) | (with_reducible refine Fr.drewN ?_ _) | (with_reducible refine Fr.drew ?_) | (with_reducible refine Fr.alloc ?_ _) | (with_reducible refine Fr.setCell ?_ (by (first | (with_reducible assumption) | omega | (simp only [World.size_alloc, World.size_setCell, World.size_drew, World.heap_drewN]; omega) | (simp; done) | (simp; omega))) _) | (with_reducible refine Fr.trans ?_ (by with_reducible assumption)))⟩
end Go.Proofs.Ythcbnilmhenpgaa
