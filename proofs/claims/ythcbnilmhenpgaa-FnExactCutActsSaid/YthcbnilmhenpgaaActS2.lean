/- The reference's DoAct, part 2. Condition: bounds on what is read, which the laws pay. (Printed by mk_act.py.) -/
import Derived.Test.YthcbnilmhenpgaaAct
import Derived.Test.YthcbnilmhenpgaaODisk
namespace Go.Proofs.Ythcbnilmhenpgaa
open Go.RowKit
set_option linter.unusedVariables false
set_option linter.unusedSimpArgs false
set_option maxHeartbeats 4000000 in
set_option maxRecDepth 100000 in
theorem sda_add0 (xs : List FileR) (nm tx to : ByteArray) (hn : xs.length ≤ 1048576) (ha : tx.size ≤ 1048576) (a0 : Option Addr) (b0 o0 c0 : Nat) (w : World) (HU : Hid (FilesR w (.slice a0 xs.length c0) xs)) (F0 : Hid (FilesAt w xs a0 b0 o0)) (HD : Hid (diskB xs = true)) (h1 : nameB nm = true) (h3 : to.toList.isEmpty = true) (hmiss : fIx xs nm = -1) : SDA xs 1 nm tx to a0 c0 w := by
  unfold SDA
  have HF : Hid (fitsB ⟨1, nm, tx, to⟩ = true) := by show _ = _; unfold fitsB; simp [h1, h3]
  have HK : Hid (fIx xs nm = -1) := hmiss
  have HO : Hid (outA xs ⟨1, nm, tx, to⟩ = some (putF xs ⟨nm, ⟨#[]⟩ ++ tx, 0⟩)) := by show _ = _; unfold outA addF; simp only []; rw [if_pos trivial, if_pos (by rw [hmiss]; omega)]
  clear hmiss
  go_enter Try.func8, Try.ntmps8
  go_wp2_with fail
  refine (specDiskOk_any _ xs _ (HU.out.fr (by repeat (first | (with_reducible exact Fr.refl _) | (with_reducible assumption) | (with_reducible refine Fr.drewN ?_ _) | (with_reducible refine Fr.drew ?_) | (with_reducible refine Fr.alloc ?_ _) | (with_reducible refine Fr.setCell ?_ (by (first | (with_reducible assumption) | omega | (simp only [World.size_alloc, World.size_setCell, World.size_drew, World.heap_drewN]; omega) | (simp; done) | (simp; omega))) _) | (with_reducible refine Fr.trans ?_ (by with_reducible assumption)))))).mono ?_
  rintro e w1 ⟨rfl, hf1⟩
  have BD : Box w1 w.heap.size #[.slice a0 xs.length c0] 31 := (((Box.new _ _ _).alloc _).alloc _).fr hf1
  have BA : Box w1 (w.heap.size + 1) #[.int .i64 1, .string nm, .string tx, .string to] 35 := ((Box.new' (w := w.alloc (.cells #[.slice a0 xs.length c0] 31)) (by simp)).alloc _).fr hf1
  have BR : Box w1 (w.heap.size + 1 + 1) #[.slice none 0 0] 31 := (Box.new' (w := (w.alloc (.cells #[.slice a0 xs.length c0] 31)).alloc (.cells #[.int .i64 1, .string nm, .string tx, .string to] 35)) (by simp)).fr hf1
  have FD := BD.facts; have FA := BA.facts; have FRR := BR.facts
  have z1 := hf1.size; (try simp only [World.size_alloc, World.size_setCell, World.size_drew] at z1)
  rw [HD.out]
  go_wp2_with (go_at_call 28; refine (l14Name_any _ _).mono ?_; rintro e w9 ⟨rfl, rfl⟩)
  refine (l14At_any _ xs nm _ (HU.out.fr (by repeat (first | (with_reducible exact Fr.refl _) | (with_reducible assumption) | (with_reducible refine Fr.drewN ?_ _) | (with_reducible refine Fr.drew ?_) | (with_reducible refine Fr.alloc ?_ _) | (with_reducible refine Fr.setCell ?_ (by (first | (with_reducible assumption) | omega | (simp only [World.size_alloc, World.size_setCell, World.size_drew, World.heap_drewN]; omega) | (simp; done) | (simp; omega))) _) | (with_reducible refine Fr.trans ?_ (by with_reducible assumption)))))).mono ?_
  rintro e w2 ⟨rfl, hf2⟩
  rw [HK.out]
  have BD := BD.fr hf2; have BA := BA.fr hf2; have BR := BR.fr hf2
  clear FD FA FRR
  have FD := BD.facts; have FA := BA.facts; have FRR := BR.facts
  have z2 := hf2.size
  go_wp2_with fail
  generalize (⟨#[]⟩ ++ tx : ByteArray) = s at HO ⊢
  refine (l14Put_any _ xs ⟨nm, s, 0⟩ _ ⟨_, rfl, HU.out.fr (by repeat (first | (with_reducible exact Fr.refl _) | (with_reducible assumption) | (with_reducible refine Fr.drewN ?_ _) | (with_reducible refine Fr.drew ?_) | (with_reducible refine Fr.alloc ?_ _) | (with_reducible refine Fr.setCell ?_ (by (first | (with_reducible assumption) | omega | (simp only [World.size_alloc, World.size_setCell, World.size_drew, World.heap_drewN]; omega) | (simp; done) | (simp; omega))) _) | (with_reducible refine Fr.trans ?_ (by with_reducible assumption))))⟩ (by omega)).mono ?_
  rintro e w3 ⟨ao3, cap3, rfl, hl3, hf3⟩
  obtain ⟨lo3, hlo3⟩ : ∃ x, x = w2.heap.size + 1 + 1 := ⟨_, rfl⟩
  obtain ⟨hi3, hhi3⟩ : ∃ x, x = w3.heap.size := ⟨_, rfl⟩
  (try simp only [World.size_setCell, World.size_alloc] at hl3)
  rw [← hlo3, ← hhi3] at hl3
  obtain ⟨ys, hys⟩ : ∃ l, putF xs ⟨nm, s, 0⟩ = l := ⟨_, rfl⟩
  rw [hys] at HO hl3
  rw [hys]
  clear hys
  have HW3 := Lib.hid hl3
  clear hl3
  have B8 : Box w3 (w2.heap.size + 1) #[.slice none 0 0] 31 := (Box.new' (by simp)).fr hf3
  have hfx : Fr w2 w3 := by repeat (first | (with_reducible exact Fr.refl _) | (with_reducible assumption) | (with_reducible refine Fr.drewN ?_ _) | (with_reducible refine Fr.drew ?_) | (with_reducible refine Fr.alloc ?_ _) | (with_reducible refine Fr.setCell ?_ (by (first | (with_reducible assumption) | omega | (simp only [World.size_alloc, World.size_setCell, World.size_drew, World.heap_drewN]; omega) | (simp; done) | (simp; omega))) _) | (with_reducible refine Fr.trans ?_ (by with_reducible assumption)))
  have BD := BD.fr hfx; have BA := BA.fr hfx; have BR := BR.fr hfx
  clear FD FA FRR
  have FD := BD.facts; have FA := BA.facts; have FRR := BR.facts; have F8 := B8.facts
  have z3 := hfx.size
  go_wp2_with fail
  refine (specDiskOk_any _ ys _ (FilesW.rd (lo := lo3) (hi := hi3) (by change OwW _ _ _ _ _ _ _ _; (repeat (first | (with_reducible refine OwW.drewN ?_ _) | (with_reducible refine OwW.drew ?_) | (with_reducible refine OwW.alloc ?_ _) | (with_reducible refine OwW.set ?_ (by (first | (with_reducible assumption) | omega | (simp only [World.size_alloc, World.size_setCell, World.size_drew, World.heap_drewN]; omega) | (simp; done) | (simp; omega))) _) | (exact HW3.out)))))).mono ?_
  rintro e w4 ⟨rfl, hf4⟩
  cases hd2 : diskB ys
  · have HB : Hid (doB xs ⟨1, nm, tx, to⟩ = false) := (doB_some HD.out HF.out HO.out).trans hd2
    have HL := Lib.hid (doL_no HB.out)
    clear hd2
    have BRs : Box w4 (w.heap.size + 1 + 1) #[.slice none 0 0] 31 := (box_far BR (by omega) _).fr hf4
    have B8s : Box w4 (w2.heap.size + 1) #[.slice ao3 ys.length cap3] 31 := (B8.set_to (by simp)).fr hf4
    clear FD FA FRR F8
    have FRR := BRs.facts
    have F8 := B8s.facts
    have z4 := hf4.size
    (try simp only [World.size_setCell] at z4)
    go_wp2_with fail
    all_goals
      rw [HL.out, HB.out]
      refine bodyPost_ret (v := .tuple #[.agg #[.slice none 0 0], .bool false]) (by simp [results, Try.results8, go_sem, *]) rfl ⟨none, 0, rfl, FilesW.nil _ _ _, by repeat (first | (with_reducible exact Fr.refl _) | (with_reducible assumption) | (with_reducible refine Fr.drewN ?_ _) | (with_reducible refine Fr.drew ?_) | (with_reducible refine Fr.alloc ?_ _) | (with_reducible refine Fr.setCell ?_ (by (first | (with_reducible assumption) | omega | (simp only [World.size_alloc, World.size_setCell, World.size_drew, World.heap_drewN]; omega) | (simp; done) | (simp; omega))) _) | (with_reducible refine Fr.trans ?_ (by with_reducible assumption)))⟩
  · have HB : Hid (doB xs ⟨1, nm, tx, to⟩ = true) := (doB_some HD.out HF.out HO.out).trans hd2
    have HL := Lib.hid (doL_some HD.out HF.out HO.out hd2)
    clear hd2
    have BRs : Box w4 (w.heap.size + 1 + 1) #[.slice none 0 0] 31 := (box_far BR (by omega) _).fr hf4
    have B8s : Box w4 (w2.heap.size + 1) #[.slice ao3 ys.length cap3] 31 := (B8.set_to (by simp)).fr hf4
    clear FD FA FRR F8
    have FRR := BRs.facts
    have F8 := B8s.facts
    have z4 := hf4.size
    (try simp only [World.size_setCell] at z4)
    go_wp2_with fail
    rw [HL.out, HB.out]
    refine bodyPost_ret (v := .tuple #[.agg #[.slice ao3 ys.length cap3], .bool true]) (by simp [results, Try.results8, go_sem, *]) rfl ⟨ao3, cap3, rfl, ?_, by repeat (first | (with_reducible exact Fr.refl _) | (with_reducible assumption) | (with_reducible refine Fr.drewN ?_ _) | (with_reducible refine Fr.drew ?_) | (with_reducible refine Fr.alloc ?_ _) | (with_reducible refine Fr.setCell ?_ (by (first | (with_reducible assumption) | omega | (simp only [World.size_alloc, World.size_setCell, World.size_drew, World.heap_drewN]; omega) | (simp; done) | (simp; omega))) _) | (with_reducible refine Fr.trans ?_ (by with_reducible assumption)))⟩
    have HW4 : FilesW w4 lo3 hi3 (.slice ao3 ys.length cap3) ys := OwW.fr (by change OwW _ _ _ _ _ _ _ _; (repeat (first | (with_reducible refine OwW.drewN ?_ _) | (with_reducible refine OwW.drew ?_) | (with_reducible refine OwW.alloc ?_ _) | (with_reducible refine OwW.set ?_ (by (first | (with_reducible assumption) | omega | (simp only [World.size_alloc, World.size_setCell, World.size_drew, World.heap_drewN]; omega) | (simp; done) | (simp; omega))) _) | (exact HW3.out)))) hf4
    refine OwW.mono (lo := lo3) (hi := hi3) ?_ (by omega) (by (try simp only [World.size_setCell]); omega)
    change OwW _ _ _ _ _ _ _ _; (repeat (first | (with_reducible refine OwW.drewN ?_ _) | (with_reducible refine OwW.drew ?_) | (with_reducible refine OwW.alloc ?_ _) | (with_reducible refine OwW.set ?_ (by (first | (with_reducible assumption) | omega | (simp only [World.size_alloc, World.size_setCell, World.size_drew, World.heap_drewN]; omega) | (simp; done) | (simp; omega))) _) | (exact HW4)))
set_option maxHeartbeats 4000000 in
set_option maxRecDepth 100000 in
theorem sda_add (xs : List FileR) (nm tx to : ByteArray) (hn : xs.length ≤ 1048576) (ha : tx.size ≤ 1048576) (a0 : Option Addr) (b0 o0 c0 : Nat) (w : World) (HU : Hid (FilesR w (.slice a0 xs.length c0) xs)) (F0 : Hid (FilesAt w xs a0 b0 o0)) (HD : Hid (diskB xs = true)) (h1 : nameB nm = true) (h3 : to.toList.isEmpty = true) (j : Nat) (hj : j < xs.length) (hhit : fIx xs nm = (j : Int)) : SDA xs 1 nm tx to a0 c0 w := by
  unfold SDA
  have HF : Hid (fitsB ⟨1, nm, tx, to⟩ = true) := by show _ = _; unfold fitsB; simp [h1, h3]
  have HFI := Lib.hid (fun j (hj : j < xs.length) => diskB_file HD.out hj)
  have hlen := diskB_len HD.out
  have HK : Hid (fIx xs nm = (j : Int)) := hhit
  obtain ⟨x, hx⟩ : ∃ x, fileAt xs j = x := ⟨_, rfl⟩
  have HX := Lib.hid hx
  have HAX : Hid (∀ q tx to, actX xs ⟨q, nm, tx, to⟩ = x) := fun q tx to => by unfold actX; simp only []; rw [hhit, Int.toNat_natCast]; exact hx
  obtain ⟨hx1, hx2, hx3⟩ := HFI.out j hj
  rw [hx] at hx1 hx2 hx3
  have hneg : ¬ fIx xs nm < 0 := by rw [hhit]; omega
  have HNG := Lib.hid hneg
  clear hx hhit hneg
  have HO : Hid (outA xs ⟨1, nm, tx, to⟩ = some (putF xs ⟨x.f0, x.f1 ++ tx, x.f2⟩)) := by show _ = _; unfold outA addF; simp only []; rw [if_pos trivial, if_neg HNG.out, HAX.out]
  go_enter Try.func8, Try.ntmps8
  go_wp2_with fail
  refine (specDiskOk_any _ xs _ (HU.out.fr (by repeat (first | (with_reducible exact Fr.refl _) | (with_reducible assumption) | (with_reducible refine Fr.drewN ?_ _) | (with_reducible refine Fr.drew ?_) | (with_reducible refine Fr.alloc ?_ _) | (with_reducible refine Fr.setCell ?_ (by (first | (with_reducible assumption) | omega | (simp only [World.size_alloc, World.size_setCell, World.size_drew, World.heap_drewN]; omega) | (simp; done) | (simp; omega))) _) | (with_reducible refine Fr.trans ?_ (by with_reducible assumption)))))).mono ?_
  rintro e w1 ⟨rfl, hf1⟩
  have BD : Box w1 w.heap.size #[.slice a0 xs.length c0] 31 := (((Box.new _ _ _).alloc _).alloc _).fr hf1
  have BA : Box w1 (w.heap.size + 1) #[.int .i64 1, .string nm, .string tx, .string to] 35 := ((Box.new' (w := w.alloc (.cells #[.slice a0 xs.length c0] 31)) (by simp)).alloc _).fr hf1
  have BR : Box w1 (w.heap.size + 1 + 1) #[.slice none 0 0] 31 := (Box.new' (w := (w.alloc (.cells #[.slice a0 xs.length c0] 31)).alloc (.cells #[.int .i64 1, .string nm, .string tx, .string to] 35)) (by simp)).fr hf1
  have FD := BD.facts; have FA := BA.facts; have FRR := BR.facts
  have z1 := hf1.size; (try simp only [World.size_alloc, World.size_setCell, World.size_drew] at z1)
  rw [HD.out]
  go_wp2_with (go_at_call 28; refine (l14Name_any _ _).mono ?_; rintro e w9 ⟨rfl, rfl⟩)
  refine (l14At_any _ xs nm _ (HU.out.fr (by repeat (first | (with_reducible exact Fr.refl _) | (with_reducible assumption) | (with_reducible refine Fr.drewN ?_ _) | (with_reducible refine Fr.drew ?_) | (with_reducible refine Fr.alloc ?_ _) | (with_reducible refine Fr.setCell ?_ (by (first | (with_reducible assumption) | omega | (simp only [World.size_alloc, World.size_setCell, World.size_drew, World.heap_drewN]; omega) | (simp; done) | (simp; omega))) _) | (with_reducible refine Fr.trans ?_ (by with_reducible assumption)))))).mono ?_
  rintro e w2 ⟨rfl, hf2⟩
  rw [HK.out]
  have BD := BD.fr hf2; have BA := BA.fr hf2; have BR := BR.fr hf2
  clear FD FA FRR
  have FD := BD.facts; have FA := BA.facts; have FRR := BR.facts
  have z2 := hf2.size
  obtain ⟨rfl, hb0, f0⟩ := F0.out (by omega)
  have fk := f0 j hj
  rw [HX.out] at fk
  obtain ⟨g0, g1, g2⟩ := fk
  have hf02 : Fr w w2 := by repeat (first | (with_reducible exact Fr.refl _) | (with_reducible assumption) | (with_reducible refine Fr.drewN ?_ _) | (with_reducible refine Fr.drew ?_) | (with_reducible refine Fr.alloc ?_ _) | (with_reducible refine Fr.setCell ?_ (by (first | (with_reducible assumption) | omega | (simp only [World.size_alloc, World.size_setCell, World.size_drew, World.heap_drewN]; omega) | (simp; done) | (simp; omega))) _) | (with_reducible refine Fr.trans ?_ (by with_reducible assumption)))
  have q0 := (hf02.cell (p := ⟨b0, _, none⟩) hb0).trans g0
  have q1 := (hf02.cell (p := ⟨b0, _, none⟩) hb0).trans g1
  have q2 := (hf02.cell (p := ⟨b0, _, none⟩) hb0).trans g2
  have hb2 : b0 < w2.heap.size := Nat.lt_of_lt_of_le hb0 hf02.size
  clear g0 g1 g2 f0
  go_wp2_with fail
  generalize x.f1 ++ tx = s at HO ⊢
  refine (l14Put_any _ xs ⟨x.f0, s, x.f2⟩ _ ⟨_, rfl, HU.out.fr (by repeat (first | (with_reducible exact Fr.refl _) | (with_reducible assumption) | (with_reducible refine Fr.drewN ?_ _) | (with_reducible refine Fr.drew ?_) | (with_reducible refine Fr.alloc ?_ _) | (with_reducible refine Fr.setCell ?_ (by (first | (with_reducible assumption) | omega | (simp only [World.size_alloc, World.size_setCell, World.size_drew, World.heap_drewN]; omega) | (simp; done) | (simp; omega))) _) | (with_reducible refine Fr.trans ?_ (by with_reducible assumption))))⟩ (by omega)).mono ?_
  rintro e w3 ⟨ao3, cap3, rfl, hl3, hf3⟩
  obtain ⟨lo3, hlo3⟩ : ∃ x, x = w2.heap.size + 1 + 1 := ⟨_, rfl⟩
  obtain ⟨hi3, hhi3⟩ : ∃ x, x = w3.heap.size := ⟨_, rfl⟩
  (try simp only [World.size_setCell, World.size_alloc] at hl3)
  rw [← hlo3, ← hhi3] at hl3
  obtain ⟨ys, hys⟩ : ∃ l, putF xs ⟨x.f0, s, x.f2⟩ = l := ⟨_, rfl⟩
  rw [hys] at HO hl3
  rw [hys]
  clear hys
  have HW3 := Lib.hid hl3
  clear hl3
  have B8 : Box w3 (w2.heap.size + 1) #[.slice none 0 0] 31 := (Box.new' (by simp)).fr hf3
  have hfx : Fr w2 w3 := by repeat (first | (with_reducible exact Fr.refl _) | (with_reducible assumption) | (with_reducible refine Fr.drewN ?_ _) | (with_reducible refine Fr.drew ?_) | (with_reducible refine Fr.alloc ?_ _) | (with_reducible refine Fr.setCell ?_ (by (first | (with_reducible assumption) | omega | (simp only [World.size_alloc, World.size_setCell, World.size_drew, World.heap_drewN]; omega) | (simp; done) | (simp; omega))) _) | (with_reducible refine Fr.trans ?_ (by with_reducible assumption)))
  have BD := BD.fr hfx; have BA := BA.fr hfx; have BR := BR.fr hfx
  clear FD FA FRR
  have FD := BD.facts; have FA := BA.facts; have FRR := BR.facts; have F8 := B8.facts
  have z3 := hfx.size
  go_wp2_with fail
  refine (specDiskOk_any _ ys _ (FilesW.rd (lo := lo3) (hi := hi3) (by change OwW _ _ _ _ _ _ _ _; (repeat (first | (with_reducible refine OwW.drewN ?_ _) | (with_reducible refine OwW.drew ?_) | (with_reducible refine OwW.alloc ?_ _) | (with_reducible refine OwW.set ?_ (by (first | (with_reducible assumption) | omega | (simp only [World.size_alloc, World.size_setCell, World.size_drew, World.heap_drewN]; omega) | (simp; done) | (simp; omega))) _) | (exact HW3.out)))))).mono ?_
  rintro e w4 ⟨rfl, hf4⟩
  cases hd2 : diskB ys
  · have HB : Hid (doB xs ⟨1, nm, tx, to⟩ = false) := (doB_some HD.out HF.out HO.out).trans hd2
    have HL := Lib.hid (doL_no HB.out)
    clear hd2
    have BRs : Box w4 (w.heap.size + 1 + 1) #[.slice none 0 0] 31 := (box_far BR (by omega) _).fr hf4
    have B8s : Box w4 (w2.heap.size + 1) #[.slice ao3 ys.length cap3] 31 := (B8.set_to (by simp)).fr hf4
    clear FD FA FRR F8
    have FRR := BRs.facts
    have F8 := B8s.facts
    have z4 := hf4.size
    (try simp only [World.size_setCell] at z4)
    go_wp2_with fail
    all_goals
      rw [HL.out, HB.out]
      refine bodyPost_ret (v := .tuple #[.agg #[.slice none 0 0], .bool false]) (by simp [results, Try.results8, go_sem, *]) rfl ⟨none, 0, rfl, FilesW.nil _ _ _, by repeat (first | (with_reducible exact Fr.refl _) | (with_reducible assumption) | (with_reducible refine Fr.drewN ?_ _) | (with_reducible refine Fr.drew ?_) | (with_reducible refine Fr.alloc ?_ _) | (with_reducible refine Fr.setCell ?_ (by (first | (with_reducible assumption) | omega | (simp only [World.size_alloc, World.size_setCell, World.size_drew, World.heap_drewN]; omega) | (simp; done) | (simp; omega))) _) | (with_reducible refine Fr.trans ?_ (by with_reducible assumption)))⟩
  · have HB : Hid (doB xs ⟨1, nm, tx, to⟩ = true) := (doB_some HD.out HF.out HO.out).trans hd2
    have HL := Lib.hid (doL_some HD.out HF.out HO.out hd2)
    clear hd2
    have BRs : Box w4 (w.heap.size + 1 + 1) #[.slice none 0 0] 31 := (box_far BR (by omega) _).fr hf4
    have B8s : Box w4 (w2.heap.size + 1) #[.slice ao3 ys.length cap3] 31 := (B8.set_to (by simp)).fr hf4
    clear FD FA FRR F8
    have FRR := BRs.facts
    have F8 := B8s.facts
    have z4 := hf4.size
    (try simp only [World.size_setCell] at z4)
    go_wp2_with fail
    rw [HL.out, HB.out]
    refine bodyPost_ret (v := .tuple #[.agg #[.slice ao3 ys.length cap3], .bool true]) (by simp [results, Try.results8, go_sem, *]) rfl ⟨ao3, cap3, rfl, ?_, by repeat (first | (with_reducible exact Fr.refl _) | (with_reducible assumption) | (with_reducible refine Fr.drewN ?_ _) | (with_reducible refine Fr.drew ?_) | (with_reducible refine Fr.alloc ?_ _) | (with_reducible refine Fr.setCell ?_ (by (first | (with_reducible assumption) | omega | (simp only [World.size_alloc, World.size_setCell, World.size_drew, World.heap_drewN]; omega) | (simp; done) | (simp; omega))) _) | (with_reducible refine Fr.trans ?_ (by with_reducible assumption)))⟩
    have HW4 : FilesW w4 lo3 hi3 (.slice ao3 ys.length cap3) ys := OwW.fr (by change OwW _ _ _ _ _ _ _ _; (repeat (first | (with_reducible refine OwW.drewN ?_ _) | (with_reducible refine OwW.drew ?_) | (with_reducible refine OwW.alloc ?_ _) | (with_reducible refine OwW.set ?_ (by (first | (with_reducible assumption) | omega | (simp only [World.size_alloc, World.size_setCell, World.size_drew, World.heap_drewN]; omega) | (simp; done) | (simp; omega))) _) | (exact HW3.out)))) hf4
    refine OwW.mono (lo := lo3) (hi := hi3) ?_ (by omega) (by (try simp only [World.size_setCell]); omega)
    change OwW _ _ _ _ _ _ _ _; (repeat (first | (with_reducible refine OwW.drewN ?_ _) | (with_reducible refine OwW.drew ?_) | (with_reducible refine OwW.alloc ?_ _) | (with_reducible refine OwW.set ?_ (by (first | (with_reducible assumption) | omega | (simp only [World.size_alloc, World.size_setCell, World.size_drew, World.heap_drewN]; omega) | (simp; done) | (simp; omega))) _) | (exact HW4)))
end Go.Proofs.Ythcbnilmhenpgaa
