/- The reference's DoAct, part 1. Condition: bounds on what is read, which the laws pay. (Printed by mk_act.py.) -/
import Derived.Test.YthcbnilmhenpgaaAct
import Derived.Test.YthcbnilmhenpgaaODisk
namespace Go.Proofs.Ythcbnilmhenpgaa
open Go.RowKit
set_option linter.unusedVariables false
set_option linter.unusedSimpArgs false
set_option maxHeartbeats 4000000 in
set_option maxRecDepth 100000 in
theorem sda_disk (xs : List FileR) (k : Int) (nm tx to : ByteArray) (hn : xs.length ≤ 1048576) (ha : tx.size ≤ 1048576) (a0 : Option Addr) (b0 o0 c0 : Nat) (w : World) (HU : Hid (FilesR w (.slice a0 xs.length c0) xs)) (F0 : Hid (FilesAt w xs a0 b0 o0)) (HD : Hid (diskB xs = false)) : SDA xs k nm tx to a0 c0 w := by
  unfold SDA
  have HB : Hid (doB xs ⟨k, nm, tx, to⟩ = false) := doB_disk HD.out
  have HL := Lib.hid (doL_no HB.out)
  go_enter Try.func8, Try.ntmps8
  go_wp2_with fail
  refine (specDiskOk_any _ xs _ (HU.out.fr (by repeat (first | (with_reducible exact Fr.refl _) | (with_reducible assumption) | (with_reducible refine Fr.drewN ?_ _) | (with_reducible refine Fr.drew ?_) | (with_reducible refine Fr.alloc ?_ _) | (with_reducible refine Fr.setCell ?_ (by (first | (with_reducible assumption) | omega | (simp only [World.size_alloc, World.size_setCell, World.size_drew, World.heap_drewN]; omega) | (simp; done) | (simp; omega))) _) | (with_reducible refine Fr.trans ?_ (by with_reducible assumption)))))).mono ?_
  rintro e w1 ⟨rfl, hf1⟩
  have BD : Box w1 w.heap.size #[.slice a0 xs.length c0] 31 := (((Box.new _ _ _).alloc _).alloc _).fr hf1
  have BA : Box w1 (w.heap.size + 1) #[.int .i64 k, .string nm, .string tx, .string to] 35 := ((Box.new' (w := w.alloc (.cells #[.slice a0 xs.length c0] 31)) (by simp)).alloc _).fr hf1
  have BR : Box w1 (w.heap.size + 1 + 1) #[.slice none 0 0] 31 := (Box.new' (w := (w.alloc (.cells #[.slice a0 xs.length c0] 31)).alloc (.cells #[.int .i64 k, .string nm, .string tx, .string to] 35)) (by simp)).fr hf1
  have FD := BD.facts; have FA := BA.facts; have FRR := BR.facts
  have z1 := hf1.size; (try simp only [World.size_alloc, World.size_setCell, World.size_drew] at z1)
  rw [HD.out]
  go_wp2_with fail
  all_goals
    rw [HL.out, HB.out]
    refine bodyPost_ret (v := .tuple #[.agg #[.slice none 0 0], .bool false]) (by simp [results, Try.results8, go_sem, *]) rfl ⟨none, 0, rfl, FilesW.nil _ _ _, by repeat (first | (with_reducible exact Fr.refl _) | (with_reducible assumption) | (with_reducible refine Fr.drewN ?_ _) | (with_reducible refine Fr.drew ?_) | (with_reducible refine Fr.alloc ?_ _) | (with_reducible refine Fr.setCell ?_ (by (first | (with_reducible assumption) | omega | (simp only [World.size_alloc, World.size_setCell, World.size_drew, World.heap_drewN]; omega) | (simp; done) | (simp; omega))) _) | (with_reducible refine Fr.trans ?_ (by with_reducible assumption)))⟩
set_option maxHeartbeats 4000000 in
set_option maxRecDepth 100000 in
theorem sda_name (xs : List FileR) (k : Int) (nm tx to : ByteArray) (hn : xs.length ≤ 1048576) (ha : tx.size ≤ 1048576) (a0 : Option Addr) (b0 o0 c0 : Nat) (w : World) (HU : Hid (FilesR w (.slice a0 xs.length c0) xs)) (F0 : Hid (FilesAt w xs a0 b0 o0)) (HD : Hid (diskB xs = true)) (h1 : nameB nm = false) : SDA xs k nm tx to a0 c0 w := by
  unfold SDA
  have HB : Hid (doB xs ⟨k, nm, tx, to⟩ = false) := doB_fits (by unfold fitsB; simp only []; rw [h1]; simp)
  have HL := Lib.hid (doL_no HB.out)
  go_enter Try.func8, Try.ntmps8
  go_wp2_with fail
  refine (specDiskOk_any _ xs _ (HU.out.fr (by repeat (first | (with_reducible exact Fr.refl _) | (with_reducible assumption) | (with_reducible refine Fr.drewN ?_ _) | (with_reducible refine Fr.drew ?_) | (with_reducible refine Fr.alloc ?_ _) | (with_reducible refine Fr.setCell ?_ (by (first | (with_reducible assumption) | omega | (simp only [World.size_alloc, World.size_setCell, World.size_drew, World.heap_drewN]; omega) | (simp; done) | (simp; omega))) _) | (with_reducible refine Fr.trans ?_ (by with_reducible assumption)))))).mono ?_
  rintro e w1 ⟨rfl, hf1⟩
  have BD : Box w1 w.heap.size #[.slice a0 xs.length c0] 31 := (((Box.new _ _ _).alloc _).alloc _).fr hf1
  have BA : Box w1 (w.heap.size + 1) #[.int .i64 k, .string nm, .string tx, .string to] 35 := ((Box.new' (w := w.alloc (.cells #[.slice a0 xs.length c0] 31)) (by simp)).alloc _).fr hf1
  have BR : Box w1 (w.heap.size + 1 + 1) #[.slice none 0 0] 31 := (Box.new' (w := (w.alloc (.cells #[.slice a0 xs.length c0] 31)).alloc (.cells #[.int .i64 k, .string nm, .string tx, .string to] 35)) (by simp)).fr hf1
  have FD := BD.facts; have FA := BA.facts; have FRR := BR.facts
  have z1 := hf1.size; (try simp only [World.size_alloc, World.size_setCell, World.size_drew] at z1)
  rw [HD.out]
  go_wp2_with (go_at_call 28; refine (l14Name_any _ _).mono ?_; rintro e w9 ⟨rfl, rfl⟩)
  all_goals
    rw [HL.out, HB.out]
    refine bodyPost_ret (v := .tuple #[.agg #[.slice none 0 0], .bool false]) (by simp [results, Try.results8, go_sem, *]) rfl ⟨none, 0, rfl, FilesW.nil _ _ _, by repeat (first | (with_reducible exact Fr.refl _) | (with_reducible assumption) | (with_reducible refine Fr.drewN ?_ _) | (with_reducible refine Fr.drew ?_) | (with_reducible refine Fr.alloc ?_ _) | (with_reducible refine Fr.setCell ?_ (by (first | (with_reducible assumption) | omega | (simp only [World.size_alloc, World.size_setCell, World.size_drew, World.heap_drewN]; omega) | (simp; done) | (simp; omega))) _) | (with_reducible refine Fr.trans ?_ (by with_reducible assumption)))⟩
set_option maxHeartbeats 4000000 in
set_option maxRecDepth 100000 in
theorem sda_to (xs : List FileR) (k : Int) (nm tx to : ByteArray) (hn : xs.length ≤ 1048576) (ha : tx.size ≤ 1048576) (a0 : Option Addr) (b0 o0 c0 : Nat) (w : World) (HU : Hid (FilesR w (.slice a0 xs.length c0) xs)) (F0 : Hid (FilesAt w xs a0 b0 o0)) (HD : Hid (diskB xs = true)) (h1 : nameB nm = true) (hk3 : ¬ k = 3) (h2 : to.toList.isEmpty = false) : SDA xs k nm tx to a0 c0 w := by
  unfold SDA
  have HB : Hid (doB xs ⟨k, nm, tx, to⟩ = false) := doB_fits (by unfold fitsB; simp only []; rw [if_neg hk3, h2]; simp)
  have HL := Lib.hid (doL_no HB.out)
  go_enter Try.func8, Try.ntmps8
  go_wp2_with fail
  refine (specDiskOk_any _ xs _ (HU.out.fr (by repeat (first | (with_reducible exact Fr.refl _) | (with_reducible assumption) | (with_reducible refine Fr.drewN ?_ _) | (with_reducible refine Fr.drew ?_) | (with_reducible refine Fr.alloc ?_ _) | (with_reducible refine Fr.setCell ?_ (by (first | (with_reducible assumption) | omega | (simp only [World.size_alloc, World.size_setCell, World.size_drew, World.heap_drewN]; omega) | (simp; done) | (simp; omega))) _) | (with_reducible refine Fr.trans ?_ (by with_reducible assumption)))))).mono ?_
  rintro e w1 ⟨rfl, hf1⟩
  have BD : Box w1 w.heap.size #[.slice a0 xs.length c0] 31 := (((Box.new _ _ _).alloc _).alloc _).fr hf1
  have BA : Box w1 (w.heap.size + 1) #[.int .i64 k, .string nm, .string tx, .string to] 35 := ((Box.new' (w := w.alloc (.cells #[.slice a0 xs.length c0] 31)) (by simp)).alloc _).fr hf1
  have BR : Box w1 (w.heap.size + 1 + 1) #[.slice none 0 0] 31 := (Box.new' (w := (w.alloc (.cells #[.slice a0 xs.length c0] 31)).alloc (.cells #[.int .i64 k, .string nm, .string tx, .string to] 35)) (by simp)).fr hf1
  have FD := BD.facts; have FA := BA.facts; have FRR := BR.facts
  have z1 := hf1.size; (try simp only [World.size_alloc, World.size_setCell, World.size_drew] at z1)
  rw [HD.out]
  go_wp2_with (go_at_call 28; refine (l14Name_any _ _).mono ?_; rintro e w9 ⟨rfl, rfl⟩)
  all_goals
    rw [HL.out, HB.out]
    refine bodyPost_ret (v := .tuple #[.agg #[.slice none 0 0], .bool false]) (by simp [results, Try.results8, go_sem, *]) rfl ⟨none, 0, rfl, FilesW.nil _ _ _, by repeat (first | (with_reducible exact Fr.refl _) | (with_reducible assumption) | (with_reducible refine Fr.drewN ?_ _) | (with_reducible refine Fr.drew ?_) | (with_reducible refine Fr.alloc ?_ _) | (with_reducible refine Fr.setCell ?_ (by (first | (with_reducible assumption) | omega | (simp only [World.size_alloc, World.size_setCell, World.size_drew, World.heap_drewN]; omega) | (simp; done) | (simp; omega))) _) | (with_reducible refine Fr.trans ?_ (by with_reducible assumption)))⟩
set_option maxHeartbeats 4000000 in
set_option maxRecDepth 100000 in
theorem sda_tx3 (xs : List FileR) (nm tx to : ByteArray) (hn : xs.length ≤ 1048576) (ha : tx.size ≤ 1048576) (a0 : Option Addr) (b0 o0 c0 : Nat) (w : World) (HU : Hid (FilesR w (.slice a0 xs.length c0) xs)) (F0 : Hid (FilesAt w xs a0 b0 o0)) (HD : Hid (diskB xs = true)) (h1 : nameB nm = true) (h2 : tx.toList.isEmpty = false) : SDA xs 3 nm tx to a0 c0 w := by
  unfold SDA
  have HB : Hid (doB xs ⟨3, nm, tx, to⟩ = false) := doB_fits (by unfold fitsB; simp [h2])
  have HL := Lib.hid (doL_no HB.out)
  go_enter Try.func8, Try.ntmps8
  go_wp2_with fail
  refine (specDiskOk_any _ xs _ (HU.out.fr (by repeat (first | (with_reducible exact Fr.refl _) | (with_reducible assumption) | (with_reducible refine Fr.drewN ?_ _) | (with_reducible refine Fr.drew ?_) | (with_reducible refine Fr.alloc ?_ _) | (with_reducible refine Fr.setCell ?_ (by (first | (with_reducible assumption) | omega | (simp only [World.size_alloc, World.size_setCell, World.size_drew, World.heap_drewN]; omega) | (simp; done) | (simp; omega))) _) | (with_reducible refine Fr.trans ?_ (by with_reducible assumption)))))).mono ?_
  rintro e w1 ⟨rfl, hf1⟩
  have BD : Box w1 w.heap.size #[.slice a0 xs.length c0] 31 := (((Box.new _ _ _).alloc _).alloc _).fr hf1
  have BA : Box w1 (w.heap.size + 1) #[.int .i64 3, .string nm, .string tx, .string to] 35 := ((Box.new' (w := w.alloc (.cells #[.slice a0 xs.length c0] 31)) (by simp)).alloc _).fr hf1
  have BR : Box w1 (w.heap.size + 1 + 1) #[.slice none 0 0] 31 := (Box.new' (w := (w.alloc (.cells #[.slice a0 xs.length c0] 31)).alloc (.cells #[.int .i64 3, .string nm, .string tx, .string to] 35)) (by simp)).fr hf1
  have FD := BD.facts; have FA := BA.facts; have FRR := BR.facts
  have z1 := hf1.size; (try simp only [World.size_alloc, World.size_setCell, World.size_drew] at z1)
  rw [HD.out]
  go_wp2_with (go_at_call 28; refine (l14Name_any _ _).mono ?_; rintro e w9 ⟨rfl, rfl⟩)
  all_goals
    rw [HL.out, HB.out]
    refine bodyPost_ret (v := .tuple #[.agg #[.slice none 0 0], .bool false]) (by simp [results, Try.results8, go_sem, *]) rfl ⟨none, 0, rfl, FilesW.nil _ _ _, by repeat (first | (with_reducible exact Fr.refl _) | (with_reducible assumption) | (with_reducible refine Fr.drewN ?_ _) | (with_reducible refine Fr.drew ?_) | (with_reducible refine Fr.alloc ?_ _) | (with_reducible refine Fr.setCell ?_ (by (first | (with_reducible assumption) | omega | (simp only [World.size_alloc, World.size_setCell, World.size_drew, World.heap_drewN]; omega) | (simp; done) | (simp; omega))) _) | (with_reducible refine Fr.trans ?_ (by with_reducible assumption)))⟩
set_option maxHeartbeats 4000000 in
set_option maxRecDepth 100000 in
theorem sda_tx (xs : List FileR) (k : Int) (nm tx to : ByteArray) (hn : xs.length ≤ 1048576) (ha : tx.size ≤ 1048576) (a0 : Option Addr) (b0 o0 c0 : Nat) (w : World) (HU : Hid (FilesR w (.slice a0 xs.length c0) xs)) (F0 : Hid (FilesAt w xs a0 b0 o0)) (HD : Hid (diskB xs = true)) (h1 : nameB nm = true) (h3 : to.toList.isEmpty = true) (hk1 : ¬ k = 1) (h2 : tx.toList.isEmpty = false) : SDA xs k nm tx to a0 c0 w := by
  unfold SDA
  have HB : Hid (doB xs ⟨k, nm, tx, to⟩ = false) := doB_fits (by unfold fitsB; simp only []; rw [decide_eq_false hk1, h2]; simp)
  have HL := Lib.hid (doL_no HB.out)
  go_enter Try.func8, Try.ntmps8
  go_wp2_with fail
  refine (specDiskOk_any _ xs _ (HU.out.fr (by repeat (first | (with_reducible exact Fr.refl _) | (with_reducible assumption) | (with_reducible refine Fr.drewN ?_ _) | (with_reducible refine Fr.drew ?_) | (with_reducible refine Fr.alloc ?_ _) | (with_reducible refine Fr.setCell ?_ (by (first | (with_reducible assumption) | omega | (simp only [World.size_alloc, World.size_setCell, World.size_drew, World.heap_drewN]; omega) | (simp; done) | (simp; omega))) _) | (with_reducible refine Fr.trans ?_ (by with_reducible assumption)))))).mono ?_
  rintro e w1 ⟨rfl, hf1⟩
  have BD : Box w1 w.heap.size #[.slice a0 xs.length c0] 31 := (((Box.new _ _ _).alloc _).alloc _).fr hf1
  have BA : Box w1 (w.heap.size + 1) #[.int .i64 k, .string nm, .string tx, .string to] 35 := ((Box.new' (w := w.alloc (.cells #[.slice a0 xs.length c0] 31)) (by simp)).alloc _).fr hf1
  have BR : Box w1 (w.heap.size + 1 + 1) #[.slice none 0 0] 31 := (Box.new' (w := (w.alloc (.cells #[.slice a0 xs.length c0] 31)).alloc (.cells #[.int .i64 k, .string nm, .string tx, .string to] 35)) (by simp)).fr hf1
  have FD := BD.facts; have FA := BA.facts; have FRR := BR.facts
  have z1 := hf1.size; (try simp only [World.size_alloc, World.size_setCell, World.size_drew] at z1)
  rw [HD.out]
  go_wp2_with (go_at_call 28; refine (l14Name_any _ _).mono ?_; rintro e w9 ⟨rfl, rfl⟩)
  all_goals
    rw [HL.out, HB.out]
    refine bodyPost_ret (v := .tuple #[.agg #[.slice none 0 0], .bool false]) (by simp [results, Try.results8, go_sem, *]) rfl ⟨none, 0, rfl, FilesW.nil _ _ _, by repeat (first | (with_reducible exact Fr.refl _) | (with_reducible assumption) | (with_reducible refine Fr.drewN ?_ _) | (with_reducible refine Fr.drew ?_) | (with_reducible refine Fr.alloc ?_ _) | (with_reducible refine Fr.setCell ?_ (by (first | (with_reducible assumption) | omega | (simp only [World.size_alloc, World.size_setCell, World.size_drew, World.heap_drewN]; omega) | (simp; done) | (simp; omega))) _) | (with_reducible refine Fr.trans ?_ (by with_reducible assumption)))⟩
set_option maxHeartbeats 4000000 in
set_option maxRecDepth 100000 in
theorem sda_no2 (xs : List FileR) (nm tx to : ByteArray) (hn : xs.length ≤ 1048576) (ha : tx.size ≤ 1048576) (a0 : Option Addr) (b0 o0 c0 : Nat) (w : World) (HU : Hid (FilesR w (.slice a0 xs.length c0) xs)) (F0 : Hid (FilesAt w xs a0 b0 o0)) (HD : Hid (diskB xs = true)) (h1 : nameB nm = true) (h3 : to.toList.isEmpty = true) (ht : tx.toList.isEmpty = true) (hmiss : fIx xs nm = -1) : SDA xs 2 nm tx to a0 c0 w := by
  unfold SDA
  have HK : Hid (fIx xs nm = -1) := hmiss
  have HB : Hid (doB xs ⟨2, nm, tx, to⟩ = false) := doB_none (by unfold outA; simp only []; rw [if_neg (by omega), if_pos (by rw [hmiss]; omega)])
  have HL := Lib.hid (doL_no HB.out)
  clear hmiss
  go_enter Try.func8, Try.ntmps8
  go_wp2_with fail
  refine (specDiskOk_any _ xs _ (HU.out.fr (by repeat (first | (with_reducible exact Fr.refl _) | (with_reducible assumption) | (with_reducible refine Fr.drewN ?_ _) | (with_reducible refine Fr.drew ?_) | (with_reducible refine Fr.alloc ?_ _) | (with_reducible refine Fr.setCell ?_ (by (first | (with_reducible assumption) | omega | (simp only [World.size_alloc, World.size_setCell, World.size_drew, World.heap_drewN]; omega) | (simp; done) | (simp; omega))) _) | (with_reducible refine Fr.trans ?_ (by with_reducible assumption)))))).mono ?_
  rintro e w1 ⟨rfl, hf1⟩
  have BD : Box w1 w.heap.size #[.slice a0 xs.length c0] 31 := (((Box.new _ _ _).alloc _).alloc _).fr hf1
  have BA : Box w1 (w.heap.size + 1) #[.int .i64 2, .string nm, .string tx, .string to] 35 := ((Box.new' (w := w.alloc (.cells #[.slice a0 xs.length c0] 31)) (by simp)).alloc _).fr hf1
  have BR : Box w1 (w.heap.size + 1 + 1) #[.slice none 0 0] 31 := (Box.new' (w := (w.alloc (.cells #[.slice a0 xs.length c0] 31)).alloc (.cells #[.int .i64 2, .string nm, .string tx, .string to] 35)) (by simp)).fr hf1
  have FD := BD.facts; have FA := BA.facts; have FRR := BR.facts
  have z1 := hf1.size; (try simp only [World.size_alloc, World.size_setCell, World.size_drew] at z1)
  rw [HD.out]
  go_wp2_with (go_at_call 28; refine (l14Name_any _ _).mono ?_; rintro e w9 ⟨rfl, rfl⟩)
  refine (l14At_any _ xs nm _ (HU.out.fr (by repeat (first | (with_reducible exact Fr.refl _) | (with_reducible assumption) | (with_reducible refine Fr.drewN ?_ _) | (with_reducible refine Fr.drew ?_) | (with_reducible refine Fr.alloc ?_ _) | (with_reducible refine Fr.setCell ?_ (by (first | (with_reducible assumption) | omega | (simp only [World.size_alloc, World.size_setCell, World.size_drew, World.heap_drewN]; omega) | (simp; done) | (simp; omega))) _) | (with_reducible refine Fr.trans ?_ (by with_reducible assumption)))))).mono ?_
  rintro e w2 ⟨rfl, hf2⟩
  rw [HK.out]
  have BD := BD.fr hf2; have BA := BA.fr hf2; have BR := BR.fr hf2
  clear FD FA FRR
  have FD := BD.facts; have FA := BA.facts; have FRR := BR.facts
  have z2 := hf2.size
  go_wp2_with fail
  all_goals
    rw [HL.out, HB.out]
    refine bodyPost_ret (v := .tuple #[.agg #[.slice none 0 0], .bool false]) (by simp [results, Try.results8, go_sem, *]) rfl ⟨none, 0, rfl, FilesW.nil _ _ _, by repeat (first | (with_reducible exact Fr.refl _) | (with_reducible assumption) | (with_reducible refine Fr.drewN ?_ _) | (with_reducible refine Fr.drew ?_) | (with_reducible refine Fr.alloc ?_ _) | (with_reducible refine Fr.setCell ?_ (by (first | (with_reducible assumption) | omega | (simp only [World.size_alloc, World.size_setCell, World.size_drew, World.heap_drewN]; omega) | (simp; done) | (simp; omega))) _) | (with_reducible refine Fr.trans ?_ (by with_reducible assumption)))⟩
set_option maxHeartbeats 4000000 in
set_option maxRecDepth 100000 in
theorem sda_no4 (xs : List FileR) (nm tx to : ByteArray) (hn : xs.length ≤ 1048576) (ha : tx.size ≤ 1048576) (a0 : Option Addr) (b0 o0 c0 : Nat) (w : World) (HU : Hid (FilesR w (.slice a0 xs.length c0) xs)) (F0 : Hid (FilesAt w xs a0 b0 o0)) (HD : Hid (diskB xs = true)) (h1 : nameB nm = true) (h3 : to.toList.isEmpty = true) (ht : tx.toList.isEmpty = true) (hmiss : fIx xs nm = -1) : SDA xs 4 nm tx to a0 c0 w := by
  unfold SDA
  have HK : Hid (fIx xs nm = -1) := hmiss
  have HB : Hid (doB xs ⟨4, nm, tx, to⟩ = false) := doB_none (by unfold outA; simp only []; rw [if_neg (by omega), if_pos (by rw [hmiss]; omega)])
  have HL := Lib.hid (doL_no HB.out)
  clear hmiss
  go_enter Try.func8, Try.ntmps8
  go_wp2_with fail
  refine (specDiskOk_any _ xs _ (HU.out.fr (by repeat (first | (with_reducible exact Fr.refl _) | (with_reducible assumption) | (with_reducible refine Fr.drewN ?_ _) | (with_reducible refine Fr.drew ?_) | (with_reducible refine Fr.alloc ?_ _) | (with_reducible refine Fr.setCell ?_ (by (first | (with_reducible assumption) | omega | (simp only [World.size_alloc, World.size_setCell, World.size_drew, World.heap_drewN]; omega) | (simp; done) | (simp; omega))) _) | (with_reducible refine Fr.trans ?_ (by with_reducible assumption)))))).mono ?_
  rintro e w1 ⟨rfl, hf1⟩
  have BD : Box w1 w.heap.size #[.slice a0 xs.length c0] 31 := (((Box.new _ _ _).alloc _).alloc _).fr hf1
  have BA : Box w1 (w.heap.size + 1) #[.int .i64 4, .string nm, .string tx, .string to] 35 := ((Box.new' (w := w.alloc (.cells #[.slice a0 xs.length c0] 31)) (by simp)).alloc _).fr hf1
  have BR : Box w1 (w.heap.size + 1 + 1) #[.slice none 0 0] 31 := (Box.new' (w := (w.alloc (.cells #[.slice a0 xs.length c0] 31)).alloc (.cells #[.int .i64 4, .string nm, .string tx, .string to] 35)) (by simp)).fr hf1
  have FD := BD.facts; have FA := BA.facts; have FRR := BR.facts
  have z1 := hf1.size; (try simp only [World.size_alloc, World.size_setCell, World.size_drew] at z1)
  rw [HD.out]
  go_wp2_with (go_at_call 28; refine (l14Name_any _ _).mono ?_; rintro e w9 ⟨rfl, rfl⟩)
  refine (l14At_any _ xs nm _ (HU.out.fr (by repeat (first | (with_reducible exact Fr.refl _) | (with_reducible assumption) | (with_reducible refine Fr.drewN ?_ _) | (with_reducible refine Fr.drew ?_) | (with_reducible refine Fr.alloc ?_ _) | (with_reducible refine Fr.setCell ?_ (by (first | (with_reducible assumption) | omega | (simp only [World.size_alloc, World.size_setCell, World.size_drew, World.heap_drewN]; omega) | (simp; done) | (simp; omega))) _) | (with_reducible refine Fr.trans ?_ (by with_reducible assumption)))))).mono ?_
  rintro e w2 ⟨rfl, hf2⟩
  rw [HK.out]
  have BD := BD.fr hf2; have BA := BA.fr hf2; have BR := BR.fr hf2
  clear FD FA FRR
  have FD := BD.facts; have FA := BA.facts; have FRR := BR.facts
  have z2 := hf2.size
  go_wp2_with fail
  all_goals
    rw [HL.out, HB.out]
    refine bodyPost_ret (v := .tuple #[.agg #[.slice none 0 0], .bool false]) (by simp [results, Try.results8, go_sem, *]) rfl ⟨none, 0, rfl, FilesW.nil _ _ _, by repeat (first | (with_reducible exact Fr.refl _) | (with_reducible assumption) | (with_reducible refine Fr.drewN ?_ _) | (with_reducible refine Fr.drew ?_) | (with_reducible refine Fr.alloc ?_ _) | (with_reducible refine Fr.setCell ?_ (by (first | (with_reducible assumption) | omega | (simp only [World.size_alloc, World.size_setCell, World.size_drew, World.heap_drewN]; omega) | (simp; done) | (simp; omega))) _) | (with_reducible refine Fr.trans ?_ (by with_reducible assumption)))⟩
set_option maxHeartbeats 4000000 in
set_option maxRecDepth 100000 in
theorem sda_no3 (xs : List FileR) (nm tx to : ByteArray) (hn : xs.length ≤ 1048576) (ha : tx.size ≤ 1048576) (a0 : Option Addr) (b0 o0 c0 : Nat) (w : World) (HU : Hid (FilesR w (.slice a0 xs.length c0) xs)) (F0 : Hid (FilesAt w xs a0 b0 o0)) (HD : Hid (diskB xs = true)) (h1 : nameB nm = true) (ht : tx.toList.isEmpty = true) (hmiss : fIx xs nm = -1) : SDA xs 3 nm tx to a0 c0 w := by
  unfold SDA
  have HK : Hid (fIx xs nm = -1) := hmiss
  have HB : Hid (doB xs ⟨3, nm, tx, to⟩ = false) := doB_none (by unfold outA; simp only []; rw [if_neg (by omega), if_pos (by rw [hmiss]; omega)])
  have HL := Lib.hid (doL_no HB.out)
  clear hmiss
  go_enter Try.func8, Try.ntmps8
  go_wp2_with fail
  refine (specDiskOk_any _ xs _ (HU.out.fr (by repeat (first | (with_reducible exact Fr.refl _) | (with_reducible assumption) | (with_reducible refine Fr.drewN ?_ _) | (with_reducible refine Fr.drew ?_) | (with_reducible refine Fr.alloc ?_ _) | (with_reducible refine Fr.setCell ?_ (by (first | (with_reducible assumption) | omega | (simp only [World.size_alloc, World.size_setCell, World.size_drew, World.heap_drewN]; omega) | (simp; done) | (simp; omega))) _) | (with_reducible refine Fr.trans ?_ (by with_reducible assumption)))))).mono ?_
  rintro e w1 ⟨rfl, hf1⟩
  have BD : Box w1 w.heap.size #[.slice a0 xs.length c0] 31 := (((Box.new _ _ _).alloc _).alloc _).fr hf1
  have BA : Box w1 (w.heap.size + 1) #[.int .i64 3, .string nm, .string tx, .string to] 35 := ((Box.new' (w := w.alloc (.cells #[.slice a0 xs.length c0] 31)) (by simp)).alloc _).fr hf1
  have BR : Box w1 (w.heap.size + 1 + 1) #[.slice none 0 0] 31 := (Box.new' (w := (w.alloc (.cells #[.slice a0 xs.length c0] 31)).alloc (.cells #[.int .i64 3, .string nm, .string tx, .string to] 35)) (by simp)).fr hf1
  have FD := BD.facts; have FA := BA.facts; have FRR := BR.facts
  have z1 := hf1.size; (try simp only [World.size_alloc, World.size_setCell, World.size_drew] at z1)
  rw [HD.out]
  go_wp2_with (go_at_call 28; refine (l14Name_any _ _).mono ?_; rintro e w9 ⟨rfl, rfl⟩)
  refine (l14At_any _ xs nm _ (HU.out.fr (by repeat (first | (with_reducible exact Fr.refl _) | (with_reducible assumption) | (with_reducible refine Fr.drewN ?_ _) | (with_reducible refine Fr.drew ?_) | (with_reducible refine Fr.alloc ?_ _) | (with_reducible refine Fr.setCell ?_ (by (first | (with_reducible assumption) | omega | (simp only [World.size_alloc, World.size_setCell, World.size_drew, World.heap_drewN]; omega) | (simp; done) | (simp; omega))) _) | (with_reducible refine Fr.trans ?_ (by with_reducible assumption)))))).mono ?_
  rintro e w2 ⟨rfl, hf2⟩
  rw [HK.out]
  have BD := BD.fr hf2; have BA := BA.fr hf2; have BR := BR.fr hf2
  clear FD FA FRR
  have FD := BD.facts; have FA := BA.facts; have FRR := BR.facts
  have z2 := hf2.size
  go_wp2_with fail
  all_goals
    rw [HL.out, HB.out]
    refine bodyPost_ret (v := .tuple #[.agg #[.slice none 0 0], .bool false]) (by simp [results, Try.results8, go_sem, *]) rfl ⟨none, 0, rfl, FilesW.nil _ _ _, by repeat (first | (with_reducible exact Fr.refl _) | (with_reducible assumption) | (with_reducible refine Fr.drewN ?_ _) | (with_reducible refine Fr.drew ?_) | (with_reducible refine Fr.alloc ?_ _) | (with_reducible refine Fr.setCell ?_ (by (first | (with_reducible assumption) | omega | (simp only [World.size_alloc, World.size_setCell, World.size_drew, World.heap_drewN]; omega) | (simp; done) | (simp; omega))) _) | (with_reducible refine Fr.trans ?_ (by with_reducible assumption)))⟩
end Go.Proofs.Ythcbnilmhenpgaa
