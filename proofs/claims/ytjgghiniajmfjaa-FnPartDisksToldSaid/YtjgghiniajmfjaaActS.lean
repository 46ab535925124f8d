/- ActS: ActS1, ActS2, ActS3, ActS4, ActS5, ActS in one text. -/
import Derived.Test.YtjgghiniajmfjaaKFit
import Derived.Test.YtjgghiniajmfjaaKFile
namespace Go.Proofs.Ytjgghiniajmfjaa
open Go.RowKit
set_option linter.unusedVariables false
set_option linter.unusedSimpArgs false
/-! The reference's DoAct, part 1. Condition: bounds on what is read, which the laws pay. (Printed by mk_act.py.) -/
set_option maxHeartbeats 4000000 in
set_option maxRecDepth 100000 in
theorem sda_disk (xs : List FileR) (k : Int) (nm tx to : ByteArray) (hn : xs.length ≤ 1048576) (ha : tx.size ≤ 1048576) (a0 : Option Addr) (b0 o0 c0 : Nat) (w : World) (HU : Hid (FilesR w (.slice a0 xs.length c0) xs)) (F0 : Hid (FilesAt w xs a0 b0 o0)) (HD : Hid (diskB xs = false)) : SDA xs k nm tx to a0 c0 w := by
  unfold SDA
  have HB : Hid (doB xs ⟨k, nm, tx, to⟩ = false) := doB_disk HD.out
  have HL := Lib.hid (doL_no HB.out)
  go_enter Try.func109, Try.ntmps109
  go_wp2_with fail
  refine (specDiskOk_any _ xs _ (HU.out.fr (by repeat (first | (with_reducible exact Fr.refl _) | (with_reducible assumption) | (with_reducible refine Fr.drewN ?_ _) | (with_reducible refine Fr.drew ?_) | (with_reducible refine Fr.alloc ?_ _) | (with_reducible refine Fr.setCell ?_ (by (first | (with_reducible assumption) | omega | (simp only [World.size_alloc, World.size_setCell, World.size_drew, World.heap_drewN]; omega) | (simp; done) | (simp; omega))) _) | (with_reducible refine Fr.trans ?_ (by with_reducible assumption)))))).mono ?_
  rintro e w1 ⟨rfl, hf1⟩
  have BD : Box w1 w.heap.size #[.slice a0 xs.length c0] 46 := (((Box.new _ _ _).alloc _).alloc _).fr hf1
  have BA : Box w1 (w.heap.size + 1) #[.int .i64 k, .string nm, .string tx, .string to] 145 := ((Box.new' (w := w.alloc (.cells #[.slice a0 xs.length c0] 46)) (by simp)).alloc _).fr hf1
  have BR : Box w1 (w.heap.size + 1 + 1) #[.slice none 0 0] 46 := (Box.new' (w := (w.alloc (.cells #[.slice a0 xs.length c0] 46)).alloc (.cells #[.int .i64 k, .string nm, .string tx, .string to] 145)) (by simp)).fr hf1
  have FD := BD.facts; have FA := BA.facts; have FRR := BR.facts
  have z1 := hf1.size; (try simp only [World.size_alloc, World.size_setCell, World.size_drew] at z1)
  rw [HD.out]
  go_wp2_with fail
  all_goals
    rw [HL.out, HB.out]
    refine bodyPost_ret (v := .tuple #[.agg #[.slice none 0 0], .bool false]) (by simp [results, Try.results109, go_sem, *]) rfl ⟨none, 0, rfl, FilesW.nil _ _ _, by repeat (first | (with_reducible exact Fr.refl _) | (with_reducible assumption) | (with_reducible refine Fr.drewN ?_ _) | (with_reducible refine Fr.drew ?_) | (with_reducible refine Fr.alloc ?_ _) | (with_reducible refine Fr.setCell ?_ (by (first | (with_reducible assumption) | omega | (simp only [World.size_alloc, World.size_setCell, World.size_drew, World.heap_drewN]; omega) | (simp; done) | (simp; omega))) _) | (with_reducible refine Fr.trans ?_ (by with_reducible assumption)))⟩
set_option maxHeartbeats 4000000 in
set_option maxRecDepth 100000 in
theorem sda_name (xs : List FileR) (k : Int) (nm tx to : ByteArray) (hn : xs.length ≤ 1048576) (ha : tx.size ≤ 1048576) (a0 : Option Addr) (b0 o0 c0 : Nat) (w : World) (HU : Hid (FilesR w (.slice a0 xs.length c0) xs)) (F0 : Hid (FilesAt w xs a0 b0 o0)) (HD : Hid (diskB xs = true)) (h1 : nameB nm = false) : SDA xs k nm tx to a0 c0 w := by
  unfold SDA
  have HB : Hid (doB xs ⟨k, nm, tx, to⟩ = false) := doB_fits (by unfold fitsB; simp only []; rw [h1]; simp)
  have HL := Lib.hid (doL_no HB.out)
  go_enter Try.func109, Try.ntmps109
  go_wp2_with fail
  refine (specDiskOk_any _ xs _ (HU.out.fr (by repeat (first | (with_reducible exact Fr.refl _) | (with_reducible assumption) | (with_reducible refine Fr.drewN ?_ _) | (with_reducible refine Fr.drew ?_) | (with_reducible refine Fr.alloc ?_ _) | (with_reducible refine Fr.setCell ?_ (by (first | (with_reducible assumption) | omega | (simp only [World.size_alloc, World.size_setCell, World.size_drew, World.heap_drewN]; omega) | (simp; done) | (simp; omega))) _) | (with_reducible refine Fr.trans ?_ (by with_reducible assumption)))))).mono ?_
  rintro e w1 ⟨rfl, hf1⟩
  have BD : Box w1 w.heap.size #[.slice a0 xs.length c0] 46 := (((Box.new _ _ _).alloc _).alloc _).fr hf1
  have BA : Box w1 (w.heap.size + 1) #[.int .i64 k, .string nm, .string tx, .string to] 145 := ((Box.new' (w := w.alloc (.cells #[.slice a0 xs.length c0] 46)) (by simp)).alloc _).fr hf1
  have BR : Box w1 (w.heap.size + 1 + 1) #[.slice none 0 0] 46 := (Box.new' (w := (w.alloc (.cells #[.slice a0 xs.length c0] 46)).alloc (.cells #[.int .i64 k, .string nm, .string tx, .string to] 145)) (by simp)).fr hf1
  have FD := BD.facts; have FA := BA.facts; have FRR := BR.facts
  have z1 := hf1.size; (try simp only [World.size_alloc, World.size_setCell, World.size_drew] at z1)
  rw [HD.out]
  go_wp2_with (go_at_call 169; refine (l14Name_any _ _).mono ?_; rintro e w9 ⟨rfl, rfl⟩)
  all_goals
    rw [HL.out, HB.out]
    refine bodyPost_ret (v := .tuple #[.agg #[.slice none 0 0], .bool false]) (by simp [results, Try.results109, go_sem, *]) rfl ⟨none, 0, rfl, FilesW.nil _ _ _, by repeat (first | (with_reducible exact Fr.refl _) | (with_reducible assumption) | (with_reducible refine Fr.drewN ?_ _) | (with_reducible refine Fr.drew ?_) | (with_reducible refine Fr.alloc ?_ _) | (with_reducible refine Fr.setCell ?_ (by (first | (with_reducible assumption) | omega | (simp only [World.size_alloc, World.size_setCell, World.size_drew, World.heap_drewN]; omega) | (simp; done) | (simp; omega))) _) | (with_reducible refine Fr.trans ?_ (by with_reducible assumption)))⟩
set_option maxHeartbeats 4000000 in
set_option maxRecDepth 100000 in
theorem sda_to (xs : List FileR) (k : Int) (nm tx to : ByteArray) (hn : xs.length ≤ 1048576) (ha : tx.size ≤ 1048576) (a0 : Option Addr) (b0 o0 c0 : Nat) (w : World) (HU : Hid (FilesR w (.slice a0 xs.length c0) xs)) (F0 : Hid (FilesAt w xs a0 b0 o0)) (HD : Hid (diskB xs = true)) (h1 : nameB nm = true) (hk3 : ¬ k = 3) (h2 : to.toList.isEmpty = false) : SDA xs k nm tx to a0 c0 w := by
  unfold SDA
  have HB : Hid (doB xs ⟨k, nm, tx, to⟩ = false) := doB_fits (by unfold fitsB; simp only []; rw [if_neg hk3, h2]; simp)
  have HL := Lib.hid (doL_no HB.out)
  go_enter Try.func109, Try.ntmps109
  go_wp2_with fail
  refine (specDiskOk_any _ xs _ (HU.out.fr (by repeat (first | (with_reducible exact Fr.refl _) | (with_reducible assumption) | (with_reducible refine Fr.drewN ?_ _) | (with_reducible refine Fr.drew ?_) | (with_reducible refine Fr.alloc ?_ _) | (with_reducible refine Fr.setCell ?_ (by (first | (with_reducible assumption) | omega | (simp only [World.size_alloc, World.size_setCell, World.size_drew, World.heap_drewN]; omega) | (simp; done) | (simp; omega))) _) | (with_reducible refine Fr.trans ?_ (by with_reducible assumption)))))).mono ?_
  rintro e w1 ⟨rfl, hf1⟩
  have BD : Box w1 w.heap.size #[.slice a0 xs.length c0] 46 := (((Box.new _ _ _).alloc _).alloc _).fr hf1
  have BA : Box w1 (w.heap.size + 1) #[.int .i64 k, .string nm, .string tx, .string to] 145 := ((Box.new' (w := w.alloc (.cells #[.slice a0 xs.length c0] 46)) (by simp)).alloc _).fr hf1
  have BR : Box w1 (w.heap.size + 1 + 1) #[.slice none 0 0] 46 := (Box.new' (w := (w.alloc (.cells #[.slice a0 xs.length c0] 46)).alloc (.cells #[.int .i64 k, .string nm, .string tx, .string to] 145)) (by simp)).fr hf1
  have FD := BD.facts; have FA := BA.facts; have FRR := BR.facts
  have z1 := hf1.size; (try simp only [World.size_alloc, World.size_setCell, World.size_drew] at z1)
  rw [HD.out]
  go_wp2_with (go_at_call 169; refine (l14Name_any _ _).mono ?_; rintro e w9 ⟨rfl, rfl⟩)
  all_goals
    rw [HL.out, HB.out]
    refine bodyPost_ret (v := .tuple #[.agg #[.slice none 0 0], .bool false]) (by simp [results, Try.results109, go_sem, *]) rfl ⟨none, 0, rfl, FilesW.nil _ _ _, by repeat (first | (with_reducible exact Fr.refl _) | (with_reducible assumption) | (with_reducible refine Fr.drewN ?_ _) | (with_reducible refine Fr.drew ?_) | (with_reducible refine Fr.alloc ?_ _) | (with_reducible refine Fr.setCell ?_ (by (first | (with_reducible assumption) | omega | (simp only [World.size_alloc, World.size_setCell, World.size_drew, World.heap_drewN]; omega) | (simp; done) | (simp; omega))) _) | (with_reducible refine Fr.trans ?_ (by with_reducible assumption)))⟩
set_option maxHeartbeats 4000000 in
set_option maxRecDepth 100000 in
theorem sda_tx3 (xs : List FileR) (nm tx to : ByteArray) (hn : xs.length ≤ 1048576) (ha : tx.size ≤ 1048576) (a0 : Option Addr) (b0 o0 c0 : Nat) (w : World) (HU : Hid (FilesR w (.slice a0 xs.length c0) xs)) (F0 : Hid (FilesAt w xs a0 b0 o0)) (HD : Hid (diskB xs = true)) (h1 : nameB nm = true) (h2 : tx.toList.isEmpty = false) : SDA xs 3 nm tx to a0 c0 w := by
  unfold SDA
  have HB : Hid (doB xs ⟨3, nm, tx, to⟩ = false) := doB_fits (by unfold fitsB; simp [h2])
  have HL := Lib.hid (doL_no HB.out)
  go_enter Try.func109, Try.ntmps109
  go_wp2_with fail
  refine (specDiskOk_any _ xs _ (HU.out.fr (by repeat (first | (with_reducible exact Fr.refl _) | (with_reducible assumption) | (with_reducible refine Fr.drewN ?_ _) | (with_reducible refine Fr.drew ?_) | (with_reducible refine Fr.alloc ?_ _) | (with_reducible refine Fr.setCell ?_ (by (first | (with_reducible assumption) | omega | (simp only [World.size_alloc, World.size_setCell, World.size_drew, World.heap_drewN]; omega) | (simp; done) | (simp; omega))) _) | (with_reducible refine Fr.trans ?_ (by with_reducible assumption)))))).mono ?_
  rintro e w1 ⟨rfl, hf1⟩
  have BD : Box w1 w.heap.size #[.slice a0 xs.length c0] 46 := (((Box.new _ _ _).alloc _).alloc _).fr hf1
  have BA : Box w1 (w.heap.size + 1) #[.int .i64 3, .string nm, .string tx, .string to] 145 := ((Box.new' (w := w.alloc (.cells #[.slice a0 xs.length c0] 46)) (by simp)).alloc _).fr hf1
  have BR : Box w1 (w.heap.size + 1 + 1) #[.slice none 0 0] 46 := (Box.new' (w := (w.alloc (.cells #[.slice a0 xs.length c0] 46)).alloc (.cells #[.int .i64 3, .string nm, .string tx, .string to] 145)) (by simp)).fr hf1
  have FD := BD.facts; have FA := BA.facts; have FRR := BR.facts
  have z1 := hf1.size; (try simp only [World.size_alloc, World.size_setCell, World.size_drew] at z1)
  rw [HD.out]
  go_wp2_with (go_at_call 169; refine (l14Name_any _ _).mono ?_; rintro e w9 ⟨rfl, rfl⟩)
  all_goals
    rw [HL.out, HB.out]
    refine bodyPost_ret (v := .tuple #[.agg #[.slice none 0 0], .bool false]) (by simp [results, Try.results109, go_sem, *]) rfl ⟨none, 0, rfl, FilesW.nil _ _ _, by repeat (first | (with_reducible exact Fr.refl _) | (with_reducible assumption) | (with_reducible refine Fr.drewN ?_ _) | (with_reducible refine Fr.drew ?_) | (with_reducible refine Fr.alloc ?_ _) | (with_reducible refine Fr.setCell ?_ (by (first | (with_reducible assumption) | omega | (simp only [World.size_alloc, World.size_setCell, World.size_drew, World.heap_drewN]; omega) | (simp; done) | (simp; omega))) _) | (with_reducible refine Fr.trans ?_ (by with_reducible assumption)))⟩
set_option maxHeartbeats 4000000 in
set_option maxRecDepth 100000 in
theorem sda_tx (xs : List FileR) (k : Int) (nm tx to : ByteArray) (hn : xs.length ≤ 1048576) (ha : tx.size ≤ 1048576) (a0 : Option Addr) (b0 o0 c0 : Nat) (w : World) (HU : Hid (FilesR w (.slice a0 xs.length c0) xs)) (F0 : Hid (FilesAt w xs a0 b0 o0)) (HD : Hid (diskB xs = true)) (h1 : nameB nm = true) (h3 : to.toList.isEmpty = true) (hk1 : ¬ k = 1) (h2 : tx.toList.isEmpty = false) : SDA xs k nm tx to a0 c0 w := by
  unfold SDA
  have HB : Hid (doB xs ⟨k, nm, tx, to⟩ = false) := doB_fits (by unfold fitsB; simp only []; rw [decide_eq_false hk1, h2]; simp)
  have HL := Lib.hid (doL_no HB.out)
  go_enter Try.func109, Try.ntmps109
  go_wp2_with fail
  refine (specDiskOk_any _ xs _ (HU.out.fr (by repeat (first | (with_reducible exact Fr.refl _) | (with_reducible assumption) | (with_reducible refine Fr.drewN ?_ _) | (with_reducible refine Fr.drew ?_) | (with_reducible refine Fr.alloc ?_ _) | (with_reducible refine Fr.setCell ?_ (by (first | (with_reducible assumption) | omega | (simp only [World.size_alloc, World.size_setCell, World.size_drew, World.heap_drewN]; omega) | (simp; done) | (simp; omega))) _) | (with_reducible refine Fr.trans ?_ (by with_reducible assumption)))))).mono ?_
  rintro e w1 ⟨rfl, hf1⟩
  have BD : Box w1 w.heap.size #[.slice a0 xs.length c0] 46 := (((Box.new _ _ _).alloc _).alloc _).fr hf1
  have BA : Box w1 (w.heap.size + 1) #[.int .i64 k, .string nm, .string tx, .string to] 145 := ((Box.new' (w := w.alloc (.cells #[.slice a0 xs.length c0] 46)) (by simp)).alloc _).fr hf1
  have BR : Box w1 (w.heap.size + 1 + 1) #[.slice none 0 0] 46 := (Box.new' (w := (w.alloc (.cells #[.slice a0 xs.length c0] 46)).alloc (.cells #[.int .i64 k, .string nm, .string tx, .string to] 145)) (by simp)).fr hf1
  have FD := BD.facts; have FA := BA.facts; have FRR := BR.facts
  have z1 := hf1.size; (try simp only [World.size_alloc, World.size_setCell, World.size_drew] at z1)
  rw [HD.out]
  go_wp2_with (go_at_call 169; refine (l14Name_any _ _).mono ?_; rintro e w9 ⟨rfl, rfl⟩)
  all_goals
    rw [HL.out, HB.out]
    refine bodyPost_ret (v := .tuple #[.agg #[.slice none 0 0], .bool false]) (by simp [results, Try.results109, go_sem, *]) rfl ⟨none, 0, rfl, FilesW.nil _ _ _, by repeat (first | (with_reducible exact Fr.refl _) | (with_reducible assumption) | (with_reducible refine Fr.drewN ?_ _) | (with_reducible refine Fr.drew ?_) | (with_reducible refine Fr.alloc ?_ _) | (with_reducible refine Fr.setCell ?_ (by (first | (with_reducible assumption) | omega | (simp only [World.size_alloc, World.size_setCell, World.size_drew, World.heap_drewN]; omega) | (simp; done) | (simp; omega))) _) | (with_reducible refine Fr.trans ?_ (by with_reducible assumption)))⟩
set_option maxHeartbeats 4000000 in
set_option maxRecDepth 100000 in
theorem sda_no2 (xs : List FileR) (nm tx to : ByteArray) (hn : xs.length ≤ 1048576) (ha : tx.size ≤ 1048576) (a0 : Option Addr) (b0 o0 c0 : Nat) (w : World) (HU : Hid (FilesR w (.slice a0 xs.length c0) xs)) (F0 : Hid (FilesAt w xs a0 b0 o0)) (HD : Hid (diskB xs = true)) (h1 : nameB nm = true) (h3 : to.toList.isEmpty = true) (ht : tx.toList.isEmpty = true) (hmiss : fIx xs nm = -1) : SDA xs 2 nm tx to a0 c0 w := by
  unfold SDA
  have HK : Hid (fIx xs nm = -1) := hmiss
  have HB : Hid (doB xs ⟨2, nm, tx, to⟩ = false) := doB_none (by unfold outA; simp only []; rw [if_neg (by omega), if_pos (by rw [hmiss]; omega)])
  have HL := Lib.hid (doL_no HB.out)
  clear hmiss
  go_enter Try.func109, Try.ntmps109
  go_wp2_with fail
  refine (specDiskOk_any _ xs _ (HU.out.fr (by repeat (first | (with_reducible exact Fr.refl _) | (with_reducible assumption) | (with_reducible refine Fr.drewN ?_ _) | (with_reducible refine Fr.drew ?_) | (with_reducible refine Fr.alloc ?_ _) | (with_reducible refine Fr.setCell ?_ (by (first | (with_reducible assumption) | omega | (simp only [World.size_alloc, World.size_setCell, World.size_drew, World.heap_drewN]; omega) | (simp; done) | (simp; omega))) _) | (with_reducible refine Fr.trans ?_ (by with_reducible assumption)))))).mono ?_
  rintro e w1 ⟨rfl, hf1⟩
  have BD : Box w1 w.heap.size #[.slice a0 xs.length c0] 46 := (((Box.new _ _ _).alloc _).alloc _).fr hf1
  have BA : Box w1 (w.heap.size + 1) #[.int .i64 2, .string nm, .string tx, .string to] 145 := ((Box.new' (w := w.alloc (.cells #[.slice a0 xs.length c0] 46)) (by simp)).alloc _).fr hf1
  have BR : Box w1 (w.heap.size + 1 + 1) #[.slice none 0 0] 46 := (Box.new' (w := (w.alloc (.cells #[.slice a0 xs.length c0] 46)).alloc (.cells #[.int .i64 2, .string nm, .string tx, .string to] 145)) (by simp)).fr hf1
  have FD := BD.facts; have FA := BA.facts; have FRR := BR.facts
  have z1 := hf1.size; (try simp only [World.size_alloc, World.size_setCell, World.size_drew] at z1)
  rw [HD.out]
  go_wp2_with (go_at_call 169; refine (l14Name_any _ _).mono ?_; rintro e w9 ⟨rfl, rfl⟩)
  refine (l14At_any _ xs nm _ (HU.out.fr (by repeat (first | (with_reducible exact Fr.refl _) | (with_reducible assumption) | (with_reducible refine Fr.drewN ?_ _) | (with_reducible refine Fr.drew ?_) | (with_reducible refine Fr.alloc ?_ _) | (with_reducible refine Fr.setCell ?_ (by (first | (with_reducible assumption) | omega | (simp only [World.size_alloc, World.size_setCell, World.size_drew, World.heap_drewN]; omega) | (simp; done) | (simp; omega))) _) | (with_reducible refine Fr.trans ?_ (by with_reducible assumption)))))).mono ?_
  rintro e w2 ⟨rfl, hf2⟩
  rw [HK.out]
  have BD := BD.fr hf2; have BA := BA.fr hf2; have BR := BR.fr hf2
  clear FD FA FRR
  have FD := BD.facts; have FA := BA.facts; have FRR := BR.facts
  have z2 := hf2.size
  go_wp2_with fail
  all_goals
    rw [HL.out, HB.out]
    refine bodyPost_ret (v := .tuple #[.agg #[.slice none 0 0], .bool false]) (by simp [results, Try.results109, go_sem, *]) rfl ⟨none, 0, rfl, FilesW.nil _ _ _, by repeat (first | (with_reducible exact Fr.refl _) | (with_reducible assumption) | (with_reducible refine Fr.drewN ?_ _) | (with_reducible refine Fr.drew ?_) | (with_reducible refine Fr.alloc ?_ _) | (with_reducible refine Fr.setCell ?_ (by (first | (with_reducible assumption) | omega | (simp only [World.size_alloc, World.size_setCell, World.size_drew, World.heap_drewN]; omega) | (simp; done) | (simp; omega))) _) | (with_reducible refine Fr.trans ?_ (by with_reducible assumption)))⟩
set_option maxHeartbeats 4000000 in
set_option maxRecDepth 100000 in
theorem sda_no4 (xs : List FileR) (nm tx to : ByteArray) (hn : xs.length ≤ 1048576) (ha : tx.size ≤ 1048576) (a0 : Option Addr) (b0 o0 c0 : Nat) (w : World) (HU : Hid (FilesR w (.slice a0 xs.length c0) xs)) (F0 : Hid (FilesAt w xs a0 b0 o0)) (HD : Hid (diskB xs = true)) (h1 : nameB nm = true) (h3 : to.toList.isEmpty = true) (ht : tx.toList.isEmpty = true) (hmiss : fIx xs nm = -1) : SDA xs 4 nm tx to a0 c0 w := by
  unfold SDA
  have HK : Hid (fIx xs nm = -1) := hmiss
  have HB : Hid (doB xs ⟨4, nm, tx, to⟩ = false) := doB_none (by unfold outA; simp only []; rw [if_neg (by omega), if_pos (by rw [hmiss]; omega)])
  have HL := Lib.hid (doL_no HB.out)
  clear hmiss
  go_enter Try.func109, Try.ntmps109
  go_wp2_with fail
  refine (specDiskOk_any _ xs _ (HU.out.fr (by repeat (first | (with_reducible exact Fr.refl _) | (with_reducible assumption) | (with_reducible refine Fr.drewN ?_ _) | (with_reducible refine Fr.drew ?_) | (with_reducible refine Fr.alloc ?_ _) | (with_reducible refine Fr.setCell ?_ (by (first | (with_reducible assumption) | omega | (simp only [World.size_alloc, World.size_setCell, World.size_drew, World.heap_drewN]; omega) | (simp; done) | (simp; omega))) _) | (with_reducible refine Fr.trans ?_ (by with_reducible assumption)))))).mono ?_
  rintro e w1 ⟨rfl, hf1⟩
  have BD : Box w1 w.heap.size #[.slice a0 xs.length c0] 46 := (((Box.new _ _ _).alloc _).alloc _).fr hf1
  have BA : Box w1 (w.heap.size + 1) #[.int .i64 4, .string nm, .string tx, .string to] 145 := ((Box.new' (w := w.alloc (.cells #[.slice a0 xs.length c0] 46)) (by simp)).alloc _).fr hf1
  have BR : Box w1 (w.heap.size + 1 + 1) #[.slice none 0 0] 46 := (Box.new' (w := (w.alloc (.cells #[.slice a0 xs.length c0] 46)).alloc (.cells #[.int .i64 4, .string nm, .string tx, .string to] 145)) (by simp)).fr hf1
  have FD := BD.facts; have FA := BA.facts; have FRR := BR.facts
  have z1 := hf1.size; (try simp only [World.size_alloc, World.size_setCell, World.size_drew] at z1)
  rw [HD.out]
  go_wp2_with (go_at_call 169; refine (l14Name_any _ _).mono ?_; rintro e w9 ⟨rfl, rfl⟩)
  refine (l14At_any _ xs nm _ (HU.out.fr (by repeat (first | (with_reducible exact Fr.refl _) | (with_reducible assumption) | (with_reducible refine Fr.drewN ?_ _) | (with_reducible refine Fr.drew ?_) | (with_reducible refine Fr.alloc ?_ _) | (with_reducible refine Fr.setCell ?_ (by (first | (with_reducible assumption) | omega | (simp only [World.size_alloc, World.size_setCell, World.size_drew, World.heap_drewN]; omega) | (simp; done) | (simp; omega))) _) | (with_reducible refine Fr.trans ?_ (by with_reducible assumption)))))).mono ?_
  rintro e w2 ⟨rfl, hf2⟩
  rw [HK.out]
  have BD := BD.fr hf2; have BA := BA.fr hf2; have BR := BR.fr hf2
  clear FD FA FRR
  have FD := BD.facts; have FA := BA.facts; have FRR := BR.facts
  have z2 := hf2.size
  go_wp2_with fail
  all_goals
    rw [HL.out, HB.out]
    refine bodyPost_ret (v := .tuple #[.agg #[.slice none 0 0], .bool false]) (by simp [results, Try.results109, go_sem, *]) rfl ⟨none, 0, rfl, FilesW.nil _ _ _, by repeat (first | (with_reducible exact Fr.refl _) | (with_reducible assumption) | (with_reducible refine Fr.drewN ?_ _) | (with_reducible refine Fr.drew ?_) | (with_reducible refine Fr.alloc ?_ _) | (with_reducible refine Fr.setCell ?_ (by (first | (with_reducible assumption) | omega | (simp only [World.size_alloc, World.size_setCell, World.size_drew, World.heap_drewN]; omega) | (simp; done) | (simp; omega))) _) | (with_reducible refine Fr.trans ?_ (by with_reducible assumption)))⟩
set_option maxHeartbeats 4000000 in
set_option maxRecDepth 100000 in
theorem sda_no3 (xs : List FileR) (nm tx to : ByteArray) (hn : xs.length ≤ 1048576) (ha : tx.size ≤ 1048576) (a0 : Option Addr) (b0 o0 c0 : Nat) (w : World) (HU : Hid (FilesR w (.slice a0 xs.length c0) xs)) (F0 : Hid (FilesAt w xs a0 b0 o0)) (HD : Hid (diskB xs = true)) (h1 : nameB nm = true) (ht : tx.toList.isEmpty = true) (hmiss : fIx xs nm = -1) : SDA xs 3 nm tx to a0 c0 w := by
  unfold SDA
  have HK : Hid (fIx xs nm = -1) := hmiss
  have HB : Hid (doB xs ⟨3, nm, tx, to⟩ = false) := doB_none (by unfold outA; simp only []; rw [if_neg (by omega), if_pos (by rw [hmiss]; omega)])
  have HL := Lib.hid (doL_no HB.out)
  clear hmiss
  go_enter Try.func109, Try.ntmps109
  go_wp2_with fail
  refine (specDiskOk_any _ xs _ (HU.out.fr (by repeat (first | (with_reducible exact Fr.refl _) | (with_reducible assumption) | (with_reducible refine Fr.drewN ?_ _) | (with_reducible refine Fr.drew ?_) | (with_reducible refine Fr.alloc ?_ _) | (with_reducible refine Fr.setCell ?_ (by (first | (with_reducible assumption) | omega | (simp only [World.size_alloc, World.size_setCell, World.size_drew, World.heap_drewN]; omega) | (simp; done) | (simp; omega))) _) | (with_reducible refine Fr.trans ?_ (by with_reducible assumption)))))).mono ?_
  rintro e w1 ⟨rfl, hf1⟩
  have BD : Box w1 w.heap.size #[.slice a0 xs.length c0] 46 := (((Box.new _ _ _).alloc _).alloc _).fr hf1
  have BA : Box w1 (w.heap.size + 1) #[.int .i64 3, .string nm, .string tx, .string to] 145 := ((Box.new' (w := w.alloc (.cells #[.slice a0 xs.length c0] 46)) (by simp)).alloc _).fr hf1
  have BR : Box w1 (w.heap.size + 1 + 1) #[.slice none 0 0] 46 := (Box.new' (w := (w.alloc (.cells #[.slice a0 xs.length c0] 46)).alloc (.cells #[.int .i64 3, .string nm, .string tx, .string to] 145)) (by simp)).fr hf1
  have FD := BD.facts; have FA := BA.facts; have FRR := BR.facts
  have z1 := hf1.size; (try simp only [World.size_alloc, World.size_setCell, World.size_drew] at z1)
  rw [HD.out]
  go_wp2_with (go_at_call 169; refine (l14Name_any _ _).mono ?_; rintro e w9 ⟨rfl, rfl⟩)
  refine (l14At_any _ xs nm _ (HU.out.fr (by repeat (first | (with_reducible exact Fr.refl _) | (with_reducible assumption) | (with_reducible refine Fr.drewN ?_ _) | (with_reducible refine Fr.drew ?_) | (with_reducible refine Fr.alloc ?_ _) | (with_reducible refine Fr.setCell ?_ (by (first | (with_reducible assumption) | omega | (simp only [World.size_alloc, World.size_setCell, World.size_drew, World.heap_drewN]; omega) | (simp; done) | (simp; omega))) _) | (with_reducible refine Fr.trans ?_ (by with_reducible assumption)))))).mono ?_
  rintro e w2 ⟨rfl, hf2⟩
  rw [HK.out]
  have BD := BD.fr hf2; have BA := BA.fr hf2; have BR := BR.fr hf2
  clear FD FA FRR
  have FD := BD.facts; have FA := BA.facts; have FRR := BR.facts
  have z2 := hf2.size
  go_wp2_with fail
  all_goals
    rw [HL.out, HB.out]
    refine bodyPost_ret (v := .tuple #[.agg #[.slice none 0 0], .bool false]) (by simp [results, Try.results109, go_sem, *]) rfl ⟨none, 0, rfl, FilesW.nil _ _ _, by repeat (first | (with_reducible exact Fr.refl _) | (with_reducible assumption) | (with_reducible refine Fr.drewN ?_ _) | (with_reducible refine Fr.drew ?_) | (with_reducible refine Fr.alloc ?_ _) | (with_reducible refine Fr.setCell ?_ (by (first | (with_reducible assumption) | omega | (simp only [World.size_alloc, World.size_setCell, World.size_drew, World.heap_drewN]; omega) | (simp; done) | (simp; omega))) _) | (with_reducible refine Fr.trans ?_ (by with_reducible assumption)))⟩
/-! The reference's DoAct, part 2. Condition: bounds on what is read, which the laws pay. (Printed by mk_act.py.) -/
set_option maxHeartbeats 4000000 in
set_option maxRecDepth 100000 in
theorem sda_add0 (xs : List FileR) (nm tx to : ByteArray) (hn : xs.length ≤ 1048576) (ha : tx.size ≤ 1048576) (a0 : Option Addr) (b0 o0 c0 : Nat) (w : World) (HU : Hid (FilesR w (.slice a0 xs.length c0) xs)) (F0 : Hid (FilesAt w xs a0 b0 o0)) (HD : Hid (diskB xs = true)) (h1 : nameB nm = true) (h3 : to.toList.isEmpty = true) (hmiss : fIx xs nm = -1) : SDA xs 1 nm tx to a0 c0 w := by
  unfold SDA
  have HF : Hid (fitsB ⟨1, nm, tx, to⟩ = true) := by show _ = _; unfold fitsB; simp [h1, h3]
  have HK : Hid (fIx xs nm = -1) := hmiss
  have HO : Hid (outA xs ⟨1, nm, tx, to⟩ = some (putF xs ⟨nm, ⟨#[]⟩ ++ tx, 0⟩)) := by show _ = _; unfold outA addF; simp only []; rw [if_pos trivial, if_pos (by rw [hmiss]; omega)]
  clear hmiss
  go_enter Try.func109, Try.ntmps109
  go_wp2_with fail
  refine (specDiskOk_any _ xs _ (HU.out.fr (by repeat (first | (with_reducible exact Fr.refl _) | (with_reducible assumption) | (with_reducible refine Fr.drewN ?_ _) | (with_reducible refine Fr.drew ?_) | (with_reducible refine Fr.alloc ?_ _) | (with_reducible refine Fr.setCell ?_ (by (first | (with_reducible assumption) | omega | (simp only [World.size_alloc, World.size_setCell, World.size_drew, World.heap_drewN]; omega) | (simp; done) | (simp; omega))) _) | (with_reducible refine Fr.trans ?_ (by with_reducible assumption)))))).mono ?_
  rintro e w1 ⟨rfl, hf1⟩
  have BD : Box w1 w.heap.size #[.slice a0 xs.length c0] 46 := (((Box.new _ _ _).alloc _).alloc _).fr hf1
  have BA : Box w1 (w.heap.size + 1) #[.int .i64 1, .string nm, .string tx, .string to] 145 := ((Box.new' (w := w.alloc (.cells #[.slice a0 xs.length c0] 46)) (by simp)).alloc _).fr hf1
  have BR : Box w1 (w.heap.size + 1 + 1) #[.slice none 0 0] 46 := (Box.new' (w := (w.alloc (.cells #[.slice a0 xs.length c0] 46)).alloc (.cells #[.int .i64 1, .string nm, .string tx, .string to] 145)) (by simp)).fr hf1
  have FD := BD.facts; have FA := BA.facts; have FRR := BR.facts
  have z1 := hf1.size; (try simp only [World.size_alloc, World.size_setCell, World.size_drew] at z1)
  rw [HD.out]
  go_wp2_with (go_at_call 169; refine (l14Name_any _ _).mono ?_; rintro e w9 ⟨rfl, rfl⟩)
  refine (l14At_any _ xs nm _ (HU.out.fr (by repeat (first | (with_reducible exact Fr.refl _) | (with_reducible assumption) | (with_reducible refine Fr.drewN ?_ _) | (with_reducible refine Fr.drew ?_) | (with_reducible refine Fr.alloc ?_ _) | (with_reducible refine Fr.setCell ?_ (by (first | (with_reducible assumption) | omega | (simp only [World.size_alloc, World.size_setCell, World.size_drew, World.heap_drewN]; omega) | (simp; done) | (simp; omega))) _) | (with_reducible refine Fr.trans ?_ (by with_reducible assumption)))))).mono ?_
  rintro e w2 ⟨rfl, hf2⟩
  rw [HK.out]
  have BD := BD.fr hf2; have BA := BA.fr hf2; have BR := BR.fr hf2
  clear FD FA FRR
  have FD := BD.facts; have FA := BA.facts; have FRR := BR.facts
  have z2 := hf2.size
  go_wp2_with fail
  generalize (⟨#[]⟩ ++ tx : ByteArray) = s at HO ⊢
  refine (l14Put_any _ xs ⟨nm, s, 0⟩ _ ⟨_, rfl, HU.out.fr (by repeat (first | (with_reducible exact Fr.refl _) | (with_reducible assumption) | (with_reducible refine Fr.drewN ?_ _) | (with_reducible refine Fr.drew ?_) | (with_reducible refine Fr.alloc ?_ _) | (with_reducible refine Fr.setCell ?_ (by (first | (with_reducible assumption) | omega | (simp only [World.size_alloc, World.size_setCell, World.size_drew, World.heap_drewN]; omega) | (simp; done) | (simp; omega))) _) | (with_reducible refine Fr.trans ?_ (by with_reducible assumption))))⟩ (by omega)).mono ?_
  rintro e w3 ⟨ao3, cap3, rfl, hl3, hf3⟩
  obtain ⟨lo3, hlo3⟩ : ∃ x, x = w2.heap.size + 1 + 1 := ⟨_, rfl⟩
  obtain ⟨hi3, hhi3⟩ : ∃ x, x = w3.heap.size := ⟨_, rfl⟩
  (try simp only [World.size_setCell, World.size_alloc] at hl3)
  rw [← hlo3, ← hhi3] at hl3
  obtain ⟨ys, hys⟩ : ∃ l, putF xs ⟨nm, s, 0⟩ = l := ⟨_, rfl⟩
  rw [hys] at HO hl3
  rw [hys]
  clear hys
  have HW3 := Lib.hid hl3
  clear hl3
  have B8 : Box w3 (w2.heap.size + 1) #[.slice none 0 0] 46 := (Box.new' (by simp)).fr hf3
  have hfx : Fr w2 w3 := by repeat (first | (with_reducible exact Fr.refl _) | (with_reducible assumption) | (with_reducible refine Fr.drewN ?_ _) | (with_reducible refine Fr.drew ?_) | (with_reducible refine Fr.alloc ?_ _) | (with_reducible refine Fr.setCell ?_ (by (first | (with_reducible assumption) | omega | (simp only [World.size_alloc, World.size_setCell, World.size_drew, World.heap_drewN]; omega) | (simp; done) | (simp; omega))) _) | (with_reducible refine Fr.trans ?_ (by with_reducible assumption)))
  have BD := BD.fr hfx; have BA := BA.fr hfx; have BR := BR.fr hfx
  clear FD FA FRR
  have FD := BD.facts; have FA := BA.facts; have FRR := BR.facts; have F8 := B8.facts
  have z3 := hfx.size
  go_wp2_with fail
  refine (specDiskOk_any _ ys _ (FilesW.rd (lo := lo3) (hi := hi3) (by change OwW _ _ _ _ _ _ _ _; (repeat (first | (with_reducible refine OwW.drewN ?_ _) | (with_reducible refine OwW.drew ?_) | (with_reducible refine OwW.alloc ?_ _) | (with_reducible refine OwW.set ?_ (by (first | (with_reducible assumption) | omega | (simp only [World.size_alloc, World.size_setCell, World.size_drew, World.heap_drewN]; omega) | (simp; done) | (simp; omega))) _) | (exact HW3.out)))))).mono ?_
  rintro e w4 ⟨rfl, hf4⟩
  cases hd2 : diskB ys
  · have HB : Hid (doB xs ⟨1, nm, tx, to⟩ = false) := (doB_some HD.out HF.out HO.out).trans hd2
    have HL := Lib.hid (doL_no HB.out)
    clear hd2
    have BRs : Box w4 (w.heap.size + 1 + 1) #[.slice none 0 0] 46 := (box_far BR (by omega) _).fr hf4
    have B8s : Box w4 (w2.heap.size + 1) #[.slice ao3 ys.length cap3] 46 := (B8.set_to (by simp)).fr hf4
    clear FD FA FRR F8
    have FRR := BRs.facts
    have F8 := B8s.facts
    have z4 := hf4.size
    (try simp only [World.size_setCell] at z4)
    go_wp2_with fail
    all_goals
      rw [HL.out, HB.out]
      refine bodyPost_ret (v := .tuple #[.agg #[.slice none 0 0], .bool false]) (by simp [results, Try.results109, go_sem, *]) rfl ⟨none, 0, rfl, FilesW.nil _ _ _, by repeat (first | (with_reducible exact Fr.refl _) | (with_reducible assumption) | (with_reducible refine Fr.drewN ?_ _) | (with_reducible refine Fr.drew ?_) | (with_reducible refine Fr.alloc ?_ _) | (with_reducible refine Fr.setCell ?_ (by (first | (with_reducible assumption) | omega | (simp only [World.size_alloc, World.size_setCell, World.size_drew, World.heap_drewN]; omega) | (simp; done) | (simp; omega))) _) | (with_reducible refine Fr.trans ?_ (by with_reducible assumption)))⟩
  · have HB : Hid (doB xs ⟨1, nm, tx, to⟩ = true) := (doB_some HD.out HF.out HO.out).trans hd2
    have HL := Lib.hid (doL_some HD.out HF.out HO.out hd2)
    clear hd2
    have BRs : Box w4 (w.heap.size + 1 + 1) #[.slice none 0 0] 46 := (box_far BR (by omega) _).fr hf4
    have B8s : Box w4 (w2.heap.size + 1) #[.slice ao3 ys.length cap3] 46 := (B8.set_to (by simp)).fr hf4
    clear FD FA FRR F8
    have FRR := BRs.facts
    have F8 := B8s.facts
    have z4 := hf4.size
    (try simp only [World.size_setCell] at z4)
    go_wp2_with fail
    rw [HL.out, HB.out]
    refine bodyPost_ret (v := .tuple #[.agg #[.slice ao3 ys.length cap3], .bool true]) (by simp [results, Try.results109, go_sem, *]) rfl ⟨ao3, cap3, rfl, ?_, by repeat (first | (with_reducible exact Fr.refl _) | (with_reducible assumption) | (with_reducible refine Fr.drewN ?_ _) | (with_reducible refine Fr.drew ?_) | (with_reducible refine Fr.alloc ?_ _) | (with_reducible refine Fr.setCell ?_ (by (first | (with_reducible assumption) | omega | (simp only [World.size_alloc, World.size_setCell, World.size_drew, World.heap_drewN]; omega) | (simp; done) | (simp; omega))) _) | (with_reducible refine Fr.trans ?_ (by with_reducible assumption)))⟩
    have HW4 : FilesW w4 lo3 hi3 (.slice ao3 ys.length cap3) ys := OwW.fr (by change OwW _ _ _ _ _ _ _ _; (repeat (first | (with_reducible refine OwW.drewN ?_ _) | (with_reducible refine OwW.drew ?_) | (with_reducible refine OwW.alloc ?_ _) | (with_reducible refine OwW.set ?_ (by (first | (with_reducible assumption) | omega | (simp only [World.size_alloc, World.size_setCell, World.size_drew, World.heap_drewN]; omega) | (simp; done) | (simp; omega))) _) | (exact HW3.out)))) hf4
    refine OwW.mono (lo := lo3) (hi := hi3) ?_ (by omega) (by (try simp only [World.size_setCell]); omega)
    change OwW _ _ _ _ _ _ _ _; (repeat (first | (with_reducible refine OwW.drewN ?_ _) | (with_reducible refine OwW.drew ?_) | (with_reducible refine OwW.alloc ?_ _) | (with_reducible refine OwW.set ?_ (by (first | (with_reducible assumption) | omega | (simp only [World.size_alloc, World.size_setCell, World.size_drew, World.heap_drewN]; omega) | (simp; done) | (simp; omega))) _) | (exact HW4)))
set_option maxHeartbeats 4000000 in
set_option maxRecDepth 100000 in
theorem sda_add (xs : List FileR) (nm tx to : ByteArray) (hn : xs.length ≤ 1048576) (ha : tx.size ≤ 1048576) (a0 : Option Addr) (b0 o0 c0 : Nat) (w : World) (HU : Hid (FilesR w (.slice a0 xs.length c0) xs)) (F0 : Hid (FilesAt w xs a0 b0 o0)) (HD : Hid (diskB xs = true)) (h1 : nameB nm = true) (h3 : to.toList.isEmpty = true) (j : Nat) (hj : j < xs.length) (hhit : fIx xs nm = (j : Int)) : SDA xs 1 nm tx to a0 c0 w := by
  unfold SDA
  have HF : Hid (fitsB ⟨1, nm, tx, to⟩ = true) := by show _ = _; unfold fitsB; simp [h1, h3]
  have HFI := Lib.hid (fun j (hj : j < xs.length) => diskB_file HD.out hj)
  have hlen := diskB_len HD.out
  have HK : Hid (fIx xs nm = (j : Int)) := hhit
  obtain ⟨x, hx⟩ : ∃ x, fileAt xs j = x := ⟨_, rfl⟩
  have HX := Lib.hid hx
  have HAX : Hid (∀ q tx to, actX xs ⟨q, nm, tx, to⟩ = x) := fun q tx to => by unfold actX; simp only []; rw [hhit, Int.toNat_natCast]; exact hx
  obtain ⟨hx1, hx2, hx3⟩ := HFI.out j hj
  rw [hx] at hx1 hx2 hx3
  have hneg : ¬ fIx xs nm < 0 := by rw [hhit]; omega
  have HNG := Lib.hid hneg
  clear hx hhit hneg
  have HO : Hid (outA xs ⟨1, nm, tx, to⟩ = some (putF xs ⟨x.f0, x.f1 ++ tx, x.f2⟩)) := by show _ = _; unfold outA addF; simp only []; rw [if_pos trivial, if_neg HNG.out, HAX.out]
  go_enter Try.func109, Try.ntmps109
  go_wp2_with fail
  refine (specDiskOk_any _ xs _ (HU.out.fr (by repeat (first | (with_reducible exact Fr.refl _) | (with_reducible assumption) | (with_reducible refine Fr.drewN ?_ _) | (with_reducible refine Fr.drew ?_) | (with_reducible refine Fr.alloc ?_ _) | (with_reducible refine Fr.setCell ?_ (by (first | (with_reducible assumption) | omega | (simp only [World.size_alloc, World.size_setCell, World.size_drew, World.heap_drewN]; omega) | (simp; done) | (simp; omega))) _) | (with_reducible refine Fr.trans ?_ (by with_reducible assumption)))))).mono ?_
  rintro e w1 ⟨rfl, hf1⟩
  have BD : Box w1 w.heap.size #[.slice a0 xs.length c0] 46 := (((Box.new _ _ _).alloc _).alloc _).fr hf1
  have BA : Box w1 (w.heap.size + 1) #[.int .i64 1, .string nm, .string tx, .string to] 145 := ((Box.new' (w := w.alloc (.cells #[.slice a0 xs.length c0] 46)) (by simp)).alloc _).fr hf1
  have BR : Box w1 (w.heap.size + 1 + 1) #[.slice none 0 0] 46 := (Box.new' (w := (w.alloc (.cells #[.slice a0 xs.length c0] 46)).alloc (.cells #[.int .i64 1, .string nm, .string tx, .string to] 145)) (by simp)).fr hf1
  have FD := BD.facts; have FA := BA.facts; have FRR := BR.facts
  have z1 := hf1.size; (try simp only [World.size_alloc, World.size_setCell, World.size_drew] at z1)
  rw [HD.out]
  go_wp2_with (go_at_call 169; refine (l14Name_any _ _).mono ?_; rintro e w9 ⟨rfl, rfl⟩)
  refine (l14At_any _ xs nm _ (HU.out.fr (by repeat (first | (with_reducible exact Fr.refl _) | (with_reducible assumption) | (with_reducible refine Fr.drewN ?_ _) | (with_reducible refine Fr.drew ?_) | (with_reducible refine Fr.alloc ?_ _) | (with_reducible refine Fr.setCell ?_ (by (first | (with_reducible assumption) | omega | (simp only [World.size_alloc, World.size_setCell, World.size_drew, World.heap_drewN]; omega) | (simp; done) | (simp; omega))) _) | (with_reducible refine Fr.trans ?_ (by with_reducible assumption)))))).mono ?_
  rintro e w2 ⟨rfl, hf2⟩
  rw [HK.out]
  have BD := BD.fr hf2; have BA := BA.fr hf2; have BR := BR.fr hf2
  clear FD FA FRR
  have FD := BD.facts; have FA := BA.facts; have FRR := BR.facts
  have z2 := hf2.size
  obtain ⟨rfl, hb0, f0⟩ := F0.out (by omega)
  have fk := f0 j hj
  rw [HX.out] at fk
  obtain ⟨g0, g1, g2⟩ := fk
  have hf02 : Fr w w2 := by repeat (first | (with_reducible exact Fr.refl _) | (with_reducible assumption) | (with_reducible refine Fr.drewN ?_ _) | (with_reducible refine Fr.drew ?_) | (with_reducible refine Fr.alloc ?_ _) | (with_reducible refine Fr.setCell ?_ (by (first | (with_reducible assumption) | omega | (simp only [World.size_alloc, World.size_setCell, World.size_drew, World.heap_drewN]; omega) | (simp; done) | (simp; omega))) _) | (with_reducible refine Fr.trans ?_ (by with_reducible assumption)))
  have q0 := (hf02.cell (p := ⟨b0, _, none⟩) hb0).trans g0
  have q1 := (hf02.cell (p := ⟨b0, _, none⟩) hb0).trans g1
  have q2 := (hf02.cell (p := ⟨b0, _, none⟩) hb0).trans g2
  have hb2 : b0 < w2.heap.size := Nat.lt_of_lt_of_le hb0 hf02.size
  clear g0 g1 g2 f0
  go_wp2_with fail
  generalize x.f1 ++ tx = s at HO ⊢
  refine (l14Put_any _ xs ⟨x.f0, s, x.f2⟩ _ ⟨_, rfl, HU.out.fr (by repeat (first | (with_reducible exact Fr.refl _) | (with_reducible assumption) | (with_reducible refine Fr.drewN ?_ _) | (with_reducible refine Fr.drew ?_) | (with_reducible refine Fr.alloc ?_ _) | (with_reducible refine Fr.setCell ?_ (by (first | (with_reducible assumption) | omega | (simp only [World.size_alloc, World.size_setCell, World.size_drew, World.heap_drewN]; omega) | (simp; done) | (simp; omega))) _) | (with_reducible refine Fr.trans ?_ (by with_reducible assumption))))⟩ (by omega)).mono ?_
  rintro e w3 ⟨ao3, cap3, rfl, hl3, hf3⟩
  obtain ⟨lo3, hlo3⟩ : ∃ x, x = w2.heap.size + 1 + 1 := ⟨_, rfl⟩
  obtain ⟨hi3, hhi3⟩ : ∃ x, x = w3.heap.size := ⟨_, rfl⟩
  (try simp only [World.size_setCell, World.size_alloc] at hl3)
  rw [← hlo3, ← hhi3] at hl3
  obtain ⟨ys, hys⟩ : ∃ l, putF xs ⟨x.f0, s, x.f2⟩ = l := ⟨_, rfl⟩
  rw [hys] at HO hl3
  rw [hys]
  clear hys
  have HW3 := Lib.hid hl3
  clear hl3
  have B8 : Box w3 (w2.heap.size + 1) #[.slice none 0 0] 46 := (Box.new' (by simp)).fr hf3
  have hfx : Fr w2 w3 := by repeat (first | (with_reducible exact Fr.refl _) | (with_reducible assumption) | (with_reducible refine Fr.drewN ?_ _) | (with_reducible refine Fr.drew ?_) | (with_reducible refine Fr.alloc ?_ _) | (with_reducible refine Fr.setCell ?_ (by (first | (with_reducible assumption) | omega | (simp only [World.size_alloc, World.size_setCell, World.size_drew, World.heap_drewN]; omega) | (simp; done) | (simp; omega))) _) | (with_reducible refine Fr.trans ?_ (by with_reducible assumption)))
  have BD := BD.fr hfx; have BA := BA.fr hfx; have BR := BR.fr hfx
  clear FD FA FRR
  have FD := BD.facts; have FA := BA.facts; have FRR := BR.facts; have F8 := B8.facts
  have z3 := hfx.size
  go_wp2_with fail
  refine (specDiskOk_any _ ys _ (FilesW.rd (lo := lo3) (hi := hi3) (by change OwW _ _ _ _ _ _ _ _; (repeat (first | (with_reducible refine OwW.drewN ?_ _) | (with_reducible refine OwW.drew ?_) | (with_reducible refine OwW.alloc ?_ _) | (with_reducible refine OwW.set ?_ (by (first | (with_reducible assumption) | omega | (simp only [World.size_alloc, World.size_setCell, World.size_drew, World.heap_drewN]; omega) | (simp; done) | (simp; omega))) _) | (exact HW3.out)))))).mono ?_
  rintro e w4 ⟨rfl, hf4⟩
  cases hd2 : diskB ys
  · have HB : Hid (doB xs ⟨1, nm, tx, to⟩ = false) := (doB_some HD.out HF.out HO.out).trans hd2
    have HL := Lib.hid (doL_no HB.out)
    clear hd2
    have BRs : Box w4 (w.heap.size + 1 + 1) #[.slice none 0 0] 46 := (box_far BR (by omega) _).fr hf4
    have B8s : Box w4 (w2.heap.size + 1) #[.slice ao3 ys.length cap3] 46 := (B8.set_to (by simp)).fr hf4
    clear FD FA FRR F8
    have FRR := BRs.facts
    have F8 := B8s.facts
    have z4 := hf4.size
    (try simp only [World.size_setCell] at z4)
    go_wp2_with fail
    all_goals
      rw [HL.out, HB.out]
      refine bodyPost_ret (v := .tuple #[.agg #[.slice none 0 0], .bool false]) (by simp [results, Try.results109, go_sem, *]) rfl ⟨none, 0, rfl, FilesW.nil _ _ _, by repeat (first | (with_reducible exact Fr.refl _) | (with_reducible assumption) | (with_reducible refine Fr.drewN ?_ _) | (with_reducible refine Fr.drew ?_) | (with_reducible refine Fr.alloc ?_ _) | (with_reducible refine Fr.setCell ?_ (by (first | (with_reducible assumption) | omega | (simp only [World.size_alloc, World.size_setCell, World.size_drew, World.heap_drewN]; omega) | (simp; done) | (simp; omega))) _) | (with_reducible refine Fr.trans ?_ (by with_reducible assumption)))⟩
  · have HB : Hid (doB xs ⟨1, nm, tx, to⟩ = true) := (doB_some HD.out HF.out HO.out).trans hd2
    have HL := Lib.hid (doL_some HD.out HF.out HO.out hd2)
    clear hd2
    have BRs : Box w4 (w.heap.size + 1 + 1) #[.slice none 0 0] 46 := (box_far BR (by omega) _).fr hf4
    have B8s : Box w4 (w2.heap.size + 1) #[.slice ao3 ys.length cap3] 46 := (B8.set_to (by simp)).fr hf4
    clear FD FA FRR F8
    have FRR := BRs.facts
    have F8 := B8s.facts
    have z4 := hf4.size
    (try simp only [World.size_setCell] at z4)
    go_wp2_with fail
    rw [HL.out, HB.out]
    refine bodyPost_ret (v := .tuple #[.agg #[.slice ao3 ys.length cap3], .bool true]) (by simp [results, Try.results109, go_sem, *]) rfl ⟨ao3, cap3, rfl, ?_, by repeat (first | (with_reducible exact Fr.refl _) | (with_reducible assumption) | (with_reducible refine Fr.drewN ?_ _) | (with_reducible refine Fr.drew ?_) | (with_reducible refine Fr.alloc ?_ _) | (with_reducible refine Fr.setCell ?_ (by (first | (with_reducible assumption) | omega | (simp only [World.size_alloc, World.size_setCell, World.size_drew, World.heap_drewN]; omega) | (simp; done) | (simp; omega))) _) | (with_reducible refine Fr.trans ?_ (by with_reducible assumption)))⟩
    have HW4 : FilesW w4 lo3 hi3 (.slice ao3 ys.length cap3) ys := OwW.fr (by change OwW _ _ _ _ _ _ _ _; (repeat (first | (with_reducible refine OwW.drewN ?_ _) | (with_reducible refine OwW.drew ?_) | (with_reducible refine OwW.alloc ?_ _) | (with_reducible refine OwW.set ?_ (by (first | (with_reducible assumption) | omega | (simp only [World.size_alloc, World.size_setCell, World.size_drew, World.heap_drewN]; omega) | (simp; done) | (simp; omega))) _) | (exact HW3.out)))) hf4
    refine OwW.mono (lo := lo3) (hi := hi3) ?_ (by omega) (by (try simp only [World.size_setCell]); omega)
    change OwW _ _ _ _ _ _ _ _; (repeat (first | (with_reducible refine OwW.drewN ?_ _) | (with_reducible refine OwW.drew ?_) | (with_reducible refine OwW.alloc ?_ _) | (with_reducible refine OwW.set ?_ (by (first | (with_reducible assumption) | omega | (simp only [World.size_alloc, World.size_setCell, World.size_drew, World.heap_drewN]; omega) | (simp; done) | (simp; omega))) _) | (exact HW4)))
/-! The reference's DoAct, part 3. Condition: bounds on what is read, which the laws pay. (Printed by mk_act.py.) -/
set_option maxHeartbeats 4000000 in
set_option maxRecDepth 100000 in
theorem sda_keep (xs : List FileR) (nm tx to : ByteArray) (hn : xs.length ≤ 1048576) (ha : tx.size ≤ 1048576) (a0 : Option Addr) (b0 o0 c0 : Nat) (w : World) (HU : Hid (FilesR w (.slice a0 xs.length c0) xs)) (F0 : Hid (FilesAt w xs a0 b0 o0)) (HD : Hid (diskB xs = true)) (h1 : nameB nm = true) (h3 : to.toList.isEmpty = true) (ht : tx.toList.isEmpty = true) (j : Nat) (hj : j < xs.length) (hhit : fIx xs nm = (j : Int)) : SDA xs 2 nm tx to a0 c0 w := by
  unfold SDA
  have HF : Hid (fitsB ⟨2, nm, tx, to⟩ = true) := by show _ = _; unfold fitsB; simp [h1, h3, ht]
  have HFI := Lib.hid (fun j (hj : j < xs.length) => diskB_file HD.out hj)
  have hlen := diskB_len HD.out
  have HK : Hid (fIx xs nm = (j : Int)) := hhit
  obtain ⟨x, hx⟩ : ∃ x, fileAt xs j = x := ⟨_, rfl⟩
  have HX := Lib.hid hx
  have HAX : Hid (∀ q tx to, actX xs ⟨q, nm, tx, to⟩ = x) := fun q tx to => by unfold actX; simp only []; rw [hhit, Int.toNat_natCast]; exact hx
  obtain ⟨hx1, hx2, hx3⟩ := HFI.out j hj
  rw [hx] at hx1 hx2 hx3
  have hneg : ¬ fIx xs nm < 0 := by rw [hhit]; omega
  have HNG := Lib.hid hneg
  clear hx hhit hneg
  have HO : Hid (outA xs ⟨2, nm, tx, to⟩ = some (putF xs ⟨x.f0, x.f1, x.f1.size⟩)) := by show _ = _; unfold outA; simp only []; rw [if_neg (by omega), if_neg HNG.out, if_pos trivial, HAX.out]
  go_enter Try.func109, Try.ntmps109
  go_wp2_with fail
  refine (specDiskOk_any _ xs _ (HU.out.fr (by repeat (first | (with_reducible exact Fr.refl _) | (with_reducible assumption) | (with_reducible refine Fr.drewN ?_ _) | (with_reducible refine Fr.drew ?_) | (with_reducible refine Fr.alloc ?_ _) | (with_reducible refine Fr.setCell ?_ (by (first | (with_reducible assumption) | omega | (simp only [World.size_alloc, World.size_setCell, World.size_drew, World.heap_drewN]; omega) | (simp; done) | (simp; omega))) _) | (with_reducible refine Fr.trans ?_ (by with_reducible assumption)))))).mono ?_
  rintro e w1 ⟨rfl, hf1⟩
  have BD : Box w1 w.heap.size #[.slice a0 xs.length c0] 46 := (((Box.new _ _ _).alloc _).alloc _).fr hf1
  have BA : Box w1 (w.heap.size + 1) #[.int .i64 2, .string nm, .string tx, .string to] 145 := ((Box.new' (w := w.alloc (.cells #[.slice a0 xs.length c0] 46)) (by simp)).alloc _).fr hf1
  have BR : Box w1 (w.heap.size + 1 + 1) #[.slice none 0 0] 46 := (Box.new' (w := (w.alloc (.cells #[.slice a0 xs.length c0] 46)).alloc (.cells #[.int .i64 2, .string nm, .string tx, .string to] 145)) (by simp)).fr hf1
  have FD := BD.facts; have FA := BA.facts; have FRR := BR.facts
  have z1 := hf1.size; (try simp only [World.size_alloc, World.size_setCell, World.size_drew] at z1)
  rw [HD.out]
  go_wp2_with (go_at_call 169; refine (l14Name_any _ _).mono ?_; rintro e w9 ⟨rfl, rfl⟩)
  refine (l14At_any _ xs nm _ (HU.out.fr (by repeat (first | (with_reducible exact Fr.refl _) | (with_reducible assumption) | (with_reducible refine Fr.drewN ?_ _) | (with_reducible refine Fr.drew ?_) | (with_reducible refine Fr.alloc ?_ _) | (with_reducible refine Fr.setCell ?_ (by (first | (with_reducible assumption) | omega | (simp only [World.size_alloc, World.size_setCell, World.size_drew, World.heap_drewN]; omega) | (simp; done) | (simp; omega))) _) | (with_reducible refine Fr.trans ?_ (by with_reducible assumption)))))).mono ?_
  rintro e w2 ⟨rfl, hf2⟩
  rw [HK.out]
  have BD := BD.fr hf2; have BA := BA.fr hf2; have BR := BR.fr hf2
  clear FD FA FRR
  have FD := BD.facts; have FA := BA.facts; have FRR := BR.facts
  have z2 := hf2.size
  obtain ⟨rfl, hb0, f0⟩ := F0.out (by omega)
  have fk := f0 j hj
  rw [HX.out] at fk
  obtain ⟨g0, g1, g2⟩ := fk
  have hf02 : Fr w w2 := by repeat (first | (with_reducible exact Fr.refl _) | (with_reducible assumption) | (with_reducible refine Fr.drewN ?_ _) | (with_reducible refine Fr.drew ?_) | (with_reducible refine Fr.alloc ?_ _) | (with_reducible refine Fr.setCell ?_ (by (first | (with_reducible assumption) | omega | (simp only [World.size_alloc, World.size_setCell, World.size_drew, World.heap_drewN]; omega) | (simp; done) | (simp; omega))) _) | (with_reducible refine Fr.trans ?_ (by with_reducible assumption)))
  have q0 := (hf02.cell (p := ⟨b0, _, none⟩) hb0).trans g0
  have q1 := (hf02.cell (p := ⟨b0, _, none⟩) hb0).trans g1
  have q2 := (hf02.cell (p := ⟨b0, _, none⟩) hb0).trans g2
  have hb2 : b0 < w2.heap.size := Nat.lt_of_lt_of_le hb0 hf02.size
  clear g0 g1 g2 f0
  go_wp2_with fail
  refine (l14Put_any _ xs ⟨x.f0, x.f1, x.f1.size⟩ _ ⟨_, rfl, HU.out.fr (by repeat (first | (with_reducible exact Fr.refl _) | (with_reducible assumption) | (with_reducible refine Fr.drewN ?_ _) | (with_reducible refine Fr.drew ?_) | (with_reducible refine Fr.alloc ?_ _) | (with_reducible refine Fr.setCell ?_ (by (first | (with_reducible assumption) | omega | (simp only [World.size_alloc, World.size_setCell, World.size_drew, World.heap_drewN]; omega) | (simp; done) | (simp; omega))) _) | (with_reducible refine Fr.trans ?_ (by with_reducible assumption))))⟩ (by omega)).mono ?_
  rintro e w3 ⟨ao3, cap3, rfl, hl3, hf3⟩
  obtain ⟨lo3, hlo3⟩ : ∃ x, x = w2.heap.size + 1 + 1 := ⟨_, rfl⟩
  obtain ⟨hi3, hhi3⟩ : ∃ x, x = w3.heap.size := ⟨_, rfl⟩
  (try simp only [World.size_setCell, World.size_alloc] at hl3)
  rw [← hlo3, ← hhi3] at hl3
  obtain ⟨ys, hys⟩ : ∃ l, putF xs ⟨x.f0, x.f1, (x.f1.size : Int)⟩ = l := ⟨_, rfl⟩
  rw [hys] at HO hl3
  rw [hys]
  clear hys
  have HW3 := Lib.hid hl3
  clear hl3
  have B8 : Box w3 (w2.heap.size + 1) #[.slice none 0 0] 46 := (Box.new' (by simp)).fr hf3
  have hfx : Fr w2 w3 := by repeat (first | (with_reducible exact Fr.refl _) | (with_reducible assumption) | (with_reducible refine Fr.drewN ?_ _) | (with_reducible refine Fr.drew ?_) | (with_reducible refine Fr.alloc ?_ _) | (with_reducible refine Fr.setCell ?_ (by (first | (with_reducible assumption) | omega | (simp only [World.size_alloc, World.size_setCell, World.size_drew, World.heap_drewN]; omega) | (simp; done) | (simp; omega))) _) | (with_reducible refine Fr.trans ?_ (by with_reducible assumption)))
  have BD := BD.fr hfx; have BA := BA.fr hfx; have BR := BR.fr hfx
  clear FD FA FRR
  have FD := BD.facts; have FA := BA.facts; have FRR := BR.facts; have F8 := B8.facts
  have z3 := hfx.size
  go_wp2_with fail
  refine (specDiskOk_any _ ys _ (FilesW.rd (lo := lo3) (hi := hi3) (by change OwW _ _ _ _ _ _ _ _; (repeat (first | (with_reducible refine OwW.drewN ?_ _) | (with_reducible refine OwW.drew ?_) | (with_reducible refine OwW.alloc ?_ _) | (with_reducible refine OwW.set ?_ (by (first | (with_reducible assumption) | omega | (simp only [World.size_alloc, World.size_setCell, World.size_drew, World.heap_drewN]; omega) | (simp; done) | (simp; omega))) _) | (exact HW3.out)))))).mono ?_
  rintro e w4 ⟨rfl, hf4⟩
  cases hd2 : diskB ys
  · have HB : Hid (doB xs ⟨2, nm, tx, to⟩ = false) := (doB_some HD.out HF.out HO.out).trans hd2
    have HL := Lib.hid (doL_no HB.out)
    clear hd2
    have BRs : Box w4 (w.heap.size + 1 + 1) #[.slice none 0 0] 46 := (box_far BR (by omega) _).fr hf4
    have B8s : Box w4 (w2.heap.size + 1) #[.slice ao3 ys.length cap3] 46 := (B8.set_to (by simp)).fr hf4
    clear FD FA FRR F8
    have FRR := BRs.facts
    have F8 := B8s.facts
    have z4 := hf4.size
    (try simp only [World.size_setCell] at z4)
    go_wp2_with fail
    all_goals
      rw [HL.out, HB.out]
      refine bodyPost_ret (v := .tuple #[.agg #[.slice none 0 0], .bool false]) (by simp [results, Try.results109, go_sem, *]) rfl ⟨none, 0, rfl, FilesW.nil _ _ _, by repeat (first | (with_reducible exact Fr.refl _) | (with_reducible assumption) | (with_reducible refine Fr.drewN ?_ _) | (with_reducible refine Fr.drew ?_) | (with_reducible refine Fr.alloc ?_ _) | (with_reducible refine Fr.setCell ?_ (by (first | (with_reducible assumption) | omega | (simp only [World.size_alloc, World.size_setCell, World.size_drew, World.heap_drewN]; omega) | (simp; done) | (simp; omega))) _) | (with_reducible refine Fr.trans ?_ (by with_reducible assumption)))⟩
  · have HB : Hid (doB xs ⟨2, nm, tx, to⟩ = true) := (doB_some HD.out HF.out HO.out).trans hd2
    have HL := Lib.hid (doL_some HD.out HF.out HO.out hd2)
    clear hd2
    have BRs : Box w4 (w.heap.size + 1 + 1) #[.slice none 0 0] 46 := (box_far BR (by omega) _).fr hf4
    have B8s : Box w4 (w2.heap.size + 1) #[.slice ao3 ys.length cap3] 46 := (B8.set_to (by simp)).fr hf4
    clear FD FA FRR F8
    have FRR := BRs.facts
    have F8 := B8s.facts
    have z4 := hf4.size
    (try simp only [World.size_setCell] at z4)
    go_wp2_with fail
    rw [HL.out, HB.out]
    refine bodyPost_ret (v := .tuple #[.agg #[.slice ao3 ys.length cap3], .bool true]) (by simp [results, Try.results109, go_sem, *]) rfl ⟨ao3, cap3, rfl, ?_, by repeat (first | (with_reducible exact Fr.refl _) | (with_reducible assumption) | (with_reducible refine Fr.drewN ?_ _) | (with_reducible refine Fr.drew ?_) | (with_reducible refine Fr.alloc ?_ _) | (with_reducible refine Fr.setCell ?_ (by (first | (with_reducible assumption) | omega | (simp only [World.size_alloc, World.size_setCell, World.size_drew, World.heap_drewN]; omega) | (simp; done) | (simp; omega))) _) | (with_reducible refine Fr.trans ?_ (by with_reducible assumption)))⟩
    have HW4 : FilesW w4 lo3 hi3 (.slice ao3 ys.length cap3) ys := OwW.fr (by change OwW _ _ _ _ _ _ _ _; (repeat (first | (with_reducible refine OwW.drewN ?_ _) | (with_reducible refine OwW.drew ?_) | (with_reducible refine OwW.alloc ?_ _) | (with_reducible refine OwW.set ?_ (by (first | (with_reducible assumption) | omega | (simp only [World.size_alloc, World.size_setCell, World.size_drew, World.heap_drewN]; omega) | (simp; done) | (simp; omega))) _) | (exact HW3.out)))) hf4
    refine OwW.mono (lo := lo3) (hi := hi3) ?_ (by omega) (by (try simp only [World.size_setCell]); omega)
    change OwW _ _ _ _ _ _ _ _; (repeat (first | (with_reducible refine OwW.drewN ?_ _) | (with_reducible refine OwW.drew ?_) | (with_reducible refine OwW.alloc ?_ _) | (with_reducible refine OwW.set ?_ (by (first | (with_reducible assumption) | omega | (simp only [World.size_alloc, World.size_setCell, World.size_drew, World.heap_drewN]; omega) | (simp; done) | (simp; omega))) _) | (exact HW4)))
set_option maxHeartbeats 4000000 in
set_option maxRecDepth 100000 in
theorem sda_drop (xs : List FileR) (nm tx to : ByteArray) (hn : xs.length ≤ 1048576) (ha : tx.size ≤ 1048576) (a0 : Option Addr) (b0 o0 c0 : Nat) (w : World) (HU : Hid (FilesR w (.slice a0 xs.length c0) xs)) (F0 : Hid (FilesAt w xs a0 b0 o0)) (HD : Hid (diskB xs = true)) (h1 : nameB nm = true) (h3 : to.toList.isEmpty = true) (ht : tx.toList.isEmpty = true) (j : Nat) (hj : j < xs.length) (hhit : fIx xs nm = (j : Int)) : SDA xs 4 nm tx to a0 c0 w := by
  unfold SDA
  have HF : Hid (fitsB ⟨4, nm, tx, to⟩ = true) := by show _ = _; unfold fitsB; simp [h1, h3, ht]
  have HFI := Lib.hid (fun j (hj : j < xs.length) => diskB_file HD.out hj)
  have hlen := diskB_len HD.out
  have HK : Hid (fIx xs nm = (j : Int)) := hhit
  obtain ⟨x, hx⟩ : ∃ x, fileAt xs j = x := ⟨_, rfl⟩
  have HX := Lib.hid hx
  have HAX : Hid (∀ q tx to, actX xs ⟨q, nm, tx, to⟩ = x) := fun q tx to => by unfold actX; simp only []; rw [hhit, Int.toNat_natCast]; exact hx
  obtain ⟨hx1, hx2, hx3⟩ := HFI.out j hj
  rw [hx] at hx1 hx2 hx3
  have hneg : ¬ fIx xs nm < 0 := by rw [hhit]; omega
  have HNG := Lib.hid hneg
  clear hx hhit hneg
  have HO : Hid (outA xs ⟨4, nm, tx, to⟩ = some (woF xs nm)) := by show _ = _; unfold outA; simp only []; rw [if_neg (by omega), if_neg HNG.out, if_neg (by omega), if_neg (by omega)]
  go_enter Try.func109, Try.ntmps109
  go_wp2_with fail
  refine (specDiskOk_any _ xs _ (HU.out.fr (by repeat (first | (with_reducible exact Fr.refl _) | (with_reducible assumption) | (with_reducible refine Fr.drewN ?_ _) | (with_reducible refine Fr.drew ?_) | (with_reducible refine Fr.alloc ?_ _) | (with_reducible refine Fr.setCell ?_ (by (first | (with_reducible assumption) | omega | (simp only [World.size_alloc, World.size_setCell, World.size_drew, World.heap_drewN]; omega) | (simp; done) | (simp; omega))) _) | (with_reducible refine Fr.trans ?_ (by with_reducible assumption)))))).mono ?_
  rintro e w1 ⟨rfl, hf1⟩
  have BD : Box w1 w.heap.size #[.slice a0 xs.length c0] 46 := (((Box.new _ _ _).alloc _).alloc _).fr hf1
  have BA : Box w1 (w.heap.size + 1) #[.int .i64 4, .string nm, .string tx, .string to] 145 := ((Box.new' (w := w.alloc (.cells #[.slice a0 xs.length c0] 46)) (by simp)).alloc _).fr hf1
  have BR : Box w1 (w.heap.size + 1 + 1) #[.slice none 0 0] 46 := (Box.new' (w := (w.alloc (.cells #[.slice a0 xs.length c0] 46)).alloc (.cells #[.int .i64 4, .string nm, .string tx, .string to] 145)) (by simp)).fr hf1
  have FD := BD.facts; have FA := BA.facts; have FRR := BR.facts
  have z1 := hf1.size; (try simp only [World.size_alloc, World.size_setCell, World.size_drew] at z1)
  rw [HD.out]
  go_wp2_with (go_at_call 169; refine (l14Name_any _ _).mono ?_; rintro e w9 ⟨rfl, rfl⟩)
  refine (l14At_any _ xs nm _ (HU.out.fr (by repeat (first | (with_reducible exact Fr.refl _) | (with_reducible assumption) | (with_reducible refine Fr.drewN ?_ _) | (with_reducible refine Fr.drew ?_) | (with_reducible refine Fr.alloc ?_ _) | (with_reducible refine Fr.setCell ?_ (by (first | (with_reducible assumption) | omega | (simp only [World.size_alloc, World.size_setCell, World.size_drew, World.heap_drewN]; omega) | (simp; done) | (simp; omega))) _) | (with_reducible refine Fr.trans ?_ (by with_reducible assumption)))))).mono ?_
  rintro e w2 ⟨rfl, hf2⟩
  rw [HK.out]
  have BD := BD.fr hf2; have BA := BA.fr hf2; have BR := BR.fr hf2
  clear FD FA FRR
  have FD := BD.facts; have FA := BA.facts; have FRR := BR.facts
  have z2 := hf2.size
  obtain ⟨rfl, hb0, f0⟩ := F0.out (by omega)
  have fk := f0 j hj
  rw [HX.out] at fk
  obtain ⟨g0, g1, g2⟩ := fk
  have hf02 : Fr w w2 := by repeat (first | (with_reducible exact Fr.refl _) | (with_reducible assumption) | (with_reducible refine Fr.drewN ?_ _) | (with_reducible refine Fr.drew ?_) | (with_reducible refine Fr.alloc ?_ _) | (with_reducible refine Fr.setCell ?_ (by (first | (with_reducible assumption) | omega | (simp only [World.size_alloc, World.size_setCell, World.size_drew, World.heap_drewN]; omega) | (simp; done) | (simp; omega))) _) | (with_reducible refine Fr.trans ?_ (by with_reducible assumption)))
  have q0 := (hf02.cell (p := ⟨b0, _, none⟩) hb0).trans g0
  have q1 := (hf02.cell (p := ⟨b0, _, none⟩) hb0).trans g1
  have q2 := (hf02.cell (p := ⟨b0, _, none⟩) hb0).trans g2
  have hb2 : b0 < w2.heap.size := Nat.lt_of_lt_of_le hb0 hf02.size
  clear g0 g1 g2 f0
  go_wp2_with fail
  refine (l14Without_any _ xs nm _ ⟨_, rfl, HU.out.fr (by repeat (first | (with_reducible exact Fr.refl _) | (with_reducible assumption) | (with_reducible refine Fr.drewN ?_ _) | (with_reducible refine Fr.drew ?_) | (with_reducible refine Fr.alloc ?_ _) | (with_reducible refine Fr.setCell ?_ (by (first | (with_reducible assumption) | omega | (simp only [World.size_alloc, World.size_setCell, World.size_drew, World.heap_drewN]; omega) | (simp; done) | (simp; omega))) _) | (with_reducible refine Fr.trans ?_ (by with_reducible assumption))))⟩ (by omega)).mono ?_
  rintro e w3 ⟨ao3, cap3, rfl, hl3, hf3⟩
  obtain ⟨lo3, hlo3⟩ : ∃ x, x = w2.heap.size + 1 + 1 := ⟨_, rfl⟩
  obtain ⟨hi3, hhi3⟩ : ∃ x, x = w3.heap.size := ⟨_, rfl⟩
  (try simp only [World.size_setCell, World.size_alloc] at hl3)
  rw [← hlo3, ← hhi3] at hl3
  obtain ⟨ys, hys⟩ : ∃ l, woF xs nm = l := ⟨_, rfl⟩
  rw [hys] at HO hl3
  rw [hys]
  clear hys
  have HW3 := Lib.hid hl3
  clear hl3
  have B8 : Box w3 (w2.heap.size + 1) #[.slice none 0 0] 46 := (Box.new' (by simp)).fr hf3
  have hfx : Fr w2 w3 := by repeat (first | (with_reducible exact Fr.refl _) | (with_reducible assumption) | (with_reducible refine Fr.drewN ?_ _) | (with_reducible refine Fr.drew ?_) | (with_reducible refine Fr.alloc ?_ _) | (with_reducible refine Fr.setCell ?_ (by (first | (with_reducible assumption) | omega | (simp only [World.size_alloc, World.size_setCell, World.size_drew, World.heap_drewN]; omega) | (simp; done) | (simp; omega))) _) | (with_reducible refine Fr.trans ?_ (by with_reducible assumption)))
  have BD := BD.fr hfx; have BA := BA.fr hfx; have BR := BR.fr hfx
  clear FD FA FRR
  have FD := BD.facts; have FA := BA.facts; have FRR := BR.facts; have F8 := B8.facts
  have z3 := hfx.size
  go_wp2_with fail
  refine (specDiskOk_any _ ys _ (FilesW.rd (lo := lo3) (hi := hi3) (by change OwW _ _ _ _ _ _ _ _; (repeat (first | (with_reducible refine OwW.drewN ?_ _) | (with_reducible refine OwW.drew ?_) | (with_reducible refine OwW.alloc ?_ _) | (with_reducible refine OwW.set ?_ (by (first | (with_reducible assumption) | omega | (simp only [World.size_alloc, World.size_setCell, World.size_drew, World.heap_drewN]; omega) | (simp; done) | (simp; omega))) _) | (exact HW3.out)))))).mono ?_
  rintro e w4 ⟨rfl, hf4⟩
  cases hd2 : diskB ys
  · have HB : Hid (doB xs ⟨4, nm, tx, to⟩ = false) := (doB_some HD.out HF.out HO.out).trans hd2
    have HL := Lib.hid (doL_no HB.out)
    clear hd2
    have BRs : Box w4 (w.heap.size + 1 + 1) #[.slice none 0 0] 46 := (box_far BR (by omega) _).fr hf4
    have B8s : Box w4 (w2.heap.size + 1) #[.slice ao3 ys.length cap3] 46 := (B8.set_to (by simp)).fr hf4
    clear FD FA FRR F8
    have FRR := BRs.facts
    have F8 := B8s.facts
    have z4 := hf4.size
    (try simp only [World.size_setCell] at z4)
    go_wp2_with fail
    all_goals
      rw [HL.out, HB.out]
      refine bodyPost_ret (v := .tuple #[.agg #[.slice none 0 0], .bool false]) (by simp [results, Try.results109, go_sem, *]) rfl ⟨none, 0, rfl, FilesW.nil _ _ _, by repeat (first | (with_reducible exact Fr.refl _) | (with_reducible assumption) | (with_reducible refine Fr.drewN ?_ _) | (with_reducible refine Fr.drew ?_) | (with_reducible refine Fr.alloc ?_ _) | (with_reducible refine Fr.setCell ?_ (by (first | (with_reducible assumption) | omega | (simp only [World.size_alloc, World.size_setCell, World.size_drew, World.heap_drewN]; omega) | (simp; done) | (simp; omega))) _) | (with_reducible refine Fr.trans ?_ (by with_reducible assumption)))⟩
  · have HB : Hid (doB xs ⟨4, nm, tx, to⟩ = true) := (doB_some HD.out HF.out HO.out).trans hd2
    have HL := Lib.hid (doL_some HD.out HF.out HO.out hd2)
    clear hd2
    have BRs : Box w4 (w.heap.size + 1 + 1) #[.slice none 0 0] 46 := (box_far BR (by omega) _).fr hf4
    have B8s : Box w4 (w2.heap.size + 1) #[.slice ao3 ys.length cap3] 46 := (B8.set_to (by simp)).fr hf4
    clear FD FA FRR F8
    have FRR := BRs.facts
    have F8 := B8s.facts
    have z4 := hf4.size
    (try simp only [World.size_setCell] at z4)
    go_wp2_with fail
    rw [HL.out, HB.out]
    refine bodyPost_ret (v := .tuple #[.agg #[.slice ao3 ys.length cap3], .bool true]) (by simp [results, Try.results109, go_sem, *]) rfl ⟨ao3, cap3, rfl, ?_, by repeat (first | (with_reducible exact Fr.refl _) | (with_reducible assumption) | (with_reducible refine Fr.drewN ?_ _) | (with_reducible refine Fr.drew ?_) | (with_reducible refine Fr.alloc ?_ _) | (with_reducible refine Fr.setCell ?_ (by (first | (with_reducible assumption) | omega | (simp only [World.size_alloc, World.size_setCell, World.size_drew, World.heap_drewN]; omega) | (simp; done) | (simp; omega))) _) | (with_reducible refine Fr.trans ?_ (by with_reducible assumption)))⟩
    have HW4 : FilesW w4 lo3 hi3 (.slice ao3 ys.length cap3) ys := OwW.fr (by change OwW _ _ _ _ _ _ _ _; (repeat (first | (with_reducible refine OwW.drewN ?_ _) | (with_reducible refine OwW.drew ?_) | (with_reducible refine OwW.alloc ?_ _) | (with_reducible refine OwW.set ?_ (by (first | (with_reducible assumption) | omega | (simp only [World.size_alloc, World.size_setCell, World.size_drew, World.heap_drewN]; omega) | (simp; done) | (simp; omega))) _) | (exact HW3.out)))) hf4
    refine OwW.mono (lo := lo3) (hi := hi3) ?_ (by omega) (by (try simp only [World.size_setCell]); omega)
    change OwW _ _ _ _ _ _ _ _; (repeat (first | (with_reducible refine OwW.drewN ?_ _) | (with_reducible refine OwW.drew ?_) | (with_reducible refine OwW.alloc ?_ _) | (with_reducible refine OwW.set ?_ (by (first | (with_reducible assumption) | omega | (simp only [World.size_alloc, World.size_setCell, World.size_drew, World.heap_drewN]; omega) | (simp; done) | (simp; omega))) _) | (exact HW4)))
/-! The reference's DoAct, part 4. Condition: bounds on what is read, which the laws pay. (Printed by mk_act.py.) -/
set_option maxHeartbeats 4000000 in
set_option maxRecDepth 100000 in
theorem sda_mvn (xs : List FileR) (nm tx to : ByteArray) (hn : xs.length ≤ 1048576) (ha : tx.size ≤ 1048576) (a0 : Option Addr) (b0 o0 c0 : Nat) (w : World) (HU : Hid (FilesR w (.slice a0 xs.length c0) xs)) (F0 : Hid (FilesAt w xs a0 b0 o0)) (HD : Hid (diskB xs = true)) (h1 : nameB nm = true) (ht : tx.toList.isEmpty = true) (j : Nat) (hj : j < xs.length) (hhit : fIx xs nm = (j : Int)) (hkp : (fileAt xs j).f2 = ((fileAt xs j).f1.size : Int)) (h6 : (to.toList == nm.toList) = false) (h5 : nameB to = false) : SDA xs 3 nm tx to a0 c0 w := by
  unfold SDA
  have HB : Hid (doB xs ⟨3, nm, tx, to⟩ = false) := doB_fits (by unfold fitsB; simp [h5])
  have HL := Lib.hid (doL_no HB.out)
  have HFI := Lib.hid (fun j (hj : j < xs.length) => diskB_file HD.out hj)
  have hlen := diskB_len HD.out
  have HK : Hid (fIx xs nm = (j : Int)) := hhit
  obtain ⟨x, hx⟩ : ∃ x, fileAt xs j = x := ⟨_, rfl⟩
  have HX := Lib.hid hx
  have HAX : Hid (∀ q tx to, actX xs ⟨q, nm, tx, to⟩ = x) := fun q tx to => by unfold actX; simp only []; rw [hhit, Int.toNat_natCast]; exact hx
  obtain ⟨hx1, hx2, hx3⟩ := HFI.out j hj
  rw [hx] at hx1 hx2 hx3
  have hneg : ¬ fIx xs nm < 0 := by rw [hhit]; omega
  have HNG := Lib.hid hneg
  clear hx hhit hneg
  have hkq : ¬ x.f2 < (x.f1.size : Int) := by rw [HX.out] at hkp; omega
  clear hkp
  go_enter Try.func109, Try.ntmps109
  go_wp2_with fail
  refine (specDiskOk_any _ xs _ (HU.out.fr (by repeat (first | (with_reducible exact Fr.refl _) | (with_reducible assumption) | (with_reducible refine Fr.drewN ?_ _) | (with_reducible refine Fr.drew ?_) | (with_reducible refine Fr.alloc ?_ _) | (with_reducible refine Fr.setCell ?_ (by (first | (with_reducible assumption) | omega | (simp only [World.size_alloc, World.size_setCell, World.size_drew, World.heap_drewN]; omega) | (simp; done) | (simp; omega))) _) | (with_reducible refine Fr.trans ?_ (by with_reducible assumption)))))).mono ?_
  rintro e w1 ⟨rfl, hf1⟩
  have BD : Box w1 w.heap.size #[.slice a0 xs.length c0] 46 := (((Box.new _ _ _).alloc _).alloc _).fr hf1
  have BA : Box w1 (w.heap.size + 1) #[.int .i64 3, .string nm, .string tx, .string to] 145 := ((Box.new' (w := w.alloc (.cells #[.slice a0 xs.length c0] 46)) (by simp)).alloc _).fr hf1
  have BR : Box w1 (w.heap.size + 1 + 1) #[.slice none 0 0] 46 := (Box.new' (w := (w.alloc (.cells #[.slice a0 xs.length c0] 46)).alloc (.cells #[.int .i64 3, .string nm, .string tx, .string to] 145)) (by simp)).fr hf1
  have FD := BD.facts; have FA := BA.facts; have FRR := BR.facts
  have z1 := hf1.size; (try simp only [World.size_alloc, World.size_setCell, World.size_drew] at z1)
  rw [HD.out]
  go_wp2_with (go_at_call 169; refine (l14Name_any _ _).mono ?_; rintro e w9 ⟨rfl, rfl⟩)
  refine (l14At_any _ xs nm _ (HU.out.fr (by repeat (first | (with_reducible exact Fr.refl _) | (with_reducible assumption) | (with_reducible refine Fr.drewN ?_ _) | (with_reducible refine Fr.drew ?_) | (with_reducible refine Fr.alloc ?_ _) | (with_reducible refine Fr.setCell ?_ (by (first | (with_reducible assumption) | omega | (simp only [World.size_alloc, World.size_setCell, World.size_drew, World.heap_drewN]; omega) | (simp; done) | (simp; omega))) _) | (with_reducible refine Fr.trans ?_ (by with_reducible assumption)))))).mono ?_
  rintro e w2 ⟨rfl, hf2⟩
  rw [HK.out]
  have BD := BD.fr hf2; have BA := BA.fr hf2; have BR := BR.fr hf2
  clear FD FA FRR
  have FD := BD.facts; have FA := BA.facts; have FRR := BR.facts
  have z2 := hf2.size
  obtain ⟨rfl, hb0, f0⟩ := F0.out (by omega)
  have fk := f0 j hj
  rw [HX.out] at fk
  obtain ⟨g0, g1, g2⟩ := fk
  have hf02 : Fr w w2 := by repeat (first | (with_reducible exact Fr.refl _) | (with_reducible assumption) | (with_reducible refine Fr.drewN ?_ _) | (with_reducible refine Fr.drew ?_) | (with_reducible refine Fr.alloc ?_ _) | (with_reducible refine Fr.setCell ?_ (by (first | (with_reducible assumption) | omega | (simp only [World.size_alloc, World.size_setCell, World.size_drew, World.heap_drewN]; omega) | (simp; done) | (simp; omega))) _) | (with_reducible refine Fr.trans ?_ (by with_reducible assumption)))
  have q0 := (hf02.cell (p := ⟨b0, _, none⟩) hb0).trans g0
  have q1 := (hf02.cell (p := ⟨b0, _, none⟩) hb0).trans g1
  have q2 := (hf02.cell (p := ⟨b0, _, none⟩) hb0).trans g2
  have hb2 : b0 < w2.heap.size := Nat.lt_of_lt_of_le hb0 hf02.size
  clear g0 g1 g2 f0
  go_wp2_with (go_at_call 169; refine (l14Name_any _ _).mono ?_; rintro e w9 ⟨rfl, rfl⟩)
  all_goals
    rw [HL.out, HB.out]
    refine bodyPost_ret (v := .tuple #[.agg #[.slice none 0 0], .bool false]) (by simp [results, Try.results109, go_sem, *]) rfl ⟨none, 0, rfl, FilesW.nil _ _ _, by repeat (first | (with_reducible exact Fr.refl _) | (with_reducible assumption) | (with_reducible refine Fr.drewN ?_ _) | (with_reducible refine Fr.drew ?_) | (with_reducible refine Fr.alloc ?_ _) | (with_reducible refine Fr.setCell ?_ (by (first | (with_reducible assumption) | omega | (simp only [World.size_alloc, World.size_setCell, World.size_drew, World.heap_drewN]; omega) | (simp; done) | (simp; omega))) _) | (with_reducible refine Fr.trans ?_ (by with_reducible assumption)))⟩
set_option maxHeartbeats 4000000 in
set_option maxRecDepth 100000 in
theorem sda_mvs (xs : List FileR) (nm tx to : ByteArray) (hn : xs.length ≤ 1048576) (ha : tx.size ≤ 1048576) (a0 : Option Addr) (b0 o0 c0 : Nat) (w : World) (HU : Hid (FilesR w (.slice a0 xs.length c0) xs)) (F0 : Hid (FilesAt w xs a0 b0 o0)) (HD : Hid (diskB xs = true)) (h1 : nameB nm = true) (ht : tx.toList.isEmpty = true) (j : Nat) (hj : j < xs.length) (hhit : fIx xs nm = (j : Int)) (hkp : (fileAt xs j).f2 = ((fileAt xs j).f1.size : Int)) (h6 : (to.toList == nm.toList) = true) : SDA xs 3 nm tx to a0 c0 w := by
  unfold SDA
  have HB : Hid (doB xs ⟨3, nm, tx, to⟩ = false) := doB_fits (by unfold fitsB; simp [h6])
  have HL := Lib.hid (doL_no HB.out)
  have HFI := Lib.hid (fun j (hj : j < xs.length) => diskB_file HD.out hj)
  have hlen := diskB_len HD.out
  have HK : Hid (fIx xs nm = (j : Int)) := hhit
  obtain ⟨x, hx⟩ : ∃ x, fileAt xs j = x := ⟨_, rfl⟩
  have HX := Lib.hid hx
  have HAX : Hid (∀ q tx to, actX xs ⟨q, nm, tx, to⟩ = x) := fun q tx to => by unfold actX; simp only []; rw [hhit, Int.toNat_natCast]; exact hx
  obtain ⟨hx1, hx2, hx3⟩ := HFI.out j hj
  rw [hx] at hx1 hx2 hx3
  have hneg : ¬ fIx xs nm < 0 := by rw [hhit]; omega
  have HNG := Lib.hid hneg
  clear hx hhit hneg
  have hkq : ¬ x.f2 < (x.f1.size : Int) := by rw [HX.out] at hkp; omega
  clear hkp
  go_enter Try.func109, Try.ntmps109
  go_wp2_with fail
  refine (specDiskOk_any _ xs _ (HU.out.fr (by repeat (first | (with_reducible exact Fr.refl _) | (with_reducible assumption) | (with_reducible refine Fr.drewN ?_ _) | (with_reducible refine Fr.drew ?_) | (with_reducible refine Fr.alloc ?_ _) | (with_reducible refine Fr.setCell ?_ (by (first | (with_reducible assumption) | omega | (simp only [World.size_alloc, World.size_setCell, World.size_drew, World.heap_drewN]; omega) | (simp; done) | (simp; omega))) _) | (with_reducible refine Fr.trans ?_ (by with_reducible assumption)))))).mono ?_
  rintro e w1 ⟨rfl, hf1⟩
  have BD : Box w1 w.heap.size #[.slice a0 xs.length c0] 46 := (((Box.new _ _ _).alloc _).alloc _).fr hf1
  have BA : Box w1 (w.heap.size + 1) #[.int .i64 3, .string nm, .string tx, .string to] 145 := ((Box.new' (w := w.alloc (.cells #[.slice a0 xs.length c0] 46)) (by simp)).alloc _).fr hf1
  have BR : Box w1 (w.heap.size + 1 + 1) #[.slice none 0 0] 46 := (Box.new' (w := (w.alloc (.cells #[.slice a0 xs.length c0] 46)).alloc (.cells #[.int .i64 3, .string nm, .string tx, .string to] 145)) (by simp)).fr hf1
  have FD := BD.facts; have FA := BA.facts; have FRR := BR.facts
  have z1 := hf1.size; (try simp only [World.size_alloc, World.size_setCell, World.size_drew] at z1)
  rw [HD.out]
  go_wp2_with (go_at_call 169; refine (l14Name_any _ _).mono ?_; rintro e w9 ⟨rfl, rfl⟩)
  refine (l14At_any _ xs nm _ (HU.out.fr (by repeat (first | (with_reducible exact Fr.refl _) | (with_reducible assumption) | (with_reducible refine Fr.drewN ?_ _) | (with_reducible refine Fr.drew ?_) | (with_reducible refine Fr.alloc ?_ _) | (with_reducible refine Fr.setCell ?_ (by (first | (with_reducible assumption) | omega | (simp only [World.size_alloc, World.size_setCell, World.size_drew, World.heap_drewN]; omega) | (simp; done) | (simp; omega))) _) | (with_reducible refine Fr.trans ?_ (by with_reducible assumption)))))).mono ?_
  rintro e w2 ⟨rfl, hf2⟩
  rw [HK.out]
  have BD := BD.fr hf2; have BA := BA.fr hf2; have BR := BR.fr hf2
  clear FD FA FRR
  have FD := BD.facts; have FA := BA.facts; have FRR := BR.facts
  have z2 := hf2.size
  obtain ⟨rfl, hb0, f0⟩ := F0.out (by omega)
  have fk := f0 j hj
  rw [HX.out] at fk
  obtain ⟨g0, g1, g2⟩ := fk
  have hf02 : Fr w w2 := by repeat (first | (with_reducible exact Fr.refl _) | (with_reducible assumption) | (with_reducible refine Fr.drewN ?_ _) | (with_reducible refine Fr.drew ?_) | (with_reducible refine Fr.alloc ?_ _) | (with_reducible refine Fr.setCell ?_ (by (first | (with_reducible assumption) | omega | (simp only [World.size_alloc, World.size_setCell, World.size_drew, World.heap_drewN]; omega) | (simp; done) | (simp; omega))) _) | (with_reducible refine Fr.trans ?_ (by with_reducible assumption)))
  have q0 := (hf02.cell (p := ⟨b0, _, none⟩) hb0).trans g0
  have q1 := (hf02.cell (p := ⟨b0, _, none⟩) hb0).trans g1
  have q2 := (hf02.cell (p := ⟨b0, _, none⟩) hb0).trans g2
  have hb2 : b0 < w2.heap.size := Nat.lt_of_lt_of_le hb0 hf02.size
  clear g0 g1 g2 f0
  go_wp2_with (go_at_call 169; refine (l14Name_any _ _).mono ?_; rintro e w9 ⟨rfl, rfl⟩)
  all_goals
    rw [HL.out, HB.out]
    refine bodyPost_ret (v := .tuple #[.agg #[.slice none 0 0], .bool false]) (by simp [results, Try.results109, go_sem, *]) rfl ⟨none, 0, rfl, FilesW.nil _ _ _, by repeat (first | (with_reducible exact Fr.refl _) | (with_reducible assumption) | (with_reducible refine Fr.drewN ?_ _) | (with_reducible refine Fr.drew ?_) | (with_reducible refine Fr.alloc ?_ _) | (with_reducible refine Fr.setCell ?_ (by (first | (with_reducible assumption) | omega | (simp only [World.size_alloc, World.size_setCell, World.size_drew, World.heap_drewN]; omega) | (simp; done) | (simp; omega))) _) | (with_reducible refine Fr.trans ?_ (by with_reducible assumption)))⟩
set_option maxHeartbeats 4000000 in
set_option maxRecDepth 100000 in
theorem sda_mvk (xs : List FileR) (nm tx to : ByteArray) (hn : xs.length ≤ 1048576) (ha : tx.size ≤ 1048576) (a0 : Option Addr) (b0 o0 c0 : Nat) (w : World) (HU : Hid (FilesR w (.slice a0 xs.length c0) xs)) (F0 : Hid (FilesAt w xs a0 b0 o0)) (HD : Hid (diskB xs = true)) (h1 : nameB nm = true) (ht : tx.toList.isEmpty = true) (j : Nat) (hj : j < xs.length) (hhit : fIx xs nm = (j : Int)) (hkp : ¬ (fileAt xs j).f2 = ((fileAt xs j).f1.size : Int)) : SDA xs 3 nm tx to a0 c0 w := by
  unfold SDA
  have HFI := Lib.hid (fun j (hj : j < xs.length) => diskB_file HD.out hj)
  have hlen := diskB_len HD.out
  have HK : Hid (fIx xs nm = (j : Int)) := hhit
  obtain ⟨x, hx⟩ : ∃ x, fileAt xs j = x := ⟨_, rfl⟩
  have HX := Lib.hid hx
  have HAX : Hid (∀ q tx to, actX xs ⟨q, nm, tx, to⟩ = x) := fun q tx to => by unfold actX; simp only []; rw [hhit, Int.toNat_natCast]; exact hx
  obtain ⟨hx1, hx2, hx3⟩ := HFI.out j hj
  rw [hx] at hx1 hx2 hx3
  have hneg : ¬ fIx xs nm < 0 := by rw [hhit]; omega
  have HNG := Lib.hid hneg
  clear hx hhit hneg
  rw [HX.out] at hkp
  have HB : Hid (doB xs ⟨3, nm, tx, to⟩ = false) := doB_none (by unfold outA; simp only []; rw [if_neg (by omega), if_neg HNG.out, if_neg (by omega), if_pos trivial, HAX.out, if_neg hkp])
  have HL := Lib.hid (doL_no HB.out)
  have hkq : x.f2 < (x.f1.size : Int) := by omega
  clear hkp
  go_enter Try.func109, Try.ntmps109
  go_wp2_with fail
  refine (specDiskOk_any _ xs _ (HU.out.fr (by repeat (first | (with_reducible exact Fr.refl _) | (with_reducible assumption) | (with_reducible refine Fr.drewN ?_ _) | (with_reducible refine Fr.drew ?_) | (with_reducible refine Fr.alloc ?_ _) | (with_reducible refine Fr.setCell ?_ (by (first | (with_reducible assumption) | omega | (simp only [World.size_alloc, World.size_setCell, World.size_drew, World.heap_drewN]; omega) | (simp; done) | (simp; omega))) _) | (with_reducible refine Fr.trans ?_ (by with_reducible assumption)))))).mono ?_
  rintro e w1 ⟨rfl, hf1⟩
  have BD : Box w1 w.heap.size #[.slice a0 xs.length c0] 46 := (((Box.new _ _ _).alloc _).alloc _).fr hf1
  have BA : Box w1 (w.heap.size + 1) #[.int .i64 3, .string nm, .string tx, .string to] 145 := ((Box.new' (w := w.alloc (.cells #[.slice a0 xs.length c0] 46)) (by simp)).alloc _).fr hf1
  have BR : Box w1 (w.heap.size + 1 + 1) #[.slice none 0 0] 46 := (Box.new' (w := (w.alloc (.cells #[.slice a0 xs.length c0] 46)).alloc (.cells #[.int .i64 3, .string nm, .string tx, .string to] 145)) (by simp)).fr hf1
  have FD := BD.facts; have FA := BA.facts; have FRR := BR.facts
  have z1 := hf1.size; (try simp only [World.size_alloc, World.size_setCell, World.size_drew] at z1)
  rw [HD.out]
  go_wp2_with (go_at_call 169; refine (l14Name_any _ _).mono ?_; rintro e w9 ⟨rfl, rfl⟩)
  refine (l14At_any _ xs nm _ (HU.out.fr (by repeat (first | (with_reducible exact Fr.refl _) | (with_reducible assumption) | (with_reducible refine Fr.drewN ?_ _) | (with_reducible refine Fr.drew ?_) | (with_reducible refine Fr.alloc ?_ _) | (with_reducible refine Fr.setCell ?_ (by (first | (with_reducible assumption) | omega | (simp only [World.size_alloc, World.size_setCell, World.size_drew, World.heap_drewN]; omega) | (simp; done) | (simp; omega))) _) | (with_reducible refine Fr.trans ?_ (by with_reducible assumption)))))).mono ?_
  rintro e w2 ⟨rfl, hf2⟩
  rw [HK.out]
  have BD := BD.fr hf2; have BA := BA.fr hf2; have BR := BR.fr hf2
  clear FD FA FRR
  have FD := BD.facts; have FA := BA.facts; have FRR := BR.facts
  have z2 := hf2.size
  obtain ⟨rfl, hb0, f0⟩ := F0.out (by omega)
  have fk := f0 j hj
  rw [HX.out] at fk
  obtain ⟨g0, g1, g2⟩ := fk
  have hf02 : Fr w w2 := by repeat (first | (with_reducible exact Fr.refl _) | (with_reducible assumption) | (with_reducible refine Fr.drewN ?_ _) | (with_reducible refine Fr.drew ?_) | (with_reducible refine Fr.alloc ?_ _) | (with_reducible refine Fr.setCell ?_ (by (first | (with_reducible assumption) | omega | (simp only [World.size_alloc, World.size_setCell, World.size_drew, World.heap_drewN]; omega) | (simp; done) | (simp; omega))) _) | (with_reducible refine Fr.trans ?_ (by with_reducible assumption)))
  have q0 := (hf02.cell (p := ⟨b0, _, none⟩) hb0).trans g0
  have q1 := (hf02.cell (p := ⟨b0, _, none⟩) hb0).trans g1
  have q2 := (hf02.cell (p := ⟨b0, _, none⟩) hb0).trans g2
  have hb2 : b0 < w2.heap.size := Nat.lt_of_lt_of_le hb0 hf02.size
  clear g0 g1 g2 f0
  go_wp2_with (go_at_call 169; refine (l14Name_any _ _).mono ?_; rintro e w9 ⟨rfl, rfl⟩)
  all_goals
    rw [HL.out, HB.out]
    refine bodyPost_ret (v := .tuple #[.agg #[.slice none 0 0], .bool false]) (by simp [results, Try.results109, go_sem, *]) rfl ⟨none, 0, rfl, FilesW.nil _ _ _, by repeat (first | (with_reducible exact Fr.refl _) | (with_reducible assumption) | (with_reducible refine Fr.drewN ?_ _) | (with_reducible refine Fr.drew ?_) | (with_reducible refine Fr.alloc ?_ _) | (with_reducible refine Fr.setCell ?_ (by (first | (with_reducible assumption) | omega | (simp only [World.size_alloc, World.size_setCell, World.size_drew, World.heap_drewN]; omega) | (simp; done) | (simp; omega))) _) | (with_reducible refine Fr.trans ?_ (by with_reducible assumption)))⟩
set_option maxHeartbeats 4000000 in
set_option maxRecDepth 100000 in
theorem sda_ot0 (xs : List FileR) (k : Int) (nm tx to : ByteArray) (hn : xs.length ≤ 1048576) (ha : tx.size ≤ 1048576) (a0 : Option Addr) (b0 o0 c0 : Nat) (w : World) (HU : Hid (FilesR w (.slice a0 xs.length c0) xs)) (F0 : Hid (FilesAt w xs a0 b0 o0)) (HD : Hid (diskB xs = true)) (h1 : nameB nm = true) (h3 : to.toList.isEmpty = true) (ht : tx.toList.isEmpty = true) (hkc : ¬ (1 ≤ k ∧ k ≤ 4)) (hmiss : fIx xs nm = -1) : SDA xs k nm tx to a0 c0 w := by
  unfold SDA
  have hz1 : ¬ k = 1 := by omega
  have hz2 : ¬ k = 2 := by omega
  have hz3 : ¬ k = 3 := by omega
  have hz4 : ¬ k = 4 := by omega
  have HB : Hid (doB xs ⟨k, nm, tx, to⟩ = false) := doB_fits (by unfold fitsB; simp only []; rw [decide_eq_false hkc]; rfl)
  have HL := Lib.hid (doL_no HB.out)
  clear hkc
  have HK : Hid (fIx xs nm = -1) := hmiss
  clear hmiss
  go_enter Try.func109, Try.ntmps109
  go_wp2_with fail
  refine (specDiskOk_any _ xs _ (HU.out.fr (by repeat (first | (with_reducible exact Fr.refl _) | (with_reducible assumption) | (with_reducible refine Fr.drewN ?_ _) | (with_reducible refine Fr.drew ?_) | (with_reducible refine Fr.alloc ?_ _) | (with_reducible refine Fr.setCell ?_ (by (first | (with_reducible assumption) | omega | (simp only [World.size_alloc, World.size_setCell, World.size_drew, World.heap_drewN]; omega) | (simp; done) | (simp; omega))) _) | (with_reducible refine Fr.trans ?_ (by with_reducible assumption)))))).mono ?_
  rintro e w1 ⟨rfl, hf1⟩
  have BD : Box w1 w.heap.size #[.slice a0 xs.length c0] 46 := (((Box.new _ _ _).alloc _).alloc _).fr hf1
  have BA : Box w1 (w.heap.size + 1) #[.int .i64 k, .string nm, .string tx, .string to] 145 := ((Box.new' (w := w.alloc (.cells #[.slice a0 xs.length c0] 46)) (by simp)).alloc _).fr hf1
  have BR : Box w1 (w.heap.size + 1 + 1) #[.slice none 0 0] 46 := (Box.new' (w := (w.alloc (.cells #[.slice a0 xs.length c0] 46)).alloc (.cells #[.int .i64 k, .string nm, .string tx, .string to] 145)) (by simp)).fr hf1
  have FD := BD.facts; have FA := BA.facts; have FRR := BR.facts
  have z1 := hf1.size; (try simp only [World.size_alloc, World.size_setCell, World.size_drew] at z1)
  rw [HD.out]
  go_wp2_with (go_at_call 169; refine (l14Name_any _ _).mono ?_; rintro e w9 ⟨rfl, rfl⟩)
  refine (l14At_any _ xs nm _ (HU.out.fr (by repeat (first | (with_reducible exact Fr.refl _) | (with_reducible assumption) | (with_reducible refine Fr.drewN ?_ _) | (with_reducible refine Fr.drew ?_) | (with_reducible refine Fr.alloc ?_ _) | (with_reducible refine Fr.setCell ?_ (by (first | (with_reducible assumption) | omega | (simp only [World.size_alloc, World.size_setCell, World.size_drew, World.heap_drewN]; omega) | (simp; done) | (simp; omega))) _) | (with_reducible refine Fr.trans ?_ (by with_reducible assumption)))))).mono ?_
  rintro e w2 ⟨rfl, hf2⟩
  rw [HK.out]
  have BD := BD.fr hf2; have BA := BA.fr hf2; have BR := BR.fr hf2
  clear FD FA FRR
  have FD := BD.facts; have FA := BA.facts; have FRR := BR.facts
  have z2 := hf2.size
  go_wp2_with fail
  all_goals
    rw [HL.out, HB.out]
    refine bodyPost_ret (v := .tuple #[.agg #[.slice none 0 0], .bool false]) (by simp [results, Try.results109, go_sem, *]) rfl ⟨none, 0, rfl, FilesW.nil _ _ _, by repeat (first | (with_reducible exact Fr.refl _) | (with_reducible assumption) | (with_reducible refine Fr.drewN ?_ _) | (with_reducible refine Fr.drew ?_) | (with_reducible refine Fr.alloc ?_ _) | (with_reducible refine Fr.setCell ?_ (by (first | (with_reducible assumption) | omega | (simp only [World.size_alloc, World.size_setCell, World.size_drew, World.heap_drewN]; omega) | (simp; done) | (simp; omega))) _) | (with_reducible refine Fr.trans ?_ (by with_reducible assumption)))⟩
set_option maxHeartbeats 4000000 in
set_option maxRecDepth 100000 in
theorem sda_ot (xs : List FileR) (k : Int) (nm tx to : ByteArray) (hn : xs.length ≤ 1048576) (ha : tx.size ≤ 1048576) (a0 : Option Addr) (b0 o0 c0 : Nat) (w : World) (HU : Hid (FilesR w (.slice a0 xs.length c0) xs)) (F0 : Hid (FilesAt w xs a0 b0 o0)) (HD : Hid (diskB xs = true)) (h1 : nameB nm = true) (h3 : to.toList.isEmpty = true) (ht : tx.toList.isEmpty = true) (hkc : ¬ (1 ≤ k ∧ k ≤ 4)) (j : Nat) (hj : j < xs.length) (hhit : fIx xs nm = (j : Int)) : SDA xs k nm tx to a0 c0 w := by
  unfold SDA
  have hz1 : ¬ k = 1 := by omega
  have hz2 : ¬ k = 2 := by omega
  have hz3 : ¬ k = 3 := by omega
  have hz4 : ¬ k = 4 := by omega
  have HB : Hid (doB xs ⟨k, nm, tx, to⟩ = false) := doB_fits (by unfold fitsB; simp only []; rw [decide_eq_false hkc]; rfl)
  have HL := Lib.hid (doL_no HB.out)
  clear hkc
  have HFI := Lib.hid (fun j (hj : j < xs.length) => diskB_file HD.out hj)
  have hlen := diskB_len HD.out
  have HK : Hid (fIx xs nm = (j : Int)) := hhit
  obtain ⟨x, hx⟩ : ∃ x, fileAt xs j = x := ⟨_, rfl⟩
  have HX := Lib.hid hx
  have HAX : Hid (∀ q tx to, actX xs ⟨q, nm, tx, to⟩ = x) := fun q tx to => by unfold actX; simp only []; rw [hhit, Int.toNat_natCast]; exact hx
  obtain ⟨hx1, hx2, hx3⟩ := HFI.out j hj
  rw [hx] at hx1 hx2 hx3
  have hneg : ¬ fIx xs nm < 0 := by rw [hhit]; omega
  have HNG := Lib.hid hneg
  clear hx hhit hneg
  go_enter Try.func109, Try.ntmps109
  go_wp2_with fail
  refine (specDiskOk_any _ xs _ (HU.out.fr (by repeat (first | (with_reducible exact Fr.refl _) | (with_reducible assumption) | (with_reducible refine Fr.drewN ?_ _) | (with_reducible refine Fr.drew ?_) | (with_reducible refine Fr.alloc ?_ _) | (with_reducible refine Fr.setCell ?_ (by (first | (with_reducible assumption) | omega | (simp only [World.size_alloc, World.size_setCell, World.size_drew, World.heap_drewN]; omega) | (simp; done) | (simp; omega))) _) | (with_reducible refine Fr.trans ?_ (by with_reducible assumption)))))).mono ?_
  rintro e w1 ⟨rfl, hf1⟩
  have BD : Box w1 w.heap.size #[.slice a0 xs.length c0] 46 := (((Box.new _ _ _).alloc _).alloc _).fr hf1
  have BA : Box w1 (w.heap.size + 1) #[.int .i64 k, .string nm, .string tx, .string to] 145 := ((Box.new' (w := w.alloc (.cells #[.slice a0 xs.length c0] 46)) (by simp)).alloc _).fr hf1
  have BR : Box w1 (w.heap.size + 1 + 1) #[.slice none 0 0] 46 := (Box.new' (w := (w.alloc (.cells #[.slice a0 xs.length c0] 46)).alloc (.cells #[.int .i64 k, .string nm, .string tx, .string to] 145)) (by simp)).fr hf1
  have FD := BD.facts; have FA := BA.facts; have FRR := BR.facts
  have z1 := hf1.size; (try simp only [World.size_alloc, World.size_setCell, World.size_drew] at z1)
  rw [HD.out]
  go_wp2_with (go_at_call 169; refine (l14Name_any _ _).mono ?_; rintro e w9 ⟨rfl, rfl⟩)
  refine (l14At_any _ xs nm _ (HU.out.fr (by repeat (first | (with_reducible exact Fr.refl _) | (with_reducible assumption) | (with_reducible refine Fr.drewN ?_ _) | (with_reducible refine Fr.drew ?_) | (with_reducible refine Fr.alloc ?_ _) | (with_reducible refine Fr.setCell ?_ (by (first | (with_reducible assumption) | omega | (simp only [World.size_alloc, World.size_setCell, World.size_drew, World.heap_drewN]; omega) | (simp; done) | (simp; omega))) _) | (with_reducible refine Fr.trans ?_ (by with_reducible assumption)))))).mono ?_
  rintro e w2 ⟨rfl, hf2⟩
  rw [HK.out]
  have BD := BD.fr hf2; have BA := BA.fr hf2; have BR := BR.fr hf2
  clear FD FA FRR
  have FD := BD.facts; have FA := BA.facts; have FRR := BR.facts
  have z2 := hf2.size
  obtain ⟨rfl, hb0, f0⟩ := F0.out (by omega)
  have fk := f0 j hj
  rw [HX.out] at fk
  obtain ⟨g0, g1, g2⟩ := fk
  have hf02 : Fr w w2 := by repeat (first | (with_reducible exact Fr.refl _) | (with_reducible assumption) | (with_reducible refine Fr.drewN ?_ _) | (with_reducible refine Fr.drew ?_) | (with_reducible refine Fr.alloc ?_ _) | (with_reducible refine Fr.setCell ?_ (by (first | (with_reducible assumption) | omega | (simp only [World.size_alloc, World.size_setCell, World.size_drew, World.heap_drewN]; omega) | (simp; done) | (simp; omega))) _) | (with_reducible refine Fr.trans ?_ (by with_reducible assumption)))
  have q0 := (hf02.cell (p := ⟨b0, _, none⟩) hb0).trans g0
  have q1 := (hf02.cell (p := ⟨b0, _, none⟩) hb0).trans g1
  have q2 := (hf02.cell (p := ⟨b0, _, none⟩) hb0).trans g2
  have hb2 : b0 < w2.heap.size := Nat.lt_of_lt_of_le hb0 hf02.size
  clear g0 g1 g2 f0
  go_wp2_with fail
  all_goals
    rw [HL.out, HB.out]
    refine bodyPost_ret (v := .tuple #[.agg #[.slice none 0 0], .bool false]) (by simp [results, Try.results109, go_sem, *]) rfl ⟨none, 0, rfl, FilesW.nil _ _ _, by repeat (first | (with_reducible exact Fr.refl _) | (with_reducible assumption) | (with_reducible refine Fr.drewN ?_ _) | (with_reducible refine Fr.drew ?_) | (with_reducible refine Fr.alloc ?_ _) | (with_reducible refine Fr.setCell ?_ (by (first | (with_reducible assumption) | omega | (simp only [World.size_alloc, World.size_setCell, World.size_drew, World.heap_drewN]; omega) | (simp; done) | (simp; omega))) _) | (with_reducible refine Fr.trans ?_ (by with_reducible assumption)))⟩
/-! The reference's DoAct, part 5. Condition: bounds on what is read, which the laws pay. (Printed by mk_act.py.) -/
set_option maxHeartbeats 4000000 in
set_option maxRecDepth 100000 in
theorem sda_mv (xs : List FileR) (nm tx to : ByteArray) (hn : xs.length ≤ 1048576) (ha : tx.size ≤ 1048576) (a0 : Option Addr) (b0 o0 c0 : Nat) (w : World) (HU : Hid (FilesR w (.slice a0 xs.length c0) xs)) (F0 : Hid (FilesAt w xs a0 b0 o0)) (HD : Hid (diskB xs = true)) (h1 : nameB nm = true) (ht : tx.toList.isEmpty = true) (j : Nat) (hj : j < xs.length) (hhit : fIx xs nm = (j : Int)) (hkp : (fileAt xs j).f2 = ((fileAt xs j).f1.size : Int)) (h6 : (to.toList == nm.toList) = false) (h5 : nameB to = true) : SDA xs 3 nm tx to a0 c0 w := by
  unfold SDA
  have HF : Hid (fitsB ⟨3, nm, tx, to⟩ = true) := by show _ = _; unfold fitsB; simp [h1, ht, h5, h6]
  have HFI := Lib.hid (fun j (hj : j < xs.length) => diskB_file HD.out hj)
  have hlen := diskB_len HD.out
  have HK : Hid (fIx xs nm = (j : Int)) := hhit
  obtain ⟨x, hx⟩ : ∃ x, fileAt xs j = x := ⟨_, rfl⟩
  have HX := Lib.hid hx
  have HAX : Hid (∀ q tx to, actX xs ⟨q, nm, tx, to⟩ = x) := fun q tx to => by unfold actX; simp only []; rw [hhit, Int.toNat_natCast]; exact hx
  obtain ⟨hx1, hx2, hx3⟩ := HFI.out j hj
  rw [hx] at hx1 hx2 hx3
  have hneg : ¬ fIx xs nm < 0 := by rw [hhit]; omega
  have HNG := Lib.hid hneg
  clear hx hhit hneg
  have hkq : ¬ x.f2 < (x.f1.size : Int) := by rw [HX.out] at hkp; omega
  have HO : Hid (outA xs ⟨3, nm, tx, to⟩ = some (putF (woF xs nm) ⟨to, x.f1, x.f2⟩)) := by show _ = _; unfold outA; simp only []; rw [if_neg (by omega), if_neg HNG.out, if_neg (by omega), if_pos trivial, HAX.out, if_pos (by rw [HX.out] at hkp; exact hkp)]
  clear hkp
  go_enter Try.func109, Try.ntmps109
  go_wp2_with fail
  refine (specDiskOk_any _ xs _ (HU.out.fr (by repeat (first | (with_reducible exact Fr.refl _) | (with_reducible assumption) | (with_reducible refine Fr.drewN ?_ _) | (with_reducible refine Fr.drew ?_) | (with_reducible refine Fr.alloc ?_ _) | (with_reducible refine Fr.setCell ?_ (by (first | (with_reducible assumption) | omega | (simp only [World.size_alloc, World.size_setCell, World.size_drew, World.heap_drewN]; omega) | (simp; done) | (simp; omega))) _) | (with_reducible refine Fr.trans ?_ (by with_reducible assumption)))))).mono ?_
  rintro e w1 ⟨rfl, hf1⟩
  have BD : Box w1 w.heap.size #[.slice a0 xs.length c0] 46 := (((Box.new _ _ _).alloc _).alloc _).fr hf1
  have BA : Box w1 (w.heap.size + 1) #[.int .i64 3, .string nm, .string tx, .string to] 145 := ((Box.new' (w := w.alloc (.cells #[.slice a0 xs.length c0] 46)) (by simp)).alloc _).fr hf1
  have BR : Box w1 (w.heap.size + 1 + 1) #[.slice none 0 0] 46 := (Box.new' (w := (w.alloc (.cells #[.slice a0 xs.length c0] 46)).alloc (.cells #[.int .i64 3, .string nm, .string tx, .string to] 145)) (by simp)).fr hf1
  have FD := BD.facts; have FA := BA.facts; have FRR := BR.facts
  have z1 := hf1.size; (try simp only [World.size_alloc, World.size_setCell, World.size_drew] at z1)
  rw [HD.out]
  go_wp2_with (go_at_call 169; refine (l14Name_any _ _).mono ?_; rintro e w9 ⟨rfl, rfl⟩)
  refine (l14At_any _ xs nm _ (HU.out.fr (by repeat (first | (with_reducible exact Fr.refl _) | (with_reducible assumption) | (with_reducible refine Fr.drewN ?_ _) | (with_reducible refine Fr.drew ?_) | (with_reducible refine Fr.alloc ?_ _) | (with_reducible refine Fr.setCell ?_ (by (first | (with_reducible assumption) | omega | (simp only [World.size_alloc, World.size_setCell, World.size_drew, World.heap_drewN]; omega) | (simp; done) | (simp; omega))) _) | (with_reducible refine Fr.trans ?_ (by with_reducible assumption)))))).mono ?_
  rintro e w2 ⟨rfl, hf2⟩
  rw [HK.out]
  have BD := BD.fr hf2; have BA := BA.fr hf2; have BR := BR.fr hf2
  clear FD FA FRR
  have FD := BD.facts; have FA := BA.facts; have FRR := BR.facts
  have z2 := hf2.size
  obtain ⟨rfl, hb0, f0⟩ := F0.out (by omega)
  have fk := f0 j hj
  rw [HX.out] at fk
  obtain ⟨g0, g1, g2⟩ := fk
  have hf02 : Fr w w2 := by repeat (first | (with_reducible exact Fr.refl _) | (with_reducible assumption) | (with_reducible refine Fr.drewN ?_ _) | (with_reducible refine Fr.drew ?_) | (with_reducible refine Fr.alloc ?_ _) | (with_reducible refine Fr.setCell ?_ (by (first | (with_reducible assumption) | omega | (simp only [World.size_alloc, World.size_setCell, World.size_drew, World.heap_drewN]; omega) | (simp; done) | (simp; omega))) _) | (with_reducible refine Fr.trans ?_ (by with_reducible assumption)))
  have q0 := (hf02.cell (p := ⟨b0, _, none⟩) hb0).trans g0
  have q1 := (hf02.cell (p := ⟨b0, _, none⟩) hb0).trans g1
  have q2 := (hf02.cell (p := ⟨b0, _, none⟩) hb0).trans g2
  have hb2 : b0 < w2.heap.size := Nat.lt_of_lt_of_le hb0 hf02.size
  clear g0 g1 g2 f0
  go_wp2_with (go_at_call 169; refine (l14Name_any _ _).mono ?_; rintro e w9 ⟨rfl, rfl⟩)
  have B7 : Box ((w2.alloc (.cells #[.string to, .string x.f1, .int .i64 x.f2] 147)).alloc (.cells #[.slice none 0 0] 46)) w2.heap.size #[.string to, .string x.f1, .int .i64 x.f2] 147 := (Box.new _ _ _).alloc _
  have B8 : Box ((w2.alloc (.cells #[.string to, .string x.f1, .int .i64 x.f2] 147)).alloc (.cells #[.slice none 0 0] 46)) (w2.heap.size + 1) #[.slice none 0 0] 46 := Box.new' (by simp)
  have hfw : Fr w2 ((w2.alloc (.cells #[.string to, .string x.f1, .int .i64 x.f2] 147)).alloc (.cells #[.slice none 0 0] 46)) := by repeat (first | (with_reducible exact Fr.refl _) | (with_reducible assumption) | (with_reducible refine Fr.drewN ?_ _) | (with_reducible refine Fr.drew ?_) | (with_reducible refine Fr.alloc ?_ _) | (with_reducible refine Fr.setCell ?_ (by (first | (with_reducible assumption) | omega | (simp only [World.size_alloc, World.size_setCell, World.size_drew, World.heap_drewN]; omega) | (simp; done) | (simp; omega))) _) | (with_reducible refine Fr.trans ?_ (by with_reducible assumption)))
  have hzw : ((w2.alloc (.cells #[.string to, .string x.f1, .int .i64 x.f2] 147)).alloc (.cells #[.slice none 0 0] 46)).heap.size = w2.heap.size + 1 + 1 := by simp
  generalize (w2.alloc (.cells #[.string to, .string x.f1, .int .i64 x.f2] 147)).alloc (.cells #[.slice none 0 0] 46) = wx at B7 B8 hfw hzw ⊢
  have HZW := Lib.hid hzw
  clear hzw
  have BD := BD.fr hfw; have BA := BA.fr hfw; have BR := BR.fr hfw
  clear FD FA FRR
  have FD := BD.facts; have FA := BA.facts; have F7 := B7.facts; have F8 := B8.facts
  go_region_law (first | (go_simp; go_at_call 177; refine (l14Without_any _ xs nm _ ⟨_, rfl, HU.out.fr (by repeat (first | (with_reducible exact Fr.refl _) | (with_reducible assumption) | (with_reducible refine Fr.drewN ?_ _) | (with_reducible refine Fr.drew ?_) | (with_reducible refine Fr.alloc ?_ _) | (with_reducible refine Fr.setCell ?_ (by (first | (with_reducible assumption) | omega | (simp only [World.size_alloc, World.size_setCell, World.size_drew, World.heap_drewN]; omega) | (simp; done) | (simp; omega))) _) | (with_reducible refine Fr.trans ?_ (by with_reducible assumption))))⟩ (by omega)).mono ?_; rintro e w5 ⟨ao5, cap5, rfl, hl5, hf5⟩; have B7s : Box w5 _ _ _ := B7.fr (by repeat (first | (with_reducible exact Fr.refl _) | (with_reducible assumption) | (with_reducible refine Fr.drewN ?_ _) | (with_reducible refine Fr.drew ?_) | (with_reducible refine Fr.alloc ?_ _) | (with_reducible refine Fr.setCell ?_ (by (first | (with_reducible assumption) | omega | (simp only [World.size_alloc, World.size_setCell, World.size_drew, World.heap_drewN]; omega) | (simp; done) | (simp; omega))) _) | (with_reducible refine Fr.trans ?_ (by with_reducible assumption)))); have F7s := B7s.facts; have B8t : Box w5 _ _ _ := B8.fr (by repeat (first | (with_reducible exact Fr.refl _) | (with_reducible assumption) | (with_reducible refine Fr.drewN ?_ _) | (with_reducible refine Fr.drew ?_) | (with_reducible refine Fr.alloc ?_ _) | (with_reducible refine Fr.setCell ?_ (by (first | (with_reducible assumption) | omega | (simp only [World.size_alloc, World.size_setCell, World.size_drew, World.heap_drewN]; omega) | (simp; done) | (simp; omega))) _) | (with_reducible refine Fr.trans ?_ (by with_reducible assumption)))); have F8t := B8t.facts) | (go_simp; go_at_call 176; refine (l14Put_any _ (woF xs nm) ⟨to, x.f1, x.f2⟩ _ ⟨_, rfl, RdS.fr hl5.rd (by repeat (first | (with_reducible exact Fr.refl _) | (with_reducible assumption) | (with_reducible refine Fr.drewN ?_ _) | (with_reducible refine Fr.drew ?_) | (with_reducible refine Fr.alloc ?_ _) | (with_reducible refine Fr.setCell ?_ (by (first | (with_reducible assumption) | omega | (simp only [World.size_alloc, World.size_setCell, World.size_drew, World.heap_drewN]; omega) | (simp; done) | (simp; omega))) _) | (with_reducible refine Fr.trans ?_ (by with_reducible assumption))))⟩ (by have := List.length_filter_le (neF nm) xs; unfold woF; omega)).mono ?_; rintro e w3 ⟨ao3, cap3, rfl, hl3, hf3⟩; have B8u : Box w3 _ _ _ := B8t.fr (by repeat (first | (with_reducible exact Fr.refl _) | (with_reducible assumption) | (with_reducible refine Fr.drewN ?_ _) | (with_reducible refine Fr.drew ?_) | (with_reducible refine Fr.alloc ?_ _) | (with_reducible refine Fr.setCell ?_ (by (first | (with_reducible assumption) | omega | (simp only [World.size_alloc, World.size_setCell, World.size_drew, World.heap_drewN]; omega) | (simp; done) | (simp; omega))) _) | (with_reducible refine Fr.trans ?_ (by with_reducible assumption)))); have F8u := B8u.facts))
  all_goals
    have z5 := hf5.size
    have z6 := hf3.size
    (try simp only [World.size_drew] at z5)
    (try simp only [World.size_drew] at z6)
    have hzw := HZW.out
    clear FD FA F7 F8 F7s F8t F8u
    have FRR := BR.facts; have FD := BD.facts; have FA := BA.facts
    (try simp only [World.size_drew] at hl3)
    obtain ⟨lo3, hlo3⟩ : ∃ x, x = w5.heap.size := ⟨_, rfl⟩
    obtain ⟨hi3, hhi3⟩ : ∃ x, x = w3.heap.size := ⟨_, rfl⟩
    rw [← hlo3, ← hhi3] at hl3
    obtain ⟨ys, hys⟩ : ∃ l, putF (woF xs nm) ⟨to, x.f1, x.f2⟩ = l := ⟨_, rfl⟩
    rw [hys] at HO hl3
    rw [hys]
    clear hys
    have HW3 := Lib.hid hl3
    clear hl3
    have B8 := B8u
    have hfx : Fr wx w3 := by repeat (first | (with_reducible exact Fr.refl _) | (with_reducible assumption) | (with_reducible refine Fr.drewN ?_ _) | (with_reducible refine Fr.drew ?_) | (with_reducible refine Fr.alloc ?_ _) | (with_reducible refine Fr.setCell ?_ (by (first | (with_reducible assumption) | omega | (simp only [World.size_alloc, World.size_setCell, World.size_drew, World.heap_drewN]; omega) | (simp; done) | (simp; omega))) _) | (with_reducible refine Fr.trans ?_ (by with_reducible assumption)))
    have BD := BD.fr hfx; have BA := BA.fr hfx; have BR := BR.fr hfx
    clear FD FA FRR
    have FD := BD.facts; have FA := BA.facts; have FRR := BR.facts; have F8 := B8.facts
    have z3 := hfx.size
    go_wp2_with fail
    refine (specDiskOk_any _ ys _ (FilesW.rd (lo := lo3) (hi := hi3) (by change OwW _ _ _ _ _ _ _ _; (repeat (first | (with_reducible refine OwW.drewN ?_ _) | (with_reducible refine OwW.drew ?_) | (with_reducible refine OwW.alloc ?_ _) | (with_reducible refine OwW.set ?_ (by (first | (with_reducible assumption) | omega | (simp only [World.size_alloc, World.size_setCell, World.size_drew, World.heap_drewN]; omega) | (simp; done) | (simp; omega))) _) | (exact HW3.out)))))).mono ?_
    rintro e w4 ⟨rfl, hf4⟩
    cases hd2 : diskB ys
    · have HB : Hid (doB xs ⟨3, nm, tx, to⟩ = false) := (doB_some HD.out HF.out HO.out).trans hd2
      have HL := Lib.hid (doL_no HB.out)
      clear hd2
      have BRs : Box w4 (w.heap.size + 1 + 1) #[.slice none 0 0] 46 := (box_far BR (by omega) _).fr hf4
      have B8s : Box w4 (w2.heap.size + 1) #[.slice ao3 ys.length cap3] 46 := (B8.set_to (by simp)).fr hf4
      clear FD FA FRR F8
      have FRR := BRs.facts
      have F8 := B8s.facts
      have z4 := hf4.size
      (try simp only [World.size_setCell] at z4)
      go_wp2_with fail
      all_goals
        rw [HL.out, HB.out]
        refine bodyPost_ret (v := .tuple #[.agg #[.slice none 0 0], .bool false]) (by simp [results, Try.results109, go_sem, *]) rfl ⟨none, 0, rfl, FilesW.nil _ _ _, by repeat (first | (with_reducible exact Fr.refl _) | (with_reducible assumption) | (with_reducible refine Fr.drewN ?_ _) | (with_reducible refine Fr.drew ?_) | (with_reducible refine Fr.alloc ?_ _) | (with_reducible refine Fr.setCell ?_ (by (first | (with_reducible assumption) | omega | (simp only [World.size_alloc, World.size_setCell, World.size_drew, World.heap_drewN]; omega) | (simp; done) | (simp; omega))) _) | (with_reducible refine Fr.trans ?_ (by with_reducible assumption)))⟩
    · have HB : Hid (doB xs ⟨3, nm, tx, to⟩ = true) := (doB_some HD.out HF.out HO.out).trans hd2
      have HL := Lib.hid (doL_some HD.out HF.out HO.out hd2)
      clear hd2
      have BRs : Box w4 (w.heap.size + 1 + 1) #[.slice none 0 0] 46 := (box_far BR (by omega) _).fr hf4
      have B8s : Box w4 (w2.heap.size + 1) #[.slice ao3 ys.length cap3] 46 := (B8.set_to (by simp)).fr hf4
      clear FD FA FRR F8
      have FRR := BRs.facts
      have F8 := B8s.facts
      have z4 := hf4.size
      (try simp only [World.size_setCell] at z4)
      go_wp2_with fail
      rw [HL.out, HB.out]
      refine bodyPost_ret (v := .tuple #[.agg #[.slice ao3 ys.length cap3], .bool true]) (by simp [results, Try.results109, go_sem, *]) rfl ⟨ao3, cap3, rfl, ?_, by repeat (first | (with_reducible exact Fr.refl _) | (with_reducible assumption) | (with_reducible refine Fr.drewN ?_ _) | (with_reducible refine Fr.drew ?_) | (with_reducible refine Fr.alloc ?_ _) | (with_reducible refine Fr.setCell ?_ (by (first | (with_reducible assumption) | omega | (simp only [World.size_alloc, World.size_setCell, World.size_drew, World.heap_drewN]; omega) | (simp; done) | (simp; omega))) _) | (with_reducible refine Fr.trans ?_ (by with_reducible assumption)))⟩
      have HW4 : FilesW w4 lo3 hi3 (.slice ao3 ys.length cap3) ys := OwW.fr (by change OwW _ _ _ _ _ _ _ _; (repeat (first | (with_reducible refine OwW.drewN ?_ _) | (with_reducible refine OwW.drew ?_) | (with_reducible refine OwW.alloc ?_ _) | (with_reducible refine OwW.set ?_ (by (first | (with_reducible assumption) | omega | (simp only [World.size_alloc, World.size_setCell, World.size_drew, World.heap_drewN]; omega) | (simp; done) | (simp; omega))) _) | (exact HW3.out)))) hf4
      refine OwW.mono (lo := lo3) (hi := hi3) ?_ (by omega) (by (try simp only [World.size_setCell]); omega)
      change OwW _ _ _ _ _ _ _ _; (repeat (first | (with_reducible refine OwW.drewN ?_ _) | (with_reducible refine OwW.drew ?_) | (with_reducible refine OwW.alloc ?_ _) | (with_reducible refine OwW.set ?_ (by (first | (with_reducible assumption) | omega | (simp only [World.size_alloc, World.size_setCell, World.size_drew, World.heap_drewN]; omega) | (simp; done) | (simp; omega))) _) | (exact HW4)))
/-! The reference's DoAct, all cases. Condition: bounds on what is read, which the laws pay. -/
theorem specDoAct_any (xs : List FileR) (a : ActR) (hn : xs.length ≤ 1048576) (ha : a.f2.size ≤ 1048576) (v : Value) (w : World) (hv : DiskRd w v ⟨xs⟩) :
    Calls Try.prog 109 #[v, .agg #[.int .i64 a.f0, .string a.f1, .string a.f2, .string a.f3]] w fun e w' => ∃ ao cap, e = .returned (.tuple #[.agg #[.slice ao (doL xs a).length cap], .bool (doB xs a)]) ∧ FilesW w' w.heap.size w'.heap.size (.slice ao (doL xs a).length cap) (doL xs a) ∧ Fr w w' := by
  obtain ⟨u, rfl, hu⟩ := hv
  simp only [] at hu
  obtain ⟨a0, b0, o0, c0, rfl, hc0, hm0, f0⟩ := hu.one
  obtain ⟨k, nm, tx, to⟩ := a
  show SDA xs k nm tx to a0 c0 w
  simp only [] at ha
  cases hd : diskB xs
  · exact sda_disk xs k nm tx to hn ha a0 b0 o0 c0 w hu f0 hd
  cases h1 : nameB nm
  · exact sda_name xs k nm tx to hn ha a0 b0 o0 c0 w hu f0 hd h1
  by_cases hk3 : k = 3
  · subst hk3
    cases ht : tx.toList.isEmpty
    · exact sda_tx3 xs nm tx to hn ha a0 b0 o0 c0 w hu f0 hd h1 ht
    rcases fIx_cases xs nm with hmiss | ⟨j, hj, hhit⟩
    · exact sda_no3 xs nm tx to hn ha a0 b0 o0 c0 w hu f0 hd h1 ht hmiss
    by_cases hkp : (fileAt xs j).f2 = ((fileAt xs j).f1.size : Int)
    · cases h6 : (to.toList == nm.toList)
      · cases h5 : nameB to
        · exact sda_mvn xs nm tx to hn ha a0 b0 o0 c0 w hu f0 hd h1 ht j hj hhit hkp h6 h5
        · exact sda_mv xs nm tx to hn ha a0 b0 o0 c0 w hu f0 hd h1 ht j hj hhit hkp h6 h5
      · exact sda_mvs xs nm tx to hn ha a0 b0 o0 c0 w hu f0 hd h1 ht j hj hhit hkp h6
    · exact sda_mvk xs nm tx to hn ha a0 b0 o0 c0 w hu f0 hd h1 ht j hj hhit hkp
  cases h3 : to.toList.isEmpty
  · exact sda_to xs k nm tx to hn ha a0 b0 o0 c0 w hu f0 hd h1 hk3 h3
  by_cases hk1 : k = 1
  · subst hk1
    rcases fIx_cases xs nm with hmiss | ⟨j, hj, hhit⟩
    · exact sda_add0 xs nm tx to hn ha a0 b0 o0 c0 w hu f0 hd h1 h3 hmiss
    · exact sda_add xs nm tx to hn ha a0 b0 o0 c0 w hu f0 hd h1 h3 j hj hhit
  cases ht : tx.toList.isEmpty
  · exact sda_tx xs k nm tx to hn ha a0 b0 o0 c0 w hu f0 hd h1 h3 hk1 ht
  rcases fIx_cases xs nm with hmiss | ⟨j, hj, hhit⟩
  · by_cases hk2 : k = 2
    · subst hk2; exact sda_no2 xs nm tx to hn ha a0 b0 o0 c0 w hu f0 hd h1 h3 ht hmiss
    by_cases hk4 : k = 4
    · subst hk4; exact sda_no4 xs nm tx to hn ha a0 b0 o0 c0 w hu f0 hd h1 h3 ht hmiss
    exact sda_ot0 xs k nm tx to hn ha a0 b0 o0 c0 w hu f0 hd h1 h3 ht (by omega) hmiss
  · by_cases hk2 : k = 2
    · subst hk2; exact sda_keep xs nm tx to hn ha a0 b0 o0 c0 w hu f0 hd h1 h3 ht j hj hhit
    by_cases hk4 : k = 4
    · subst hk4; exact sda_drop xs nm tx to hn ha a0 b0 o0 c0 w hu f0 hd h1 h3 ht j hj hhit
    exact sda_ot xs k nm tx to hn ha a0 b0 o0 c0 w hu f0 hd h1 h3 ht (by omega) j hj hhit
end Go.Proofs.Ytjgghiniajmfjaa
