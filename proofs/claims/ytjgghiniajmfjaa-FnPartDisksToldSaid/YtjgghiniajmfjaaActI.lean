/- ActI: ActI1, ActI2, ActI3, ActI4, ActI5, ActI6, ActI in one text. -/
import Derived.Test.YtjgghiniajmfjaaKFit
import Derived.Test.YtjgghiniajmfjaaInsF
import Derived.Test.YtjgghiniajmfjaaKLose
namespace Go.Proofs.Ytjgghiniajmfjaa
open Go.RowKit
set_option linter.unusedVariables false
set_option linter.unusedSimpArgs false
/-! The program's DoAct, part 1. Condition: bounds on what is read, which the laws pay. (Printed by mk_acti.py.) -/
set_option maxHeartbeats 4000000 in
set_option maxRecDepth 100000 in
theorem ida_disk (xs : List FileR) (k : Int) (nm tx to : ByteArray) (hn : xs.length ≤ 1048576) (ha : tx.size ≤ 1048576) (a0 : Option Addr) (b0 o0 c0 : Nat) (w : World) (HU : Hid (FilesR w (.slice a0 xs.length c0) xs)) (F0 : Hid (FilesAt w xs a0 b0 o0)) (HD : Hid (diskB xs = false)) : IDA xs k nm tx to a0 c0 w := by
  unfold IDA
  have HB : Hid (doB xs ⟨k, nm, tx, to⟩ = false) := doB_disk HD.out
  have HL := Lib.hid (doL_no HB.out)
  obtain ⟨q0, hq0⟩ : ∃ q, fIx xs nm = q := ⟨_, rfl⟩
  have HK := Lib.hid hq0
  clear hq0
  go_enter Try.func173, Try.ntmps173
  go_wp2_with fail
  refine (fileIndex_any _ xs nm _ (HU.out.fr (by repeat (first | (with_reducible exact Fr.refl _) | (with_reducible assumption) | (with_reducible refine Fr.drewN ?_ _) | (with_reducible refine Fr.drew ?_) | (with_reducible refine Fr.alloc ?_ _) | (with_reducible refine Fr.setCell ?_ (by (first | (with_reducible assumption) | omega | (simp only [World.size_alloc, World.size_setCell, World.size_drew, World.heap_drewN]; omega) | (simp; done) | (simp; omega))) _) | (with_reducible refine Fr.trans ?_ (by with_reducible assumption)))))).mono ?_
  rintro e w1 ⟨rfl, hf1⟩
  rw [HK.out]
  have BD : Box w1 w.heap.size #[.slice a0 xs.length c0] 46 := (((Box.new _ _ _).alloc _).alloc _).fr hf1
  have BA : Box w1 (w.heap.size + 1) #[.int .i64 k, .string nm, .string tx, .string to] 145 := ((Box.new' (w := w.alloc (.cells #[.slice a0 xs.length c0] 46)) (by simp)).alloc _).fr hf1
  have BR : Box w1 (w.heap.size + 1 + 1) #[.slice none 0 0] 46 := (Box.new' (w := (w.alloc (.cells #[.slice a0 xs.length c0] 46)).alloc (.cells #[.int .i64 k, .string nm, .string tx, .string to] 145)) (by simp)).fr hf1
  have FD := BD.facts; have FA := BA.facts; have FRR := BR.facts
  have z1 := hf1.size; (try simp only [World.size_alloc, World.size_setCell, World.size_drew] at z1)
  go_wp2_with fail
  refine (implDiskOk_any _ xs _ (HU.out.fr (by repeat (first | (with_reducible exact Fr.refl _) | (with_reducible assumption) | (with_reducible refine Fr.drewN ?_ _) | (with_reducible refine Fr.drew ?_) | (with_reducible refine Fr.alloc ?_ _) | (with_reducible refine Fr.setCell ?_ (by (first | (with_reducible assumption) | omega | (simp only [World.size_alloc, World.size_setCell, World.size_drew, World.heap_drewN]; omega) | (simp; done) | (simp; omega))) _) | (with_reducible refine Fr.trans ?_ (by with_reducible assumption)))))).mono ?_
  rintro e w2 ⟨rfl, hf2⟩
  rw [HD.out]
  have BD := BD.fr hf2; have BA := BA.fr hf2; have BR := BR.fr hf2
  have z2 := hf2.size
  clear FD FA FRR
  have FD := BD.facts; have FA := BA.facts; have FRR := BR.facts
  go_wp2_with fail
  all_goals
    rw [HL.out, HB.out]
    refine bodyPost_ret (v := .tuple #[.agg #[.slice none 0 0], .bool false]) (by simp [results, Try.results173, go_sem, *]) rfl ⟨none, 0, rfl, FilesW.nil _ _ _, by repeat (first | (with_reducible exact Fr.refl _) | (with_reducible assumption) | (with_reducible refine Fr.drewN ?_ _) | (with_reducible refine Fr.drew ?_) | (with_reducible refine Fr.alloc ?_ _) | (with_reducible refine Fr.setCell ?_ (by (first | (with_reducible assumption) | omega | (simp only [World.size_alloc, World.size_setCell, World.size_drew, World.heap_drewN]; omega) | (simp; done) | (simp; omega))) _) | (with_reducible refine Fr.trans ?_ (by with_reducible assumption)))⟩
set_option maxHeartbeats 4000000 in
set_option maxRecDepth 100000 in
theorem ida_fit (xs : List FileR) (k : Int) (nm tx to : ByteArray) (hn : xs.length ≤ 1048576) (ha : tx.size ≤ 1048576) (a0 : Option Addr) (b0 o0 c0 : Nat) (w : World) (HU : Hid (FilesR w (.slice a0 xs.length c0) xs)) (F0 : Hid (FilesAt w xs a0 b0 o0)) (HD : Hid (diskB xs = true)) (hfit : fitsB ⟨k, nm, tx, to⟩ = false) : IDA xs k nm tx to a0 c0 w := by
  unfold IDA
  have HB : Hid (doB xs ⟨k, nm, tx, to⟩ = false) := doB_fits hfit
  have HL := Lib.hid (doL_no HB.out)
  obtain ⟨q0, hq0⟩ : ∃ q, fIx xs nm = q := ⟨_, rfl⟩
  have HK := Lib.hid hq0
  have HF := Lib.hid hfit
  clear hq0 hfit
  go_enter Try.func173, Try.ntmps173
  go_wp2_with fail
  refine (fileIndex_any _ xs nm _ (HU.out.fr (by repeat (first | (with_reducible exact Fr.refl _) | (with_reducible assumption) | (with_reducible refine Fr.drewN ?_ _) | (with_reducible refine Fr.drew ?_) | (with_reducible refine Fr.alloc ?_ _) | (with_reducible refine Fr.setCell ?_ (by (first | (with_reducible assumption) | omega | (simp only [World.size_alloc, World.size_setCell, World.size_drew, World.heap_drewN]; omega) | (simp; done) | (simp; omega))) _) | (with_reducible refine Fr.trans ?_ (by with_reducible assumption)))))).mono ?_
  rintro e w1 ⟨rfl, hf1⟩
  rw [HK.out]
  have BD : Box w1 w.heap.size #[.slice a0 xs.length c0] 46 := (((Box.new _ _ _).alloc _).alloc _).fr hf1
  have BA : Box w1 (w.heap.size + 1) #[.int .i64 k, .string nm, .string tx, .string to] 145 := ((Box.new' (w := w.alloc (.cells #[.slice a0 xs.length c0] 46)) (by simp)).alloc _).fr hf1
  have BR : Box w1 (w.heap.size + 1 + 1) #[.slice none 0 0] 46 := (Box.new' (w := (w.alloc (.cells #[.slice a0 xs.length c0] 46)).alloc (.cells #[.int .i64 k, .string nm, .string tx, .string to] 145)) (by simp)).fr hf1
  have FD := BD.facts; have FA := BA.facts; have FRR := BR.facts
  have z1 := hf1.size; (try simp only [World.size_alloc, World.size_setCell, World.size_drew] at z1)
  go_wp2_with fail
  refine (implDiskOk_any _ xs _ (HU.out.fr (by repeat (first | (with_reducible exact Fr.refl _) | (with_reducible assumption) | (with_reducible refine Fr.drewN ?_ _) | (with_reducible refine Fr.drew ?_) | (with_reducible refine Fr.alloc ?_ _) | (with_reducible refine Fr.setCell ?_ (by (first | (with_reducible assumption) | omega | (simp only [World.size_alloc, World.size_setCell, World.size_drew, World.heap_drewN]; omega) | (simp; done) | (simp; omega))) _) | (with_reducible refine Fr.trans ?_ (by with_reducible assumption)))))).mono ?_
  rintro e w2 ⟨rfl, hf2⟩
  rw [HD.out]
  have BD := BD.fr hf2; have BA := BA.fr hf2; have BR := BR.fr hf2
  have z2 := hf2.size
  clear FD FA FRR
  have FD := BD.facts; have FA := BA.facts; have FRR := BR.facts
  go_wp2_with fail
  refine (actFits_any ⟨k, nm, tx, to⟩ _).mono ?_
  rintro e w3 ⟨rfl, hf3⟩
  rw [HF.out]
  have BD := BD.fr hf3; have BA := BA.fr hf3; have BR := BR.fr hf3
  have z3 := hf3.size
  clear FD FA FRR
  have FD := BD.facts; have FA := BA.facts; have FRR := BR.facts
  go_wp2_with fail
  all_goals
    rw [HL.out, HB.out]
    refine bodyPost_ret (v := .tuple #[.agg #[.slice none 0 0], .bool false]) (by simp [results, Try.results173, go_sem, *]) rfl ⟨none, 0, rfl, FilesW.nil _ _ _, by repeat (first | (with_reducible exact Fr.refl _) | (with_reducible assumption) | (with_reducible refine Fr.drewN ?_ _) | (with_reducible refine Fr.drew ?_) | (with_reducible refine Fr.alloc ?_ _) | (with_reducible refine Fr.setCell ?_ (by (first | (with_reducible assumption) | omega | (simp only [World.size_alloc, World.size_setCell, World.size_drew, World.heap_drewN]; omega) | (simp; done) | (simp; omega))) _) | (with_reducible refine Fr.trans ?_ (by with_reducible assumption)))⟩
set_option maxHeartbeats 4000000 in
set_option maxRecDepth 100000 in
theorem ida_no (xs : List FileR) (k : Int) (nm tx to : ByteArray) (hn : xs.length ≤ 1048576) (ha : tx.size ≤ 1048576) (a0 : Option Addr) (b0 o0 c0 : Nat) (w : World) (HU : Hid (FilesR w (.slice a0 xs.length c0) xs)) (F0 : Hid (FilesAt w xs a0 b0 o0)) (HD : Hid (diskB xs = true)) (HF : Hid (fitsB ⟨k, nm, tx, to⟩ = true)) (hk1 : ¬ k = 1) (hmiss : fIx xs nm = -1) : IDA xs k nm tx to a0 c0 w := by
  unfold IDA
  have hk0 : (k != 1) = true := by simpa using hk1
  have HB : Hid (doB xs ⟨k, nm, tx, to⟩ = false) := doB_none (by unfold outA; simp only []; rw [if_neg hk1, if_pos (by rw [hmiss]; omega)])
  have HL := Lib.hid (doL_no HB.out)
  have hlen := diskB_len HD.out
  have HS := Lib.hid (sorted_of HD.out)
  have HK : Hid (fIx xs nm = -1) := hmiss
  clear hmiss
  go_enter Try.func173, Try.ntmps173
  go_wp2_with fail
  refine (fileIndex_any _ xs nm _ (HU.out.fr (by repeat (first | (with_reducible exact Fr.refl _) | (with_reducible assumption) | (with_reducible refine Fr.drewN ?_ _) | (with_reducible refine Fr.drew ?_) | (with_reducible refine Fr.alloc ?_ _) | (with_reducible refine Fr.setCell ?_ (by (first | (with_reducible assumption) | omega | (simp only [World.size_alloc, World.size_setCell, World.size_drew, World.heap_drewN]; omega) | (simp; done) | (simp; omega))) _) | (with_reducible refine Fr.trans ?_ (by with_reducible assumption)))))).mono ?_
  rintro e w1 ⟨rfl, hf1⟩
  rw [HK.out]
  have BD : Box w1 w.heap.size #[.slice a0 xs.length c0] 46 := (((Box.new _ _ _).alloc _).alloc _).fr hf1
  have BA : Box w1 (w.heap.size + 1) #[.int .i64 k, .string nm, .string tx, .string to] 145 := ((Box.new' (w := w.alloc (.cells #[.slice a0 xs.length c0] 46)) (by simp)).alloc _).fr hf1
  have BR : Box w1 (w.heap.size + 1 + 1) #[.slice none 0 0] 46 := (Box.new' (w := (w.alloc (.cells #[.slice a0 xs.length c0] 46)).alloc (.cells #[.int .i64 k, .string nm, .string tx, .string to] 145)) (by simp)).fr hf1
  have FD := BD.facts; have FA := BA.facts; have FRR := BR.facts
  have z1 := hf1.size; (try simp only [World.size_alloc, World.size_setCell, World.size_drew] at z1)
  go_wp2_with fail
  refine (implDiskOk_any _ xs _ (HU.out.fr (by repeat (first | (with_reducible exact Fr.refl _) | (with_reducible assumption) | (with_reducible refine Fr.drewN ?_ _) | (with_reducible refine Fr.drew ?_) | (with_reducible refine Fr.alloc ?_ _) | (with_reducible refine Fr.setCell ?_ (by (first | (with_reducible assumption) | omega | (simp only [World.size_alloc, World.size_setCell, World.size_drew, World.heap_drewN]; omega) | (simp; done) | (simp; omega))) _) | (with_reducible refine Fr.trans ?_ (by with_reducible assumption)))))).mono ?_
  rintro e w2 ⟨rfl, hf2⟩
  rw [HD.out]
  have BD := BD.fr hf2; have BA := BA.fr hf2; have BR := BR.fr hf2
  have z2 := hf2.size
  clear FD FA FRR
  have FD := BD.facts; have FA := BA.facts; have FRR := BR.facts
  go_wp2_with fail
  refine (actFits_any ⟨k, nm, tx, to⟩ _).mono ?_
  rintro e w3 ⟨rfl, hf3⟩
  rw [HF.out]
  have BD := BD.fr hf3; have BA := BA.fr hf3; have BR := BR.fr hf3
  have z3 := hf3.size
  clear FD FA FRR
  have FD := BD.facts; have FA := BA.facts; have FRR := BR.facts
  go_wp2_with fail
  all_goals
    rw [HL.out, HB.out]
    refine bodyPost_ret (v := .tuple #[.agg #[.slice none 0 0], .bool false]) (by simp [results, Try.results173, go_sem, *]) rfl ⟨none, 0, rfl, FilesW.nil _ _ _, by repeat (first | (with_reducible exact Fr.refl _) | (with_reducible assumption) | (with_reducible refine Fr.drewN ?_ _) | (with_reducible refine Fr.drew ?_) | (with_reducible refine Fr.alloc ?_ _) | (with_reducible refine Fr.setCell ?_ (by (first | (with_reducible assumption) | omega | (simp only [World.size_alloc, World.size_setCell, World.size_drew, World.heap_drewN]; omega) | (simp; done) | (simp; omega))) _) | (with_reducible refine Fr.trans ?_ (by with_reducible assumption)))⟩
/-! The program's DoAct, part 2. Condition: bounds on what is read, which the laws pay. (Printed by mk_acti.py.) -/
set_option maxHeartbeats 4000000 in
set_option maxRecDepth 100000 in
theorem ida_add0 (xs : List FileR) (nm tx to : ByteArray) (hn : xs.length ≤ 1048576) (ha : tx.size ≤ 1048576) (a0 : Option Addr) (b0 o0 c0 : Nat) (w : World) (HU : Hid (FilesR w (.slice a0 xs.length c0) xs)) (F0 : Hid (FilesAt w xs a0 b0 o0)) (HD : Hid (diskB xs = true)) (HF : Hid (fitsB ⟨1, nm, tx, to⟩ = true)) (hmiss : fIx xs nm = -1) : IDA xs 1 nm tx to a0 c0 w := by
  unfold IDA
  have hlen := diskB_len HD.out
  have HS := Lib.hid (sorted_of HD.out)
  have HK : Hid (fIx xs nm = -1) := hmiss
  have HO : Hid (outA xs ⟨1, nm, tx, to⟩ = some (putF xs ⟨nm, ⟨#[]⟩ ++ tx, 0⟩)) := by show _ = _; unfold outA addF; simp only []; rw [if_pos trivial, if_pos (by rw [hmiss]; omega)]
  clear hmiss
  go_enter Try.func173, Try.ntmps173
  go_wp2_with fail
  refine (fileIndex_any _ xs nm _ (HU.out.fr (by repeat (first | (with_reducible exact Fr.refl _) | (with_reducible assumption) | (with_reducible refine Fr.drewN ?_ _) | (with_reducible refine Fr.drew ?_) | (with_reducible refine Fr.alloc ?_ _) | (with_reducible refine Fr.setCell ?_ (by (first | (with_reducible assumption) | omega | (simp only [World.size_alloc, World.size_setCell, World.size_drew, World.heap_drewN]; omega) | (simp; done) | (simp; omega))) _) | (with_reducible refine Fr.trans ?_ (by with_reducible assumption)))))).mono ?_
  rintro e w1 ⟨rfl, hf1⟩
  rw [HK.out]
  have BD : Box w1 w.heap.size #[.slice a0 xs.length c0] 46 := (((Box.new _ _ _).alloc _).alloc _).fr hf1
  have BA : Box w1 (w.heap.size + 1) #[.int .i64 1, .string nm, .string tx, .string to] 145 := ((Box.new' (w := w.alloc (.cells #[.slice a0 xs.length c0] 46)) (by simp)).alloc _).fr hf1
  have BR : Box w1 (w.heap.size + 1 + 1) #[.slice none 0 0] 46 := (Box.new' (w := (w.alloc (.cells #[.slice a0 xs.length c0] 46)).alloc (.cells #[.int .i64 1, .string nm, .string tx, .string to] 145)) (by simp)).fr hf1
  have FD := BD.facts; have FA := BA.facts; have FRR := BR.facts
  have z1 := hf1.size; (try simp only [World.size_alloc, World.size_setCell, World.size_drew] at z1)
  go_wp2_with fail
  refine (implDiskOk_any _ xs _ (HU.out.fr (by repeat (first | (with_reducible exact Fr.refl _) | (with_reducible assumption) | (with_reducible refine Fr.drewN ?_ _) | (with_reducible refine Fr.drew ?_) | (with_reducible refine Fr.alloc ?_ _) | (with_reducible refine Fr.setCell ?_ (by (first | (with_reducible assumption) | omega | (simp only [World.size_alloc, World.size_setCell, World.size_drew, World.heap_drewN]; omega) | (simp; done) | (simp; omega))) _) | (with_reducible refine Fr.trans ?_ (by with_reducible assumption)))))).mono ?_
  rintro e w2 ⟨rfl, hf2⟩
  rw [HD.out]
  have BD := BD.fr hf2; have BA := BA.fr hf2; have BR := BR.fr hf2
  have z2 := hf2.size
  clear FD FA FRR
  have FD := BD.facts; have FA := BA.facts; have FRR := BR.facts
  go_wp2_with fail
  refine (actFits_any ⟨1, nm, tx, to⟩ _).mono ?_
  rintro e w3 ⟨rfl, hf3⟩
  rw [HF.out]
  have BD := BD.fr hf3; have BA := BA.fr hf3; have BR := BR.fr hf3
  have z3 := hf3.size
  clear FD FA FRR
  have FD := BD.facts; have FA := BA.facts; have FRR := BR.facts
  go_wp2_with fail
  refine (copyDisk_any _ ⟨xs⟩ _ ⟨_, rfl, HU.out.fr (by repeat (first | (with_reducible exact Fr.refl _) | (with_reducible assumption) | (with_reducible refine Fr.drewN ?_ _) | (with_reducible refine Fr.drew ?_) | (with_reducible refine Fr.alloc ?_ _) | (with_reducible refine Fr.setCell ?_ (by (first | (with_reducible assumption) | omega | (simp only [World.size_alloc, World.size_setCell, World.size_drew, World.heap_drewN]; omega) | (simp; done) | (simp; omega))) _) | (with_reducible refine Fr.trans ?_ (by with_reducible assumption))))⟩ (by show xs.length ≤ _; omega)).mono ?_
  rintro e w4 ⟨ao4, cap4, rfl, hl4, hf4⟩
  simp only [] at hl4
  obtain ⟨_, _, h4, hl4⟩ := hl4
  cases h4
  have BD := BD.fr hf4; have BA := BA.fr hf4; have BR := BR.fr hf4
  have z4 := hf4.size
  clear FD FA FRR
  have FD := BD.facts; have FA := BA.facts; have FRR := BR.facts
  have HO4 := Lib.hid hl4.1
  have HR4 := Lib.hid hl4.2
  simp only [] at HO4 HR4
  clear hl4
  go_wp2_with fail
  generalize (⟨#[]⟩ ++ tx : ByteArray) = s at HO ⊢
  have B7 : Box ((w4.alloc (.cells #[.slice ao4 xs.length cap4] 46)).alloc (.cells #[.string nm, .string s, .int .i64 0] 147)) w4.heap.size #[.slice ao4 xs.length cap4] 46 := (Box.new _ _ _).alloc _
  have ho4 : ((w4.alloc (.cells #[.slice ao4 xs.length cap4] 46)).alloc (.cells #[.string nm, .string s, .int .i64 0] 147)).ownsRow w3.heap.size 147 3 (.slice ao4 xs.length cap4) xs.length (xs.flatMap FileR.cells) := owns_fr HO4.out (by repeat (first | (with_reducible exact Fr.refl _) | (with_reducible assumption) | (with_reducible refine Fr.drewN ?_ _) | (with_reducible refine Fr.drew ?_) | (with_reducible refine Fr.alloc ?_ _) | (with_reducible refine Fr.setCell ?_ (by (first | (with_reducible assumption) | omega | (simp only [World.size_alloc, World.size_setCell, World.size_drew, World.heap_drewN]; omega) | (simp; done) | (simp; omega))) _) | (with_reducible refine Fr.trans ?_ (by with_reducible assumption))))
  have hne : some w4.heap.size ≠ (Value.slice ao4 xs.length cap4).ownBlock := fun e => by have := HR4.out _ e.symm; omega
  refine (insertFile_any w3.heap.size w4.heap.size _ xs ⟨nm, s, 0⟩ _ B7 ho4 hne (by simp only [World.size_alloc]; omega) (by omega) HS.out).mono ?_
  rintro e w5 ⟨⟨u, rfl⟩, ao5, cap5, B7, ho5, ht5⟩
  have z5 := ht5.size
  (try simp only [World.size_alloc] at z5)
  have hfx : Fr w w5 := ht5.fr (show Fr w _ by repeat (first | (with_reducible exact Fr.refl _) | (with_reducible assumption) | (with_reducible refine Fr.drewN ?_ _) | (with_reducible refine Fr.drew ?_) | (with_reducible refine Fr.alloc ?_ _) | (with_reducible refine Fr.setCell ?_ (by (first | (with_reducible assumption) | omega | (simp only [World.size_alloc, World.size_setCell, World.size_drew, World.heap_drewN]; omega) | (simp; done) | (simp; omega))) _) | (with_reducible refine Fr.trans ?_ (by with_reducible assumption)))) (by omega) (fun g hg => by have := HR4.out g hg; omega)
  have BR : Box w5 (w.heap.size + 1 + 1) #[.slice none 0 0] 46 := ht5.box ((BR.alloc _).alloc _) (by omega) (fun e => by have := HR4.out _ e.symm; omega)
  clear FD FA FRR
  have hln : (putF xs ⟨nm, s, 0⟩).length = (putF xs ⟨nm, s, 0⟩).length := rfl
  generalize putF xs ⟨nm, s, 0⟩ = ys at B7 ho5 HO hln ⊢
  clear hln
  have HO5 := Lib.hid ho5
  clear ho5
  have F7 := B7.facts
  have FRR := BR.facts
  go_wp2_with fail
  refine (implDiskOk_any _ ys _ (RdS.fr (RdS.of_owns HO5.out) (by repeat (first | (with_reducible exact Fr.refl _) | (with_reducible assumption) | (with_reducible refine Fr.drewN ?_ _) | (with_reducible refine Fr.drew ?_) | (with_reducible refine Fr.alloc ?_ _) | (with_reducible refine Fr.setCell ?_ (by (first | (with_reducible assumption) | omega | (simp only [World.size_alloc, World.size_setCell, World.size_drew, World.heap_drewN]; omega) | (simp; done) | (simp; omega))) _) | (with_reducible refine Fr.trans ?_ (by with_reducible assumption)))))).mono ?_
  rintro e w6 ⟨rfl, hf6⟩
  have z6 := hf6.size
  have BR := BR.fr hf6; have B7 := B7.fr hf6
  clear F7 FRR
  have F7 := B7.facts
  have FRR := BR.facts
  have HO6 : Hid (w6.ownsRow _ 147 3 _ _ _) := owns_fr HO5.out hf6
  cases hd2 : diskB ys
  · have HB : Hid (doB xs ⟨1, nm, tx, to⟩ = false) := (doB_some HD.out HF.out HO.out).trans hd2
    have HL := Lib.hid (doL_no HB.out)
    clear hd2
    go_wp2_with fail
    all_goals
      rw [HL.out, HB.out]
      refine bodyPost_ret (v := .tuple #[.agg #[.slice none 0 0], .bool false]) (by simp [results, Try.results173, go_sem, *]) rfl ⟨none, 0, rfl, FilesW.nil _ _ _, by repeat (first | (with_reducible exact Fr.refl _) | (with_reducible assumption) | (with_reducible refine Fr.drewN ?_ _) | (with_reducible refine Fr.drew ?_) | (with_reducible refine Fr.alloc ?_ _) | (with_reducible refine Fr.setCell ?_ (by (first | (with_reducible assumption) | omega | (simp only [World.size_alloc, World.size_setCell, World.size_drew, World.heap_drewN]; omega) | (simp; done) | (simp; omega))) _) | (with_reducible refine Fr.trans ?_ (by with_reducible assumption)))⟩
  · have HB : Hid (doB xs ⟨1, nm, tx, to⟩ = true) := (doB_some HD.out HF.out HO.out).trans hd2
    have HL := Lib.hid (doL_some HD.out HF.out HO.out hd2)
    clear hd2
    go_wp2_with fail
    rw [HL.out, HB.out]
    refine bodyPost_ret (v := .tuple #[.agg #[.slice ao5 ys.length cap5], .bool true]) (by simp [results, Try.results173, go_sem, *]) rfl ⟨ao5, cap5, rfl, ?_, by repeat (first | (with_reducible exact Fr.refl _) | (with_reducible assumption) | (with_reducible refine Fr.drewN ?_ _) | (with_reducible refine Fr.drew ?_) | (with_reducible refine Fr.alloc ?_ _) | (with_reducible refine Fr.setCell ?_ (by (first | (with_reducible assumption) | omega | (simp only [World.size_alloc, World.size_setCell, World.size_drew, World.heap_drewN]; omega) | (simp; done) | (simp; omega))) _) | (with_reducible refine Fr.trans ?_ (by with_reducible assumption)))⟩
    have o6 : FilesW w6 w3.heap.size w6.heap.size (.slice ao5 ys.length cap5) ys := OwW.of_owns HO6.out
    refine OwW.mono (lo := w3.heap.size) (hi := w6.heap.size) ?_ (by omega) (by (try simp only [World.size_setCell]); omega)
    change OwW _ _ _ _ _ _ _ _; (repeat (first | (with_reducible refine OwW.drewN ?_ _) | (with_reducible refine OwW.drew ?_) | (with_reducible refine OwW.alloc ?_ _) | (with_reducible refine OwW.set ?_ (by (first | (with_reducible assumption) | omega | (simp only [World.size_alloc, World.size_setCell, World.size_drew, World.heap_drewN]; omega) | (simp; done) | (simp; omega))) _) | (exact o6)))
set_option maxHeartbeats 4000000 in
set_option maxRecDepth 100000 in
theorem ida_add (xs : List FileR) (nm tx to : ByteArray) (hn : xs.length ≤ 1048576) (ha : tx.size ≤ 1048576) (a0 : Option Addr) (b0 o0 c0 : Nat) (w : World) (HU : Hid (FilesR w (.slice a0 xs.length c0) xs)) (F0 : Hid (FilesAt w xs a0 b0 o0)) (HD : Hid (diskB xs = true)) (HF : Hid (fitsB ⟨1, nm, tx, to⟩ = true)) (j : Nat) (hj : j < xs.length) (hhit : fIx xs nm = (j : Int)) : IDA xs 1 nm tx to a0 c0 w := by
  unfold IDA
  have HFI := Lib.hid (fun j (hj : j < xs.length) => diskB_file HD.out hj)
  have hlen := diskB_len HD.out
  have HS := Lib.hid (sorted_of HD.out)
  have HK : Hid (fIx xs nm = (j : Int)) := hhit
  have HNM := Lib.hid (fIx_name hhit).2
  obtain ⟨x, hx⟩ : ∃ x, fileAt xs j = x := ⟨_, rfl⟩
  have HX := Lib.hid hx
  have HAX : Hid (∀ q tx to, actX xs ⟨q, nm, tx, to⟩ = x) := fun q tx to => by unfold actX; simp only []; rw [hhit, Int.toNat_natCast]; exact hx
  obtain ⟨hx1, hx2, hx3⟩ := HFI.out j hj
  rw [hx] at hx1 hx2 hx3
  have hneg : ¬ fIx xs nm < 0 := by rw [hhit]; omega
  have HNG := Lib.hid hneg
  clear hx hhit hneg
  have HO : Hid (outA xs ⟨1, nm, tx, to⟩ = some (putF xs ⟨x.f0, x.f1 ++ tx, x.f2⟩)) := by show _ = _; unfold outA addF; simp only []; rw [if_pos trivial, if_neg HNG.out, HAX.out]
  go_enter Try.func173, Try.ntmps173
  go_wp2_with fail
  refine (fileIndex_any _ xs nm _ (HU.out.fr (by repeat (first | (with_reducible exact Fr.refl _) | (with_reducible assumption) | (with_reducible refine Fr.drewN ?_ _) | (with_reducible refine Fr.drew ?_) | (with_reducible refine Fr.alloc ?_ _) | (with_reducible refine Fr.setCell ?_ (by (first | (with_reducible assumption) | omega | (simp only [World.size_alloc, World.size_setCell, World.size_drew, World.heap_drewN]; omega) | (simp; done) | (simp; omega))) _) | (with_reducible refine Fr.trans ?_ (by with_reducible assumption)))))).mono ?_
  rintro e w1 ⟨rfl, hf1⟩
  rw [HK.out]
  have BD : Box w1 w.heap.size #[.slice a0 xs.length c0] 46 := (((Box.new _ _ _).alloc _).alloc _).fr hf1
  have BA : Box w1 (w.heap.size + 1) #[.int .i64 1, .string nm, .string tx, .string to] 145 := ((Box.new' (w := w.alloc (.cells #[.slice a0 xs.length c0] 46)) (by simp)).alloc _).fr hf1
  have BR : Box w1 (w.heap.size + 1 + 1) #[.slice none 0 0] 46 := (Box.new' (w := (w.alloc (.cells #[.slice a0 xs.length c0] 46)).alloc (.cells #[.int .i64 1, .string nm, .string tx, .string to] 145)) (by simp)).fr hf1
  have FD := BD.facts; have FA := BA.facts; have FRR := BR.facts
  have z1 := hf1.size; (try simp only [World.size_alloc, World.size_setCell, World.size_drew] at z1)
  go_wp2_with fail
  refine (implDiskOk_any _ xs _ (HU.out.fr (by repeat (first | (with_reducible exact Fr.refl _) | (with_reducible assumption) | (with_reducible refine Fr.drewN ?_ _) | (with_reducible refine Fr.drew ?_) | (with_reducible refine Fr.alloc ?_ _) | (with_reducible refine Fr.setCell ?_ (by (first | (with_reducible assumption) | omega | (simp only [World.size_alloc, World.size_setCell, World.size_drew, World.heap_drewN]; omega) | (simp; done) | (simp; omega))) _) | (with_reducible refine Fr.trans ?_ (by with_reducible assumption)))))).mono ?_
  rintro e w2 ⟨rfl, hf2⟩
  rw [HD.out]
  have BD := BD.fr hf2; have BA := BA.fr hf2; have BR := BR.fr hf2
  have z2 := hf2.size
  clear FD FA FRR
  have FD := BD.facts; have FA := BA.facts; have FRR := BR.facts
  go_wp2_with fail
  refine (actFits_any ⟨1, nm, tx, to⟩ _).mono ?_
  rintro e w3 ⟨rfl, hf3⟩
  rw [HF.out]
  have BD := BD.fr hf3; have BA := BA.fr hf3; have BR := BR.fr hf3
  have z3 := hf3.size
  clear FD FA FRR
  have FD := BD.facts; have FA := BA.facts; have FRR := BR.facts
  go_wp2_with fail
  refine (copyDisk_any _ ⟨xs⟩ _ ⟨_, rfl, HU.out.fr (by repeat (first | (with_reducible exact Fr.refl _) | (with_reducible assumption) | (with_reducible refine Fr.drewN ?_ _) | (with_reducible refine Fr.drew ?_) | (with_reducible refine Fr.alloc ?_ _) | (with_reducible refine Fr.setCell ?_ (by (first | (with_reducible assumption) | omega | (simp only [World.size_alloc, World.size_setCell, World.size_drew, World.heap_drewN]; omega) | (simp; done) | (simp; omega))) _) | (with_reducible refine Fr.trans ?_ (by with_reducible assumption))))⟩ (by show xs.length ≤ _; omega)).mono ?_
  rintro e w4 ⟨ao4, cap4, rfl, hl4, hf4⟩
  simp only [] at hl4
  obtain ⟨_, _, h4, hl4⟩ := hl4
  cases h4
  have BD := BD.fr hf4; have BA := BA.fr hf4; have BR := BR.fr hf4
  have z4 := hf4.size
  clear FD FA FRR
  have FD := BD.facts; have FA := BA.facts; have FRR := BR.facts
  have HO4 := Lib.hid hl4.1
  have HR4 := Lib.hid hl4.2
  simp only [] at HO4 HR4
  clear hl4
  obtain ⟨rfl, hb0, f0⟩ := F0.out (by omega)
  have fk := f0 j hj
  rw [HX.out] at fk
  obtain ⟨g0, g1, g2⟩ := fk
  have hfw4 : Fr w w4 := by repeat (first | (with_reducible exact Fr.refl _) | (with_reducible assumption) | (with_reducible refine Fr.drewN ?_ _) | (with_reducible refine Fr.drew ?_) | (with_reducible refine Fr.alloc ?_ _) | (with_reducible refine Fr.setCell ?_ (by (first | (with_reducible assumption) | omega | (simp only [World.size_alloc, World.size_setCell, World.size_drew, World.heap_drewN]; omega) | (simp; done) | (simp; omega))) _) | (with_reducible refine Fr.trans ?_ (by with_reducible assumption)))
  have q0 := (hfw4.cell (p := ⟨b0, _, none⟩) hb0).trans g0
  have q1 := (hfw4.cell (p := ⟨b0, _, none⟩) hb0).trans g1
  have q2 := (hfw4.cell (p := ⟨b0, _, none⟩) hb0).trans g2
  have hb4 : b0 < w4.heap.size := Nat.lt_of_lt_of_le hb0 hfw4.size
  clear g0 g1 g2 f0
  go_wp2_with fail
  generalize x.f1 ++ tx = s at HO ⊢
  have B7 : Box ((w4.alloc (.cells #[.slice ao4 xs.length cap4] 46)).alloc (.cells #[.string x.f0, .string s, .int .i64 x.f2] 147)) w4.heap.size #[.slice ao4 xs.length cap4] 46 := (Box.new _ _ _).alloc _
  have ho4 : ((w4.alloc (.cells #[.slice ao4 xs.length cap4] 46)).alloc (.cells #[.string x.f0, .string s, .int .i64 x.f2] 147)).ownsRow w3.heap.size 147 3 (.slice ao4 xs.length cap4) xs.length (xs.flatMap FileR.cells) := owns_fr HO4.out (by repeat (first | (with_reducible exact Fr.refl _) | (with_reducible assumption) | (with_reducible refine Fr.drewN ?_ _) | (with_reducible refine Fr.drew ?_) | (with_reducible refine Fr.alloc ?_ _) | (with_reducible refine Fr.setCell ?_ (by (first | (with_reducible assumption) | omega | (simp only [World.size_alloc, World.size_setCell, World.size_drew, World.heap_drewN]; omega) | (simp; done) | (simp; omega))) _) | (with_reducible refine Fr.trans ?_ (by with_reducible assumption))))
  have hne : some w4.heap.size ≠ (Value.slice ao4 xs.length cap4).ownBlock := fun e => by have := HR4.out _ e.symm; omega
  refine (insertFile_any w3.heap.size w4.heap.size _ xs ⟨x.f0, s, x.f2⟩ _ B7 ho4 hne (by simp only [World.size_alloc]; omega) (by omega) HS.out).mono ?_
  rintro e w5 ⟨⟨u, rfl⟩, ao5, cap5, B7, ho5, ht5⟩
  have z5 := ht5.size
  (try simp only [World.size_alloc] at z5)
  have hfx : Fr w w5 := ht5.fr (show Fr w _ by repeat (first | (with_reducible exact Fr.refl _) | (with_reducible assumption) | (with_reducible refine Fr.drewN ?_ _) | (with_reducible refine Fr.drew ?_) | (with_reducible refine Fr.alloc ?_ _) | (with_reducible refine Fr.setCell ?_ (by (first | (with_reducible assumption) | omega | (simp only [World.size_alloc, World.size_setCell, World.size_drew, World.heap_drewN]; omega) | (simp; done) | (simp; omega))) _) | (with_reducible refine Fr.trans ?_ (by with_reducible assumption)))) (by omega) (fun g hg => by have := HR4.out g hg; omega)
  have BR : Box w5 (w.heap.size + 1 + 1) #[.slice none 0 0] 46 := ht5.box ((BR.alloc _).alloc _) (by omega) (fun e => by have := HR4.out _ e.symm; omega)
  clear FD FA FRR
  have hln : (putF xs ⟨x.f0, s, x.f2⟩).length = (putF xs ⟨x.f0, s, x.f2⟩).length := rfl
  generalize putF xs ⟨x.f0, s, x.f2⟩ = ys at B7 ho5 HO hln ⊢
  clear hln
  have HO5 := Lib.hid ho5
  clear ho5
  have F7 := B7.facts
  have FRR := BR.facts
  go_wp2_with fail
  refine (implDiskOk_any _ ys _ (RdS.fr (RdS.of_owns HO5.out) (by repeat (first | (with_reducible exact Fr.refl _) | (with_reducible assumption) | (with_reducible refine Fr.drewN ?_ _) | (with_reducible refine Fr.drew ?_) | (with_reducible refine Fr.alloc ?_ _) | (with_reducible refine Fr.setCell ?_ (by (first | (with_reducible assumption) | omega | (simp only [World.size_alloc, World.size_setCell, World.size_drew, World.heap_drewN]; omega) | (simp; done) | (simp; omega))) _) | (with_reducible refine Fr.trans ?_ (by with_reducible assumption)))))).mono ?_
  rintro e w6 ⟨rfl, hf6⟩
  have z6 := hf6.size
  have BR := BR.fr hf6; have B7 := B7.fr hf6
  clear F7 FRR
  have F7 := B7.facts
  have FRR := BR.facts
  have HO6 : Hid (w6.ownsRow _ 147 3 _ _ _) := owns_fr HO5.out hf6
  cases hd2 : diskB ys
  · have HB : Hid (doB xs ⟨1, nm, tx, to⟩ = false) := (doB_some HD.out HF.out HO.out).trans hd2
    have HL := Lib.hid (doL_no HB.out)
    clear hd2
    go_wp2_with fail
    all_goals
      rw [HL.out, HB.out]
      refine bodyPost_ret (v := .tuple #[.agg #[.slice none 0 0], .bool false]) (by simp [results, Try.results173, go_sem, *]) rfl ⟨none, 0, rfl, FilesW.nil _ _ _, by repeat (first | (with_reducible exact Fr.refl _) | (with_reducible assumption) | (with_reducible refine Fr.drewN ?_ _) | (with_reducible refine Fr.drew ?_) | (with_reducible refine Fr.alloc ?_ _) | (with_reducible refine Fr.setCell ?_ (by (first | (with_reducible assumption) | omega | (simp only [World.size_alloc, World.size_setCell, World.size_drew, World.heap_drewN]; omega) | (simp; done) | (simp; omega))) _) | (with_reducible refine Fr.trans ?_ (by with_reducible assumption)))⟩
  · have HB : Hid (doB xs ⟨1, nm, tx, to⟩ = true) := (doB_some HD.out HF.out HO.out).trans hd2
    have HL := Lib.hid (doL_some HD.out HF.out HO.out hd2)
    clear hd2
    go_wp2_with fail
    rw [HL.out, HB.out]
    refine bodyPost_ret (v := .tuple #[.agg #[.slice ao5 ys.length cap5], .bool true]) (by simp [results, Try.results173, go_sem, *]) rfl ⟨ao5, cap5, rfl, ?_, by repeat (first | (with_reducible exact Fr.refl _) | (with_reducible assumption) | (with_reducible refine Fr.drewN ?_ _) | (with_reducible refine Fr.drew ?_) | (with_reducible refine Fr.alloc ?_ _) | (with_reducible refine Fr.setCell ?_ (by (first | (with_reducible assumption) | omega | (simp only [World.size_alloc, World.size_setCell, World.size_drew, World.heap_drewN]; omega) | (simp; done) | (simp; omega))) _) | (with_reducible refine Fr.trans ?_ (by with_reducible assumption)))⟩
    have o6 : FilesW w6 w3.heap.size w6.heap.size (.slice ao5 ys.length cap5) ys := OwW.of_owns HO6.out
    refine OwW.mono (lo := w3.heap.size) (hi := w6.heap.size) ?_ (by omega) (by (try simp only [World.size_setCell]); omega)
    change OwW _ _ _ _ _ _ _ _; (repeat (first | (with_reducible refine OwW.drewN ?_ _) | (with_reducible refine OwW.drew ?_) | (with_reducible refine OwW.alloc ?_ _) | (with_reducible refine OwW.set ?_ (by (first | (with_reducible assumption) | omega | (simp only [World.size_alloc, World.size_setCell, World.size_drew, World.heap_drewN]; omega) | (simp; done) | (simp; omega))) _) | (exact o6)))
/-! The program's DoAct, part 3. Condition: bounds on what is read, which the laws pay. (Printed by mk_acti.py.) -/
set_option maxHeartbeats 4000000 in
set_option maxRecDepth 100000 in
theorem ida_keep (xs : List FileR) (nm tx to : ByteArray) (hn : xs.length ≤ 1048576) (ha : tx.size ≤ 1048576) (a0 : Option Addr) (b0 o0 c0 : Nat) (w : World) (HU : Hid (FilesR w (.slice a0 xs.length c0) xs)) (F0 : Hid (FilesAt w xs a0 b0 o0)) (HD : Hid (diskB xs = true)) (HF : Hid (fitsB ⟨2, nm, tx, to⟩ = true)) (j : Nat) (hj : j < xs.length) (hhit : fIx xs nm = (j : Int)) : IDA xs 2 nm tx to a0 c0 w := by
  unfold IDA
  have HFI := Lib.hid (fun j (hj : j < xs.length) => diskB_file HD.out hj)
  have hlen := diskB_len HD.out
  have HS := Lib.hid (sorted_of HD.out)
  have HK : Hid (fIx xs nm = (j : Int)) := hhit
  have HNM := Lib.hid (fIx_name hhit).2
  obtain ⟨x, hx⟩ : ∃ x, fileAt xs j = x := ⟨_, rfl⟩
  have HX := Lib.hid hx
  have HAX : Hid (∀ q tx to, actX xs ⟨q, nm, tx, to⟩ = x) := fun q tx to => by unfold actX; simp only []; rw [hhit, Int.toNat_natCast]; exact hx
  obtain ⟨hx1, hx2, hx3⟩ := HFI.out j hj
  rw [hx] at hx1 hx2 hx3
  have hneg : ¬ fIx xs nm < 0 := by rw [hhit]; omega
  have HNG := Lib.hid hneg
  clear hx hhit hneg
  have HO : Hid (outA xs ⟨2, nm, tx, to⟩ = some (putF xs ⟨x.f0, x.f1, x.f1.size⟩)) := by show _ = _; unfold outA; simp only []; rw [if_neg (by omega), if_neg HNG.out, if_pos trivial, HAX.out]
  have HP := Lib.hid (putF_same (f := ⟨x.f0, x.f1, (x.f1.size : Int)⟩) HS.out hj (by have := less_before HS.out hj; rw [HX.out] at this; exact this) (by rw [HX.out]))
  rw [HP.out] at HO
  go_enter Try.func173, Try.ntmps173
  go_wp2_with fail
  refine (fileIndex_any _ xs nm _ (HU.out.fr (by repeat (first | (with_reducible exact Fr.refl _) | (with_reducible assumption) | (with_reducible refine Fr.drewN ?_ _) | (with_reducible refine Fr.drew ?_) | (with_reducible refine Fr.alloc ?_ _) | (with_reducible refine Fr.setCell ?_ (by (first | (with_reducible assumption) | omega | (simp only [World.size_alloc, World.size_setCell, World.size_drew, World.heap_drewN]; omega) | (simp; done) | (simp; omega))) _) | (with_reducible refine Fr.trans ?_ (by with_reducible assumption)))))).mono ?_
  rintro e w1 ⟨rfl, hf1⟩
  rw [HK.out]
  have BD : Box w1 w.heap.size #[.slice a0 xs.length c0] 46 := (((Box.new _ _ _).alloc _).alloc _).fr hf1
  have BA : Box w1 (w.heap.size + 1) #[.int .i64 2, .string nm, .string tx, .string to] 145 := ((Box.new' (w := w.alloc (.cells #[.slice a0 xs.length c0] 46)) (by simp)).alloc _).fr hf1
  have BR : Box w1 (w.heap.size + 1 + 1) #[.slice none 0 0] 46 := (Box.new' (w := (w.alloc (.cells #[.slice a0 xs.length c0] 46)).alloc (.cells #[.int .i64 2, .string nm, .string tx, .string to] 145)) (by simp)).fr hf1
  have FD := BD.facts; have FA := BA.facts; have FRR := BR.facts
  have z1 := hf1.size; (try simp only [World.size_alloc, World.size_setCell, World.size_drew] at z1)
  go_wp2_with fail
  refine (implDiskOk_any _ xs _ (HU.out.fr (by repeat (first | (with_reducible exact Fr.refl _) | (with_reducible assumption) | (with_reducible refine Fr.drewN ?_ _) | (with_reducible refine Fr.drew ?_) | (with_reducible refine Fr.alloc ?_ _) | (with_reducible refine Fr.setCell ?_ (by (first | (with_reducible assumption) | omega | (simp only [World.size_alloc, World.size_setCell, World.size_drew, World.heap_drewN]; omega) | (simp; done) | (simp; omega))) _) | (with_reducible refine Fr.trans ?_ (by with_reducible assumption)))))).mono ?_
  rintro e w2 ⟨rfl, hf2⟩
  rw [HD.out]
  have BD := BD.fr hf2; have BA := BA.fr hf2; have BR := BR.fr hf2
  have z2 := hf2.size
  clear FD FA FRR
  have FD := BD.facts; have FA := BA.facts; have FRR := BR.facts
  go_wp2_with fail
  refine (actFits_any ⟨2, nm, tx, to⟩ _).mono ?_
  rintro e w3 ⟨rfl, hf3⟩
  rw [HF.out]
  have BD := BD.fr hf3; have BA := BA.fr hf3; have BR := BR.fr hf3
  have z3 := hf3.size
  clear FD FA FRR
  have FD := BD.facts; have FA := BA.facts; have FRR := BR.facts
  go_wp2_with fail
  refine (copyDisk_any _ ⟨xs⟩ _ ⟨_, rfl, HU.out.fr (by repeat (first | (with_reducible exact Fr.refl _) | (with_reducible assumption) | (with_reducible refine Fr.drewN ?_ _) | (with_reducible refine Fr.drew ?_) | (with_reducible refine Fr.alloc ?_ _) | (with_reducible refine Fr.setCell ?_ (by (first | (with_reducible assumption) | omega | (simp only [World.size_alloc, World.size_setCell, World.size_drew, World.heap_drewN]; omega) | (simp; done) | (simp; omega))) _) | (with_reducible refine Fr.trans ?_ (by with_reducible assumption))))⟩ (by show xs.length ≤ _; omega)).mono ?_
  rintro e w4 ⟨ao4, cap4, rfl, hl4, hf4⟩
  simp only [] at hl4
  obtain ⟨_, _, h4, hl4⟩ := hl4
  cases h4
  have BD := BD.fr hf4; have BA := BA.fr hf4; have BR := BR.fr hf4
  have z4 := hf4.size
  clear FD FA FRR
  have FD := BD.facts; have FA := BA.facts; have FRR := BR.facts
  have HO4 := Lib.hid hl4.1
  have HR4 := Lib.hid hl4.2
  simp only [] at HO4 HR4
  clear hl4
  obtain ⟨rfl, hb0, f0⟩ := F0.out (by omega)
  have fk := f0 j hj
  rw [HX.out] at fk
  obtain ⟨g0, g1, g2⟩ := fk
  have hfw4 : Fr w w4 := by repeat (first | (with_reducible exact Fr.refl _) | (with_reducible assumption) | (with_reducible refine Fr.drewN ?_ _) | (with_reducible refine Fr.drew ?_) | (with_reducible refine Fr.alloc ?_ _) | (with_reducible refine Fr.setCell ?_ (by (first | (with_reducible assumption) | omega | (simp only [World.size_alloc, World.size_setCell, World.size_drew, World.heap_drewN]; omega) | (simp; done) | (simp; omega))) _) | (with_reducible refine Fr.trans ?_ (by with_reducible assumption)))
  have q0 := (hfw4.cell (p := ⟨b0, _, none⟩) hb0).trans g0
  have q1 := (hfw4.cell (p := ⟨b0, _, none⟩) hb0).trans g1
  have q2 := (hfw4.cell (p := ⟨b0, _, none⟩) hb0).trans g2
  have hb4 : b0 < w4.heap.size := Nat.lt_of_lt_of_le hb0 hfw4.size
  clear g0 g1 g2 f0
  obtain ⟨g, rfl⟩ : ∃ g, ao4 = some ⟨g, 0, none⟩ := by rcases HO4.out.2 with ⟨h, h0⟩ | ⟨g, c, cur, h, _⟩; omega; (simp only [Value.slice.injEq] at h; exact ⟨g, h.1⟩)
  have hgr := HR4.out g rfl
  obtain ⟨_, gg, og, _, hvv, _, _, fy⟩ := FilesR.one (RdS.of_owns HO4.out)
  cases hvv
  obtain ⟨hgo, _, fy⟩ := fy (by omega)
  cases hgo
  obtain ⟨r0, r1, r2⟩ := fy j hj
  clear fy
  simp only [Nat.zero_add] at r0 r1 r2
  rw [HX.out] at r0 r1 r2
  have hfz := HO4.out.frozenAt (j * 3 + 2)
  have hgs := hgr.2
  have HKC := Lib.hid (keep_cells (v := (x.f1.size : Int)) hj HX.out)
  have HLS : Hid ((xs.set j (⟨x.f0, x.f1, (x.f1.size : Int)⟩ : FileR)).length = xs.length) := by show _ = _; simp
  go_wp2_with fail
  go_region
  all_goals
    have B7 : Box (((w4.setCell ⟨g, j * 3 + 2, none⟩ (.int .i64 (x.f1.size : Int))).alloc (.cells #[.slice (some ⟨g, 0, none⟩) xs.length cap4] 46)).drew) w4.heap.size #[.slice (some ⟨g, 0, none⟩) xs.length cap4] 46 := (Box.new' (by simp)).drew
    have ho5 := owns_fr (HO4.out.stored (j * 3 + 2) (.int .i64 (x.f1.size : Int))).1 (((Fr.refl _).alloc (.cells #[.slice (some ⟨g, 0, none⟩) xs.length cap4] 46)).drew)
    have BR : Box (((w4.setCell ⟨g, j * 3 + 2, none⟩ (.int .i64 (x.f1.size : Int))).alloc (.cells #[.slice (some ⟨g, 0, none⟩) xs.length cap4] 46)).drew) (w.heap.size + 1 + 1) #[.slice none 0 0] 46 := ((box_far BR (by omega) _).alloc _).drew
    have hf5 : Fr w (((w4.setCell ⟨g, j * 3 + 2, none⟩ (.int .i64 (x.f1.size : Int))).alloc (.cells #[.slice (some ⟨g, 0, none⟩) xs.length cap4] 46)).drew) := by repeat (first | (with_reducible exact Fr.refl _) | (with_reducible assumption) | (with_reducible refine Fr.drewN ?_ _) | (with_reducible refine Fr.drew ?_) | (with_reducible refine Fr.alloc ?_ _) | (with_reducible refine Fr.setCell ?_ (by (first | (with_reducible assumption) | omega | (simp only [World.size_alloc, World.size_setCell, World.size_drew, World.heap_drewN]; omega) | (simp; done) | (simp; omega))) _) | (with_reducible refine Fr.trans ?_ (by with_reducible assumption)))
    have z5 : w4.heap.size + 1 ≤ (((w4.setCell ⟨g, j * 3 + 2, none⟩ (.int .i64 (x.f1.size : Int))).alloc (.cells #[.slice (some ⟨g, 0, none⟩) xs.length cap4] 46)).drew).heap.size := by simp [World.drew]
    generalize (((w4.setCell ⟨g, j * 3 + 2, none⟩ (.int .i64 (x.f1.size : Int))).alloc (.cells #[.slice (some ⟨g, 0, none⟩) xs.length cap4] 46)).drew) = w5 at B7 ho5 BR hf5 z5 ⊢
    rw [← HKC.out] at ho5
    rw [← HLS.out] at B7 ho5 ⊢
    clear FD FA FRR
    have hln : (xs.set j ⟨x.f0, x.f1, (x.f1.size : Int)⟩).length = (xs.set j ⟨x.f0, x.f1, (x.f1.size : Int)⟩).length := rfl
    generalize xs.set j ⟨x.f0, x.f1, (x.f1.size : Int)⟩ = ys at B7 ho5 HO hln ⊢
    clear hln
    have HO5 := Lib.hid ho5
    clear ho5
    have F7 := B7.facts
    have FRR := BR.facts
    go_wp2_with fail
    refine (implDiskOk_any _ ys _ (RdS.fr (RdS.of_owns HO5.out) (by repeat (first | (with_reducible exact Fr.refl _) | (with_reducible assumption) | (with_reducible refine Fr.drewN ?_ _) | (with_reducible refine Fr.drew ?_) | (with_reducible refine Fr.alloc ?_ _) | (with_reducible refine Fr.setCell ?_ (by (first | (with_reducible assumption) | omega | (simp only [World.size_alloc, World.size_setCell, World.size_drew, World.heap_drewN]; omega) | (simp; done) | (simp; omega))) _) | (with_reducible refine Fr.trans ?_ (by with_reducible assumption)))))).mono ?_
    rintro e w6 ⟨rfl, hf6⟩
    have z6 := hf6.size
    have BR := BR.fr hf6; have B7 := B7.fr hf6
    clear F7 FRR
    have F7 := B7.facts
    have FRR := BR.facts
    have HO6 : Hid (w6.ownsRow _ 147 3 _ _ _) := owns_fr HO5.out hf6
    cases hd2 : diskB ys
    · have HB : Hid (doB xs ⟨2, nm, tx, to⟩ = false) := (doB_some HD.out HF.out HO.out).trans hd2
      have HL := Lib.hid (doL_no HB.out)
      clear hd2
      go_wp2_with fail
      all_goals
        rw [HL.out, HB.out]
        refine bodyPost_ret (v := .tuple #[.agg #[.slice none 0 0], .bool false]) (by simp [results, Try.results173, go_sem, *]) rfl ⟨none, 0, rfl, FilesW.nil _ _ _, by repeat (first | (with_reducible exact Fr.refl _) | (with_reducible assumption) | (with_reducible refine Fr.drewN ?_ _) | (with_reducible refine Fr.drew ?_) | (with_reducible refine Fr.alloc ?_ _) | (with_reducible refine Fr.setCell ?_ (by (first | (with_reducible assumption) | omega | (simp only [World.size_alloc, World.size_setCell, World.size_drew, World.heap_drewN]; omega) | (simp; done) | (simp; omega))) _) | (with_reducible refine Fr.trans ?_ (by with_reducible assumption)))⟩
    · have HB : Hid (doB xs ⟨2, nm, tx, to⟩ = true) := (doB_some HD.out HF.out HO.out).trans hd2
      have HL := Lib.hid (doL_some HD.out HF.out HO.out hd2)
      clear hd2
      go_wp2_with fail
      rw [HL.out, HB.out]
      refine bodyPost_ret (v := .tuple #[.agg #[.slice (some ⟨g, 0, none⟩) ys.length cap4], .bool true]) (by simp [results, Try.results173, go_sem, *]) rfl ⟨(some ⟨g, 0, none⟩), cap4, rfl, ?_, by repeat (first | (with_reducible exact Fr.refl _) | (with_reducible assumption) | (with_reducible refine Fr.drewN ?_ _) | (with_reducible refine Fr.drew ?_) | (with_reducible refine Fr.alloc ?_ _) | (with_reducible refine Fr.setCell ?_ (by (first | (with_reducible assumption) | omega | (simp only [World.size_alloc, World.size_setCell, World.size_drew, World.heap_drewN]; omega) | (simp; done) | (simp; omega))) _) | (with_reducible refine Fr.trans ?_ (by with_reducible assumption)))⟩
      have o6 : FilesW w6 w3.heap.size w6.heap.size (.slice (some ⟨g, 0, none⟩) ys.length cap4) ys := OwW.of_owns HO6.out
      refine OwW.mono (lo := w3.heap.size) (hi := w6.heap.size) ?_ (by omega) (by (try simp only [World.size_setCell]); omega)
      change OwW _ _ _ _ _ _ _ _; (repeat (first | (with_reducible refine OwW.drewN ?_ _) | (with_reducible refine OwW.drew ?_) | (with_reducible refine OwW.alloc ?_ _) | (with_reducible refine OwW.set ?_ (by (first | (with_reducible assumption) | omega | (simp only [World.size_alloc, World.size_setCell, World.size_drew, World.heap_drewN]; omega) | (simp; done) | (simp; omega))) _) | (exact o6)))
/-! The program's DoAct, part 4. Condition: bounds on what is read, which the laws pay. (Printed by mk_acti.py.) -/
set_option maxHeartbeats 4000000 in
set_option maxRecDepth 100000 in
theorem ida_drop (xs : List FileR) (nm tx to : ByteArray) (hn : xs.length ≤ 1048576) (ha : tx.size ≤ 1048576) (a0 : Option Addr) (b0 o0 c0 : Nat) (w : World) (HU : Hid (FilesR w (.slice a0 xs.length c0) xs)) (F0 : Hid (FilesAt w xs a0 b0 o0)) (HD : Hid (diskB xs = true)) (HF : Hid (fitsB ⟨4, nm, tx, to⟩ = true)) (j : Nat) (hj : j < xs.length) (hhit : fIx xs nm = (j : Int)) : IDA xs 4 nm tx to a0 c0 w := by
  unfold IDA
  have HFI := Lib.hid (fun j (hj : j < xs.length) => diskB_file HD.out hj)
  have hlen := diskB_len HD.out
  have HS := Lib.hid (sorted_of HD.out)
  have HK : Hid (fIx xs nm = (j : Int)) := hhit
  have HNM := Lib.hid (fIx_name hhit).2
  obtain ⟨x, hx⟩ : ∃ x, fileAt xs j = x := ⟨_, rfl⟩
  have HX := Lib.hid hx
  have HAX : Hid (∀ q tx to, actX xs ⟨q, nm, tx, to⟩ = x) := fun q tx to => by unfold actX; simp only []; rw [hhit, Int.toNat_natCast]; exact hx
  obtain ⟨hx1, hx2, hx3⟩ := HFI.out j hj
  rw [hx] at hx1 hx2 hx3
  have hneg : ¬ fIx xs nm < 0 := by rw [hhit]; omega
  have HNG := Lib.hid hneg
  clear hx hhit hneg
  have HO : Hid (outA xs ⟨4, nm, tx, to⟩ = some (woF xs nm)) := by show _ = _; unfold outA; simp only []; rw [if_neg (by omega), if_neg HNG.out, if_neg (by omega), if_neg (by omega)]
  have HP := Lib.hid (erase_wo HS.out hj HNM.out)
  rw [← HP.out] at HO
  have HLE := Lib.hid (List.length_eraseIdx_of_lt hj)
  go_enter Try.func173, Try.ntmps173
  go_wp2_with fail
  refine (fileIndex_any _ xs nm _ (HU.out.fr (by repeat (first | (with_reducible exact Fr.refl _) | (with_reducible assumption) | (with_reducible refine Fr.drewN ?_ _) | (with_reducible refine Fr.drew ?_) | (with_reducible refine Fr.alloc ?_ _) | (with_reducible refine Fr.setCell ?_ (by (first | (with_reducible assumption) | omega | (simp only [World.size_alloc, World.size_setCell, World.size_drew, World.heap_drewN]; omega) | (simp; done) | (simp; omega))) _) | (with_reducible refine Fr.trans ?_ (by with_reducible assumption)))))).mono ?_
  rintro e w1 ⟨rfl, hf1⟩
  rw [HK.out]
  have BD : Box w1 w.heap.size #[.slice a0 xs.length c0] 46 := (((Box.new _ _ _).alloc _).alloc _).fr hf1
  have BA : Box w1 (w.heap.size + 1) #[.int .i64 4, .string nm, .string tx, .string to] 145 := ((Box.new' (w := w.alloc (.cells #[.slice a0 xs.length c0] 46)) (by simp)).alloc _).fr hf1
  have BR : Box w1 (w.heap.size + 1 + 1) #[.slice none 0 0] 46 := (Box.new' (w := (w.alloc (.cells #[.slice a0 xs.length c0] 46)).alloc (.cells #[.int .i64 4, .string nm, .string tx, .string to] 145)) (by simp)).fr hf1
  have FD := BD.facts; have FA := BA.facts; have FRR := BR.facts
  have z1 := hf1.size; (try simp only [World.size_alloc, World.size_setCell, World.size_drew] at z1)
  go_wp2_with fail
  refine (implDiskOk_any _ xs _ (HU.out.fr (by repeat (first | (with_reducible exact Fr.refl _) | (with_reducible assumption) | (with_reducible refine Fr.drewN ?_ _) | (with_reducible refine Fr.drew ?_) | (with_reducible refine Fr.alloc ?_ _) | (with_reducible refine Fr.setCell ?_ (by (first | (with_reducible assumption) | omega | (simp only [World.size_alloc, World.size_setCell, World.size_drew, World.heap_drewN]; omega) | (simp; done) | (simp; omega))) _) | (with_reducible refine Fr.trans ?_ (by with_reducible assumption)))))).mono ?_
  rintro e w2 ⟨rfl, hf2⟩
  rw [HD.out]
  have BD := BD.fr hf2; have BA := BA.fr hf2; have BR := BR.fr hf2
  have z2 := hf2.size
  clear FD FA FRR
  have FD := BD.facts; have FA := BA.facts; have FRR := BR.facts
  go_wp2_with fail
  refine (actFits_any ⟨4, nm, tx, to⟩ _).mono ?_
  rintro e w3 ⟨rfl, hf3⟩
  rw [HF.out]
  have BD := BD.fr hf3; have BA := BA.fr hf3; have BR := BR.fr hf3
  have z3 := hf3.size
  clear FD FA FRR
  have FD := BD.facts; have FA := BA.facts; have FRR := BR.facts
  go_wp2_with fail
  refine (copyDisk_any _ ⟨xs⟩ _ ⟨_, rfl, HU.out.fr (by repeat (first | (with_reducible exact Fr.refl _) | (with_reducible assumption) | (with_reducible refine Fr.drewN ?_ _) | (with_reducible refine Fr.drew ?_) | (with_reducible refine Fr.alloc ?_ _) | (with_reducible refine Fr.setCell ?_ (by (first | (with_reducible assumption) | omega | (simp only [World.size_alloc, World.size_setCell, World.size_drew, World.heap_drewN]; omega) | (simp; done) | (simp; omega))) _) | (with_reducible refine Fr.trans ?_ (by with_reducible assumption))))⟩ (by show xs.length ≤ _; omega)).mono ?_
  rintro e w4 ⟨ao4, cap4, rfl, hl4, hf4⟩
  simp only [] at hl4
  obtain ⟨_, _, h4, hl4⟩ := hl4
  cases h4
  have BD := BD.fr hf4; have BA := BA.fr hf4; have BR := BR.fr hf4
  have z4 := hf4.size
  clear FD FA FRR
  have FD := BD.facts; have FA := BA.facts; have FRR := BR.facts
  have HO4 := Lib.hid hl4.1
  have HR4 := Lib.hid hl4.2
  simp only [] at HO4 HR4
  clear hl4
  obtain ⟨rfl, hb0, f0⟩ := F0.out (by omega)
  have fk := f0 j hj
  rw [HX.out] at fk
  obtain ⟨g0, g1, g2⟩ := fk
  have hfw4 : Fr w w4 := by repeat (first | (with_reducible exact Fr.refl _) | (with_reducible assumption) | (with_reducible refine Fr.drewN ?_ _) | (with_reducible refine Fr.drew ?_) | (with_reducible refine Fr.alloc ?_ _) | (with_reducible refine Fr.setCell ?_ (by (first | (with_reducible assumption) | omega | (simp only [World.size_alloc, World.size_setCell, World.size_drew, World.heap_drewN]; omega) | (simp; done) | (simp; omega))) _) | (with_reducible refine Fr.trans ?_ (by with_reducible assumption)))
  have q0 := (hfw4.cell (p := ⟨b0, _, none⟩) hb0).trans g0
  have q1 := (hfw4.cell (p := ⟨b0, _, none⟩) hb0).trans g1
  have q2 := (hfw4.cell (p := ⟨b0, _, none⟩) hb0).trans g2
  have hb4 : b0 < w4.heap.size := Nat.lt_of_lt_of_le hb0 hfw4.size
  clear g0 g1 g2 f0
  obtain ⟨g, rfl⟩ : ∃ g, ao4 = some ⟨g, 0, none⟩ := by rcases HO4.out.2 with ⟨h, h0⟩ | ⟨g, c, cur, h, _⟩; omega; (simp only [Value.slice.injEq] at h; exact ⟨g, h.1⟩)
  have hgr := HR4.out g rfl
  have hwj : IntKind.i64.wrap ((j : Int) + 1) = (j : Int) + 1 := IntWalk.i64_in _ (by omega)
  have hgs := hgr.2
  go_wp2_with fail
  refine (delete_any w3.heap.size g cap4 j xs _ (owns_fr HO4.out (by repeat (first | (with_reducible exact Fr.refl _) | (with_reducible assumption) | (with_reducible refine Fr.drewN ?_ _) | (with_reducible refine Fr.drew ?_) | (with_reducible refine Fr.alloc ?_ _) | (with_reducible refine Fr.setCell ?_ (by (first | (with_reducible assumption) | omega | (simp only [World.size_alloc, World.size_setCell, World.size_drew, World.heap_drewN]; omega) | (simp; done) | (simp; omega))) _) | (with_reducible refine Fr.trans ?_ (by with_reducible assumption))))) (by omega) hj).mono ?_
  rintro e w7 ⟨rfl, ho7, hgr7⟩
  have B7d : Box w7 w4.heap.size #[.slice (some ⟨g, 0, none⟩) xs.length cap4] 46 := (Box.new _ _ _).gr hgr7 (by simp; omega)
  have BR7 : Box w7 (w.heap.size + 1 + 1) #[.slice none 0 0] 46 := (BR.alloc _).gr hgr7 (by simp; omega)
  have hf7 : Fr w w7 := Fr.grown (show Fr w _ by repeat (first | (with_reducible exact Fr.refl _) | (with_reducible assumption) | (with_reducible refine Fr.drewN ?_ _) | (with_reducible refine Fr.drew ?_) | (with_reducible refine Fr.alloc ?_ _) | (with_reducible refine Fr.setCell ?_ (by (first | (with_reducible assumption) | omega | (simp only [World.size_alloc, World.size_setCell, World.size_drew, World.heap_drewN]; omega) | (simp; done) | (simp; omega))) _) | (with_reducible refine Fr.trans ?_ (by with_reducible assumption)))) hgr7 (fun k hk => by simp at hk; omega)
  have z7 := hgr7.size
  (try simp only [World.size_alloc] at z7)
  clear FD FA FRR
  have F7 := B7d.facts
  go_wp2_with fail
  have B7 : Box (w7.setCell ⟨w4.heap.size, 0, none⟩ (.slice (some ⟨g, 0, none⟩) (xs.length - 1) cap4)) w4.heap.size #[.slice (some ⟨g, 0, none⟩) (xs.length - 1) cap4] 46 := B7d.set_to (by simp)
  have ho5 : (w7.setCell ⟨w4.heap.size, 0, none⟩ (.slice (some ⟨g, 0, none⟩) (xs.length - 1) cap4)).ownsRow w3.heap.size 147 3 (.slice (some ⟨g, 0, none⟩) (xs.length - 1) cap4) (xs.length - 1) ((xs.eraseIdx j).flatMap FileR.cells) := owns_far ho7 (p := ⟨w4.heap.size, 0, none⟩) (fun e => by simp [Value.ownBlock] at e; omega) _
  have BR : Box (w7.setCell ⟨w4.heap.size, 0, none⟩ (.slice (some ⟨g, 0, none⟩) (xs.length - 1) cap4)) (w.heap.size + 1 + 1) #[.slice none 0 0] 46 := box_far BR7 (by omega) _
  have hf5 : Fr w (w7.setCell ⟨w4.heap.size, 0, none⟩ (.slice (some ⟨g, 0, none⟩) (xs.length - 1) cap4)) := by repeat (first | (with_reducible exact Fr.refl _) | (with_reducible assumption) | (with_reducible refine Fr.drewN ?_ _) | (with_reducible refine Fr.drew ?_) | (with_reducible refine Fr.alloc ?_ _) | (with_reducible refine Fr.setCell ?_ (by (first | (with_reducible assumption) | omega | (simp only [World.size_alloc, World.size_setCell, World.size_drew, World.heap_drewN]; omega) | (simp; done) | (simp; omega))) _) | (with_reducible refine Fr.trans ?_ (by with_reducible assumption)))
  have z5 : w4.heap.size + 1 ≤ (w7.setCell ⟨w4.heap.size, 0, none⟩ (.slice (some ⟨g, 0, none⟩) (xs.length - 1) cap4)).heap.size := by simp only [World.size_setCell]; omega
  generalize (w7.setCell ⟨w4.heap.size, 0, none⟩ (.slice (some ⟨g, 0, none⟩) (xs.length - 1) cap4)) = w5 at B7 ho5 BR hf5 z5 ⊢
  clear F7 B7d BR7 ho7 hgr7 hf7
  rw [← HLE.out] at B7 ho5 ⊢
  have hln : (xs.eraseIdx j).length = (xs.eraseIdx j).length := rfl
  generalize xs.eraseIdx j = ys at B7 ho5 HO hln ⊢
  clear hln
  have HO5 := Lib.hid ho5
  clear ho5
  have F7 := B7.facts
  have FRR := BR.facts
  go_wp2_with fail
  refine (implDiskOk_any _ ys _ (RdS.fr (RdS.of_owns HO5.out) (by repeat (first | (with_reducible exact Fr.refl _) | (with_reducible assumption) | (with_reducible refine Fr.drewN ?_ _) | (with_reducible refine Fr.drew ?_) | (with_reducible refine Fr.alloc ?_ _) | (with_reducible refine Fr.setCell ?_ (by (first | (with_reducible assumption) | omega | (simp only [World.size_alloc, World.size_setCell, World.size_drew, World.heap_drewN]; omega) | (simp; done) | (simp; omega))) _) | (with_reducible refine Fr.trans ?_ (by with_reducible assumption)))))).mono ?_
  rintro e w6 ⟨rfl, hf6⟩
  have z6 := hf6.size
  have BR := BR.fr hf6; have B7 := B7.fr hf6
  clear F7 FRR
  have F7 := B7.facts
  have FRR := BR.facts
  have HO6 : Hid (w6.ownsRow _ 147 3 _ _ _) := owns_fr HO5.out hf6
  cases hd2 : diskB ys
  · have HB : Hid (doB xs ⟨4, nm, tx, to⟩ = false) := (doB_some HD.out HF.out HO.out).trans hd2
    have HL := Lib.hid (doL_no HB.out)
    clear hd2
    go_wp2_with fail
    all_goals
      rw [HL.out, HB.out]
      refine bodyPost_ret (v := .tuple #[.agg #[.slice none 0 0], .bool false]) (by simp [results, Try.results173, go_sem, *]) rfl ⟨none, 0, rfl, FilesW.nil _ _ _, by repeat (first | (with_reducible exact Fr.refl _) | (with_reducible assumption) | (with_reducible refine Fr.drewN ?_ _) | (with_reducible refine Fr.drew ?_) | (with_reducible refine Fr.alloc ?_ _) | (with_reducible refine Fr.setCell ?_ (by (first | (with_reducible assumption) | omega | (simp only [World.size_alloc, World.size_setCell, World.size_drew, World.heap_drewN]; omega) | (simp; done) | (simp; omega))) _) | (with_reducible refine Fr.trans ?_ (by with_reducible assumption)))⟩
  · have HB : Hid (doB xs ⟨4, nm, tx, to⟩ = true) := (doB_some HD.out HF.out HO.out).trans hd2
    have HL := Lib.hid (doL_some HD.out HF.out HO.out hd2)
    clear hd2
    go_wp2_with fail
    rw [HL.out, HB.out]
    refine bodyPost_ret (v := .tuple #[.agg #[.slice (some ⟨g, 0, none⟩) ys.length cap4], .bool true]) (by simp [results, Try.results173, go_sem, *]) rfl ⟨(some ⟨g, 0, none⟩), cap4, rfl, ?_, by repeat (first | (with_reducible exact Fr.refl _) | (with_reducible assumption) | (with_reducible refine Fr.drewN ?_ _) | (with_reducible refine Fr.drew ?_) | (with_reducible refine Fr.alloc ?_ _) | (with_reducible refine Fr.setCell ?_ (by (first | (with_reducible assumption) | omega | (simp only [World.size_alloc, World.size_setCell, World.size_drew, World.heap_drewN]; omega) | (simp; done) | (simp; omega))) _) | (with_reducible refine Fr.trans ?_ (by with_reducible assumption)))⟩
    have o6 : FilesW w6 w3.heap.size w6.heap.size (.slice (some ⟨g, 0, none⟩) ys.length cap4) ys := OwW.of_owns HO6.out
    refine OwW.mono (lo := w3.heap.size) (hi := w6.heap.size) ?_ (by omega) (by (try simp only [World.size_setCell]); omega)
    change OwW _ _ _ _ _ _ _ _; (repeat (first | (with_reducible refine OwW.drewN ?_ _) | (with_reducible refine OwW.drew ?_) | (with_reducible refine OwW.alloc ?_ _) | (with_reducible refine OwW.set ?_ (by (first | (with_reducible assumption) | omega | (simp only [World.size_alloc, World.size_setCell, World.size_drew, World.heap_drewN]; omega) | (simp; done) | (simp; omega))) _) | (exact o6)))
/-! The program's DoAct, part 5. Condition: bounds on what is read, which the laws pay. (Printed by mk_acti.py.) -/
set_option maxHeartbeats 4000000 in
set_option maxRecDepth 100000 in
theorem ida_mv (xs : List FileR) (nm tx to : ByteArray) (hn : xs.length ≤ 1048576) (ha : tx.size ≤ 1048576) (a0 : Option Addr) (b0 o0 c0 : Nat) (w : World) (HU : Hid (FilesR w (.slice a0 xs.length c0) xs)) (F0 : Hid (FilesAt w xs a0 b0 o0)) (HD : Hid (diskB xs = true)) (HF : Hid (fitsB ⟨3, nm, tx, to⟩ = true)) (j : Nat) (hj : j < xs.length) (hhit : fIx xs nm = (j : Int)) (hkp : (fileAt xs j).f2 = ((fileAt xs j).f1.size : Int)) : IDA xs 3 nm tx to a0 c0 w := by
  unfold IDA
  have HFI := Lib.hid (fun j (hj : j < xs.length) => diskB_file HD.out hj)
  have hlen := diskB_len HD.out
  have HS := Lib.hid (sorted_of HD.out)
  have HK : Hid (fIx xs nm = (j : Int)) := hhit
  have HNM := Lib.hid (fIx_name hhit).2
  obtain ⟨x, hx⟩ : ∃ x, fileAt xs j = x := ⟨_, rfl⟩
  have HX := Lib.hid hx
  have HAX : Hid (∀ q tx to, actX xs ⟨q, nm, tx, to⟩ = x) := fun q tx to => by unfold actX; simp only []; rw [hhit, Int.toNat_natCast]; exact hx
  obtain ⟨hx1, hx2, hx3⟩ := HFI.out j hj
  rw [hx] at hx1 hx2 hx3
  have hneg : ¬ fIx xs nm < 0 := by rw [hhit]; omega
  have HNG := Lib.hid hneg
  clear hx hhit hneg
  rw [HX.out] at hkp
  have hkq : (x.f2 != (x.f1.size : Int)) = false := by simpa using hkp
  have HKP := Lib.hid hkp
  clear hkp
  have HO : Hid (outA xs ⟨3, nm, tx, to⟩ = some (putF (woF xs nm) ⟨to, x.f1, x.f2⟩)) := by show _ = _; unfold outA; simp only []; rw [if_neg (by omega), if_neg HNG.out, if_neg (by omega), if_pos trivial, HAX.out, if_pos HKP.out]
  have HP := Lib.hid (erase_wo HS.out hj HNM.out)
  rw [← HP.out] at HO
  have HLE := Lib.hid (List.length_eraseIdx_of_lt hj)
  go_enter Try.func173, Try.ntmps173
  go_wp2_with fail
  refine (fileIndex_any _ xs nm _ (HU.out.fr (by repeat (first | (with_reducible exact Fr.refl _) | (with_reducible assumption) | (with_reducible refine Fr.drewN ?_ _) | (with_reducible refine Fr.drew ?_) | (with_reducible refine Fr.alloc ?_ _) | (with_reducible refine Fr.setCell ?_ (by (first | (with_reducible assumption) | omega | (simp only [World.size_alloc, World.size_setCell, World.size_drew, World.heap_drewN]; omega) | (simp; done) | (simp; omega))) _) | (with_reducible refine Fr.trans ?_ (by with_reducible assumption)))))).mono ?_
  rintro e w1 ⟨rfl, hf1⟩
  rw [HK.out]
  have BD : Box w1 w.heap.size #[.slice a0 xs.length c0] 46 := (((Box.new _ _ _).alloc _).alloc _).fr hf1
  have BA : Box w1 (w.heap.size + 1) #[.int .i64 3, .string nm, .string tx, .string to] 145 := ((Box.new' (w := w.alloc (.cells #[.slice a0 xs.length c0] 46)) (by simp)).alloc _).fr hf1
  have BR : Box w1 (w.heap.size + 1 + 1) #[.slice none 0 0] 46 := (Box.new' (w := (w.alloc (.cells #[.slice a0 xs.length c0] 46)).alloc (.cells #[.int .i64 3, .string nm, .string tx, .string to] 145)) (by simp)).fr hf1
  have FD := BD.facts; have FA := BA.facts; have FRR := BR.facts
  have z1 := hf1.size; (try simp only [World.size_alloc, World.size_setCell, World.size_drew] at z1)
  go_wp2_with fail
  refine (implDiskOk_any _ xs _ (HU.out.fr (by repeat (first | (with_reducible exact Fr.refl _) | (with_reducible assumption) | (with_reducible refine Fr.drewN ?_ _) | (with_reducible refine Fr.drew ?_) | (with_reducible refine Fr.alloc ?_ _) | (with_reducible refine Fr.setCell ?_ (by (first | (with_reducible assumption) | omega | (simp only [World.size_alloc, World.size_setCell, World.size_drew, World.heap_drewN]; omega) | (simp; done) | (simp; omega))) _) | (with_reducible refine Fr.trans ?_ (by with_reducible assumption)))))).mono ?_
  rintro e w2 ⟨rfl, hf2⟩
  rw [HD.out]
  have BD := BD.fr hf2; have BA := BA.fr hf2; have BR := BR.fr hf2
  have z2 := hf2.size
  clear FD FA FRR
  have FD := BD.facts; have FA := BA.facts; have FRR := BR.facts
  go_wp2_with fail
  refine (actFits_any ⟨3, nm, tx, to⟩ _).mono ?_
  rintro e w3 ⟨rfl, hf3⟩
  rw [HF.out]
  have BD := BD.fr hf3; have BA := BA.fr hf3; have BR := BR.fr hf3
  have z3 := hf3.size
  clear FD FA FRR
  have FD := BD.facts; have FA := BA.facts; have FRR := BR.facts
  go_wp2_with fail
  refine (copyDisk_any _ ⟨xs⟩ _ ⟨_, rfl, HU.out.fr (by repeat (first | (with_reducible exact Fr.refl _) | (with_reducible assumption) | (with_reducible refine Fr.drewN ?_ _) | (with_reducible refine Fr.drew ?_) | (with_reducible refine Fr.alloc ?_ _) | (with_reducible refine Fr.setCell ?_ (by (first | (with_reducible assumption) | omega | (simp only [World.size_alloc, World.size_setCell, World.size_drew, World.heap_drewN]; omega) | (simp; done) | (simp; omega))) _) | (with_reducible refine Fr.trans ?_ (by with_reducible assumption))))⟩ (by show xs.length ≤ _; omega)).mono ?_
  rintro e w4 ⟨ao4, cap4, rfl, hl4, hf4⟩
  simp only [] at hl4
  obtain ⟨_, _, h4, hl4⟩ := hl4
  cases h4
  have BD := BD.fr hf4; have BA := BA.fr hf4; have BR := BR.fr hf4
  have z4 := hf4.size
  clear FD FA FRR
  have FD := BD.facts; have FA := BA.facts; have FRR := BR.facts
  have HO4 := Lib.hid hl4.1
  have HR4 := Lib.hid hl4.2
  simp only [] at HO4 HR4
  clear hl4
  obtain ⟨rfl, hb0, f0⟩ := F0.out (by omega)
  have fk := f0 j hj
  rw [HX.out] at fk
  obtain ⟨g0, g1, g2⟩ := fk
  have hfw4 : Fr w w4 := by repeat (first | (with_reducible exact Fr.refl _) | (with_reducible assumption) | (with_reducible refine Fr.drewN ?_ _) | (with_reducible refine Fr.drew ?_) | (with_reducible refine Fr.alloc ?_ _) | (with_reducible refine Fr.setCell ?_ (by (first | (with_reducible assumption) | omega | (simp only [World.size_alloc, World.size_setCell, World.size_drew, World.heap_drewN]; omega) | (simp; done) | (simp; omega))) _) | (with_reducible refine Fr.trans ?_ (by with_reducible assumption)))
  have q0 := (hfw4.cell (p := ⟨b0, _, none⟩) hb0).trans g0
  have q1 := (hfw4.cell (p := ⟨b0, _, none⟩) hb0).trans g1
  have q2 := (hfw4.cell (p := ⟨b0, _, none⟩) hb0).trans g2
  have hb4 : b0 < w4.heap.size := Nat.lt_of_lt_of_le hb0 hfw4.size
  clear g0 g1 g2 f0
  obtain ⟨g, rfl⟩ : ∃ g, ao4 = some ⟨g, 0, none⟩ := by rcases HO4.out.2 with ⟨h, h0⟩ | ⟨g, c, cur, h, _⟩; omega; (simp only [Value.slice.injEq] at h; exact ⟨g, h.1⟩)
  have hgr := HR4.out g rfl
  have hwj : IntKind.i64.wrap ((j : Int) + 1) = (j : Int) + 1 := IntWalk.i64_in _ (by omega)
  have hgs := hgr.2
  go_wp2_with fail
  refine (delete_any w3.heap.size g cap4 j xs _ (owns_fr HO4.out (by repeat (first | (with_reducible exact Fr.refl _) | (with_reducible assumption) | (with_reducible refine Fr.drewN ?_ _) | (with_reducible refine Fr.drew ?_) | (with_reducible refine Fr.alloc ?_ _) | (with_reducible refine Fr.setCell ?_ (by (first | (with_reducible assumption) | omega | (simp only [World.size_alloc, World.size_setCell, World.size_drew, World.heap_drewN]; omega) | (simp; done) | (simp; omega))) _) | (with_reducible refine Fr.trans ?_ (by with_reducible assumption))))) (by omega) hj).mono ?_
  rintro e w7 ⟨rfl, ho7, hgr7⟩
  have B7d : Box w7 w4.heap.size #[.slice (some ⟨g, 0, none⟩) xs.length cap4] 46 := ((Box.new _ _ _).alloc _).gr hgr7 (by simp; omega)
  have B9d : Box w7 (w4.heap.size + 1) #[.string to, .string x.f1, .int .i64 x.f2] 147 := (Box.new' (by simp)).gr hgr7 (by simp; omega)
  have BR7 : Box w7 (w.heap.size + 1 + 1) #[.slice none 0 0] 46 := ((BR.alloc _).alloc _).gr hgr7 (by simp; omega)
  have hf7 : Fr w w7 := Fr.grown (show Fr w _ by repeat (first | (with_reducible exact Fr.refl _) | (with_reducible assumption) | (with_reducible refine Fr.drewN ?_ _) | (with_reducible refine Fr.drew ?_) | (with_reducible refine Fr.alloc ?_ _) | (with_reducible refine Fr.setCell ?_ (by (first | (with_reducible assumption) | omega | (simp only [World.size_alloc, World.size_setCell, World.size_drew, World.heap_drewN]; omega) | (simp; done) | (simp; omega))) _) | (with_reducible refine Fr.trans ?_ (by with_reducible assumption)))) hgr7 (fun k hk => by simp at hk; omega)
  have z7 := hgr7.size
  (try simp only [World.size_alloc] at z7)
  clear FD FA FRR
  have F7 := B7d.facts
  have F9 := B9d.facts
  go_wp2_with fail
  have B7 : Box (w7.setCell ⟨w4.heap.size, 0, none⟩ (.slice (some ⟨g, 0, none⟩) (xs.length - 1) cap4)) w4.heap.size #[.slice (some ⟨g, 0, none⟩) (xs.length - 1) cap4] 46 := B7d.set_to (by simp)
  have ho8 : (w7.setCell ⟨w4.heap.size, 0, none⟩ (.slice (some ⟨g, 0, none⟩) (xs.length - 1) cap4)).ownsRow w3.heap.size 147 3 (.slice (some ⟨g, 0, none⟩) (xs.length - 1) cap4) (xs.length - 1) ((xs.eraseIdx j).flatMap FileR.cells) := owns_far ho7 (p := ⟨w4.heap.size, 0, none⟩) (fun e => by simp [Value.ownBlock] at e; omega) _
  have BR : Box (w7.setCell ⟨w4.heap.size, 0, none⟩ (.slice (some ⟨g, 0, none⟩) (xs.length - 1) cap4)) (w.heap.size + 1 + 1) #[.slice none 0 0] 46 := box_far BR7 (by omega) _
  have hf8 : Fr w (w7.setCell ⟨w4.heap.size, 0, none⟩ (.slice (some ⟨g, 0, none⟩) (xs.length - 1) cap4)) := by repeat (first | (with_reducible exact Fr.refl _) | (with_reducible assumption) | (with_reducible refine Fr.drewN ?_ _) | (with_reducible refine Fr.drew ?_) | (with_reducible refine Fr.alloc ?_ _) | (with_reducible refine Fr.setCell ?_ (by (first | (with_reducible assumption) | omega | (simp only [World.size_alloc, World.size_setCell, World.size_drew, World.heap_drewN]; omega) | (simp; done) | (simp; omega))) _) | (with_reducible refine Fr.trans ?_ (by with_reducible assumption)))
  have z8 : w4.heap.size + 1 + 1 ≤ (w7.setCell ⟨w4.heap.size, 0, none⟩ (.slice (some ⟨g, 0, none⟩) (xs.length - 1) cap4)).heap.size := by simp only [World.size_setCell]; omega
  generalize (w7.setCell ⟨w4.heap.size, 0, none⟩ (.slice (some ⟨g, 0, none⟩) (xs.length - 1) cap4)) = w8 at B7 ho8 BR hf8 z8 ⊢
  clear F7 F9 B7d B9d BR7 ho7 hgr7 hf7
  rw [← HLE.out] at B7 ho8
  refine (insertFile_any w3.heap.size w4.heap.size _ (xs.eraseIdx j) ⟨to, x.f1, x.f2⟩ _ B7 ho8 (fun e => by simp [Value.ownBlock] at e; omega) (by omega) (by have := HLE.out; omega) (sorted_erase HS.out j)).mono ?_
  rintro e w5 ⟨⟨u, rfl⟩, ao5, cap5, B7, ho5, ht5⟩
  have z5 := ht5.size
  have hfx : Fr w w5 := ht5.fr hf8 (by omega) (fun g hg => by simp [Value.ownBlock] at hg; omega)
  have BR : Box w5 (w.heap.size + 1 + 1) #[.slice none 0 0] 46 := ht5.box BR (by omega) (fun e => by simp [Value.ownBlock] at e; omega)
  have hln : (putF (xs.eraseIdx j) ⟨to, x.f1, x.f2⟩).length = (putF (xs.eraseIdx j) ⟨to, x.f1, x.f2⟩).length := rfl
  generalize putF (xs.eraseIdx j) ⟨to, x.f1, x.f2⟩ = ys at B7 ho5 HO hln ⊢
  clear hln
  have HO5 := Lib.hid ho5
  clear ho5
  have F7 := B7.facts
  have FRR := BR.facts
  go_wp2_with fail
  refine (implDiskOk_any _ ys _ (RdS.fr (RdS.of_owns HO5.out) (by repeat (first | (with_reducible exact Fr.refl _) | (with_reducible assumption) | (with_reducible refine Fr.drewN ?_ _) | (with_reducible refine Fr.drew ?_) | (with_reducible refine Fr.alloc ?_ _) | (with_reducible refine Fr.setCell ?_ (by (first | (with_reducible assumption) | omega | (simp only [World.size_alloc, World.size_setCell, World.size_drew, World.heap_drewN]; omega) | (simp; done) | (simp; omega))) _) | (with_reducible refine Fr.trans ?_ (by with_reducible assumption)))))).mono ?_
  rintro e w6 ⟨rfl, hf6⟩
  have z6 := hf6.size
  have BR := BR.fr hf6; have B7 := B7.fr hf6
  clear F7 FRR
  have F7 := B7.facts
  have FRR := BR.facts
  have HO6 : Hid (w6.ownsRow _ 147 3 _ _ _) := owns_fr HO5.out hf6
  cases hd2 : diskB ys
  · have HB : Hid (doB xs ⟨3, nm, tx, to⟩ = false) := (doB_some HD.out HF.out HO.out).trans hd2
    have HL := Lib.hid (doL_no HB.out)
    clear hd2
    go_wp2_with fail
    all_goals
      rw [HL.out, HB.out]
      refine bodyPost_ret (v := .tuple #[.agg #[.slice none 0 0], .bool false]) (by simp [results, Try.results173, go_sem, *]) rfl ⟨none, 0, rfl, FilesW.nil _ _ _, by repeat (first | (with_reducible exact Fr.refl _) | (with_reducible assumption) | (with_reducible refine Fr.drewN ?_ _) | (with_reducible refine Fr.drew ?_) | (with_reducible refine Fr.alloc ?_ _) | (with_reducible refine Fr.setCell ?_ (by (first | (with_reducible assumption) | omega | (simp only [World.size_alloc, World.size_setCell, World.size_drew, World.heap_drewN]; omega) | (simp; done) | (simp; omega))) _) | (with_reducible refine Fr.trans ?_ (by with_reducible assumption)))⟩
  · have HB : Hid (doB xs ⟨3, nm, tx, to⟩ = true) := (doB_some HD.out HF.out HO.out).trans hd2
    have HL := Lib.hid (doL_some HD.out HF.out HO.out hd2)
    clear hd2
    go_wp2_with fail
    rw [HL.out, HB.out]
    refine bodyPost_ret (v := .tuple #[.agg #[.slice ao5 ys.length cap5], .bool true]) (by simp [results, Try.results173, go_sem, *]) rfl ⟨ao5, cap5, rfl, ?_, by repeat (first | (with_reducible exact Fr.refl _) | (with_reducible assumption) | (with_reducible refine Fr.drewN ?_ _) | (with_reducible refine Fr.drew ?_) | (with_reducible refine Fr.alloc ?_ _) | (with_reducible refine Fr.setCell ?_ (by (first | (with_reducible assumption) | omega | (simp only [World.size_alloc, World.size_setCell, World.size_drew, World.heap_drewN]; omega) | (simp; done) | (simp; omega))) _) | (with_reducible refine Fr.trans ?_ (by with_reducible assumption)))⟩
    have o6 : FilesW w6 w3.heap.size w6.heap.size (.slice ao5 ys.length cap5) ys := OwW.of_owns HO6.out
    refine OwW.mono (lo := w3.heap.size) (hi := w6.heap.size) ?_ (by omega) (by (try simp only [World.size_setCell]); omega)
    change OwW _ _ _ _ _ _ _ _; (repeat (first | (with_reducible refine OwW.drewN ?_ _) | (with_reducible refine OwW.drew ?_) | (with_reducible refine OwW.alloc ?_ _) | (with_reducible refine OwW.set ?_ (by (first | (with_reducible assumption) | omega | (simp only [World.size_alloc, World.size_setCell, World.size_drew, World.heap_drewN]; omega) | (simp; done) | (simp; omega))) _) | (exact o6)))
/-! The program's DoAct, part 6. Condition: bounds on what is read, which the laws pay. (Printed by mk_acti.py.) -/
set_option maxHeartbeats 4000000 in
set_option maxRecDepth 100000 in
theorem ida_mvk (xs : List FileR) (nm tx to : ByteArray) (hn : xs.length ≤ 1048576) (ha : tx.size ≤ 1048576) (a0 : Option Addr) (b0 o0 c0 : Nat) (w : World) (HU : Hid (FilesR w (.slice a0 xs.length c0) xs)) (F0 : Hid (FilesAt w xs a0 b0 o0)) (HD : Hid (diskB xs = true)) (HF : Hid (fitsB ⟨3, nm, tx, to⟩ = true)) (j : Nat) (hj : j < xs.length) (hhit : fIx xs nm = (j : Int)) (hkp : ¬ (fileAt xs j).f2 = ((fileAt xs j).f1.size : Int)) : IDA xs 3 nm tx to a0 c0 w := by
  unfold IDA
  have HFI := Lib.hid (fun j (hj : j < xs.length) => diskB_file HD.out hj)
  have hlen := diskB_len HD.out
  have HS := Lib.hid (sorted_of HD.out)
  have HK : Hid (fIx xs nm = (j : Int)) := hhit
  have HNM := Lib.hid (fIx_name hhit).2
  obtain ⟨x, hx⟩ : ∃ x, fileAt xs j = x := ⟨_, rfl⟩
  have HX := Lib.hid hx
  have HAX : Hid (∀ q tx to, actX xs ⟨q, nm, tx, to⟩ = x) := fun q tx to => by unfold actX; simp only []; rw [hhit, Int.toNat_natCast]; exact hx
  obtain ⟨hx1, hx2, hx3⟩ := HFI.out j hj
  rw [hx] at hx1 hx2 hx3
  have hneg : ¬ fIx xs nm < 0 := by rw [hhit]; omega
  have HNG := Lib.hid hneg
  clear hx hhit hneg
  rw [HX.out] at hkp
  have hkq : (x.f2 != (x.f1.size : Int)) = true := by simpa using hkp
  have HB : Hid (doB xs ⟨3, nm, tx, to⟩ = false) := doB_none (by unfold outA; simp only []; rw [if_neg (by omega), if_neg HNG.out, if_neg (by omega), if_pos trivial, HAX.out, if_neg hkp])
  have HL := Lib.hid (doL_no HB.out)
  clear hkp
  go_enter Try.func173, Try.ntmps173
  go_wp2_with fail
  refine (fileIndex_any _ xs nm _ (HU.out.fr (by repeat (first | (with_reducible exact Fr.refl _) | (with_reducible assumption) | (with_reducible refine Fr.drewN ?_ _) | (with_reducible refine Fr.drew ?_) | (with_reducible refine Fr.alloc ?_ _) | (with_reducible refine Fr.setCell ?_ (by (first | (with_reducible assumption) | omega | (simp only [World.size_alloc, World.size_setCell, World.size_drew, World.heap_drewN]; omega) | (simp; done) | (simp; omega))) _) | (with_reducible refine Fr.trans ?_ (by with_reducible assumption)))))).mono ?_
  rintro e w1 ⟨rfl, hf1⟩
  rw [HK.out]
  have BD : Box w1 w.heap.size #[.slice a0 xs.length c0] 46 := (((Box.new _ _ _).alloc _).alloc _).fr hf1
  have BA : Box w1 (w.heap.size + 1) #[.int .i64 3, .string nm, .string tx, .string to] 145 := ((Box.new' (w := w.alloc (.cells #[.slice a0 xs.length c0] 46)) (by simp)).alloc _).fr hf1
  have BR : Box w1 (w.heap.size + 1 + 1) #[.slice none 0 0] 46 := (Box.new' (w := (w.alloc (.cells #[.slice a0 xs.length c0] 46)).alloc (.cells #[.int .i64 3, .string nm, .string tx, .string to] 145)) (by simp)).fr hf1
  have FD := BD.facts; have FA := BA.facts; have FRR := BR.facts
  have z1 := hf1.size; (try simp only [World.size_alloc, World.size_setCell, World.size_drew] at z1)
  go_wp2_with fail
  refine (implDiskOk_any _ xs _ (HU.out.fr (by repeat (first | (with_reducible exact Fr.refl _) | (with_reducible assumption) | (with_reducible refine Fr.drewN ?_ _) | (with_reducible refine Fr.drew ?_) | (with_reducible refine Fr.alloc ?_ _) | (with_reducible refine Fr.setCell ?_ (by (first | (with_reducible assumption) | omega | (simp only [World.size_alloc, World.size_setCell, World.size_drew, World.heap_drewN]; omega) | (simp; done) | (simp; omega))) _) | (with_reducible refine Fr.trans ?_ (by with_reducible assumption)))))).mono ?_
  rintro e w2 ⟨rfl, hf2⟩
  rw [HD.out]
  have BD := BD.fr hf2; have BA := BA.fr hf2; have BR := BR.fr hf2
  have z2 := hf2.size
  clear FD FA FRR
  have FD := BD.facts; have FA := BA.facts; have FRR := BR.facts
  go_wp2_with fail
  refine (actFits_any ⟨3, nm, tx, to⟩ _).mono ?_
  rintro e w3 ⟨rfl, hf3⟩
  rw [HF.out]
  have BD := BD.fr hf3; have BA := BA.fr hf3; have BR := BR.fr hf3
  have z3 := hf3.size
  clear FD FA FRR
  have FD := BD.facts; have FA := BA.facts; have FRR := BR.facts
  go_wp2_with fail
  refine (copyDisk_any _ ⟨xs⟩ _ ⟨_, rfl, HU.out.fr (by repeat (first | (with_reducible exact Fr.refl _) | (with_reducible assumption) | (with_reducible refine Fr.drewN ?_ _) | (with_reducible refine Fr.drew ?_) | (with_reducible refine Fr.alloc ?_ _) | (with_reducible refine Fr.setCell ?_ (by (first | (with_reducible assumption) | omega | (simp only [World.size_alloc, World.size_setCell, World.size_drew, World.heap_drewN]; omega) | (simp; done) | (simp; omega))) _) | (with_reducible refine Fr.trans ?_ (by with_reducible assumption))))⟩ (by show xs.length ≤ _; omega)).mono ?_
  rintro e w4 ⟨ao4, cap4, rfl, hl4, hf4⟩
  simp only [] at hl4
  obtain ⟨_, _, h4, hl4⟩ := hl4
  cases h4
  have BD := BD.fr hf4; have BA := BA.fr hf4; have BR := BR.fr hf4
  have z4 := hf4.size
  clear FD FA FRR
  have FD := BD.facts; have FA := BA.facts; have FRR := BR.facts
  have HO4 := Lib.hid hl4.1
  have HR4 := Lib.hid hl4.2
  simp only [] at HO4 HR4
  clear hl4
  obtain ⟨rfl, hb0, f0⟩ := F0.out (by omega)
  have fk := f0 j hj
  rw [HX.out] at fk
  obtain ⟨g0, g1, g2⟩ := fk
  have hfw4 : Fr w w4 := by repeat (first | (with_reducible exact Fr.refl _) | (with_reducible assumption) | (with_reducible refine Fr.drewN ?_ _) | (with_reducible refine Fr.drew ?_) | (with_reducible refine Fr.alloc ?_ _) | (with_reducible refine Fr.setCell ?_ (by (first | (with_reducible assumption) | omega | (simp only [World.size_alloc, World.size_setCell, World.size_drew, World.heap_drewN]; omega) | (simp; done) | (simp; omega))) _) | (with_reducible refine Fr.trans ?_ (by with_reducible assumption)))
  have q0 := (hfw4.cell (p := ⟨b0, _, none⟩) hb0).trans g0
  have q1 := (hfw4.cell (p := ⟨b0, _, none⟩) hb0).trans g1
  have q2 := (hfw4.cell (p := ⟨b0, _, none⟩) hb0).trans g2
  have hb4 : b0 < w4.heap.size := Nat.lt_of_lt_of_le hb0 hfw4.size
  clear g0 g1 g2 f0
  go_wp2_with fail
  all_goals
    rw [HL.out, HB.out]
    refine bodyPost_ret (v := .tuple #[.agg #[.slice none 0 0], .bool false]) (by simp [results, Try.results173, go_sem, *]) rfl ⟨none, 0, rfl, FilesW.nil _ _ _, by repeat (first | (with_reducible exact Fr.refl _) | (with_reducible assumption) | (with_reducible refine Fr.drewN ?_ _) | (with_reducible refine Fr.drew ?_) | (with_reducible refine Fr.alloc ?_ _) | (with_reducible refine Fr.setCell ?_ (by (first | (with_reducible assumption) | omega | (simp only [World.size_alloc, World.size_setCell, World.size_drew, World.heap_drewN]; omega) | (simp; done) | (simp; omega))) _) | (with_reducible refine Fr.trans ?_ (by with_reducible assumption)))⟩
/-! The program's DoAct, all cases. Condition: bounds on what is read, which the laws pay. -/
theorem implDoAct_any (xs : List FileR) (a : ActR) (hn : xs.length ≤ 1048576) (ha : a.f2.size ≤ 1048576) (v : Value) (w : World) (hv : DiskRd w v ⟨xs⟩) :
    Calls Try.prog 173 #[v, .agg #[.int .i64 a.f0, .string a.f1, .string a.f2, .string a.f3]] w fun e w' => ∃ ao cap, e = .returned (.tuple #[.agg #[.slice ao (doL xs a).length cap], .bool (doB xs a)]) ∧ FilesW w' w.heap.size w'.heap.size (.slice ao (doL xs a).length cap) (doL xs a) ∧ Fr w w' := by
  obtain ⟨u, rfl, hu⟩ := hv
  simp only [] at hu
  obtain ⟨a0, b0, o0, c0, rfl, hc0, hm0, f0⟩ := hu.one
  obtain ⟨k, nm, tx, to⟩ := a
  show IDA xs k nm tx to a0 c0 w
  simp only [] at ha
  cases hd : diskB xs
  · exact ida_disk xs k nm tx to hn ha a0 b0 o0 c0 w hu f0 hd
  cases hf : fitsB ⟨k, nm, tx, to⟩
  · exact ida_fit xs k nm tx to hn ha a0 b0 o0 c0 w hu f0 hd hf
  have hk : k = 1 ∨ k = 2 ∨ k = 4 ∨ k = 3 := by
    unfold fitsB at hf
    simp only [Bool.and_eq_true, decide_eq_true_eq] at hf
    have := hf.1.1.1
    omega
  rcases fIx_cases xs nm with hmiss | ⟨j, hj, hhit⟩
  · by_cases hk1 : k = 1
    · subst hk1; exact ida_add0 xs nm tx to hn ha a0 b0 o0 c0 w hu f0 hd hf hmiss
    · exact ida_no xs k nm tx to hn ha a0 b0 o0 c0 w hu f0 hd hf hk1 hmiss
  · rcases hk with rfl | rfl | rfl | rfl
    · exact ida_add xs nm tx to hn ha a0 b0 o0 c0 w hu f0 hd hf j hj hhit
    · exact ida_keep xs nm tx to hn ha a0 b0 o0 c0 w hu f0 hd hf j hj hhit
    · exact ida_drop xs nm tx to hn ha a0 b0 o0 c0 w hu f0 hd hf j hj hhit
    · by_cases hkp : (fileAt xs j).f2 = ((fileAt xs j).f1.size : Int)
      · exact ida_mv xs nm tx to hn ha a0 b0 o0 c0 w hu f0 hd hf j hj hhit hkp
      · exact ida_mvk xs nm tx to hn ha a0 b0 o0 c0 w hu f0 hd hf j hj hhit hkp
end Go.Proofs.Ytjgghiniajmfjaa
