/- The program's DoAct, part 1. Condition: bounds on what is read, which the laws pay. (Printed by mk_acti.py.) -/
import Derived.Test.YthcbnilmhenpgaaAct2
import Derived.Test.YthcbnilmhenpgaaInsF
import Derived.Test.YthcbnilmhenpgaaLose
namespace Go.Proofs.Ythcbnilmhenpgaa
open Go.RowKit
set_option linter.unusedVariables false
set_option linter.unusedSimpArgs false
set_option maxHeartbeats 4000000 in
set_option maxRecDepth 100000 in
theorem ida_disk (xs : List FileR) (k : Int) (nm tx to : ByteArray) (hn : xs.length ≤ 1048576) (ha : tx.size ≤ 1048576) (a0 : Option Addr) (b0 o0 c0 : Nat) (w : World) (HU : Hid (FilesR w (.slice a0 xs.length c0) xs)) (F0 : Hid (FilesAt w xs a0 b0 o0)) (HD : Hid (diskB xs = false)) : IDA xs k nm tx to a0 c0 w := by
  unfold IDA
  have HB : Hid (doB xs ⟨k, nm, tx, to⟩ = false) := doB_disk HD.out
  have HL := Lib.hid (doL_no HB.out)
  obtain ⟨q0, hq0⟩ : ∃ q, fIx xs nm = q := ⟨_, rfl⟩
  have HK := Lib.hid hq0
  clear hq0
  go_enter Try.func11, Try.ntmps11
  go_wp2_with fail
  refine (fileIndex_any _ xs nm _ (HU.out.fr (by repeat (first | (with_reducible exact Fr.refl _) | (with_reducible assumption) | (with_reducible refine Fr.drewN ?_ _) | (with_reducible refine Fr.drew ?_) | (with_reducible refine Fr.alloc ?_ _) | (with_reducible refine Fr.setCell ?_ (by (first | (with_reducible assumption) | omega | (simp only [World.size_alloc, World.size_setCell, World.size_drew, World.heap_drewN]; omega) | (simp; done) | (simp; omega))) _) | (with_reducible refine Fr.trans ?_ (by with_reducible assumption)))))).mono ?_
  rintro e w1 ⟨rfl, hf1⟩
  rw [HK.out]
  have BD : Box w1 w.heap.size #[.slice a0 xs.length c0] 31 := (((Box.new _ _ _).alloc _).alloc _).fr hf1
  have BA : Box w1 (w.heap.size + 1) #[.int .i64 k, .string nm, .string tx, .string to] 35 := ((Box.new' (w := w.alloc (.cells #[.slice a0 xs.length c0] 31)) (by simp)).alloc _).fr hf1
  have BR : Box w1 (w.heap.size + 1 + 1) #[.slice none 0 0] 31 := (Box.new' (w := (w.alloc (.cells #[.slice a0 xs.length c0] 31)).alloc (.cells #[.int .i64 k, .string nm, .string tx, .string to] 35)) (by simp)).fr hf1
  have FD := BD.facts; have FA := BA.facts; have FRR := BR.facts
  have z1 := hf1.size; (try simp only [World.size_alloc, World.size_setCell, World.size_drew] at z1)
  go_wp2_with fail
  refine (implDiskOk_any _ xs _ (HU.out.fr (by repeat (first | (with_reducible exact Fr.refl _) | (with_reducible assumption) | (with_reducible refine Fr.drewN ?_ _) | (with_reducible refine Fr.drew ?_) | (with_reducible refine Fr.alloc ?_ _) | (with_reducible refine Fr.setCell ?_ (by (first | (with_reducible assumption) | omega | (simp only [World.size_alloc, World.size_setCell, World.size_drew, World.heap_drewN]; omega) | (simp; done) | (simp; omega))) _) | (with_reducible refine Fr.trans ?_ (by with_reducible assumption)))))).mono ?_
  rintro e w2 ⟨rfl, hf2⟩
  rw [HD.out]
  have BD := BD.fr hf2; have BA := BA.fr hf2; have BR := BR.fr hf2
  have z2 := hf2.size
  clear FD FA FRR
  have FD := BD.facts; have FA := BA.facts; have FRR := BR.facts
  go_wp2_with fail
  all_goals
    rw [HL.out, HB.out]
    refine bodyPost_ret (v := .tuple #[.agg #[.slice none 0 0], .bool false]) (by simp [results, Try.results11, go_sem, *]) rfl ⟨none, 0, rfl, FilesW.nil _ _ _, by repeat (first | (with_reducible exact Fr.refl _) | (with_reducible assumption) | (with_reducible refine Fr.drewN ?_ _) | (with_reducible refine Fr.drew ?_) | (with_reducible refine Fr.alloc ?_ _) | (with_reducible refine Fr.setCell ?_ (by (first | (with_reducible assumption) | omega | (simp only [World.size_alloc, World.size_setCell, World.size_drew, World.heap_drewN]; omega) | (simp; done) | (simp; omega))) _) | (with_reducible refine Fr.trans ?_ (by with_reducible assumption)))⟩
set_option maxHeartbeats 4000000 in
set_option maxRecDepth 100000 in
theorem ida_fit (xs : List FileR) (k : Int) (nm tx to : ByteArray) (hn : xs.length ≤ 1048576) (ha : tx.size ≤ 1048576) (a0 : Option Addr) (b0 o0 c0 : Nat) (w : World) (HU : Hid (FilesR w (.slice a0 xs.length c0) xs)) (F0 : Hid (FilesAt w xs a0 b0 o0)) (HD : Hid (diskB xs = true)) (hfit : fitsB ⟨k, nm, tx, to⟩ = false) : IDA xs k nm tx to a0 c0 w := by
  unfold IDA
  have HB : Hid (doB xs ⟨k, nm, tx, to⟩ = false) := doB_fits hfit
  have HL := Lib.hid (doL_no HB.out)
  obtain ⟨q0, hq0⟩ : ∃ q, fIx xs nm = q := ⟨_, rfl⟩
  have HK := Lib.hid hq0
  have HF := Lib.hid hfit
  clear hq0 hfit
  go_enter Try.func11, Try.ntmps11
  go_wp2_with fail
  refine (fileIndex_any _ xs nm _ (HU.out.fr (by repeat (first | (with_reducible exact Fr.refl _) | (with_reducible assumption) | (with_reducible refine Fr.drewN ?_ _) | (with_reducible refine Fr.drew ?_) | (with_reducible refine Fr.alloc ?_ _) | (with_reducible refine Fr.setCell ?_ (by (first | (with_reducible assumption) | omega | (simp only [World.size_alloc, World.size_setCell, World.size_drew, World.heap_drewN]; omega) | (simp; done) | (simp; omega))) _) | (with_reducible refine Fr.trans ?_ (by with_reducible assumption)))))).mono ?_
  rintro e w1 ⟨rfl, hf1⟩
  rw [HK.out]
  have BD : Box w1 w.heap.size #[.slice a0 xs.length c0] 31 := (((Box.new _ _ _).alloc _).alloc _).fr hf1
  have BA : Box w1 (w.heap.size + 1) #[.int .i64 k, .string nm, .string tx, .string to] 35 := ((Box.new' (w := w.alloc (.cells #[.slice a0 xs.length c0] 31)) (by simp)).alloc _).fr hf1
  have BR : Box w1 (w.heap.size + 1 + 1) #[.slice none 0 0] 31 := (Box.new' (w := (w.alloc (.cells #[.slice a0 xs.length c0] 31)).alloc (.cells #[.int .i64 k, .string nm, .string tx, .string to] 35)) (by simp)).fr hf1
  have FD := BD.facts; have FA := BA.facts; have FRR := BR.facts
  have z1 := hf1.size; (try simp only [World.size_alloc, World.size_setCell, World.size_drew] at z1)
  go_wp2_with fail
  refine (implDiskOk_any _ xs _ (HU.out.fr (by repeat (first | (with_reducible exact Fr.refl _) | (with_reducible assumption) | (with_reducible refine Fr.drewN ?_ _) | (with_reducible refine Fr.drew ?_) | (with_reducible refine Fr.alloc ?_ _) | (with_reducible refine Fr.setCell ?_ (by (first | (with_reducible assumption) | omega | (simp only [World.size_alloc, World.size_setCell, World.size_drew, World.heap_drewN]; omega) | (simp; done) | (simp; omega))) _) | (with_reducible refine Fr.trans ?_ (by with_reducible assumption)))))).mono ?_
  rintro e w2 ⟨rfl, hf2⟩
  rw [HD.out]
  have BD := BD.fr hf2; have BA := BA.fr hf2; have BR := BR.fr hf2
  have z2 := hf2.size
  clear FD FA FRR
  have FD := BD.facts; have FA := BA.facts; have FRR := BR.facts
  go_wp2_with fail
  refine (actFits_any ⟨k, nm, tx, to⟩ _).mono ?_
  rintro e w3 ⟨rfl, hf3⟩
  rw [HF.out]
  have BD := BD.fr hf3; have BA := BA.fr hf3; have BR := BR.fr hf3
  have z3 := hf3.size
  clear FD FA FRR
  have FD := BD.facts; have FA := BA.facts; have FRR := BR.facts
  go_wp2_with fail
  all_goals
    rw [HL.out, HB.out]
    refine bodyPost_ret (v := .tuple #[.agg #[.slice none 0 0], .bool false]) (by simp [results, Try.results11, go_sem, *]) rfl ⟨none, 0, rfl, FilesW.nil _ _ _, by repeat (first | (with_reducible exact Fr.refl _) | (with_reducible assumption) | (with_reducible refine Fr.drewN ?_ _) | (with_reducible refine Fr.drew ?_) | (with_reducible refine Fr.alloc ?_ _) | (with_reducible refine Fr.setCell ?_ (by (first | (with_reducible assumption) | omega | (simp only [World.size_alloc, World.size_setCell, World.size_drew, World.heap_drewN]; omega) | (simp; done) | (simp; omega))) _) | (with_reducible refine Fr.trans ?_ (by with_reducible assumption)))⟩
set_option maxHeartbeats 4000000 in
set_option maxRecDepth 100000 in
theorem ida_no (xs : List FileR) (k : Int) (nm tx to : ByteArray) (hn : xs.length ≤ 1048576) (ha : tx.size ≤ 1048576) (a0 : Option Addr) (b0 o0 c0 : Nat) (w : World) (HU : Hid (FilesR w (.slice a0 xs.length c0) xs)) (F0 : Hid (FilesAt w xs a0 b0 o0)) (HD : Hid (diskB xs = true)) (HF : Hid (fitsB ⟨k, nm, tx, to⟩ = true)) (hk1 : ¬ k = 1) (hmiss : fIx xs nm = -1) : IDA xs k nm tx to a0 c0 w := by
  unfold IDA
  have hk0 : (k != 1) = true := by simpa using hk1
  have HB : Hid (doB xs ⟨k, nm, tx, to⟩ = false) := doB_none (by unfold outA; simp only []; rw [if_neg hk1, if_pos (by rw [hmiss]; omega)])
  have HL := Lib.hid (doL_no HB.out)
  have hlen := diskB_len HD.out
  have HS := Lib.hid (sorted_of HD.out)
  have HK : Hid (fIx xs nm = -1) := hmiss
  clear hmiss
  go_enter Try.func11, Try.ntmps11
  go_wp2_with fail
  refine (fileIndex_any _ xs nm _ (HU.out.fr (by repeat (first | (with_reducible exact Fr.refl _) | (with_reducible assumption) | (with_reducible refine Fr.drewN ?_ _) | (with_reducible refine Fr.drew ?_) | (with_reducible refine Fr.alloc ?_ _) | (with_reducible refine Fr.setCell ?_ (by (first | (with_reducible assumption) | omega | (simp only [World.size_alloc, World.size_setCell, World.size_drew, World.heap_drewN]; omega) | (simp; done) | (simp; omega))) _) | (with_reducible refine Fr.trans ?_ (by with_reducible assumption)))))).mono ?_
  rintro e w1 ⟨rfl, hf1⟩
  rw [HK.out]
  have BD : Box w1 w.heap.size #[.slice a0 xs.length c0] 31 := (((Box.new _ _ _).alloc _).alloc _).fr hf1
  have BA : Box w1 (w.heap.size + 1) #[.int .i64 k, .string nm, .string tx, .string to] 35 := ((Box.new' (w := w.alloc (.cells #[.slice a0 xs.length c0] 31)) (by simp)).alloc _).fr hf1
  have BR : Box w1 (w.heap.size + 1 + 1) #[.slice none 0 0] 31 := (Box.new' (w := (w.alloc (.cells #[.slice a0 xs.length c0] 31)).alloc (.cells #[.int .i64 k, .string nm, .string tx, .string to] 35)) (by simp)).fr hf1
  have FD := BD.facts; have FA := BA.facts; have FRR := BR.facts
  have z1 := hf1.size; (try simp only [World.size_alloc, World.size_setCell, World.size_drew] at z1)
  go_wp2_with fail
  refine (implDiskOk_any _ xs _ (HU.out.fr (by repeat (first | (with_reducible exact Fr.refl _) | (with_reducible assumption) | (with_reducible refine Fr.drewN ?_ _) | (with_reducible refine Fr.drew ?_) | (with_reducible refine Fr.alloc ?_ _) | (with_reducible refine Fr.setCell ?_ (by (first | (with_reducible assumption) | omega | (simp only [World.size_alloc, World.size_setCell, World.size_drew, World.heap_drewN]; omega) | (simp; done) | (simp; omega))) _) | (with_reducible refine Fr.trans ?_ (by with_reducible assumption)))))).mono ?_
  rintro e w2 ⟨rfl, hf2⟩
  rw [HD.out]
  have BD := BD.fr hf2; have BA := BA.fr hf2; have BR := BR.fr hf2
  have z2 := hf2.size
  clear FD FA FRR
  have FD := BD.facts; have FA := BA.facts; have FRR := BR.facts
  go_wp2_with fail
  refine (actFits_any ⟨k, nm, tx, to⟩ _).mono ?_
  rintro e w3 ⟨rfl, hf3⟩
  rw [HF.out]
  have BD := BD.fr hf3; have BA := BA.fr hf3; have BR := BR.fr hf3
  have z3 := hf3.size
  clear FD FA FRR
  have FD := BD.facts; have FA := BA.facts; have FRR := BR.facts
  go_wp2_with fail
  all_goals
    rw [HL.out, HB.out]
    refine bodyPost_ret (v := .tuple #[.agg #[.slice none 0 0], .bool false]) (by simp [results, Try.results11, go_sem, *]) rfl ⟨none, 0, rfl, FilesW.nil _ _ _, by repeat (first | (with_reducible exact Fr.refl _) | (with_reducible assumption) | (with_reducible refine Fr.drewN ?_ _) | (with_reducible refine Fr.drew ?_) | (with_reducible refine Fr.alloc ?_ _) | (with_reducible refine Fr.setCell ?_ (by (first | (with_reducible assumption) | omega | (simp only [World.size_alloc, World.size_setCell, World.size_drew, World.heap_drewN]; omega) | (simp; done) | (simp; omega))) _) | (with_reducible refine Fr.trans ?_ (by with_reducible assumption)))⟩
end Go.Proofs.Ythcbnilmhenpgaa
