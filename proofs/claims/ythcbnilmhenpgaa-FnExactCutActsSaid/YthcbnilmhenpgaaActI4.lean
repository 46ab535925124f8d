/- The program's DoAct, part 4. Condition: bounds on what is read, which the laws pay. (Printed by mk_acti.py.) -/
import Derived.Test.YthcbnilmhenpgaaAct2
import Derived.Test.YthcbnilmhenpgaaInsF
import Derived.Test.YthcbnilmhenpgaaLose
namespace Go.Proofs.Ythcbnilmhenpgaa
open Go.RowKit
set_option linter.unusedVariables false
set_option linter.unusedSimpArgs false
set_option maxHeartbeats 4000000 in
set_option maxRecDepth 100000 in
theorem ida_drop (xs : List FileR) (nm tx to : ByteArray) (hn : xs.length ≤ 1048576) (ha : tx.size ≤ 1048576) (a0 : Option Addr) (b0 o0 c0 : Nat) (w : World) (HU : Hid (FilesR w (.slice a0 xs.length c0) xs)) (F0 : Hid (FilesAt w xs a0 b0 o0)) (HD : Hid (diskB xs = true)) (HF : Hid (fitsB ⟨4, nm, tx, to⟩ = true)) (j : Nat) (hj : j < xs.length) (hhit : fIx xs nm = (j : Int)) : IDA xs 4 nm tx to a0 c0 w := by
  unfold IDA
  have HFI := Lib.hid (fun j (hj : j < xs.length) => diskB_file HD.out hj)
  have hlen := diskB_len HD.out
  have HS := Lib.hid (sorted_of HD.out)
  have HK : Hid (fIx xs nm = (j : Int)) := hhit
  have HNM := Lib.hid (fIx_name hhit).2
  obtain ⟨x, hx⟩ : ∃ x, fileAt xs j = x := ⟨_, rfl⟩
  have HX := Lib.hid hx
  have HAX : Hid (∀ q tx to, actX xs ⟨q, nm, tx, to⟩ = x) := fun q tx to => by unfold actX; simp only []; rw [hhit, Int.toNat_natCast]; exact hx
  obtain ⟨hx1, hx2, hx3⟩ := HFI.out j hj
  rw [hx] at hx1 hx2 hx3
  have hneg : ¬ fIx xs nm < 0 := by rw [hhit]; omega
  have HNG := Lib.hid hneg
  clear hx hhit hneg
  have HO : Hid (outA xs ⟨4, nm, tx, to⟩ = some (woF xs nm)) := by show _ = _; unfold outA; simp only []; rw [if_neg (by omega), if_neg HNG.out, if_neg (by omega), if_neg (by omega)]
  have HP := Lib.hid (erase_wo HS.out hj HNM.out)
  rw [← HP.out] at HO
  have HLE := Lib.hid (List.length_eraseIdx_of_lt hj)
  go_enter Try.func11, Try.ntmps11
  go_wp2_with fail
  refine (fileIndex_any _ xs nm _ (HU.out.fr (by repeat (first | (with_reducible exact Fr.refl _) | (with_reducible assumption) | (with_reducible refine Fr.drewN ?_ _) | (with_reducible refine Fr.drew ?_) | (with_reducible refine Fr.alloc ?_ _) | (with_reducible refine Fr.setCell ?_ (by (first | (with_reducible assumption) | omega | (simp only [World.size_alloc, World.size_setCell, World.size_drew, World.heap_drewN]; omega) | (simp; done) | (simp; omega))) _) | (with_reducible refine Fr.trans ?_ (by with_reducible assumption)))))).mono ?_
  rintro e w1 ⟨rfl, hf1⟩
  rw [HK.out]
  have BD : Box w1 w.heap.size #[.slice a0 xs.length c0] 31 := (((Box.new _ _ _).alloc _).alloc _).fr hf1
  have BA : Box w1 (w.heap.size + 1) #[.int .i64 4, .string nm, .string tx, .string to] 35 := ((Box.new' (w := w.alloc (.cells #[.slice a0 xs.length c0] 31)) (by simp)).alloc _).fr hf1
  have BR : Box w1 (w.heap.size + 1 + 1) #[.slice none 0 0] 31 := (Box.new' (w := (w.alloc (.cells #[.slice a0 xs.length c0] 31)).alloc (.cells #[.int .i64 4, .string nm, .string tx, .string to] 35)) (by simp)).fr hf1
  have FD := BD.facts; have FA := BA.facts; have FRR := BR.facts
  have z1 := hf1.size; (try simp only [World.size_alloc, World.size_setCell, World.size_drew] at z1)
  go_wp2_with fail
  refine (implDiskOk_any _ xs _ (HU.out.fr (by repeat (first | (with_reducible exact Fr.refl _) | (with_reducible assumption) | (with_reducible refine Fr.drewN ?_ _) | (with_reducible refine Fr.drew ?_) | (with_reducible refine Fr.alloc ?_ _) | (with_reducible refine Fr.setCell ?_ (by (first | (with_reducible assumption) | omega | (simp only [World.size_alloc, World.size_setCell, World.size_drew, World.heap_drewN]; omega) | (simp; done) | (simp; omega))) _) | (with_reducible refine Fr.trans ?_ (by with_reducible assumption)))))).mono ?_
  rintro e w2 ⟨rfl, hf2⟩
  rw [HD.out]
  have BD := BD.fr hf2; have BA := BA.fr hf2; have BR := BR.fr hf2
  have z2 := hf2.size
  clear FD FA FRR
  have FD := BD.facts; have FA := BA.facts; have FRR := BR.facts
  go_wp2_with fail
  refine (actFits_any ⟨4, nm, tx, to⟩ _).mono ?_
  rintro e w3 ⟨rfl, hf3⟩
  rw [HF.out]
  have BD := BD.fr hf3; have BA := BA.fr hf3; have BR := BR.fr hf3
  have z3 := hf3.size
  clear FD FA FRR
  have FD := BD.facts; have FA := BA.facts; have FRR := BR.facts
  go_wp2_with fail
  refine (copyDisk_any _ ⟨xs⟩ _ ⟨_, rfl, HU.out.fr (by repeat (first | (with_reducible exact Fr.refl _) | (with_reducible assumption) | (with_reducible refine Fr.drewN ?_ _) | (with_reducible refine Fr.drew ?_) | (with_reducible refine Fr.alloc ?_ _) | (with_reducible refine Fr.setCell ?_ (by (first | (with_reducible assumption) | omega | (simp only [World.size_alloc, World.size_setCell, World.size_drew, World.heap_drewN]; omega) | (simp; done) | (simp; omega))) _) | (with_reducible refine Fr.trans ?_ (by with_reducible assumption))))⟩ (by show xs.length ≤ _; omega)).mono ?_
  rintro e w4 ⟨ao4, cap4, rfl, hl4, hf4⟩
  simp only [] at hl4
  obtain ⟨_, _, h4, hl4⟩ := hl4
  cases h4
  have BD := BD.fr hf4; have BA := BA.fr hf4; have BR := BR.fr hf4
  have z4 := hf4.size
  clear FD FA FRR
  have FD := BD.facts; have FA := BA.facts; have FRR := BR.facts
  have HO4 := Lib.hid hl4.1
  have HR4 := Lib.hid hl4.2
  simp only [] at HO4 HR4
  clear hl4
  obtain ⟨rfl, hb0, f0⟩ := F0.out (by omega)
  have fk := f0 j hj
  rw [HX.out] at fk
  obtain ⟨g0, g1, g2⟩ := fk
  have hfw4 : Fr w w4 := by repeat (first | (with_reducible exact Fr.refl _) | (with_reducible assumption) | (with_reducible refine Fr.drewN ?_ _) | (with_reducible refine Fr.drew ?_) | (with_reducible refine Fr.alloc ?_ _) | (with_reducible refine Fr.setCell ?_ (by (first | (with_reducible assumption) | omega | (simp only [World.size_alloc, World.size_setCell, World.size_drew, World.heap_drewN]; omega) | (simp; done) | (simp; omega))) _) | (with_reducible refine Fr.trans ?_ (by with_reducible assumption)))
  have q0 := (hfw4.cell (p := ⟨b0, _, none⟩) hb0).trans g0
  have q1 := (hfw4.cell (p := ⟨b0, _, none⟩) hb0).trans g1
  have q2 := (hfw4.cell (p := ⟨b0, _, none⟩) hb0).trans g2
  have hb4 : b0 < w4.heap.size := Nat.lt_of_lt_of_le hb0 hfw4.size
  clear g0 g1 g2 f0
  obtain ⟨g, rfl⟩ : ∃ g, ao4 = some ⟨g, 0, none⟩ := by rcases HO4.out.2 with ⟨h, h0⟩ | ⟨g, c, cur, h, _⟩; omega; (simp only [Value.slice.injEq] at h; exact ⟨g, h.1⟩)
  have hgr := HR4.out g rfl
  have hwj : IntKind.i64.wrap ((j : Int) + 1) = (j : Int) + 1 := IntWalk.i64_in _ (by omega)
  have hgs := hgr.2
  go_wp2_with fail
  refine (delete_any w3.heap.size g cap4 j xs _ (owns_fr HO4.out (by repeat (first | (with_reducible exact Fr.refl _) | (with_reducible assumption) | (with_reducible refine Fr.drewN ?_ _) | (with_reducible refine Fr.drew ?_) | (with_reducible refine Fr.alloc ?_ _) | (with_reducible refine Fr.setCell ?_ (by (first | (with_reducible assumption) | omega | (simp only [World.size_alloc, World.size_setCell, World.size_drew, World.heap_drewN]; omega) | (simp; done) | (simp; omega))) _) | (with_reducible refine Fr.trans ?_ (by with_reducible assumption))))) (by omega) hj).mono ?_
  rintro e w7 ⟨rfl, ho7, hgr7⟩
  have B7d : Box w7 w4.heap.size #[.slice (some ⟨g, 0, none⟩) xs.length cap4] 31 := (Box.new _ _ _).gr hgr7 (by simp; omega)
  have BR7 : Box w7 (w.heap.size + 1 + 1) #[.slice none 0 0] 31 := (BR.alloc _).gr hgr7 (by simp; omega)
  have hf7 : Fr w w7 := Fr.grown (show Fr w _ by repeat (first | (with_reducible exact Fr.refl _) | (with_reducible assumption) | (with_reducible refine Fr.drewN ?_ _) | (with_reducible refine Fr.drew ?_) | (with_reducible refine Fr.alloc ?_ _) | (with_reducible refine Fr.setCell ?_ (by (first | (with_reducible assumption) | omega | (simp only [World.size_alloc, World.size_setCell, World.size_drew, World.heap_drewN]; omega) | (simp; done) | (simp; omega))) _) | (with_reducible refine Fr.trans ?_ (by with_reducible assumption)))) hgr7 (fun k hk => by simp at hk; omega)
  have z7 := hgr7.size
  (try simp only [World.size_alloc] at z7)
  clear FD FA FRR
  have F7 := B7d.facts
  go_wp2_with fail
  have B7 : Box (w7.setCell ⟨w4.heap.size, 0, none⟩ (.slice (some ⟨g, 0, none⟩) (xs.length - 1) cap4)) w4.heap.size #[.slice (some ⟨g, 0, none⟩) (xs.length - 1) cap4] 31 := B7d.set_to (by simp)
  have ho5 : (w7.setCell ⟨w4.heap.size, 0, none⟩ (.slice (some ⟨g, 0, none⟩) (xs.length - 1) cap4)).ownsRow w3.heap.size 60 3 (.slice (some ⟨g, 0, none⟩) (xs.length - 1) cap4) (xs.length - 1) ((xs.eraseIdx j).flatMap FileR.cells) := owns_far ho7 (p := ⟨w4.heap.size, 0, none⟩) (fun e => by simp [Value.ownBlock] at e; omega) _
  have BR : Box (w7.setCell ⟨w4.heap.size, 0, none⟩ (.slice (some ⟨g, 0, none⟩) (xs.length - 1) cap4)) (w.heap.size + 1 + 1) #[.slice none 0 0] 31 := box_far BR7 (by omega) _
  have hf5 : Fr w (w7.setCell ⟨w4.heap.size, 0, none⟩ (.slice (some ⟨g, 0, none⟩) (xs.length - 1) cap4)) := by repeat (first | (with_reducible exact Fr.refl _) | (with_reducible assumption) | (with_reducible refine Fr.drewN ?_ _) | (with_reducible refine Fr.drew ?_) | (with_reducible refine Fr.alloc ?_ _) | (with_reducible refine Fr.setCell ?_ (by (first | (with_reducible assumption) | omega | (simp only [World.size_alloc, World.size_setCell, World.size_drew, World.heap_drewN]; omega) | (simp; done) | (simp; omega))) _) | (with_reducible refine Fr.trans ?_ (by with_reducible assumption)))
  have z5 : w4.heap.size + 1 ≤ (w7.setCell ⟨w4.heap.size, 0, none⟩ (.slice (some ⟨g, 0, none⟩) (xs.length - 1) cap4)).heap.size := by simp only [World.size_setCell]; omega
  generalize (w7.setCell ⟨w4.heap.size, 0, none⟩ (.slice (some ⟨g, 0, none⟩) (xs.length - 1) cap4)) = w5 at B7 ho5 BR hf5 z5 ⊢
  clear F7 B7d BR7 ho7 hgr7 hf7
  rw [← HLE.out] at B7 ho5 ⊢
  have hln : (xs.eraseIdx j).length = (xs.eraseIdx j).length := rfl
  generalize xs.eraseIdx j = ys at B7 ho5 HO hln ⊢
  clear hln
  have HO5 := Lib.hid ho5
  clear ho5
  have F7 := B7.facts
  have FRR := BR.facts
  go_wp2_with fail
  refine (implDiskOk_any _ ys _ (RdS.fr (RdS.of_owns HO5.out) (by repeat (first | (with_reducible exact Fr.refl _) | (with_reducible assumption) | (with_reducible refine Fr.drewN ?_ _) | (with_reducible refine Fr.drew ?_) | (with_reducible refine Fr.alloc ?_ _) | (with_reducible refine Fr.setCell ?_ (by (first | (with_reducible assumption) | omega | (simp only [World.size_alloc, World.size_setCell, World.size_drew, World.heap_drewN]; omega) | (simp; done) | (simp; omega))) _) | (with_reducible refine Fr.trans ?_ (by with_reducible assumption)))))).mono ?_
  rintro e w6 ⟨rfl, hf6⟩
  have z6 := hf6.size
  have BR := BR.fr hf6; have B7 := B7.fr hf6
  clear F7 FRR
  have F7 := B7.facts
  have FRR := BR.facts
  have HO6 : Hid (w6.ownsRow _ 60 3 _ _ _) := owns_fr HO5.out hf6
  cases hd2 : diskB ys
  · have HB : Hid (doB xs ⟨4, nm, tx, to⟩ = false) := (doB_some HD.out HF.out HO.out).trans hd2
    have HL := Lib.hid (doL_no HB.out)
    clear hd2
    go_wp2_with fail
    all_goals
      rw [HL.out, HB.out]
      refine bodyPost_ret (v := .tuple #[.agg #[.slice none 0 0], .bool false]) (by simp [results, Try.results11, go_sem, *]) rfl ⟨none, 0, rfl, FilesW.nil _ _ _, by repeat (first | (with_reducible exact Fr.refl _) | (with_reducible assumption) | (with_reducible refine Fr.drewN ?_ _) | (with_reducible refine Fr.drew ?_) | (with_reducible refine Fr.alloc ?_ _) | (with_reducible refine Fr.setCell ?_ (by (first | (with_reducible assumption) | omega | (simp only [World.size_alloc, World.size_setCell, World.size_drew, World.heap_drewN]; omega) | (simp; done) | (simp; omega))) _) | (with_reducible refine Fr.trans ?_ (by with_reducible assumption)))⟩
  · have HB : Hid (doB xs ⟨4, nm, tx, to⟩ = true) := (doB_some HD.out HF.out HO.out).trans hd2
    have HL := Lib.hid (doL_some HD.out HF.out HO.out hd2)
    clear hd2
    go_wp2_with fail
    rw [HL.out, HB.out]
    refine bodyPost_ret (v := .tuple #[.agg #[.slice (some ⟨g, 0, none⟩) ys.length cap4], .bool true]) (by simp [results, Try.results11, go_sem, *]) rfl ⟨(some ⟨g, 0, none⟩), cap4, rfl, ?_, by repeat (first | (with_reducible exact Fr.refl _) | (with_reducible assumption) | (with_reducible refine Fr.drewN ?_ _) | (with_reducible refine Fr.drew ?_) | (with_reducible refine Fr.alloc ?_ _) | (with_reducible refine Fr.setCell ?_ (by (first | (with_reducible assumption) | omega | (simp only [World.size_alloc, World.size_setCell, World.size_drew, World.heap_drewN]; omega) | (simp; done) | (simp; omega))) _) | (with_reducible refine Fr.trans ?_ (by with_reducible assumption)))⟩
    have o6 : FilesW w6 w3.heap.size w6.heap.size (.slice (some ⟨g, 0, none⟩) ys.length cap4) ys := OwW.of_owns HO6.out
    refine OwW.mono (lo := w3.heap.size) (hi := w6.heap.size) ?_ (by omega) (by (try simp only [World.size_setCell]); omega)
    change OwW _ _ _ _ _ _ _ _; (repeat (first | (with_reducible refine OwW.drewN ?_ _) | (with_reducible refine OwW.drew ?_) | (with_reducible refine OwW.alloc ?_ _) | (with_reducible refine OwW.set ?_ (by (first | (with_reducible assumption) | omega | (simp only [World.size_alloc, World.size_setCell, World.size_drew, World.heap_drewN]; omega) | (simp; done) | (simp; omega))) _) | (exact o6)))
end Go.Proofs.Ythcbnilmhenpgaa
