/- DoActs of the reference. Conditions: bounds on what is read, which the laws pay. -/
import Derived.Test.YthcamjijogmbhaaDos
import Derived.Test.YthcamjijogmbhaaCopyN
namespace Go.Proofs.Ythcamjijogmbhaa
open Go.RowKit
set_option linter.unusedVariables false
set_option linter.unusedSimpArgs false
set_option maxHeartbeats 8000000 in
set_option maxRecDepth 100000 in
theorem specDoActs_any (xs : List FileR) (ls : List ActR) (hn : xs.length ≤ 1048576) (hb : ActsBulk ls ≤ 1048576) (v v1 : Value) (w : World) (hv : DiskRd w v ⟨xs⟩) (hv1 : ActsR w v1 ls) :
    Calls Try.prog 38 #[v, v1] w fun e w' => ∃ ao cap, e = .returned (.tuple #[.agg #[.slice ao (dosGo ls xs 0).1.length cap], .int .i64 (dosGo ls xs 0).2]) ∧ FilesW w' w.heap.size w'.heap.size (.slice ao (dosGo ls xs 0).1.length cap) (dosGo ls xs 0).1 ∧ Fr w w' := by
  obtain ⟨i0, hi, hz0, hz1, hz2⟩ := info_parts info_File
  obtain ⟨u, rfl, hu⟩ := hv
  simp only [] at hu
  obtain ⟨a0, c0, rfl, _⟩ := RdS.val hu
  obtain ⟨a1, b1, o1, c1, rfl, hc1, hm1, f1⟩ := hv1.one
  have HU := Lib.hid hu
  have F1 := Lib.hid f1
  have HBK := Lib.hid hb
  have hal : ls.length ≤ 1048576 := by unfold ActsBulk at hb; omega
  clear hu f1 hv1 hb
  go_enter Try.func38, Try.ntmps38
  go_wp2_with (at_builtin; refine wpList_append_rd rfl _ _ 62 rfl (w.heap.size + 1 + 1) 135 i0 (.agg #[.string ⟨#[]⟩, .string ⟨#[]⟩, .int .i64 0]) 3 40 Try.underlying62 hi hz0 hz1 hz2 rfl (by decide) (.slice (some ⟨w.heap.size + 1 + 1, 0, none⟩) 0 0) 0 [] rfl (made_empty (by (first | (with_reducible assumption) | omega | (simp only [World.size_alloc, World.size_setCell, World.size_drew, World.heap_drewN]; omega) | (simp; done) | (simp; omega))) (Nat.le_refl _)) _ xs.length (xs.flatMap FileR.cells) rfl (RdS.fr HU.out (by repeat (first | (with_reducible exact Fr.refl _) | (with_reducible assumption) | (with_reducible refine Fr.drewN ?_ _) | (with_reducible refine Fr.drew ?_) | (with_reducible refine Fr.alloc ?_ _) | (with_reducible refine Fr.setCell ?_ (by (first | (with_reducible assumption) | omega | (simp only [World.size_alloc, World.size_setCell, World.size_drew, World.heap_drewN]; omega) | (simp; done) | (simp; omega))) _) | (with_reducible refine Fr.trans ?_ (by with_reducible assumption))))) (file_oneCells xs) (by unfold maxLen; omega) (by omega) (by (first | (with_reducible assumption) | omega | (simp only [World.size_alloc, World.size_setCell, World.size_drew, World.heap_drewN]; omega) | (simp; done) | (simp; omega))) ?_; intro ao0 cap0 w1 hown hgrow hat)
  have hf1 : Fr ((w.alloc (.cells #[.slice a0 xs.length c0] 64)).alloc (.cells #[.slice none 0 0] 64)) w1 := Fr.app (show Fr ((w.alloc (.cells #[.slice a0 xs.length c0] 64)).alloc (.cells #[.slice none 0 0] 64)) _ by repeat (first | (with_reducible exact Fr.refl _) | (with_reducible assumption) | (with_reducible refine Fr.drewN ?_ _) | (with_reducible refine Fr.drew ?_) | (with_reducible refine Fr.alloc ?_ _) | (with_reducible refine Fr.setCell ?_ (by (first | (with_reducible assumption) | omega | (simp only [World.size_alloc, World.size_setCell, World.size_drew, World.heap_drewN]; omega) | (simp; done) | (simp; omega))) _) | (with_reducible refine Fr.trans ?_ (by with_reducible assumption)))) hgrow (RowIn.one (lo := w.heap.size + 1 + 1) (hi := w.heap.size + 1 + 1 + 1) (Nat.le_refl _) (Nat.lt_succ_self _)) (by (first | (with_reducible assumption) | omega | (simp only [World.size_alloc, World.size_setCell, World.size_drew, World.heap_drewN]; omega) | (simp; done) | (simp; omega)))
  simp only [Nat.zero_add, List.nil_append] at hown
  have hl : FilesW w1 (w.heap.size + 1 + 1) w1.heap.size (.slice ao0 xs.length cap0) xs := OwW.of_owns hown
  have BR : Box w1 (w.heap.size + 1) #[.slice none 0 0] 64 := (Box.new' (w := w.alloc (.cells #[.slice a0 xs.length c0] 64)) (by simp)).fr hf1
  have z1 := hf1.size
  simp only [World.size_alloc] at z1
  have hf01 : Fr w w1 := by repeat (first | (with_reducible exact Fr.refl _) | (with_reducible assumption) | (with_reducible refine Fr.drewN ?_ _) | (with_reducible refine Fr.drew ?_) | (with_reducible refine Fr.alloc ?_ _) | (with_reducible refine Fr.setCell ?_ (by (first | (with_reducible assumption) | omega | (simp only [World.size_alloc, World.size_setCell, World.size_drew, World.heap_drewN]; omega) | (simp; done) | (simp; omega))) _) | (with_reducible refine Fr.trans ?_ (by with_reducible assumption)))
  clear hown hgrow hat
  (try simp only [Nat.zero_add])
  go_wp2_with fail
  go_loopw [7, 8, 9] (fun i _ _ wr => ∃ (k : Nat) (ys : List FileR) (ao : Option Addr) (cap lo hi : Nat), k ≤ ls.length ∧ i = .int .i64 k ∧ Hid (dosGo (ls.drop k) ys k = dosGo ls xs 0) ∧ ys.length ≤ 1048576 ∧ Box wr w1.heap.size #[.slice ao ys.length cap] 64 ∧ FilesW wr lo hi (.slice ao ys.length cap) ys ∧ w.heap.size + 1 + 1 ≤ lo ∧ hi ≤ wr.heap.size ∧ (hi ≤ w1.heap.size ∨ w1.heap.size + 1 ≤ lo) ∧ Box wr (w.heap.size + 1) #[.slice none 0 0] 64 ∧ Fr w wr ∧ w1.heap.size + 1 ≤ wr.heap.size) (fun i _ _ _ => ls.length - (intOf i).toNat)
  case atStart =>
    refine ⟨0, xs, ao0, cap0, w.heap.size + 1 + 1, w1.heap.size, Nat.zero_le _, rfl, rfl, hn, Box.new _ _ _, ?_, Nat.le_refl _, by simp, .inl (Nat.le_refl _), BR.alloc _, by repeat (first | (with_reducible exact Fr.refl _) | (with_reducible assumption) | (with_reducible refine Fr.drewN ?_ _) | (with_reducible refine Fr.drew ?_) | (with_reducible refine Fr.alloc ?_ _) | (with_reducible refine Fr.setCell ?_ (by (first | (with_reducible assumption) | omega | (simp only [World.size_alloc, World.size_setCell, World.size_drew, World.heap_drewN]; omega) | (simp; done) | (simp; omega))) _) | (with_reducible refine Fr.trans ?_ (by with_reducible assumption))), by simp⟩
    change OwW _ _ _ _ _ _ _ _; (repeat (first | (with_reducible refine OwW.drewN ?_ _) | (with_reducible refine OwW.drew ?_) | (with_reducible refine OwW.alloc ?_ _) | (with_reducible refine OwW.set ?_ (by (first | (with_reducible assumption) | omega | (simp only [World.size_alloc, World.size_setCell, World.size_drew, World.heap_drewN]; omega) | (simp; done) | (simp; omega))) _) | (exact hl)))
  case round =>
    clear BR hl hi hz0 hz1 hz2
    obtain ⟨k, ys, ao, cap, lo, hi, hk, rfl, hgo, hyl, BO, hW, hlo, hhi, hsep, BR, hfr, hzw⟩ := hrel
    have HW := Lib.hid hW
    clear hW
    have FO := BO.facts
    have FRR := BR.facts
    by_cases hlt : k < ls.length
    · obtain ⟨rfl, hb1, f1⟩ := F1.out (by omega)
      obtain ⟨x, hx⟩ : ∃ x, actAt ls k = x := ⟨_, rfl⟩
      have hxb : x.bulk ≤ 1048576 := by rw [← hx]; have := act_bulk hlt; have := HBK.out; omega
      have hg := dosGo_at hlt ys
      rw [hx] at hg
      have HG := Lib.hid hg
      obtain ⟨g0, g1, g2, g3⟩ := f1 k hlt
      rw [hx] at g0 g1 g2 g3
      have q0 := (hfr.cell (p := ⟨b1, _, none⟩) hb1).trans g0
      have q1 := (hfr.cell (p := ⟨b1, _, none⟩) hb1).trans g1
      have q2 := (hfr.cell (p := ⟨b1, _, none⟩) hb1).trans g2
      have q3 := (hfr.cell (p := ⟨b1, _, none⟩) hb1).trans g3
      have hb1r : b1 < wr.heap.size := Nat.lt_of_lt_of_le hb1 hfr.size
      clear f1 g0 g1 g2 g3 hx hg
      go_wp2_with fail
      go_region_law (go_simp; go_at_call 89; refine (specDoAct_any ys x hyl (act_text hxb) _ _ ⟨_, rfl, RdS.fr HW.out.rd (by repeat (first | (with_reducible exact Fr.refl _) | (with_reducible assumption) | (with_reducible refine Fr.drewN ?_ _) | (with_reducible refine Fr.drew ?_) | (with_reducible refine Fr.alloc ?_ _) | (with_reducible refine Fr.setCell ?_ (by (first | (with_reducible assumption) | omega | (simp only [World.size_alloc, World.size_setCell, World.size_drew, World.heap_drewN]; omega) | (simp; done) | (simp; omega))) _) | (with_reducible refine Fr.trans ?_ (by with_reducible assumption))))⟩).mono ?_; rintro e w2 ⟨ao2, cap2, rfl, hl2, hf2⟩; (try (have B8 : Box w2 wr.heap.size #[.slice none 0 0] 64 := (Box.fr (by first | exact Box.new _ _ _ | exact (Box.new _ _ _).drew) hf2); have F8 := B8.facts)))
      all_goals
        have z2 := hf2.size
        (try simp only [World.size_alloc, World.size_drew] at z2 hl2)
        have BO2 : Box w2 w1.heap.size #[.slice ao ys.length cap] 64 := Box.fr (by first | exact (BO.alloc _).drew | exact BO.drew | exact BO.alloc _ | exact BO) hf2
        have BR2 : Box w2 (w.heap.size + 1) #[.slice none 0 0] 64 := Box.fr (by first | exact (BR.alloc _).drew | exact BR.drew | exact BR.alloc _ | exact BR) hf2
        have HW2 : Hid (FilesW w2 lo hi _ ys) := OwW.fr HW.out (show Fr wr w2 by repeat (first | (with_reducible exact Fr.refl _) | (with_reducible assumption) | (with_reducible refine Fr.drewN ?_ _) | (with_reducible refine Fr.drew ?_) | (with_reducible refine Fr.alloc ?_ _) | (with_reducible refine Fr.setCell ?_ (by (first | (with_reducible assumption) | omega | (simp only [World.size_alloc, World.size_setCell, World.size_drew, World.heap_drewN]; omega) | (simp; done) | (simp; omega))) _) | (with_reducible refine Fr.trans ?_ (by with_reducible assumption))))
        have HL2 := Lib.hid hl2
        have hdl := doL_length (xs := ys) (a := x)
        clear FO FRR hl2
        have FO := BO2.facts
        have FRR := BR2.facts
        cases hd : doB ys x
        · have hend : Hid (dosGo ls xs 0 = (ys, k)) := by show _ = _; rw [← hgo.out, HG.out, hd]; rfl
          clear hd
          go_wp2_with fail
          rw [hend.out]
          refine bodyPost_ret (v := .tuple #[.agg #[.slice ao ys.length cap], .int .i64 k]) (by simp [results, Try.results38, go_sem, *]) rfl ⟨ao, cap, rfl, ?_, by repeat (first | (with_reducible exact Fr.refl _) | (with_reducible assumption) | (with_reducible refine Fr.drewN ?_ _) | (with_reducible refine Fr.drew ?_) | (with_reducible refine Fr.alloc ?_ _) | (with_reducible refine Fr.setCell ?_ (by (first | (with_reducible assumption) | omega | (simp only [World.size_alloc, World.size_setCell, World.size_drew, World.heap_drewN]; omega) | (simp; done) | (simp; omega))) _) | (with_reducible refine Fr.trans ?_ (by with_reducible assumption)))⟩
          refine OwW.mono (lo := lo) (hi := hi) ?_ (by omega) (by simp; omega)
          change OwW _ _ _ _ _ _ _ _; (repeat (first | (with_reducible refine OwW.drewN ?_ _) | (with_reducible refine OwW.drew ?_) | (with_reducible refine OwW.alloc ?_ _) | (with_reducible refine OwW.set ?_ (by (first | (with_reducible assumption) | omega | (simp only [World.size_alloc, World.size_setCell, World.size_drew, World.heap_drewN]; omega) | (simp; done) | (simp; omega))) _) | (exact HW2.out)))
        · have hnext : Hid (dosGo (ls.drop (k + 1)) (doL ys x) (k + 1) = dosGo ls xs 0) := by show _ = _; rw [← hgo.out, HG.out, hd]; rfl
          clear hd
          generalize doL ys x = zs at HL2 hnext hdl ⊢
          go_wp2_with fail
          go_roundw
          case rel =>
            first
              | (refine ⟨k + 1, zs, ao2, cap2, wr.heap.size + 1, w2.heap.size, by omega, by go_num, hnext, by omega, (box_far BO2 (by omega) _).set_to (by simp), ?_, by omega, by simp, .inr (by omega), box_far (box_far BR2 (by omega) _) (by omega) _, by repeat (first | (with_reducible exact Fr.refl _) | (with_reducible assumption) | (with_reducible refine Fr.drewN ?_ _) | (with_reducible refine Fr.drew ?_) | (with_reducible refine Fr.alloc ?_ _) | (with_reducible refine Fr.setCell ?_ (by (first | (with_reducible assumption) | omega | (simp only [World.size_alloc, World.size_setCell, World.size_drew, World.heap_drewN]; omega) | (simp; done) | (simp; omega))) _) | (with_reducible refine Fr.trans ?_ (by with_reducible assumption))), by simp; omega⟩; (change OwW _ _ _ _ _ _ _ _; (repeat (first | (with_reducible refine OwW.drewN ?_ _) | (with_reducible refine OwW.drew ?_) | (with_reducible refine OwW.alloc ?_ _) | (with_reducible refine OwW.set ?_ (by (first | (with_reducible assumption) | omega | (simp only [World.size_alloc, World.size_setCell, World.size_drew, World.heap_drewN]; omega) | (simp; done) | (simp; omega))) _) | (exact HL2.out)))); done)
              | (refine ⟨k + 1, zs, ao2, cap2, wr.heap.size, w2.heap.size, by omega, by go_num, hnext, by omega, (BO2.set_to (by simp)).alloc _, ?_, by omega, by simp, .inr (by omega), (box_far BR2 (by omega) _).alloc _, by repeat (first | (with_reducible exact Fr.refl _) | (with_reducible assumption) | (with_reducible refine Fr.drewN ?_ _) | (with_reducible refine Fr.drew ?_) | (with_reducible refine Fr.alloc ?_ _) | (with_reducible refine Fr.setCell ?_ (by (first | (with_reducible assumption) | omega | (simp only [World.size_alloc, World.size_setCell, World.size_drew, World.heap_drewN]; omega) | (simp; done) | (simp; omega))) _) | (with_reducible refine Fr.trans ?_ (by with_reducible assumption))), by simp; omega⟩; (change OwW _ _ _ _ _ _ _ _; (repeat (first | (with_reducible refine OwW.drewN ?_ _) | (with_reducible refine OwW.drew ?_) | (with_reducible refine OwW.alloc ?_ _) | (with_reducible refine OwW.set ?_ (by (first | (with_reducible assumption) | omega | (simp only [World.size_alloc, World.size_setCell, World.size_drew, World.heap_drewN]; omega) | (simp; done) | (simp; omega))) _) | (exact HL2.out)))); done)
          case measure => (simp [intOf]; omega)
    · have hend : Hid (dosGo ls xs 0 = (ys, k)) := by show _ = _; rw [← hgo.out]; exact dosGo_end hlt ys
      obtain rfl : k = ls.length := by omega
      go_wp2_with fail
      rw [hend.out]
      refine bodyPost_ret (v := .tuple #[.agg #[.slice ao ys.length cap], .int .i64 ls.length]) (by simp [results, Try.results38, go_sem, *]) rfl ⟨ao, cap, rfl, ?_, by repeat (first | (with_reducible exact Fr.refl _) | (with_reducible assumption) | (with_reducible refine Fr.drewN ?_ _) | (with_reducible refine Fr.drew ?_) | (with_reducible refine Fr.alloc ?_ _) | (with_reducible refine Fr.setCell ?_ (by (first | (with_reducible assumption) | omega | (simp only [World.size_alloc, World.size_setCell, World.size_drew, World.heap_drewN]; omega) | (simp; done) | (simp; omega))) _) | (with_reducible refine Fr.trans ?_ (by with_reducible assumption)))⟩
      refine OwW.mono (lo := lo) (hi := hi) ?_ (by omega) (by simp; omega)
      change OwW _ _ _ _ _ _ _ _; (repeat (first | (with_reducible refine OwW.drewN ?_ _) | (with_reducible refine OwW.drew ?_) | (with_reducible refine OwW.alloc ?_ _) | (with_reducible refine OwW.set ?_ (by (first | (with_reducible assumption) | omega | (simp only [World.size_alloc, World.size_setCell, World.size_drew, World.heap_drewN]; omega) | (simp; done) | (simp; omega))) _) | (exact HW.out)))
end Go.Proofs.Ythcamjijogmbhaa
