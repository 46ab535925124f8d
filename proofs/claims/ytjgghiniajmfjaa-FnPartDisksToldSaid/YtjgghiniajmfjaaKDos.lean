/- Texts in one: Do, Dos, Dos2, Dos3. -/
import Derived.Test.YtjgghiniajmfjaaActS
import Derived.Test.YtjgghiniajmfjaaActI
import Derived.Test.YtjgghiniajmfjaaKFile
import Derived.Test.YtjgghiniajmfjaaKAct
import Derived.Test.YtjgghiniajmfjaaKIns
/- DoAct of both, in the form that the law wants. Condition: bounds on what is read, which the law pays. -/
namespace Go.Proofs.Ytjgghiniajmfjaa
open Go.RowKit
set_option linter.unusedVariables false
set_option linter.unusedSimpArgs false
theorem act_text {a : ActR} (h : a.bulk ≤ 1048576) : a.f2.size ≤ 1048576 := by unfold ActR.bulk at h; omega
theorem doL_cnt (xs : List FileR) (a : ActR) : (⟨doL xs a⟩ : DiskD).cnt ≤ 100000000 := by
  have := doL_length (xs := xs) (a := a)
  show 3 * (doL xs a).length ≤ _
  omega
theorem specDoAct_d (d : DiskD) (a : ActR) (hn : d.f0.length ≤ 1048576) (hb : a.bulk ≤ 1048576) (v : Value) (w : World) (hv : DiskRd w v d) :
    Calls Try.prog 109 #[v, .agg #[.int .i64 a.f0, .string a.f1, .string a.f2, .string a.f3]] w fun e w' => ∃ ao cap, e = .returned (.tuple #[.agg #[.slice ao (⟨doL d.f0 a⟩ : DiskD).f0.length cap], .bool (doB d.f0 a)]) ∧ DiskW w' w.heap.size w'.heap.size (.agg #[.slice ao (⟨doL d.f0 a⟩ : DiskD).f0.length cap]) ⟨doL d.f0 a⟩ ∧ Fr w w' :=
  (specDoAct_any d.f0 a hn (act_text hb) v w hv).mono fun e w' h => by obtain ⟨ao, cap, h1, h2, h3⟩ := h; exact ⟨ao, cap, h1, ⟨ao, cap, rfl, h2⟩, h3⟩
theorem implDoAct_d (d : DiskD) (a : ActR) (hn : d.f0.length ≤ 1048576) (hb : a.bulk ≤ 1048576) (v : Value) (w : World) (hv : DiskRd w v d) :
    Calls Try.prog 173 #[v, .agg #[.int .i64 a.f0, .string a.f1, .string a.f2, .string a.f3]] w fun e w' => ∃ ao cap, e = .returned (.tuple #[.agg #[.slice ao (⟨doL d.f0 a⟩ : DiskD).f0.length cap], .bool (doB d.f0 a)]) ∧ DiskW w' w.heap.size w'.heap.size (.agg #[.slice ao (⟨doL d.f0 a⟩ : DiskD).f0.length cap]) ⟨doL d.f0 a⟩ ∧ Fr w w' :=
  (implDoAct_any d.f0 a hn (act_text hb) v w hv).mono fun e w' h => by obtain ⟨ao, cap, h1, h2, h3⟩ := h; exact ⟨ao, cap, h1, ⟨ao, cap, rfl, h2⟩, h3⟩
end Go.Proofs.Ytjgghiniajmfjaa

/- DoActs of the program. Conditions: bounds on what is read, which the laws pay. -/
namespace Go.Proofs.Ytjgghiniajmfjaa
open Go.RowKit
set_option linter.unusedVariables false
set_option linter.unusedSimpArgs false
def dosGo : List ActR → List FileR → Nat → List FileR × Nat
  | [], xs, i => (xs, i)
  | a :: ls, xs, i => if doB xs a then dosGo ls (doL xs a) (i + 1) else (xs, i)
theorem dosGo_at {ls : List ActR} {k : Nat} (hk : k < ls.length) (ys : List FileR) : dosGo (ls.drop k) ys k = if doB ys (actAt ls k) then dosGo (ls.drop (k + 1)) (doL ys (actAt ls k)) (k + 1) else (ys, k) := by
  rw [List.drop_eq_getElem_cons hk, dosGo, show ls[k] = actAt ls k by simp [actAt, List.getD, List.getElem?_eq_getElem hk]]
theorem dosGo_end {ls : List ActR} {k : Nat} (hk : ¬ k < ls.length) (ys : List FileR) : dosGo (ls.drop k) ys k = (ys, k) := by
  rw [List.drop_eq_nil_of_le (by omega)]; rfl
theorem act_bulk {ls : List ActR} {k : Nat} (hk : k < ls.length) : (actAt ls k).bulk ≤ ActsBulk ls := by
  have h1 := sumAct_succ ls k hk
  have h2 := sumAct_le ls (k + 1)
  unfold ActsBulk
  omega
set_option maxHeartbeats 8000000 in
set_option maxRecDepth 100000 in
theorem implDoActs_any (xs : List FileR) (ls : List ActR) (hn : xs.length ≤ 1048576) (hb : ActsBulk ls ≤ 1048576) (v v1 : Value) (w : World) (hv : DiskRd w v ⟨xs⟩) (hv1 : ActsR w v1 ls) :
    Calls Try.prog 105 #[v, v1] w fun e w' => ∃ ao cap, e = .returned (.tuple #[.agg #[.slice ao (dosGo ls xs 0).1.length cap], .int .i64 (dosGo ls xs 0).2]) ∧ FilesW w' w.heap.size w'.heap.size (.slice ao (dosGo ls xs 0).1.length cap) (dosGo ls xs 0).1 ∧ Fr w w' := by
  obtain ⟨u, rfl, hu⟩ := hv
  simp only [] at hu
  obtain ⟨a0, c0, rfl, _⟩ := RdS.val hu
  obtain ⟨a1, b1, o1, c1, rfl, hc1, hm1, f1⟩ := hv1.one
  have HU := Lib.hid hu
  have F1 := Lib.hid f1
  have HBK := Lib.hid hb
  have hal : ls.length ≤ 1048576 := by unfold ActsBulk at hb; omega
  clear hu f1 hv1 hb
  go_enter Try.func105, Try.ntmps105
  go_wp2_with fail
  refine (copyDisk_any _ ⟨xs⟩ _ ⟨_, rfl, HU.out.fr (by repeat (first | (with_reducible exact Fr.refl _) | (with_reducible assumption) | (with_reducible refine Fr.drewN ?_ _) | (with_reducible refine Fr.drew ?_) | (with_reducible refine Fr.alloc ?_ _) | (with_reducible refine Fr.setCell ?_ (by (first | (with_reducible assumption) | omega | (simp only [World.size_alloc, World.size_setCell, World.size_drew, World.heap_drewN]; omega) | (simp; done) | (simp; omega))) _) | (with_reducible refine Fr.trans ?_ (by with_reducible assumption))))⟩ (by show xs.length ≤ _; omega)).mono ?_
  rintro e w1 ⟨ao0, cap0, rfl, hl, hf1⟩
  simp only [] at hl
  obtain ⟨_, _, h4, hl⟩ := hl
  cases h4
  simp only [] at hl
  have BR : Box w1 (w.heap.size + 1) #[.slice none 0 0] 46 := (Box.new' (w := w.alloc (.cells #[.slice a0 xs.length c0] 46)) (by simp)).fr hf1
  have z1 := hf1.size
  simp only [World.size_alloc] at z1 hl
  have hf01 : Fr w w1 := by repeat (first | (with_reducible exact Fr.refl _) | (with_reducible assumption) | (with_reducible refine Fr.drewN ?_ _) | (with_reducible refine Fr.drew ?_) | (with_reducible refine Fr.alloc ?_ _) | (with_reducible refine Fr.setCell ?_ (by (first | (with_reducible assumption) | omega | (simp only [World.size_alloc, World.size_setCell, World.size_drew, World.heap_drewN]; omega) | (simp; done) | (simp; omega))) _) | (with_reducible refine Fr.trans ?_ (by with_reducible assumption)))
  go_wp2_with fail
  go_loopw [7, 8, 9, 10, 15] (fun _ _ _ _ i wr => ∃ (k : Nat) (ys : List FileR) (ao : Option Addr) (cap lo hi : Nat), k ≤ ls.length ∧ i = .int .i64 k ∧ Hid (dosGo (ls.drop k) ys k = dosGo ls xs 0) ∧ ys.length ≤ 1048576 ∧ Box wr w1.heap.size #[.slice ao ys.length cap] 46 ∧ FilesW wr lo hi (.slice ao ys.length cap) ys ∧ w.heap.size + 1 + 1 ≤ lo ∧ hi ≤ wr.heap.size ∧ (hi ≤ w1.heap.size ∨ w1.heap.size + 1 ≤ lo) ∧ Box wr (w.heap.size + 1) #[.slice none 0 0] 46 ∧ Fr w wr ∧ w1.heap.size + 1 ≤ wr.heap.size) (fun _ _ _ _ i _ => ls.length - (intOf i).toNat)
  case atStart =>
    refine ⟨0, xs, ao0, cap0, w.heap.size + 1 + 1, w1.heap.size, Nat.zero_le _, rfl, rfl, hn, Box.new _ _ _, ?_, Nat.le_refl _, by simp, .inl (Nat.le_refl _), BR.alloc _, by repeat (first | (with_reducible exact Fr.refl _) | (with_reducible assumption) | (with_reducible refine Fr.drewN ?_ _) | (with_reducible refine Fr.drew ?_) | (with_reducible refine Fr.alloc ?_ _) | (with_reducible refine Fr.setCell ?_ (by (first | (with_reducible assumption) | omega | (simp only [World.size_alloc, World.size_setCell, World.size_drew, World.heap_drewN]; omega) | (simp; done) | (simp; omega))) _) | (with_reducible refine Fr.trans ?_ (by with_reducible assumption))), by simp⟩
    change OwW _ _ _ _ _ _ _ _; (repeat (first | (with_reducible refine OwW.drewN ?_ _) | (with_reducible refine OwW.drew ?_) | (with_reducible refine OwW.alloc ?_ _) | (with_reducible refine OwW.set ?_ (by (first | (with_reducible assumption) | omega | (simp only [World.size_alloc, World.size_setCell, World.size_drew, World.heap_drewN]; omega) | (simp; done) | (simp; omega))) _) | (exact hl)))
  case round =>
    clear BR hl
    obtain ⟨k, ys, ao, cap, lo, hi, hk, rfl, hgo, hyl, BO, hW, hlo, hhi, hsep, BR, hfr, hzw⟩ := hrel
    have HW := Lib.hid hW
    clear hW
    have FO := BO.facts
    have FRR := BR.facts
    by_cases hlt : k < ls.length
    · obtain ⟨rfl, hb1, f1⟩ := F1.out (by omega)
      obtain ⟨x, hx⟩ : ∃ x, actAt ls k = x := ⟨_, rfl⟩
      have hxb : x.bulk ≤ 1048576 := by rw [← hx]; have := act_bulk hlt; have := HBK.out; omega
      have hg := dosGo_at hlt ys
      rw [hx] at hg
      have HG := Lib.hid hg
      obtain ⟨g0, g1, g2, g3⟩ := f1 k hlt
      rw [hx] at g0 g1 g2 g3
      have q0 := (hfr.cell (p := ⟨b1, _, none⟩) hb1).trans g0
      have q1 := (hfr.cell (p := ⟨b1, _, none⟩) hb1).trans g1
      have q2 := (hfr.cell (p := ⟨b1, _, none⟩) hb1).trans g2
      have q3 := (hfr.cell (p := ⟨b1, _, none⟩) hb1).trans g3
      have hb1r : b1 < wr.heap.size := Nat.lt_of_lt_of_le hb1 hfr.size
      clear f1 g0 g1 g2 g3 hx hg
      go_wp2_with fail
      refine (implDoAct_any ys x hyl (act_text hxb) _ _ ⟨_, rfl, RdS.fr HW.out.rd (by repeat (first | (with_reducible exact Fr.refl _) | (with_reducible assumption) | (with_reducible refine Fr.drewN ?_ _) | (with_reducible refine Fr.drew ?_) | (with_reducible refine Fr.alloc ?_ _) | (with_reducible refine Fr.setCell ?_ (by (first | (with_reducible assumption) | omega | (simp only [World.size_alloc, World.size_setCell, World.size_drew, World.heap_drewN]; omega) | (simp; done) | (simp; omega))) _) | (with_reducible refine Fr.trans ?_ (by with_reducible assumption))))⟩).mono ?_
      rintro e w2 ⟨ao2, cap2, rfl, hl2, hf2⟩
      have z2 := hf2.size
      simp only [World.size_alloc] at z2 hl2
      have BO2 := (BO.alloc _).fr hf2
      have BR2 := (BR.alloc _).fr hf2
      have HW2 : Hid (FilesW w2 lo hi _ ys) := OwW.fr HW.out (show Fr wr w2 by repeat (first | (with_reducible exact Fr.refl _) | (with_reducible assumption) | (with_reducible refine Fr.drewN ?_ _) | (with_reducible refine Fr.drew ?_) | (with_reducible refine Fr.alloc ?_ _) | (with_reducible refine Fr.setCell ?_ (by (first | (with_reducible assumption) | omega | (simp only [World.size_alloc, World.size_setCell, World.size_drew, World.heap_drewN]; omega) | (simp; done) | (simp; omega))) _) | (with_reducible refine Fr.trans ?_ (by with_reducible assumption))))
      have HL2 := Lib.hid hl2
      have hdl := doL_length (xs := ys) (a := x)
      clear FO FRR hl2
      have FO := BO2.facts
      have FRR := BR2.facts
      cases hd : doB ys x
      · have hend : Hid (dosGo ls xs 0 = (ys, k)) := by show _ = _; rw [← hgo.out, HG.out, hd]; rfl
        clear hd
        go_wp2_with fail
        rw [hend.out]
        refine bodyPost_ret (v := .tuple #[.agg #[.slice ao ys.length cap], .int .i64 k]) (by simp [results, Try.results105, go_sem, *]) rfl ⟨ao, cap, rfl, ?_, by repeat (first | (with_reducible exact Fr.refl _) | (with_reducible assumption) | (with_reducible refine Fr.drewN ?_ _) | (with_reducible refine Fr.drew ?_) | (with_reducible refine Fr.alloc ?_ _) | (with_reducible refine Fr.setCell ?_ (by (first | (with_reducible assumption) | omega | (simp only [World.size_alloc, World.size_setCell, World.size_drew, World.heap_drewN]; omega) | (simp; done) | (simp; omega))) _) | (with_reducible refine Fr.trans ?_ (by with_reducible assumption)))⟩
        refine OwW.mono (lo := lo) (hi := hi) ?_ (by omega) (by simp; omega)
        change OwW _ _ _ _ _ _ _ _; (repeat (first | (with_reducible refine OwW.drewN ?_ _) | (with_reducible refine OwW.drew ?_) | (with_reducible refine OwW.alloc ?_ _) | (with_reducible refine OwW.set ?_ (by (first | (with_reducible assumption) | omega | (simp only [World.size_alloc, World.size_setCell, World.size_drew, World.heap_drewN]; omega) | (simp; done) | (simp; omega))) _) | (exact HW2.out)))
      · have hnext : Hid (dosGo (ls.drop (k + 1)) (doL ys x) (k + 1) = dosGo ls xs 0) := by show _ = _; rw [← hgo.out, HG.out, hd]; rfl
        clear hd
        generalize doL ys x = zs at HL2 hnext hdl ⊢
        go_wp2_with fail
        go_roundw
        case rel =>
          refine ⟨k + 1, zs, ao2, cap2, wr.heap.size + 1, w2.heap.size, by omega, by go_num, hnext, by omega, (BO2.set_to (by simp)).alloc _, ?_, by omega, by simp, .inr (by omega), (box_far BR2 (by omega) _).alloc _, by repeat (first | (with_reducible exact Fr.refl _) | (with_reducible assumption) | (with_reducible refine Fr.drewN ?_ _) | (with_reducible refine Fr.drew ?_) | (with_reducible refine Fr.alloc ?_ _) | (with_reducible refine Fr.setCell ?_ (by (first | (with_reducible assumption) | omega | (simp only [World.size_alloc, World.size_setCell, World.size_drew, World.heap_drewN]; omega) | (simp; done) | (simp; omega))) _) | (with_reducible refine Fr.trans ?_ (by with_reducible assumption))), by simp; omega⟩
          change OwW _ _ _ _ _ _ _ _; (repeat (first | (with_reducible refine OwW.drewN ?_ _) | (with_reducible refine OwW.drew ?_) | (with_reducible refine OwW.alloc ?_ _) | (with_reducible refine OwW.set ?_ (by (first | (with_reducible assumption) | omega | (simp only [World.size_alloc, World.size_setCell, World.size_drew, World.heap_drewN]; omega) | (simp; done) | (simp; omega))) _) | (exact HL2.out)))
        case measure => (simp [intOf]; omega)
    · have hend : Hid (dosGo ls xs 0 = (ys, k)) := by show _ = _; rw [← hgo.out]; exact dosGo_end hlt ys
      obtain rfl : k = ls.length := by omega
      go_wp2_with fail
      rw [hend.out]
      refine bodyPost_ret (v := .tuple #[.agg #[.slice ao ys.length cap], .int .i64 ls.length]) (by simp [results, Try.results105, go_sem, *]) rfl ⟨ao, cap, rfl, ?_, by repeat (first | (with_reducible exact Fr.refl _) | (with_reducible assumption) | (with_reducible refine Fr.drewN ?_ _) | (with_reducible refine Fr.drew ?_) | (with_reducible refine Fr.alloc ?_ _) | (with_reducible refine Fr.setCell ?_ (by (first | (with_reducible assumption) | omega | (simp only [World.size_alloc, World.size_setCell, World.size_drew, World.heap_drewN]; omega) | (simp; done) | (simp; omega))) _) | (with_reducible refine Fr.trans ?_ (by with_reducible assumption)))⟩
      refine OwW.mono (lo := lo) (hi := hi) ?_ (by omega) (by simp; omega)
      change OwW _ _ _ _ _ _ _ _; (repeat (first | (with_reducible refine OwW.drewN ?_ _) | (with_reducible refine OwW.drew ?_) | (with_reducible refine OwW.alloc ?_ _) | (with_reducible refine OwW.set ?_ (by (first | (with_reducible assumption) | omega | (simp only [World.size_alloc, World.size_setCell, World.size_drew, World.heap_drewN]; omega) | (simp; done) | (simp; omega))) _) | (exact HW.out)))
end Go.Proofs.Ytjgghiniajmfjaa

/- DoActs of the reference. Conditions: bounds on what is read, which the laws pay. -/
namespace Go.Proofs.Ytjgghiniajmfjaa
open Go.RowKit
set_option linter.unusedVariables false
set_option linter.unusedSimpArgs false
set_option maxHeartbeats 8000000 in
set_option maxRecDepth 100000 in
theorem specDoActs_any (xs : List FileR) (ls : List ActR) (hn : xs.length ≤ 1048576) (hb : ActsBulk ls ≤ 1048576) (v v1 : Value) (w : World) (hv : DiskRd w v ⟨xs⟩) (hv1 : ActsR w v1 ls) :
    Calls Try.prog 36 #[v, v1] w fun e w' => ∃ ao cap, e = .returned (.tuple #[.agg #[.slice ao (dosGo ls xs 0).1.length cap], .int .i64 (dosGo ls xs 0).2]) ∧ FilesW w' w.heap.size w'.heap.size (.slice ao (dosGo ls xs 0).1.length cap) (dosGo ls xs 0).1 ∧ Fr w w' := by
  obtain ⟨i0, hi, hz0, hz1, hz2⟩ := info_parts info_File
  obtain ⟨u, rfl, hu⟩ := hv
  simp only [] at hu
  obtain ⟨a0, c0, rfl, _⟩ := RdS.val hu
  obtain ⟨a1, b1, o1, c1, rfl, hc1, hm1, f1⟩ := hv1.one
  have HU := Lib.hid hu
  have F1 := Lib.hid f1
  have HBK := Lib.hid hb
  have hal : ls.length ≤ 1048576 := by unfold ActsBulk at hb; omega
  clear hu f1 hv1 hb
  go_enter Try.func36, Try.ntmps36
  go_wp2_with (at_builtin; refine wpList_append_rd rfl _ _ 44 rfl (w.heap.size + 1 + 1) 147 i0 (.agg #[.string ⟨#[]⟩, .string ⟨#[]⟩, .int .i64 0]) 3 40 Try.underlying44 hi hz0 hz1 hz2 rfl (by decide) (.slice (some ⟨w.heap.size + 1 + 1, 0, none⟩) 0 0) 0 [] rfl (made_empty (by (first | (with_reducible assumption) | omega | (simp only [World.size_alloc, World.size_setCell, World.size_drew, World.heap_drewN]; omega) | (simp; done) | (simp; omega))) (Nat.le_refl _)) _ xs.length (xs.flatMap FileR.cells) rfl (RdS.fr HU.out (by repeat (first | (with_reducible exact Fr.refl _) | (with_reducible assumption) | (with_reducible refine Fr.drewN ?_ _) | (with_reducible refine Fr.drew ?_) | (with_reducible refine Fr.alloc ?_ _) | (with_reducible refine Fr.setCell ?_ (by (first | (with_reducible assumption) | omega | (simp only [World.size_alloc, World.size_setCell, World.size_drew, World.heap_drewN]; omega) | (simp; done) | (simp; omega))) _) | (with_reducible refine Fr.trans ?_ (by with_reducible assumption))))) (file_oneCells xs) (by unfold maxLen; omega) (by omega) (by (first | (with_reducible assumption) | omega | (simp only [World.size_alloc, World.size_setCell, World.size_drew, World.heap_drewN]; omega) | (simp; done) | (simp; omega))) ?_; intro ao0 cap0 w1 hown hgrow hat)
  have hf1 : Fr ((w.alloc (.cells #[.slice a0 xs.length c0] 46)).alloc (.cells #[.slice none 0 0] 46)) w1 := Fr.app (show Fr ((w.alloc (.cells #[.slice a0 xs.length c0] 46)).alloc (.cells #[.slice none 0 0] 46)) _ by repeat (first | (with_reducible exact Fr.refl _) | (with_reducible assumption) | (with_reducible refine Fr.drewN ?_ _) | (with_reducible refine Fr.drew ?_) | (with_reducible refine Fr.alloc ?_ _) | (with_reducible refine Fr.setCell ?_ (by (first | (with_reducible assumption) | omega | (simp only [World.size_alloc, World.size_setCell, World.size_drew, World.heap_drewN]; omega) | (simp; done) | (simp; omega))) _) | (with_reducible refine Fr.trans ?_ (by with_reducible assumption)))) hgrow (RowIn.one (lo := w.heap.size + 1 + 1) (hi := w.heap.size + 1 + 1 + 1) (Nat.le_refl _) (Nat.lt_succ_self _)) (by (first | (with_reducible assumption) | omega | (simp only [World.size_alloc, World.size_setCell, World.size_drew, World.heap_drewN]; omega) | (simp; done) | (simp; omega)))
  simp only [Nat.zero_add, List.nil_append] at hown
  have hl : FilesW w1 (w.heap.size + 1 + 1) w1.heap.size (.slice ao0 xs.length cap0) xs := OwW.of_owns hown
  have BR : Box w1 (w.heap.size + 1) #[.slice none 0 0] 46 := (Box.new' (w := w.alloc (.cells #[.slice a0 xs.length c0] 46)) (by simp)).fr hf1
  have z1 := hf1.size
  simp only [World.size_alloc] at z1
  have hf01 : Fr w w1 := by repeat (first | (with_reducible exact Fr.refl _) | (with_reducible assumption) | (with_reducible refine Fr.drewN ?_ _) | (with_reducible refine Fr.drew ?_) | (with_reducible refine Fr.alloc ?_ _) | (with_reducible refine Fr.setCell ?_ (by (first | (with_reducible assumption) | omega | (simp only [World.size_alloc, World.size_setCell, World.size_drew, World.heap_drewN]; omega) | (simp; done) | (simp; omega))) _) | (with_reducible refine Fr.trans ?_ (by with_reducible assumption)))
  clear hown hgrow hat
  (try simp only [Nat.zero_add])
  go_wp2_with fail
  go_loopw [7, 8, 9] (fun i _ _ wr => ∃ (k : Nat) (ys : List FileR) (ao : Option Addr) (cap lo hi : Nat), k ≤ ls.length ∧ i = .int .i64 k ∧ Hid (dosGo (ls.drop k) ys k = dosGo ls xs 0) ∧ ys.length ≤ 1048576 ∧ Box wr w1.heap.size #[.slice ao ys.length cap] 46 ∧ FilesW wr lo hi (.slice ao ys.length cap) ys ∧ w.heap.size + 1 + 1 ≤ lo ∧ hi ≤ wr.heap.size ∧ (hi ≤ w1.heap.size ∨ w1.heap.size + 1 ≤ lo) ∧ Box wr (w.heap.size + 1) #[.slice none 0 0] 46 ∧ Fr w wr ∧ w1.heap.size + 1 ≤ wr.heap.size) (fun i _ _ _ => ls.length - (intOf i).toNat)
  case atStart =>
    refine ⟨0, xs, ao0, cap0, w.heap.size + 1 + 1, w1.heap.size, Nat.zero_le _, rfl, rfl, hn, Box.new _ _ _, ?_, Nat.le_refl _, by simp, .inl (Nat.le_refl _), BR.alloc _, by repeat (first | (with_reducible exact Fr.refl _) | (with_reducible assumption) | (with_reducible refine Fr.drewN ?_ _) | (with_reducible refine Fr.drew ?_) | (with_reducible refine Fr.alloc ?_ _) | (with_reducible refine Fr.setCell ?_ (by (first | (with_reducible assumption) | omega | (simp only [World.size_alloc, World.size_setCell, World.size_drew, World.heap_drewN]; omega) | (simp; done) | (simp; omega))) _) | (with_reducible refine Fr.trans ?_ (by with_reducible assumption))), by simp⟩
    change OwW _ _ _ _ _ _ _ _; (repeat (first | (with_reducible refine OwW.drewN ?_ _) | (with_reducible refine OwW.drew ?_) | (with_reducible refine OwW.alloc ?_ _) | (with_reducible refine OwW.set ?_ (by (first | (with_reducible assumption) | omega | (simp only [World.size_alloc, World.size_setCell, World.size_drew, World.heap_drewN]; omega) | (simp; done) | (simp; omega))) _) | (exact hl)))
  case round =>
    clear BR hl hi hz0 hz1 hz2
    obtain ⟨k, ys, ao, cap, lo, hi, hk, rfl, hgo, hyl, BO, hW, hlo, hhi, hsep, BR, hfr, hzw⟩ := hrel
    have HW := Lib.hid hW
    clear hW
    have FO := BO.facts
    have FRR := BR.facts
    by_cases hlt : k < ls.length
    · obtain ⟨rfl, hb1, f1⟩ := F1.out (by omega)
      obtain ⟨x, hx⟩ : ∃ x, actAt ls k = x := ⟨_, rfl⟩
      have hxb : x.bulk ≤ 1048576 := by rw [← hx]; have := act_bulk hlt; have := HBK.out; omega
      have hg := dosGo_at hlt ys
      rw [hx] at hg
      have HG := Lib.hid hg
      obtain ⟨g0, g1, g2, g3⟩ := f1 k hlt
      rw [hx] at g0 g1 g2 g3
      have q0 := (hfr.cell (p := ⟨b1, _, none⟩) hb1).trans g0
      have q1 := (hfr.cell (p := ⟨b1, _, none⟩) hb1).trans g1
      have q2 := (hfr.cell (p := ⟨b1, _, none⟩) hb1).trans g2
      have q3 := (hfr.cell (p := ⟨b1, _, none⟩) hb1).trans g3
      have hb1r : b1 < wr.heap.size := Nat.lt_of_lt_of_le hb1 hfr.size
      clear f1 g0 g1 g2 g3 hx hg
      go_wp2_with fail
      go_region_law (go_simp; go_at_call 109; refine (specDoAct_any ys x hyl (act_text hxb) _ _ ⟨_, rfl, RdS.fr HW.out.rd (by repeat (first | (with_reducible exact Fr.refl _) | (with_reducible assumption) | (with_reducible refine Fr.drewN ?_ _) | (with_reducible refine Fr.drew ?_) | (with_reducible refine Fr.alloc ?_ _) | (with_reducible refine Fr.setCell ?_ (by (first | (with_reducible assumption) | omega | (simp only [World.size_alloc, World.size_setCell, World.size_drew, World.heap_drewN]; omega) | (simp; done) | (simp; omega))) _) | (with_reducible refine Fr.trans ?_ (by with_reducible assumption))))⟩).mono ?_; rintro e w2 ⟨ao2, cap2, rfl, hl2, hf2⟩; (try (have B8 : Box w2 wr.heap.size #[.slice none 0 0] 46 := (Box.fr (by first | exact Box.new _ _ _ | exact (Box.new _ _ _).drew) hf2); have F8 := B8.facts)))
      all_goals
        have z2 := hf2.size
        (try simp only [World.size_alloc, World.size_drew] at z2 hl2)
        have BO2 : Box w2 w1.heap.size #[.slice ao ys.length cap] 46 := Box.fr (by first | exact (BO.alloc _).drew | exact BO.drew | exact BO.alloc _ | exact BO) hf2
        have BR2 : Box w2 (w.heap.size + 1) #[.slice none 0 0] 46 := Box.fr (by first | exact (BR.alloc _).drew | exact BR.drew | exact BR.alloc _ | exact BR) hf2
        have HW2 : Hid (FilesW w2 lo hi _ ys) := OwW.fr HW.out (show Fr wr w2 by repeat (first | (with_reducible exact Fr.refl _) | (with_reducible assumption) | (with_reducible refine Fr.drewN ?_ _) | (with_reducible refine Fr.drew ?_) | (with_reducible refine Fr.alloc ?_ _) | (with_reducible refine Fr.setCell ?_ (by (first | (with_reducible assumption) | omega | (simp only [World.size_alloc, World.size_setCell, World.size_drew, World.heap_drewN]; omega) | (simp; done) | (simp; omega))) _) | (with_reducible refine Fr.trans ?_ (by with_reducible assumption))))
        have HL2 := Lib.hid hl2
        have hdl := doL_length (xs := ys) (a := x)
        clear FO FRR hl2
        have FO := BO2.facts
        have FRR := BR2.facts
        cases hd : doB ys x
        · have hend : Hid (dosGo ls xs 0 = (ys, k)) := by show _ = _; rw [← hgo.out, HG.out, hd]; rfl
          clear hd
          go_wp2_with fail
          rw [hend.out]
          refine bodyPost_ret (v := .tuple #[.agg #[.slice ao ys.length cap], .int .i64 k]) (by simp [results, Try.results36, go_sem, *]) rfl ⟨ao, cap, rfl, ?_, by repeat (first | (with_reducible exact Fr.refl _) | (with_reducible assumption) | (with_reducible refine Fr.drewN ?_ _) | (with_reducible refine Fr.drew ?_) | (with_reducible refine Fr.alloc ?_ _) | (with_reducible refine Fr.setCell ?_ (by (first | (with_reducible assumption) | omega | (simp only [World.size_alloc, World.size_setCell, World.size_drew, World.heap_drewN]; omega) | (simp; done) | (simp; omega))) _) | (with_reducible refine Fr.trans ?_ (by with_reducible assumption)))⟩
          refine OwW.mono (lo := lo) (hi := hi) ?_ (by omega) (by simp; omega)
          change OwW _ _ _ _ _ _ _ _; (repeat (first | (with_reducible refine OwW.drewN ?_ _) | (with_reducible refine OwW.drew ?_) | (with_reducible refine OwW.alloc ?_ _) | (with_reducible refine OwW.set ?_ (by (first | (with_reducible assumption) | omega | (simp only [World.size_alloc, World.size_setCell, World.size_drew, World.heap_drewN]; omega) | (simp; done) | (simp; omega))) _) | (exact HW2.out)))
        · have hnext : Hid (dosGo (ls.drop (k + 1)) (doL ys x) (k + 1) = dosGo ls xs 0) := by show _ = _; rw [← hgo.out, HG.out, hd]; rfl
          clear hd
          generalize doL ys x = zs at HL2 hnext hdl ⊢
          go_wp2_with fail
          go_roundw
          case rel =>
            first
              | (refine ⟨k + 1, zs, ao2, cap2, wr.heap.size + 1, w2.heap.size, by omega, by go_num, hnext, by omega, (box_far BO2 (by omega) _).set_to (by simp), ?_, by omega, by simp, .inr (by omega), box_far (box_far BR2 (by omega) _) (by omega) _, by repeat (first | (with_reducible exact Fr.refl _) | (with_reducible assumption) | (with_reducible refine Fr.drewN ?_ _) | (with_reducible refine Fr.drew ?_) | (with_reducible refine Fr.alloc ?_ _) | (with_reducible refine Fr.setCell ?_ (by (first | (with_reducible assumption) | omega | (simp only [World.size_alloc, World.size_setCell, World.size_drew, World.heap_drewN]; omega) | (simp; done) | (simp; omega))) _) | (with_reducible refine Fr.trans ?_ (by with_reducible assumption))), by simp; omega⟩; (change OwW _ _ _ _ _ _ _ _; (repeat (first | (with_reducible refine OwW.drewN ?_ _) | (with_reducible refine OwW.drew ?_) | (with_reducible refine OwW.alloc ?_ _) | (with_reducible refine OwW.set ?_ (by (first | (with_reducible assumption) | omega | (simp only [World.size_alloc, World.size_setCell, World.size_drew, World.heap_drewN]; omega) | (simp; done) | (simp; omega))) _) | (exact HL2.out)))); done)
              | (refine ⟨k + 1, zs, ao2, cap2, wr.heap.size, w2.heap.size, by omega, by go_num, hnext, by omega, (BO2.set_to (by simp)).alloc _, ?_, by omega, by simp, .inr (by omega), (box_far BR2 (by omega) _).alloc _, by repeat (first | (with_reducible exact Fr.refl _) | (with_reducible assumption) | (with_reducible refine Fr.drewN ?_ _) | (with_reducible refine Fr.drew ?_) | (with_reducible refine Fr.alloc ?_ _) | (with_reducible refine Fr.setCell ?_ (by (first | (with_reducible assumption) | omega | (simp only [World.size_alloc, World.size_setCell, World.size_drew, World.heap_drewN]; omega) | (simp; done) | (simp; omega))) _) | (with_reducible refine Fr.trans ?_ (by with_reducible assumption))), by simp; omega⟩; (change OwW _ _ _ _ _ _ _ _; (repeat (first | (with_reducible refine OwW.drewN ?_ _) | (with_reducible refine OwW.drew ?_) | (with_reducible refine OwW.alloc ?_ _) | (with_reducible refine OwW.set ?_ (by (first | (with_reducible assumption) | omega | (simp only [World.size_alloc, World.size_setCell, World.size_drew, World.heap_drewN]; omega) | (simp; done) | (simp; omega))) _) | (exact HL2.out)))); done)
          case measure => (simp [intOf]; omega)
    · have hend : Hid (dosGo ls xs 0 = (ys, k)) := by show _ = _; rw [← hgo.out]; exact dosGo_end hlt ys
      obtain rfl : k = ls.length := by omega
      go_wp2_with fail
      rw [hend.out]
      refine bodyPost_ret (v := .tuple #[.agg #[.slice ao ys.length cap], .int .i64 ls.length]) (by simp [results, Try.results36, go_sem, *]) rfl ⟨ao, cap, rfl, ?_, by repeat (first | (with_reducible exact Fr.refl _) | (with_reducible assumption) | (with_reducible refine Fr.drewN ?_ _) | (with_reducible refine Fr.drew ?_) | (with_reducible refine Fr.alloc ?_ _) | (with_reducible refine Fr.setCell ?_ (by (first | (with_reducible assumption) | omega | (simp only [World.size_alloc, World.size_setCell, World.size_drew, World.heap_drewN]; omega) | (simp; done) | (simp; omega))) _) | (with_reducible refine Fr.trans ?_ (by with_reducible assumption)))⟩
      refine OwW.mono (lo := lo) (hi := hi) ?_ (by omega) (by simp; omega)
      change OwW _ _ _ _ _ _ _ _; (repeat (first | (with_reducible refine OwW.drewN ?_ _) | (with_reducible refine OwW.drew ?_) | (with_reducible refine OwW.alloc ?_ _) | (with_reducible refine OwW.set ?_ (by (first | (with_reducible assumption) | omega | (simp only [World.size_alloc, World.size_setCell, World.size_drew, World.heap_drewN]; omega) | (simp; done) | (simp; omega))) _) | (exact HW.out)))
end Go.Proofs.Ytjgghiniajmfjaa

/- DoActs of both, in the form that the law wants. Conditions: bounds on what is read, which the law pays. -/
namespace Go.Proofs.Ytjgghiniajmfjaa
open Go.RowKit
set_option linter.unusedVariables false
set_option linter.unusedSimpArgs false
theorem dosGo_len : ∀ (ls : List ActR) (xs : List FileR) (i : Nat), xs.length ≤ 1048576 → (dosGo ls xs i).1.length ≤ 1048576
  | [], xs, i, h => h
  | a :: ls, xs, i, h => by
    rw [dosGo]
    split
    · exact dosGo_len ls _ _ (by have := doL_length (xs := xs) (a := a); omega)
    · exact h
theorem dosGo_cnt {ls : List ActR} {xs : List FileR} (h : xs.length ≤ 1048576) : (⟨(dosGo ls xs 0).1⟩ : DiskD).cnt ≤ 100000000 := by
  have := dosGo_len ls xs 0 h
  show 3 * (dosGo ls xs 0).1.length ≤ _
  omega
theorem specDoActs_d (d : DiskD) (ls : List ActR) (hn : d.f0.length ≤ 1048576) (hb : ActsBulk ls ≤ 1048576) (v v1 : Value) (w : World) (hv : DiskRd w v d) (hv1 : ActsR w v1 ls) :
    Calls Try.prog 36 #[v, v1] w fun e w' => ∃ ao cap, e = .returned (.tuple #[.agg #[.slice ao (⟨(dosGo ls d.f0 0).1⟩ : DiskD).f0.length cap], .int .i64 ((dosGo ls d.f0 0).2 : Int)]) ∧ DiskW w' w.heap.size w'.heap.size (.agg #[.slice ao (⟨(dosGo ls d.f0 0).1⟩ : DiskD).f0.length cap]) ⟨(dosGo ls d.f0 0).1⟩ ∧ Fr w w' :=
  (specDoActs_any d.f0 ls hn hb v v1 w hv hv1).mono fun e w' h => by obtain ⟨ao, cap, h1, h2, h3⟩ := h; exact ⟨ao, cap, h1, ⟨ao, cap, rfl, h2⟩, h3⟩
theorem implDoActs_d (d : DiskD) (ls : List ActR) (hn : d.f0.length ≤ 1048576) (hb : ActsBulk ls ≤ 1048576) (v v1 : Value) (w : World) (hv : DiskRd w v d) (hv1 : ActsR w v1 ls) :
    Calls Try.prog 105 #[v, v1] w fun e w' => ∃ ao cap, e = .returned (.tuple #[.agg #[.slice ao (⟨(dosGo ls d.f0 0).1⟩ : DiskD).f0.length cap], .int .i64 ((dosGo ls d.f0 0).2 : Int)]) ∧ DiskW w' w.heap.size w'.heap.size (.agg #[.slice ao (⟨(dosGo ls d.f0 0).1⟩ : DiskD).f0.length cap]) ⟨(dosGo ls d.f0 0).1⟩ ∧ Fr w w' :=
  (implDoActs_any d.f0 ls hn hb v v1 w hv hv1).mono fun e w' h => by obtain ⟨ao, cap, h1, h2, h3⟩ := h; exact ⟨ao, cap, h1, ⟨ao, cap, rfl, h2⟩, h3⟩
end Go.Proofs.Ytjgghiniajmfjaa
