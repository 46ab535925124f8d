/- Disks: copies, LoseDisk of the reference. Conditions: bounds on the lengths of what is copied, which the laws pay. -/
import Derived.Test.YthcamjijogmbhaaLose
import Derived.Deep.RegionLaw
import Derived.Deep.RegionHeld3
import Derived.BigRegion
namespace Go.Proofs.Ythcamjijogmbhaa
open Go.RowKit
set_option linter.unusedVariables false
set_option linter.unusedSimpArgs false
theorem extract_all (s : ByteArray) : s.extract 0 s.size = s := by
  apply WideShapes.bytes_inj
  simp
theorem loseK_succ (xs : List FileR) (ls : List Int) (k : Nat) {x : FileR} (hx : fileAt xs k = x) {n : Int} (hn : leftAt ls k = n) {m : Nat} (hm : loseN x n = (m : Int)) :
    (loseK xs ls (k + 1)).flatMap FileR.cells = (loseK xs ls k).flatMap FileR.cells ++ [.string x.f0, .string (x.f1.extract 0 m), .int .i64 m] := by
  unfold loseK
  rw [List.range_succ, List.map_append, List.flatMap_append]
  simp [FileR.cells, loseF, hx, hn, hm]
set_option maxHeartbeats 4000000 in
set_option maxRecDepth 100000 in
theorem specLoseDisk_any (d : DiskD) (ls : List Int) (hn : d.f0.length ≤ 1048576) (v v1 : Value) (w : World) (hv : DiskRd w v d) (hv1 : IntsR w v1 ls) :
    Calls Try.prog 96 #[v, v1] w fun e w' => ∃ ao cap, e = .returned (.tuple #[.agg #[.slice ao (loseD d ls).f0.length cap], .bool (loseB d)]) ∧ DiskW w' w.heap.size w'.heap.size (.agg #[.slice ao (loseD d ls).f0.length cap]) (loseD d ls) ∧ Fr w w' := by
  obtain ⟨i0, hi, hz0, hz1, hz2⟩ := info_parts info_File
  obtain ⟨xs⟩ := d
  obtain ⟨u, rfl, hu⟩ := hv
  have hv : DiskRd w _ ⟨xs⟩ := ⟨_, rfl, hu⟩
  simp only at hn hu
  have hl := hu.le
  obtain ⟨a1, b1, o1, c1, rfl, hc1, hm1, f1⟩ := hv1.one
  obtain ⟨a0, b0, o0, c0, rfl, hc0, hm0, f0⟩ := hu.one
  cases hb : diskB xs
  · have HD : Hid (loseD ⟨xs⟩ ls = ⟨[]⟩) := by unfold loseD; rw [hb]; rfl
    have HB : Hid (loseB ⟨xs⟩ = false) := hb
    clear f0 f1
    go_enter Try.func96, Try.ntmps96
    go_wp2_with fail
    refine (specDiskOk_any _ xs _ (hu.fr (by repeat (first | (with_reducible exact Fr.refl _) | (with_reducible assumption) | (with_reducible refine Fr.drewN ?_ _) | (with_reducible refine Fr.drew ?_) | (with_reducible refine Fr.alloc ?_ _) | (with_reducible refine Fr.setCell ?_ (by (first | (with_reducible assumption) | omega | (simp only [World.size_alloc, World.size_setCell, World.size_drew, World.heap_drewN]; omega) | (simp; done) | (simp; omega))) _) | (with_reducible refine Fr.trans ?_ (by with_reducible assumption)))))).mono ?_
    rintro e w1 ⟨rfl, hf1⟩
    have BR : Box w1 (w.heap.size + 1) #[.slice none 0 0] 64 := (Box.new' (w := w.alloc (.cells #[.slice a0 xs.length c0] 64)) (by simp)).fr (by repeat (first | (with_reducible exact Fr.refl _) | (with_reducible assumption) | (with_reducible refine Fr.drewN ?_ _) | (with_reducible refine Fr.drew ?_) | (with_reducible refine Fr.alloc ?_ _) | (with_reducible refine Fr.setCell ?_ (by (first | (with_reducible assumption) | omega | (simp only [World.size_alloc, World.size_setCell, World.size_drew, World.heap_drewN]; omega) | (simp; done) | (simp; omega))) _) | (with_reducible refine Fr.trans ?_ (by with_reducible assumption))))
    have FRR := BR.facts
    have z1 := hf1.size; (try simp only [World.size_alloc, World.size_setCell, World.size_drew] at z1)
    go_wp2_with fail
    rw [HD.out, HB.out]
    refine bodyPost_ret (v := .tuple #[.agg #[.slice none 0 0], .bool false]) (by simp [results, Try.results96, go_sem, *]) rfl ⟨none, 0, rfl, ⟨none, 0, rfl, FilesW.nil _ _ _⟩, by repeat (first | (with_reducible exact Fr.refl _) | (with_reducible assumption) | (with_reducible refine Fr.drewN ?_ _) | (with_reducible refine Fr.drew ?_) | (with_reducible refine Fr.alloc ?_ _) | (with_reducible refine Fr.setCell ?_ (by (first | (with_reducible assumption) | omega | (simp only [World.size_alloc, World.size_setCell, World.size_drew, World.heap_drewN]; omega) | (simp; done) | (simp; omega))) _) | (with_reducible refine Fr.trans ?_ (by with_reducible assumption)))⟩
  · have hlen := diskB_len hb
    have hfile := fun k (hk : k < xs.length) => diskB_file hb hk
    have HF := Lib.hid hfile
    have HD : Hid (loseD ⟨xs⟩ ls = ⟨loseK xs ls xs.length⟩) := by unfold loseD; rw [hb]; rfl
    have HB : Hid (loseB ⟨xs⟩ = true) := hb
    have HB' := Lib.hid hb
    clear hfile hb
    go_enter Try.func96, Try.ntmps96
    go_wp2_with fail
    refine (specDiskOk_any _ xs _ (hu.fr (by repeat (first | (with_reducible exact Fr.refl _) | (with_reducible assumption) | (with_reducible refine Fr.drewN ?_ _) | (with_reducible refine Fr.drew ?_) | (with_reducible refine Fr.alloc ?_ _) | (with_reducible refine Fr.setCell ?_ (by (first | (with_reducible assumption) | omega | (simp only [World.size_alloc, World.size_setCell, World.size_drew, World.heap_drewN]; omega) | (simp; done) | (simp; omega))) _) | (with_reducible refine Fr.trans ?_ (by with_reducible assumption)))))).mono ?_
    rintro e w1 ⟨rfl, hf1⟩
    rw [HB'.out]
    have BD : Box w1 (w.heap.size) #[.slice a0 xs.length c0] 64 := (Box.new' (w := w) rfl).fr (by repeat (first | (with_reducible exact Fr.refl _) | (with_reducible assumption) | (with_reducible refine Fr.drewN ?_ _) | (with_reducible refine Fr.drew ?_) | (with_reducible refine Fr.alloc ?_ _) | (with_reducible refine Fr.setCell ?_ (by (first | (with_reducible assumption) | omega | (simp only [World.size_alloc, World.size_setCell, World.size_drew, World.heap_drewN]; omega) | (simp; done) | (simp; omega))) _) | (with_reducible refine Fr.trans ?_ (by with_reducible assumption))))
    have BR : Box w1 (w.heap.size + 1) #[.slice none 0 0] 64 := (Box.new' (w := w.alloc (.cells #[.slice a0 xs.length c0] 64)) (by simp)).fr (by repeat (first | (with_reducible exact Fr.refl _) | (with_reducible assumption) | (with_reducible refine Fr.drewN ?_ _) | (with_reducible refine Fr.drew ?_) | (with_reducible refine Fr.alloc ?_ _) | (with_reducible refine Fr.setCell ?_ (by (first | (with_reducible assumption) | omega | (simp only [World.size_alloc, World.size_setCell, World.size_drew, World.heap_drewN]; omega) | (simp; done) | (simp; omega))) _) | (with_reducible refine Fr.trans ?_ (by with_reducible assumption))))
    have FD := BD.facts; have FRR := BR.facts
    have z1 := hf1.size; (try simp only [World.size_alloc, World.size_setCell, World.size_drew] at z1)
    have BO : Box (w1.alloc (.cells #[.slice none 0 0] 64)) w1.heap.size #[.slice none 0 0] 64 := Box.new _ _ _
    go_wp2_with fail
    go_loopw [7, 8, 9] (fun i _ _ wr => ∃ (k : Nat) (ao : Option Addr) (cap : Nat), k ≤ xs.length ∧ i = .int .i64 k ∧ wr.ownsRow (w1.heap.size + 1) 135 3 (.slice ao k cap) k ((loseK xs ls k).flatMap FileR.cells) ∧ Box wr w1.heap.size #[.slice ao k cap] 64 ∧ Box wr w.heap.size #[.slice a0 xs.length c0] 64 ∧ Box wr (w.heap.size + 1) #[.slice none 0 0] 64 ∧ Fr w wr) (fun i _ _ _ => xs.length - (intOf i).toNat)
    case atStart => exact ⟨0, none, 0, Nat.zero_le _, rfl, World.ownsRow_nil _ _ _ _, BO, BD.alloc _, BR.alloc _, by repeat (first | (with_reducible exact Fr.refl _) | (with_reducible assumption) | (with_reducible refine Fr.drewN ?_ _) | (with_reducible refine Fr.drew ?_) | (with_reducible refine Fr.alloc ?_ _) | (with_reducible refine Fr.setCell ?_ (by (first | (with_reducible assumption) | omega | (simp only [World.size_alloc, World.size_setCell, World.size_drew, World.heap_drewN]; omega) | (simp; done) | (simp; omega))) _) | (with_reducible refine Fr.trans ?_ (by with_reducible assumption)))⟩
    case round =>
      clear BO BR BD FRR FD
      obtain ⟨k, ao, cap, hk, rfl, ho, BO, BD, BR, hfr⟩ := hrel
      have FO := BO.facts; have FD := BD.facts
      have hzr := BO.lt
      have hzd := BD.lt
      by_cases hlt : k < xs.length
      · obtain ⟨rfl, hb0, f0⟩ := f0 (by omega)
        obtain ⟨x, hx⟩ : ∃ x, fileAt xs k = x := ⟨_, rfl⟩
        have hok := HF.out k hlt
        have fk := f0 k hlt
        rw [hx] at hok fk
        obtain ⟨g0, g1, g2⟩ := fk
        have q0 := (hfr.cell (p := ⟨b0, _, none⟩) hb0).trans g0
        have q1 := (hfr.cell (p := ⟨b0, _, none⟩) hb0).trans g1
        have q2 := (hfr.cell (p := ⟨b0, _, none⟩) hb0).trans g2
        have HX := Lib.hid hx
        obtain ⟨hk1, hk2, hk3⟩ := hok
        clear hx g0 g1 g2 f0
        by_cases hkl : k < ls.length
        · obtain ⟨rfl, hb1, f1⟩ := f1 (by omega)
          have r1 : wr.cell? ⟨b1, o1 + k, none⟩ = some (.int .i64 (iAt ls k)) := (hfr.cell (p := ⟨b1, _, none⟩) hb1).trans (f1 k hkl)
          obtain ⟨n, hnn⟩ : ∃ n, iAt ls k = n := ⟨_, rfl⟩
          rw [hnn] at r1
          have HN : Hid (leftAt ls k = n) := by unfold leftAt; rw [if_pos hkl]; exact hnn
          have hb1' : b1 < wr.heap.size := Nat.lt_of_lt_of_le hb1 hfr.size
          clear hnn f1
          by_cases c1 : (x.f1.size : Int) < n
          · have HM : Hid (loseN x n = ((x.f1.size : Nat) : Int)) := by show loseN x n = _; unfold loseN; omega
            have hsn : (loseK xs ls (k + 1)).flatMap FileR.cells = (loseK xs ls k).flatMap FileR.cells ++ [.string x.f0, .string x.f1, .int .i64 (x.f1.size : Int)] := by
              rw [loseK_succ xs ls k HX.out HN.out HM.out]
              rw [show x.f1.extract 0 x.f1.size = x.f1 from extract_all _]
            have HSN := Lib.hid hsn
            clear hsn
            go_wp2_with fail
            go_region_law ((refine step_append_rd (by rfl) _ _ 62 (by rfl) (w1.heap.size + 1) 135 i0 (.agg #[.string ⟨#[]⟩, .string ⟨#[]⟩, .int .i64 0]) 3 40 Try.underlying62 hi hz0 hz1 hz2 rfl (by decide) (.slice ao k cap) k ((loseK xs ls k).flatMap FileR.cells) (by rfl) (by exact owns_lo (owns_ab ho (by repeat (first | (with_reducible exact Ab.refl _ _) | (with_reducible assumption) | (with_reducible refine Ab.drewN ?_ _) | (with_reducible refine Ab.drew ?_) | (with_reducible refine Ab.alloc ?_ _) | (with_reducible refine Ab.setCell ?_ (by (first | (with_reducible assumption) | omega | (simp only [World.size_alloc, World.size_setCell, World.size_drew, World.heap_drewN]; omega) | (simp; done) | (simp; omega))) _) | (with_reducible refine Ab.fr ?_ (by with_reducible assumption))))) (by (first | (with_reducible assumption) | omega | (simp only [World.size_alloc, World.size_setCell, World.size_drew, World.heap_drewN]; omega) | (simp; done) | (simp; omega)))) _ 1 [.string x.f0, .string x.f1, .int .i64 (x.f1.size : Int)] (by rfl) (RdS.drew (RdS.new (by first | rfl | (simp; done)) rfl)) (by simp [Value.oneCell']) (by unfold maxLen; omega) (by omega) (by (first | (with_reducible assumption) | omega | (simp only [World.size_alloc, World.size_setCell, World.size_drew, World.heap_drewN]; omega) | (simp; done) | (simp; omega))) ?_; intro ao3 cap3 w3 hown hgrow hat; have BO3 := ((BO.alloc _).alloc _).drew.row hgrow (RowIn.of_owns ho) (by (first | (with_reducible assumption) | omega | (simp only [World.size_alloc, World.size_setCell, World.size_drew, World.heap_drewN]; omega) | (simp; done) | (simp; omega))); have FO3 := BO3.facts))
            all_goals
              go_wp2_with fail
              have BD3 := ((BD.alloc _).alloc _).drew.row hgrow (RowIn.of_owns ho) (by (first | (with_reducible assumption) | omega | (simp only [World.size_alloc, World.size_setCell, World.size_drew, World.heap_drewN]; omega) | (simp; done) | (simp; omega)))
              have BR3 := ((BR.alloc _).alloc _).drew.row hgrow (RowIn.of_owns ho) (by (first | (with_reducible assumption) | omega | (simp only [World.size_alloc, World.size_setCell, World.size_drew, World.heap_drewN]; omega) | (simp; done) | (simp; omega)))
              have hf3 : Fr w w3 := Fr.app (show Fr w _ by repeat (first | (with_reducible exact Fr.refl _) | (with_reducible assumption) | (with_reducible refine Fr.drewN ?_ _) | (with_reducible refine Fr.drew ?_) | (with_reducible refine Fr.alloc ?_ _) | (with_reducible refine Fr.setCell ?_ (by (first | (with_reducible assumption) | omega | (simp only [World.size_alloc, World.size_setCell, World.size_drew, World.heap_drewN]; omega) | (simp; done) | (simp; omega))) _) | (with_reducible refine Fr.trans ?_ (by with_reducible assumption)))) hgrow (RowIn.of_owns ho) (by (first | (with_reducible assumption) | omega | (simp only [World.size_alloc, World.size_setCell, World.size_drew, World.heap_drewN]; omega) | (simp; done) | (simp; omega)))
              rw [← HSN.out] at hown
              have hr3 := RowIn.of_owns hown
              have ho3 := owns_far hown (p := ⟨w1.heap.size, 0, none⟩) (fun e => by have := hr3 _ e; simp at this; omega) (.slice ao3 (k + 1) cap3)
              go_roundw
              case rel => exact ⟨k + 1, ao3, cap3, by omega, by go_num, ho3, BO3.set 0 _, BD3.other (by simp; omega) _, BR3.other (by simp; omega) _, by repeat (first | (with_reducible exact Fr.refl _) | (with_reducible assumption) | (with_reducible refine Fr.drewN ?_ _) | (with_reducible refine Fr.drew ?_) | (with_reducible refine Fr.alloc ?_ _) | (with_reducible refine Fr.setCell ?_ (by (first | (with_reducible assumption) | omega | (simp only [World.size_alloc, World.size_setCell, World.size_drew, World.heap_drewN]; omega) | (simp; done) | (simp; omega))) _) | (with_reducible refine Fr.trans ?_ (by with_reducible assumption)))⟩
              case measure => (simp [intOf]; omega)
          · by_cases c2 : n < x.f2
            · obtain ⟨m, hm⟩ := Int.eq_ofNat_of_zero_le hk2
              have HM : Hid (loseN x n = (m : Int)) := by show loseN x n = _; unfold loseN; omega
              have hms : m ≤ x.f1.size := by omega
              rw [hm] at q2 c2 hk2 hk3
              clear hm
              have hsn : (loseK xs ls (k + 1)).flatMap FileR.cells = (loseK xs ls k).flatMap FileR.cells ++ [.string x.f0, .string (x.f1.extract 0 m), .int .i64 (m : Int)] := by
                rw [loseK_succ xs ls k HX.out HN.out HM.out]
                (try rfl)
              have HSN := Lib.hid hsn
              clear hsn
              go_wp2_with fail
              go_region_law ((refine step_append_rd (by rfl) _ _ 62 (by rfl) (w1.heap.size + 1) 135 i0 (.agg #[.string ⟨#[]⟩, .string ⟨#[]⟩, .int .i64 0]) 3 40 Try.underlying62 hi hz0 hz1 hz2 rfl (by decide) (.slice ao k cap) k ((loseK xs ls k).flatMap FileR.cells) (by rfl) (by exact owns_lo (owns_ab ho (by repeat (first | (with_reducible exact Ab.refl _ _) | (with_reducible assumption) | (with_reducible refine Ab.drewN ?_ _) | (with_reducible refine Ab.drew ?_) | (with_reducible refine Ab.alloc ?_ _) | (with_reducible refine Ab.setCell ?_ (by (first | (with_reducible assumption) | omega | (simp only [World.size_alloc, World.size_setCell, World.size_drew, World.heap_drewN]; omega) | (simp; done) | (simp; omega))) _) | (with_reducible refine Ab.fr ?_ (by with_reducible assumption))))) (by (first | (with_reducible assumption) | omega | (simp only [World.size_alloc, World.size_setCell, World.size_drew, World.heap_drewN]; omega) | (simp; done) | (simp; omega)))) _ 1 [.string x.f0, .string (x.f1.extract 0 m), .int .i64 (m : Int)] (by rfl) (RdS.drew (RdS.new (by first | rfl | (simp; done)) rfl)) (by simp [Value.oneCell']) (by unfold maxLen; omega) (by omega) (by (first | (with_reducible assumption) | omega | (simp only [World.size_alloc, World.size_setCell, World.size_drew, World.heap_drewN]; omega) | (simp; done) | (simp; omega))) ?_; intro ao3 cap3 w3 hown hgrow hat; have BO3 := ((BO.alloc _).alloc _).drew.row hgrow (RowIn.of_owns ho) (by (first | (with_reducible assumption) | omega | (simp only [World.size_alloc, World.size_setCell, World.size_drew, World.heap_drewN]; omega) | (simp; done) | (simp; omega))); have FO3 := BO3.facts))
              all_goals
                go_wp2_with fail
                have BD3 := ((BD.alloc _).alloc _).drew.row hgrow (RowIn.of_owns ho) (by (first | (with_reducible assumption) | omega | (simp only [World.size_alloc, World.size_setCell, World.size_drew, World.heap_drewN]; omega) | (simp; done) | (simp; omega)))
                have BR3 := ((BR.alloc _).alloc _).drew.row hgrow (RowIn.of_owns ho) (by (first | (with_reducible assumption) | omega | (simp only [World.size_alloc, World.size_setCell, World.size_drew, World.heap_drewN]; omega) | (simp; done) | (simp; omega)))
                have hf3 : Fr w w3 := Fr.app (show Fr w _ by repeat (first | (with_reducible exact Fr.refl _) | (with_reducible assumption) | (with_reducible refine Fr.drewN ?_ _) | (with_reducible refine Fr.drew ?_) | (with_reducible refine Fr.alloc ?_ _) | (with_reducible refine Fr.setCell ?_ (by (first | (with_reducible assumption) | omega | (simp only [World.size_alloc, World.size_setCell, World.size_drew, World.heap_drewN]; omega) | (simp; done) | (simp; omega))) _) | (with_reducible refine Fr.trans ?_ (by with_reducible assumption)))) hgrow (RowIn.of_owns ho) (by (first | (with_reducible assumption) | omega | (simp only [World.size_alloc, World.size_setCell, World.size_drew, World.heap_drewN]; omega) | (simp; done) | (simp; omega)))
                rw [← HSN.out] at hown
                have hr3 := RowIn.of_owns hown
                have ho3 := owns_far hown (p := ⟨w1.heap.size, 0, none⟩) (fun e => by have := hr3 _ e; simp at this; omega) (.slice ao3 (k + 1) cap3)
                go_roundw
                case rel => exact ⟨k + 1, ao3, cap3, by omega, by go_num, ho3, BO3.set 0 _, BD3.other (by simp; omega) _, BR3.other (by simp; omega) _, by repeat (first | (with_reducible exact Fr.refl _) | (with_reducible assumption) | (with_reducible refine Fr.drewN ?_ _) | (with_reducible refine Fr.drew ?_) | (with_reducible refine Fr.alloc ?_ _) | (with_reducible refine Fr.setCell ?_ (by (first | (with_reducible assumption) | omega | (simp only [World.size_alloc, World.size_setCell, World.size_drew, World.heap_drewN]; omega) | (simp; done) | (simp; omega))) _) | (with_reducible refine Fr.trans ?_ (by with_reducible assumption)))⟩
                case measure => (simp [intOf]; omega)
            · obtain ⟨m, rfl⟩ := Int.eq_ofNat_of_zero_le (show 0 ≤ n by omega)
              have HM : Hid (loseN x (m : Int) = (m : Int)) := by show loseN x _ = _; unfold loseN; omega
              have hms : m ≤ x.f1.size := by omega
              have hsn : (loseK xs ls (k + 1)).flatMap FileR.cells = (loseK xs ls k).flatMap FileR.cells ++ [.string x.f0, .string (x.f1.extract 0 m), .int .i64 (m : Int)] := by
                rw [loseK_succ xs ls k HX.out HN.out HM.out]
                (try rfl)
              have HSN := Lib.hid hsn
              clear hsn
              go_wp2_with fail
              go_region_law ((refine step_append_rd (by rfl) _ _ 62 (by rfl) (w1.heap.size + 1) 135 i0 (.agg #[.string ⟨#[]⟩, .string ⟨#[]⟩, .int .i64 0]) 3 40 Try.underlying62 hi hz0 hz1 hz2 rfl (by decide) (.slice ao k cap) k ((loseK xs ls k).flatMap FileR.cells) (by rfl) (by exact owns_lo (owns_ab ho (by repeat (first | (with_reducible exact Ab.refl _ _) | (with_reducible assumption) | (with_reducible refine Ab.drewN ?_ _) | (with_reducible refine Ab.drew ?_) | (with_reducible refine Ab.alloc ?_ _) | (with_reducible refine Ab.setCell ?_ (by (first | (with_reducible assumption) | omega | (simp only [World.size_alloc, World.size_setCell, World.size_drew, World.heap_drewN]; omega) | (simp; done) | (simp; omega))) _) | (with_reducible refine Ab.fr ?_ (by with_reducible assumption))))) (by (first | (with_reducible assumption) | omega | (simp only [World.size_alloc, World.size_setCell, World.size_drew, World.heap_drewN]; omega) | (simp; done) | (simp; omega)))) _ 1 [.string x.f0, .string (x.f1.extract 0 m), .int .i64 (m : Int)] (by rfl) (RdS.drew (RdS.new (by first | rfl | (simp; done)) rfl)) (by simp [Value.oneCell']) (by unfold maxLen; omega) (by omega) (by (first | (with_reducible assumption) | omega | (simp only [World.size_alloc, World.size_setCell, World.size_drew, World.heap_drewN]; omega) | (simp; done) | (simp; omega))) ?_; intro ao3 cap3 w3 hown hgrow hat; have BO3 := ((BO.alloc _).alloc _).drew.row hgrow (RowIn.of_owns ho) (by (first | (with_reducible assumption) | omega | (simp only [World.size_alloc, World.size_setCell, World.size_drew, World.heap_drewN]; omega) | (simp; done) | (simp; omega))); have FO3 := BO3.facts))
              all_goals
                go_wp2_with fail
                have BD3 := ((BD.alloc _).alloc _).drew.row hgrow (RowIn.of_owns ho) (by (first | (with_reducible assumption) | omega | (simp only [World.size_alloc, World.size_setCell, World.size_drew, World.heap_drewN]; omega) | (simp; done) | (simp; omega)))
                have BR3 := ((BR.alloc _).alloc _).drew.row hgrow (RowIn.of_owns ho) (by (first | (with_reducible assumption) | omega | (simp only [World.size_alloc, World.size_setCell, World.size_drew, World.heap_drewN]; omega) | (simp; done) | (simp; omega)))
                have hf3 : Fr w w3 := Fr.app (show Fr w _ by repeat (first | (with_reducible exact Fr.refl _) | (with_reducible assumption) | (with_reducible refine Fr.drewN ?_ _) | (with_reducible refine Fr.drew ?_) | (with_reducible refine Fr.alloc ?_ _) | (with_reducible refine Fr.setCell ?_ (by (first | (with_reducible assumption) | omega | (simp only [World.size_alloc, World.size_setCell, World.size_drew, World.heap_drewN]; omega) | (simp; done) | (simp; omega))) _) | (with_reducible refine Fr.trans ?_ (by with_reducible assumption)))) hgrow (RowIn.of_owns ho) (by (first | (with_reducible assumption) | omega | (simp only [World.size_alloc, World.size_setCell, World.size_drew, World.heap_drewN]; omega) | (simp; done) | (simp; omega)))
                rw [← HSN.out] at hown
                have hr3 := RowIn.of_owns hown
                have ho3 := owns_far hown (p := ⟨w1.heap.size, 0, none⟩) (fun e => by have := hr3 _ e; simp at this; omega) (.slice ao3 (k + 1) cap3)
                go_roundw
                case rel => exact ⟨k + 1, ao3, cap3, by omega, by go_num, ho3, BO3.set 0 _, BD3.other (by simp; omega) _, BR3.other (by simp; omega) _, by repeat (first | (with_reducible exact Fr.refl _) | (with_reducible assumption) | (with_reducible refine Fr.drewN ?_ _) | (with_reducible refine Fr.drew ?_) | (with_reducible refine Fr.alloc ?_ _) | (with_reducible refine Fr.setCell ?_ (by (first | (with_reducible assumption) | omega | (simp only [World.size_alloc, World.size_setCell, World.size_drew, World.heap_drewN]; omega) | (simp; done) | (simp; omega))) _) | (with_reducible refine Fr.trans ?_ (by with_reducible assumption)))⟩
                case measure => (simp [intOf]; omega)
        · have HN : Hid (leftAt ls k = 0) := by unfold leftAt; rw [if_neg hkl]; exact rfl
          clear f1
          by_cases c2 : 0 < x.f2
          · obtain ⟨m, hm⟩ := Int.eq_ofNat_of_zero_le hk2
            have HM : Hid (loseN x 0 = (m : Int)) := by show loseN x _ = _; unfold loseN; omega
            have hms : m ≤ x.f1.size := by omega
            rw [hm] at q2 c2 hk2 hk3
            clear hm
            have hsn : (loseK xs ls (k + 1)).flatMap FileR.cells = (loseK xs ls k).flatMap FileR.cells ++ [.string x.f0, .string (x.f1.extract 0 m), .int .i64 (m : Int)] := by
              rw [loseK_succ xs ls k HX.out HN.out HM.out]
              (try rfl)
            have HSN := Lib.hid hsn
            clear hsn
            go_wp2_with fail
            go_region_law ((refine step_append_rd (by rfl) _ _ 62 (by rfl) (w1.heap.size + 1) 135 i0 (.agg #[.string ⟨#[]⟩, .string ⟨#[]⟩, .int .i64 0]) 3 40 Try.underlying62 hi hz0 hz1 hz2 rfl (by decide) (.slice ao k cap) k ((loseK xs ls k).flatMap FileR.cells) (by rfl) (by exact owns_lo (owns_ab ho (by repeat (first | (with_reducible exact Ab.refl _ _) | (with_reducible assumption) | (with_reducible refine Ab.drewN ?_ _) | (with_reducible refine Ab.drew ?_) | (with_reducible refine Ab.alloc ?_ _) | (with_reducible refine Ab.setCell ?_ (by (first | (with_reducible assumption) | omega | (simp only [World.size_alloc, World.size_setCell, World.size_drew, World.heap_drewN]; omega) | (simp; done) | (simp; omega))) _) | (with_reducible refine Ab.fr ?_ (by with_reducible assumption))))) (by (first | (with_reducible assumption) | omega | (simp only [World.size_alloc, World.size_setCell, World.size_drew, World.heap_drewN]; omega) | (simp; done) | (simp; omega)))) _ 1 [.string x.f0, .string (x.f1.extract 0 m), .int .i64 (m : Int)] (by rfl) (RdS.drew (RdS.new (by first | rfl | (simp; done)) rfl)) (by simp [Value.oneCell']) (by unfold maxLen; omega) (by omega) (by (first | (with_reducible assumption) | omega | (simp only [World.size_alloc, World.size_setCell, World.size_drew, World.heap_drewN]; omega) | (simp; done) | (simp; omega))) ?_; intro ao3 cap3 w3 hown hgrow hat; have BO3 := ((BO.alloc _).alloc _).drew.row hgrow (RowIn.of_owns ho) (by (first | (with_reducible assumption) | omega | (simp only [World.size_alloc, World.size_setCell, World.size_drew, World.heap_drewN]; omega) | (simp; done) | (simp; omega))); have FO3 := BO3.facts))
            all_goals
              go_wp2_with fail
              have BD3 := ((BD.alloc _).alloc _).drew.row hgrow (RowIn.of_owns ho) (by (first | (with_reducible assumption) | omega | (simp only [World.size_alloc, World.size_setCell, World.size_drew, World.heap_drewN]; omega) | (simp; done) | (simp; omega)))
              have BR3 := ((BR.alloc _).alloc _).drew.row hgrow (RowIn.of_owns ho) (by (first | (with_reducible assumption) | omega | (simp only [World.size_alloc, World.size_setCell, World.size_drew, World.heap_drewN]; omega) | (simp; done) | (simp; omega)))
              have hf3 : Fr w w3 := Fr.app (show Fr w _ by repeat (first | (with_reducible exact Fr.refl _) | (with_reducible assumption) | (with_reducible refine Fr.drewN ?_ _) | (with_reducible refine Fr.drew ?_) | (with_reducible refine Fr.alloc ?_ _) | (with_reducible refine Fr.setCell ?_ (by (first | (with_reducible assumption) | omega | (simp only [World.size_alloc, World.size_setCell, World.size_drew, World.heap_drewN]; omega) | (simp; done) | (simp; omega))) _) | (with_reducible refine Fr.trans ?_ (by with_reducible assumption)))) hgrow (RowIn.of_owns ho) (by (first | (with_reducible assumption) | omega | (simp only [World.size_alloc, World.size_setCell, World.size_drew, World.heap_drewN]; omega) | (simp; done) | (simp; omega)))
              rw [← HSN.out] at hown
              have hr3 := RowIn.of_owns hown
              have ho3 := owns_far hown (p := ⟨w1.heap.size, 0, none⟩) (fun e => by have := hr3 _ e; simp at this; omega) (.slice ao3 (k + 1) cap3)
              go_roundw
              case rel => exact ⟨k + 1, ao3, cap3, by omega, by go_num, ho3, BO3.set 0 _, BD3.other (by simp; omega) _, BR3.other (by simp; omega) _, by repeat (first | (with_reducible exact Fr.refl _) | (with_reducible assumption) | (with_reducible refine Fr.drewN ?_ _) | (with_reducible refine Fr.drew ?_) | (with_reducible refine Fr.alloc ?_ _) | (with_reducible refine Fr.setCell ?_ (by (first | (with_reducible assumption) | omega | (simp only [World.size_alloc, World.size_setCell, World.size_drew, World.heap_drewN]; omega) | (simp; done) | (simp; omega))) _) | (with_reducible refine Fr.trans ?_ (by with_reducible assumption)))⟩
              case measure => (simp [intOf]; omega)
          · have HM : Hid (loseN x 0 = ((0 : Nat) : Int)) := by show loseN x _ = _; unfold loseN; omega
            have hsn : (loseK xs ls (k + 1)).flatMap FileR.cells = (loseK xs ls k).flatMap FileR.cells ++ [.string x.f0, .string ByteArray.empty, .int .i64 0] := by
              rw [loseK_succ xs ls k HX.out HN.out HM.out]
              simp
            have HSN := Lib.hid hsn
            clear hsn
            go_wp2_with fail
            go_region_law ((refine step_append_rd (by rfl) _ _ 62 (by rfl) (w1.heap.size + 1) 135 i0 (.agg #[.string ⟨#[]⟩, .string ⟨#[]⟩, .int .i64 0]) 3 40 Try.underlying62 hi hz0 hz1 hz2 rfl (by decide) (.slice ao k cap) k ((loseK xs ls k).flatMap FileR.cells) (by rfl) (by exact owns_lo (owns_ab ho (by repeat (first | (with_reducible exact Ab.refl _ _) | (with_reducible assumption) | (with_reducible refine Ab.drewN ?_ _) | (with_reducible refine Ab.drew ?_) | (with_reducible refine Ab.alloc ?_ _) | (with_reducible refine Ab.setCell ?_ (by (first | (with_reducible assumption) | omega | (simp only [World.size_alloc, World.size_setCell, World.size_drew, World.heap_drewN]; omega) | (simp; done) | (simp; omega))) _) | (with_reducible refine Ab.fr ?_ (by with_reducible assumption))))) (by (first | (with_reducible assumption) | omega | (simp only [World.size_alloc, World.size_setCell, World.size_drew, World.heap_drewN]; omega) | (simp; done) | (simp; omega)))) _ 1 [.string x.f0, .string ByteArray.empty, .int .i64 0] (by rfl) (RdS.drew (RdS.new (by first | rfl | (simp; done)) rfl)) (by simp [Value.oneCell']) (by unfold maxLen; omega) (by omega) (by (first | (with_reducible assumption) | omega | (simp only [World.size_alloc, World.size_setCell, World.size_drew, World.heap_drewN]; omega) | (simp; done) | (simp; omega))) ?_; intro ao3 cap3 w3 hown hgrow hat; have BO3 := ((BO.alloc _).alloc _).drew.row hgrow (RowIn.of_owns ho) (by (first | (with_reducible assumption) | omega | (simp only [World.size_alloc, World.size_setCell, World.size_drew, World.heap_drewN]; omega) | (simp; done) | (simp; omega))); have FO3 := BO3.facts))
            all_goals
              go_wp2_with fail
              have BD3 := ((BD.alloc _).alloc _).drew.row hgrow (RowIn.of_owns ho) (by (first | (with_reducible assumption) | omega | (simp only [World.size_alloc, World.size_setCell, World.size_drew, World.heap_drewN]; omega) | (simp; done) | (simp; omega)))
              have BR3 := ((BR.alloc _).alloc _).drew.row hgrow (RowIn.of_owns ho) (by (first | (with_reducible assumption) | omega | (simp only [World.size_alloc, World.size_setCell, World.size_drew, World.heap_drewN]; omega) | (simp; done) | (simp; omega)))
              have hf3 : Fr w w3 := Fr.app (show Fr w _ by repeat (first | (with_reducible exact Fr.refl _) | (with_reducible assumption) | (with_reducible refine Fr.drewN ?_ _) | (with_reducible refine Fr.drew ?_) | (with_reducible refine Fr.alloc ?_ _) | (with_reducible refine Fr.setCell ?_ (by (first | (with_reducible assumption) | omega | (simp only [World.size_alloc, World.size_setCell, World.size_drew, World.heap_drewN]; omega) | (simp; done) | (simp; omega))) _) | (with_reducible refine Fr.trans ?_ (by with_reducible assumption)))) hgrow (RowIn.of_owns ho) (by (first | (with_reducible assumption) | omega | (simp only [World.size_alloc, World.size_setCell, World.size_drew, World.heap_drewN]; omega) | (simp; done) | (simp; omega)))
              rw [← HSN.out] at hown
              have hr3 := RowIn.of_owns hown
              have ho3 := owns_far hown (p := ⟨w1.heap.size, 0, none⟩) (fun e => by have := hr3 _ e; simp at this; omega) (.slice ao3 (k + 1) cap3)
              go_roundw
              case rel => exact ⟨k + 1, ao3, cap3, by omega, by go_num, ho3, BO3.set 0 _, BD3.other (by simp; omega) _, BR3.other (by simp; omega) _, by repeat (first | (with_reducible exact Fr.refl _) | (with_reducible assumption) | (with_reducible refine Fr.drewN ?_ _) | (with_reducible refine Fr.drew ?_) | (with_reducible refine Fr.alloc ?_ _) | (with_reducible refine Fr.setCell ?_ (by (first | (with_reducible assumption) | omega | (simp only [World.size_alloc, World.size_setCell, World.size_drew, World.heap_drewN]; omega) | (simp; done) | (simp; omega))) _) | (with_reducible refine Fr.trans ?_ (by with_reducible assumption)))⟩
              case measure => (simp [intOf]; omega)
      · obtain rfl : k = xs.length := by omega
        have FRR := BR.facts
        have hll := loseK_length xs ls xs.length
        have HLL := Lib.hid hll
        have hrz := hfr.size
        clear f0 f1 hll
        go_wp2_with fail
        rw [HD.out, HB.out]
        refine bodyPost_ret (v := .tuple #[.agg #[.slice ao xs.length cap], .bool true]) (by simp [results, Try.results96, go_sem, *]) rfl ⟨ao, cap, by rw [HLL.out], ⟨ao, cap, rfl, ?_⟩, by repeat (first | (with_reducible exact Fr.refl _) | (with_reducible assumption) | (with_reducible refine Fr.drewN ?_ _) | (with_reducible refine Fr.drew ?_) | (with_reducible refine Fr.alloc ?_ _) | (with_reducible refine Fr.setCell ?_ (by (first | (with_reducible assumption) | omega | (simp only [World.size_alloc, World.size_setCell, World.size_drew, World.heap_drewN]; omega) | (simp; done) | (simp; omega))) _) | (with_reducible refine Fr.trans ?_ (by with_reducible assumption)))⟩
        unfold FilesW
        rw [HLL.out]
        exact OwW.mono (OwW.set (OwW.of_owns ho) (.inl (by (first | (with_reducible assumption) | omega | (simp only [World.size_alloc, World.size_setCell, World.size_drew, World.heap_drewN]; omega) | (simp; done) | (simp; omega)))) _) (by (first | (with_reducible assumption) | omega | (simp only [World.size_alloc, World.size_setCell, World.size_drew, World.heap_drewN]; omega) | (simp; done) | (simp; omega))) (by (first | (with_reducible assumption) | omega | (simp only [World.size_alloc, World.size_setCell, World.size_drew, World.heap_drewN]; omega) | (simp; done) | (simp; omega)))
end Go.Proofs.Ythcamjijogmbhaa
