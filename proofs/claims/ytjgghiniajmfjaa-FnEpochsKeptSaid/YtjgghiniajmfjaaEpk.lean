/- laws.FnEpochsKept: its walk. No condition but the reading of the draw. -/
import Derived.Test.YtjgghiniajmfjaaDrp
import Derived.Test.YtjgghiniajmfjaaCut2
import Derived.Test.YtjgghiniajmfjaaRep
import Derived.Test.YtjgghiniajmfjaaLw
import Derived.Deep.CutRange
namespace Go.Proofs.Ytjgghiniajmfjaa
open Go.RowKit
set_option linter.unusedVariables false
set_option linter.unusedSimpArgs false
set_option maxHeartbeats 60000000 in
set_option maxRecDepth 100000 in
theorem fnEpochsKept_any (ao : Option Addr) (n cap : Nat) (w : World) (hy : ByR w w.heap.size ao n cap) :
    Calls Try.prog 4 #[.slice ao n cap] w fun e w' => e = .returned (.bool true) ∧ Fr w w' := by
  have HY := Lib.hid hy
  have hn : n ≤ 9223372036854775807 := by have := hy.1; have := hy.2.1; omega
  clear hy
  by_cases hbig : n ≤ 1048576
  · go_enter Try.func4, Try.ntmps4
    go_wp2_with (go_at_call 11; refine (big_any _ _ _ _ hn).mono ?_; rintro e w0 ⟨rfl, rfl⟩)
    refine (DrawPartDisk_any ao n cap _ HY.out).mono ?_
    rintro e w1 ⟨xs, ax, cx, ⟨g, ts, D, hgb, hxl, htl, hep⟩, rfl, hX1, hf1⟩
    have z1 := hf1.size
    have HX := Lib.hid hX1
    obtain ⟨E, hE⟩ : ∃ E, epI xs = E := ⟨_, rfl⟩
    have hE0 : 0 ≤ E := by rw [← hE, D.ep]; exact epK_nonneg _ _
    have hE9 : E ≤ 9 := by rw [← hE, D.ep]; exact hep
    have HDK := Lib.hid D
    have CRE : Hid (∀ w', Fr w1 w' → Calls Try.prog 30 #[.agg #[.slice ax xs.length cx]] w' fun e w'' => e = .returned (.int .i64 E) ∧ Fr w' w'') := Lib.hid fun w' h => by rw [← hE]; exact specReadEpoch_any _ xs w' (HX.out.fr h)
    have HE := Lib.hid hE
    clear hX1 D hgb hep hE
    go_wp2_with fail
    refine (CRE.out _ (by repeat (first | (with_reducible exact Fr.refl _) | (with_reducible assumption) | (with_reducible refine Fr.drewN ?_ _) | (with_reducible refine Fr.drew ?_) | (with_reducible refine Fr.alloc ?_ _) | (with_reducible refine Fr.setCell ?_ (by (first | (with_reducible assumption) | omega | (simp only [World.size_alloc, World.size_setCell, World.size_drew, World.heap_drewN]; omega) | (simp; done) | (simp; omega))) _) | (with_reducible refine Fr.trans ?_ (by with_reducible assumption))))).mono ?_
    rintro e w2 ⟨rfl, hf2⟩
    have z2 := hf2.size; simp only [World.size_alloc] at z2
    have B3 : Box w2 w1.heap.size #[.slice ax xs.length cx] 46 := (Box.new _ _ _).fr hf2
    clear CRE
    go_wp2_with fail
    refine (DrawPlaces_any ao n cap _ (HY.out.here (by repeat (first | (with_reducible exact Fr.refl _) | (with_reducible assumption) | (with_reducible refine Fr.drewN ?_ _) | (with_reducible refine Fr.drew ?_) | (with_reducible refine Fr.alloc ?_ _) | (with_reducible refine Fr.setCell ?_ (by (first | (with_reducible assumption) | omega | (simp only [World.size_alloc, World.size_setCell, World.size_drew, World.heap_drewN]; omega) | (simp; done) | (simp; omega))) _) | (with_reducible refine Fr.trans ?_ (by with_reducible assumption)))))).mono ?_
    rintro e w3 ⟨ps, ap, cp, hpl, hpr, rfl, hP3, hf3⟩
    have z3 := hf3.size
    have B3 := B3.fr hf3
    have HP := Lib.hid hP3.rd
    have HPR := Lib.hid hpr
    obtain ⟨ap', bp, op, cp', hv, hcp, hmp, fp⟩ := hP3.rd.one
    rw [hpl] at hv
    cases hv
    obtain ⟨rfl, hbp, fp⟩ := fp (by omega)
    have c0 := fp 0 (by omega)
    obtain ⟨y, hy⟩ : ∃ y, iAt ps 0 = y := ⟨_, rfl⟩
    have hyr : 0 ≤ y ∧ y < 10000 := by
      rw [← hy]
      refine hpr _ ?_
      unfold iAt
      simp [List.getD, List.getElem?_eq_getElem (show 0 < ps.length by omega)]
    rw [hy, Nat.add_zero] at c0
    clear hP3 hpr fp hy
    obtain ⟨e1, he1⟩ : ∃ e1 : Int, E + 1 + y % 5 = e1 := ⟨_, rfl⟩
    have he2 : E < e1 ∧ e1 ≤ 20 := by omega
    have hw1 : IntKind.i64.wrap (E + 1) = E + 1 := IntWalk.i64_in _ (by omega)
    have hw2 : IntKind.i64.wrap (E + 1 + y % 5) = e1 := by rw [he1]; exact IntWalk.i64_in _ (by omega)
    have hq1 : 1 ≤ e1 ∧ e1 ≤ 100000 := by omega
    obtain ⟨la, hla⟩ : ∃ la, epoA e1 = la := ⟨_, rfl⟩
    obtain ⟨lo, hlo⟩ : ∃ lo, epoA 1 = lo := ⟨_, rfl⟩
    have hl1 : la.length = 2 := by rw [← hla, epoA_yes hq1]; rfl
    have hl2 : lo.length = 2 := by rw [← hlo, epoA_yes (by omega)]; rfl
    have CA1 : Hid (∀ w', Calls Try.prog 32 #[.int .i64 e1] w' fun e w'' => ∃ ao cap, e = .returned (.tuple #[.slice ao 2 cap, .bool true]) ∧ ActsR w'' (.slice ao 2 cap) la ∧ Fr w' w'') := Lib.hid fun w' => (implEpochActs_any e1 w').mono fun e w'' h => by
      obtain ⟨a, c, h1, h2, h3⟩ := h
      rw [hla, hl1, show epoB e1 = true from decide_eq_true hq1] at h1
      rw [hla, hl1] at h2
      exact ⟨a, c, h1, h2.rd, h3⟩
    have CA2 : Hid (∀ w', Calls Try.prog 32 #[.int .i64 1] w' fun e w'' => ∃ ao cap, e = .returned (.tuple #[.slice ao 2 cap, .bool true]) ∧ ActsR w'' (.slice ao 2 cap) lo ∧ Fr w' w'') := Lib.hid fun w' => (implEpochActs_any 1 w').mono fun e w'' h => by
      obtain ⟨a, c, h1, h2, h3⟩ := h
      rw [hlo, hl2, show epoB 1 = true from rfl] at h1
      rw [hlo, hl2] at h2
      exact ⟨a, c, h1, h2.rd, h3⟩
    have CA3 : Hid (∀ w', Calls Try.prog 32 #[.int .i64 0] w' fun e w'' => ∃ ao cap, e = .returned (.tuple #[.slice ao 0 cap, .bool false]) ∧ Fr w' w'') := Lib.hid fun w' => (implEpochActs_any 0 w').mono fun e w'' h => by
      obtain ⟨a, c, h1, h2, h3⟩ := h
      exact ⟨a, c, h1, h3⟩
    have HBA := Lib.hid (show ActsBulk la ≤ 1048576 by rw [← hla]; exact epoA_bulk _)
    have HBO := Lib.hid (show ActsBulk lo ≤ 1048576 by rw [← hlo]; exact epoA_bulk _)
    have HCUT : Hid (∀ (k : Nat) (left : List Int), k ≤ 2 → cutB xs la k = true ∧ ∃ L, cutD xs la k left = ⟨L⟩ ∧ (epI L = E ∨ epI L = e1) ∧ (k = 2 → epI L = e1)) := Lib.hid fun k left hk => by
      obtain ⟨h1, L, h2, _, h3, h4⟩ := HDK.out.cut_epoch (left := left) hq1 (by omega) (by omega) hk
      rw [hla] at h1 h2
      rw [HE.out, show max E e1 = e1 by omega] at h3 h4
      exact ⟨h1, L, h2, h3, h4⟩
    obtain ⟨ys, us, S1, S2, hyl, hul, S3, S4, S5⟩ : ∃ ys us, dosGo la xs 0 = (ys, 2) ∧ dosGo lo ys 0 = (us, 2) ∧ ys.length ≤ 20 ∧ us.length ≤ 20 ∧ epI us = e1 ∧ keptB us = true ∧ True := by
      obtain ⟨ys, h1, h2, h3⟩ := HDK.out.epoch hq1 (by omega) (by omega)
      obtain ⟨us, h4, h5, h6⟩ := h2.epoch (n := 1) (by omega) (by omega) (by simp; omega)
      rw [hla] at h1
      rw [hlo] at h4
      refine ⟨ys, us, h1, h4, by omega, by omega, ?_, h5.ky, trivial⟩
      rw [h5.ep, epK_snoc _ (by omega), epK_snoc _ hq1, ← HDK.out.ep, HE.out]
      omega
    have HS1 := Lib.hid S1
    have HS2 := Lib.hid S2
    have HS3 := Lib.hid S3
    have HS4 := Lib.hid S4
    clear S1 S2 S3 S4 S5 hla hlo he1 HDK HE
    go_wp2_with fail
    refine (CA1.out _).mono ?_
    rintro e w4 ⟨a4, k4, rfl, hA4, hf4⟩
    have z4 := hf4.size
    have HA4 := Lib.hid hA4
    have B3 := B3.fr hf4
    clear hA4 c0 hw1 hw2 CA1
    go_wp2_with fail
    refine (CA2.out _).mono ?_
    rintro e w5 ⟨a5, k5, rfl, hA5, hf5⟩
    have z5 := hf5.size
    have HA5 := Lib.hid hA5
    have B3 := B3.fr hf5
    clear hA5 CA2
    have hf15 : Fr w1 w5 := by repeat (first | (with_reducible exact Fr.refl _) | (with_reducible assumption) | (with_reducible refine Fr.drewN ?_ _) | (with_reducible refine Fr.drew ?_) | (with_reducible refine Fr.alloc ?_ _) | (with_reducible refine Fr.setCell ?_ (by (first | (with_reducible assumption) | omega | (simp only [World.size_alloc, World.size_setCell, World.size_drew, World.heap_drewN]; omega) | (simp; done) | (simp; omega))) _) | (with_reducible refine Fr.trans ?_ (by with_reducible assumption)))
    have hf35 : Fr w3 w5 := hf4.trans hf5
    go_wp2_with fail
    go_loopw [11, 12, 13, 14] (fun i _ _ _ wr => ∃ (k : Nat), k ≤ 3 ∧ i = .int .i64 k ∧ Fr w5 wr) (fun i _ _ _ _ => 3 - (intOf i).toNat)
    case atStart => exact ⟨0, by omega, rfl, Fr.refl _⟩
    case round =>
      obtain ⟨k, hk, rfl, hfr⟩ := hrel
      have BR := B3.fr hfr
      have zr := hfr.size
      by_cases hlt : k ≤ 2
      · obtain ⟨hcb, hcd⟩ : cutB xs la k = true ∧ ∀ left : List Int, ∃ L, cutD xs la k left = ⟨L⟩ ∧ (epI L = E ∨ epI L = e1) ∧ (k = 2 → epI L = e1) := ⟨(HCUT.out k [] hlt).1, fun left => (HCUT.out k left hlt).2⟩
        have HCD := Lib.hid hcd
        have hf1r : Fr w1 wr := hf15.trans hfr
        have hf3r : Fr w3 wr := hf35.trans hfr
        have hf4r : Fr w4 wr := hf5.trans hfr
        have CL : Hid (∀ w', Fr wr w' → Calls Try.prog 34 #[.slice (some ⟨bp, op, none⟩) 12 cp] w' fun e w'' => ∃ (ls : List Int) (ao' : Option Addr) (cap' : Nat), ls.length = 6 ∧ e = .returned (.slice ao' 6 cap') ∧ IntsR w'' (.slice ao' 6 cap') ls ∧ Fr w' w'') := Lib.hid fun w' h => lefts_any _ ps w' (HP.out.fr (hf3r.trans h)) (by omega) HPR.out
        have CC : Hid (∀ (v3 : Value) (left : List Int) w', Fr wr w' → IntsR w' v3 left → Calls Try.prog 33 #[.agg #[.slice ax xs.length cx], .slice a4 2 k4, .int .i64 k, v3] w' fun e w'' => ∃ L ao cap, (epI L = E ∨ epI L = e1) ∧ (k = 2 → epI L = e1) ∧ e = .returned (.tuple #[.agg #[.slice ao L.length cap], .bool true]) ∧ FilesW w'' w'.heap.size w''.heap.size (.slice ao L.length cap) L ∧ Fr w' w'') := Lib.hid fun v3 left w' h h3 => by
          obtain ⟨L, h4, h5, h6⟩ := HCD.out left
          refine (implCutActs_any xs la k left (by omega) HBA.out _ _ v3 w' ⟨_, rfl, HX.out.fr (hf1r.trans h)⟩ (HA4.out.fr (hf4r.trans h)) h3).mono fun e w'' h7 => ?_
          obtain ⟨a, c, h8, h9, h10⟩ := h7
          rw [h4, hcb] at h8
          rw [h4] at h9
          obtain ⟨_, _, h11, h12⟩ := h9
          cases h11
          exact ⟨L, a, c, h5, h6, h8, h12, h10⟩
        clear hcb hcd HCD
        have FA1 : ∀ w', Sf wr w' → ∀ o, w'.cell? ⟨w1.heap.size, o, none⟩ = (#[.slice ax xs.length cx] : Array Value)[o]? := fun w' h o => (BR.fr h.out).cell o
        go_upto_region 12 with fail
        go_cut [12, 13] from 45 to 84 (fun p12 p13 wx => ∃ L bk lo hi an cn, p12 = .pointer (some ⟨bk, 0, none⟩) ∧ p13 = .bool true ∧ Hid ((epI L = E ∨ epI L = e1) ∧ (k = 2 → epI L = e1)) ∧ Box wx bk #[.slice an L.length cn] 46 ∧ Hid (FilesW wx lo hi (.slice an L.length cn) L) ∧ Fr wr wx)
        case first =>
          clear BR B3
          go_region_held3 (fun w' => Sf wr w') ((refine Sf.mk ?_; repeat (first | (with_reducible exact Fr.refl _) | (with_reducible assumption) | (with_reducible refine Fr.drewN ?_ _) | (with_reducible refine Fr.drew ?_) | (with_reducible refine Fr.alloc ?_ _) | (with_reducible refine Fr.setCell ?_ (by (first | (with_reducible assumption) | omega | (simp only [World.size_alloc, World.size_setCell, World.size_drew, World.heap_drewN]; omega) | (simp; done) | (simp; omega))) _) | (with_reducible refine Fr.trans ?_ (by with_reducible assumption))))) (first | (go_at_call 34; with_reducible refine (CL.out _ (by repeat (first | (with_reducible exact Fr.refl _) | (with_reducible assumption) | (with_reducible refine Fr.drewN ?_ _) | (with_reducible refine Fr.drew ?_) | (with_reducible refine Fr.alloc ?_ _) | (with_reducible refine Fr.setCell ?_ (by (first | (with_reducible assumption) | omega | (simp only [World.size_alloc, World.size_setCell, World.size_drew, World.heap_drewN]; omega) | (simp; done) | (simp; omega))) _) | (with_reducible refine Fr.trans ?_ (by with_reducible assumption))))).mono ?_; rintro e w8 ⟨ll, al, cl, hll, rfl, hl8, hf8⟩; have z8 := hf8.size; (try simp only [World.size_alloc, World.size_setCell, World.size_drew] at z8); (try have kb8 := hf8.blk (wr.heap.size) (by (first | (with_reducible assumption) | omega | (simp only [World.size_alloc, World.size_setCell, World.size_drew, World.heap_drewN]; omega) | (simp; done) | (simp; omega))))) | (go_at_call 33; with_reducible refine (CC.out _ ll _ (by repeat (first | (with_reducible exact Fr.refl _) | (with_reducible assumption) | (with_reducible refine Fr.drewN ?_ _) | (with_reducible refine Fr.drew ?_) | (with_reducible refine Fr.alloc ?_ _) | (with_reducible refine Fr.setCell ?_ (by (first | (with_reducible assumption) | omega | (simp only [World.size_alloc, World.size_setCell, World.size_drew, World.heap_drewN]; omega) | (simp; done) | (simp; omega))) _) | (with_reducible refine Fr.trans ?_ (by with_reducible assumption)))) (hl8.fr (by repeat (first | (with_reducible exact Fr.refl _) | (with_reducible assumption) | (with_reducible refine Fr.drewN ?_ _) | (with_reducible refine Fr.drew ?_) | (with_reducible refine Fr.alloc ?_ _) | (with_reducible refine Fr.setCell ?_ (by (first | (with_reducible assumption) | omega | (simp only [World.size_alloc, World.size_setCell, World.size_drew, World.heap_drewN]; omega) | (simp; done) | (simp; omega))) _) | (with_reducible refine Fr.trans ?_ (by with_reducible assumption)))))).mono ?_; rintro e w9 ⟨L, an, cn, hL1, hL2, rfl, hl9, hf9⟩; have z9 := hf9.size; (try simp only [World.size_alloc, World.size_setCell, World.size_drew] at z9); (try have kb9 := hf9.blk (wr.heap.size) (by (first | (with_reducible assumption) | omega | (simp only [World.size_alloc, World.size_setCell, World.size_drew, World.heap_drewN]; omega) | (simp; done) | (simp; omega)))); (try have kc9 := hf9.blk (w8.heap.size) (by (first | (with_reducible assumption) | omega | (simp only [World.size_alloc, World.size_setCell, World.size_drew, World.heap_drewN]; omega) | (simp; done) | (simp; omega)))); obtain ⟨lq, hlqa, hlqb, ol⟩ : ∃ l : Nat, _ ≤ l ∧ l ≤ _ ∧ FilesW w9 l _ _ _ := ⟨_, Nat.le_refl _, Nat.le_refl _, hl9⟩; (try simp only [World.size_alloc, World.size_setCell, World.size_drew] at hlqa hlqb)))
          all_goals
            go_wp2_with fail
            go_meet
            case rel =>
              refine ⟨L, _, lq, w9.heap.size, an, cn, rfl, rfl, Lib.hid ⟨hL1, hL2⟩, ?_, Lib.hid ?_, by repeat (first | (with_reducible exact Fr.refl _) | (with_reducible assumption) | (with_reducible refine Fr.drewN ?_ _) | (with_reducible refine Fr.drew ?_) | (with_reducible refine Fr.alloc ?_ _) | (with_reducible refine Fr.setCell ?_ (by (first | (with_reducible assumption) | omega | (simp only [World.size_alloc, World.size_setCell, World.size_drew, World.heap_drewN]; omega) | (simp; done) | (simp; omega))) _) | (with_reducible refine Fr.trans ?_ (by with_reducible assumption)))⟩
              · (repeat (first | (with_reducible exact Box.new _ _ _) | (with_reducible apply Box.drew) | (apply Box.set_to) | (apply Box.new'; (first | with_reducible rfl | (focus (simp; done)))) | (with_reducible refine Box.alloc ?_ _) | (apply Box.fr; (case hf => with_reducible assumption)))); all_goals rfl
              · change OwW _ _ _ _ _ _ _ _; (repeat (first | (with_reducible refine OwW.drewN ?_ _) | (with_reducible refine OwW.drew ?_) | (with_reducible refine OwW.alloc ?_ _) | (with_reducible refine OwW.set ?_ (by (first | (with_reducible assumption) | omega | (simp only [World.size_alloc, World.size_setCell, World.size_drew, World.heap_drewN]; omega) | (simp; done) | (simp; omega))) _) | (exact ol)))
        case rest =>
          obtain ⟨w8, rfl⟩ : ∃ w_ : World, w_ = wc := ⟨_, rfl⟩
          obtain ⟨L, bk, lo', hi', an, cn, rfl, rfl, HL, BN, HN, hf8⟩ := hcut
          clear FA1 CC CL
          have FN := BN.facts
          obtain ⟨v, hv⟩ : ∃ v, epI L = v := ⟨_, rfl⟩
          have CR : Hid (∀ w', Fr w8 w' → Calls Try.prog 35 #[.agg #[.slice an L.length cn]] w' fun e w'' => e = .returned (.int .i64 v) ∧ Fr w' w'') := Lib.hid fun w' h => by rw [← hv]; exact implReadEpoch_any _ L w' ((OwW.rd HN.out).fr h)
          have hv1 : v = E ∨ v = e1 := by rw [← hv]; exact HL.out.1
          have hv2 : k = 2 → v = e1 := by rw [← hv]; exact HL.out.2
          clear hv HL
          go_wp2_with fail
          refine (CR.out _ (by repeat (first | (with_reducible exact Fr.refl _) | (with_reducible assumption) | (with_reducible refine Fr.drewN ?_ _) | (with_reducible refine Fr.drew ?_) | (with_reducible refine Fr.alloc ?_ _) | (with_reducible refine Fr.setCell ?_ (by (first | (with_reducible assumption) | omega | (simp only [World.size_alloc, World.size_setCell, World.size_drew, World.heap_drewN]; omega) | (simp; done) | (simp; omega))) _) | (with_reducible refine Fr.trans ?_ (by with_reducible assumption))))).mono ?_
          rintro e w9 ⟨rfl, hf9⟩
          have hne : E ≠ e1 := by omega
          have q0 : (v != E) = true ∨ (v != E) = false := by cases (v != E) <;> simp
          clear FN CR
          by_cases hk2 : k = 2
          · have hve := hv2 hk2
            subst hk2
            subst hve
            have q1 : (v != E) = true := by rw [bne_iff_ne]; exact fun h => hne h.symm
            clear hv1 hv2 q0
            go_wp2_with fail
            go_roundw
            case rel => exact ⟨3, by omega, by go_num, by repeat (first | (with_reducible exact Fr.refl _) | (with_reducible assumption) | (with_reducible refine Fr.drewN ?_ _) | (with_reducible refine Fr.drew ?_) | (with_reducible refine Fr.alloc ?_ _) | (with_reducible refine Fr.setCell ?_ (by (first | (with_reducible assumption) | omega | (simp only [World.size_alloc, World.size_setCell, World.size_drew, World.heap_drewN]; omega) | (simp; done) | (simp; omega))) _) | (with_reducible refine Fr.trans ?_ (by with_reducible assumption)))⟩
            case measure => first | (simp [intOf]; done) | (simp [intOf]; omega)
          · have hk3 : ((k : Int) == 2) = false := by rw [beq_eq_false_iff_ne]; omega
            rcases hv1 with hve | hve
            · subst hve
              clear hv2 q0
              go_wp2_with fail
              go_roundw
              case rel => exact ⟨k + 1, by omega, by go_num, by repeat (first | (with_reducible exact Fr.refl _) | (with_reducible assumption) | (with_reducible refine Fr.drewN ?_ _) | (with_reducible refine Fr.drew ?_) | (with_reducible refine Fr.alloc ?_ _) | (with_reducible refine Fr.setCell ?_ (by (first | (with_reducible assumption) | omega | (simp only [World.size_alloc, World.size_setCell, World.size_drew, World.heap_drewN]; omega) | (simp; done) | (simp; omega))) _) | (with_reducible refine Fr.trans ?_ (by with_reducible assumption)))⟩
              case measure => first | (simp [intOf]; done) | (simp [intOf]; omega)
            · subst hve
              have q1 : (v != E) = true := by rw [bne_iff_ne]; exact fun h => hne h.symm
              clear hv2 q0
              go_wp2_with fail
              go_roundw
              case rel => exact ⟨k + 1, by omega, by go_num, by repeat (first | (with_reducible exact Fr.refl _) | (with_reducible assumption) | (with_reducible refine Fr.drewN ?_ _) | (with_reducible refine Fr.drew ?_) | (with_reducible refine Fr.alloc ?_ _) | (with_reducible refine Fr.setCell ?_ (by (first | (with_reducible assumption) | omega | (simp only [World.size_alloc, World.size_setCell, World.size_drew, World.heap_drewN]; omega) | (simp; done) | (simp; omega))) _) | (with_reducible refine Fr.trans ?_ (by with_reducible assumption)))⟩
              case measure => first | (simp [intOf]; done) | (simp [intOf]; omega)
      · obtain rfl : k = 3 := by omega
        have hf1r : Fr w1 wr := hf15.trans hfr
        have hf4r : Fr w4 wr := hf5.trans hfr
        have CD1 : Hid (∀ w', Fr wr w' → Calls Try.prog 36 #[.agg #[.slice ax xs.length cx], .slice a4 2 k4] w' fun e w'' => ∃ ao cap, e = .returned (.tuple #[.agg #[.slice ao ys.length cap], .int .i64 2]) ∧ FilesR w'' (.slice ao ys.length cap) ys ∧ Fr w' w'') := Lib.hid fun w' h => (specDoActs_any xs la (by omega) HBA.out _ _ w' ⟨_, rfl, HX.out.fr (hf1r.trans h)⟩ (HA4.out.fr (hf4r.trans h))).mono fun e w'' h => by
          obtain ⟨a, c, h1, h2, h3⟩ := h
          rw [HS1.out] at h1 h2
          exact ⟨a, c, h1, h2.rd, h3⟩
        have FR3 := BR.facts
        clear HCUT B3
        go_wp2_with fail
        refine (CD1.out _ (by repeat (first | (with_reducible exact Fr.refl _) | (with_reducible assumption) | (with_reducible refine Fr.drewN ?_ _) | (with_reducible refine Fr.drew ?_) | (with_reducible refine Fr.alloc ?_ _) | (with_reducible refine Fr.setCell ?_ (by (first | (with_reducible assumption) | omega | (simp only [World.size_alloc, World.size_setCell, World.size_drew, World.heap_drewN]; omega) | (simp; done) | (simp; omega))) _) | (with_reducible refine Fr.trans ?_ (by with_reducible assumption))))).mono ?_
        rintro e w6 ⟨a6, k6, rfl, hY6, hf6⟩
        have z6 := hf6.size
        have HY6 := Lib.hid hY6
        have CD2 : Hid (∀ w', Fr w6 w' → Calls Try.prog 36 #[.agg #[.slice a6 ys.length k6], .slice a5 2 k5] w' fun e w'' => ∃ ao cap, e = .returned (.tuple #[.agg #[.slice ao us.length cap], .int .i64 2]) ∧ FilesR w'' (.slice ao us.length cap) us ∧ Fr w' w'') := Lib.hid fun w' h => (specDoActs_any ys lo (by omega) HBO.out _ _ w' ⟨_, rfl, HY6.out.fr h⟩ (HA5.out.fr (hfr.trans (hf6.trans h)))).mono fun e w'' h => by
          obtain ⟨a, c, h1, h2, h3⟩ := h
          rw [HS2.out] at h1 h2
          exact ⟨a, c, h1, h2.rd, h3⟩
        clear hY6 CD1 FR3
        go_wp2_with fail
        refine (CD2.out _ (by repeat (first | (with_reducible exact Fr.refl _) | (with_reducible assumption) | (with_reducible refine Fr.drewN ?_ _) | (with_reducible refine Fr.drew ?_) | (with_reducible refine Fr.alloc ?_ _) | (with_reducible refine Fr.setCell ?_ (by (first | (with_reducible assumption) | omega | (simp only [World.size_alloc, World.size_setCell, World.size_drew, World.heap_drewN]; omega) | (simp; done) | (simp; omega))) _) | (with_reducible refine Fr.trans ?_ (by with_reducible assumption))))).mono ?_
        rintro e w7 ⟨a7, k7, rfl, hU7, hf7⟩
        have z7 := hf7.size
        have HU7 := Lib.hid hU7
        clear hU7 CD2
        go_wp2_with fail
        refine (CA3.out _).mono ?_
        rintro e w8 ⟨a8, k8, rfl, hf8⟩
        have z8 := hf8.size; simp only [World.size_alloc] at z8
        have BU : Box w8 w7.heap.size #[.slice a7 us.length k7] 46 := (Box.new _ _ _).fr hf8
        have CR : Hid (∀ w', Fr w7 w' → Calls Try.prog 35 #[.agg #[.slice a7 us.length k7]] w' fun e w'' => e = .returned (.int .i64 e1) ∧ Fr w' w'') := Lib.hid fun w' h => by rw [← HS3.out]; exact implReadEpoch_any _ us w' (HU7.out.fr h)
        have CK : Hid (∀ w', Fr w7 w' → Calls Try.prog 37 #[.agg #[.slice a7 us.length k7]] w' fun e w'' => e = .returned (.bool true) ∧ Fr w' w'') := Lib.hid fun w' h => by rw [← HS4.out]; exact implAllKept_any _ us w' (HU7.out.fr h)
        have FU := BU.facts
        clear CA3
        go_wp2_with fail
        refine (CR.out _ (by repeat (first | (with_reducible exact Fr.refl _) | (with_reducible assumption) | (with_reducible refine Fr.drewN ?_ _) | (with_reducible refine Fr.drew ?_) | (with_reducible refine Fr.alloc ?_ _) | (with_reducible refine Fr.setCell ?_ (by (first | (with_reducible assumption) | omega | (simp only [World.size_alloc, World.size_setCell, World.size_drew, World.heap_drewN]; omega) | (simp; done) | (simp; omega))) _) | (with_reducible refine Fr.trans ?_ (by with_reducible assumption))))).mono ?_
        rintro e w9 ⟨rfl, hf9⟩
        have BU := BU.fr hf9
        clear FU
        have FU := BU.facts
        go_wp2_with fail
        refine (CK.out _ (by repeat (first | (with_reducible exact Fr.refl _) | (with_reducible assumption) | (with_reducible refine Fr.drewN ?_ _) | (with_reducible refine Fr.drew ?_) | (with_reducible refine Fr.alloc ?_ _) | (with_reducible refine Fr.setCell ?_ (by (first | (with_reducible assumption) | omega | (simp only [World.size_alloc, World.size_setCell, World.size_drew, World.heap_drewN]; omega) | (simp; done) | (simp; omega))) _) | (with_reducible refine Fr.trans ?_ (by with_reducible assumption))))).mono ?_
        rintro e w10 ⟨rfl, hf10⟩
        go_wp2_with fail
        go_ret
        exact ⟨rfl, by repeat (first | (with_reducible exact Fr.refl _) | (with_reducible assumption) | (with_reducible refine Fr.drewN ?_ _) | (with_reducible refine Fr.drew ?_) | (with_reducible refine Fr.alloc ?_ _) | (with_reducible refine Fr.setCell ?_ (by (first | (with_reducible assumption) | omega | (simp only [World.size_alloc, World.size_setCell, World.size_drew, World.heap_drewN]; omega) | (simp; done) | (simp; omega))) _) | (with_reducible refine Fr.trans ?_ (by with_reducible assumption)))⟩
  · go_enter Try.func4, Try.ntmps4
    go_wp2_with (go_at_call 11; refine (big_any _ _ _ _ hn).mono ?_; rintro e w0 ⟨rfl, rfl⟩)
    go_ret
    exact ⟨rfl, by repeat (first | (with_reducible exact Fr.refl _) | (with_reducible assumption) | (with_reducible refine Fr.drewN ?_ _) | (with_reducible refine Fr.drew ?_) | (with_reducible refine Fr.alloc ?_ _) | (with_reducible refine Fr.setCell ?_ (by (first | (with_reducible assumption) | omega | (simp only [World.size_alloc, World.size_setCell, World.size_drew, World.heap_drewN]; omega) | (simp; done) | (simp; omega))) _) | (with_reducible refine Fr.trans ?_ (by with_reducible assumption)))⟩
end Go.Proofs.Ytjgghiniajmfjaa
