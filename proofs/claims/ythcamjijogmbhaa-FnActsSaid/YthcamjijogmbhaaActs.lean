/- laws.FnActs: its walk. No condition but the reading of the draw. -/
import Derived.Test.YthcamjijogmbhaaDraw13
import Derived.Test.YthcamjijogmbhaaActQ
import Derived.Test.YthcamjijogmbhaaCut2
import Derived.Test.YthcamjijogmbhaaKeeps
import Derived.Deep.CutRange
namespace Go.Proofs.Ythcamjijogmbhaa
open Go.RowKit
set_option linter.unusedVariables false
set_option linter.unusedSimpArgs false
set_option maxHeartbeats 60000000 in
set_option maxRecDepth 100000 in
theorem fnActs_any (ao : Option Addr) (n cap : Nat) (w : World) (hy : ByR w w.heap.size ao n cap) :
    Calls Try.prog 7 #[.slice ao n cap] w fun e w' => e = .returned (.bool true) ∧ Fr w w' := by
  have HY := Lib.hid hy
  have hn : n ≤ 9223372036854775807 := by have := hy.1; have := hy.2.1; omega
  clear hy
  by_cases hbig : n ≤ 1048576
  · go_enter Try.func7, Try.ntmps7
    go_wp2_with (go_at_call 35; refine (big_any _ _ _ _ hn).mono ?_; rintro e w0 ⟨rfl, rfl⟩)
    refine (DrawCutActs_any ao n cap _ HY.out).mono ?_
    rintro e w1 ⟨xs, ax, cx, ls, al, cl, p, ts, at_, ct, hxl, hll, hsm, htl, rfl, hX1, hL1, hT1, hf1⟩
    have HX := Lib.hid hX1
    have HL := Lib.hid hL1
    have HT := Lib.hid hT1
    have HSM := Lib.hid hsm
    have HBK := Lib.hid (show ActsBulk ls ≤ 1048576 from by have := acts_bulk hsm hll; omega)
    clear hX1 hL1 hT1 hsm
    have z1 := hf1.size
    obtain ⟨R, hR⟩ : ∃ R, dosGo ls xs 0 = R := ⟨_, rfl⟩
    have HR := Lib.hid hR
    clear hR
    obtain ⟨N, cnt⟩ := R
    have hNl : N.length ≤ 1048576 := by have := dosGo_len ls xs 0 (by omega); rw [HR.out] at this; exact this
    have CI : Hid (∀ w', Fr w1 w' → Calls Try.prog 37 #[.agg #[.slice ax xs.length cx], .slice al ls.length cl] w' fun e w'' => ∃ ao cap, e = .returned (.tuple #[.agg #[.slice ao N.length cap], .int .i64 cnt]) ∧ FilesR w'' (.slice ao N.length cap) N ∧ Fr w' w'') := fun w' h => (implDoActs_any xs ls (by omega) HBK.out _ _ w' ⟨_, rfl, HX.out.fr h⟩ (HL.out.fr h)).mono fun e w'' h => by
      obtain ⟨a, c, h1, h2, h3⟩ := h
      rw [HR.out] at h1 h2
      exact ⟨a, c, h1, h2.rd, h3⟩
    have CS : Hid (∀ w', Fr w1 w' → Calls Try.prog 38 #[.agg #[.slice ax xs.length cx], .slice al ls.length cl] w' fun e w'' => ∃ ao cap, e = .returned (.tuple #[.agg #[.slice ao N.length cap], .int .i64 cnt]) ∧ FilesR w'' (.slice ao N.length cap) N ∧ Fr w' w'') := fun w' h => (specDoActs_any xs ls (by omega) HBK.out _ _ w' ⟨_, rfl, HX.out.fr h⟩ (HL.out.fr h)).mono fun e w'' h => by
      obtain ⟨a, c, h1, h2, h3⟩ := h
      rw [HR.out] at h1 h2
      exact ⟨a, c, h1, h2.rd, h3⟩
    obtain ⟨KD, hKD⟩ : ∃ KD, (cutD xs ls p ts).f0 = KD := ⟨_, rfl⟩
    obtain ⟨KB, hKB⟩ : ∃ KB, cutB xs ls p = KB := ⟨_, rfl⟩
    have HKD := Lib.hid hKD
    have HKB := Lib.hid hKB
    clear hKD hKB
    have DI : Hid (∀ w', Fr w1 w' → Calls Try.prog 42 #[.agg #[.slice ax xs.length cx], .slice al ls.length cl, .int .i64 p, .slice at_ ts.length ct] w' fun e w'' => ∃ ao cap, e = .returned (.tuple #[.agg #[.slice ao KD.length cap], .bool KB]) ∧ FilesR w'' (.slice ao KD.length cap) KD ∧ Fr w' w'') := fun w' h => (implCutActs_any xs ls p ts (by omega) HBK.out _ _ _ w' ⟨_, rfl, HX.out.fr h⟩ (HL.out.fr h) (HT.out.fr h)).mono fun e w'' h => by
      obtain ⟨a, c, h1, h2, h3⟩ := h
      obtain ⟨u, h4, h5⟩ := h2.rd
      rw [HKD.out] at h1 h4 h5
      rw [HKB.out] at h1
      cases h4
      exact ⟨a, c, h1, h5, h3⟩
    have DS : Hid (∀ w', Fr w1 w' → Calls Try.prog 43 #[.agg #[.slice ax xs.length cx], .slice al ls.length cl, .int .i64 p, .slice at_ ts.length ct] w' fun e w'' => ∃ ao cap, e = .returned (.tuple #[.agg #[.slice ao KD.length cap], .bool KB]) ∧ FilesR w'' (.slice ao KD.length cap) KD ∧ Fr w' w'') := fun w' h => (specCutActs_any xs ls p ts (by omega) HBK.out _ _ _ w' ⟨_, rfl, HX.out.fr h⟩ (HL.out.fr h) (HT.out.fr h)).mono fun e w'' h => by
      obtain ⟨a, c, h1, h2, h3⟩ := h
      obtain ⟨u, h4, h5⟩ := h2.rd
      rw [HKD.out] at h1 h4 h5
      rw [HKB.out] at h1
      cases h4
      exact ⟨a, c, h1, h5, h3⟩
    clear HKD HKB
    go_wp2_with fail
    refine (CI.out _ (by repeat (first | (with_reducible exact Fr.refl _) | (with_reducible assumption) | (with_reducible refine Fr.drewN ?_ _) | (with_reducible refine Fr.drew ?_) | (with_reducible refine Fr.alloc ?_ _) | (with_reducible refine Fr.setCell ?_ (by (first | (with_reducible assumption) | omega | (simp only [World.size_alloc, World.size_setCell, World.size_drew, World.heap_drewN]; omega) | (simp; done) | (simp; omega))) _) | (with_reducible refine Fr.trans ?_ (by with_reducible assumption))))).mono ?_
    rintro e w2 ⟨a2, c2, rfl, hr2, hf2⟩
    have z2 := hf2.size
    simp only [World.size_alloc] at z2
    have B3 : Box w2 w1.heap.size #[.slice ax xs.length cx] 64 := (Box.new _ _ _).fr hf2
    have HN2 := Lib.hid hr2
    clear hr2
    have F3 := B3.facts
    go_wp2_with fail
    refine (CS.out _ (by repeat (first | (with_reducible exact Fr.refl _) | (with_reducible assumption) | (with_reducible refine Fr.drewN ?_ _) | (with_reducible refine Fr.drew ?_) | (with_reducible refine Fr.alloc ?_ _) | (with_reducible refine Fr.setCell ?_ (by (first | (with_reducible assumption) | omega | (simp only [World.size_alloc, World.size_setCell, World.size_drew, World.heap_drewN]; omega) | (simp; done) | (simp; omega))) _) | (with_reducible refine Fr.trans ?_ (by with_reducible assumption))))).mono ?_
    rintro e w3 ⟨a3, c3, rfl, hr3, hf3⟩
    have z3 := hf3.size
    simp only [World.size_alloc] at z3
    have B3 := (B3.alloc _).fr hf3
    have B7 : Box w3 w2.heap.size #[.slice a2 N.length c2] 64 := (Box.new _ _ _).fr hf3
    have HN3 := Lib.hid hr3
    clear hr3 F3 CI CS
    have F7 := B7.facts
    go_wp2_with fail
    refine (sameDisk_same _ _ N _ (HN2.out.fr (by repeat (first | (with_reducible exact Fr.refl _) | (with_reducible assumption) | (with_reducible refine Fr.drewN ?_ _) | (with_reducible refine Fr.drew ?_) | (with_reducible refine Fr.alloc ?_ _) | (with_reducible refine Fr.setCell ?_ (by (first | (with_reducible assumption) | omega | (simp only [World.size_alloc, World.size_setCell, World.size_drew, World.heap_drewN]; omega) | (simp; done) | (simp; omega))) _) | (with_reducible refine Fr.trans ?_ (by with_reducible assumption))))) (HN3.out.fr (by repeat (first | (with_reducible exact Fr.refl _) | (with_reducible assumption) | (with_reducible refine Fr.drewN ?_ _) | (with_reducible refine Fr.drew ?_) | (with_reducible refine Fr.alloc ?_ _) | (with_reducible refine Fr.setCell ?_ (by (first | (with_reducible assumption) | omega | (simp only [World.size_alloc, World.size_setCell, World.size_drew, World.heap_drewN]; omega) | (simp; done) | (simp; omega))) _) | (with_reducible refine Fr.trans ?_ (by with_reducible assumption)))))).mono ?_
    rintro e w4 ⟨rfl, hf4⟩
    have z4 := hf4.size
    simp only [World.size_alloc] at z4
    have B3 := (B3.alloc _).fr hf4
    have B7 := (B7.alloc _).fr hf4
    clear F7
    have F3 := B3.facts
    go_wp2_with fail
    have HX4 : Hid (FilesR (w4.alloc (.cells #[.slice ax xs.length cx] 64)) (.slice ax xs.length cx) xs) := HX.out.fr (by repeat (first | (with_reducible exact Fr.refl _) | (with_reducible assumption) | (with_reducible refine Fr.drewN ?_ _) | (with_reducible refine Fr.drew ?_) | (with_reducible refine Fr.alloc ?_ _) | (with_reducible refine Fr.setCell ?_ (by (first | (with_reducible assumption) | omega | (simp only [World.size_alloc, World.size_setCell, World.size_drew, World.heap_drewN]; omega) | (simp; done) | (simp; omega))) _) | (with_reducible refine Fr.trans ?_ (by with_reducible assumption))))
    have hf24 : Fr w2 w4 := by repeat (first | (with_reducible exact Fr.refl _) | (with_reducible assumption) | (with_reducible refine Fr.drewN ?_ _) | (with_reducible refine Fr.drew ?_) | (with_reducible refine Fr.alloc ?_ _) | (with_reducible refine Fr.setCell ?_ (by (first | (with_reducible assumption) | omega | (simp only [World.size_alloc, World.size_setCell, World.size_drew, World.heap_drewN]; omega) | (simp; done) | (simp; omega))) _) | (with_reducible refine Fr.trans ?_ (by with_reducible assumption)))
    have hf14 : Fr w1 w4 := by repeat (first | (with_reducible exact Fr.refl _) | (with_reducible assumption) | (with_reducible refine Fr.drewN ?_ _) | (with_reducible refine Fr.drew ?_) | (with_reducible refine Fr.alloc ?_ _) | (with_reducible refine Fr.setCell ?_ (by (first | (with_reducible assumption) | omega | (simp only [World.size_alloc, World.size_setCell, World.size_drew, World.heap_drewN]; omega) | (simp; done) | (simp; omega))) _) | (with_reducible refine Fr.trans ?_ (by with_reducible assumption)))
    go_loopw [12, 13, 14, 15, 16, 17, 18] (fun i _ _ _ _ _ _ wr => ∃ (k : Nat) (ys : List FileR) (ay : Option Addr) (cy : Nat), k ≤ cnt ∧ i = .int .i64 k ∧ Hid (dosGo (ls.drop k) ys k = (N, cnt)) ∧ ys.length ≤ 40 + k ∧ Box wr w4.heap.size #[.slice ay ys.length cy] 64 ∧ FilesR wr (.slice ay ys.length cy) ys ∧ Fr w4 wr) (fun i _ _ _ _ _ _ _ => cnt - (intOf i).toNat)
    case atStart => exact ⟨0, xs, ax, cx, Nat.zero_le _, rfl, by rw [← HR.out]; exact dos_zero ls xs, by omega, Box.new _ _ _, HX4.out, by repeat (first | (with_reducible exact Fr.refl _) | (with_reducible assumption) | (with_reducible refine Fr.drewN ?_ _) | (with_reducible refine Fr.drew ?_) | (with_reducible refine Fr.alloc ?_ _) | (with_reducible refine Fr.setCell ?_ (by (first | (with_reducible assumption) | omega | (simp only [World.size_alloc, World.size_setCell, World.size_drew, World.heap_drewN]; omega) | (simp; done) | (simp; omega))) _) | (with_reducible refine Fr.trans ?_ (by with_reducible assumption)))⟩
    case round =>
      clear HX4 HX HR
      obtain ⟨k, ys, ay, cy, hk, rfl, hgo, hyk, BO, hY, hfr⟩ := hrel
      have HYS := Lib.hid hY
      clear hY
      have FO := BO.facts
      have zr := hfr.size
      have zo := BO.lt
      by_cases hlt : k < cnt
      · obtain ⟨hkl, hdo, hgo2⟩ := dos_step hgo.out hlt
        have hyl : ys.length ≤ 1048576 := by omega
        obtain ⟨al', ba, oa, cl', hv, hcl, hml, fl⟩ := HL.out.one
        cases hv
        obtain ⟨rfl, hba, fl⟩ := fl (by omega)
        obtain ⟨g0, g1, g2, g3⟩ := fl k hkl
        have hsm : (actAt ls k).small := act_mem HSM.out k hkl
        obtain ⟨a, ha⟩ : ∃ a, actAt ls k = a := ⟨_, rfl⟩
        rw [ha] at hdo hgo2 g0 g1 g2 g3 hsm
        clear ha fl
        have HGO := Lib.hid hgo2
        have HA1 := Lib.hid (fun h => acts_add hdo h)
        have HA4 := Lib.hid (fun h => acts_drop hdo h)
        have HFS : Hid (∀ s, (fTx ys s).size ≤ 20000) := fun s => fTx_size (doB_parts hdo).1 s
        have hzl := doL_length (xs := ys) (a := a)
        have CD : Hid (∀ w', Fr wr w' → Calls Try.prog 40 #[.agg #[.slice ay ys.length cy], .agg #[.int .i64 a.f0, .string a.f1, .string a.f2, .string a.f3]] w' fun e w'' => ∃ ao cap, e = .returned (.tuple #[.agg #[.slice ao (doL ys a).length cap], .bool true]) ∧ FilesW w'' w'.heap.size w''.heap.size (.slice ao (doL ys a).length cap) (doL ys a) ∧ Fr w' w'') := fun w' h => (implDoAct_any ys a hyl (by have := hsm.2.1; omega) _ w' ⟨_, rfl, HYS.out.fr h⟩).mono fun e w'' h => by
          obtain ⟨u1, u2, h1, h2, h3⟩ := h
          rw [hdo] at h1
          exact ⟨u1, u2, h1, h2, h3⟩
        clear hdo hgo2 hgo
        generalize doL ys a = zs at HGO HA1 HA4 hzl CD
        have hsz : a.f2.size ≤ 9 := hsm.2.1
        clear hsm
        obtain ⟨kd, nm, tx, tt⟩ := a
        simp only [] at g0 g1 g2 g3 HA1 HA4 CD hsz
        have hf1r : Fr w1 wr := by repeat (first | (with_reducible exact Fr.refl _) | (with_reducible assumption) | (with_reducible refine Fr.drewN ?_ _) | (with_reducible refine Fr.drew ?_) | (with_reducible refine Fr.alloc ?_ _) | (with_reducible refine Fr.setCell ?_ (by (first | (with_reducible assumption) | omega | (simp only [World.size_alloc, World.size_setCell, World.size_drew, World.heap_drewN]; omega) | (simp; done) | (simp; omega))) _) | (with_reducible refine Fr.trans ?_ (by with_reducible assumption)))
        have c0 : ∀ w', Sf wr w' → w'.cell? _ = _ := fun w' h => ((hf1r.trans h.out).cell (p := ⟨ba, _, none⟩) hba).trans g0
        have c1 : ∀ w', Sf wr w' → w'.cell? _ = _ := fun w' h => ((hf1r.trans h.out).cell (p := ⟨ba, _, none⟩) hba).trans g1
        have c2' : ∀ w', Sf wr w' → w'.cell? _ = _ := fun w' h => ((hf1r.trans h.out).cell (p := ⟨ba, _, none⟩) hba).trans g2
        have c3' : ∀ w', Sf wr w' → w'.cell? _ = _ := fun w' h => ((hf1r.trans h.out).cell (p := ⟨ba, _, none⟩) hba).trans g3
        have FA1 : ∀ w', Sf wr w' → ∀ o, w'.cell? ⟨w4.heap.size, o, none⟩ = _ := fun w' h o => (BO.fr h.out).cell o
        clear FO
        go_upto_region 12 with fail
        go_cut [13, 14] from 54 to 122 (fun p13 p14 wx => ∃ bk lo hi an cn, p13 = .pointer (some ⟨bk, 0, none⟩) ∧ p14 = .bool true ∧ Box wx bk #[.slice an zs.length cn] 64 ∧ (wr.heap.size ≤ lo ∧ lo ≤ hi ∧ hi ≤ wx.heap.size ∧ wr.heap.size ≤ bk ∧ (bk < lo ∨ hi ≤ bk)) ∧ FilesW wx lo hi (.slice an zs.length cn) zs ∧ Fr wr wx)
        case first =>
          clear BO B3 B7
          go_region_held3 (fun w' => Sf wr w') ((refine Sf.mk ?_; repeat (first | (with_reducible exact Fr.refl _) | (with_reducible assumption) | (with_reducible refine Fr.drewN ?_ _) | (with_reducible refine Fr.drew ?_) | (with_reducible refine Fr.alloc ?_ _) | (with_reducible refine Fr.setCell ?_ (by (first | (with_reducible assumption) | omega | (simp only [World.size_alloc, World.size_setCell, World.size_drew, World.heap_drewN]; omega) | (simp; done) | (simp; omega))) _) | (with_reducible refine Fr.trans ?_ (by with_reducible assumption))))) (first | (go_at_call 40; with_reducible refine (CD.out _ (by repeat (first | (with_reducible exact Fr.refl _) | (with_reducible assumption) | (with_reducible refine Fr.drewN ?_ _) | (with_reducible refine Fr.drew ?_) | (with_reducible refine Fr.alloc ?_ _) | (with_reducible refine Fr.setCell ?_ (by (first | (with_reducible assumption) | omega | (simp only [World.size_alloc, World.size_setCell, World.size_drew, World.heap_drewN]; omega) | (simp; done) | (simp; omega))) _) | (with_reducible refine Fr.trans ?_ (by with_reducible assumption))))).mono ?_; rintro e w8 ⟨an, cn, rfl, hl8, hf8⟩; have z8 := hf8.size; (try simp only [World.size_alloc, World.size_setCell, World.size_drew] at z8); (try have kb8 := hf8.blk (wr.heap.size) (by (first | (with_reducible assumption) | omega | (simp only [World.size_alloc, World.size_setCell, World.size_drew, World.heap_drewN]; omega) | (simp; done) | (simp; omega)))); obtain ⟨lq, hlqa, hlqb, ol⟩ : ∃ l : Nat, _ ≤ l ∧ l ≤ _ ∧ FilesW w8 l _ _ _ := ⟨_, Nat.le_refl _, Nat.le_refl _, hl8⟩; (try simp only [World.size_alloc, World.size_setCell, World.size_drew] at hlqa hlqb)))
          all_goals
            go_wp2_with fail
            go_meet
            case rel =>
              refine ⟨_, lq, w8.heap.size, an, cn, rfl, rfl, ?_, ?_, ?_, by repeat (first | (with_reducible exact Fr.refl _) | (with_reducible assumption) | (with_reducible refine Fr.drewN ?_ _) | (with_reducible refine Fr.drew ?_) | (with_reducible refine Fr.alloc ?_ _) | (with_reducible refine Fr.setCell ?_ (by (first | (with_reducible assumption) | omega | (simp only [World.size_alloc, World.size_setCell, World.size_drew, World.heap_drewN]; omega) | (simp; done) | (simp; omega))) _) | (with_reducible refine Fr.trans ?_ (by with_reducible assumption)))⟩
              · (repeat (first | (with_reducible exact Box.new _ _ _) | (with_reducible apply Box.drew) | (apply Box.set_to) | (apply Box.new'; (first | with_reducible rfl | (focus (simp; done)))) | (with_reducible refine Box.alloc ?_ _) | (apply Box.fr; (case hf => with_reducible assumption)))); all_goals rfl
              · (try simp only [World.size_alloc, World.size_setCell, World.size_drew]); (refine ⟨?_, ?_, ?_, ?_, ?_⟩ <;> first | omega | (simp; omega))
              · change OwW _ _ _ _ _ _ _ _; (repeat (first | (with_reducible refine OwW.drewN ?_ _) | (with_reducible refine OwW.drew ?_) | (with_reducible refine OwW.alloc ?_ _) | (with_reducible refine OwW.set ?_ (by (first | (with_reducible assumption) | omega | (simp only [World.size_alloc, World.size_setCell, World.size_drew, World.heap_drewN]; omega) | (simp; done) | (simp; omega))) _) | (exact ol)))
        case rest =>
          obtain ⟨w8, rfl⟩ : ∃ w_ : World, w_ = wc := ⟨_, rfl⟩
          obtain ⟨bk, lo, hi, an, cn, rfl, rfl, BN, hb, hN, hf8⟩ := hcut
          clear FA1 CD
          have z8 := hf8.size
          have BO := BO.fr hf8
          have HYS8 := Lib.hid (HYS.out.fr hf8)
          have HN8 := Lib.hid hN
          clear hN HYS
          obtain ⟨tX, hX⟩ : ∃ t, fTx ys nm = t := ⟨_, rfl⟩
          obtain ⟨hX', hXX⟩ : ∃ t, fHas ys nm = t := ⟨_, rfl⟩
          obtain ⟨tY, hY⟩ : ∃ t, fTx zs nm = t := ⟨_, rfl⟩
          obtain ⟨hY', hYY⟩ : ∃ t, fHas zs nm = t := ⟨_, rfl⟩
          have CF1 : Hid (∀ w', Fr w8 w' → Calls Try.prog 41 #[.agg #[.slice ay ys.length cy], .string nm] w' fun e w'' => e = .returned (.tuple #[.string tX, .bool hX']) ∧ Fr w' w'') := fun w' h => by
            have := implFileAt_any (.slice ay ys.length cy) ys nm w' (HYS8.out.fr h)
            rw [hX, hXX] at this
            exact this
          have CF2 : Hid (∀ w', Fr w8 w' → Calls Try.prog 41 #[.agg #[.slice an zs.length cn], .string nm] w' fun e w'' => e = .returned (.tuple #[.string tY, .bool hY']) ∧ Fr w' w'') := fun w' h => by
            have := implFileAt_any (.slice an zs.length cn) zs nm w' (HN8.out.rd.fr h)
            rw [hY, hYY] at this
            exact this
          have hxs := HFS.out nm
          rw [hX] at hxs
          rw [hY, hYY, hX] at HA1
          rw [hYY] at HA4
          clear hX hXX hY hYY HFS
          have FA1 : ∀ w', Sf w8 w' → ∀ o, w'.cell? ⟨w4.heap.size, o, none⟩ = _ := fun w' h o => (BO.fr h.out).cell o
          have FA2 : ∀ w', Sf w8 w' → ∀ o, w'.cell? ⟨bk, o, none⟩ = _ := fun w' h o => (BN.fr h.out).cell o
          have e0 : ∀ w', Sf w8 w' → w'.cell? _ = _ := fun w' h => c0 w' (Sf.mk (hf8.trans h.out))
          have e1 : ∀ w', Sf w8 w' → w'.cell? _ = _ := fun w' h => c1 w' (Sf.mk (hf8.trans h.out))
          have e2 : ∀ w', Sf w8 w' → w'.cell? _ = _ := fun w' h => c2' w' (Sf.mk (hf8.trans h.out))
          clear c0 c1 c2' c3' g0 g1 g2 g3
          go_wp2_with fail
          go_region_held3 (fun w' => Sf w8 w') ((refine Sf.mk ?_; repeat (first | (with_reducible exact Fr.refl _) | (with_reducible assumption) | (with_reducible refine Fr.drewN ?_ _) | (with_reducible refine Fr.drew ?_) | (with_reducible refine Fr.alloc ?_ _) | (with_reducible refine Fr.setCell ?_ (by (first | (with_reducible assumption) | omega | (simp only [World.size_alloc, World.size_setCell, World.size_drew, World.heap_drewN]; omega) | (simp; done) | (simp; omega))) _) | (with_reducible refine Fr.trans ?_ (by with_reducible assumption))))) (first | (go_at_call 41; with_reducible refine (CF1.out _ (by repeat (first | (with_reducible exact Fr.refl _) | (with_reducible assumption) | (with_reducible refine Fr.drewN ?_ _) | (with_reducible refine Fr.drew ?_) | (with_reducible refine Fr.alloc ?_ _) | (with_reducible refine Fr.setCell ?_ (by (first | (with_reducible assumption) | omega | (simp only [World.size_alloc, World.size_setCell, World.size_drew, World.heap_drewN]; omega) | (simp; done) | (simp; omega))) _) | (with_reducible refine Fr.trans ?_ (by with_reducible assumption))))).mono ?_; rintro e w9 ⟨rfl, hf9⟩))
          go_wp2_with fail
          go_region_held3 (fun w' => Sf w8 w') ((refine Sf.mk ?_; repeat (first | (with_reducible exact Fr.refl _) | (with_reducible assumption) | (with_reducible refine Fr.drewN ?_ _) | (with_reducible refine Fr.drew ?_) | (with_reducible refine Fr.alloc ?_ _) | (with_reducible refine Fr.setCell ?_ (by (first | (with_reducible assumption) | omega | (simp only [World.size_alloc, World.size_setCell, World.size_drew, World.heap_drewN]; omega) | (simp; done) | (simp; omega))) _) | (with_reducible refine Fr.trans ?_ (by with_reducible assumption))))) (first | (go_at_call 41; with_reducible refine (CF2.out _ (by repeat (first | (with_reducible exact Fr.refl _) | (with_reducible assumption) | (with_reducible refine Fr.drewN ?_ _) | (with_reducible refine Fr.drew ?_) | (with_reducible refine Fr.alloc ?_ _) | (with_reducible refine Fr.setCell ?_ (by (first | (with_reducible assumption) | omega | (simp only [World.size_alloc, World.size_setCell, World.size_drew, World.heap_drewN]; omega) | (simp; done) | (simp; omega))) _) | (with_reducible refine Fr.trans ?_ (by with_reducible assumption))))).mono ?_; rintro e w10 ⟨rfl, hf10⟩))
          have hf810 : Fr w8 w10 := by repeat (first | (with_reducible exact Fr.refl _) | (with_reducible assumption) | (with_reducible refine Fr.drewN ?_ _) | (with_reducible refine Fr.drew ?_) | (with_reducible refine Fr.alloc ?_ _) | (with_reducible refine Fr.setCell ?_ (by (first | (with_reducible assumption) | omega | (simp only [World.size_alloc, World.size_setCell, World.size_drew, World.heap_drewN]; omega) | (simp; done) | (simp; omega))) _) | (with_reducible refine Fr.trans ?_ (by with_reducible assumption)))
          have d0 := e0 w10 (Sf.mk hf810)
          have d1 := e1 w10 (Sf.mk hf810)
          have d2 := e2 w10 (Sf.mk hf810)
          have BO := BO.fr hf810
          have BN := BN.fr hf810
          have FO := BO.facts
          have FN := BN.facts
          have hsum := fun w => run_string_add_sum (P := Try.prog) (w := w) tX tx (by omega)
          clear FA1 FA2 e0 e1 e2 CF1 CF2
          have hN10 := HN8.out.fr hf810
          have z10 := hf810.size
          clear HN8 HYS8
          by_cases k1 : kd = 1
          · subst k1
            obtain ⟨rfl, rfl⟩ := HA1.out rfl
            clear HA1 HA4
            have q : ((tX ++ tx).toList == (tX ++ tx).toList) = true := bytes_beq rfl
            go_wp2_with fail
            go_roundw
            case rel =>
              refine ⟨k + 1, zs, an, cn, by omega, by go_num, HGO, by omega, BO.set_to (by simp), ?_, by repeat (first | (with_reducible exact Fr.refl _) | (with_reducible assumption) | (with_reducible refine Fr.drewN ?_ _) | (with_reducible refine Fr.drew ?_) | (with_reducible refine Fr.alloc ?_ _) | (with_reducible refine Fr.setCell ?_ (by (first | (with_reducible assumption) | omega | (simp only [World.size_alloc, World.size_setCell, World.size_drew, World.heap_drewN]; omega) | (simp; done) | (simp; omega))) _) | (with_reducible refine Fr.trans ?_ (by with_reducible assumption)))⟩
              refine FilesW.rd (lo := lo) (hi := hi) ?_
              change OwW _ _ _ _ _ _ _ _; (repeat (first | (with_reducible refine OwW.drewN ?_ _) | (with_reducible refine OwW.drew ?_) | (with_reducible refine OwW.alloc ?_ _) | (with_reducible refine OwW.set ?_ (by (first | (with_reducible assumption) | omega | (simp only [World.size_alloc, World.size_setCell, World.size_drew, World.heap_drewN]; omega) | (simp; done) | (simp; omega))) _) | (exact hN10)))
            case measure => (simp [intOf]; omega)
          · by_cases k4 : kd = 4
            · subst k4
              obtain rfl := HA4.out rfl
              clear HA1 HA4
              go_wp2_with fail
              go_roundw
              case rel =>
                refine ⟨k + 1, zs, an, cn, by omega, by go_num, HGO, by omega, BO.set_to (by simp), ?_, by repeat (first | (with_reducible exact Fr.refl _) | (with_reducible assumption) | (with_reducible refine Fr.drewN ?_ _) | (with_reducible refine Fr.drew ?_) | (with_reducible refine Fr.alloc ?_ _) | (with_reducible refine Fr.setCell ?_ (by (first | (with_reducible assumption) | omega | (simp only [World.size_alloc, World.size_setCell, World.size_drew, World.heap_drewN]; omega) | (simp; done) | (simp; omega))) _) | (with_reducible refine Fr.trans ?_ (by with_reducible assumption)))⟩
                refine FilesW.rd (lo := lo) (hi := hi) ?_
                change OwW _ _ _ _ _ _ _ _; (repeat (first | (with_reducible refine OwW.drewN ?_ _) | (with_reducible refine OwW.drew ?_) | (with_reducible refine OwW.alloc ?_ _) | (with_reducible refine OwW.set ?_ (by (first | (with_reducible assumption) | omega | (simp only [World.size_alloc, World.size_setCell, World.size_drew, World.heap_drewN]; omega) | (simp; done) | (simp; omega))) _) | (exact hN10)))
              case measure => (simp [intOf]; omega)
            · clear HA1 HA4
              have q1 : (kd == 1) = false := by simpa using k1
              have q4 : (kd == 4) = false := by simpa using k4
              go_wp2_with fail
              go_roundw
              case rel =>
                refine ⟨k + 1, zs, an, cn, by omega, by go_num, HGO, by omega, BO.set_to (by simp), ?_, by repeat (first | (with_reducible exact Fr.refl _) | (with_reducible assumption) | (with_reducible refine Fr.drewN ?_ _) | (with_reducible refine Fr.drew ?_) | (with_reducible refine Fr.alloc ?_ _) | (with_reducible refine Fr.setCell ?_ (by (first | (with_reducible assumption) | omega | (simp only [World.size_alloc, World.size_setCell, World.size_drew, World.heap_drewN]; omega) | (simp; done) | (simp; omega))) _) | (with_reducible refine Fr.trans ?_ (by with_reducible assumption)))⟩
                refine FilesW.rd (lo := lo) (hi := hi) ?_
                change OwW _ _ _ _ _ _ _ _; (repeat (first | (with_reducible refine OwW.drewN ?_ _) | (with_reducible refine OwW.drew ?_) | (with_reducible refine OwW.alloc ?_ _) | (with_reducible refine OwW.set ?_ (by (first | (with_reducible assumption) | omega | (simp only [World.size_alloc, World.size_setCell, World.size_drew, World.heap_drewN]; omega) | (simp; done) | (simp; omega))) _) | (exact hN10)))
              case measure => (simp [intOf]; omega)
      · obtain rfl : k = cnt := by omega
        obtain rfl : ys = N := dos_done hgo.out rfl
        clear HL HT HSM HBK hgo
        have hf1r : Fr w1 wr := by repeat (first | (with_reducible exact Fr.refl _) | (with_reducible assumption) | (with_reducible refine Fr.drewN ?_ _) | (with_reducible refine Fr.drew ?_) | (with_reducible refine Fr.alloc ?_ _) | (with_reducible refine Fr.setCell ?_ (by (first | (with_reducible assumption) | omega | (simp only [World.size_alloc, World.size_setCell, World.size_drew, World.heap_drewN]; omega) | (simp; done) | (simp; omega))) _) | (with_reducible refine Fr.trans ?_ (by with_reducible assumption)))
        have B3 := B3.fr hfr
        have B7 := B7.fr hfr
        clear FO F3
        have F3 := B3.facts
        go_wp2_with fail
        refine (DI.out _ (by repeat (first | (with_reducible exact Fr.refl _) | (with_reducible assumption) | (with_reducible refine Fr.drewN ?_ _) | (with_reducible refine Fr.drew ?_) | (with_reducible refine Fr.alloc ?_ _) | (with_reducible refine Fr.setCell ?_ (by (first | (with_reducible assumption) | omega | (simp only [World.size_alloc, World.size_setCell, World.size_drew, World.heap_drewN]; omega) | (simp; done) | (simp; omega))) _) | (with_reducible refine Fr.trans ?_ (by with_reducible assumption))))).mono ?_
        rintro e w5 ⟨a5, c5, rfl, hr5, hf5⟩
        have z5 := hf5.size
        have HR5 := Lib.hid hr5
        have B3 := B3.fr hf5
        have B7 := B7.fr hf5
        have BO := BO.fr hf5
        clear F3 hr5
        have F3 := B3.facts
        go_wp2_with fail
        refine (DS.out _ (by repeat (first | (with_reducible exact Fr.refl _) | (with_reducible assumption) | (with_reducible refine Fr.drewN ?_ _) | (with_reducible refine Fr.drew ?_) | (with_reducible refine Fr.alloc ?_ _) | (with_reducible refine Fr.setCell ?_ (by (first | (with_reducible assumption) | omega | (simp only [World.size_alloc, World.size_setCell, World.size_drew, World.heap_drewN]; omega) | (simp; done) | (simp; omega))) _) | (with_reducible refine Fr.trans ?_ (by with_reducible assumption))))).mono ?_
        rintro e w6 ⟨a6, c6, rfl, hr6, hf6⟩
        have z6 := hf6.size
        simp only [World.size_alloc] at z6
        have HR6 := Lib.hid hr6
        have B7 := (B7.alloc _).fr hf6
        have BO := (BO.alloc _).fr hf6
        have B8 : Box w6 w5.heap.size #[.slice a5 KD.length c5] 64 := (Box.new _ _ _).fr hf6
        clear F3 hr6 B3 DI DS
        have F8 := B8.facts
        have q := beq_self_eq_true KB
        go_wp2_with fail
        refine (sameDisk_same _ _ KD _ (HR5.out.fr (by repeat (first | (with_reducible exact Fr.refl _) | (with_reducible assumption) | (with_reducible refine Fr.drewN ?_ _) | (with_reducible refine Fr.drew ?_) | (with_reducible refine Fr.alloc ?_ _) | (with_reducible refine Fr.setCell ?_ (by (first | (with_reducible assumption) | omega | (simp only [World.size_alloc, World.size_setCell, World.size_drew, World.heap_drewN]; omega) | (simp; done) | (simp; omega))) _) | (with_reducible refine Fr.trans ?_ (by with_reducible assumption))))) (HR6.out.fr (by repeat (first | (with_reducible exact Fr.refl _) | (with_reducible assumption) | (with_reducible refine Fr.drewN ?_ _) | (with_reducible refine Fr.drew ?_) | (with_reducible refine Fr.alloc ?_ _) | (with_reducible refine Fr.setCell ?_ (by (first | (with_reducible assumption) | omega | (simp only [World.size_alloc, World.size_setCell, World.size_drew, World.heap_drewN]; omega) | (simp; done) | (simp; omega))) _) | (with_reducible refine Fr.trans ?_ (by with_reducible assumption)))))).mono ?_
        rintro e w7 ⟨rfl, hf7⟩
        have z7 := hf7.size
        simp only [World.size_alloc] at z7
        have B7 := (B7.alloc _).fr hf7
        have BO := (BO.alloc _).fr hf7
        clear F8 HR5 HR6 B8
        have F7 := B7.facts
        have FO := BO.facts
        by_cases hc0 : k = 0
        · subst hc0
          go_wp2_with fail
          go_ret
          exact ⟨rfl, by repeat (first | (with_reducible exact Fr.refl _) | (with_reducible assumption) | (with_reducible refine Fr.drewN ?_ _) | (with_reducible refine Fr.drew ?_) | (with_reducible refine Fr.alloc ?_ _) | (with_reducible refine Fr.setCell ?_ (by (first | (with_reducible assumption) | omega | (simp only [World.size_alloc, World.size_setCell, World.size_drew, World.heap_drewN]; omega) | (simp; done) | (simp; omega))) _) | (with_reducible refine Fr.trans ?_ (by with_reducible assumption)))⟩
        · have hc1 : ((k : Int) == 0) = false := by simpa using hc0
          go_wp2_with fail
          refine (sameDisk_same _ _ ys _ (HYS.out.fr (by repeat (first | (with_reducible exact Fr.refl _) | (with_reducible assumption) | (with_reducible refine Fr.drewN ?_ _) | (with_reducible refine Fr.drew ?_) | (with_reducible refine Fr.alloc ?_ _) | (with_reducible refine Fr.setCell ?_ (by (first | (with_reducible assumption) | omega | (simp only [World.size_alloc, World.size_setCell, World.size_drew, World.heap_drewN]; omega) | (simp; done) | (simp; omega))) _) | (with_reducible refine Fr.trans ?_ (by with_reducible assumption))))) (HN2.out.fr ((hf24.trans hfr).trans (by repeat (first | (with_reducible exact Fr.refl _) | (with_reducible assumption) | (with_reducible refine Fr.drewN ?_ _) | (with_reducible refine Fr.drew ?_) | (with_reducible refine Fr.alloc ?_ _) | (with_reducible refine Fr.setCell ?_ (by (first | (with_reducible assumption) | omega | (simp only [World.size_alloc, World.size_setCell, World.size_drew, World.heap_drewN]; omega) | (simp; done) | (simp; omega))) _) | (with_reducible refine Fr.trans ?_ (by with_reducible assumption))))))).mono ?_
          rintro e w8 ⟨rfl, hf8⟩
          go_wp2_with fail
          go_ret
          exact ⟨rfl, by repeat (first | (with_reducible exact Fr.refl _) | (with_reducible assumption) | (with_reducible refine Fr.drewN ?_ _) | (with_reducible refine Fr.drew ?_) | (with_reducible refine Fr.alloc ?_ _) | (with_reducible refine Fr.setCell ?_ (by (first | (with_reducible assumption) | omega | (simp only [World.size_alloc, World.size_setCell, World.size_drew, World.heap_drewN]; omega) | (simp; done) | (simp; omega))) _) | (with_reducible refine Fr.trans ?_ (by with_reducible assumption)))⟩
  · go_enter Try.func7, Try.ntmps7
    go_wp2_with (go_at_call 35; refine (big_any _ _ _ _ hn).mono ?_; rintro e w0 ⟨rfl, rfl⟩)
    go_ret
    exact ⟨rfl, by repeat (first | (with_reducible exact Fr.refl _) | (with_reducible assumption) | (with_reducible refine Fr.drewN ?_ _) | (with_reducible refine Fr.drew ?_) | (with_reducible refine Fr.alloc ?_ _) | (with_reducible refine Fr.setCell ?_ (by (first | (with_reducible assumption) | omega | (simp only [World.size_alloc, World.size_setCell, World.size_drew, World.heap_drewN]; omega) | (simp; done) | (simp; omega))) _) | (with_reducible refine Fr.trans ?_ (by with_reducible assumption)))⟩
end Go.Proofs.Ythcamjijogmbhaa
