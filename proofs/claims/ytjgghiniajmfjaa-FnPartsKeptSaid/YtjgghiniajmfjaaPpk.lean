/- laws.FnPartsKept: its walk. No condition but the reading of the draw. -/
import Derived.Test.YtjgghiniajmfjaaDrp
import Derived.Test.YtjgghiniajmfjaaCut2
import Derived.Test.YtjgghiniajmfjaaRep
import Derived.Test.YtjgghiniajmfjaaLw
import Derived.Test.YtjgghiniajmfjaaSmg
import Derived.Deep.CutRange
namespace Go.Proofs.Ytjgghiniajmfjaa
open Go.RowKit
set_option linter.unusedVariables false
set_option linter.unusedSimpArgs false
set_option maxHeartbeats 60000000 in
set_option maxRecDepth 100000 in
theorem fnPartsKept_any (ao : Option Addr) (n cap : Nat) (w : World) (hy : ByR w w.heap.size ao n cap) :
    Calls Try.prog 8 #[.slice ao n cap] w fun e w' => e = .returned (.bool true) ∧ Fr w w' := by
  have HY := Lib.hid hy
  have hn : n ≤ 9223372036854775807 := by have := hy.1; have := hy.2.1; omega
  clear hy
  by_cases hbig : n ≤ 1048576
  · go_enter Try.func8, Try.ntmps8
    go_wp2_with (go_at_call 11; refine (big_any _ _ _ _ hn).mono ?_; rintro e w0 ⟨rfl, rfl⟩)
    refine (DrawPartDisk_any ao n cap _ HY.out).mono ?_
    rintro e w1 ⟨xs, ax, cx, ⟨g0, ts, D, hgb0, hxl, htl, hep⟩, rfl, hX1, hf1⟩
    have z1 := hf1.size
    have HX := Lib.hid hX1
    have HDK := Lib.hid D
    have HP0 : Hid (paI xs = (g0, true)) := Lib.hid (by rw [D.pa]; exact paK_snoc [] hgb0)
    clear hX1 D hep hgb0
    go_wp2_with fail
    refine (DrawGraph_any ao n cap _ (HY.out.here (by repeat (first | (with_reducible exact Fr.refl _) | (with_reducible assumption) | (with_reducible refine Fr.drewN ?_ _) | (with_reducible refine Fr.drew ?_) | (with_reducible refine Fr.alloc ?_ _) | (with_reducible refine Fr.setCell ?_ (by (first | (with_reducible assumption) | omega | (simp only [World.size_alloc, World.size_setCell, World.size_drew, World.heap_drewN]; omega) | (simp; done) | (simp; omega))) _) | (with_reducible refine Fr.trans ?_ (by with_reducible assumption)))))).mono ?_
    rintro e w2 ⟨g, ag, cg, hg2, hg5, hgb, rfl, hG2, hf2⟩
    have z2 := hf2.size; simp only [World.size_alloc] at z2
    have B3 : Box w2 w1.heap.size #[.slice ax xs.length cx] 46 := (Box.new _ _ _).fr hf2
    have HG := Lib.hid hG2
    have HGB := Lib.hid hgb
    obtain ⟨la, hla⟩ : ∃ la, partA g = la := ⟨_, rfl⟩
    have hl1 : la.length = 2 := by rw [← hla, partA_yes hgb]; rfl
    have HBA := Lib.hid (show ActsBulk la ≤ 1048576 by rw [← hla]; exact partA_bulk _)
    have CPA : Hid (∀ w', Fr w2 w' → Calls Try.prog 58 #[.agg #[.int .i64 g.f0, .slice ag g.f1.length cg]] w' fun e w'' => ∃ ao cap, e = .returned (.tuple #[.slice ao 2 cap, .bool true]) ∧ ActsR w'' (.slice ao 2 cap) la ∧ Fr w' w'') := Lib.hid fun w' h => (implPartActs_any _ g w' ⟨_, rfl, HG.out.fr h⟩).mono fun e w'' h => by
      obtain ⟨a, c, h1, h2, h3⟩ := h
      rw [hla, hl1, HGB.out] at h1
      rw [hla, hl1] at h2
      exact ⟨a, c, h1, h2.rd, h3⟩
    have HCUT : Hid (∀ (k : Nat) (left : List Int), k ≤ 2 → cutB xs la k = true ∧ ∃ L G, cutD xs la k left = ⟨L⟩ ∧ paI L = (G, true) ∧ (G = g0 ∨ G = g) ∧ (k = 2 → G = g)) := Lib.hid fun k left hk => by
      obtain ⟨h1, L, h2, _, h3, h4⟩ := HDK.out.cut_part (left := left) HGB.out (by omega) (by simp) hk
      rw [hla] at h1 h2
      rw [HP0.out] at h3
      refine ⟨h1, L, ?_⟩
      rcases h3 with h3 | h3
      · refine ⟨g0, h2, h3, .inl rfl, fun h => ?_⟩
        have := h4 h
        rw [h3] at this
        exact congrArg Prod.fst this
      · exact ⟨g, h2, h3, .inr rfl, fun _ => rfl⟩
    have CRP : Hid (∀ w', Fr w1 w' → Calls Try.prog 56 #[.agg #[.slice ax xs.length cx]] w' fun e w'' => ∃ ao cap, e = .returned (.tuple #[.agg #[.int .i64 g0.f0, .slice ao g0.f1.length cap], .bool true]) ∧ EdgesR w'' (.slice ao g0.f1.length cap) g0.f1 ∧ Fr w' w'') := Lib.hid fun w' h => (specReadPart_any _ xs w' (HX.out.fr h)).mono fun e w'' h => by
      obtain ⟨a, c, h1, ⟨_, _, h4, h5⟩, h3⟩ := h
      rw [HP0.out] at h1 h4 h5
      cases h4
      exact ⟨a, c, h1, OwW.rd h5, h3⟩
    clear hG2 hgb hla HP0 HDK
    go_wp2_with fail
    refine (CPA.out _ (by repeat (first | (with_reducible exact Fr.refl _) | (with_reducible assumption) | (with_reducible refine Fr.drewN ?_ _) | (with_reducible refine Fr.drew ?_) | (with_reducible refine Fr.alloc ?_ _) | (with_reducible refine Fr.setCell ?_ (by (first | (with_reducible assumption) | omega | (simp only [World.size_alloc, World.size_setCell, World.size_drew, World.heap_drewN]; omega) | (simp; done) | (simp; omega))) _) | (with_reducible refine Fr.trans ?_ (by with_reducible assumption))))).mono ?_
    rintro e w3 ⟨a3, k3, rfl, hA3, hf3⟩
    have z3 := hf3.size; simp only [World.size_alloc] at z3
    have B3 := (B3.alloc _).fr hf3
    have B4 : Box w3 w2.heap.size #[.int .i64 g.f0, .slice ag g.f1.length cg] 32 := (Box.new _ _ _).fr hf3
    have HA3 := Lib.hid hA3
    have F3 := B3.facts
    clear hA3 CPA
    go_wp2_with fail
    refine (CRP.out _ (by repeat (first | (with_reducible exact Fr.refl _) | (with_reducible assumption) | (with_reducible refine Fr.drewN ?_ _) | (with_reducible refine Fr.drew ?_) | (with_reducible refine Fr.alloc ?_ _) | (with_reducible refine Fr.setCell ?_ (by (first | (with_reducible assumption) | omega | (simp only [World.size_alloc, World.size_setCell, World.size_drew, World.heap_drewN]; omega) | (simp; done) | (simp; omega))) _) | (with_reducible refine Fr.trans ?_ (by with_reducible assumption))))).mono ?_
    rintro e w4 ⟨a4, k4, rfl, hG4, hf4⟩
    have z4 := hf4.size
    have HG4 := Lib.hid hG4
    have B3 := B3.fr hf4
    have B4 := B4.fr hf4
    clear hG4 CRP F3
    go_wp2_with fail
    refine (DrawPlaces_any ao n cap _ (HY.out.here (by repeat (first | (with_reducible exact Fr.refl _) | (with_reducible assumption) | (with_reducible refine Fr.drewN ?_ _) | (with_reducible refine Fr.drew ?_) | (with_reducible refine Fr.alloc ?_ _) | (with_reducible refine Fr.setCell ?_ (by (first | (with_reducible assumption) | omega | (simp only [World.size_alloc, World.size_setCell, World.size_drew, World.heap_drewN]; omega) | (simp; done) | (simp; omega))) _) | (with_reducible refine Fr.trans ?_ (by with_reducible assumption)))))).mono ?_
    rintro e w5 ⟨ps, ap, cp, hpl, hpr, rfl, hP5, hf5⟩
    have z5 := hf5.size; simp only [World.size_alloc] at z5
    have B3 := (B3.alloc _).fr hf5
    have B4 := (B4.alloc _).fr hf5
    have B7 : Box w5 w4.heap.size #[.int .i64 g0.f0, .slice a4 g0.f1.length k4] 32 := (Box.new _ _ _).fr hf5
    have HP := Lib.hid hP5.rd
    have HPR := Lib.hid hpr
    clear hP5 hpr
    have hf25 : Fr w2 w5 := by repeat (first | (with_reducible exact Fr.refl _) | (with_reducible assumption) | (with_reducible refine Fr.drewN ?_ _) | (with_reducible refine Fr.drew ?_) | (with_reducible refine Fr.alloc ?_ _) | (with_reducible refine Fr.setCell ?_ (by (first | (with_reducible assumption) | omega | (simp only [World.size_alloc, World.size_setCell, World.size_drew, World.heap_drewN]; omega) | (simp; done) | (simp; omega))) _) | (with_reducible refine Fr.trans ?_ (by with_reducible assumption)))
    have hf15 : Fr w1 w5 := (Fr.trans (((Fr.refl w1).alloc _)) hf2).trans hf25
    have hf35 : Fr w3 w5 := ((hf4.alloc _).trans hf5)
    have hf45 : Fr w4 w5 := (((Fr.refl w4).alloc _).trans hf5)
    have HF := Lib.hid (show Fr w1 w5 ∧ Fr w2 w5 ∧ Fr w3 w5 ∧ Fr w4 w5 from ⟨hf15, hf25, hf35, hf45⟩)
    have hf05 : Fr w w5 := hf1.trans hf15
    clear hf15 hf25 hf35 hf45 hf5 hf4 hf3 hf2 hf1
    go_wp2_with fail
    go_loopw [10, 11, 12, 13, 14] (fun i _ _ _ _ wr => ∃ (k : Nat), k ≤ 3 ∧ i = .int .i64 k ∧ Fr w5 wr) (fun i _ _ _ _ _ => 3 - (intOf i).toNat)
    case atStart => exact ⟨0, by omega, rfl, Fr.refl _⟩
    case round =>
      obtain ⟨k, hk, rfl, hfr⟩ := hrel
      have BR := B3.fr hfr
      have BG := B4.fr hfr
      have BB := B7.fr hfr
      have zr := hfr.size
      by_cases hlt : k ≤ 2
      · have HCD := Lib.hid (show cutB xs la k = true ∧ ∀ left : List Int, ∃ L G, cutD xs la k left = ⟨L⟩ ∧ paI L = (G, true) ∧ (G = g0 ∨ G = g) ∧ (k = 2 → G = g) from ⟨(HCUT.out k [] hlt).1, fun left => (HCUT.out k left hlt).2⟩)
        have CL : Hid (∀ w', Fr wr w' → Calls Try.prog 34 #[.slice ap 12 cp] w' fun e w'' => ∃ (ls : List Int) (ao' : Option Addr) (cap' : Nat), ls.length = 6 ∧ e = .returned (.slice ao' 6 cap') ∧ IntsR w'' (.slice ao' 6 cap') ls ∧ Fr w' w'') := Lib.hid fun w' h => lefts_any _ ps w' (HP.out.fr (hfr.trans h)) (by omega) HPR.out
        have CC : Hid (∀ (v3 : Value) (left : List Int) w', Fr wr w' → IntsR w' v3 left → Calls Try.prog 33 #[.agg #[.slice ax xs.length cx], .slice a3 2 k3, .int .i64 k, v3] w' fun e w'' => ∃ L G ao cap, (paI L = (G, true) ∧ (G = g0 ∨ G = g) ∧ (k = 2 → G = g)) ∧ e = .returned (.tuple #[.agg #[.slice ao L.length cap], .bool true]) ∧ FilesW w'' w'.heap.size w''.heap.size (.slice ao L.length cap) L ∧ Fr w' w'') := Lib.hid fun v3 left w' h h3 => by
          obtain ⟨hcb, hcd⟩ := HCD.out
          obtain ⟨L, G, h4, h5⟩ := hcd left
          refine (implCutActs_any xs la k left (by omega) HBA.out _ _ v3 w' ⟨_, rfl, HX.out.fr (HF.out.1.trans (hfr.trans h))⟩ (HA3.out.fr (HF.out.2.2.1.trans (hfr.trans h))) h3).mono fun e w'' h7 => ?_
          obtain ⟨a, c, h8, h9, h10⟩ := h7
          rw [h4, hcb] at h8
          rw [h4] at h9
          obtain ⟨_, _, h11, h12⟩ := h9
          cases h11
          exact ⟨L, G, a, c, h5, h8, h12, h10⟩
        clear HCD
        have FA1 : ∀ w', Sf wr w' → ∀ o, w'.cell? ⟨w1.heap.size, o, none⟩ = (#[.slice ax xs.length cx] : Array Value)[o]? := fun w' h o => (BR.fr h.out).cell o
        go_upto_region 11 with fail
        go_cut [11, 12] from 37 to 86 (fun p12 p13 wx => ∃ L G bk lo hi an cn, p12 = .pointer (some ⟨bk, 0, none⟩) ∧ p13 = .bool true ∧ Hid (paI L = (G, true) ∧ (G = g0 ∨ G = g) ∧ (k = 2 → G = g)) ∧ Box wx bk #[.slice an L.length cn] 46 ∧ Hid (FilesW wx lo hi (.slice an L.length cn) L) ∧ Fr wr wx)
        case first =>
          clear BR B3 BG BB B4 B7
          go_region_held3 (fun w' => Sf wr w') ((refine Sf.mk ?_; repeat (first | (with_reducible exact Fr.refl _) | (with_reducible assumption) | (with_reducible refine Fr.drewN ?_ _) | (with_reducible refine Fr.drew ?_) | (with_reducible refine Fr.alloc ?_ _) | (with_reducible refine Fr.setCell ?_ (by (first | (with_reducible assumption) | omega | (simp only [World.size_alloc, World.size_setCell, World.size_drew, World.heap_drewN]; omega) | (simp; done) | (simp; omega))) _) | (with_reducible refine Fr.trans ?_ (by with_reducible assumption))))) (first | (go_at_call 34; with_reducible refine (CL.out _ (by repeat (first | (with_reducible exact Fr.refl _) | (with_reducible assumption) | (with_reducible refine Fr.drewN ?_ _) | (with_reducible refine Fr.drew ?_) | (with_reducible refine Fr.alloc ?_ _) | (with_reducible refine Fr.setCell ?_ (by (first | (with_reducible assumption) | omega | (simp only [World.size_alloc, World.size_setCell, World.size_drew, World.heap_drewN]; omega) | (simp; done) | (simp; omega))) _) | (with_reducible refine Fr.trans ?_ (by with_reducible assumption))))).mono ?_; rintro e w8 ⟨ll, al, cl, hll, rfl, hl8, hf8⟩; have z8 := hf8.size; (try simp only [World.size_alloc, World.size_setCell, World.size_drew] at z8); (try have kb8 := hf8.blk (wr.heap.size) (by (first | (with_reducible assumption) | omega | (simp only [World.size_alloc, World.size_setCell, World.size_drew, World.heap_drewN]; omega) | (simp; done) | (simp; omega))))) | (go_at_call 33; with_reducible refine (CC.out _ ll _ (by repeat (first | (with_reducible exact Fr.refl _) | (with_reducible assumption) | (with_reducible refine Fr.drewN ?_ _) | (with_reducible refine Fr.drew ?_) | (with_reducible refine Fr.alloc ?_ _) | (with_reducible refine Fr.setCell ?_ (by (first | (with_reducible assumption) | omega | (simp only [World.size_alloc, World.size_setCell, World.size_drew, World.heap_drewN]; omega) | (simp; done) | (simp; omega))) _) | (with_reducible refine Fr.trans ?_ (by with_reducible assumption)))) (hl8.fr (by repeat (first | (with_reducible exact Fr.refl _) | (with_reducible assumption) | (with_reducible refine Fr.drewN ?_ _) | (with_reducible refine Fr.drew ?_) | (with_reducible refine Fr.alloc ?_ _) | (with_reducible refine Fr.setCell ?_ (by (first | (with_reducible assumption) | omega | (simp only [World.size_alloc, World.size_setCell, World.size_drew, World.heap_drewN]; omega) | (simp; done) | (simp; omega))) _) | (with_reducible refine Fr.trans ?_ (by with_reducible assumption)))))).mono ?_; rintro e w9 ⟨L, G, an, cn, hL1, rfl, hl9, hf9⟩; have z9 := hf9.size; (try simp only [World.size_alloc, World.size_setCell, World.size_drew] at z9); (try have kb9 := hf9.blk (wr.heap.size) (by (first | (with_reducible assumption) | omega | (simp only [World.size_alloc, World.size_setCell, World.size_drew, World.heap_drewN]; omega) | (simp; done) | (simp; omega)))); (try have kc9 := hf9.blk (w8.heap.size) (by (first | (with_reducible assumption) | omega | (simp only [World.size_alloc, World.size_setCell, World.size_drew, World.heap_drewN]; omega) | (simp; done) | (simp; omega)))); obtain ⟨lq, hlqa, hlqb, ol⟩ : ∃ l : Nat, _ ≤ l ∧ l ≤ _ ∧ FilesW w9 l _ _ _ := ⟨_, Nat.le_refl _, Nat.le_refl _, hl9⟩; (try simp only [World.size_alloc, World.size_setCell, World.size_drew] at hlqa hlqb)))
          all_goals
            go_wp2_with fail
            go_meet
            case rel =>
              refine ⟨L, G, _, lq, w9.heap.size, an, cn, rfl, rfl, Lib.hid hL1, ?_, Lib.hid ?_, by repeat (first | (with_reducible exact Fr.refl _) | (with_reducible assumption) | (with_reducible refine Fr.drewN ?_ _) | (with_reducible refine Fr.drew ?_) | (with_reducible refine Fr.alloc ?_ _) | (with_reducible refine Fr.setCell ?_ (by (first | (with_reducible assumption) | omega | (simp only [World.size_alloc, World.size_setCell, World.size_drew, World.heap_drewN]; omega) | (simp; done) | (simp; omega))) _) | (with_reducible refine Fr.trans ?_ (by with_reducible assumption)))⟩
              · (repeat (first | (with_reducible exact Box.new _ _ _) | (with_reducible apply Box.drew) | (apply Box.set_to) | (apply Box.new'; (first | with_reducible rfl | (focus (simp; done)))) | (with_reducible refine Box.alloc ?_ _) | (apply Box.fr; (case hf => with_reducible assumption)))); all_goals rfl
              · change OwW _ _ _ _ _ _ _ _; (repeat (first | (with_reducible refine OwW.drewN ?_ _) | (with_reducible refine OwW.drew ?_) | (with_reducible refine OwW.alloc ?_ _) | (with_reducible refine OwW.set ?_ (by (first | (with_reducible assumption) | omega | (simp only [World.size_alloc, World.size_setCell, World.size_drew, World.heap_drewN]; omega) | (simp; done) | (simp; omega))) _) | (exact ol)))
        case rest =>
          obtain ⟨w8, rfl⟩ : ∃ w_ : World, w_ = wc := ⟨_, rfl⟩
          obtain ⟨L, G, bk, lo', hi', an, cn, rfl, rfl, HL, BN, HN, hf8⟩ := hcut
          clear FA1 CC CL
          have FN := BN.facts
          have BG := BG.fr hf8
          have BB := BB.fr hf8
          have CR : Hid (∀ w', Fr w8 w' → Calls Try.prog 55 #[.agg #[.slice an L.length cn]] w' fun e w'' => ∃ ao cap, e = .returned (.tuple #[.agg #[.int .i64 G.f0, .slice ao G.f1.length cap], .bool true]) ∧ EdgesR w'' (.slice ao G.f1.length cap) G.f1 ∧ Fr w' w'') := Lib.hid fun w' h => (implReadPart_any _ L w' ((OwW.rd HN.out).fr h)).mono fun e w'' h => by
            obtain ⟨a, c, h1, ⟨_, _, h4, h5⟩, h3⟩ := h
            rw [HL.out.1] at h1 h4 h5
            cases h4
            exact ⟨a, c, h1, OwW.rd h5, h3⟩
          have hG := HL.out.2.1
          have hG2 := HL.out.2.2
          clear HL
          go_wp2_with fail
          refine (CR.out _ (by repeat (first | (with_reducible exact Fr.refl _) | (with_reducible assumption) | (with_reducible refine Fr.drewN ?_ _) | (with_reducible refine Fr.drew ?_) | (with_reducible refine Fr.alloc ?_ _) | (with_reducible refine Fr.setCell ?_ (by (first | (with_reducible assumption) | omega | (simp only [World.size_alloc, World.size_setCell, World.size_drew, World.heap_drewN]; omega) | (simp; done) | (simp; omega))) _) | (with_reducible refine Fr.trans ?_ (by with_reducible assumption))))).mono ?_
          rintro e w9 ⟨a9, k9, rfl, hG9, hf9⟩
          have z9 := hf9.size
          have HG9 := Lib.hid hG9
          have BG := (BG.fr hf9).alloc (.cells #[.int .i64 G.f0, .slice a9 G.f1.length k9] 32)
          have BB := (BB.fr hf9).alloc (.cells #[.int .i64 G.f0, .slice a9 G.f1.length k9] 32)
          have BNow : Box (w9.alloc (.cells #[.int .i64 G.f0, .slice a9 G.f1.length k9] 32)) w9.heap.size #[.int .i64 G.f0, .slice a9 G.f1.length k9] 32 := Box.new _ _ _
          have CSB : Hid (∀ w', Fr (w9.alloc (.cells #[.int .i64 G.f0, .slice a9 G.f1.length k9] 32)) w' → Calls Try.prog 62 #[.agg #[.int .i64 G.f0, .slice a9 G.f1.length k9], .agg #[.int .i64 g0.f0, .slice a4 g0.f1.length k4]] w' fun e w'' => ∃ r : Bool, e = .returned (.bool r) ∧ (G = g0 → r = true) ∧ Fr w' w'') := Lib.hid fun w' h => (sameGraph_any _ _ _ _ _ _ w' (HG9.out.fr (((Fr.refl _).alloc _).trans h)) (HG4.out.fr (HF.out.2.2.2.trans (hfr.trans (hf8.trans (hf9.trans (((Fr.refl _).alloc _).trans h))))))).mono fun e w'' h => by
            obtain ⟨r, h1, h2, h3⟩ := h
            exact ⟨r, h1, fun hG => h2 (by rw [hG]) (by rw [hG]), h3⟩
          have CSG : Hid (∀ w', Fr (w9.alloc (.cells #[.int .i64 G.f0, .slice a9 G.f1.length k9] 32)) w' → G = g → Calls Try.prog 62 #[.agg #[.int .i64 G.f0, .slice a9 G.f1.length k9], .agg #[.int .i64 g.f0, .slice ag g.f1.length cg]] w' fun e w'' => e = .returned (.bool true) ∧ Fr w' w'') := Lib.hid fun w' h hq => (sameGraph_any _ _ _ _ _ _ w' (HG9.out.fr (((Fr.refl _).alloc _).trans h)) (HG.out.fr (HF.out.2.1.trans (hfr.trans (hf8.trans (hf9.trans (((Fr.refl _).alloc _).trans h))))))).mono fun e w'' h => by
            obtain ⟨r, h1, h2, h3⟩ := h
            rw [h2 (by rw [hq]) (by rw [hq])] at h1
            exact ⟨h1, h3⟩
          have FB := BB.facts
          have FNow := BNow.facts
          have HGG := Lib.hid hG
          have HGG2 := Lib.hid hG2
          clear CR FN hG9 hG hG2
          go_wp2_with fail
          refine (CSB.out _ (by repeat (first | (with_reducible exact Fr.refl _) | (with_reducible assumption) | (with_reducible refine Fr.drewN ?_ _) | (with_reducible refine Fr.drew ?_) | (with_reducible refine Fr.alloc ?_ _) | (with_reducible refine Fr.setCell ?_ (by (first | (with_reducible assumption) | omega | (simp only [World.size_alloc, World.size_setCell, World.size_drew, World.heap_drewN]; omega) | (simp; done) | (simp; omega))) _) | (with_reducible refine Fr.trans ?_ (by with_reducible assumption))))).mono ?_
          rintro e w10 ⟨r, rfl, hr, hf10⟩
          have HR := Lib.hid hr
          have z10 := hf10.size; simp only [World.size_alloc] at z10
          have BG := BG.fr hf10
          have BNow := BNow.fr hf10
          clear hr CSB FB FNow BB
          have FG := BG.facts
          have FNow := BNow.facts
          by_cases hk2 : k = 2
          · have HVE := Lib.hid (HGG2.out hk2)
            subst hk2
            cases r
            · go_wp2_with fail
              refine (CSG.out _ (by repeat (first | (with_reducible exact Fr.refl _) | (with_reducible assumption) | (with_reducible refine Fr.drewN ?_ _) | (with_reducible refine Fr.drew ?_) | (with_reducible refine Fr.alloc ?_ _) | (with_reducible refine Fr.setCell ?_ (by (first | (with_reducible assumption) | omega | (simp only [World.size_alloc, World.size_setCell, World.size_drew, World.heap_drewN]; omega) | (simp; done) | (simp; omega))) _) | (with_reducible refine Fr.trans ?_ (by with_reducible assumption)))) HVE.out).mono ?_
              rintro e w11 ⟨rfl, hf11⟩
              have BG := BG.fr hf11
              have BNow := BNow.fr hf11
              clear FG FNow
              have FG := BG.facts
              have FNow := BNow.facts
              go_wp2_with fail
              refine (CSG.out _ (by repeat (first | (with_reducible exact Fr.refl _) | (with_reducible assumption) | (with_reducible refine Fr.drewN ?_ _) | (with_reducible refine Fr.drew ?_) | (with_reducible refine Fr.alloc ?_ _) | (with_reducible refine Fr.setCell ?_ (by (first | (with_reducible assumption) | omega | (simp only [World.size_alloc, World.size_setCell, World.size_drew, World.heap_drewN]; omega) | (simp; done) | (simp; omega))) _) | (with_reducible refine Fr.trans ?_ (by with_reducible assumption)))) HVE.out).mono ?_
              rintro e w12 ⟨rfl, hf12⟩
              go_wp2_with fail
              go_roundw
              case rel => exact ⟨3, by omega, by go_num, by repeat (first | (with_reducible exact Fr.refl _) | (with_reducible assumption) | (with_reducible refine Fr.drewN ?_ _) | (with_reducible refine Fr.drew ?_) | (with_reducible refine Fr.alloc ?_ _) | (with_reducible refine Fr.setCell ?_ (by (first | (with_reducible assumption) | omega | (simp only [World.size_alloc, World.size_setCell, World.size_drew, World.heap_drewN]; omega) | (simp; done) | (simp; omega))) _) | (with_reducible refine Fr.trans ?_ (by with_reducible assumption)))⟩
              case measure => first | (simp [intOf]; done) | (simp [intOf]; omega)
            · go_wp2_with fail
              refine (CSG.out _ (by repeat (first | (with_reducible exact Fr.refl _) | (with_reducible assumption) | (with_reducible refine Fr.drewN ?_ _) | (with_reducible refine Fr.drew ?_) | (with_reducible refine Fr.alloc ?_ _) | (with_reducible refine Fr.setCell ?_ (by (first | (with_reducible assumption) | omega | (simp only [World.size_alloc, World.size_setCell, World.size_drew, World.heap_drewN]; omega) | (simp; done) | (simp; omega))) _) | (with_reducible refine Fr.trans ?_ (by with_reducible assumption)))) HVE.out).mono ?_
              rintro e w12 ⟨rfl, hf12⟩
              go_wp2_with fail
              go_roundw
              case rel => exact ⟨3, by omega, by go_num, by repeat (first | (with_reducible exact Fr.refl _) | (with_reducible assumption) | (with_reducible refine Fr.drewN ?_ _) | (with_reducible refine Fr.drew ?_) | (with_reducible refine Fr.alloc ?_ _) | (with_reducible refine Fr.setCell ?_ (by (first | (with_reducible assumption) | omega | (simp only [World.size_alloc, World.size_setCell, World.size_drew, World.heap_drewN]; omega) | (simp; done) | (simp; omega))) _) | (with_reducible refine Fr.trans ?_ (by with_reducible assumption)))⟩
              case measure => first | (simp [intOf]; done) | (simp [intOf]; omega)
          · have hk3 : ((k : Int) == 2) = false := by rw [beq_eq_false_iff_ne]; omega
            cases r
            · have hve : G = g := by
                rcases HGG.out with h | h
                · exact absurd (HR.out h) (by decide)
                · exact h
              have HVE := Lib.hid hve
              clear hve
              go_wp2_with fail
              refine (CSG.out _ (by repeat (first | (with_reducible exact Fr.refl _) | (with_reducible assumption) | (with_reducible refine Fr.drewN ?_ _) | (with_reducible refine Fr.drew ?_) | (with_reducible refine Fr.alloc ?_ _) | (with_reducible refine Fr.setCell ?_ (by (first | (with_reducible assumption) | omega | (simp only [World.size_alloc, World.size_setCell, World.size_drew, World.heap_drewN]; omega) | (simp; done) | (simp; omega))) _) | (with_reducible refine Fr.trans ?_ (by with_reducible assumption)))) HVE.out).mono ?_
              rintro e w11 ⟨rfl, hf11⟩
              go_wp2_with fail
              go_roundw
              case rel => exact ⟨k + 1, by omega, by go_num, by repeat (first | (with_reducible exact Fr.refl _) | (with_reducible assumption) | (with_reducible refine Fr.drewN ?_ _) | (with_reducible refine Fr.drew ?_) | (with_reducible refine Fr.alloc ?_ _) | (with_reducible refine Fr.setCell ?_ (by (first | (with_reducible assumption) | omega | (simp only [World.size_alloc, World.size_setCell, World.size_drew, World.heap_drewN]; omega) | (simp; done) | (simp; omega))) _) | (with_reducible refine Fr.trans ?_ (by with_reducible assumption)))⟩
              case measure => first | (simp [intOf]; done) | (simp [intOf]; omega)
            · go_wp2_with fail
              go_roundw
              case rel => exact ⟨k + 1, by omega, by go_num, by repeat (first | (with_reducible exact Fr.refl _) | (with_reducible assumption) | (with_reducible refine Fr.drewN ?_ _) | (with_reducible refine Fr.drew ?_) | (with_reducible refine Fr.alloc ?_ _) | (with_reducible refine Fr.setCell ?_ (by (first | (with_reducible assumption) | omega | (simp only [World.size_alloc, World.size_setCell, World.size_drew, World.heap_drewN]; omega) | (simp; done) | (simp; omega))) _) | (with_reducible refine Fr.trans ?_ (by with_reducible assumption)))⟩
              case measure => first | (simp [intOf]; done) | (simp [intOf]; omega)
      · obtain rfl : k = 3 := by omega
        obtain ⟨fd, hfd⟩ : ∃ fd, (freD g).f0 = fd := ⟨_, rfl⟩
        have hfl : fd.length ≤ 2 := by rw [← hfd]; exact freD_len g
        have hfp : paI fd = (g, true) := by rw [← hfd, (fresh_dk HGB.out).1.pa]; exact paK_snoc [] HGB.out
        have hfe : epI fd = 0 := by rw [← hfd, (fresh_dk HGB.out).1.ep]; rfl
        have HFP := Lib.hid hfp
        have HFE := Lib.hid hfe
        have hgw : GraphRd wr (.agg #[.int .i64 g.f0, .slice ag g.f1.length cg]) g := ⟨_, rfl, HG.out.fr (HF.out.2.1.trans hfr)⟩
        have HGW := Lib.hid hgw
        have CF : Hid (∀ w', Fr wr w' → Calls Try.prog 41 #[.agg #[.int .i64 g.f0, .slice ag g.f1.length cg]] w' fun e w'' => ∃ ao cap, e = .returned (.tuple #[.agg #[.slice ao fd.length cap], .bool true]) ∧ FilesR w'' (.slice ao fd.length cap) fd ∧ Fr w' w'') := Lib.hid fun w' h => (implFreshDisk_any _ g w' (HGW.out.fr h)).mono fun e w'' h => by
          obtain ⟨a, c, h1, ⟨_, _, h4, h5⟩, h3⟩ := h
          rw [HGB.out] at h1
          rw [hfd] at h1 h4 h5
          cases h4
          exact ⟨a, c, h1, OwW.rd h5, h3⟩
        have FG := BG.facts
        clear HCUT B3 B4 B7 hfp hfe hgw hfd
        go_wp2_with fail
        refine (CF.out _ (by repeat (first | (with_reducible exact Fr.refl _) | (with_reducible assumption) | (with_reducible refine Fr.drewN ?_ _) | (with_reducible refine Fr.drew ?_) | (with_reducible refine Fr.alloc ?_ _) | (with_reducible refine Fr.setCell ?_ (by (first | (with_reducible assumption) | omega | (simp only [World.size_alloc, World.size_setCell, World.size_drew, World.heap_drewN]; omega) | (simp; done) | (simp; omega))) _) | (with_reducible refine Fr.trans ?_ (by with_reducible assumption))))).mono ?_
        rintro e w6 ⟨a6, k6, rfl, hF6, hf6⟩
        have z6 := hf6.size
        have HF6 := Lib.hid hF6
        have BG := BG.fr hf6
        have CR : Hid (∀ w', Fr w6 w' → Calls Try.prog 55 #[.agg #[.slice a6 fd.length k6]] w' fun e w'' => ∃ ao cap, e = .returned (.tuple #[.agg #[.int .i64 g.f0, .slice ao g.f1.length cap], .bool true]) ∧ EdgesR w'' (.slice ao g.f1.length cap) g.f1 ∧ Fr w' w'') := Lib.hid fun w' h => (implReadPart_any _ fd w' (HF6.out.fr h)).mono fun e w'' h => by
          obtain ⟨a, c, h1, ⟨_, _, h4, h5⟩, h3⟩ := h
          rw [HFP.out] at h1 h4 h5
          cases h4
          exact ⟨a, c, h1, OwW.rd h5, h3⟩
        clear hF6 CF FG
        go_wp2_with fail
        refine (CR.out _ (by repeat (first | (with_reducible exact Fr.refl _) | (with_reducible assumption) | (with_reducible refine Fr.drewN ?_ _) | (with_reducible refine Fr.drew ?_) | (with_reducible refine Fr.alloc ?_ _) | (with_reducible refine Fr.setCell ?_ (by (first | (with_reducible assumption) | omega | (simp only [World.size_alloc, World.size_setCell, World.size_drew, World.heap_drewN]; omega) | (simp; done) | (simp; omega))) _) | (with_reducible refine Fr.trans ?_ (by with_reducible assumption))))).mono ?_
        rintro e w7 ⟨a7, k7, rfl, hG7, hf7⟩
        have z7 := hf7.size; simp only [World.size_alloc] at z7
        have HG7 := Lib.hid hG7
        have BX : Box w7 w6.heap.size #[.slice a6 fd.length k6] 46 := (Box.new _ _ _).fr hf7
        have BG := ((BG.alloc _).fr hf7).alloc (.cells #[.int .i64 g.f0, .slice a7 g.f1.length k7] 32)
        have BX := BX.alloc (.cells #[.int .i64 g.f0, .slice a7 g.f1.length k7] 32)
        have BY : Box (w7.alloc (.cells #[.int .i64 g.f0, .slice a7 g.f1.length k7] 32)) w7.heap.size #[.int .i64 g.f0, .slice a7 g.f1.length k7] 32 := Box.new _ _ _
        have CSG : Hid (∀ w', Fr (w7.alloc (.cells #[.int .i64 g.f0, .slice a7 g.f1.length k7] 32)) w' → Calls Try.prog 62 #[.agg #[.int .i64 g.f0, .slice a7 g.f1.length k7], .agg #[.int .i64 g.f0, .slice ag g.f1.length cg]] w' fun e w'' => e = .returned (.bool true) ∧ Fr w' w'') := Lib.hid fun w' h => (sameGraph_any _ _ _ _ _ _ w' (HG7.out.fr (((Fr.refl _).alloc _).trans h)) (HG.out.fr (HF.out.2.1.trans (hfr.trans (hf6.trans ((((Fr.refl _).alloc _).trans hf7).trans (((Fr.refl _).alloc _).trans h))))))).mono fun e w'' h => by
          obtain ⟨r, h1, h2, h3⟩ := h
          rw [h2 rfl rfl] at h1
          exact ⟨h1, h3⟩
        have CE : Hid (∀ w', Fr w6 w' → Calls Try.prog 35 #[.agg #[.slice a6 fd.length k6]] w' fun e w'' => e = .returned (.int .i64 0) ∧ Fr w' w'') := Lib.hid fun w' h => by rw [← HFE.out]; exact implReadEpoch_any _ fd w' (HF6.out.fr h)
        have FG := BG.facts
        have FX := BX.facts
        have FY := BY.facts
        clear hG7 CR
        go_wp2_with fail
        refine (CSG.out _ (by repeat (first | (with_reducible exact Fr.refl _) | (with_reducible assumption) | (with_reducible refine Fr.drewN ?_ _) | (with_reducible refine Fr.drew ?_) | (with_reducible refine Fr.alloc ?_ _) | (with_reducible refine Fr.setCell ?_ (by (first | (with_reducible assumption) | omega | (simp only [World.size_alloc, World.size_setCell, World.size_drew, World.heap_drewN]; omega) | (simp; done) | (simp; omega))) _) | (with_reducible refine Fr.trans ?_ (by with_reducible assumption))))).mono ?_
        rintro e w8 ⟨rfl, hf8⟩
        have BX := BX.fr hf8
        clear FX FG FY
        have FX := BX.facts
        go_wp2_with fail
        refine (CE.out _ (by repeat (first | (with_reducible exact Fr.refl _) | (with_reducible assumption) | (with_reducible refine Fr.drewN ?_ _) | (with_reducible refine Fr.drew ?_) | (with_reducible refine Fr.alloc ?_ _) | (with_reducible refine Fr.setCell ?_ (by (first | (with_reducible assumption) | omega | (simp only [World.size_alloc, World.size_setCell, World.size_drew, World.heap_drewN]; omega) | (simp; done) | (simp; omega))) _) | (with_reducible refine Fr.trans ?_ (by with_reducible assumption))))).mono ?_
        rintro e w9 ⟨rfl, hf9⟩
        go_wp2_with fail
        go_ret
        exact ⟨rfl, by repeat (first | (with_reducible exact Fr.refl _) | (with_reducible assumption) | (with_reducible refine Fr.drewN ?_ _) | (with_reducible refine Fr.drew ?_) | (with_reducible refine Fr.alloc ?_ _) | (with_reducible refine Fr.setCell ?_ (by (first | (with_reducible assumption) | omega | (simp only [World.size_alloc, World.size_setCell, World.size_drew, World.heap_drewN]; omega) | (simp; done) | (simp; omega))) _) | (with_reducible refine Fr.trans ?_ (by with_reducible assumption)))⟩
  · go_enter Try.func8, Try.ntmps8
    go_wp2_with (go_at_call 11; refine (big_any _ _ _ _ hn).mono ?_; rintro e w0 ⟨rfl, rfl⟩)
    go_ret
    exact ⟨rfl, by repeat (first | (with_reducible exact Fr.refl _) | (with_reducible assumption) | (with_reducible refine Fr.drewN ?_ _) | (with_reducible refine Fr.drew ?_) | (with_reducible refine Fr.alloc ?_ _) | (with_reducible refine Fr.setCell ?_ (by (first | (with_reducible assumption) | omega | (simp only [World.size_alloc, World.size_setCell, World.size_drew, World.heap_drewN]; omega) | (simp; done) | (simp; omega))) _) | (with_reducible refine Fr.trans ?_ (by with_reducible assumption)))⟩
end Go.Proofs.Ytjgghiniajmfjaa
