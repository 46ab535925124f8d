/- laws.FnExactPairRight: its walk, out of the contracts of the two functions. No condition but the sizes that the reading gives. (Printed by mk_pure.py.) -/
import Derived.Test.YtfokiabkebpblaaPair2
import Derived.Deep.RegionHeld3
import Derived.Deep.Cut
namespace Go.Proofs.Ytfokiabkebpblaa
open Go.RowKit
set_option linter.unusedVariables false
set_option linter.unusedSimpArgs false
set_option maxHeartbeats 4000000 in
set_option maxRecDepth 100000 in
theorem fnPairRight_of (v0 : Value) (d0 : PairD) (hs0 : d0.okSize) (w : World) (hv0 : PairRd w v0 d0) (r0 : Bool)
    (hspec : d0.bulk ≤ 1048576 → ∀ (v0 : Value) (w : World), PairRd w v0 d0 → Calls Try.prog 56 #[v0] w fun e w' => e = .returned (.bool r0) ∧ Fr w w')
    (himpl : d0.bulk ≤ 1048576 → ∀ (v0 : Value) (w : World), PairRd w v0 d0 → Calls Try.prog 57 #[v0] w fun e w' => e = .returned (.bool r0) ∧ Fr w w') :
    Calls Try.prog 9 #[v0] w fun e w' => e = .returned (.bool true) ∧ Fr w w' := by
  have HV0 := Lib.hid hv0
  obtain ⟨u0, u1, u2, u3, rfl, hu0⟩ := hv0
  clear hu0
  have hv0 : ∀ w', Fr w w' → PairRd w' (.agg #[u0, u1, u2, u3]) d0 := fun w' h => HV0.out.fr h
  have HV := Lib.hid hv0
  clear hv0 HV0
  by_cases hl0 : ((d0.bulk : Nat) : Int) ≤ 1048576
  · obtain ⟨q0, hq0⟩ : ∃ q : Int, szR 1048576 (d0.bulk) = q := ⟨_, rfl⟩
    have hqa0 : q0 = 1048576 - ((d0.bulk : Nat) : Int) := by rw [← hq0, szR_ok hl0]
    have HQ0 := Lib.hid hq0
    have hqb0 : 0 ≤ q0 := by omega
    have hqc0 : q0 ≤ 1048576 := by omega
    clear hq0 hqa0
    have hn0 : d0.bulk ≤ 1048576 := by omega
    have HS := Lib.hid (hspec hn0)
    have HI := Lib.hid (himpl hn0)
    clear hspec himpl
    go_enter Try.func9, Try.ntmps9
    go_wp2_with fail
    refine (szPair_w _ d0 _ _ (HV.out _ (by repeat (first | (with_reducible exact Fr.refl _) | (with_reducible assumption) | (with_reducible refine Fr.drewN ?_ _) | (with_reducible refine Fr.drew ?_) | (with_reducible refine Fr.alloc ?_ _) | (with_reducible refine Fr.setCell ?_ (by (first | (with_reducible assumption) | omega | (simp only [World.size_alloc, World.size_setCell, World.size_drew, World.heap_drewN]; omega) | (simp; done) | (simp; omega))) _) | (with_reducible refine Fr.trans ?_ (by with_reducible assumption))))) hs0 (by omega) (by omega)).mono ?_
    rintro e w1 ⟨rfl, hf1⟩
    have zhf1 := hf1.size; (try simp only [World.size_alloc, World.size_setCell, World.size_drew] at zhf1)
    have BA0 : Box w1 (w.heap.size) #[u0, u1, u2, u3] 79 := (Box.new' (w := w) (X := #[u0, u1, u2, u3]) (T := 79) (by simp)).fr (by repeat (first | (with_reducible exact Fr.refl _) | (with_reducible assumption) | (with_reducible refine Fr.drewN ?_ _) | (with_reducible refine Fr.drew ?_) | (with_reducible refine Fr.alloc ?_ _) | (with_reducible refine Fr.setCell ?_ (by (first | (with_reducible assumption) | omega | (simp only [World.size_alloc, World.size_setCell, World.size_drew, World.heap_drewN]; omega) | (simp; done) | (simp; omega))) _) | (with_reducible refine Fr.trans ?_ (by with_reducible assumption))))
    have FA0 := BA0.facts
    rw [HQ0.out]
    go_wp2_with fail
    refine (toPair_rd _ d0 _ (HV.out _ (by repeat (first | (with_reducible exact Fr.refl _) | (with_reducible assumption) | (with_reducible refine Fr.drewN ?_ _) | (with_reducible refine Fr.drew ?_) | (with_reducible refine Fr.alloc ?_ _) | (with_reducible refine Fr.setCell ?_ (by (first | (with_reducible assumption) | omega | (simp only [World.size_alloc, World.size_setCell, World.size_drew, World.heap_drewN]; omega) | (simp; done) | (simp; omega))) _) | (with_reducible refine Fr.trans ?_ (by with_reducible assumption))))) hn0).mono ?_
    rintro e w2 ⟨a0p2, c0p2, a1p2, c1p2, a2p2, c2p2, a3p2, c3p2, rfl, ht2, hf2⟩
    have HT2 := Lib.hid ht2
    clear ht2
    have zhf2 := hf2.size; (try simp only [World.size_alloc, World.size_setCell, World.size_drew] at zhf2)
    have BA0 := BA0.fr (show Fr w1 w2 by repeat (first | (with_reducible exact Fr.refl _) | (with_reducible assumption) | (with_reducible refine Fr.drewN ?_ _) | (with_reducible refine Fr.drew ?_) | (with_reducible refine Fr.alloc ?_ _) | (with_reducible refine Fr.setCell ?_ (by (first | (with_reducible assumption) | omega | (simp only [World.size_alloc, World.size_setCell, World.size_drew, World.heap_drewN]; omega) | (simp; done) | (simp; omega))) _) | (with_reducible refine Fr.trans ?_ (by with_reducible assumption))))
    clear FA0
    have FA0 := BA0.facts
    go_wp2_with fail
    refine (HS.out _ _ (HT2.out.fr (by repeat (first | (with_reducible exact Fr.refl _) | (with_reducible assumption) | (with_reducible refine Fr.drewN ?_ _) | (with_reducible refine Fr.drew ?_) | (with_reducible refine Fr.alloc ?_ _) | (with_reducible refine Fr.setCell ?_ (by (first | (with_reducible assumption) | omega | (simp only [World.size_alloc, World.size_setCell, World.size_drew, World.heap_drewN]; omega) | (simp; done) | (simp; omega))) _) | (with_reducible refine Fr.trans ?_ (by with_reducible assumption)))))).mono ?_
    rintro e w3 ⟨rfl, hf3⟩
    have zhf3 := hf3.size; (try simp only [World.size_alloc, World.size_setCell, World.size_drew] at zhf3)
    have BA0 := BA0.fr (show Fr w2 w3 by repeat (first | (with_reducible exact Fr.refl _) | (with_reducible assumption) | (with_reducible refine Fr.drewN ?_ _) | (with_reducible refine Fr.drew ?_) | (with_reducible refine Fr.alloc ?_ _) | (with_reducible refine Fr.setCell ?_ (by (first | (with_reducible assumption) | omega | (simp only [World.size_alloc, World.size_setCell, World.size_drew, World.heap_drewN]; omega) | (simp; done) | (simp; omega))) _) | (with_reducible refine Fr.trans ?_ (by with_reducible assumption))))
    clear FA0
    have FA0 := BA0.facts
    go_wp2_with fail
    refine (toPair_rd _ d0 _ (HV.out _ (by repeat (first | (with_reducible exact Fr.refl _) | (with_reducible assumption) | (with_reducible refine Fr.drewN ?_ _) | (with_reducible refine Fr.drew ?_) | (with_reducible refine Fr.alloc ?_ _) | (with_reducible refine Fr.setCell ?_ (by (first | (with_reducible assumption) | omega | (simp only [World.size_alloc, World.size_setCell, World.size_drew, World.heap_drewN]; omega) | (simp; done) | (simp; omega))) _) | (with_reducible refine Fr.trans ?_ (by with_reducible assumption))))) hn0).mono ?_
    rintro e w4 ⟨a0p4, c0p4, a1p4, c1p4, a2p4, c2p4, a3p4, c3p4, rfl, ht4, hf4⟩
    have HT4 := Lib.hid ht4
    clear ht4
    have zhf4 := hf4.size; (try simp only [World.size_alloc, World.size_setCell, World.size_drew] at zhf4)
    have BA0 := BA0.fr (show Fr w3 w4 by repeat (first | (with_reducible exact Fr.refl _) | (with_reducible assumption) | (with_reducible refine Fr.drewN ?_ _) | (with_reducible refine Fr.drew ?_) | (with_reducible refine Fr.alloc ?_ _) | (with_reducible refine Fr.setCell ?_ (by (first | (with_reducible assumption) | omega | (simp only [World.size_alloc, World.size_setCell, World.size_drew, World.heap_drewN]; omega) | (simp; done) | (simp; omega))) _) | (with_reducible refine Fr.trans ?_ (by with_reducible assumption))))
    clear FA0
    have FA0 := BA0.facts
    go_wp2_with fail
    refine (HI.out _ _ (HT4.out.fr (by repeat (first | (with_reducible exact Fr.refl _) | (with_reducible assumption) | (with_reducible refine Fr.drewN ?_ _) | (with_reducible refine Fr.drew ?_) | (with_reducible refine Fr.alloc ?_ _) | (with_reducible refine Fr.setCell ?_ (by (first | (with_reducible assumption) | omega | (simp only [World.size_alloc, World.size_setCell, World.size_drew, World.heap_drewN]; omega) | (simp; done) | (simp; omega))) _) | (with_reducible refine Fr.trans ?_ (by with_reducible assumption)))))).mono ?_
    rintro e w5 ⟨rfl, hf5⟩
    have zhf5 := hf5.size; (try simp only [World.size_alloc, World.size_setCell, World.size_drew] at zhf5)
    have BA0 := BA0.fr (show Fr w4 w5 by repeat (first | (with_reducible exact Fr.refl _) | (with_reducible assumption) | (with_reducible refine Fr.drewN ?_ _) | (with_reducible refine Fr.drew ?_) | (with_reducible refine Fr.alloc ?_ _) | (with_reducible refine Fr.setCell ?_ (by (first | (with_reducible assumption) | omega | (simp only [World.size_alloc, World.size_setCell, World.size_drew, World.heap_drewN]; omega) | (simp; done) | (simp; omega))) _) | (with_reducible refine Fr.trans ?_ (by with_reducible assumption))))
    have Bx0 : Box w5 (w4.heap.size) #[.slice a0p4 d0.f0.length c0p4, .slice a1p4 d0.f1.length c1p4, .slice a2p4 d0.f2.length c2p4, .slice a3p4 d0.f3.length c3p4] 84 := (Box.new' (w := w4) (X := #[.slice a0p4 d0.f0.length c0p4, .slice a1p4 d0.f1.length c1p4, .slice a2p4 d0.f2.length c2p4, .slice a3p4 d0.f3.length c3p4]) (T := 84) (by simp)).fr (by repeat (first | (with_reducible exact Fr.refl _) | (with_reducible assumption) | (with_reducible refine Fr.drewN ?_ _) | (with_reducible refine Fr.drew ?_) | (with_reducible refine Fr.alloc ?_ _) | (with_reducible refine Fr.setCell ?_ (by (first | (with_reducible assumption) | omega | (simp only [World.size_alloc, World.size_setCell, World.size_drew, World.heap_drewN]; omega) | (simp; done) | (simp; omega))) _) | (with_reducible refine Fr.trans ?_ (by with_reducible assumption))))
    clear FA0
    have FA0 := BA0.facts
    have Fx0 := Bx0.facts
    have RA0 : ∀ w', Sf w5 w' → ∀ o, w'.cell? ⟨w.heap.size, o, none⟩ = _ := fun w' h o => (BA0.fr h.out).cell o
    have Rx0 : ∀ w', Sf w5 w' → ∀ o, w'.cell? ⟨w4.heap.size, o, none⟩ = _ := fun w' h o => (Bx0.fr h.out).cell o
    go_wp2_with fail
    go_region_held3 (fun w' => Sf w5 w') ((refine Sf.mk ?_; repeat (first | (with_reducible exact Fr.refl _) | (with_reducible assumption) | (with_reducible refine Fr.drewN ?_ _) | (with_reducible refine Fr.drew ?_) | (with_reducible refine Fr.alloc ?_ _) | (with_reducible refine Fr.setCell ?_ (by (first | (with_reducible assumption) | omega | (simp only [World.size_alloc, World.size_setCell, World.size_drew, World.heap_drewN]; omega) | (simp; done) | (simp; omega))) _) | (with_reducible refine Fr.trans ?_ (by with_reducible assumption))))) (first | (go_at_call 53; refine (toPair_rd _ d0 _ (HV.out _ (by repeat (first | (with_reducible exact Fr.refl _) | (with_reducible assumption) | (with_reducible refine Fr.drewN ?_ _) | (with_reducible refine Fr.drew ?_) | (with_reducible refine Fr.alloc ?_ _) | (with_reducible refine Fr.setCell ?_ (by (first | (with_reducible assumption) | omega | (simp only [World.size_alloc, World.size_setCell, World.size_drew, World.heap_drewN]; omega) | (simp; done) | (simp; omega))) _) | (with_reducible refine Fr.trans ?_ (by with_reducible assumption))))) hn0).mono ?_; rintro e w6 ⟨a0p6, c0p6, a1p6, c1p6, a2p6, c2p6, a3p6, c3p6, rfl, ht6, hf6⟩; have HT6 := Lib.hid ht6; clear ht6) | (go_at_call 55; refine (eqPair_same _ _ d0 _ (HT4.out.fr (by repeat (first | (with_reducible exact Fr.refl _) | (with_reducible assumption) | (with_reducible refine Fr.drewN ?_ _) | (with_reducible refine Fr.drew ?_) | (with_reducible refine Fr.alloc ?_ _) | (with_reducible refine Fr.setCell ?_ (by (first | (with_reducible assumption) | omega | (simp only [World.size_alloc, World.size_setCell, World.size_drew, World.heap_drewN]; omega) | (simp; done) | (simp; omega))) _) | (with_reducible refine Fr.trans ?_ (by with_reducible assumption))))) (HT6.out.fr (by repeat (first | (with_reducible exact Fr.refl _) | (with_reducible assumption) | (with_reducible refine Fr.drewN ?_ _) | (with_reducible refine Fr.drew ?_) | (with_reducible refine Fr.alloc ?_ _) | (with_reducible refine Fr.setCell ?_ (by (first | (with_reducible assumption) | omega | (simp only [World.size_alloc, World.size_setCell, World.size_drew, World.heap_drewN]; omega) | (simp; done) | (simp; omega))) _) | (with_reducible refine Fr.trans ?_ (by with_reducible assumption)))))).mono ?_; rintro e w7 ⟨rfl, hf7⟩))
    clear RA0
    clear Rx0
    have zhf6 := hf6.size; (try simp only [World.size_alloc, World.size_setCell, World.size_drew] at zhf6)
    have zhf7 := hf7.size; (try simp only [World.size_alloc, World.size_setCell, World.size_drew] at zhf7)
    have BA0 := BA0.fr (show Fr w5 w7 by repeat (first | (with_reducible exact Fr.refl _) | (with_reducible assumption) | (with_reducible refine Fr.drewN ?_ _) | (with_reducible refine Fr.drew ?_) | (with_reducible refine Fr.alloc ?_ _) | (with_reducible refine Fr.setCell ?_ (by (first | (with_reducible assumption) | omega | (simp only [World.size_alloc, World.size_setCell, World.size_drew, World.heap_drewN]; omega) | (simp; done) | (simp; omega))) _) | (with_reducible refine Fr.trans ?_ (by with_reducible assumption))))
    have Bx0 := Bx0.fr (show Fr w5 w7 by repeat (first | (with_reducible exact Fr.refl _) | (with_reducible assumption) | (with_reducible refine Fr.drewN ?_ _) | (with_reducible refine Fr.drew ?_) | (with_reducible refine Fr.alloc ?_ _) | (with_reducible refine Fr.setCell ?_ (by (first | (with_reducible assumption) | omega | (simp only [World.size_alloc, World.size_setCell, World.size_drew, World.heap_drewN]; omega) | (simp; done) | (simp; omega))) _) | (with_reducible refine Fr.trans ?_ (by with_reducible assumption))))
    clear FA0 Fx0
    have FA0 := BA0.facts
    have Fx0 := Bx0.facts
    go_wp2_with fail
    go_ret
    exact ⟨rfl, by repeat (first | (with_reducible exact Fr.refl _) | (with_reducible assumption) | (with_reducible refine Fr.drewN ?_ _) | (with_reducible refine Fr.drew ?_) | (with_reducible refine Fr.alloc ?_ _) | (with_reducible refine Fr.setCell ?_ (by (first | (with_reducible assumption) | omega | (simp only [World.size_alloc, World.size_setCell, World.size_drew, World.heap_drewN]; omega) | (simp; done) | (simp; omega))) _) | (with_reducible refine Fr.trans ?_ (by with_reducible assumption)))⟩
  · have hr : szR 1048576 (d0.bulk) = -1 := szR_no hl0
    have HR := Lib.hid hr
    clear hr hspec himpl
    go_enter Try.func9, Try.ntmps9
    go_wp2_with fail
    refine (szPair_w _ d0 _ _ (HV.out _ (by repeat (first | (with_reducible exact Fr.refl _) | (with_reducible assumption) | (with_reducible refine Fr.drewN ?_ _) | (with_reducible refine Fr.drew ?_) | (with_reducible refine Fr.alloc ?_ _) | (with_reducible refine Fr.setCell ?_ (by (first | (with_reducible assumption) | omega | (simp only [World.size_alloc, World.size_setCell, World.size_drew, World.heap_drewN]; omega) | (simp; done) | (simp; omega))) _) | (with_reducible refine Fr.trans ?_ (by with_reducible assumption))))) hs0 (by omega) (by omega)).mono ?_
    rintro e w1 ⟨rfl, hf1⟩
    have zhf1 := hf1.size; (try simp only [World.size_alloc, World.size_setCell, World.size_drew] at zhf1)
    have BA0 : Box w1 (w.heap.size) #[u0, u1, u2, u3] 79 := (Box.new' (w := w) (X := #[u0, u1, u2, u3]) (T := 79) (by simp)).fr (by repeat (first | (with_reducible exact Fr.refl _) | (with_reducible assumption) | (with_reducible refine Fr.drewN ?_ _) | (with_reducible refine Fr.drew ?_) | (with_reducible refine Fr.alloc ?_ _) | (with_reducible refine Fr.setCell ?_ (by (first | (with_reducible assumption) | omega | (simp only [World.size_alloc, World.size_setCell, World.size_drew, World.heap_drewN]; omega) | (simp; done) | (simp; omega))) _) | (with_reducible refine Fr.trans ?_ (by with_reducible assumption))))
    have FA0 := BA0.facts
    rw [HR.out]
    go_wp2_with fail
    go_ret
    exact ⟨rfl, by repeat (first | (with_reducible exact Fr.refl _) | (with_reducible assumption) | (with_reducible refine Fr.drewN ?_ _) | (with_reducible refine Fr.drew ?_) | (with_reducible refine Fr.alloc ?_ _) | (with_reducible refine Fr.setCell ?_ (by (first | (with_reducible assumption) | omega | (simp only [World.size_alloc, World.size_setCell, World.size_drew, World.heap_drewN]; omega) | (simp; done) | (simp; omega))) _) | (with_reducible refine Fr.trans ?_ (by with_reducible assumption)))⟩
end Go.Proofs.Ytfokiabkebpblaa
