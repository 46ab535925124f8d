/- laws.FnExactPairsIn: its walk, out of the contracts of the two functions. No condition but the sizes that the reading gives. (Printed by mk_law.py.) -/
import Derived.Test.YtmdgdnkllclpcaaGreatPii
import Derived.Test.YtmdgdnkllclpcaaGreatNIntSV
import Derived.Test.YtmdgdnkllclpcaaGreatGSum
import Derived.Test.YtmdgdnkllclpcaaGreatGOParcel
import Derived.Test.YtmdgdnkllclpcaaGreatNIntSS
import Derived.Deep.RegionHeld3
import Derived.Deep.Cut
namespace Go.Proofs.YtmdgdnkllclpcaaGreat
open Go.RowKit
set_option linter.unusedVariables false
set_option linter.unusedSimpArgs false
set_option maxHeartbeats 4000000 in
set_option maxRecDepth 100000 in
theorem fnPairsIn_of (v0 : Value) (d0 : QueryD) (hs0 : d0.okSize) (v1 : Value) (d1 : List WalkR) (a2 : Int) (w : World) (hv0 : QueryRd w v0 d0) (hv1 : WalksR w v1 d1) (r0 : List (List Int)) (hr0 : d0.bulk ≤ 1048576 → d1.length ≤ 1048576 → IntSSCnt r0 ≤ 100000000)
    (hspec : d0.bulk ≤ 1048576 → d1.length ≤ 1048576 → ∀ (v0 : Value) (v1 : Value) (w : World), QueryRd w v0 d0 → WalksR w v1 d1 → Calls Tryz.prog 13 #[v0, v1, .int .i64 a2] w fun e w' => ∃ ao0 cap0, e = .returned (.slice ao0 r0.length cap0) ∧ IntSSV w' w.heap.size w'.heap.size (.slice ao0 r0.length cap0) r0 ∧ Fr w w')
    (himpl : d0.bulk ≤ 1048576 → d1.length ≤ 1048576 → ∀ (v0 : Value) (v1 : Value) (w : World), QueryRd w v0 d0 → WalksR w v1 d1 → Calls Tryz.prog 16 #[v0, v1, .int .i64 a2] w fun e w' => ∃ ao0 cap0, e = .returned (.slice ao0 r0.length cap0) ∧ IntSSV w' w.heap.size w'.heap.size (.slice ao0 r0.length cap0) r0 ∧ Fr w w') :
    Calls Tryz.prog 3 #[v0, v1, .int .i64 a2] w fun e w' => e = .returned (.bool true) ∧ Fr w w' := by
  obtain ⟨u0_1, u0_2, u0_3, rfl, hu0⟩ := hv0
  have hv0 : QueryRd w _ d0 := ⟨_, _, _, rfl, hu0⟩
  have hle1 := RdS.le hv1
  obtain ⟨aq1, cq1, rfl, _⟩ := RdS.val hv1
  by_cases hl0 : ((d0.bulk : Nat) : Int) ≤ 1048576
  · skip
    obtain ⟨q0, hq0⟩ : ∃ q : Int, szR 1048576 (d0.bulk) = q := ⟨_, rfl⟩
    have hqa0 : q0 = 1048576 - ((d0.bulk : Nat) : Int) := by rw [← hq0, szR_ok hl0]
    have HQ0 := Lib.hid hq0
    have hqb0 : 0 ≤ q0 := by omega
    have hqc0 : q0 ≤ 1048576 := by omega
    clear hq0 hqa0
    by_cases hl1 : ((d1.length : Nat) : Int) ≤ q0
    · skip
      obtain ⟨q1, hq1⟩ : ∃ q : Int, szR q0 (d1.length) = q := ⟨_, rfl⟩
      have hqa1 : q1 = q0 - ((d1.length : Nat) : Int) := by rw [← hq1, szR_ok hl1]
      have HQ1 := Lib.hid hq1
      have hqb1 : 0 ≤ q1 := by omega
      have hqc1 : q1 ≤ 1048576 := by omega
      clear hq1 hqa1
      have hn0 : d0.bulk ≤ 1048576 := by have := hl0; omega
      have hn1 : d1.length ≤ 1048576 := by have := hl1; omega
      have hc0 : d0.cnt ≤ 100000000 := by have := QueryD.cnt_le d0; omega
      have hc1 : 4 * d1.length ≤ 100000000 := by omega
      replace hr0 := hr0 hn0 hn1
      have HS := Lib.hid (hspec hn0 hn1)
      have HI := Lib.hid (himpl hn0 hn1)
      clear hspec himpl
      go_enter Tryz.func3, Tryz.ntmps3
      go_wp2_with fail
      refine (szQuery_w _ d0 _ _ (hv0.fr (by exact Qf)) hs0 (by omega) (by omega)).mono ?_
      rintro e w1 ⟨rfl, hf1⟩
      have zhf1 := hf1.size; (try simp only [World.size_alloc, World.size_setCell, World.size_drew] at zhf1)
      have BA0 : Box w1 (w.heap.size) #[.bool d0.f0, u0_1, u0_2, u0_3] 26 := (Box.new' (w := w) (X := #[.bool d0.f0, u0_1, u0_2, u0_3]) (T := 26) (by simp)).fr (by exact Qf)
      have FA0 := BA0.facts
      rw [HQ0.out]
      go_wp2_with fail
      refine (szWalkS_any _ d1 _ _ (hv1.fr (by exact Qf)) (by omega) (by omega)).mono ?_
      rintro e _ ⟨rfl, rfl⟩
      rw [HQ1.out]
      go_wp2_with fail
      refine (toQuery_w _ d0 _ (hv0.fr (by exact Qf)) hn0).mono ?_
      rintro e w2 ⟨aot2_1, capt2_1, aot2_2, capt2_2, aot2_3, capt2_3, rfl, ht2, hf2⟩
      have zhf2 := hf2.size; (try simp only [World.size_alloc, World.size_setCell, World.size_drew] at zhf2)
      have BA0 := BA0.fr (show Fr w1 w2 by exact Qf)
      clear FA0
      have FA0 := BA0.facts
      go_wp2_with fail
      refine (toWalkS_w _ d1 _ (hv1.fr (by exact Qf)) hn1).mono ?_
      rintro e w3 ⟨aot3, capt3, rfl, ht3, hf3⟩
      have zhf3 := hf3.size; (try simp only [World.size_alloc, World.size_setCell, World.size_drew] at zhf3)
      have BA0 := BA0.fr (show Fr w2 w3 by exact Qf)
      clear FA0
      have FA0 := BA0.facts
      go_wp2_with fail
      refine (HS.out _ _ _ (ht2.rd.fr (by exact Qf)) (ht3.rd.fr (by exact Qf))).mono ?_
      rintro e w4 ⟨aow0, capw0, rfl, ow0, hf4⟩
      have zhf4 := hf4.size; (try simp only [World.size_alloc, World.size_setCell, World.size_drew] at zhf4)
      have BA0 := BA0.fr (show Fr w3 w4 by exact Qf)
      clear FA0
      have FA0 := BA0.facts
      go_wp2_with fail
      refine (toQuery_w _ d0 _ (hv0.fr (by exact Qf)) hn0).mono ?_
      rintro e w5 ⟨aot5_1, capt5_1, aot5_2, capt5_2, aot5_3, capt5_3, rfl, ht5, hf5⟩
      have zhf5 := hf5.size; (try simp only [World.size_alloc, World.size_setCell, World.size_drew] at zhf5)
      have BA0 := BA0.fr (show Fr w4 w5 by exact Qf)
      clear FA0
      have FA0 := BA0.facts
      have ox0 := ht5
      go_wp2_with fail
      refine (toWalkS_w _ d1 _ (hv1.fr (by exact Qf)) hn1).mono ?_
      rintro e w6 ⟨aot6, capt6, rfl, ht6, hf6⟩
      have zhf6 := hf6.size; (try simp only [World.size_alloc, World.size_setCell, World.size_drew] at zhf6)
      have BA0 := BA0.fr (show Fr w5 w6 by exact Qf)
      have Bx0 : Box w6 (w5.heap.size) #[.bool d0.f0, .slice aot5_1 d0.f1.length capt5_1, .slice aot5_2 d0.f2.length capt5_2, .slice aot5_3 d0.f3.length capt5_3] 35 := (Box.new' (w := w5) (X := #[.bool d0.f0, .slice aot5_1 d0.f1.length capt5_1, .slice aot5_2 d0.f2.length capt5_2, .slice aot5_3 d0.f3.length capt5_3]) (T := 35) (by simp)).fr (by exact Qf)
      clear FA0
      have FA0 := BA0.facts
      have Fx0 := Bx0.facts
      have ox1 := ht6
      go_wp2_with fail
      refine (HI.out _ _ _ (ox0.rd.fr (by exact Qf)) (ox1.rd.fr (by exact Qf))).mono ?_
      rintro e w7 ⟨aog0, capg0, rfl, og0, hf7⟩
      have zhf7 := hf7.size; (try simp only [World.size_alloc, World.size_setCell, World.size_drew] at zhf7)
      have BA0 := BA0.fr (show Fr w6 w7 by exact Qf)
      have Bx0 := Bx0.fr (show Fr w6 w7 by exact Qf)
      clear FA0 Fx0
      have FA0 := BA0.facts
      have Fx0 := Bx0.facts
      go_wp2_with fail
      refine (eqIntSS_same _ _ r0 _ (og0.rd.fr (by exact Qf)) (ow0.rd.fr (by exact Qf))).mono ?_
      rintro e w8 ⟨rfl, hf8⟩
      have zhf8 := hf8.size; (try simp only [World.size_alloc, World.size_setCell, World.size_drew] at zhf8)
      have BA0 := BA0.fr (show Fr w7 w8 by exact Qf)
      have Bx0 := Bx0.fr (show Fr w7 w8 by exact Qf)
      clear FA0 Fx0
      have FA0 := BA0.facts
      have Fx0 := Bx0.facts
      have RA0 : ∀ w', Sf w8 w' → ∀ o, w'.cell? ⟨w.heap.size, o, none⟩ = _ := fun w' h o => (BA0.fr h.out).cell o
      have Rx0 : ∀ w', Sf w8 w' → ∀ o, w'.cell? ⟨w5.heap.size, o, none⟩ = _ := fun w' h o => (Bx0.fr h.out).cell o
      go_wp2_with fail
      go_region_held3 (fun w' => Sf w8 w') ((refine Sf.mk ?_; repeat (first | (with_reducible exact Fr.refl _) | (with_reducible assumption) | (with_reducible refine Fr.drewN ?_ _) | (with_reducible refine Fr.drew ?_) | (with_reducible refine Fr.alloc ?_ _) | (with_reducible refine Fr.setCell ?_ (by exact Qz) _) | (with_reducible refine Fr.trans ?_ (by with_reducible assumption))))) (first | (go_at_call 14; refine (toQuery_w _ d0 _ (hv0.fr (by exact Qf)) hn0).mono ?_; rintro e w9 ⟨aot9_1, capt9_1, aot9_2, capt9_2, aot9_3, capt9_3, rfl, ht9, hf9⟩) | (go_at_call 18; refine (eqQuery_same _ _ d0 _ (ox0.rd.fr (by exact Qf)) (ht9.rd.fr (by exact Qf))).mono ?_; rintro e w10 ⟨rfl, hf10⟩))
      clear RA0
      clear Rx0
      have zhf9 := hf9.size; (try simp only [World.size_alloc, World.size_setCell, World.size_drew] at zhf9)
      have zhf10 := hf10.size; (try simp only [World.size_alloc, World.size_setCell, World.size_drew] at zhf10)
      have BA0 := BA0.fr (show Fr w8 w10 by exact Qf)
      have Bx0 := Bx0.fr (show Fr w8 w10 by exact Qf)
      clear FA0 Fx0
      have FA0 := BA0.facts
      have Fx0 := Bx0.facts
      go_wp2_with fail
      refine (toWalkS_w _ d1 _ (hv1.fr (by exact Qf)) hn1).mono ?_
      rintro e w11 ⟨aot11, capt11, rfl, ht11, hf11⟩
      have zhf11 := hf11.size; (try simp only [World.size_alloc, World.size_setCell, World.size_drew] at zhf11)
      have BA0 := BA0.fr (show Fr w10 w11 by exact Qf)
      have Bx0 := Bx0.fr (show Fr w10 w11 by exact Qf)
      clear FA0 Fx0
      have FA0 := BA0.facts
      have Fx0 := Bx0.facts
      go_wp2_with fail
      refine (eqWalkS_same _ _ d1 _ (ox1.rd.fr (by exact Qf)) (ht11.rd.fr (by exact Qf))).mono ?_
      rintro e w12 ⟨rfl, hf12⟩
      have zhf12 := hf12.size; (try simp only [World.size_alloc, World.size_setCell, World.size_drew] at zhf12)
      have BA0 := BA0.fr (show Fr w11 w12 by exact Qf)
      have Bx0 := Bx0.fr (show Fr w11 w12 by exact Qf)
      clear FA0 Fx0
      have FA0 := BA0.facts
      have Fx0 := Bx0.facts
      go_wp2_with fail
      refine (markQuery_w _ d0 1 (w4.heap.size) (w5.heap.size) _ (ox0.fr (by exact Qf)) (by exact Qz) (by omega) (by omega)).mono ?_
      rintro e w13 ⟨rfl, omx0, sp13⟩
      have zsp13 := sp13.size; (try simp only [World.size_alloc, World.size_setCell, World.size_drew] at zsp13)
      have ow0_13 := (ow0.fr (show Fr w4 w12 by exact Qf)).span sp13 (by exact Qz)
      have ox1_13 := (ox1.fr (show Fr w6 w12 by exact Qf)).span sp13 (by exact Qz)
      have og0_13 := (og0.fr (show Fr w7 w12 by exact Qf)).span sp13 (by exact Qz)
      have BA0 := (BA0.fr (show Fr w12 w12 by exact Qf)).span sp13 (by exact Qz)
      have Bx0 := (Bx0.fr (show Fr w12 w12 by exact Qf)).span sp13 (by exact Qz)
      have hF13 : Fr w w13 := Span.fr (show Fr w w12 by exact Qf) sp13 (by exact Qz)
      clear FA0 Fx0
      have FA0 := BA0.facts
      have Fx0 := Bx0.facts
      obtain ⟨kx0, hkx0⟩ : ∃ q : Int, 1 + ((d0.cnt : Nat) : Int) = q := ⟨_, rfl⟩
      have hpkx0 : 0 < kx0 := by omega
      have hbkx0 : kx0 ≤ 150000000 := by omega
      have hdkx0 : decide (kx0 < 0) = false := by simp; omega
      rw [hkx0]
      clear hkx0
      go_wp2_with fail
      refine (markWalkS_w _ d1 kx0 ((w5.alloc (.cells #[.bool d0.f0, .slice aot5_1 d0.f1.length capt5_1, .slice aot5_2 d0.f2.length capt5_2, .slice aot5_3 d0.f3.length capt5_3] 35)).heap.size) (w6.heap.size) _ (ox1_13.fr (by exact Qf)) (by omega) (by omega)).mono ?_
      rintro e w14 ⟨rfl, omx1, sp14⟩
      have zsp14 := sp14.size; (try simp only [World.size_alloc, World.size_setCell, World.size_drew] at zsp14)
      have ow0_14 := (ow0_13.fr (show Fr w13 w13 by exact Qf)).span sp14 (by exact Qz)
      have og0_14 := (og0_13.fr (show Fr w13 w13 by exact Qf)).span sp14 (by exact Qz)
      have BA0 := (BA0.fr (show Fr w13 w13 by exact Qf)).span sp14 (by exact Qz)
      have Bx0 := (Bx0.fr (show Fr w13 w13 by exact Qf)).span sp14 (by exact Qz)
      have hF14 : Fr w w14 := Span.fr (show Fr w w13 by exact Qf) sp14 (by exact Qz)
      clear FA0 Fx0
      have FA0 := BA0.facts
      have Fx0 := Bx0.facts
      obtain ⟨kx1, hkx1⟩ : ∃ q : Int, kx0 + 4 * (d1.length : Int) = q := ⟨_, rfl⟩
      have hpkx1 : 0 < kx1 := by omega
      have hbkx1 : kx1 ≤ 300000000 := by omega
      have hdkx1 : decide (kx1 < 0) = false := by simp; omega
      rw [hkx1]
      clear hkx1
      go_wp2_with fail
      refine (eqIntSS_same _ _ r0 _ (og0_14.rd.fr (by exact Qf)) (ow0_14.rd.fr (by exact Qf))).mono ?_
      rintro e w15 ⟨rfl, hf15⟩
      have zhf15 := hf15.size; (try simp only [World.size_alloc, World.size_setCell, World.size_drew] at zhf15)
      have BA0 := BA0.fr (show Fr w14 w15 by exact Qf)
      have Bx0 := Bx0.fr (show Fr w14 w15 by exact Qf)
      clear FA0 Fx0
      have FA0 := BA0.facts
      have Fx0 := Bx0.facts
      go_wp2_with fail
      refine (markIntSS_v _ r0 1 (w6.heap.size) (w7.heap.size) _ (og0_14.fr (by exact Qf)) (by omega) (by omega)).mono ?_
      rintro e w16 ⟨rfl, omg0, sp16⟩
      have zsp16 := sp16.size; (try simp only [World.size_alloc, World.size_setCell, World.size_drew] at zsp16)
      have ow0_16 := (ow0_14.fr (show Fr w14 w15 by exact Qf)).span sp16 (by exact Qz)
      have BA0 := (BA0.fr (show Fr w15 w15 by exact Qf)).span sp16 (by exact Qz)
      have Bx0 := (Bx0.fr (show Fr w15 w15 by exact Qf)).span sp16 (by exact Qz)
      have hF16 : Fr w w16 := Span.fr (show Fr w w15 by exact Qf) sp16 (by exact Qz)
      clear FA0 Fx0
      have FA0 := BA0.facts
      have Fx0 := Bx0.facts
      obtain ⟨mg0, hmg0⟩ : ∃ q : Int, 1 + ((IntSSCnt r0 : Nat) : Int) = q := ⟨_, rfl⟩
      have hpmg0 : 0 < mg0 := by omega
      have hbmg0 : mg0 ≤ 150000000 := by omega
      have hdmg0 : decide (mg0 < 0) = false := by simp; omega
      rw [hmg0]
      have hheldg0 := fun (W : World) (hf : Fr w16 W) => heldIntSS_w (.slice aog0 r0.length capg0) r0 1 W (omg0.rd.fr hf) (by omega) (by omega)
      rw [hmg0] at hheldg0
      have HHg0 := Lib.hid hheldg0
      clear hheldg0
      clear hmg0
      go_wp2_with fail
      refine (HHg0.out _ (by exact Qf)).mono ?_
      rintro e w17 ⟨rfl, hf17⟩
      have zhf17 := hf17.size; (try simp only [World.size_alloc, World.size_setCell, World.size_drew] at zhf17)
      have BA0 := BA0.fr (show Fr w16 w17 by exact Qf)
      have Bx0 := Bx0.fr (show Fr w16 w17 by exact Qf)
      clear FA0 Fx0
      have FA0 := BA0.facts
      have Fx0 := Bx0.facts
      go_wp2_with fail
      refine (toQuery_w _ d0 _ (hv0.fr (by exact Qf)) hn0).mono ?_
      rintro e w18 ⟨aot18_1, capt18_1, aot18_2, capt18_2, aot18_3, capt18_3, rfl, ht18, hf18⟩
      have zhf18 := hf18.size; (try simp only [World.size_alloc, World.size_setCell, World.size_drew] at zhf18)
      have BA0 := BA0.fr (show Fr w17 w18 by exact Qf)
      have Bx0 := Bx0.fr (show Fr w17 w18 by exact Qf)
      clear FA0 Fx0
      have FA0 := BA0.facts
      have Fx0 := Bx0.facts
      go_wp2_with fail
      refine (toWalkS_w _ d1 _ (hv1.fr (by exact Qf)) hn1).mono ?_
      rintro e w19 ⟨aot19, capt19, rfl, ht19, hf19⟩
      have zhf19 := hf19.size; (try simp only [World.size_alloc, World.size_setCell, World.size_drew] at zhf19)
      have BA0 := BA0.fr (show Fr w18 w19 by exact Qf)
      have Bx0 := Bx0.fr (show Fr w18 w19 by exact Qf)
      clear FA0 Fx0
      have FA0 := BA0.facts
      have Fx0 := Bx0.facts
      go_wp2_with fail
      refine (HI.out _ _ _ (ht18.rd.fr (by exact Qf)) (ht19.rd.fr (by exact Qf))).mono ?_
      rintro e w20 ⟨aoh0, caph0, rfl, oh0, hf20⟩
      have zhf20 := hf20.size; (try simp only [World.size_alloc, World.size_setCell, World.size_drew] at zhf20)
      have BA0 := BA0.fr (show Fr w19 w20 by exact Qf)
      have Bx0 := Bx0.fr (show Fr w19 w20 by exact Qf)
      clear FA0 Fx0
      have FA0 := BA0.facts
      have Fx0 := Bx0.facts
      go_wp2_with fail
      refine (eqIntSS_same _ _ r0 _ (oh0.rd.fr (by exact Qf)) (ow0_16.rd.fr (by exact Qf))).mono ?_
      rintro e w21 ⟨rfl, hf21⟩
      have zhf21 := hf21.size; (try simp only [World.size_alloc, World.size_setCell, World.size_drew] at zhf21)
      have BA0 := BA0.fr (show Fr w20 w21 by exact Qf)
      have Bx0 := Bx0.fr (show Fr w20 w21 by exact Qf)
      clear FA0 Fx0
      have FA0 := BA0.facts
      have Fx0 := Bx0.facts
      go_wp2_with fail
      refine (HHg0.out _ (by exact Qf)).mono ?_
      rintro e w22 ⟨rfl, hf22⟩
      have zhf22 := hf22.size; (try simp only [World.size_alloc, World.size_setCell, World.size_drew] at zhf22)
      have BA0 := BA0.fr (show Fr w21 w22 by exact Qf)
      have Bx0 := Bx0.fr (show Fr w21 w22 by exact Qf)
      clear FA0 Fx0
      have FA0 := BA0.facts
      have Fx0 := Bx0.facts
      go_wp2_with fail
      go_ret
      exact ⟨rfl, by exact Qf⟩
    · skip
      have hr : szR q0 (d1.length) = -1 := szR_no hl1
      have HR := Lib.hid hr
      clear hr hspec himpl
      go_enter Tryz.func3, Tryz.ntmps3
      go_wp2_with fail
      refine (szQuery_w _ d0 _ _ (hv0.fr (by exact Qf)) hs0 (by omega) (by omega)).mono ?_
      rintro e w1 ⟨rfl, hf1⟩
      have zhf1 := hf1.size; (try simp only [World.size_alloc, World.size_setCell, World.size_drew] at zhf1)
      have BA0 : Box w1 (w.heap.size) #[.bool d0.f0, u0_1, u0_2, u0_3] 26 := (Box.new' (w := w) (X := #[.bool d0.f0, u0_1, u0_2, u0_3]) (T := 26) (by simp)).fr (by exact Qf)
      have FA0 := BA0.facts
      rw [HQ0.out]
      go_wp2_with fail
      refine (szWalkS_any _ d1 _ _ (hv1.fr (by exact Qf)) (by omega) (by omega)).mono ?_
      rintro e _ ⟨rfl, rfl⟩
      rw [HR.out]
      go_wp2_with fail
      go_ret
      exact ⟨rfl, by exact Qf⟩
  · skip
    have hr : szR 1048576 (d0.bulk) = -1 := szR_no hl0
    have HR := Lib.hid hr
    clear hr hspec himpl
    go_enter Tryz.func3, Tryz.ntmps3
    go_wp2_with fail
    refine (szQuery_w _ d0 _ _ (hv0.fr (by exact Qf)) hs0 (by omega) (by omega)).mono ?_
    rintro e w1 ⟨rfl, hf1⟩
    have zhf1 := hf1.size; (try simp only [World.size_alloc, World.size_setCell, World.size_drew] at zhf1)
    have BA0 : Box w1 (w.heap.size) #[.bool d0.f0, u0_1, u0_2, u0_3] 26 := (Box.new' (w := w) (X := #[.bool d0.f0, u0_1, u0_2, u0_3]) (T := 26) (by simp)).fr (by exact Qf)
    have FA0 := BA0.facts
    rw [HR.out]
    go_wp2_with fail
    go_ret
    exact ⟨rfl, by exact Qf⟩
end Go.Proofs.YtmdgdnkllclpcaaGreat
