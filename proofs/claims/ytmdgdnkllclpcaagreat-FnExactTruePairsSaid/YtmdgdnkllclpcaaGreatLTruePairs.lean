/- laws.FnExactTruePairs: its walk, out of the contracts of the two functions. No condition but the sizes that the reading gives. (Printed by mk_law.py.) -/
import Derived.Test.YtmdgdnkllclpcaaGreatTru
import Derived.Test.YtmdgdnkllclpcaaGreatGNest
import Derived.Test.YtmdgdnkllclpcaaGreatGSum
import Derived.Test.YtmdgdnkllclpcaaGreatNIntSS
import Derived.Deep.RegionHeld3
import Derived.Deep.Cut
namespace Go.Proofs.YtmdgdnkllclpcaaGreat
open Go.RowKit
set_option linter.unusedVariables false
set_option linter.unusedSimpArgs false
set_option maxHeartbeats 4000000 in
set_option maxRecDepth 100000 in
theorem fnTruePairs_of (v0 : Value) (d0 : GraphD) (hs0 : d0.okSize) (v1 : Value) (d1 : QueryD) (hs1 : d1.okSize) (a2 : Int) (a3 : Int) (a4 : Int) (w : World) (hv0 : GraphRd w v0 d0) (hv1 : QueryRd w v1 d1) (r0 : List (List Int)) (hr0 : d0.f1.length ≤ 1048576 → d1.bulk ≤ 1048576 → IntSSCnt r0 ≤ 100000000)
    (hspec : d0.f1.length ≤ 1048576 → d1.bulk ≤ 1048576 → ∀ (v0 : Value) (v1 : Value) (w : World), GraphRd w v0 d0 → QueryRd w v1 d1 → Calls Tryz.prog 36 #[v0, v1, .int .i64 a2, .int .i64 a3, .int .i64 a4] w fun e w' => ∃ ao0 cap0, e = .returned (.slice ao0 r0.length cap0) ∧ IntSSW w' w.heap.size w'.heap.size (.slice ao0 r0.length cap0) r0 ∧ Fr w w')
    (himpl : d0.f1.length ≤ 1048576 → d1.bulk ≤ 1048576 → ∀ (v0 : Value) (v1 : Value) (w : World), GraphRd w v0 d0 → QueryRd w v1 d1 → Calls Tryz.prog 37 #[v0, v1, .int .i64 a2, .int .i64 a3, .int .i64 a4] w fun e w' => ∃ ao0 cap0, e = .returned (.slice ao0 r0.length cap0) ∧ IntSSW w' w.heap.size w'.heap.size (.slice ao0 r0.length cap0) r0 ∧ Fr w w') :
    Calls Tryz.prog 7 #[v0, v1, .int .i64 a2, .int .i64 a3, .int .i64 a4] w fun e w' => e = .returned (.bool true) ∧ Fr w w' := by
  obtain ⟨u0, rfl, hu0⟩ := hv0
  have hv0 : GraphRd w _ d0 := ⟨_, rfl, hu0⟩
  obtain ⟨u1_1, u1_2, u1_3, rfl, hu1⟩ := hv1
  have hv1 : QueryRd w _ d1 := ⟨_, _, _, rfl, hu1⟩
  by_cases hl0 : ((d0.bulk : Nat) : Int) ≤ 1048576
  · skip
    obtain ⟨q0, hq0⟩ : ∃ q : Int, szR 1048576 (d0.bulk) = q := ⟨_, rfl⟩
    have hqa0 : q0 = 1048576 - ((d0.bulk : Nat) : Int) := by rw [← hq0, szR_ok hl0]
    have HQ0 := Lib.hid hq0
    have hqb0 : 0 ≤ q0 := by omega
    have hqc0 : q0 ≤ 1048576 := by omega
    clear hq0 hqa0
    by_cases hl1 : ((d1.bulk : Nat) : Int) ≤ q0
    · skip
      obtain ⟨q1, hq1⟩ : ∃ q : Int, szR q0 (d1.bulk) = q := ⟨_, rfl⟩
      have hqa1 : q1 = q0 - ((d1.bulk : Nat) : Int) := by rw [← hq1, szR_ok hl1]
      have HQ1 := Lib.hid hq1
      have hqb1 : 0 ≤ q1 := by omega
      have hqc1 : q1 ≤ 1048576 := by omega
      clear hq1 hqa1
      have hn0 : d0.f1.length ≤ 1048576 := by have := hl0; unfold GraphD.bulk at this; omega
      have hn1 : d1.bulk ≤ 1048576 := by have := hl1; omega
      have hc0 : d0.cnt ≤ 100000000 := by unfold GraphD.cnt; omega
      have hc1 : d1.cnt ≤ 100000000 := by have := QueryD.cnt_le d1; omega
      replace hr0 := hr0 hn0 hn1
      have HS := Lib.hid (hspec hn0 hn1)
      have HI := Lib.hid (himpl hn0 hn1)
      clear hspec himpl
      go_enter Tryz.func7, Tryz.ntmps7
      go_wp2_with fail
      refine (szGraph_w _ d0 _ _ (hv0.fr (by exact Qf)) hs0 (by omega) (by omega)).mono ?_
      rintro e w1 ⟨rfl, hf1⟩
      have zhf1 := hf1.size; (try simp only [World.size_alloc, World.size_setCell, World.size_drew] at zhf1)
      have BA0 : Box w1 (w.heap.size) #[.int .i64 d0.f0, u0] 48 := (Box.new' (w := w) (X := #[.int .i64 d0.f0, u0]) (T := 48) (by simp)).fr (by exact Qf)
      have BA1 : Box w1 (w.heap.size + 1) #[.bool d1.f0, u1_1, u1_2, u1_3] 26 := (Box.new' (w := (w.alloc (.cells #[.int .i64 d0.f0, u0] 48))) (X := #[.bool d1.f0, u1_1, u1_2, u1_3]) (T := 26) (by simp)).fr (by exact Qf)
      have FA0 := BA0.facts
      have FA1 := BA1.facts
      rw [HQ0.out]
      go_wp2_with fail
      refine (szQuery_w _ d1 _ _ (hv1.fr (by exact Qf)) hs1 (by omega) (by omega)).mono ?_
      rintro e w2 ⟨rfl, hf2⟩
      have zhf2 := hf2.size; (try simp only [World.size_alloc, World.size_setCell, World.size_drew] at zhf2)
      have BA0 := BA0.fr (show Fr w1 w2 by exact Qf)
      have BA1 := BA1.fr (show Fr w1 w2 by exact Qf)
      clear FA0 FA1
      have FA0 := BA0.facts
      have FA1 := BA1.facts
      rw [HQ1.out]
      have RA0 : ∀ w', Sf w2 w' → ∀ o, w'.cell? ⟨w.heap.size, o, none⟩ = _ := fun w' h o => (BA0.fr h.out).cell o
      have RA1 : ∀ w', Sf w2 w' → ∀ o, w'.cell? ⟨w.heap.size + 1, o, none⟩ = _ := fun w' h o => (BA1.fr h.out).cell o
      go_wp2_with fail
      go_region_held3 (fun w' => Sf w2 w') ((refine Sf.mk ?_; repeat (first | (with_reducible exact Fr.refl _) | (with_reducible assumption) | (with_reducible refine Fr.drewN ?_ _) | (with_reducible refine Fr.drew ?_) | (with_reducible refine Fr.alloc ?_ _) | (with_reducible refine Fr.setCell ?_ (by exact Qz) _) | (with_reducible refine Fr.trans ?_ (by with_reducible assumption))))) (first | (go_at_call 26; refine (toGraph_w _ d0 _ (hv0.fr (by exact Qf)) hn0).mono ?_; rintro e w3 ⟨aot3, capt3, rfl, ht3, hf3⟩) | (go_at_call 14; refine (toQuery_w _ d1 _ (hv1.fr (by exact Qf)) hn1).mono ?_; rintro e w4 ⟨aot4_1, capt4_1, aot4_2, capt4_2, aot4_3, capt4_3, rfl, ht4, hf4⟩) | (go_at_call 36; refine (HS.out _ _ _ (ht3.rd.fr (by exact Qf)) (ht4.rd.fr (by exact Qf))).mono ?_; rintro e w5 ⟨aow0, capw0, rfl, ow0, hf5⟩))
      clear RA0
      clear RA1
      have zhf3 := hf3.size; (try simp only [World.size_alloc, World.size_setCell, World.size_drew] at zhf3)
      have zhf4 := hf4.size; (try simp only [World.size_alloc, World.size_setCell, World.size_drew] at zhf4)
      have zhf5 := hf5.size; (try simp only [World.size_alloc, World.size_setCell, World.size_drew] at zhf5)
      have BA0 := BA0.fr (show Fr w2 w5 by exact Qf)
      have BA1 := BA1.fr (show Fr w2 w5 by exact Qf)
      clear FA0 FA1
      have FA0 := BA0.facts
      have FA1 := BA1.facts
      go_wp2_with fail
      refine (toGraph_w _ d0 _ (hv0.fr (by exact Qf)) hn0).mono ?_
      rintro e w6 ⟨aot6, capt6, rfl, ht6, hf6⟩
      have zhf6 := hf6.size; (try simp only [World.size_alloc, World.size_setCell, World.size_drew] at zhf6)
      have BA0 := BA0.fr (show Fr w5 w6 by exact Qf)
      have BA1 := BA1.fr (show Fr w5 w6 by exact Qf)
      clear FA0 FA1
      have FA0 := BA0.facts
      have FA1 := BA1.facts
      have ox0 := ht6
      go_wp2_with fail
      refine (toQuery_w _ d1 _ (hv1.fr (by exact Qf)) hn1).mono ?_
      rintro e w7 ⟨aot7_1, capt7_1, aot7_2, capt7_2, aot7_3, capt7_3, rfl, ht7, hf7⟩
      have zhf7 := hf7.size; (try simp only [World.size_alloc, World.size_setCell, World.size_drew] at zhf7)
      have BA0 := BA0.fr (show Fr w6 w7 by exact Qf)
      have BA1 := BA1.fr (show Fr w6 w7 by exact Qf)
      have Bx0 : Box w7 (w6.heap.size) #[.int .i64 d0.f0, .slice aot6 d0.f1.length capt6] 55 := (Box.new' (w := w6) (X := #[.int .i64 d0.f0, .slice aot6 d0.f1.length capt6]) (T := 55) (by simp)).fr (by exact Qf)
      clear FA0 FA1
      have FA0 := BA0.facts
      have FA1 := BA1.facts
      have Fx0 := Bx0.facts
      have ox1 := ht7
      go_wp2_with fail
      refine (HI.out _ _ _ (ox0.rd.fr (by exact Qf)) (ox1.rd.fr (by exact Qf))).mono ?_
      rintro e w8 ⟨aog0, capg0, rfl, og0, hf8⟩
      have zhf8 := hf8.size; (try simp only [World.size_alloc, World.size_setCell, World.size_drew] at zhf8)
      have BA0 := BA0.fr (show Fr w7 w8 by exact Qf)
      have BA1 := BA1.fr (show Fr w7 w8 by exact Qf)
      have Bx0 := Bx0.fr (show Fr w7 w8 by exact Qf)
      have Bx1 : Box w8 (w7.heap.size) #[.bool d1.f0, .slice aot7_1 d1.f1.length capt7_1, .slice aot7_2 d1.f2.length capt7_2, .slice aot7_3 d1.f3.length capt7_3] 35 := (Box.new' (w := w7) (X := #[.bool d1.f0, .slice aot7_1 d1.f1.length capt7_1, .slice aot7_2 d1.f2.length capt7_2, .slice aot7_3 d1.f3.length capt7_3]) (T := 35) (by simp)).fr (by exact Qf)
      clear FA0 FA1 Fx0
      have FA0 := BA0.facts
      have FA1 := BA1.facts
      have Fx0 := Bx0.facts
      have Fx1 := Bx1.facts
      go_wp2_with fail
      refine (eqIntSS_same _ _ r0 _ (og0.rd.fr (by exact Qf)) (ow0.rd.fr (by exact Qf))).mono ?_
      rintro e w9 ⟨rfl, hf9⟩
      have zhf9 := hf9.size; (try simp only [World.size_alloc, World.size_setCell, World.size_drew] at zhf9)
      have BA0 := BA0.fr (show Fr w8 w9 by exact Qf)
      have BA1 := BA1.fr (show Fr w8 w9 by exact Qf)
      have Bx0 := Bx0.fr (show Fr w8 w9 by exact Qf)
      have Bx1 := Bx1.fr (show Fr w8 w9 by exact Qf)
      clear FA0 FA1 Fx0 Fx1
      have FA0 := BA0.facts
      have FA1 := BA1.facts
      have Fx0 := Bx0.facts
      have Fx1 := Bx1.facts
      have RA0 : ∀ w', Sf w9 w' → ∀ o, w'.cell? ⟨w.heap.size, o, none⟩ = _ := fun w' h o => (BA0.fr h.out).cell o
      have RA1 : ∀ w', Sf w9 w' → ∀ o, w'.cell? ⟨w.heap.size + 1, o, none⟩ = _ := fun w' h o => (BA1.fr h.out).cell o
      have Rx0 : ∀ w', Sf w9 w' → ∀ o, w'.cell? ⟨w6.heap.size, o, none⟩ = _ := fun w' h o => (Bx0.fr h.out).cell o
      have Rx1 : ∀ w', Sf w9 w' → ∀ o, w'.cell? ⟨w7.heap.size, o, none⟩ = _ := fun w' h o => (Bx1.fr h.out).cell o
      go_wp2_with fail
      go_region_held3 (fun w' => Sf w9 w') ((refine Sf.mk ?_; repeat (first | (with_reducible exact Fr.refl _) | (with_reducible assumption) | (with_reducible refine Fr.drewN ?_ _) | (with_reducible refine Fr.drew ?_) | (with_reducible refine Fr.alloc ?_ _) | (with_reducible refine Fr.setCell ?_ (by exact Qz) _) | (with_reducible refine Fr.trans ?_ (by with_reducible assumption))))) (first | (go_at_call 26; refine (toGraph_w _ d0 _ (hv0.fr (by exact Qf)) hn0).mono ?_; rintro e w10 ⟨aot10, capt10, rfl, ht10, hf10⟩) | (go_at_call 29; refine (eqGraph_same _ _ d0 _ (ox0.rd.fr (by exact Qf)) (ht10.rd.fr (by exact Qf))).mono ?_; rintro e w11 ⟨rfl, hf11⟩))
      clear RA0
      clear RA1
      clear Rx0
      clear Rx1
      have zhf10 := hf10.size; (try simp only [World.size_alloc, World.size_setCell, World.size_drew] at zhf10)
      have zhf11 := hf11.size; (try simp only [World.size_alloc, World.size_setCell, World.size_drew] at zhf11)
      have BA0 := BA0.fr (show Fr w9 w11 by exact Qf)
      have BA1 := BA1.fr (show Fr w9 w11 by exact Qf)
      have Bx0 := Bx0.fr (show Fr w9 w11 by exact Qf)
      have Bx1 := Bx1.fr (show Fr w9 w11 by exact Qf)
      clear FA0 FA1 Fx0 Fx1
      have FA0 := BA0.facts
      have FA1 := BA1.facts
      have Fx0 := Bx0.facts
      have Fx1 := Bx1.facts
      have RA0 : ∀ w', Sf w11 w' → ∀ o, w'.cell? ⟨w.heap.size, o, none⟩ = _ := fun w' h o => (BA0.fr h.out).cell o
      have RA1 : ∀ w', Sf w11 w' → ∀ o, w'.cell? ⟨w.heap.size + 1, o, none⟩ = _ := fun w' h o => (BA1.fr h.out).cell o
      have Rx0 : ∀ w', Sf w11 w' → ∀ o, w'.cell? ⟨w6.heap.size, o, none⟩ = _ := fun w' h o => (Bx0.fr h.out).cell o
      have Rx1 : ∀ w', Sf w11 w' → ∀ o, w'.cell? ⟨w7.heap.size, o, none⟩ = _ := fun w' h o => (Bx1.fr h.out).cell o
      go_wp2_with fail
      go_region_held3 (fun w' => Sf w11 w') ((refine Sf.mk ?_; repeat (first | (with_reducible exact Fr.refl _) | (with_reducible assumption) | (with_reducible refine Fr.drewN ?_ _) | (with_reducible refine Fr.drew ?_) | (with_reducible refine Fr.alloc ?_ _) | (with_reducible refine Fr.setCell ?_ (by exact Qz) _) | (with_reducible refine Fr.trans ?_ (by with_reducible assumption))))) (first | (go_at_call 14; refine (toQuery_w _ d1 _ (hv1.fr (by exact Qf)) hn1).mono ?_; rintro e w12 ⟨aot12_1, capt12_1, aot12_2, capt12_2, aot12_3, capt12_3, rfl, ht12, hf12⟩) | (go_at_call 18; refine (eqQuery_same _ _ d1 _ (ox1.rd.fr (by exact Qf)) (ht12.rd.fr (by exact Qf))).mono ?_; rintro e w13 ⟨rfl, hf13⟩))
      clear RA0
      clear RA1
      clear Rx0
      clear Rx1
      have zhf12 := hf12.size; (try simp only [World.size_alloc, World.size_setCell, World.size_drew] at zhf12)
      have zhf13 := hf13.size; (try simp only [World.size_alloc, World.size_setCell, World.size_drew] at zhf13)
      have BA0 := BA0.fr (show Fr w11 w13 by exact Qf)
      have BA1 := BA1.fr (show Fr w11 w13 by exact Qf)
      have Bx0 := Bx0.fr (show Fr w11 w13 by exact Qf)
      have Bx1 := Bx1.fr (show Fr w11 w13 by exact Qf)
      clear FA0 FA1 Fx0 Fx1
      have FA0 := BA0.facts
      have FA1 := BA1.facts
      have Fx0 := Bx0.facts
      have Fx1 := Bx1.facts
      go_wp2_with fail
      refine (markGraph_w _ d0 1 (w5.heap.size) (w6.heap.size) _ (ox0.fr (by exact Qf)) (by exact Qz) (by omega) (by omega)).mono ?_
      rintro e w14 ⟨rfl, omx0, sp14⟩
      have zsp14 := sp14.size; (try simp only [World.size_alloc, World.size_setCell, World.size_drew] at zsp14)
      have ow0_14 := (ow0.fr (show Fr w5 w13 by exact Qf)).span sp14 (by exact Qz)
      have ox1_14 := (ox1.fr (show Fr w7 w13 by exact Qf)).span sp14 (by exact Qz)
      have og0_14 := (og0.fr (show Fr w8 w13 by exact Qf)).span sp14 (by exact Qz)
      have BA0 := (BA0.fr (show Fr w13 w13 by exact Qf)).span sp14 (by exact Qz)
      have BA1 := (BA1.fr (show Fr w13 w13 by exact Qf)).span sp14 (by exact Qz)
      have Bx0 := (Bx0.fr (show Fr w13 w13 by exact Qf)).span sp14 (by exact Qz)
      have Bx1 := (Bx1.fr (show Fr w13 w13 by exact Qf)).span sp14 (by exact Qz)
      have hF14 : Fr w w14 := Span.fr (show Fr w w13 by exact Qf) sp14 (by exact Qz)
      clear FA0 FA1 Fx0 Fx1
      have FA0 := BA0.facts
      have FA1 := BA1.facts
      have Fx0 := Bx0.facts
      have Fx1 := Bx1.facts
      obtain ⟨kx0, hkx0⟩ : ∃ q : Int, 1 + ((d0.cnt : Nat) : Int) = q := ⟨_, rfl⟩
      have hpkx0 : 0 < kx0 := by omega
      have hbkx0 : kx0 ≤ 150000000 := by omega
      have hdkx0 : decide (kx0 < 0) = false := by simp; omega
      rw [hkx0]
      clear hkx0
      go_wp2_with fail
      refine (markQuery_w _ d1 kx0 ((w6.alloc (.cells #[.int .i64 d0.f0, .slice aot6 d0.f1.length capt6] 55)).heap.size) (w7.heap.size) _ (ox1_14.fr (by exact Qf)) (by exact Qz) (by omega) (by omega)).mono ?_
      rintro e w15 ⟨rfl, omx1, sp15⟩
      have zsp15 := sp15.size; (try simp only [World.size_alloc, World.size_setCell, World.size_drew] at zsp15)
      have ow0_15 := (ow0_14.fr (show Fr w14 w14 by exact Qf)).span sp15 (by exact Qz)
      have og0_15 := (og0_14.fr (show Fr w14 w14 by exact Qf)).span sp15 (by exact Qz)
      have BA0 := (BA0.fr (show Fr w14 w14 by exact Qf)).span sp15 (by exact Qz)
      have BA1 := (BA1.fr (show Fr w14 w14 by exact Qf)).span sp15 (by exact Qz)
      have Bx0 := (Bx0.fr (show Fr w14 w14 by exact Qf)).span sp15 (by exact Qz)
      have Bx1 := (Bx1.fr (show Fr w14 w14 by exact Qf)).span sp15 (by exact Qz)
      have hF15 : Fr w w15 := Span.fr (show Fr w w14 by exact Qf) sp15 (by exact Qz)
      clear FA0 FA1 Fx0 Fx1
      have FA0 := BA0.facts
      have FA1 := BA1.facts
      have Fx0 := Bx0.facts
      have Fx1 := Bx1.facts
      obtain ⟨kx1, hkx1⟩ : ∃ q : Int, kx0 + ((d1.cnt : Nat) : Int) = q := ⟨_, rfl⟩
      have hpkx1 : 0 < kx1 := by omega
      have hbkx1 : kx1 ≤ 300000000 := by omega
      have hdkx1 : decide (kx1 < 0) = false := by simp; omega
      rw [hkx1]
      clear hkx1
      go_wp2_with fail
      refine (eqIntSS_same _ _ r0 _ (og0_15.rd.fr (by exact Qf)) (ow0_15.rd.fr (by exact Qf))).mono ?_
      rintro e w16 ⟨rfl, hf16⟩
      have zhf16 := hf16.size; (try simp only [World.size_alloc, World.size_setCell, World.size_drew] at zhf16)
      have BA0 := BA0.fr (show Fr w15 w16 by exact Qf)
      have BA1 := BA1.fr (show Fr w15 w16 by exact Qf)
      have Bx0 := Bx0.fr (show Fr w15 w16 by exact Qf)
      have Bx1 := Bx1.fr (show Fr w15 w16 by exact Qf)
      clear FA0 FA1 Fx0 Fx1
      have FA0 := BA0.facts
      have FA1 := BA1.facts
      have Fx0 := Bx0.facts
      have Fx1 := Bx1.facts
      go_wp2_with fail
      refine (markIntSS_w _ r0 1 ((w7.alloc (.cells #[.bool d1.f0, .slice aot7_1 d1.f1.length capt7_1, .slice aot7_2 d1.f2.length capt7_2, .slice aot7_3 d1.f3.length capt7_3] 35)).heap.size) (w8.heap.size) _ (og0_15.fr (by exact Qf)) (by omega) (by omega)).mono ?_
      rintro e w17 ⟨rfl, omg0, sp17⟩
      have zsp17 := sp17.size; (try simp only [World.size_alloc, World.size_setCell, World.size_drew] at zsp17)
      have ow0_17 := (ow0_15.fr (show Fr w15 w16 by exact Qf)).span sp17 (by exact Qz)
      have BA0 := (BA0.fr (show Fr w16 w16 by exact Qf)).span sp17 (by exact Qz)
      have BA1 := (BA1.fr (show Fr w16 w16 by exact Qf)).span sp17 (by exact Qz)
      have Bx0 := (Bx0.fr (show Fr w16 w16 by exact Qf)).span sp17 (by exact Qz)
      have Bx1 := (Bx1.fr (show Fr w16 w16 by exact Qf)).span sp17 (by exact Qz)
      have hF17 : Fr w w17 := Span.fr (show Fr w w16 by exact Qf) sp17 (by exact Qz)
      clear FA0 FA1 Fx0 Fx1
      have FA0 := BA0.facts
      have FA1 := BA1.facts
      have Fx0 := Bx0.facts
      have Fx1 := Bx1.facts
      obtain ⟨mg0, hmg0⟩ : ∃ q : Int, 1 + ((IntSSCnt r0 : Nat) : Int) = q := ⟨_, rfl⟩
      have hpmg0 : 0 < mg0 := by omega
      have hbmg0 : mg0 ≤ 150000000 := by omega
      have hdmg0 : decide (mg0 < 0) = false := by simp; omega
      rw [hmg0]
      have hheldg0 := fun (W : World) (hf : Fr w17 W) => heldIntSS_w (.slice aog0 r0.length capg0) r0 1 W (omg0.rd.fr hf) (by omega) (by omega)
      rw [hmg0] at hheldg0
      have HHg0 := Lib.hid hheldg0
      clear hheldg0
      clear hmg0
      go_wp2_with fail
      refine (HHg0.out _ (by exact Qf)).mono ?_
      rintro e w18 ⟨rfl, hf18⟩
      have zhf18 := hf18.size; (try simp only [World.size_alloc, World.size_setCell, World.size_drew] at zhf18)
      have BA0 := BA0.fr (show Fr w17 w18 by exact Qf)
      have BA1 := BA1.fr (show Fr w17 w18 by exact Qf)
      have Bx0 := Bx0.fr (show Fr w17 w18 by exact Qf)
      have Bx1 := Bx1.fr (show Fr w17 w18 by exact Qf)
      clear FA0 FA1 Fx0 Fx1
      have FA0 := BA0.facts
      have FA1 := BA1.facts
      have Fx0 := Bx0.facts
      have Fx1 := Bx1.facts
      have RA0 : ∀ w', Sf w18 w' → ∀ o, w'.cell? ⟨w.heap.size, o, none⟩ = _ := fun w' h o => (BA0.fr h.out).cell o
      have RA1 : ∀ w', Sf w18 w' → ∀ o, w'.cell? ⟨w.heap.size + 1, o, none⟩ = _ := fun w' h o => (BA1.fr h.out).cell o
      have Rx0 : ∀ w', Sf w18 w' → ∀ o, w'.cell? ⟨w6.heap.size, o, none⟩ = _ := fun w' h o => (Bx0.fr h.out).cell o
      have Rx1 : ∀ w', Sf w18 w' → ∀ o, w'.cell? ⟨w7.heap.size, o, none⟩ = _ := fun w' h o => (Bx1.fr h.out).cell o
      go_wp2_with fail
      go_region_held3 (fun w' => Sf w18 w') ((refine Sf.mk ?_; repeat (first | (with_reducible exact Fr.refl _) | (with_reducible assumption) | (with_reducible refine Fr.drewN ?_ _) | (with_reducible refine Fr.drew ?_) | (with_reducible refine Fr.alloc ?_ _) | (with_reducible refine Fr.setCell ?_ (by exact Qz) _) | (with_reducible refine Fr.trans ?_ (by with_reducible assumption))))) (first | (go_at_call 26; refine (toGraph_w _ d0 _ (hv0.fr (by exact Qf)) hn0).mono ?_; rintro e w19 ⟨aot19, capt19, rfl, ht19, hf19⟩) | (go_at_call 14; refine (toQuery_w _ d1 _ (hv1.fr (by exact Qf)) hn1).mono ?_; rintro e w20 ⟨aot20_1, capt20_1, aot20_2, capt20_2, aot20_3, capt20_3, rfl, ht20, hf20⟩) | (go_at_call 37; refine (HI.out _ _ _ (ht19.rd.fr (by exact Qf)) (ht20.rd.fr (by exact Qf))).mono ?_; rintro e w21 ⟨aoh0, caph0, rfl, oh0, hf21⟩))
      clear RA0
      clear RA1
      clear Rx0
      clear Rx1
      have zhf19 := hf19.size; (try simp only [World.size_alloc, World.size_setCell, World.size_drew] at zhf19)
      have zhf20 := hf20.size; (try simp only [World.size_alloc, World.size_setCell, World.size_drew] at zhf20)
      have zhf21 := hf21.size; (try simp only [World.size_alloc, World.size_setCell, World.size_drew] at zhf21)
      have BA0 := BA0.fr (show Fr w18 w21 by exact Qf)
      have BA1 := BA1.fr (show Fr w18 w21 by exact Qf)
      have Bx0 := Bx0.fr (show Fr w18 w21 by exact Qf)
      have Bx1 := Bx1.fr (show Fr w18 w21 by exact Qf)
      clear FA0 FA1 Fx0 Fx1
      have FA0 := BA0.facts
      have FA1 := BA1.facts
      have Fx0 := Bx0.facts
      have Fx1 := Bx1.facts
      go_wp2_with fail
      refine (eqIntSS_same _ _ r0 _ (oh0.rd.fr (by exact Qf)) (ow0_17.rd.fr (by exact Qf))).mono ?_
      rintro e w22 ⟨rfl, hf22⟩
      have zhf22 := hf22.size; (try simp only [World.size_alloc, World.size_setCell, World.size_drew] at zhf22)
      have BA0 := BA0.fr (show Fr w21 w22 by exact Qf)
      have BA1 := BA1.fr (show Fr w21 w22 by exact Qf)
      have Bx0 := Bx0.fr (show Fr w21 w22 by exact Qf)
      have Bx1 := Bx1.fr (show Fr w21 w22 by exact Qf)
      clear FA0 FA1 Fx0 Fx1
      have FA0 := BA0.facts
      have FA1 := BA1.facts
      have Fx0 := Bx0.facts
      have Fx1 := Bx1.facts
      go_wp2_with fail
      refine (HHg0.out _ (by exact Qf)).mono ?_
      rintro e w23 ⟨rfl, hf23⟩
      have zhf23 := hf23.size; (try simp only [World.size_alloc, World.size_setCell, World.size_drew] at zhf23)
      have BA0 := BA0.fr (show Fr w22 w23 by exact Qf)
      have BA1 := BA1.fr (show Fr w22 w23 by exact Qf)
      have Bx0 := Bx0.fr (show Fr w22 w23 by exact Qf)
      have Bx1 := Bx1.fr (show Fr w22 w23 by exact Qf)
      clear FA0 FA1 Fx0 Fx1
      have FA0 := BA0.facts
      have FA1 := BA1.facts
      have Fx0 := Bx0.facts
      have Fx1 := Bx1.facts
      go_wp2_with fail
      go_ret
      exact ⟨rfl, by exact Qf⟩
    · skip
      have hr : szR q0 (d1.bulk) = -1 := szR_no hl1
      have HR := Lib.hid hr
      clear hr hspec himpl
      go_enter Tryz.func7, Tryz.ntmps7
      go_wp2_with fail
      refine (szGraph_w _ d0 _ _ (hv0.fr (by exact Qf)) hs0 (by omega) (by omega)).mono ?_
      rintro e w1 ⟨rfl, hf1⟩
      have zhf1 := hf1.size; (try simp only [World.size_alloc, World.size_setCell, World.size_drew] at zhf1)
      have BA0 : Box w1 (w.heap.size) #[.int .i64 d0.f0, u0] 48 := (Box.new' (w := w) (X := #[.int .i64 d0.f0, u0]) (T := 48) (by simp)).fr (by exact Qf)
      have FA0 := BA0.facts
      have BA1 : Box w1 (w.heap.size + 1) #[.bool d1.f0, u1_1, u1_2, u1_3] 26 := (Box.new' (w := (w.alloc (.cells #[.int .i64 d0.f0, u0] 48))) (X := #[.bool d1.f0, u1_1, u1_2, u1_3]) (T := 26) (by simp)).fr (by exact Qf)
      have FA1 := BA1.facts
      rw [HQ0.out]
      go_wp2_with fail
      refine (szQuery_w _ d1 _ _ (hv1.fr (by exact Qf)) hs1 (by omega) (by omega)).mono ?_
      rintro e w2 ⟨rfl, hf2⟩
      have zhf2 := hf2.size; (try simp only [World.size_alloc, World.size_setCell, World.size_drew] at zhf2)
      have BA0 : Box w2 (w.heap.size) #[.int .i64 d0.f0, u0] 48 := (Box.new' (w := w) (X := #[.int .i64 d0.f0, u0]) (T := 48) (by simp)).fr (by exact Qf)
      have FA0 := BA0.facts
      have BA1 : Box w2 (w.heap.size + 1) #[.bool d1.f0, u1_1, u1_2, u1_3] 26 := (Box.new' (w := (w.alloc (.cells #[.int .i64 d0.f0, u0] 48))) (X := #[.bool d1.f0, u1_1, u1_2, u1_3]) (T := 26) (by simp)).fr (by exact Qf)
      have FA1 := BA1.facts
      rw [HR.out]
      go_wp2_with fail
      go_ret
      exact ⟨rfl, by exact Qf⟩
  · skip
    have hr : szR 1048576 (d0.bulk) = -1 := szR_no hl0
    have HR := Lib.hid hr
    clear hr hspec himpl
    go_enter Tryz.func7, Tryz.ntmps7
    go_wp2_with fail
    refine (szGraph_w _ d0 _ _ (hv0.fr (by exact Qf)) hs0 (by omega) (by omega)).mono ?_
    rintro e w1 ⟨rfl, hf1⟩
    have zhf1 := hf1.size; (try simp only [World.size_alloc, World.size_setCell, World.size_drew] at zhf1)
    have BA0 : Box w1 (w.heap.size) #[.int .i64 d0.f0, u0] 48 := (Box.new' (w := w) (X := #[.int .i64 d0.f0, u0]) (T := 48) (by simp)).fr (by exact Qf)
    have FA0 := BA0.facts
    have BA1 : Box w1 (w.heap.size + 1) #[.bool d1.f0, u1_1, u1_2, u1_3] 26 := (Box.new' (w := (w.alloc (.cells #[.int .i64 d0.f0, u0] 48))) (X := #[.bool d1.f0, u1_1, u1_2, u1_3]) (T := 26) (by simp)).fr (by exact Qf)
    have FA1 := BA1.facts
    rw [HR.out]
    go_wp2_with fail
    go_ret
    exact ⟨rfl, by exact Qf⟩
end Go.Proofs.YtmdgdnkllclpcaaGreat
