/- laws.FnExactTakeWalks: its walk, out of the contracts of the two functions. No condition but the sizes that the reading gives. (Printed by mk_law.py.) -/
import Derived.Test.YtmdgdnkllclpcaaGreatTkw
import Derived.Test.YtmdgdnkllclpcaaGreatGNest
import Derived.Test.YtmdgdnkllclpcaaGreatGSum
import Derived.Test.YtmdgdnkllclpcaaGreatGOParcel
import Derived.Deep.RegionHeld3
import Derived.Deep.Cut
namespace Go.Proofs.YtmdgdnkllclpcaaGreat
open Go.RowKit
set_option linter.unusedVariables false
set_option linter.unusedSimpArgs false
set_option maxHeartbeats 4000000 in
set_option maxRecDepth 100000 in
theorem fnTakeWalks_of (v0 : Value) (d0 : GraphD) (hs0 : d0.okSize) (v1 : Value) (d1 : QueryD) (hs1 : d1.okSize) (a2 : Int) (a3 : Int) (v4 : Value) (d4 : List WalkR) (v5 : Value) (d5 : List WalkR) (w : World) (hv0 : GraphRd w v0 d0) (hv1 : QueryRd w v1 d1) (hv4 : WalksR w v4 d4) (hv5 : WalksR w v5 d5) (r0 : List WalkR) (hr0 : d0.f1.length ≤ 1048576 → d1.bulk ≤ 1048576 → d4.length ≤ 1048576 → d5.length ≤ 1048576 → 4 * r0.length ≤ 1000000000000) (r1 : List WalkR) (hr1 : d0.f1.length ≤ 1048576 → d1.bulk ≤ 1048576 → d4.length ≤ 1048576 → d5.length ≤ 1048576 → 4 * r1.length ≤ 1000000000000)
    (hspec : d0.f1.length ≤ 1048576 → d1.bulk ≤ 1048576 → d4.length ≤ 1048576 → d5.length ≤ 1048576 → ∀ (v0 : Value) (v1 : Value) (v4 : Value) (v5 : Value) (w : World), GraphRd w v0 d0 → QueryRd w v1 d1 → WalksR w v4 d4 → WalksR w v5 d5 → Calls Tryz.prog 34 #[v0, v1, .int .i64 a2, .int .i64 a3, v4, v5] w fun e w' => ∃ ao0 cap0 ao1 cap1 l0 h0 l1 h1, e = .returned (.tuple #[.slice ao0 r0.length cap0, .slice ao1 r1.length cap1]) ∧ WalksW w' l0 h0 (.slice ao0 r0.length cap0) r0 ∧ WalksW w' l1 h1 (.slice ao1 r1.length cap1) r1 ∧ (w.heap.size ≤ l0 ∧ l0 ≤ h0 ∧ h0 ≤ w'.heap.size ∧ w.heap.size ≤ l1 ∧ l1 ≤ h1 ∧ h1 ≤ w'.heap.size ∧ (h0 ≤ l1 ∨ h1 ≤ l0)) ∧ Fr w w')
    (himpl : d0.f1.length ≤ 1048576 → d1.bulk ≤ 1048576 → d4.length ≤ 1048576 → d5.length ≤ 1048576 → ∀ (v0 : Value) (v1 : Value) (v4 : Value) (v5 : Value) (w : World), GraphRd w v0 d0 → QueryRd w v1 d1 → WalksR w v4 d4 → WalksR w v5 d5 → Calls Tryz.prog 35 #[v0, v1, .int .i64 a2, .int .i64 a3, v4, v5] w fun e w' => ∃ ao0 cap0 ao1 cap1 l0 h0 l1 h1, e = .returned (.tuple #[.slice ao0 r0.length cap0, .slice ao1 r1.length cap1]) ∧ WalksW w' l0 h0 (.slice ao0 r0.length cap0) r0 ∧ WalksW w' l1 h1 (.slice ao1 r1.length cap1) r1 ∧ (w.heap.size ≤ l0 ∧ l0 ≤ h0 ∧ h0 ≤ w'.heap.size ∧ w.heap.size ≤ l1 ∧ l1 ≤ h1 ∧ h1 ≤ w'.heap.size ∧ (h0 ≤ l1 ∨ h1 ≤ l0)) ∧ Fr w w') :
    Calls Tryz.prog 6 #[v0, v1, .int .i64 a2, .int .i64 a3, v4, v5] w fun e w' => e = .returned (.bool true) ∧ Fr w w' := by
  obtain ⟨u0, rfl, hu0⟩ := hv0
  have hv0 : GraphRd w _ d0 := ⟨_, rfl, hu0⟩
  obtain ⟨u1_1, u1_2, u1_3, rfl, hu1⟩ := hv1
  have hv1 : QueryRd w _ d1 := ⟨_, _, _, rfl, hu1⟩
  have hle4 := RdS.le hv4
  obtain ⟨aq4, cq4, rfl, _⟩ := RdS.val hv4
  have hle5 := RdS.le hv5
  obtain ⟨aq5, cq5, rfl, _⟩ := RdS.val hv5
  by_cases hl0 : ((d0.bulk : Nat) : Int) ≤ 1048576
  · skip
    obtain ⟨q0, hq0⟩ : ∃ q : Int, szR 1048576 (d0.bulk) = q := ⟨_, rfl⟩
    have hqa0 : q0 = 1048576 - ((d0.bulk : Nat) : Int) := by rw [← hq0, szR_ok hl0]
    have HQ0 := Lib.hid hq0
    have hqb0 : 0 ≤ q0 := by omega
    have hqc0 : q0 ≤ 1048576 := by omega
    clear hq0 hqa0
    by_cases hl1 : ((d1.bulk : Nat) : Int) ≤ q0
    · skip
      obtain ⟨q1, hq1⟩ : ∃ q : Int, szR q0 (d1.bulk) = q := ⟨_, rfl⟩
      have hqa1 : q1 = q0 - ((d1.bulk : Nat) : Int) := by rw [← hq1, szR_ok hl1]
      have HQ1 := Lib.hid hq1
      have hqb1 : 0 ≤ q1 := by omega
      have hqc1 : q1 ≤ 1048576 := by omega
      clear hq1 hqa1
      by_cases hl2 : ((d4.length : Nat) : Int) ≤ q1
      · skip
        obtain ⟨q2, hq2⟩ : ∃ q : Int, szR q1 (d4.length) = q := ⟨_, rfl⟩
        have hqa2 : q2 = q1 - ((d4.length : Nat) : Int) := by rw [← hq2, szR_ok hl2]
        have HQ2 := Lib.hid hq2
        have hqb2 : 0 ≤ q2 := by omega
        have hqc2 : q2 ≤ 1048576 := by omega
        clear hq2 hqa2
        by_cases hl3 : ((d5.length : Nat) : Int) ≤ q2
        · skip
          obtain ⟨q3, hq3⟩ : ∃ q : Int, szR q2 (d5.length) = q := ⟨_, rfl⟩
          have hqa3 : q3 = q2 - ((d5.length : Nat) : Int) := by rw [← hq3, szR_ok hl3]
          have HQ3 := Lib.hid hq3
          have hqb3 : 0 ≤ q3 := by omega
          have hqc3 : q3 ≤ 1048576 := by omega
          clear hq3 hqa3
          have hn0 : d0.f1.length ≤ 1048576 := by have := hl0; unfold GraphD.bulk at this; omega
          have hn1 : d1.bulk ≤ 1048576 := by have := hl1; omega
          have hn4 : d4.length ≤ 1048576 := by have := hl2; omega
          have hn5 : d5.length ≤ 1048576 := by have := hl3; omega
          have hc0 : d0.cnt ≤ 100000000 := by unfold GraphD.cnt; omega
          have hc1 : d1.cnt ≤ 100000000 := by have := QueryD.cnt_le d1; omega
          have hc4 : 4 * d4.length ≤ 100000000 := by omega
          have hc5 : 4 * d5.length ≤ 100000000 := by omega
          replace hr0 := hr0 hn0 hn1 hn4 hn5
          replace hr1 := hr1 hn0 hn1 hn4 hn5
          have HS := Lib.hid (hspec hn0 hn1 hn4 hn5)
          have HI := Lib.hid (himpl hn0 hn1 hn4 hn5)
          clear hspec himpl
          go_enter Tryz.func6, Tryz.ntmps6
          go_wp2_with fail
          refine (szGraph_w _ d0 _ _ (hv0.fr (by exact Qf)) hs0 (by omega) (by omega)).mono ?_
          rintro e w1 ⟨rfl, hf1⟩
          have zhf1 := hf1.size; (try simp only [World.size_alloc, World.size_setCell, World.size_drew] at zhf1)
          have BA0 : Box w1 (w.heap.size) #[.int .i64 d0.f0, u0] 48 := (Box.new' (w := w) (X := #[.int .i64 d0.f0, u0]) (T := 48) (by simp)).fr (by exact Qf)
          have BA1 : Box w1 (w.heap.size + 1) #[.bool d1.f0, u1_1, u1_2, u1_3] 26 := (Box.new' (w := (w.alloc (.cells #[.int .i64 d0.f0, u0] 48))) (X := #[.bool d1.f0, u1_1, u1_2, u1_3]) (T := 26) (by simp)).fr (by exact Qf)
          have FA0 := BA0.facts
          have FA1 := BA1.facts
          rw [HQ0.out]
          go_wp2_with fail
          refine (szQuery_w _ d1 _ _ (hv1.fr (by exact Qf)) hs1 (by omega) (by omega)).mono ?_
          rintro e w2 ⟨rfl, hf2⟩
          have zhf2 := hf2.size; (try simp only [World.size_alloc, World.size_setCell, World.size_drew] at zhf2)
          have BA0 := BA0.fr (show Fr w1 w2 by exact Qf)
          have BA1 := BA1.fr (show Fr w1 w2 by exact Qf)
          clear FA0 FA1
          have FA0 := BA0.facts
          have FA1 := BA1.facts
          rw [HQ1.out]
          go_wp2_with fail
          refine (szWalkS_any _ d4 _ _ (hv4.fr (by exact Qf)) (by omega) (by omega)).mono ?_
          rintro e _ ⟨rfl, rfl⟩
          rw [HQ2.out]
          go_wp2_with fail
          refine (szWalkS_any _ d5 _ _ (hv5.fr (by exact Qf)) (by omega) (by omega)).mono ?_
          rintro e _ ⟨rfl, rfl⟩
          rw [HQ3.out]
          have RA0 : ∀ w', Sf w2 w' → ∀ o, w'.cell? ⟨w.heap.size, o, none⟩ = _ := fun w' h o => (BA0.fr h.out).cell o
          have RA1 : ∀ w', Sf w2 w' → ∀ o, w'.cell? ⟨w.heap.size + 1, o, none⟩ = _ := fun w' h o => (BA1.fr h.out).cell o
          go_wp2_with fail
          go_region_held3 (fun w' => Sf w2 w') ((refine Sf.mk ?_; repeat (first | (with_reducible exact Fr.refl _) | (with_reducible assumption) | (with_reducible refine Fr.drewN ?_ _) | (with_reducible refine Fr.drew ?_) | (with_reducible refine Fr.alloc ?_ _) | (with_reducible refine Fr.setCell ?_ (by exact Qz) _) | (with_reducible refine Fr.trans ?_ (by with_reducible assumption))))) (first | (go_at_call 26; refine (toGraph_w _ d0 _ (hv0.fr (by exact Qf)) hn0).mono ?_; rintro e w3 ⟨aot3, capt3, rfl, ht3, hf3⟩) | (go_at_call 14; refine (toQuery_w _ d1 _ (hv1.fr (by exact Qf)) hn1).mono ?_; rintro e w4 ⟨aot4_1, capt4_1, aot4_2, capt4_2, aot4_3, capt4_3, rfl, ht4, hf4⟩) | (go_at_call 15; with_reducible refine (toWalkS_w _ d4 _ (hv4.fr (by exact Qf)) hn4).mono ?_; rintro e w5 ⟨aot5, capt5, rfl, ht5, hf5⟩) | (go_at_call 15; with_reducible refine (toWalkS_w _ d5 _ (hv5.fr (by exact Qf)) hn5).mono ?_; rintro e w6 ⟨aot6, capt6, rfl, ht6, hf6⟩) | (go_at_call 34; refine (HS.out _ _ _ _ _ (ht3.rd.fr (by exact Qf)) (ht4.rd.fr (by exact Qf)) (ht5.rd.fr (by exact Qf)) (ht6.rd.fr (by exact Qf))).mono ?_; rintro e w7 ⟨aow0, capw0, aow1, capw1, lw0, kw0, lw1, kw1, rfl, ow0, ow1, ordw, hf7⟩))
          clear RA0
          clear RA1
          have zhf3 := hf3.size; (try simp only [World.size_alloc, World.size_setCell, World.size_drew] at zhf3)
          have zhf4 := hf4.size; (try simp only [World.size_alloc, World.size_setCell, World.size_drew] at zhf4)
          have zhf5 := hf5.size; (try simp only [World.size_alloc, World.size_setCell, World.size_drew] at zhf5)
          have zhf6 := hf6.size; (try simp only [World.size_alloc, World.size_setCell, World.size_drew] at zhf6)
          have zhf7 := hf7.size; (try simp only [World.size_alloc, World.size_setCell, World.size_drew] at zhf7)
          have BA0 := BA0.fr (show Fr w2 w7 by exact Qf)
          have BA1 := BA1.fr (show Fr w2 w7 by exact Qf)
          clear FA0 FA1
          have FA0 := BA0.facts
          have FA1 := BA1.facts
          (try simp only [World.size_alloc, World.size_setCell, World.size_drew] at ordw)
          go_wp2_with fail
          refine (toGraph_w _ d0 _ (hv0.fr (by exact Qf)) hn0).mono ?_
          rintro e w8 ⟨aot8, capt8, rfl, ht8, hf8⟩
          have zhf8 := hf8.size; (try simp only [World.size_alloc, World.size_setCell, World.size_drew] at zhf8)
          have BA0 := BA0.fr (show Fr w7 w8 by exact Qf)
          have BA1 := BA1.fr (show Fr w7 w8 by exact Qf)
          clear FA0 FA1
          have FA0 := BA0.facts
          have FA1 := BA1.facts
          have ox0 := ht8
          go_wp2_with fail
          refine (toQuery_w _ d1 _ (hv1.fr (by exact Qf)) hn1).mono ?_
          rintro e w9 ⟨aot9_1, capt9_1, aot9_2, capt9_2, aot9_3, capt9_3, rfl, ht9, hf9⟩
          have zhf9 := hf9.size; (try simp only [World.size_alloc, World.size_setCell, World.size_drew] at zhf9)
          have BA0 := BA0.fr (show Fr w8 w9 by exact Qf)
          have BA1 := BA1.fr (show Fr w8 w9 by exact Qf)
          have Bx0 : Box w9 (w8.heap.size) #[.int .i64 d0.f0, .slice aot8 d0.f1.length capt8] 55 := (Box.new' (w := w8) (X := #[.int .i64 d0.f0, .slice aot8 d0.f1.length capt8]) (T := 55) (by simp)).fr (by exact Qf)
          clear FA0 FA1
          have FA0 := BA0.facts
          have FA1 := BA1.facts
          have Fx0 := Bx0.facts
          have ox1 := ht9
          go_wp2_with fail
          refine (toWalkS_w _ d4 _ (hv4.fr (by exact Qf)) hn4).mono ?_
          rintro e w10 ⟨aot10, capt10, rfl, ht10, hf10⟩
          have zhf10 := hf10.size; (try simp only [World.size_alloc, World.size_setCell, World.size_drew] at zhf10)
          have BA0 := BA0.fr (show Fr w9 w10 by exact Qf)
          have BA1 := BA1.fr (show Fr w9 w10 by exact Qf)
          have Bx0 := Bx0.fr (show Fr w9 w10 by exact Qf)
          have Bx1 : Box w10 (w9.heap.size) #[.bool d1.f0, .slice aot9_1 d1.f1.length capt9_1, .slice aot9_2 d1.f2.length capt9_2, .slice aot9_3 d1.f3.length capt9_3] 35 := (Box.new' (w := w9) (X := #[.bool d1.f0, .slice aot9_1 d1.f1.length capt9_1, .slice aot9_2 d1.f2.length capt9_2, .slice aot9_3 d1.f3.length capt9_3]) (T := 35) (by simp)).fr (by exact Qf)
          clear FA0 FA1 Fx0
          have FA0 := BA0.facts
          have FA1 := BA1.facts
          have Fx0 := Bx0.facts
          have Fx1 := Bx1.facts
          have ox4 := ht10
          go_wp2_with fail
          refine (toWalkS_w _ d5 _ (hv5.fr (by exact Qf)) hn5).mono ?_
          rintro e w11 ⟨aot11, capt11, rfl, ht11, hf11⟩
          have zhf11 := hf11.size; (try simp only [World.size_alloc, World.size_setCell, World.size_drew] at zhf11)
          have BA0 := BA0.fr (show Fr w10 w11 by exact Qf)
          have BA1 := BA1.fr (show Fr w10 w11 by exact Qf)
          have Bx0 := Bx0.fr (show Fr w10 w11 by exact Qf)
          have Bx1 := Bx1.fr (show Fr w10 w11 by exact Qf)
          clear FA0 FA1 Fx0 Fx1
          have FA0 := BA0.facts
          have FA1 := BA1.facts
          have Fx0 := Bx0.facts
          have Fx1 := Bx1.facts
          have ox5 := ht11
          go_wp2_with fail
          refine (HI.out _ _ _ _ _ (ox0.rd.fr (by exact Qf)) (ox1.rd.fr (by exact Qf)) (ox4.rd.fr (by exact Qf)) (ox5.rd.fr (by exact Qf))).mono ?_
          rintro e w12 ⟨aog0, capg0, aog1, capg1, lg0, kg0, lg1, kg1, rfl, og0, og1, ordg, hf12⟩
          have zhf12 := hf12.size; (try simp only [World.size_alloc, World.size_setCell, World.size_drew] at zhf12)
          have BA0 := BA0.fr (show Fr w11 w12 by exact Qf)
          have BA1 := BA1.fr (show Fr w11 w12 by exact Qf)
          have Bx0 := Bx0.fr (show Fr w11 w12 by exact Qf)
          have Bx1 := Bx1.fr (show Fr w11 w12 by exact Qf)
          clear FA0 FA1 Fx0 Fx1
          have FA0 := BA0.facts
          have FA1 := BA1.facts
          have Fx0 := Bx0.facts
          have Fx1 := Bx1.facts
          (try simp only [World.size_alloc, World.size_setCell, World.size_drew] at ordg)
          go_wp2_with fail
          refine (eqWalkS_same _ _ r0 _ (og0.rd.fr (by exact Qf)) (ow0.rd.fr (by exact Qf))).mono ?_
          rintro e w13 ⟨rfl, hf13⟩
          have zhf13 := hf13.size; (try simp only [World.size_alloc, World.size_setCell, World.size_drew] at zhf13)
          have BA0 := BA0.fr (show Fr w12 w13 by exact Qf)
          have BA1 := BA1.fr (show Fr w12 w13 by exact Qf)
          have Bx0 := Bx0.fr (show Fr w12 w13 by exact Qf)
          have Bx1 := Bx1.fr (show Fr w12 w13 by exact Qf)
          clear FA0 FA1 Fx0 Fx1
          have FA0 := BA0.facts
          have FA1 := BA1.facts
          have Fx0 := Bx0.facts
          have Fx1 := Bx1.facts
          go_wp2_with fail
          refine (eqWalkS_same _ _ r1 _ (og1.rd.fr (by exact Qf)) (ow1.rd.fr (by exact Qf))).mono ?_
          rintro e w14 ⟨rfl, hf14⟩
          have zhf14 := hf14.size; (try simp only [World.size_alloc, World.size_setCell, World.size_drew] at zhf14)
          have BA0 := BA0.fr (show Fr w13 w14 by exact Qf)
          have BA1 := BA1.fr (show Fr w13 w14 by exact Qf)
          have Bx0 := Bx0.fr (show Fr w13 w14 by exact Qf)
          have Bx1 := Bx1.fr (show Fr w13 w14 by exact Qf)
          clear FA0 FA1 Fx0 Fx1
          have FA0 := BA0.facts
          have FA1 := BA1.facts
          have Fx0 := Bx0.facts
          have Fx1 := Bx1.facts
          have RA0 : ∀ w', Sf w14 w' → ∀ o, w'.cell? ⟨w.heap.size, o, none⟩ = _ := fun w' h o => (BA0.fr h.out).cell o
          have RA1 : ∀ w', Sf w14 w' → ∀ o, w'.cell? ⟨w.heap.size + 1, o, none⟩ = _ := fun w' h o => (BA1.fr h.out).cell o
          have Rx0 : ∀ w', Sf w14 w' → ∀ o, w'.cell? ⟨w8.heap.size, o, none⟩ = _ := fun w' h o => (Bx0.fr h.out).cell o
          have Rx1 : ∀ w', Sf w14 w' → ∀ o, w'.cell? ⟨w9.heap.size, o, none⟩ = _ := fun w' h o => (Bx1.fr h.out).cell o
          go_wp2_with fail
          go_region_held3 (fun w' => Sf w14 w') ((refine Sf.mk ?_; repeat (first | (with_reducible exact Fr.refl _) | (with_reducible assumption) | (with_reducible refine Fr.drewN ?_ _) | (with_reducible refine Fr.drew ?_) | (with_reducible refine Fr.alloc ?_ _) | (with_reducible refine Fr.setCell ?_ (by exact Qz) _) | (with_reducible refine Fr.trans ?_ (by with_reducible assumption))))) (first | (go_at_call 26; refine (toGraph_w _ d0 _ (hv0.fr (by exact Qf)) hn0).mono ?_; rintro e w15 ⟨aot15, capt15, rfl, ht15, hf15⟩) | (go_at_call 29; refine (eqGraph_same _ _ d0 _ (ox0.rd.fr (by exact Qf)) (ht15.rd.fr (by exact Qf))).mono ?_; rintro e w16 ⟨rfl, hf16⟩))
          clear RA0
          clear RA1
          clear Rx0
          clear Rx1
          have zhf15 := hf15.size; (try simp only [World.size_alloc, World.size_setCell, World.size_drew] at zhf15)
          have zhf16 := hf16.size; (try simp only [World.size_alloc, World.size_setCell, World.size_drew] at zhf16)
          have BA0 := BA0.fr (show Fr w14 w16 by exact Qf)
          have BA1 := BA1.fr (show Fr w14 w16 by exact Qf)
          have Bx0 := Bx0.fr (show Fr w14 w16 by exact Qf)
          have Bx1 := Bx1.fr (show Fr w14 w16 by exact Qf)
          clear FA0 FA1 Fx0 Fx1
          have FA0 := BA0.facts
          have FA1 := BA1.facts
          have Fx0 := Bx0.facts
          have Fx1 := Bx1.facts
          have RA0 : ∀ w', Sf w16 w' → ∀ o, w'.cell? ⟨w.heap.size, o, none⟩ = _ := fun w' h o => (BA0.fr h.out).cell o
          have RA1 : ∀ w', Sf w16 w' → ∀ o, w'.cell? ⟨w.heap.size + 1, o, none⟩ = _ := fun w' h o => (BA1.fr h.out).cell o
          have Rx0 : ∀ w', Sf w16 w' → ∀ o, w'.cell? ⟨w8.heap.size, o, none⟩ = _ := fun w' h o => (Bx0.fr h.out).cell o
          have Rx1 : ∀ w', Sf w16 w' → ∀ o, w'.cell? ⟨w9.heap.size, o, none⟩ = _ := fun w' h o => (Bx1.fr h.out).cell o
          go_wp2_with fail
          go_region_held3 (fun w' => Sf w16 w') ((refine Sf.mk ?_; repeat (first | (with_reducible exact Fr.refl _) | (with_reducible assumption) | (with_reducible refine Fr.drewN ?_ _) | (with_reducible refine Fr.drew ?_) | (with_reducible refine Fr.alloc ?_ _) | (with_reducible refine Fr.setCell ?_ (by exact Qz) _) | (with_reducible refine Fr.trans ?_ (by with_reducible assumption))))) (first | (go_at_call 14; refine (toQuery_w _ d1 _ (hv1.fr (by exact Qf)) hn1).mono ?_; rintro e w17 ⟨aot17_1, capt17_1, aot17_2, capt17_2, aot17_3, capt17_3, rfl, ht17, hf17⟩) | (go_at_call 18; refine (eqQuery_same _ _ d1 _ (ox1.rd.fr (by exact Qf)) (ht17.rd.fr (by exact Qf))).mono ?_; rintro e w18 ⟨rfl, hf18⟩))
          clear RA0
          clear RA1
          clear Rx0
          clear Rx1
          have zhf17 := hf17.size; (try simp only [World.size_alloc, World.size_setCell, World.size_drew] at zhf17)
          have zhf18 := hf18.size; (try simp only [World.size_alloc, World.size_setCell, World.size_drew] at zhf18)
          have BA0 := BA0.fr (show Fr w16 w18 by exact Qf)
          have BA1 := BA1.fr (show Fr w16 w18 by exact Qf)
          have Bx0 := Bx0.fr (show Fr w16 w18 by exact Qf)
          have Bx1 := Bx1.fr (show Fr w16 w18 by exact Qf)
          clear FA0 FA1 Fx0 Fx1
          have FA0 := BA0.facts
          have FA1 := BA1.facts
          have Fx0 := Bx0.facts
          have Fx1 := Bx1.facts
          go_wp2_with fail
          refine (toWalkS_w _ d4 _ (hv4.fr (by exact Qf)) hn4).mono ?_
          rintro e w19 ⟨aot19, capt19, rfl, ht19, hf19⟩
          have zhf19 := hf19.size; (try simp only [World.size_alloc, World.size_setCell, World.size_drew] at zhf19)
          have BA0 := BA0.fr (show Fr w18 w19 by exact Qf)
          have BA1 := BA1.fr (show Fr w18 w19 by exact Qf)
          have Bx0 := Bx0.fr (show Fr w18 w19 by exact Qf)
          have Bx1 := Bx1.fr (show Fr w18 w19 by exact Qf)
          clear FA0 FA1 Fx0 Fx1
          have FA0 := BA0.facts
          have FA1 := BA1.facts
          have Fx0 := Bx0.facts
          have Fx1 := Bx1.facts
          go_wp2_with fail
          refine (eqWalkS_same _ _ d4 _ (ox4.rd.fr (by exact Qf)) (ht19.rd.fr (by exact Qf))).mono ?_
          rintro e w20 ⟨rfl, hf20⟩
          have zhf20 := hf20.size; (try simp only [World.size_alloc, World.size_setCell, World.size_drew] at zhf20)
          have BA0 := BA0.fr (show Fr w19 w20 by exact Qf)
          have BA1 := BA1.fr (show Fr w19 w20 by exact Qf)
          have Bx0 := Bx0.fr (show Fr w19 w20 by exact Qf)
          have Bx1 := Bx1.fr (show Fr w19 w20 by exact Qf)
          clear FA0 FA1 Fx0 Fx1
          have FA0 := BA0.facts
          have FA1 := BA1.facts
          have Fx0 := Bx0.facts
          have Fx1 := Bx1.facts
          go_wp2_with fail
          refine (toWalkS_w _ d5 _ (hv5.fr (by exact Qf)) hn5).mono ?_
          rintro e w21 ⟨aot21, capt21, rfl, ht21, hf21⟩
          have zhf21 := hf21.size; (try simp only [World.size_alloc, World.size_setCell, World.size_drew] at zhf21)
          have BA0 := BA0.fr (show Fr w20 w21 by exact Qf)
          have BA1 := BA1.fr (show Fr w20 w21 by exact Qf)
          have Bx0 := Bx0.fr (show Fr w20 w21 by exact Qf)
          have Bx1 := Bx1.fr (show Fr w20 w21 by exact Qf)
          clear FA0 FA1 Fx0 Fx1
          have FA0 := BA0.facts
          have FA1 := BA1.facts
          have Fx0 := Bx0.facts
          have Fx1 := Bx1.facts
          go_wp2_with fail
          refine (eqWalkS_same _ _ d5 _ (ox5.rd.fr (by exact Qf)) (ht21.rd.fr (by exact Qf))).mono ?_
          rintro e w22 ⟨rfl, hf22⟩
          have zhf22 := hf22.size; (try simp only [World.size_alloc, World.size_setCell, World.size_drew] at zhf22)
          have BA0 := BA0.fr (show Fr w21 w22 by exact Qf)
          have BA1 := BA1.fr (show Fr w21 w22 by exact Qf)
          have Bx0 := Bx0.fr (show Fr w21 w22 by exact Qf)
          have Bx1 := Bx1.fr (show Fr w21 w22 by exact Qf)
          clear FA0 FA1 Fx0 Fx1
          have FA0 := BA0.facts
          have FA1 := BA1.facts
          have Fx0 := Bx0.facts
          have Fx1 := Bx1.facts
          go_wp2_with fail
          refine (markGraph_w _ d0 1 (w7.heap.size) (w8.heap.size) _ (ox0.fr (by exact Qf)) (by exact Qz) (by omega) (by omega)).mono ?_
          rintro e w23 ⟨rfl, omx0, sp23⟩
          have zsp23 := sp23.size; (try simp only [World.size_alloc, World.size_setCell, World.size_drew] at zsp23)
          have ow0_23 := (ow0.fr (show Fr w7 w22 by exact Qf)).span sp23 (by exact Qz)
          have ow1_23 := (ow1.fr (show Fr w7 w22 by exact Qf)).span sp23 (by exact Qz)
          have ox1_23 := (ox1.fr (show Fr w9 w22 by exact Qf)).span sp23 (by exact Qz)
          have ox4_23 := (ox4.fr (show Fr w10 w22 by exact Qf)).span sp23 (by exact Qz)
          have ox5_23 := (ox5.fr (show Fr w11 w22 by exact Qf)).span sp23 (by exact Qz)
          have og0_23 := (og0.fr (show Fr w12 w22 by exact Qf)).span sp23 (by exact Qz)
          have og1_23 := (og1.fr (show Fr w12 w22 by exact Qf)).span sp23 (by exact Qz)
          have BA0 := (BA0.fr (show Fr w22 w22 by exact Qf)).span sp23 (by exact Qz)
          have BA1 := (BA1.fr (show Fr w22 w22 by exact Qf)).span sp23 (by exact Qz)
          have Bx0 := (Bx0.fr (show Fr w22 w22 by exact Qf)).span sp23 (by exact Qz)
          have Bx1 := (Bx1.fr (show Fr w22 w22 by exact Qf)).span sp23 (by exact Qz)
          have hF23 : Fr w w23 := Span.fr (show Fr w w22 by exact Qf) sp23 (by exact Qz)
          clear FA0 FA1 Fx0 Fx1
          have FA0 := BA0.facts
          have FA1 := BA1.facts
          have Fx0 := Bx0.facts
          have Fx1 := Bx1.facts
          obtain ⟨kx0, hkx0⟩ : ∃ q : Int, 1 + ((d0.cnt : Nat) : Int) = q := ⟨_, rfl⟩
          have hpkx0 : 0 < kx0 := by omega
          have hbkx0 : kx0 ≤ 150000000 := by omega
          have hdkx0 : decide (kx0 < 0) = false := by simp; omega
          rw [hkx0]
          clear hkx0
          go_wp2_with fail
          refine (markQuery_w _ d1 kx0 ((w8.alloc (.cells #[.int .i64 d0.f0, .slice aot8 d0.f1.length capt8] 55)).heap.size) (w9.heap.size) _ (ox1_23.fr (by exact Qf)) (by exact Qz) (by omega) (by omega)).mono ?_
          rintro e w24 ⟨rfl, omx1, sp24⟩
          have zsp24 := sp24.size; (try simp only [World.size_alloc, World.size_setCell, World.size_drew] at zsp24)
          have ow0_24 := (ow0_23.fr (show Fr w23 w23 by exact Qf)).span sp24 (by exact Qz)
          have ow1_24 := (ow1_23.fr (show Fr w23 w23 by exact Qf)).span sp24 (by exact Qz)
          have ox4_24 := (ox4_23.fr (show Fr w23 w23 by exact Qf)).span sp24 (by exact Qz)
          have ox5_24 := (ox5_23.fr (show Fr w23 w23 by exact Qf)).span sp24 (by exact Qz)
          have og0_24 := (og0_23.fr (show Fr w23 w23 by exact Qf)).span sp24 (by exact Qz)
          have og1_24 := (og1_23.fr (show Fr w23 w23 by exact Qf)).span sp24 (by exact Qz)
          have BA0 := (BA0.fr (show Fr w23 w23 by exact Qf)).span sp24 (by exact Qz)
          have BA1 := (BA1.fr (show Fr w23 w23 by exact Qf)).span sp24 (by exact Qz)
          have Bx0 := (Bx0.fr (show Fr w23 w23 by exact Qf)).span sp24 (by exact Qz)
          have Bx1 := (Bx1.fr (show Fr w23 w23 by exact Qf)).span sp24 (by exact Qz)
          have hF24 : Fr w w24 := Span.fr (show Fr w w23 by exact Qf) sp24 (by exact Qz)
          clear FA0 FA1 Fx0 Fx1
          have FA0 := BA0.facts
          have FA1 := BA1.facts
          have Fx0 := Bx0.facts
          have Fx1 := Bx1.facts
          obtain ⟨kx1, hkx1⟩ : ∃ q : Int, kx0 + ((d1.cnt : Nat) : Int) = q := ⟨_, rfl⟩
          have hpkx1 : 0 < kx1 := by omega
          have hbkx1 : kx1 ≤ 300000000 := by omega
          have hdkx1 : decide (kx1 < 0) = false := by simp; omega
          rw [hkx1]
          clear hkx1
          go_wp2_with fail
          refine (markWalkS_w _ d4 kx1 ((w9.alloc (.cells #[.bool d1.f0, .slice aot9_1 d1.f1.length capt9_1, .slice aot9_2 d1.f2.length capt9_2, .slice aot9_3 d1.f3.length capt9_3] 35)).heap.size) (w10.heap.size) _ (ox4_24.fr (by exact Qf)) (by omega) (by omega)).mono ?_
          rintro e w25 ⟨rfl, omx4, sp25⟩
          have zsp25 := sp25.size; (try simp only [World.size_alloc, World.size_setCell, World.size_drew] at zsp25)
          have ow0_25 := (ow0_24.fr (show Fr w24 w24 by exact Qf)).span sp25 (by exact Qz)
          have ow1_25 := (ow1_24.fr (show Fr w24 w24 by exact Qf)).span sp25 (by exact Qz)
          have ox5_25 := (ox5_24.fr (show Fr w24 w24 by exact Qf)).span sp25 (by exact Qz)
          have og0_25 := (og0_24.fr (show Fr w24 w24 by exact Qf)).span sp25 (by exact Qz)
          have og1_25 := (og1_24.fr (show Fr w24 w24 by exact Qf)).span sp25 (by exact Qz)
          have BA0 := (BA0.fr (show Fr w24 w24 by exact Qf)).span sp25 (by exact Qz)
          have BA1 := (BA1.fr (show Fr w24 w24 by exact Qf)).span sp25 (by exact Qz)
          have Bx0 := (Bx0.fr (show Fr w24 w24 by exact Qf)).span sp25 (by exact Qz)
          have Bx1 := (Bx1.fr (show Fr w24 w24 by exact Qf)).span sp25 (by exact Qz)
          have hF25 : Fr w w25 := Span.fr (show Fr w w24 by exact Qf) sp25 (by exact Qz)
          clear FA0 FA1 Fx0 Fx1
          have FA0 := BA0.facts
          have FA1 := BA1.facts
          have Fx0 := Bx0.facts
          have Fx1 := Bx1.facts
          obtain ⟨kx4, hkx4⟩ : ∃ q : Int, kx1 + 4 * (d4.length : Int) = q := ⟨_, rfl⟩
          have hpkx4 : 0 < kx4 := by omega
          have hbkx4 : kx4 ≤ 450000000 := by omega
          have hdkx4 : decide (kx4 < 0) = false := by simp; omega
          rw [hkx4]
          clear hkx4
          go_wp2_with fail
          refine (markWalkS_w _ d5 kx4 (w10.heap.size) (w11.heap.size) _ (ox5_25.fr (by exact Qf)) (by omega) (by omega)).mono ?_
          rintro e w26 ⟨rfl, omx5, sp26⟩
          have zsp26 := sp26.size; (try simp only [World.size_alloc, World.size_setCell, World.size_drew] at zsp26)
          have ow0_26 := (ow0_25.fr (show Fr w25 w25 by exact Qf)).span sp26 (by exact Qz)
          have ow1_26 := (ow1_25.fr (show Fr w25 w25 by exact Qf)).span sp26 (by exact Qz)
          have og0_26 := (og0_25.fr (show Fr w25 w25 by exact Qf)).span sp26 (by exact Qz)
          have og1_26 := (og1_25.fr (show Fr w25 w25 by exact Qf)).span sp26 (by exact Qz)
          have BA0 := (BA0.fr (show Fr w25 w25 by exact Qf)).span sp26 (by exact Qz)
          have BA1 := (BA1.fr (show Fr w25 w25 by exact Qf)).span sp26 (by exact Qz)
          have Bx0 := (Bx0.fr (show Fr w25 w25 by exact Qf)).span sp26 (by exact Qz)
          have Bx1 := (Bx1.fr (show Fr w25 w25 by exact Qf)).span sp26 (by exact Qz)
          have hF26 : Fr w w26 := Span.fr (show Fr w w25 by exact Qf) sp26 (by exact Qz)
          clear FA0 FA1 Fx0 Fx1
          have FA0 := BA0.facts
          have FA1 := BA1.facts
          have Fx0 := Bx0.facts
          have Fx1 := Bx1.facts
          obtain ⟨kx5, hkx5⟩ : ∃ q : Int, kx4 + 4 * (d5.length : Int) = q := ⟨_, rfl⟩
          have hpkx5 : 0 < kx5 := by omega
          have hbkx5 : kx5 ≤ 600000000 := by omega
          have hdkx5 : decide (kx5 < 0) = false := by simp; omega
          rw [hkx5]
          clear hkx5
          go_wp2_with fail
          refine (eqWalkS_same _ _ r0 _ (og0_26.rd.fr (by exact Qf)) (ow0_26.rd.fr (by exact Qf))).mono ?_
          rintro e w27 ⟨rfl, hf27⟩
          have zhf27 := hf27.size; (try simp only [World.size_alloc, World.size_setCell, World.size_drew] at zhf27)
          have BA0 := BA0.fr (show Fr w26 w27 by exact Qf)
          have BA1 := BA1.fr (show Fr w26 w27 by exact Qf)
          have Bx0 := Bx0.fr (show Fr w26 w27 by exact Qf)
          have Bx1 := Bx1.fr (show Fr w26 w27 by exact Qf)
          clear FA0 FA1 Fx0 Fx1
          have FA0 := BA0.facts
          have FA1 := BA1.facts
          have Fx0 := Bx0.facts
          have Fx1 := Bx1.facts
          go_wp2_with fail
          refine (eqWalkS_same _ _ r1 _ (og1_26.rd.fr (by exact Qf)) (ow1_26.rd.fr (by exact Qf))).mono ?_
          rintro e w28 ⟨rfl, hf28⟩
          have zhf28 := hf28.size; (try simp only [World.size_alloc, World.size_setCell, World.size_drew] at zhf28)
          have BA0 := BA0.fr (show Fr w27 w28 by exact Qf)
          have BA1 := BA1.fr (show Fr w27 w28 by exact Qf)
          have Bx0 := Bx0.fr (show Fr w27 w28 by exact Qf)
          have Bx1 := Bx1.fr (show Fr w27 w28 by exact Qf)
          clear FA0 FA1 Fx0 Fx1
          have FA0 := BA0.facts
          have FA1 := BA1.facts
          have Fx0 := Bx0.facts
          have Fx1 := Bx1.facts
          go_wp2_with fail
          refine (markWalkS_w _ r0 1 (lg0) (kg0) _ (og0_26.fr (by exact Qf)) (by omega) (by omega)).mono ?_
          rintro e w29 ⟨rfl, omg0, sp29⟩
          have zsp29 := sp29.size; (try simp only [World.size_alloc, World.size_setCell, World.size_drew] at zsp29)
          have ow0_29 := (ow0_26.fr (show Fr w26 w28 by exact Qf)).span sp29 (by exact Qz)
          have ow1_29 := (ow1_26.fr (show Fr w26 w28 by exact Qf)).span sp29 (by exact Qz)
          have og1_29 := (og1_26.fr (show Fr w26 w28 by exact Qf)).span sp29 (by exact Qz)
          have BA0 := (BA0.fr (show Fr w28 w28 by exact Qf)).span sp29 (by exact Qz)
          have BA1 := (BA1.fr (show Fr w28 w28 by exact Qf)).span sp29 (by exact Qz)
          have Bx0 := (Bx0.fr (show Fr w28 w28 by exact Qf)).span sp29 (by exact Qz)
          have Bx1 := (Bx1.fr (show Fr w28 w28 by exact Qf)).span sp29 (by exact Qz)
          have hF29 : Fr w w29 := Span.fr (show Fr w w28 by exact Qf) sp29 (by exact Qz)
          clear FA0 FA1 Fx0 Fx1
          have FA0 := BA0.facts
          have FA1 := BA1.facts
          have Fx0 := Bx0.facts
          have Fx1 := Bx1.facts
          obtain ⟨mg0, hmg0⟩ : ∃ q : Int, 1 + 4 * (r0.length : Int) = q := ⟨_, rfl⟩
          have hpmg0 : 0 < mg0 := by omega
          have hbmg0 : mg0 ≤ 2000000000000 := by omega
          have hdmg0 : decide (mg0 < 0) = false := by simp; omega
          rw [hmg0]
          go_wp2_with fail
          refine (markWalkS_w _ r1 mg0 (lg1) (kg1) _ (og1_29.fr (by exact Qf)) (by omega) (by omega)).mono ?_
          rintro e w30 ⟨rfl, omg1, sp30⟩
          have zsp30 := sp30.size; (try simp only [World.size_alloc, World.size_setCell, World.size_drew] at zsp30)
          have ow0_30 := (ow0_29.fr (show Fr w29 w29 by exact Qf)).span sp30 (by exact Qz)
          have ow1_30 := (ow1_29.fr (show Fr w29 w29 by exact Qf)).span sp30 (by exact Qz)
          have og0_30 := (omg0.fr (show Fr w29 w29 by exact Qf)).span sp30 (by exact Qz)
          have BA0 := (BA0.fr (show Fr w29 w29 by exact Qf)).span sp30 (by exact Qz)
          have BA1 := (BA1.fr (show Fr w29 w29 by exact Qf)).span sp30 (by exact Qz)
          have Bx0 := (Bx0.fr (show Fr w29 w29 by exact Qf)).span sp30 (by exact Qz)
          have Bx1 := (Bx1.fr (show Fr w29 w29 by exact Qf)).span sp30 (by exact Qz)
          have hF30 : Fr w w30 := Span.fr (show Fr w w29 by exact Qf) sp30 (by exact Qz)
          clear FA0 FA1 Fx0 Fx1
          have FA0 := BA0.facts
          have FA1 := BA1.facts
          have Fx0 := Bx0.facts
          have Fx1 := Bx1.facts
          obtain ⟨mg1, hmg1⟩ : ∃ q : Int, mg0 + 4 * (r1.length : Int) = q := ⟨_, rfl⟩
          have hpmg1 : 0 < mg1 := by omega
          have hbmg1 : mg1 ≤ 4000000000000 := by omega
          have hdmg1 : decide (mg1 < 0) = false := by simp; omega
          rw [hmg1]
          have hheldg0 := fun (W : World) (hf : Fr w30 W) => heldWalkS_w (.slice aog0 r0.length capg0) 1 r0.length W (og0_30.rd.fr hf) (by omega) (by omega)
          rw [hmg0] at hheldg0
          have HHg0 := Lib.hid hheldg0
          clear hheldg0
          have hheldg1 := fun (W : World) (hf : Fr w30 W) => heldWalkS_w (.slice aog1 r1.length capg1) mg0 r1.length W (omg1.rd.fr hf) (by omega) (by omega)
          rw [hmg1] at hheldg1
          have HHg1 := Lib.hid hheldg1
          clear hheldg1
          clear hmg0 hmg1
          go_wp2_with fail
          refine (HHg0.out _ (by exact Qf)).mono ?_
          rintro e w31 ⟨rfl, hf31⟩
          have zhf31 := hf31.size; (try simp only [World.size_alloc, World.size_setCell, World.size_drew] at zhf31)
          have BA0 := BA0.fr (show Fr w30 w31 by exact Qf)
          have BA1 := BA1.fr (show Fr w30 w31 by exact Qf)
          have Bx0 := Bx0.fr (show Fr w30 w31 by exact Qf)
          have Bx1 := Bx1.fr (show Fr w30 w31 by exact Qf)
          clear FA0 FA1 Fx0 Fx1
          have FA0 := BA0.facts
          have FA1 := BA1.facts
          have Fx0 := Bx0.facts
          have Fx1 := Bx1.facts
          go_wp2_with fail
          refine (HHg1.out _ (by exact Qf)).mono ?_
          rintro e w32 ⟨rfl, hf32⟩
          have zhf32 := hf32.size; (try simp only [World.size_alloc, World.size_setCell, World.size_drew] at zhf32)
          have BA0 := BA0.fr (show Fr w31 w32 by exact Qf)
          have BA1 := BA1.fr (show Fr w31 w32 by exact Qf)
          have Bx0 := Bx0.fr (show Fr w31 w32 by exact Qf)
          have Bx1 := Bx1.fr (show Fr w31 w32 by exact Qf)
          clear FA0 FA1 Fx0 Fx1
          have FA0 := BA0.facts
          have FA1 := BA1.facts
          have Fx0 := Bx0.facts
          have Fx1 := Bx1.facts
          have RA0 : ∀ w', Sf w32 w' → ∀ o, w'.cell? ⟨w.heap.size, o, none⟩ = _ := fun w' h o => (BA0.fr h.out).cell o
          have RA1 : ∀ w', Sf w32 w' → ∀ o, w'.cell? ⟨w.heap.size + 1, o, none⟩ = _ := fun w' h o => (BA1.fr h.out).cell o
          have Rx0 : ∀ w', Sf w32 w' → ∀ o, w'.cell? ⟨w8.heap.size, o, none⟩ = _ := fun w' h o => (Bx0.fr h.out).cell o
          have Rx1 : ∀ w', Sf w32 w' → ∀ o, w'.cell? ⟨w9.heap.size, o, none⟩ = _ := fun w' h o => (Bx1.fr h.out).cell o
          go_wp2_with fail
          go_region_held3 (fun w' => Sf w32 w') ((refine Sf.mk ?_; repeat (first | (with_reducible exact Fr.refl _) | (with_reducible assumption) | (with_reducible refine Fr.drewN ?_ _) | (with_reducible refine Fr.drew ?_) | (with_reducible refine Fr.alloc ?_ _) | (with_reducible refine Fr.setCell ?_ (by exact Qz) _) | (with_reducible refine Fr.trans ?_ (by with_reducible assumption))))) (first | (go_at_call 26; refine (toGraph_w _ d0 _ (hv0.fr (by exact Qf)) hn0).mono ?_; rintro e w33 ⟨aot33, capt33, rfl, ht33, hf33⟩) | (go_at_call 14; refine (toQuery_w _ d1 _ (hv1.fr (by exact Qf)) hn1).mono ?_; rintro e w34 ⟨aot34_1, capt34_1, aot34_2, capt34_2, aot34_3, capt34_3, rfl, ht34, hf34⟩) | (go_at_call 15; with_reducible refine (toWalkS_w _ d4 _ (hv4.fr (by exact Qf)) hn4).mono ?_; rintro e w35 ⟨aot35, capt35, rfl, ht35, hf35⟩) | (go_at_call 15; with_reducible refine (toWalkS_w _ d5 _ (hv5.fr (by exact Qf)) hn5).mono ?_; rintro e w36 ⟨aot36, capt36, rfl, ht36, hf36⟩) | (go_at_call 35; refine (HI.out _ _ _ _ _ (ht33.rd.fr (by exact Qf)) (ht34.rd.fr (by exact Qf)) (ht35.rd.fr (by exact Qf)) (ht36.rd.fr (by exact Qf))).mono ?_; rintro e w37 ⟨aoh0, caph0, aoh1, caph1, lh0, kh0, lh1, kh1, rfl, oh0, oh1, ordh, hf37⟩))
          clear RA0
          clear RA1
          clear Rx0
          clear Rx1
          have zhf33 := hf33.size; (try simp only [World.size_alloc, World.size_setCell, World.size_drew] at zhf33)
          have zhf34 := hf34.size; (try simp only [World.size_alloc, World.size_setCell, World.size_drew] at zhf34)
          have zhf35 := hf35.size; (try simp only [World.size_alloc, World.size_setCell, World.size_drew] at zhf35)
          have zhf36 := hf36.size; (try simp only [World.size_alloc, World.size_setCell, World.size_drew] at zhf36)
          have zhf37 := hf37.size; (try simp only [World.size_alloc, World.size_setCell, World.size_drew] at zhf37)
          have BA0 := BA0.fr (show Fr w32 w37 by exact Qf)
          have BA1 := BA1.fr (show Fr w32 w37 by exact Qf)
          have Bx0 := Bx0.fr (show Fr w32 w37 by exact Qf)
          have Bx1 := Bx1.fr (show Fr w32 w37 by exact Qf)
          clear FA0 FA1 Fx0 Fx1
          have FA0 := BA0.facts
          have FA1 := BA1.facts
          have Fx0 := Bx0.facts
          have Fx1 := Bx1.facts
          (try simp only [World.size_alloc, World.size_setCell, World.size_drew] at ordh)
          go_wp2_with fail
          refine (eqWalkS_same _ _ r0 _ (oh0.rd.fr (by exact Qf)) (ow0_30.rd.fr (by exact Qf))).mono ?_
          rintro e w38 ⟨rfl, hf38⟩
          have zhf38 := hf38.size; (try simp only [World.size_alloc, World.size_setCell, World.size_drew] at zhf38)
          have BA0 := BA0.fr (show Fr w37 w38 by exact Qf)
          have BA1 := BA1.fr (show Fr w37 w38 by exact Qf)
          have Bx0 := Bx0.fr (show Fr w37 w38 by exact Qf)
          have Bx1 := Bx1.fr (show Fr w37 w38 by exact Qf)
          clear FA0 FA1 Fx0 Fx1
          have FA0 := BA0.facts
          have FA1 := BA1.facts
          have Fx0 := Bx0.facts
          have Fx1 := Bx1.facts
          go_wp2_with fail
          refine (eqWalkS_same _ _ r1 _ (oh1.rd.fr (by exact Qf)) (ow1_30.rd.fr (by exact Qf))).mono ?_
          rintro e w39 ⟨rfl, hf39⟩
          have zhf39 := hf39.size; (try simp only [World.size_alloc, World.size_setCell, World.size_drew] at zhf39)
          have BA0 := BA0.fr (show Fr w38 w39 by exact Qf)
          have BA1 := BA1.fr (show Fr w38 w39 by exact Qf)
          have Bx0 := Bx0.fr (show Fr w38 w39 by exact Qf)
          have Bx1 := Bx1.fr (show Fr w38 w39 by exact Qf)
          clear FA0 FA1 Fx0 Fx1
          have FA0 := BA0.facts
          have FA1 := BA1.facts
          have Fx0 := Bx0.facts
          have Fx1 := Bx1.facts
          go_wp2_with fail
          refine (HHg0.out _ (by exact Qf)).mono ?_
          rintro e w40 ⟨rfl, hf40⟩
          have zhf40 := hf40.size; (try simp only [World.size_alloc, World.size_setCell, World.size_drew] at zhf40)
          have BA0 := BA0.fr (show Fr w39 w40 by exact Qf)
          have BA1 := BA1.fr (show Fr w39 w40 by exact Qf)
          have Bx0 := Bx0.fr (show Fr w39 w40 by exact Qf)
          have Bx1 := Bx1.fr (show Fr w39 w40 by exact Qf)
          clear FA0 FA1 Fx0 Fx1
          have FA0 := BA0.facts
          have FA1 := BA1.facts
          have Fx0 := Bx0.facts
          have Fx1 := Bx1.facts
          go_wp2_with fail
          refine (HHg1.out _ (by exact Qf)).mono ?_
          rintro e w41 ⟨rfl, hf41⟩
          have zhf41 := hf41.size; (try simp only [World.size_alloc, World.size_setCell, World.size_drew] at zhf41)
          have BA0 := BA0.fr (show Fr w40 w41 by exact Qf)
          have BA1 := BA1.fr (show Fr w40 w41 by exact Qf)
          have Bx0 := Bx0.fr (show Fr w40 w41 by exact Qf)
          have Bx1 := Bx1.fr (show Fr w40 w41 by exact Qf)
          clear FA0 FA1 Fx0 Fx1
          have FA0 := BA0.facts
          have FA1 := BA1.facts
          have Fx0 := Bx0.facts
          have Fx1 := Bx1.facts
          go_wp2_with fail
          go_ret
          exact ⟨rfl, by exact Qf⟩
        · skip
          have hr : szR q2 (d5.length) = -1 := szR_no hl3
          have HR := Lib.hid hr
          clear hr hspec himpl
          go_enter Tryz.func6, Tryz.ntmps6
          go_wp2_with fail
          refine (szGraph_w _ d0 _ _ (hv0.fr (by exact Qf)) hs0 (by omega) (by omega)).mono ?_
          rintro e w1 ⟨rfl, hf1⟩
          have zhf1 := hf1.size; (try simp only [World.size_alloc, World.size_setCell, World.size_drew] at zhf1)
          have BA0 : Box w1 (w.heap.size) #[.int .i64 d0.f0, u0] 48 := (Box.new' (w := w) (X := #[.int .i64 d0.f0, u0]) (T := 48) (by simp)).fr (by exact Qf)
          have FA0 := BA0.facts
          have BA1 : Box w1 (w.heap.size + 1) #[.bool d1.f0, u1_1, u1_2, u1_3] 26 := (Box.new' (w := (w.alloc (.cells #[.int .i64 d0.f0, u0] 48))) (X := #[.bool d1.f0, u1_1, u1_2, u1_3]) (T := 26) (by simp)).fr (by exact Qf)
          have FA1 := BA1.facts
          rw [HQ0.out]
          go_wp2_with fail
          refine (szQuery_w _ d1 _ _ (hv1.fr (by exact Qf)) hs1 (by omega) (by omega)).mono ?_
          rintro e w2 ⟨rfl, hf2⟩
          have zhf2 := hf2.size; (try simp only [World.size_alloc, World.size_setCell, World.size_drew] at zhf2)
          have BA0 : Box w2 (w.heap.size) #[.int .i64 d0.f0, u0] 48 := (Box.new' (w := w) (X := #[.int .i64 d0.f0, u0]) (T := 48) (by simp)).fr (by exact Qf)
          have FA0 := BA0.facts
          have BA1 : Box w2 (w.heap.size + 1) #[.bool d1.f0, u1_1, u1_2, u1_3] 26 := (Box.new' (w := (w.alloc (.cells #[.int .i64 d0.f0, u0] 48))) (X := #[.bool d1.f0, u1_1, u1_2, u1_3]) (T := 26) (by simp)).fr (by exact Qf)
          have FA1 := BA1.facts
          rw [HQ1.out]
          go_wp2_with fail
          refine (szWalkS_any _ d4 _ _ (hv4.fr (by exact Qf)) (by omega) (by omega)).mono ?_
          rintro e _ ⟨rfl, rfl⟩
          rw [HQ2.out]
          go_wp2_with fail
          refine (szWalkS_any _ d5 _ _ (hv5.fr (by exact Qf)) (by omega) (by omega)).mono ?_
          rintro e _ ⟨rfl, rfl⟩
          rw [HR.out]
          go_wp2_with fail
          go_ret
          exact ⟨rfl, by exact Qf⟩
      · skip
        have hr : szR q1 (d4.length) = -1 := szR_no hl2
        have HR := Lib.hid hr
        clear hr hspec himpl
        go_enter Tryz.func6, Tryz.ntmps6
        go_wp2_with fail
        refine (szGraph_w _ d0 _ _ (hv0.fr (by exact Qf)) hs0 (by omega) (by omega)).mono ?_
        rintro e w1 ⟨rfl, hf1⟩
        have zhf1 := hf1.size; (try simp only [World.size_alloc, World.size_setCell, World.size_drew] at zhf1)
        have BA0 : Box w1 (w.heap.size) #[.int .i64 d0.f0, u0] 48 := (Box.new' (w := w) (X := #[.int .i64 d0.f0, u0]) (T := 48) (by simp)).fr (by exact Qf)
        have FA0 := BA0.facts
        have BA1 : Box w1 (w.heap.size + 1) #[.bool d1.f0, u1_1, u1_2, u1_3] 26 := (Box.new' (w := (w.alloc (.cells #[.int .i64 d0.f0, u0] 48))) (X := #[.bool d1.f0, u1_1, u1_2, u1_3]) (T := 26) (by simp)).fr (by exact Qf)
        have FA1 := BA1.facts
        rw [HQ0.out]
        go_wp2_with fail
        refine (szQuery_w _ d1 _ _ (hv1.fr (by exact Qf)) hs1 (by omega) (by omega)).mono ?_
        rintro e w2 ⟨rfl, hf2⟩
        have zhf2 := hf2.size; (try simp only [World.size_alloc, World.size_setCell, World.size_drew] at zhf2)
        have BA0 : Box w2 (w.heap.size) #[.int .i64 d0.f0, u0] 48 := (Box.new' (w := w) (X := #[.int .i64 d0.f0, u0]) (T := 48) (by simp)).fr (by exact Qf)
        have FA0 := BA0.facts
        have BA1 : Box w2 (w.heap.size + 1) #[.bool d1.f0, u1_1, u1_2, u1_3] 26 := (Box.new' (w := (w.alloc (.cells #[.int .i64 d0.f0, u0] 48))) (X := #[.bool d1.f0, u1_1, u1_2, u1_3]) (T := 26) (by simp)).fr (by exact Qf)
        have FA1 := BA1.facts
        rw [HQ1.out]
        go_wp2_with fail
        refine (szWalkS_any _ d4 _ _ (hv4.fr (by exact Qf)) (by omega) (by omega)).mono ?_
        rintro e _ ⟨rfl, rfl⟩
        rw [HR.out]
        go_wp2_with fail
        go_ret
        exact ⟨rfl, by exact Qf⟩
    · skip
      have hr : szR q0 (d1.bulk) = -1 := szR_no hl1
      have HR := Lib.hid hr
      clear hr hspec himpl
      go_enter Tryz.func6, Tryz.ntmps6
      go_wp2_with fail
      refine (szGraph_w _ d0 _ _ (hv0.fr (by exact Qf)) hs0 (by omega) (by omega)).mono ?_
      rintro e w1 ⟨rfl, hf1⟩
      have zhf1 := hf1.size; (try simp only [World.size_alloc, World.size_setCell, World.size_drew] at zhf1)
      have BA0 : Box w1 (w.heap.size) #[.int .i64 d0.f0, u0] 48 := (Box.new' (w := w) (X := #[.int .i64 d0.f0, u0]) (T := 48) (by simp)).fr (by exact Qf)
      have FA0 := BA0.facts
      have BA1 : Box w1 (w.heap.size + 1) #[.bool d1.f0, u1_1, u1_2, u1_3] 26 := (Box.new' (w := (w.alloc (.cells #[.int .i64 d0.f0, u0] 48))) (X := #[.bool d1.f0, u1_1, u1_2, u1_3]) (T := 26) (by simp)).fr (by exact Qf)
      have FA1 := BA1.facts
      rw [HQ0.out]
      go_wp2_with fail
      refine (szQuery_w _ d1 _ _ (hv1.fr (by exact Qf)) hs1 (by omega) (by omega)).mono ?_
      rintro e w2 ⟨rfl, hf2⟩
      have zhf2 := hf2.size; (try simp only [World.size_alloc, World.size_setCell, World.size_drew] at zhf2)
      have BA0 : Box w2 (w.heap.size) #[.int .i64 d0.f0, u0] 48 := (Box.new' (w := w) (X := #[.int .i64 d0.f0, u0]) (T := 48) (by simp)).fr (by exact Qf)
      have FA0 := BA0.facts
      have BA1 : Box w2 (w.heap.size + 1) #[.bool d1.f0, u1_1, u1_2, u1_3] 26 := (Box.new' (w := (w.alloc (.cells #[.int .i64 d0.f0, u0] 48))) (X := #[.bool d1.f0, u1_1, u1_2, u1_3]) (T := 26) (by simp)).fr (by exact Qf)
      have FA1 := BA1.facts
      rw [HR.out]
      go_wp2_with fail
      go_ret
      exact ⟨rfl, by exact Qf⟩
  · skip
    have hr : szR 1048576 (d0.bulk) = -1 := szR_no hl0
    have HR := Lib.hid hr
    clear hr hspec himpl
    go_enter Tryz.func6, Tryz.ntmps6
    go_wp2_with fail
    refine (szGraph_w _ d0 _ _ (hv0.fr (by exact Qf)) hs0 (by omega) (by omega)).mono ?_
    rintro e w1 ⟨rfl, hf1⟩
    have zhf1 := hf1.size; (try simp only [World.size_alloc, World.size_setCell, World.size_drew] at zhf1)
    have BA0 : Box w1 (w.heap.size) #[.int .i64 d0.f0, u0] 48 := (Box.new' (w := w) (X := #[.int .i64 d0.f0, u0]) (T := 48) (by simp)).fr (by exact Qf)
    have FA0 := BA0.facts
    have BA1 : Box w1 (w.heap.size + 1) #[.bool d1.f0, u1_1, u1_2, u1_3] 26 := (Box.new' (w := (w.alloc (.cells #[.int .i64 d0.f0, u0] 48))) (X := #[.bool d1.f0, u1_1, u1_2, u1_3]) (T := 26) (by simp)).fr (by exact Qf)
    have FA1 := BA1.facts
    rw [HR.out]
    go_wp2_with fail
    go_ret
    exact ⟨rfl, by exact Qf⟩
end Go.Proofs.YtmdgdnkllclpcaaGreat
