/- laws.FnExactRoamNew: its walk, out of the contracts of the two functions. No condition but the sizes that the reading gives. (Printed by mk_law.py.) -/
import Derived.Test.YtmdgdnkllclpcaaGreatRns
import Derived.Test.YtmdgdnkllclpcaaGreatGGrOk
import Derived.Test.YtmdgdnkllclpcaaGreatGPrw
import Derived.Test.YtmdgdnkllclpcaaGreatGParP
import Derived.Deep.RegionHeld3
import Derived.Deep.Cut
namespace Go.Proofs.YtmdgdnkllclpcaaGreat
open Go.RowKit
set_option linter.unusedVariables false
set_option linter.unusedSimpArgs false
set_option maxHeartbeats 4000000 in
set_option maxRecDepth 100000 in
theorem fnRoamNew_of (v0 : Value) (d0 : GraphD) (hs0 : d0.okSize) (v1 : Value) (d1 : QueryD) (hs1 : d1.okSize) (a2 : Int) (w : World) (hv0 : GraphRd w v0 d0) (hv1 : QueryRd w v1 d1) (r0 : RoamD) (hr0 : d0.f1.length ≤ 1048576 → d1.bulk ≤ 1048576 → r0.cnt ≤ 1000000000000) (r1 : Bool)
  (hspec : d0.f1.length ≤ 1048576 → d1.bulk ≤ 1048576 → ∀ (v0 : Value) (v1 : Value) (w : World), GraphRd w v0 d0 → QueryRd w v1 d1 → Calls Tryz.prog 38 #[v0, v1, .int .i64 a2] w fun e w' => ∃ ao0_0 cap0_0 ao0_1 cap0_1, e = .returned (.tuple #[.agg #[.slice ao0_0 r0.f0.length cap0_0, .slice ao0_1 r0.f1.length cap0_1], .bool r1]) ∧ RoamW w' w.heap.size w'.heap.size (.agg #[.slice ao0_0 r0.f0.length cap0_0, .slice ao0_1 r0.f1.length cap0_1]) r0 ∧ Fr w w')
  (himpl : d0.f1.length ≤ 1048576 → d1.bulk ≤ 1048576 → ∀ (v0 : Value) (v1 : Value) (w : World), GraphRd w v0 d0 → QueryRd w v1 d1 → Calls Tryz.prog 39 #[v0, v1, .int .i64 a2] w fun e w' => ∃ ao0_0 cap0_0 ao0_1 cap0_1, e = .returned (.tuple #[.agg #[.slice ao0_0 r0.f0.length cap0_0, .slice ao0_1 r0.f1.length cap0_1], .bool r1]) ∧ RoamW w' w.heap.size w'.heap.size (.agg #[.slice ao0_0 r0.f0.length cap0_0, .slice ao0_1 r0.f1.length cap0_1]) r0 ∧ Fr w w') :
  Calls Tryz.prog 8 #[v0, v1, .int .i64 a2] w fun e w' => e = .returned (.bool true) ∧ Fr w w' := by
 obtain ⟨u0, rfl, hu0⟩ := hv0
 have hv0 : GraphRd w _ d0 := ⟨_, rfl, hu0⟩
 obtain ⟨u1_1, u1_2, u1_3, rfl, hu1⟩ := hv1
 have hv1 : QueryRd w _ d1 := ⟨_, _, _, rfl, hu1⟩
 by_cases hl0 : ((d0.bulk : Nat) : Int) ≤ 1048576
 · skip
   obtain ⟨q0, hq0⟩ : ∃ q : Int, szR 1048576 (d0.bulk) = q := ⟨_, rfl⟩
   have hqa0 : q0 = 1048576 - ((d0.bulk : Nat) : Int) := by rw [← hq0, szR_ok hl0]
   have HQ0 := Lib.hid hq0
   have hqb0 : 0 ≤ q0 := by omega
   have hqc0 : q0 ≤ 1048576 := by omega
   clear hq0 hqa0
   by_cases hl1 : ((d1.bulk : Nat) : Int) ≤ q0
   · skip
     obtain ⟨q1, hq1⟩ : ∃ q : Int, szR q0 (d1.bulk) = q := ⟨_, rfl⟩
     have hqa1 : q1 = q0 - ((d1.bulk : Nat) : Int) := by rw [← hq1, szR_ok hl1]
     have HQ1 := Lib.hid hq1
     have hqb1 : 0 ≤ q1 := by omega
     have hqc1 : q1 ≤ 1048576 := by omega
     clear hq1 hqa1
     have hn0 : d0.f1.length ≤ 1048576 := by have := hl0; unfold GraphD.bulk at this; omega
     have hn1 : d1.bulk ≤ 1048576 := by have := hl1; omega
     have hc0 : d0.cnt ≤ 100000000 := by unfold GraphD.cnt; omega
     have hc1 : d1.cnt ≤ 100000000 := by have := QueryD.cnt_le d1; omega
     replace hr0 := hr0 hn0 hn1
     have HS := Lib.hid (hspec hn0 hn1)
     have HI := Lib.hid (himpl hn0 hn1)
     clear hspec himpl
     go_enter Tryz.func8, Tryz.ntmps8
     go_wp2_with fail
     refine (szGraph_w _ d0 _ _ (hv0.fr (by exact Qf)) hs0 (by omega) (by omega)).mono ?_
     rintro e w1 ⟨rfl, hf1⟩
     have zhf1 := hf1.size; (try simp only [World.size_alloc, World.size_setCell, World.size_drew] at zhf1)
     have BA0 : Box w1 (w.heap.size) #[.int .i64 d0.f0, u0] 48 := (Box.new' (w := w) (X := #[.int .i64 d0.f0, u0]) (T := 48) (by simp)).fr (by exact Qf)
     have BA1 : Box w1 (w.heap.size + 1) #[.bool d1.f0, u1_1, u1_2, u1_3] 26 := (Box.new' (w := (w.alloc (.cells #[.int .i64 d0.f0, u0] 48))) (X := #[.bool d1.f0, u1_1, u1_2, u1_3]) (T := 26) (by simp)).fr (by exact Qf)
     have FA0 := BA0.facts
     have FA1 := BA1.facts
     rw [HQ0.out]
     go_wp2_with fail
     refine (szQuery_w _ d1 _ _ (hv1.fr (by exact Qf)) hs1 (by omega) (by omega)).mono ?_
     rintro e w2 ⟨rfl, hf2⟩
     have zhf2 := hf2.size; (try simp only [World.size_alloc, World.size_setCell, World.size_drew] at zhf2)
     have BA0 := BA0.fr (show Fr w1 w2 by exact Qf)
     have BA1 := BA1.fr (show Fr w1 w2 by exact Qf)
     clear FA0 FA1
     have FA0 := BA0.facts
     have FA1 := BA1.facts
     rw [HQ1.out]
     go_upto_region 8 with fail
     go_cut [8, 9] from 19 (fun p8 p9 wx => ∃ bkw0 low0 hiw0 aow0_0 capw0_0 aow0_1 capw0_1, p8 = .pointer (some ⟨bkw0, 0, none⟩) ∧ p9 = .bool r1 ∧ Box wx bkw0 #[.slice aow0_0 r0.f0.length capw0_0, .slice aow0_1 r0.f1.length capw0_1] 72 ∧ (w2.heap.size ≤ low0 ∧ low0 ≤ hiw0 ∧ hiw0 ≤ wx.heap.size ∧ w2.heap.size ≤ bkw0 ∧ (bkw0 < low0 ∨ hiw0 ≤ bkw0)) ∧ RoamW wx low0 hiw0 (.agg #[.slice aow0_0 r0.f0.length capw0_0, .slice aow0_1 r0.f1.length capw0_1]) r0 ∧ Fr w2 wx)
     case first =>
      have RA0 : ∀ w', Sf w2 w' → ∀ o, w'.cell? ⟨w.heap.size, o, none⟩ = _ := fun w' h o => (BA0.fr h.out).cell o
      have RA1 : ∀ w', Sf w2 w' → ∀ o, w'.cell? ⟨w.heap.size + 1, o, none⟩ = _ := fun w' h o => (BA1.fr h.out).cell o
      clear BA0
      clear BA1
      clear FA0 FA1
      go_region_held3 (fun w' => Sf w2 w') ((refine Sf.mk ?_; repeat (first | (with_reducible exact Fr.refl _) | (with_reducible assumption) | (with_reducible refine Fr.drewN ?_ _) | (with_reducible refine Fr.drew ?_) | (with_reducible refine Fr.alloc ?_ _) | (with_reducible refine Fr.setCell ?_ (by exact Qz) _) | (with_reducible refine Fr.trans ?_ (by with_reducible assumption))))) (first | (go_at_call 26; refine (toGraph_w _ d0 _ (hv0.fr (by exact Qf)) hn0).mono ?_; rintro e w3 ⟨aot3, capt3, rfl, ht3, hf3⟩; have zhf3 := hf3.size; (try simp only [World.size_alloc, World.size_setCell, World.size_drew] at zhf3); (try have kb3_0 := hf3.blk (w2.heap.size) (by exact Qz))) | (go_at_call 14; refine (toQuery_w _ d1 _ (hv1.fr (by exact Qf)) hn1).mono ?_; rintro e w4 ⟨aot4_1, capt4_1, aot4_2, capt4_2, aot4_3, capt4_3, rfl, ht4, hf4⟩; have zhf4 := hf4.size; (try simp only [World.size_alloc, World.size_setCell, World.size_drew] at zhf4); (try have kb4_0 := hf4.blk (w2.heap.size) (by exact Qz)); (try have kb4_1 := hf4.blk (w3.heap.size) (by exact Qz))) | (go_at_call 38; refine (HS.out _ _ _ (ht3.rd.fr (by exact Qf)) (ht4.rd.fr (by exact Qf))).mono ?_; rintro e w5 ⟨aow0_0, capw0_0, aow0_1, capw0_1, rfl, ow0, hf5⟩; have zhf5 := hf5.size; (try simp only [World.size_alloc, World.size_setCell, World.size_drew] at zhf5); (try have kb5_0 := hf5.blk (w2.heap.size) (by exact Qz)); (try have kb5_1 := hf5.blk (w3.heap.size) (by exact Qz)); (try have kb5_2 := hf5.blk (w4.heap.size) (by exact Qz)); obtain ⟨lqw0, hlqaw0, hlqbw0, ow0⟩ : ∃ l : Nat, _ ≤ l ∧ l ≤ _ ∧ RoamW w5 l _ _ _ := ⟨_, Nat.le_refl _, Nat.le_refl _, ow0⟩; (try simp only [World.size_alloc, World.size_setCell, World.size_drew] at hlqaw0 hlqbw0)))
      all_goals
       go_wp2_with fail
       go_meet
       case rel =>
        refine ⟨_, lqw0, w5.heap.size, aow0_0, capw0_0, aow0_1, capw0_1, rfl, rfl, ?_, ?_, ?_, by exact Qf⟩
        · (repeat (first | (with_reducible exact Box.new _ _ _) | (with_reducible apply Box.drew) | (apply Box.set_to) | (apply Box.new'; (first | with_reducible rfl | (focus (simp; done)))) | (with_reducible refine Box.alloc ?_ _) | (apply Box.fr; (case hf => with_reducible assumption)))); all_goals rfl
        · (try simp only [World.size_alloc, World.size_setCell, World.size_drew]); (refine ⟨?_, ?_, ?_, ?_, ?_⟩ <;> first | omega | (simp; omega))
        · (repeat (first | (exact ow0) | (with_reducible refine RoamW.drewN ?_ _) | (with_reducible refine RoamW.drew ?_) | (with_reducible refine RoamW.alloc ?_ _) | (with_reducible refine RoamW.set ?_ (by exact Qz) _)))
     case rest =>
      obtain ⟨w3, rfl⟩ : ∃ w_ : World, w_ = wc := ⟨_, rfl⟩
      obtain ⟨bkw0, low0, hiw0, aow0_0, capw0_0, aow0_1, capw0_1, rfl, rfl, Bw0, hbw0, ow0, hf3⟩ := hcut
      have qltw0 := Bw0.lt
      have qw0 := hbw0; (try simp only [World.size_alloc, World.size_setCell, World.size_drew] at qw0)
      have zhf3 := hf3.size; (try simp only [World.size_alloc, World.size_setCell, World.size_drew] at zhf3)
      have BA0 := BA0.fr (show Fr w2 w3 by exact Qf)
      have BA1 := BA1.fr (show Fr w2 w3 by exact Qf)
      clear FA0 FA1
      have FA0 := BA0.facts
      have FA1 := BA1.facts
      have Fw0 := Bw0.facts
      go_wp2_with fail
      refine (toGraph_w _ d0 _ (hv0.fr (by exact Qf)) hn0).mono ?_
      rintro e w4 ⟨aot4, capt4, rfl, ht4, hf4⟩
      have zhf4 := hf4.size; (try simp only [World.size_alloc, World.size_setCell, World.size_drew] at zhf4)
      have BA0 := BA0.fr (show Fr w3 w4 by exact Qf)
      have BA1 := BA1.fr (show Fr w3 w4 by exact Qf)
      have Bw0 := Bw0.fr (show Fr w3 w4 by exact Qf)
      clear FA0 FA1 Fw0
      have FA0 := BA0.facts
      have FA1 := BA1.facts
      have Fw0 := Bw0.facts
      have ox0 := ht4
      go_wp2_with fail
      refine (toQuery_w _ d1 _ (hv1.fr (by exact Qf)) hn1).mono ?_
      rintro e w5 ⟨aot5_1, capt5_1, aot5_2, capt5_2, aot5_3, capt5_3, rfl, ht5, hf5⟩
      have zhf5 := hf5.size; (try simp only [World.size_alloc, World.size_setCell, World.size_drew] at zhf5)
      have BA0 := BA0.fr (show Fr w4 w5 by exact Qf)
      have BA1 := BA1.fr (show Fr w4 w5 by exact Qf)
      have Bw0 := Bw0.fr (show Fr w4 w5 by exact Qf)
      have Bx0 : Box w5 (w4.heap.size) #[.int .i64 d0.f0, .slice aot4 d0.f1.length capt4] 55 := (Box.new' (w := w4) (X := #[.int .i64 d0.f0, .slice aot4 d0.f1.length capt4]) (T := 55) (by simp)).fr (by exact Qf)
      clear FA0 FA1 Fw0
      have FA0 := BA0.facts
      have FA1 := BA1.facts
      have Fw0 := Bw0.facts
      have Fx0 := Bx0.facts
      have ox1 := ht5
      go_wp2_with fail
      refine (HI.out _ _ _ (ox0.rd.fr (by exact Qf)) (ox1.rd.fr (by exact Qf))).mono ?_
      rintro e w6 ⟨aog0_0, capg0_0, aog0_1, capg0_1, rfl, og0, hf6⟩
      have zhf6 := hf6.size; (try simp only [World.size_alloc, World.size_setCell, World.size_drew] at zhf6)
      have BA0 := BA0.fr (show Fr w5 w6 by exact Qf)
      have BA1 := BA1.fr (show Fr w5 w6 by exact Qf)
      have Bw0 := Bw0.fr (show Fr w5 w6 by exact Qf)
      have Bx0 := Bx0.fr (show Fr w5 w6 by exact Qf)
      have Bx1 : Box w6 (w5.heap.size) #[.bool d1.f0, .slice aot5_1 d1.f1.length capt5_1, .slice aot5_2 d1.f2.length capt5_2, .slice aot5_3 d1.f3.length capt5_3] 35 := (Box.new' (w := w5) (X := #[.bool d1.f0, .slice aot5_1 d1.f1.length capt5_1, .slice aot5_2 d1.f2.length capt5_2, .slice aot5_3 d1.f3.length capt5_3]) (T := 35) (by simp)).fr (by exact Qf)
      clear FA0 FA1 Fw0 Fx0
      have FA0 := BA0.facts
      have FA1 := BA1.facts
      have Fw0 := Bw0.facts
      have Fx0 := Bx0.facts
      have Fx1 := Bx1.facts
      go_wp2_with fail
      refine (eqRoam_same _ _ r0 _ (og0.rd.fr (by exact Qf)) (ow0.rd.fr (by exact Qf))).mono ?_
      rintro e w7 ⟨rfl, hf7⟩
      have zhf7 := hf7.size; (try simp only [World.size_alloc, World.size_setCell, World.size_drew] at zhf7)
      have BA0 := BA0.fr (show Fr w6 w7 by exact Qf)
      have BA1 := BA1.fr (show Fr w6 w7 by exact Qf)
      have Bw0 := Bw0.fr (show Fr w6 w7 by exact Qf)
      have Bx0 := Bx0.fr (show Fr w6 w7 by exact Qf)
      have Bx1 := Bx1.fr (show Fr w6 w7 by exact Qf)
      have Bg0 : Box w7 (w6.heap.size) #[.slice aog0_0 r0.f0.length capg0_0, .slice aog0_1 r0.f1.length capg0_1] 72 := (Box.new' (w := w6) (X := #[.slice aog0_0 r0.f0.length capg0_0, .slice aog0_1 r0.f1.length capg0_1]) (T := 72) (by simp)).fr (by exact Qf)
      clear FA0 FA1 Fw0 Fx0 Fx1
      have FA0 := BA0.facts
      have FA1 := BA1.facts
      have Fw0 := Bw0.facts
      have Fx0 := Bx0.facts
      have Fx1 := Bx1.facts
      have Fg0 := Bg0.facts
      have RA0 : ∀ w', Sf w7 w' → ∀ o, w'.cell? ⟨w.heap.size, o, none⟩ = _ := fun w' h o => (BA0.fr h.out).cell o
      have RA1 : ∀ w', Sf w7 w' → ∀ o, w'.cell? ⟨w.heap.size + 1, o, none⟩ = _ := fun w' h o => (BA1.fr h.out).cell o
      have Rw0 : ∀ w', Sf w7 w' → ∀ o, w'.cell? ⟨bkw0, o, none⟩ = _ := fun w' h o => (Bw0.fr h.out).cell o
      have Rx0 : ∀ w', Sf w7 w' → ∀ o, w'.cell? ⟨w4.heap.size, o, none⟩ = _ := fun w' h o => (Bx0.fr h.out).cell o
      have Rx1 : ∀ w', Sf w7 w' → ∀ o, w'.cell? ⟨w5.heap.size, o, none⟩ = _ := fun w' h o => (Bx1.fr h.out).cell o
      have Rg0 : ∀ w', Sf w7 w' → ∀ o, w'.cell? ⟨w6.heap.size, o, none⟩ = _ := fun w' h o => (Bg0.fr h.out).cell o
      go_wp2_with fail
      go_region_held3 (fun w' => Sf w7 w') ((refine Sf.mk ?_; repeat (first | (with_reducible exact Fr.refl _) | (with_reducible assumption) | (with_reducible refine Fr.drewN ?_ _) | (with_reducible refine Fr.drew ?_) | (with_reducible refine Fr.alloc ?_ _) | (with_reducible refine Fr.setCell ?_ (by exact Qz) _) | (with_reducible refine Fr.trans ?_ (by with_reducible assumption))))) (first | (go_at_call 26; refine (toGraph_w _ d0 _ (hv0.fr (by exact Qf)) hn0).mono ?_; rintro e w8 ⟨aot8, capt8, rfl, ht8, hf8⟩) | (go_at_call 29; refine (eqGraph_same _ _ d0 _ (ox0.rd.fr (by exact Qf)) (ht8.rd.fr (by exact Qf))).mono ?_; rintro e w9 ⟨rfl, hf9⟩))
      clear RA0
      clear RA1
      clear Rw0
      clear Rx0
      clear Rx1
      clear Rg0
      have zhf8 := hf8.size; (try simp only [World.size_alloc, World.size_setCell, World.size_drew] at zhf8)
      have zhf9 := hf9.size; (try simp only [World.size_alloc, World.size_setCell, World.size_drew] at zhf9)
      have BA0 := BA0.fr (show Fr w7 w9 by exact Qf)
      have BA1 := BA1.fr (show Fr w7 w9 by exact Qf)
      have Bw0 := Bw0.fr (show Fr w7 w9 by exact Qf)
      have Bx0 := Bx0.fr (show Fr w7 w9 by exact Qf)
      have Bx1 := Bx1.fr (show Fr w7 w9 by exact Qf)
      have Bg0 := Bg0.fr (show Fr w7 w9 by exact Qf)
      clear FA0 FA1 Fw0 Fx0 Fx1 Fg0
      have FA0 := BA0.facts
      have FA1 := BA1.facts
      have Fw0 := Bw0.facts
      have Fx0 := Bx0.facts
      have Fx1 := Bx1.facts
      have Fg0 := Bg0.facts
      have RA0 : ∀ w', Sf w9 w' → ∀ o, w'.cell? ⟨w.heap.size, o, none⟩ = _ := fun w' h o => (BA0.fr h.out).cell o
      have RA1 : ∀ w', Sf w9 w' → ∀ o, w'.cell? ⟨w.heap.size + 1, o, none⟩ = _ := fun w' h o => (BA1.fr h.out).cell o
      have Rw0 : ∀ w', Sf w9 w' → ∀ o, w'.cell? ⟨bkw0, o, none⟩ = _ := fun w' h o => (Bw0.fr h.out).cell o
      have Rx0 : ∀ w', Sf w9 w' → ∀ o, w'.cell? ⟨w4.heap.size, o, none⟩ = _ := fun w' h o => (Bx0.fr h.out).cell o
      have Rx1 : ∀ w', Sf w9 w' → ∀ o, w'.cell? ⟨w5.heap.size, o, none⟩ = _ := fun w' h o => (Bx1.fr h.out).cell o
      have Rg0 : ∀ w', Sf w9 w' → ∀ o, w'.cell? ⟨w6.heap.size, o, none⟩ = _ := fun w' h o => (Bg0.fr h.out).cell o
      go_wp2_with fail
      go_region_held3 (fun w' => Sf w9 w') ((refine Sf.mk ?_; repeat (first | (with_reducible exact Fr.refl _) | (with_reducible assumption) | (with_reducible refine Fr.drewN ?_ _) | (with_reducible refine Fr.drew ?_) | (with_reducible refine Fr.alloc ?_ _) | (with_reducible refine Fr.setCell ?_ (by exact Qz) _) | (with_reducible refine Fr.trans ?_ (by with_reducible assumption))))) (first | (go_at_call 14; refine (toQuery_w _ d1 _ (hv1.fr (by exact Qf)) hn1).mono ?_; rintro e w10 ⟨aot10_1, capt10_1, aot10_2, capt10_2, aot10_3, capt10_3, rfl, ht10, hf10⟩) | (go_at_call 18; refine (eqQuery_same _ _ d1 _ (ox1.rd.fr (by exact Qf)) (ht10.rd.fr (by exact Qf))).mono ?_; rintro e w11 ⟨rfl, hf11⟩))
      clear RA0
      clear RA1
      clear Rw0
      clear Rx0
      clear Rx1
      clear Rg0
      have zhf10 := hf10.size; (try simp only [World.size_alloc, World.size_setCell, World.size_drew] at zhf10)
      have zhf11 := hf11.size; (try simp only [World.size_alloc, World.size_setCell, World.size_drew] at zhf11)
      have BA0 := BA0.fr (show Fr w9 w11 by exact Qf)
      have BA1 := BA1.fr (show Fr w9 w11 by exact Qf)
      have Bw0 := Bw0.fr (show Fr w9 w11 by exact Qf)
      have Bx0 := Bx0.fr (show Fr w9 w11 by exact Qf)
      have Bx1 := Bx1.fr (show Fr w9 w11 by exact Qf)
      have Bg0 := Bg0.fr (show Fr w9 w11 by exact Qf)
      clear FA0 FA1 Fw0 Fx0 Fx1 Fg0
      have FA0 := BA0.facts
      have FA1 := BA1.facts
      have Fw0 := Bw0.facts
      have Fx0 := Bx0.facts
      have Fx1 := Bx1.facts
      have Fg0 := Bg0.facts
      go_wp2_with fail
      refine (markGraph_w _ d0 1 (w3.heap.size) (w4.heap.size) _ (ox0.fr (by exact Qf)) (by exact Qz) (by omega) (by omega)).mono ?_
      rintro e w12 ⟨rfl, omx0, sp12⟩
      have zsp12 := sp12.size; (try simp only [World.size_alloc, World.size_setCell, World.size_drew] at zsp12)
      have ow0_12 := (ow0.fr (show Fr w3 w11 by exact Qf)).span sp12 (by exact Qz)
      have ox1_12 := (ox1.fr (show Fr w5 w11 by exact Qf)).span sp12 (by exact Qz)
      have og0_12 := (og0.fr (show Fr w6 w11 by exact Qf)).span sp12 (by exact Qz)
      have BA0 := (BA0.fr (show Fr w11 w11 by exact Qf)).span sp12 (by exact Qz)
      have BA1 := (BA1.fr (show Fr w11 w11 by exact Qf)).span sp12 (by exact Qz)
      have Bw0 := (Bw0.fr (show Fr w11 w11 by exact Qf)).span sp12 (by exact Qz)
      have Bx0 := (Bx0.fr (show Fr w11 w11 by exact Qf)).span sp12 (by exact Qz)
      have Bx1 := (Bx1.fr (show Fr w11 w11 by exact Qf)).span sp12 (by exact Qz)
      have Bg0 := (Bg0.fr (show Fr w11 w11 by exact Qf)).span sp12 (by exact Qz)
      have hF12 : Fr w w12 := Span.fr (show Fr w w11 by exact Qf) sp12 (by exact Qz)
      clear FA0 FA1 Fw0 Fx0 Fx1 Fg0
      have FA0 := BA0.facts
      have FA1 := BA1.facts
      have Fw0 := Bw0.facts
      have Fx0 := Bx0.facts
      have Fx1 := Bx1.facts
      have Fg0 := Bg0.facts
      obtain ⟨kx0, hkx0⟩ : ∃ q : Int, 1 + ((d0.cnt : Nat) : Int) = q := ⟨_, rfl⟩
      have hpkx0 : 0 < kx0 := by omega
      have hbkx0 : kx0 ≤ 150000000 := by omega
      have hdkx0 : decide (kx0 < 0) = false := by simp; omega
      rw [hkx0]
      clear hkx0
      go_wp2_with fail
      refine (markQuery_w _ d1 kx0 ((w4.alloc (.cells #[.int .i64 d0.f0, .slice aot4 d0.f1.length capt4] 55)).heap.size) (w5.heap.size) _ (ox1_12.fr (by exact Qf)) (by exact Qz) (by omega) (by omega)).mono ?_
      rintro e w13 ⟨rfl, omx1, sp13⟩
      have zsp13 := sp13.size; (try simp only [World.size_alloc, World.size_setCell, World.size_drew] at zsp13)
      have ow0_13 := (ow0_12.fr (show Fr w12 w12 by exact Qf)).span sp13 (by exact Qz)
      have og0_13 := (og0_12.fr (show Fr w12 w12 by exact Qf)).span sp13 (by exact Qz)
      have BA0 := (BA0.fr (show Fr w12 w12 by exact Qf)).span sp13 (by exact Qz)
      have BA1 := (BA1.fr (show Fr w12 w12 by exact Qf)).span sp13 (by exact Qz)
      have Bw0 := (Bw0.fr (show Fr w12 w12 by exact Qf)).span sp13 (by exact Qz)
      have Bx0 := (Bx0.fr (show Fr w12 w12 by exact Qf)).span sp13 (by exact Qz)
      have Bx1 := (Bx1.fr (show Fr w12 w12 by exact Qf)).span sp13 (by exact Qz)
      have Bg0 := (Bg0.fr (show Fr w12 w12 by exact Qf)).span sp13 (by exact Qz)
      have hF13 : Fr w w13 := Span.fr (show Fr w w12 by exact Qf) sp13 (by exact Qz)
      clear FA0 FA1 Fw0 Fx0 Fx1 Fg0
      have FA0 := BA0.facts
      have FA1 := BA1.facts
      have Fw0 := Bw0.facts
      have Fx0 := Bx0.facts
      have Fx1 := Bx1.facts
      have Fg0 := Bg0.facts
      obtain ⟨kx1, hkx1⟩ : ∃ q : Int, kx0 + ((d1.cnt : Nat) : Int) = q := ⟨_, rfl⟩
      have hpkx1 : 0 < kx1 := by omega
      have hbkx1 : kx1 ≤ 300000000 := by omega
      have hdkx1 : decide (kx1 < 0) = false := by simp; omega
      rw [hkx1]
      clear hkx1
      go_wp2_with fail
      refine (eqRoam_same _ _ r0 _ (og0_13.rd.fr (by exact Qf)) (ow0_13.rd.fr (by exact Qf))).mono ?_
      rintro e w14 ⟨rfl, hf14⟩
      have zhf14 := hf14.size; (try simp only [World.size_alloc, World.size_setCell, World.size_drew] at zhf14)
      have BA0 := BA0.fr (show Fr w13 w14 by exact Qf)
      have BA1 := BA1.fr (show Fr w13 w14 by exact Qf)
      have Bw0 := Bw0.fr (show Fr w13 w14 by exact Qf)
      have Bx0 := Bx0.fr (show Fr w13 w14 by exact Qf)
      have Bx1 := Bx1.fr (show Fr w13 w14 by exact Qf)
      have Bg0 := Bg0.fr (show Fr w13 w14 by exact Qf)
      clear FA0 FA1 Fw0 Fx0 Fx1 Fg0
      have FA0 := BA0.facts
      have FA1 := BA1.facts
      have Fw0 := Bw0.facts
      have Fx0 := Bx0.facts
      have Fx1 := Bx1.facts
      have Fg0 := Bg0.facts
      go_wp2_with fail
      refine (markRoam_w _ r0 1 ((w5.alloc (.cells #[.bool d1.f0, .slice aot5_1 d1.f1.length capt5_1, .slice aot5_2 d1.f2.length capt5_2, .slice aot5_3 d1.f3.length capt5_3] 35)).heap.size) (w6.heap.size) _ (og0_13.fr (by exact Qf)) (by exact Qz) (by omega) (by omega)).mono ?_
      rintro e w15 ⟨rfl, omg0, sp15⟩
      have zsp15 := sp15.size; (try simp only [World.size_alloc, World.size_setCell, World.size_drew] at zsp15)
      have ow0_15 := (ow0_13.fr (show Fr w13 w14 by exact Qf)).span sp15 (by exact Qz)
      have BA0 := (BA0.fr (show Fr w14 w14 by exact Qf)).span sp15 (by exact Qz)
      have BA1 := (BA1.fr (show Fr w14 w14 by exact Qf)).span sp15 (by exact Qz)
      have Bw0 := (Bw0.fr (show Fr w14 w14 by exact Qf)).span sp15 (by exact Qz)
      have Bx0 := (Bx0.fr (show Fr w14 w14 by exact Qf)).span sp15 (by exact Qz)
      have Bx1 := (Bx1.fr (show Fr w14 w14 by exact Qf)).span sp15 (by exact Qz)
      have Bg0 := (Bg0.fr (show Fr w14 w14 by exact Qf)).span sp15 (by exact Qz)
      have hF15 : Fr w w15 := Span.fr (show Fr w w14 by exact Qf) sp15 (by exact Qz)
      clear FA0 FA1 Fw0 Fx0 Fx1 Fg0
      have FA0 := BA0.facts
      have FA1 := BA1.facts
      have Fw0 := Bw0.facts
      have Fx0 := Bx0.facts
      have Fx1 := Bx1.facts
      have Fg0 := Bg0.facts
      obtain ⟨mg0, hmg0⟩ : ∃ q : Int, 1 + ((r0.cnt : Nat) : Int) = q := ⟨_, rfl⟩
      have hpmg0 : 0 < mg0 := by omega
      have hbmg0 : mg0 ≤ 2000000000000 := by omega
      have hdmg0 : decide (mg0 < 0) = false := by simp; omega
      rw [hmg0]
      have hheldg0 := fun (W : World) (hf : Fr w15 W) => heldRoam_w (.agg #[.slice aog0_0 r0.f0.length capg0_0, .slice aog0_1 r0.f1.length capg0_1]) r0 1 W (omg0.rd.fr hf) (by omega) (by omega)
      rw [hmg0] at hheldg0
      have HHg0 := Lib.hid hheldg0
      clear hheldg0
      clear hmg0
      go_wp2_with fail
      refine (HHg0.out _ (by exact Qf)).mono ?_
      rintro e w16 ⟨rfl, hf16⟩
      have zhf16 := hf16.size; (try simp only [World.size_alloc, World.size_setCell, World.size_drew] at zhf16)
      have BA0 := BA0.fr (show Fr w15 w16 by exact Qf)
      have BA1 := BA1.fr (show Fr w15 w16 by exact Qf)
      have Bw0 := Bw0.fr (show Fr w15 w16 by exact Qf)
      have Bx0 := Bx0.fr (show Fr w15 w16 by exact Qf)
      have Bx1 := Bx1.fr (show Fr w15 w16 by exact Qf)
      have Bg0 := Bg0.fr (show Fr w15 w16 by exact Qf)
      clear FA0 FA1 Fw0 Fx0 Fx1 Fg0
      have FA0 := BA0.facts
      have FA1 := BA1.facts
      have Fw0 := Bw0.facts
      have Fx0 := Bx0.facts
      have Fx1 := Bx1.facts
      have Fg0 := Bg0.facts
      go_upto_region 31 with fail
      go_cut [17, 18] from 19 (fun p17 p18 wx => ∃ bkh0 loh0 hih0 aoh0_0 caph0_0 aoh0_1 caph0_1, p17 = .pointer (some ⟨bkh0, 0, none⟩) ∧ p18 = .bool r1 ∧ Box wx bkh0 #[.slice aoh0_0 r0.f0.length caph0_0, .slice aoh0_1 r0.f1.length caph0_1] 72 ∧ (w16.heap.size ≤ loh0 ∧ loh0 ≤ hih0 ∧ hih0 ≤ wx.heap.size ∧ w16.heap.size ≤ bkh0 ∧ (bkh0 < loh0 ∨ hih0 ≤ bkh0)) ∧ RoamW wx loh0 hih0 (.agg #[.slice aoh0_0 r0.f0.length caph0_0, .slice aoh0_1 r0.f1.length caph0_1]) r0 ∧ Fr w16 wx)
      case first =>
       have RA0 : ∀ w', Sf w16 w' → ∀ o, w'.cell? ⟨w.heap.size, o, none⟩ = _ := fun w' h o => (BA0.fr h.out).cell o
       have RA1 : ∀ w', Sf w16 w' → ∀ o, w'.cell? ⟨w.heap.size + 1, o, none⟩ = _ := fun w' h o => (BA1.fr h.out).cell o
       have Rw0 : ∀ w', Sf w16 w' → ∀ o, w'.cell? ⟨bkw0, o, none⟩ = _ := fun w' h o => (Bw0.fr h.out).cell o
       have Rx0 : ∀ w', Sf w16 w' → ∀ o, w'.cell? ⟨w4.heap.size, o, none⟩ = _ := fun w' h o => (Bx0.fr h.out).cell o
       have Rx1 : ∀ w', Sf w16 w' → ∀ o, w'.cell? ⟨w5.heap.size, o, none⟩ = _ := fun w' h o => (Bx1.fr h.out).cell o
       have Rg0 : ∀ w', Sf w16 w' → ∀ o, w'.cell? ⟨w6.heap.size, o, none⟩ = _ := fun w' h o => (Bg0.fr h.out).cell o
       clear BA0
       clear BA1
       clear Bw0
       clear Bx0
       clear Bx1
       clear Bg0
       clear FA0 FA1 Fw0 Fx0 Fx1 Fg0
       go_region_held3 (fun w' => Sf w16 w') ((refine Sf.mk ?_; repeat (first | (with_reducible exact Fr.refl _) | (with_reducible assumption) | (with_reducible refine Fr.drewN ?_ _) | (with_reducible refine Fr.drew ?_) | (with_reducible refine Fr.alloc ?_ _) | (with_reducible refine Fr.setCell ?_ (by exact Qz) _) | (with_reducible refine Fr.trans ?_ (by with_reducible assumption))))) (first | (go_at_call 26; refine (toGraph_w _ d0 _ (hv0.fr (by exact Qf)) hn0).mono ?_; rintro e w17 ⟨aot17, capt17, rfl, ht17, hf17⟩; have zhf17 := hf17.size; (try simp only [World.size_alloc, World.size_setCell, World.size_drew] at zhf17); (try have kb17_0 := hf17.blk (w16.heap.size) (by exact Qz))) | (go_at_call 14; refine (toQuery_w _ d1 _ (hv1.fr (by exact Qf)) hn1).mono ?_; rintro e w18 ⟨aot18_1, capt18_1, aot18_2, capt18_2, aot18_3, capt18_3, rfl, ht18, hf18⟩; have zhf18 := hf18.size; (try simp only [World.size_alloc, World.size_setCell, World.size_drew] at zhf18); (try have kb18_0 := hf18.blk (w16.heap.size) (by exact Qz)); (try have kb18_1 := hf18.blk (w17.heap.size) (by exact Qz))) | (go_at_call 39; refine (HI.out _ _ _ (ht17.rd.fr (by exact Qf)) (ht18.rd.fr (by exact Qf))).mono ?_; rintro e w19 ⟨aoh0_0, caph0_0, aoh0_1, caph0_1, rfl, oh0, hf19⟩; have zhf19 := hf19.size; (try simp only [World.size_alloc, World.size_setCell, World.size_drew] at zhf19); (try have kb19_0 := hf19.blk (w16.heap.size) (by exact Qz)); (try have kb19_1 := hf19.blk (w17.heap.size) (by exact Qz)); (try have kb19_2 := hf19.blk (w18.heap.size) (by exact Qz)); obtain ⟨lqh0, hlqah0, hlqbh0, oh0⟩ : ∃ l : Nat, _ ≤ l ∧ l ≤ _ ∧ RoamW w19 l _ _ _ := ⟨_, Nat.le_refl _, Nat.le_refl _, oh0⟩; (try simp only [World.size_alloc, World.size_setCell, World.size_drew] at hlqah0 hlqbh0)))
       all_goals
        go_wp2_with fail
        go_meet
        case rel =>
         refine ⟨_, lqh0, w19.heap.size, aoh0_0, caph0_0, aoh0_1, caph0_1, rfl, rfl, ?_, ?_, ?_, by exact Qf⟩
         · (repeat (first | (with_reducible exact Box.new _ _ _) | (with_reducible apply Box.drew) | (apply Box.set_to) | (apply Box.new'; (first | with_reducible rfl | (focus (simp; done)))) | (with_reducible refine Box.alloc ?_ _) | (apply Box.fr; (case hf => with_reducible assumption)))); all_goals rfl
         · (try simp only [World.size_alloc, World.size_setCell, World.size_drew]); (refine ⟨?_, ?_, ?_, ?_, ?_⟩ <;> first | omega | (simp; omega))
         · (repeat (first | (exact oh0) | (with_reducible refine RoamW.drewN ?_ _) | (with_reducible refine RoamW.drew ?_) | (with_reducible refine RoamW.alloc ?_ _) | (with_reducible refine RoamW.set ?_ (by exact Qz) _)))
      case rest =>
       obtain ⟨w17, rfl⟩ : ∃ w_ : World, w_ = wc := ⟨_, rfl⟩
       obtain ⟨bkh0, loh0, hih0, aoh0_0, caph0_0, aoh0_1, caph0_1, rfl, rfl, Bh0, hbh0, oh0, hf17⟩ := hcut
       have qlth0 := Bh0.lt
       have qh0 := hbh0; (try simp only [World.size_alloc, World.size_setCell, World.size_drew] at qh0)
       have zhf17 := hf17.size; (try simp only [World.size_alloc, World.size_setCell, World.size_drew] at zhf17)
       have BA0 := BA0.fr (show Fr w16 w17 by exact Qf)
       have BA1 := BA1.fr (show Fr w16 w17 by exact Qf)
       have Bw0 := Bw0.fr (show Fr w16 w17 by exact Qf)
       have Bx0 := Bx0.fr (show Fr w16 w17 by exact Qf)
       have Bx1 := Bx1.fr (show Fr w16 w17 by exact Qf)
       have Bg0 := Bg0.fr (show Fr w16 w17 by exact Qf)
       clear FA0 FA1 Fw0 Fx0 Fx1 Fg0
       have FA0 := BA0.facts
       have FA1 := BA1.facts
       have Fw0 := Bw0.facts
       have Fx0 := Bx0.facts
       have Fx1 := Bx1.facts
       have Fg0 := Bg0.facts
       have Fh0 := Bh0.facts
       go_wp2_with fail
       refine (eqRoam_same _ _ r0 _ (oh0.rd.fr (by exact Qf)) (ow0_15.rd.fr (by exact Qf))).mono ?_
       rintro e w18 ⟨rfl, hf18⟩
       have zhf18 := hf18.size; (try simp only [World.size_alloc, World.size_setCell, World.size_drew] at zhf18)
       have BA0 := BA0.fr (show Fr w17 w18 by exact Qf)
       have BA1 := BA1.fr (show Fr w17 w18 by exact Qf)
       have Bw0 := Bw0.fr (show Fr w17 w18 by exact Qf)
       have Bx0 := Bx0.fr (show Fr w17 w18 by exact Qf)
       have Bx1 := Bx1.fr (show Fr w17 w18 by exact Qf)
       have Bg0 := Bg0.fr (show Fr w17 w18 by exact Qf)
       have Bh0 := Bh0.fr (show Fr w17 w18 by exact Qf)
       clear FA0 FA1 Fw0 Fx0 Fx1 Fg0 Fh0
       have FA0 := BA0.facts
       have FA1 := BA1.facts
       have Fw0 := Bw0.facts
       have Fx0 := Bx0.facts
       have Fx1 := Bx1.facts
       have Fg0 := Bg0.facts
       have Fh0 := Bh0.facts
       go_wp2_with fail
       refine (HHg0.out _ (by exact Qf)).mono ?_
       rintro e w19 ⟨rfl, hf19⟩
       have zhf19 := hf19.size; (try simp only [World.size_alloc, World.size_setCell, World.size_drew] at zhf19)
       have BA0 := BA0.fr (show Fr w18 w19 by exact Qf)
       have BA1 := BA1.fr (show Fr w18 w19 by exact Qf)
       have Bw0 := Bw0.fr (show Fr w18 w19 by exact Qf)
       have Bx0 := Bx0.fr (show Fr w18 w19 by exact Qf)
       have Bx1 := Bx1.fr (show Fr w18 w19 by exact Qf)
       have Bg0 := Bg0.fr (show Fr w18 w19 by exact Qf)
       have Bh0 := Bh0.fr (show Fr w18 w19 by exact Qf)
       clear FA0 FA1 Fw0 Fx0 Fx1 Fg0 Fh0
       have FA0 := BA0.facts
       have FA1 := BA1.facts
       have Fw0 := Bw0.facts
       have Fx0 := Bx0.facts
       have Fx1 := Bx1.facts
       have Fg0 := Bg0.facts
       have Fh0 := Bh0.facts
       go_wp2_with fail
       go_ret
       exact ⟨rfl, by exact Qf⟩
   · skip
     have hr : szR q0 (d1.bulk) = -1 := szR_no hl1
     have HR := Lib.hid hr
     clear hr hspec himpl
     go_enter Tryz.func8, Tryz.ntmps8
     go_wp2_with fail
     refine (szGraph_w _ d0 _ _ (hv0.fr (by exact Qf)) hs0 (by omega) (by omega)).mono ?_
     rintro e w1 ⟨rfl, hf1⟩
     have zhf1 := hf1.size; (try simp only [World.size_alloc, World.size_setCell, World.size_drew] at zhf1)
     have BA0 : Box w1 (w.heap.size) #[.int .i64 d0.f0, u0] 48 := (Box.new' (w := w) (X := #[.int .i64 d0.f0, u0]) (T := 48) (by simp)).fr (by exact Qf)
     have FA0 := BA0.facts
     have BA1 : Box w1 (w.heap.size + 1) #[.bool d1.f0, u1_1, u1_2, u1_3] 26 := (Box.new' (w := (w.alloc (.cells #[.int .i64 d0.f0, u0] 48))) (X := #[.bool d1.f0, u1_1, u1_2, u1_3]) (T := 26) (by simp)).fr (by exact Qf)
     have FA1 := BA1.facts
     rw [HQ0.out]
     go_wp2_with fail
     refine (szQuery_w _ d1 _ _ (hv1.fr (by exact Qf)) hs1 (by omega) (by omega)).mono ?_
     rintro e w2 ⟨rfl, hf2⟩
     have zhf2 := hf2.size; (try simp only [World.size_alloc, World.size_setCell, World.size_drew] at zhf2)
     have BA0 : Box w2 (w.heap.size) #[.int .i64 d0.f0, u0] 48 := (Box.new' (w := w) (X := #[.int .i64 d0.f0, u0]) (T := 48) (by simp)).fr (by exact Qf)
     have FA0 := BA0.facts
     have BA1 : Box w2 (w.heap.size + 1) #[.bool d1.f0, u1_1, u1_2, u1_3] 26 := (Box.new' (w := (w.alloc (.cells #[.int .i64 d0.f0, u0] 48))) (X := #[.bool d1.f0, u1_1, u1_2, u1_3]) (T := 26) (by simp)).fr (by exact Qf)
     have FA1 := BA1.facts
     rw [HR.out]
     go_wp2_with fail
     go_ret
     exact ⟨rfl, by exact Qf⟩
 · skip
   have hr : szR 1048576 (d0.bulk) = -1 := szR_no hl0
   have HR := Lib.hid hr
   clear hr hspec himpl
   go_enter Tryz.func8, Tryz.ntmps8
   go_wp2_with fail
   refine (szGraph_w _ d0 _ _ (hv0.fr (by exact Qf)) hs0 (by omega) (by omega)).mono ?_
   rintro e w1 ⟨rfl, hf1⟩
   have zhf1 := hf1.size; (try simp only [World.size_alloc, World.size_setCell, World.size_drew] at zhf1)
   have BA0 : Box w1 (w.heap.size) #[.int .i64 d0.f0, u0] 48 := (Box.new' (w := w) (X := #[.int .i64 d0.f0, u0]) (T := 48) (by simp)).fr (by exact Qf)
   have FA0 := BA0.facts
   have BA1 : Box w1 (w.heap.size + 1) #[.bool d1.f0, u1_1, u1_2, u1_3] 26 := (Box.new' (w := (w.alloc (.cells #[.int .i64 d0.f0, u0] 48))) (X := #[.bool d1.f0, u1_1, u1_2, u1_3]) (T := 26) (by simp)).fr (by exact Qf)
   have FA1 := BA1.facts
   rw [HR.out]
   go_wp2_with fail
   go_ret
   exact ⟨rfl, by exact Qf⟩
end Go.Proofs.YtmdgdnkllclpcaaGreat
