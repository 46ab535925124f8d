/- laws.FnExactRoamAll: its walk, out of the contracts of the two functions. No condition but the sizes that the reading gives. (Printed by mk_law.py.) -/
import Derived.Test.YtmdgdnkllclpcaaGreatRal
import Derived.Test.YtmdgdnkllclpcaaGreatGGrOk
import Derived.Test.YtmdgdnkllclpcaaGreatGPrw
import Derived.Test.YtmdgdnkllclpcaaGreatGUnf
import Derived.Test.YtmdgdnkllclpcaaGreatGParP
import Derived.Deep.RegionHeld3
import Derived.Deep.Cut
namespace Go.Proofs.YtmdgdnkllclpcaaGreat
open Go.RowKit
set_option linter.unusedVariables false
set_option linter.unusedSimpArgs false
set_option maxHeartbeats 4000000 in
set_option maxRecDepth 100000 in
theorem fnRoamAll_of (v0:Value) (d0:GraphD) (hs0:d0.okSize) (v1:Value) (d1:QueryD) (hs1:d1.okSize) (a2:Int) (v3:Value) (d3:List Int) (w:World) (hv0:GraphRd w v0 d0) (hv1:QueryRd w v1 d1) (hv3:IntsR w v3 d3) (r0:RoamD) (hr0:d0.f1.length≤1048576→d1.bulk≤1048576→d3.length≤1048576→r0.cnt≤1000000000000) (r1:Bool)
  (hspec:d0.f1.length≤1048576→d1.bulk≤1048576→d3.length≤1048576→ ∀ (v0:Value) (v1:Value) (v3:Value) (w:World),GraphRd w v0 d0→QueryRd w v1 d1→IntsR w v3 d3→Calls Tryz.prog 47 #[v0,v1,.int .i64 a2,v3] w fun e w'=> ∃ ao0_0 cap0_0 ao0_1 cap0_1,e= .returned (.tuple #[.agg #[.slice ao0_0 r0.f0.length cap0_0,.slice ao0_1 r0.f1.length cap0_1],.bool r1])∧RoamW w' w.heap.size w'.heap.size (.agg #[.slice ao0_0 r0.f0.length cap0_0,.slice ao0_1 r0.f1.length cap0_1]) r0∧Fr w w')
  (himpl:d0.f1.length≤1048576→d1.bulk≤1048576→d3.length≤1048576→ ∀ (v0:Value) (v1:Value) (v3:Value) (w:World),GraphRd w v0 d0→QueryRd w v1 d1→IntsR w v3 d3→Calls Tryz.prog 49 #[v0,v1,.int .i64 a2,v3] w fun e w'=> ∃ ao0_0 cap0_0 ao0_1 cap0_1,e= .returned (.tuple #[.agg #[.slice ao0_0 r0.f0.length cap0_0,.slice ao0_1 r0.f1.length cap0_1],.bool r1])∧RoamW w' w.heap.size w'.heap.size (.agg #[.slice ao0_0 r0.f0.length cap0_0,.slice ao0_1 r0.f1.length cap0_1]) r0∧Fr w w'):
  Calls Tryz.prog 10 #[v0,v1,.int .i64 a2,v3] w fun e w'=>e= .returned (.bool true)∧Fr w w':=by
 obtain⟨u0,rfl,hu0⟩:=hv0
 have hv0:GraphRd w _ d0:=⟨_,rfl,hu0⟩
 obtain⟨u1_1,u1_2,u1_3,rfl,hu1⟩:=hv1
 have hv1:QueryRd w _ d1:=⟨_,_,_,rfl,hu1⟩
 have hle3:=RdS.le hv3
 obtain⟨aq3,cq3,rfl,_⟩:=RdS.val hv3
 by_cases hl0:(d3.length:Int)≤1048576
 · skip
   by_cases hl1:((d0.bulk:Nat):Int)≤1048576
   · skip
     obtain⟨q1,hq1⟩: ∃ q:Int,szR 1048576 (d0.bulk)=q:=⟨_,rfl⟩
     have hqa1:q1=1048576-((d0.bulk:Nat):Int):=by rw[← hq1,szR_ok hl1]
     have HQ1:=Lib.hid hq1
     have hqb1:0≤q1:=by omega
     have hqc1:q1≤1048576:=by omega
     clear hq1 hqa1
     by_cases hl2:((d1.bulk:Nat):Int)≤q1
     · skip
       obtain⟨q2,hq2⟩: ∃ q:Int,szR q1 (d1.bulk)=q:=⟨_,rfl⟩
       have hqa2:q2=q1-((d1.bulk:Nat):Int):=by rw[← hq2,szR_ok hl2]
       have HQ2:=Lib.hid hq2
       have hqb2:0≤q2:=by omega
       have hqc2:q2≤1048576:=by omega
       clear hq2 hqa2
       have hn0:d0.f1.length≤1048576:=by have:=hl1;unfold GraphD.bulk at this;omega
       have hn1:d1.bulk≤1048576:=by have:=hl2;omega
       have hn3:d3.length≤1048576:=by have:=hl0;omega
       have hc0:d0.cnt≤100000000:=by unfold GraphD.cnt;omega
       have hc1:d1.cnt≤100000000:=by have:=QueryD.cnt_le d1;omega
       have hc3:1*d3.length≤100000000:=by omega
       replace hr0:=hr0 hn0 hn1 hn3
       have HS:=Lib.hid (hspec hn0 hn1 hn3)
       have HI:=Lib.hid (himpl hn0 hn1 hn3)
       clear hspec himpl
       go_enter Tryz.func10,Tryz.ntmps10
       go_wp2_with fail
       refine(szGraph_w _ d0 _ _ (hv0.fr (by exact Qf)) hs0 (by omega) (by omega)).mono ?_
       rintro e w1 ⟨rfl,hf1⟩
       have zhf1:=hf1.size;(try simp only[World.size_alloc,World.size_setCell,World.size_drew]at zhf1)
       have BA0:Box w1 (w.heap.size) #[.int .i64 d0.f0,u0] 48:=(Box.new' (w:=w) (X:= #[.int .i64 d0.f0,u0]) (T:=48) (by simp)).fr (by exact Qf)
       have BA1:Box w1 (w.heap.size+1) #[.bool d1.f0,u1_1,u1_2,u1_3] 26:=(Box.new' (w:=(w.alloc (.cells #[.int .i64 d0.f0,u0] 48))) (X:= #[.bool d1.f0,u1_1,u1_2,u1_3]) (T:=26) (by simp)).fr (by exact Qf)
       have FA0:=BA0.facts
       have FA1:=BA1.facts
       rw[HQ1.out]
       go_wp2_with fail
       refine(szQuery_w _ d1 _ _ (hv1.fr (by exact Qf)) hs1 (by omega) (by omega)).mono ?_
       rintro e w2 ⟨rfl,hf2⟩
       have zhf2:=hf2.size;(try simp only[World.size_alloc,World.size_setCell,World.size_drew]at zhf2)
       have BA0:=BA0.fr (show Fr w1 w2 by exact Qf)
       have BA1:=BA1.fr (show Fr w1 w2 by exact Qf)
       clear FA0 FA1
       have FA0:=BA0.facts
       have FA1:=BA1.facts
       rw[HQ2.out]
       go_upto_region 10 with fail
       go_cut [10,11]from 22 (fun p10 p11 wx=> ∃ bkw0 low0 hiw0 aow0_0 capw0_0 aow0_1 capw0_1,p10= .pointer (some ⟨bkw0,0,none⟩)∧p11= .bool r1∧Box wx bkw0 #[.slice aow0_0 r0.f0.length capw0_0,.slice aow0_1 r0.f1.length capw0_1] 72∧(w2.heap.size≤low0∧low0≤hiw0∧hiw0≤wx.heap.size∧w2.heap.size≤bkw0∧(bkw0<low0∨hiw0≤bkw0))∧RoamW wx low0 hiw0 (.agg #[.slice aow0_0 r0.f0.length capw0_0,.slice aow0_1 r0.f1.length capw0_1]) r0∧Fr w2 wx)
       case first=>
        have RA0: ∀ w',Sf w2 w'→ ∀ o,w'.cell? ⟨w.heap.size,o,none⟩=_:=fun w' h o=>(BA0.fr h.out).cell o
        have RA1: ∀ w',Sf w2 w'→ ∀ o,w'.cell? ⟨w.heap.size+1,o,none⟩=_:=fun w' h o=>(BA1.fr h.out).cell o
        clear BA0
        clear BA1
        clear FA0 FA1
        go_region_held3 (fun w'=>Sf w2 w') ((refine Sf.mk ?_;repeat(first|(with_reducible exact Fr.refl _)|(with_reducible assumption)|(with_reducible refine Fr.drewN ?_ _)|(with_reducible refine Fr.drew ?_)|(with_reducible refine Fr.alloc ?_ _)|(with_reducible refine Fr.setCell ?_ (by exact Qz) _)|(with_reducible refine Fr.trans ?_ (by with_reducible assumption))))) (first|(go_at_call 26;refine(toGraph_w _ d0 _ (hv0.fr (by exact Qf)) hn0).mono ?_;rintro e w3 ⟨aot3,capt3,rfl,ht3,hf3⟩;have zhf3:=hf3.size;(try simp only[World.size_alloc,World.size_setCell,World.size_drew]at zhf3);(try have kb3_0:=hf3.blk (w2.heap.size) (by exact Qz)))|(go_at_call 14;refine(toQuery_w _ d1 _ (hv1.fr (by exact Qf)) hn1).mono ?_;rintro e w4 ⟨aot4_1,capt4_1,aot4_2,capt4_2,aot4_3,capt4_3,rfl,ht4,hf4⟩;have zhf4:=hf4.size;(try simp only[World.size_alloc,World.size_setCell,World.size_drew]at zhf4);(try have kb4_0:=hf4.blk (w2.heap.size) (by exact Qz));(try have kb4_1:=hf4.blk (w3.heap.size) (by exact Qz)))|(go_at_call 48;refine(toIntS_w _ d3 _ (hv3.fr (by exact Qf)) hn3).mono ?_;rintro e w5 ⟨aot5,capt5,rfl,ht5,hf5⟩;have zhf5:=hf5.size;(try simp only[World.size_alloc,World.size_setCell,World.size_drew]at zhf5);(try have kb5_0:=hf5.blk (w2.heap.size) (by exact Qz));(try have kb5_1:=hf5.blk (w3.heap.size) (by exact Qz));(try have kb5_2:=hf5.blk (w4.heap.size) (by exact Qz)))|(go_at_call 47;refine(HS.out _ _ _ _ (ht3.rd.fr (by exact Qf)) (ht4.rd.fr (by exact Qf)) (ht5.rd.fr (by exact Qf))).mono ?_;rintro e w6 ⟨aow0_0,capw0_0,aow0_1,capw0_1,rfl,ow0,hf6⟩;have zhf6:=hf6.size;(try simp only[World.size_alloc,World.size_setCell,World.size_drew]at zhf6);(try have kb6_0:=hf6.blk (w2.heap.size) (by exact Qz));(try have kb6_1:=hf6.blk (w3.heap.size) (by exact Qz));(try have kb6_2:=hf6.blk (w4.heap.size) (by exact Qz));(try have kb6_3:=hf6.blk (w5.heap.size) (by exact Qz));obtain⟨lqw0,hlqaw0,hlqbw0,ow0⟩: ∃ l:Nat,_≤l∧l≤_∧RoamW w6 l _ _ _:=⟨_,Nat.le_refl _,Nat.le_refl _,ow0⟩;(try simp only[World.size_alloc,World.size_setCell,World.size_drew]at hlqaw0 hlqbw0)))
        all_goals
         go_wp2_with fail
         go_meet
         case rel=>
          refine⟨_,lqw0,w6.heap.size,aow0_0,capw0_0,aow0_1,capw0_1,rfl,rfl,?_,?_,?_,by exact Qf⟩
          · (repeat(first|(with_reducible exact Box.new _ _ _)|(with_reducible apply Box.drew)|(apply Box.set_to)|(apply Box.new';(first|with_reducible rfl|(focus(simp;done))))|(with_reducible refine Box.alloc ?_ _)|(apply Box.fr;(case hf=>with_reducible assumption))));all_goals rfl
          · (try simp only[World.size_alloc,World.size_setCell,World.size_drew]);(refine⟨?_,?_,?_,?_,?_⟩<;>first|omega|(simp;omega))
          · (repeat(first|(exact ow0)|(with_reducible refine RoamW.drewN ?_ _)|(with_reducible refine RoamW.drew ?_)|(with_reducible refine RoamW.alloc ?_ _)|(with_reducible refine RoamW.set ?_ (by exact Qz) _)))
       case rest=>
        obtain⟨w3,rfl⟩: ∃ w_:World,w_=wc:=⟨_,rfl⟩
        obtain⟨bkw0,low0,hiw0,aow0_0,capw0_0,aow0_1,capw0_1,rfl,rfl,Bw0,hbw0,ow0,hf3⟩:=hcut
        have qltw0:=Bw0.lt
        have qw0:=hbw0;(try simp only[World.size_alloc,World.size_setCell,World.size_drew]at qw0)
        have zhf3:=hf3.size;(try simp only[World.size_alloc,World.size_setCell,World.size_drew]at zhf3)
        have BA0:=BA0.fr (show Fr w2 w3 by exact Qf)
        have BA1:=BA1.fr (show Fr w2 w3 by exact Qf)
        clear FA0 FA1
        have FA0:=BA0.facts
        have FA1:=BA1.facts
        have Fw0:=Bw0.facts
        go_wp2_with fail
        refine(toGraph_w _ d0 _ (hv0.fr (by exact Qf)) hn0).mono ?_
        rintro e w4 ⟨aot4,capt4,rfl,ht4,hf4⟩
        have zhf4:=hf4.size;(try simp only[World.size_alloc,World.size_setCell,World.size_drew]at zhf4)
        have BA0:=BA0.fr (show Fr w3 w4 by exact Qf)
        have BA1:=BA1.fr (show Fr w3 w4 by exact Qf)
        have Bw0:=Bw0.fr (show Fr w3 w4 by exact Qf)
        clear FA0 FA1 Fw0
        have FA0:=BA0.facts
        have FA1:=BA1.facts
        have Fw0:=Bw0.facts
        have ox0:=ht4
        go_wp2_with fail
        refine(toQuery_w _ d1 _ (hv1.fr (by exact Qf)) hn1).mono ?_
        rintro e w5 ⟨aot5_1,capt5_1,aot5_2,capt5_2,aot5_3,capt5_3,rfl,ht5,hf5⟩
        have zhf5:=hf5.size;(try simp only[World.size_alloc,World.size_setCell,World.size_drew]at zhf5)
        have BA0:=BA0.fr (show Fr w4 w5 by exact Qf)
        have BA1:=BA1.fr (show Fr w4 w5 by exact Qf)
        have Bw0:=Bw0.fr (show Fr w4 w5 by exact Qf)
        have Bx0:Box w5 (w4.heap.size) #[.int .i64 d0.f0,.slice aot4 d0.f1.length capt4] 55:=(Box.new' (w:=w4) (X:= #[.int .i64 d0.f0,.slice aot4 d0.f1.length capt4]) (T:=55) (by simp)).fr (by exact Qf)
        clear FA0 FA1 Fw0
        have FA0:=BA0.facts
        have FA1:=BA1.facts
        have Fw0:=Bw0.facts
        have Fx0:=Bx0.facts
        have ox1:=ht5
        go_wp2_with fail
        refine(toIntS_w _ d3 _ (hv3.fr (by exact Qf)) hn3).mono ?_
        rintro e w6 ⟨aot6,capt6,rfl,ht6,hf6⟩
        have zhf6:=hf6.size;(try simp only[World.size_alloc,World.size_setCell,World.size_drew]at zhf6)
        have BA0:=BA0.fr (show Fr w5 w6 by exact Qf)
        have BA1:=BA1.fr (show Fr w5 w6 by exact Qf)
        have Bw0:=Bw0.fr (show Fr w5 w6 by exact Qf)
        have Bx0:=Bx0.fr (show Fr w5 w6 by exact Qf)
        have Bx1:Box w6 (w5.heap.size) #[.bool d1.f0,.slice aot5_1 d1.f1.length capt5_1,.slice aot5_2 d1.f2.length capt5_2,.slice aot5_3 d1.f3.length capt5_3] 35:=(Box.new' (w:=w5) (X:= #[.bool d1.f0,.slice aot5_1 d1.f1.length capt5_1,.slice aot5_2 d1.f2.length capt5_2,.slice aot5_3 d1.f3.length capt5_3]) (T:=35) (by simp)).fr (by exact Qf)
        clear FA0 FA1 Fw0 Fx0
        have FA0:=BA0.facts
        have FA1:=BA1.facts
        have Fw0:=Bw0.facts
        have Fx0:=Bx0.facts
        have Fx1:=Bx1.facts
        have ox3:=ht6
        go_wp2_with fail
        refine(HI.out _ _ _ _ (ox0.rd.fr (by exact Qf)) (ox1.rd.fr (by exact Qf)) (ox3.rd.fr (by exact Qf))).mono ?_
        rintro e w7 ⟨aog0_0,capg0_0,aog0_1,capg0_1,rfl,og0,hf7⟩
        have zhf7:=hf7.size;(try simp only[World.size_alloc,World.size_setCell,World.size_drew]at zhf7)
        have BA0:=BA0.fr (show Fr w6 w7 by exact Qf)
        have BA1:=BA1.fr (show Fr w6 w7 by exact Qf)
        have Bw0:=Bw0.fr (show Fr w6 w7 by exact Qf)
        have Bx0:=Bx0.fr (show Fr w6 w7 by exact Qf)
        have Bx1:=Bx1.fr (show Fr w6 w7 by exact Qf)
        clear FA0 FA1 Fw0 Fx0 Fx1
        have FA0:=BA0.facts
        have FA1:=BA1.facts
        have Fw0:=Bw0.facts
        have Fx0:=Bx0.facts
        have Fx1:=Bx1.facts
        go_wp2_with fail
        refine(eqRoam_same _ _ r0 _ (og0.rd.fr (by exact Qf)) (ow0.rd.fr (by exact Qf))).mono ?_
        rintro e w8 ⟨rfl,hf8⟩
        have zhf8:=hf8.size;(try simp only[World.size_alloc,World.size_setCell,World.size_drew]at zhf8)
        have BA0:=BA0.fr (show Fr w7 w8 by exact Qf)
        have BA1:=BA1.fr (show Fr w7 w8 by exact Qf)
        have Bw0:=Bw0.fr (show Fr w7 w8 by exact Qf)
        have Bx0:=Bx0.fr (show Fr w7 w8 by exact Qf)
        have Bx1:=Bx1.fr (show Fr w7 w8 by exact Qf)
        have Bg0:Box w8 (w7.heap.size) #[.slice aog0_0 r0.f0.length capg0_0,.slice aog0_1 r0.f1.length capg0_1] 72:=(Box.new' (w:=w7) (X:= #[.slice aog0_0 r0.f0.length capg0_0,.slice aog0_1 r0.f1.length capg0_1]) (T:=72) (by simp)).fr (by exact Qf)
        clear FA0 FA1 Fw0 Fx0 Fx1
        have FA0:=BA0.facts
        have FA1:=BA1.facts
        have Fw0:=Bw0.facts
        have Fx0:=Bx0.facts
        have Fx1:=Bx1.facts
        have Fg0:=Bg0.facts
        have RA0: ∀ w',Sf w8 w'→ ∀ o,w'.cell? ⟨w.heap.size,o,none⟩=_:=fun w' h o=>(BA0.fr h.out).cell o
        have RA1: ∀ w',Sf w8 w'→ ∀ o,w'.cell? ⟨w.heap.size+1,o,none⟩=_:=fun w' h o=>(BA1.fr h.out).cell o
        have Rw0: ∀ w',Sf w8 w'→ ∀ o,w'.cell? ⟨bkw0,o,none⟩=_:=fun w' h o=>(Bw0.fr h.out).cell o
        have Rx0: ∀ w',Sf w8 w'→ ∀ o,w'.cell? ⟨w4.heap.size,o,none⟩=_:=fun w' h o=>(Bx0.fr h.out).cell o
        have Rx1: ∀ w',Sf w8 w'→ ∀ o,w'.cell? ⟨w5.heap.size,o,none⟩=_:=fun w' h o=>(Bx1.fr h.out).cell o
        have Rg0: ∀ w',Sf w8 w'→ ∀ o,w'.cell? ⟨w7.heap.size,o,none⟩=_:=fun w' h o=>(Bg0.fr h.out).cell o
        go_wp2_with fail
        go_region_held3 (fun w'=>Sf w8 w') ((refine Sf.mk ?_;repeat(first|(with_reducible exact Fr.refl _)|(with_reducible assumption)|(with_reducible refine Fr.drewN ?_ _)|(with_reducible refine Fr.drew ?_)|(with_reducible refine Fr.alloc ?_ _)|(with_reducible refine Fr.setCell ?_ (by exact Qz) _)|(with_reducible refine Fr.trans ?_ (by with_reducible assumption))))) (first|(go_at_call 26;refine(toGraph_w _ d0 _ (hv0.fr (by exact Qf)) hn0).mono ?_;rintro e w9 ⟨aot9,capt9,rfl,ht9,hf9⟩)|(go_at_call 29;refine(eqGraph_same _ _ d0 _ (ox0.rd.fr (by exact Qf)) (ht9.rd.fr (by exact Qf))).mono ?_;rintro e w10 ⟨rfl,hf10⟩))
        clear RA0
        clear RA1
        clear Rw0
        clear Rx0
        clear Rx1
        clear Rg0
        have zhf9:=hf9.size;(try simp only[World.size_alloc,World.size_setCell,World.size_drew]at zhf9)
        have zhf10:=hf10.size;(try simp only[World.size_alloc,World.size_setCell,World.size_drew]at zhf10)
        have BA0:=BA0.fr (show Fr w8 w10 by exact Qf)
        have BA1:=BA1.fr (show Fr w8 w10 by exact Qf)
        have Bw0:=Bw0.fr (show Fr w8 w10 by exact Qf)
        have Bx0:=Bx0.fr (show Fr w8 w10 by exact Qf)
        have Bx1:=Bx1.fr (show Fr w8 w10 by exact Qf)
        have Bg0:=Bg0.fr (show Fr w8 w10 by exact Qf)
        clear FA0 FA1 Fw0 Fx0 Fx1 Fg0
        have FA0:=BA0.facts
        have FA1:=BA1.facts
        have Fw0:=Bw0.facts
        have Fx0:=Bx0.facts
        have Fx1:=Bx1.facts
        have Fg0:=Bg0.facts
        have RA0: ∀ w',Sf w10 w'→ ∀ o,w'.cell? ⟨w.heap.size,o,none⟩=_:=fun w' h o=>(BA0.fr h.out).cell o
        have RA1: ∀ w',Sf w10 w'→ ∀ o,w'.cell? ⟨w.heap.size+1,o,none⟩=_:=fun w' h o=>(BA1.fr h.out).cell o
        have Rw0: ∀ w',Sf w10 w'→ ∀ o,w'.cell? ⟨bkw0,o,none⟩=_:=fun w' h o=>(Bw0.fr h.out).cell o
        have Rx0: ∀ w',Sf w10 w'→ ∀ o,w'.cell? ⟨w4.heap.size,o,none⟩=_:=fun w' h o=>(Bx0.fr h.out).cell o
        have Rx1: ∀ w',Sf w10 w'→ ∀ o,w'.cell? ⟨w5.heap.size,o,none⟩=_:=fun w' h o=>(Bx1.fr h.out).cell o
        have Rg0: ∀ w',Sf w10 w'→ ∀ o,w'.cell? ⟨w7.heap.size,o,none⟩=_:=fun w' h o=>(Bg0.fr h.out).cell o
        go_wp2_with fail
        go_region_held3 (fun w'=>Sf w10 w') ((refine Sf.mk ?_;repeat(first|(with_reducible exact Fr.refl _)|(with_reducible assumption)|(with_reducible refine Fr.drewN ?_ _)|(with_reducible refine Fr.drew ?_)|(with_reducible refine Fr.alloc ?_ _)|(with_reducible refine Fr.setCell ?_ (by exact Qz) _)|(with_reducible refine Fr.trans ?_ (by with_reducible assumption))))) (first|(go_at_call 14;refine(toQuery_w _ d1 _ (hv1.fr (by exact Qf)) hn1).mono ?_;rintro e w11 ⟨aot11_1,capt11_1,aot11_2,capt11_2,aot11_3,capt11_3,rfl,ht11,hf11⟩)|(go_at_call 18;refine(eqQuery_same _ _ d1 _ (ox1.rd.fr (by exact Qf)) (ht11.rd.fr (by exact Qf))).mono ?_;rintro e w12 ⟨rfl,hf12⟩))
        clear RA0
        clear RA1
        clear Rw0
        clear Rx0
        clear Rx1
        clear Rg0
        have zhf11:=hf11.size;(try simp only[World.size_alloc,World.size_setCell,World.size_drew]at zhf11)
        have zhf12:=hf12.size;(try simp only[World.size_alloc,World.size_setCell,World.size_drew]at zhf12)
        have BA0:=BA0.fr (show Fr w10 w12 by exact Qf)
        have BA1:=BA1.fr (show Fr w10 w12 by exact Qf)
        have Bw0:=Bw0.fr (show Fr w10 w12 by exact Qf)
        have Bx0:=Bx0.fr (show Fr w10 w12 by exact Qf)
        have Bx1:=Bx1.fr (show Fr w10 w12 by exact Qf)
        have Bg0:=Bg0.fr (show Fr w10 w12 by exact Qf)
        clear FA0 FA1 Fw0 Fx0 Fx1 Fg0
        have FA0:=BA0.facts
        have FA1:=BA1.facts
        have Fw0:=Bw0.facts
        have Fx0:=Bx0.facts
        have Fx1:=Bx1.facts
        have Fg0:=Bg0.facts
        go_wp2_with fail
        refine(toIntS_w _ d3 _ (hv3.fr (by exact Qf)) hn3).mono ?_
        rintro e w13 ⟨aot13,capt13,rfl,ht13,hf13⟩
        have zhf13:=hf13.size;(try simp only[World.size_alloc,World.size_setCell,World.size_drew]at zhf13)
        have BA0:=BA0.fr (show Fr w12 w13 by exact Qf)
        have BA1:=BA1.fr (show Fr w12 w13 by exact Qf)
        have Bw0:=Bw0.fr (show Fr w12 w13 by exact Qf)
        have Bx0:=Bx0.fr (show Fr w12 w13 by exact Qf)
        have Bx1:=Bx1.fr (show Fr w12 w13 by exact Qf)
        have Bg0:=Bg0.fr (show Fr w12 w13 by exact Qf)
        clear FA0 FA1 Fw0 Fx0 Fx1 Fg0
        have FA0:=BA0.facts
        have FA1:=BA1.facts
        have Fw0:=Bw0.facts
        have Fx0:=Bx0.facts
        have Fx1:=Bx1.facts
        have Fg0:=Bg0.facts
        go_wp2_with fail
        refine(eqIntS_same _ _ d3 _ (ox3.rd.fr (by exact Qf)) (ht13.rd.fr (by exact Qf))).mono ?_
        rintro e w14 ⟨rfl,hf14⟩
        have zhf14:=hf14.size;(try simp only[World.size_alloc,World.size_setCell,World.size_drew]at zhf14)
        have BA0:=BA0.fr (show Fr w13 w14 by exact Qf)
        have BA1:=BA1.fr (show Fr w13 w14 by exact Qf)
        have Bw0:=Bw0.fr (show Fr w13 w14 by exact Qf)
        have Bx0:=Bx0.fr (show Fr w13 w14 by exact Qf)
        have Bx1:=Bx1.fr (show Fr w13 w14 by exact Qf)
        have Bg0:=Bg0.fr (show Fr w13 w14 by exact Qf)
        clear FA0 FA1 Fw0 Fx0 Fx1 Fg0
        have FA0:=BA0.facts
        have FA1:=BA1.facts
        have Fw0:=Bw0.facts
        have Fx0:=Bx0.facts
        have Fx1:=Bx1.facts
        have Fg0:=Bg0.facts
        go_wp2_with fail
        refine(markGraph_w _ d0 1 (w3.heap.size) (w4.heap.size) _ (ox0.fr (by exact Qf)) (by exact Qz) (by omega) (by omega)).mono ?_
        rintro e w15 ⟨rfl,omx0,sp15⟩
        have zsp15:=sp15.size;(try simp only[World.size_alloc,World.size_setCell,World.size_drew]at zsp15)
        have ow0_15:=(ow0.fr (show Fr w3 w14 by exact Qf)).span sp15 (by exact Qz)
        have ox1_15:=(ox1.fr (show Fr w5 w14 by exact Qf)).span sp15 (by exact Qz)
        have ox3_15:=(ox3.fr (show Fr w6 w14 by exact Qf)).span sp15 (by exact Qz)
        have og0_15:=(og0.fr (show Fr w7 w14 by exact Qf)).span sp15 (by exact Qz)
        have BA0:=(BA0.fr (show Fr w14 w14 by exact Qf)).span sp15 (by exact Qz)
        have BA1:=(BA1.fr (show Fr w14 w14 by exact Qf)).span sp15 (by exact Qz)
        have Bw0:=(Bw0.fr (show Fr w14 w14 by exact Qf)).span sp15 (by exact Qz)
        have Bx0:=(Bx0.fr (show Fr w14 w14 by exact Qf)).span sp15 (by exact Qz)
        have Bx1:=(Bx1.fr (show Fr w14 w14 by exact Qf)).span sp15 (by exact Qz)
        have Bg0:=(Bg0.fr (show Fr w14 w14 by exact Qf)).span sp15 (by exact Qz)
        have hF15:Fr w w15:=Span.fr (show Fr w w14 by exact Qf) sp15 (by exact Qz)
        clear FA0 FA1 Fw0 Fx0 Fx1 Fg0
        have FA0:=BA0.facts
        have FA1:=BA1.facts
        have Fw0:=Bw0.facts
        have Fx0:=Bx0.facts
        have Fx1:=Bx1.facts
        have Fg0:=Bg0.facts
        obtain⟨kx0,hkx0⟩: ∃ q:Int,1+((d0.cnt:Nat):Int)=q:=⟨_,rfl⟩
        have hpkx0:0<kx0:=by omega
        have hbkx0:kx0≤150000000:=by omega
        have hdkx0:decide (kx0<0)=false:=by simp;omega
        rw[hkx0]
        clear hkx0
        go_wp2_with fail
        refine(markQuery_w _ d1 kx0 ((w4.alloc (.cells #[.int .i64 d0.f0,.slice aot4 d0.f1.length capt4] 55)).heap.size) (w5.heap.size) _ (ox1_15.fr (by exact Qf)) (by exact Qz) (by omega) (by omega)).mono ?_
        rintro e w16 ⟨rfl,omx1,sp16⟩
        have zsp16:=sp16.size;(try simp only[World.size_alloc,World.size_setCell,World.size_drew]at zsp16)
        have ow0_16:=(ow0_15.fr (show Fr w15 w15 by exact Qf)).span sp16 (by exact Qz)
        have ox3_16:=(ox3_15.fr (show Fr w15 w15 by exact Qf)).span sp16 (by exact Qz)
        have og0_16:=(og0_15.fr (show Fr w15 w15 by exact Qf)).span sp16 (by exact Qz)
        have BA0:=(BA0.fr (show Fr w15 w15 by exact Qf)).span sp16 (by exact Qz)
        have BA1:=(BA1.fr (show Fr w15 w15 by exact Qf)).span sp16 (by exact Qz)
        have Bw0:=(Bw0.fr (show Fr w15 w15 by exact Qf)).span sp16 (by exact Qz)
        have Bx0:=(Bx0.fr (show Fr w15 w15 by exact Qf)).span sp16 (by exact Qz)
        have Bx1:=(Bx1.fr (show Fr w15 w15 by exact Qf)).span sp16 (by exact Qz)
        have Bg0:=(Bg0.fr (show Fr w15 w15 by exact Qf)).span sp16 (by exact Qz)
        have hF16:Fr w w16:=Span.fr (show Fr w w15 by exact Qf) sp16 (by exact Qz)
        clear FA0 FA1 Fw0 Fx0 Fx1 Fg0
        have FA0:=BA0.facts
        have FA1:=BA1.facts
        have Fw0:=Bw0.facts
        have Fx0:=Bx0.facts
        have Fx1:=Bx1.facts
        have Fg0:=Bg0.facts
        obtain⟨kx1,hkx1⟩: ∃ q:Int,kx0+((d1.cnt:Nat):Int)=q:=⟨_,rfl⟩
        have hpkx1:0<kx1:=by omega
        have hbkx1:kx1≤300000000:=by omega
        have hdkx1:decide (kx1<0)=false:=by simp;omega
        rw[hkx1]
        clear hkx1
        go_wp2_with fail
        refine(markIntS_w _ d3 kx1 ((w5.alloc (.cells #[.bool d1.f0,.slice aot5_1 d1.f1.length capt5_1,.slice aot5_2 d1.f2.length capt5_2,.slice aot5_3 d1.f3.length capt5_3] 35)).heap.size) (w6.heap.size) _ (ox3_16.fr (by exact Qf)) (by omega) (by omega)).mono ?_
        rintro e w17 ⟨rfl,omx3,sp17⟩
        have zsp17:=sp17.size;(try simp only[World.size_alloc,World.size_setCell,World.size_drew]at zsp17)
        have ow0_17:=(ow0_16.fr (show Fr w16 w16 by exact Qf)).span sp17 (by exact Qz)
        have og0_17:=(og0_16.fr (show Fr w16 w16 by exact Qf)).span sp17 (by exact Qz)
        have BA0:=(BA0.fr (show Fr w16 w16 by exact Qf)).span sp17 (by exact Qz)
        have BA1:=(BA1.fr (show Fr w16 w16 by exact Qf)).span sp17 (by exact Qz)
        have Bw0:=(Bw0.fr (show Fr w16 w16 by exact Qf)).span sp17 (by exact Qz)
        have Bx0:=(Bx0.fr (show Fr w16 w16 by exact Qf)).span sp17 (by exact Qz)
        have Bx1:=(Bx1.fr (show Fr w16 w16 by exact Qf)).span sp17 (by exact Qz)
        have Bg0:=(Bg0.fr (show Fr w16 w16 by exact Qf)).span sp17 (by exact Qz)
        have hF17:Fr w w17:=Span.fr (show Fr w w16 by exact Qf) sp17 (by exact Qz)
        clear FA0 FA1 Fw0 Fx0 Fx1 Fg0
        have FA0:=BA0.facts
        have FA1:=BA1.facts
        have Fw0:=Bw0.facts
        have Fx0:=Bx0.facts
        have Fx1:=Bx1.facts
        have Fg0:=Bg0.facts
        obtain⟨kx3,hkx3⟩: ∃ q:Int,kx1+1*(d3.length:Int)=q:=⟨_,rfl⟩
        have hpkx3:0<kx3:=by omega
        have hbkx3:kx3≤450000000:=by omega
        have hdkx3:decide (kx3<0)=false:=by simp;omega
        rw[hkx3]
        clear hkx3
        go_wp2_with fail
        refine(eqRoam_same _ _ r0 _ (og0_17.rd.fr (by exact Qf)) (ow0_17.rd.fr (by exact Qf))).mono ?_
        rintro e w18 ⟨rfl,hf18⟩
        have zhf18:=hf18.size;(try simp only[World.size_alloc,World.size_setCell,World.size_drew]at zhf18)
        have BA0:=BA0.fr (show Fr w17 w18 by exact Qf)
        have BA1:=BA1.fr (show Fr w17 w18 by exact Qf)
        have Bw0:=Bw0.fr (show Fr w17 w18 by exact Qf)
        have Bx0:=Bx0.fr (show Fr w17 w18 by exact Qf)
        have Bx1:=Bx1.fr (show Fr w17 w18 by exact Qf)
        have Bg0:=Bg0.fr (show Fr w17 w18 by exact Qf)
        clear FA0 FA1 Fw0 Fx0 Fx1 Fg0
        have FA0:=BA0.facts
        have FA1:=BA1.facts
        have Fw0:=Bw0.facts
        have Fx0:=Bx0.facts
        have Fx1:=Bx1.facts
        have Fg0:=Bg0.facts
        go_wp2_with fail
        refine(markRoam_w _ r0 1 (w6.heap.size) (w7.heap.size) _ (og0_17.fr (by exact Qf)) (by exact Qz) (by omega) (by omega)).mono ?_
        rintro e w19 ⟨rfl,omg0,sp19⟩
        have zsp19:=sp19.size;(try simp only[World.size_alloc,World.size_setCell,World.size_drew]at zsp19)
        have ow0_19:=(ow0_17.fr (show Fr w17 w18 by exact Qf)).span sp19 (by exact Qz)
        have BA0:=(BA0.fr (show Fr w18 w18 by exact Qf)).span sp19 (by exact Qz)
        have BA1:=(BA1.fr (show Fr w18 w18 by exact Qf)).span sp19 (by exact Qz)
        have Bw0:=(Bw0.fr (show Fr w18 w18 by exact Qf)).span sp19 (by exact Qz)
        have Bx0:=(Bx0.fr (show Fr w18 w18 by exact Qf)).span sp19 (by exact Qz)
        have Bx1:=(Bx1.fr (show Fr w18 w18 by exact Qf)).span sp19 (by exact Qz)
        have Bg0:=(Bg0.fr (show Fr w18 w18 by exact Qf)).span sp19 (by exact Qz)
        have hF19:Fr w w19:=Span.fr (show Fr w w18 by exact Qf) sp19 (by exact Qz)
        clear FA0 FA1 Fw0 Fx0 Fx1 Fg0
        have FA0:=BA0.facts
        have FA1:=BA1.facts
        have Fw0:=Bw0.facts
        have Fx0:=Bx0.facts
        have Fx1:=Bx1.facts
        have Fg0:=Bg0.facts
        obtain⟨mg0,hmg0⟩: ∃ q:Int,1+((r0.cnt:Nat):Int)=q:=⟨_,rfl⟩
        have hpmg0:0<mg0:=by omega
        have hbmg0:mg0≤2000000000000:=by omega
        have hdmg0:decide (mg0<0)=false:=by simp;omega
        rw[hmg0]
        have hheldg0:=fun(W:World) (hf:Fr w19 W)=>heldRoam_w (.agg #[.slice aog0_0 r0.f0.length capg0_0,.slice aog0_1 r0.f1.length capg0_1]) r0 1 W (omg0.rd.fr hf) (by omega) (by omega)
        rw[hmg0]at hheldg0
        have HHg0:=Lib.hid hheldg0
        clear hheldg0
        clear hmg0
        go_wp2_with fail
        refine(HHg0.out _ (by exact Qf)).mono ?_
        rintro e w20 ⟨rfl,hf20⟩
        have zhf20:=hf20.size;(try simp only[World.size_alloc,World.size_setCell,World.size_drew]at zhf20)
        have BA0:=BA0.fr (show Fr w19 w20 by exact Qf)
        have BA1:=BA1.fr (show Fr w19 w20 by exact Qf)
        have Bw0:=Bw0.fr (show Fr w19 w20 by exact Qf)
        have Bx0:=Bx0.fr (show Fr w19 w20 by exact Qf)
        have Bx1:=Bx1.fr (show Fr w19 w20 by exact Qf)
        have Bg0:=Bg0.fr (show Fr w19 w20 by exact Qf)
        clear FA0 FA1 Fw0 Fx0 Fx1 Fg0
        have FA0:=BA0.facts
        have FA1:=BA1.facts
        have Fw0:=Bw0.facts
        have Fx0:=Bx0.facts
        have Fx1:=Bx1.facts
        have Fg0:=Bg0.facts
        go_upto_region 37 with fail
        go_cut [20,21]from 22 (fun p20 p21 wx=> ∃ bkh0 loh0 hih0 aoh0_0 caph0_0 aoh0_1 caph0_1,p20= .pointer (some ⟨bkh0,0,none⟩)∧p21= .bool r1∧Box wx bkh0 #[.slice aoh0_0 r0.f0.length caph0_0,.slice aoh0_1 r0.f1.length caph0_1] 72∧(w20.heap.size≤loh0∧loh0≤hih0∧hih0≤wx.heap.size∧w20.heap.size≤bkh0∧(bkh0<loh0∨hih0≤bkh0))∧RoamW wx loh0 hih0 (.agg #[.slice aoh0_0 r0.f0.length caph0_0,.slice aoh0_1 r0.f1.length caph0_1]) r0∧Fr w20 wx)
        case first=>
         have RA0: ∀ w',Sf w20 w'→ ∀ o,w'.cell? ⟨w.heap.size,o,none⟩=_:=fun w' h o=>(BA0.fr h.out).cell o
         have RA1: ∀ w',Sf w20 w'→ ∀ o,w'.cell? ⟨w.heap.size+1,o,none⟩=_:=fun w' h o=>(BA1.fr h.out).cell o
         have Rw0: ∀ w',Sf w20 w'→ ∀ o,w'.cell? ⟨bkw0,o,none⟩=_:=fun w' h o=>(Bw0.fr h.out).cell o
         have Rx0: ∀ w',Sf w20 w'→ ∀ o,w'.cell? ⟨w4.heap.size,o,none⟩=_:=fun w' h o=>(Bx0.fr h.out).cell o
         have Rx1: ∀ w',Sf w20 w'→ ∀ o,w'.cell? ⟨w5.heap.size,o,none⟩=_:=fun w' h o=>(Bx1.fr h.out).cell o
         have Rg0: ∀ w',Sf w20 w'→ ∀ o,w'.cell? ⟨w7.heap.size,o,none⟩=_:=fun w' h o=>(Bg0.fr h.out).cell o
         clear BA0
         clear BA1
         clear Bw0
         clear Bx0
         clear Bx1
         clear Bg0
         clear FA0 FA1 Fw0 Fx0 Fx1 Fg0
         go_region_held3 (fun w'=>Sf w20 w') ((refine Sf.mk ?_;repeat(first|(with_reducible exact Fr.refl _)|(with_reducible assumption)|(with_reducible refine Fr.drewN ?_ _)|(with_reducible refine Fr.drew ?_)|(with_reducible refine Fr.alloc ?_ _)|(with_reducible refine Fr.setCell ?_ (by exact Qz) _)|(with_reducible refine Fr.trans ?_ (by with_reducible assumption))))) (first|(go_at_call 26;refine(toGraph_w _ d0 _ (hv0.fr (by exact Qf)) hn0).mono ?_;rintro e w21 ⟨aot21,capt21,rfl,ht21,hf21⟩;have zhf21:=hf21.size;(try simp only[World.size_alloc,World.size_setCell,World.size_drew]at zhf21);(try have kb21_0:=hf21.blk (w20.heap.size) (by exact Qz)))|(go_at_call 14;refine(toQuery_w _ d1 _ (hv1.fr (by exact Qf)) hn1).mono ?_;rintro e w22 ⟨aot22_1,capt22_1,aot22_2,capt22_2,aot22_3,capt22_3,rfl,ht22,hf22⟩;have zhf22:=hf22.size;(try simp only[World.size_alloc,World.size_setCell,World.size_drew]at zhf22);(try have kb22_0:=hf22.blk (w20.heap.size) (by exact Qz));(try have kb22_1:=hf22.blk (w21.heap.size) (by exact Qz)))|(go_at_call 48;refine(toIntS_w _ d3 _ (hv3.fr (by exact Qf)) hn3).mono ?_;rintro e w23 ⟨aot23,capt23,rfl,ht23,hf23⟩;have zhf23:=hf23.size;(try simp only[World.size_alloc,World.size_setCell,World.size_drew]at zhf23);(try have kb23_0:=hf23.blk (w20.heap.size) (by exact Qz));(try have kb23_1:=hf23.blk (w21.heap.size) (by exact Qz));(try have kb23_2:=hf23.blk (w22.heap.size) (by exact Qz)))|(go_at_call 49;refine(HI.out _ _ _ _ (ht21.rd.fr (by exact Qf)) (ht22.rd.fr (by exact Qf)) (ht23.rd.fr (by exact Qf))).mono ?_;rintro e w24 ⟨aoh0_0,caph0_0,aoh0_1,caph0_1,rfl,oh0,hf24⟩;have zhf24:=hf24.size;(try simp only[World.size_alloc,World.size_setCell,World.size_drew]at zhf24);(try have kb24_0:=hf24.blk (w20.heap.size) (by exact Qz));(try have kb24_1:=hf24.blk (w21.heap.size) (by exact Qz));(try have kb24_2:=hf24.blk (w22.heap.size) (by exact Qz));(try have kb24_3:=hf24.blk (w23.heap.size) (by exact Qz));obtain⟨lqh0,hlqah0,hlqbh0,oh0⟩: ∃ l:Nat,_≤l∧l≤_∧RoamW w24 l _ _ _:=⟨_,Nat.le_refl _,Nat.le_refl _,oh0⟩;(try simp only[World.size_alloc,World.size_setCell,World.size_drew]at hlqah0 hlqbh0)))
         all_goals
          go_wp2_with fail
          go_meet
          case rel=>
           refine⟨_,lqh0,w24.heap.size,aoh0_0,caph0_0,aoh0_1,caph0_1,rfl,rfl,?_,?_,?_,by exact Qf⟩
           · (repeat(first|(with_reducible exact Box.new _ _ _)|(with_reducible apply Box.drew)|(apply Box.set_to)|(apply Box.new';(first|with_reducible rfl|(focus(simp;done))))|(with_reducible refine Box.alloc ?_ _)|(apply Box.fr;(case hf=>with_reducible assumption))));all_goals rfl
           · (try simp only[World.size_alloc,World.size_setCell,World.size_drew]);(refine⟨?_,?_,?_,?_,?_⟩<;>first|omega|(simp;omega))
           · (repeat(first|(exact oh0)|(with_reducible refine RoamW.drewN ?_ _)|(with_reducible refine RoamW.drew ?_)|(with_reducible refine RoamW.alloc ?_ _)|(with_reducible refine RoamW.set ?_ (by exact Qz) _)))
        case rest=>
         obtain⟨w21,rfl⟩: ∃ w_:World,w_=wc:=⟨_,rfl⟩
         obtain⟨bkh0,loh0,hih0,aoh0_0,caph0_0,aoh0_1,caph0_1,rfl,rfl,Bh0,hbh0,oh0,hf21⟩:=hcut
         have qlth0:=Bh0.lt
         have qh0:=hbh0;(try simp only[World.size_alloc,World.size_setCell,World.size_drew]at qh0)
         have zhf21:=hf21.size;(try simp only[World.size_alloc,World.size_setCell,World.size_drew]at zhf21)
         have BA0:=BA0.fr (show Fr w20 w21 by exact Qf)
         have BA1:=BA1.fr (show Fr w20 w21 by exact Qf)
         have Bw0:=Bw0.fr (show Fr w20 w21 by exact Qf)
         have Bx0:=Bx0.fr (show Fr w20 w21 by exact Qf)
         have Bx1:=Bx1.fr (show Fr w20 w21 by exact Qf)
         have Bg0:=Bg0.fr (show Fr w20 w21 by exact Qf)
         clear FA0 FA1 Fw0 Fx0 Fx1 Fg0
         have FA0:=BA0.facts
         have FA1:=BA1.facts
         have Fw0:=Bw0.facts
         have Fx0:=Bx0.facts
         have Fx1:=Bx1.facts
         have Fg0:=Bg0.facts
         have Fh0:=Bh0.facts
         go_wp2_with fail
         refine(eqRoam_same _ _ r0 _ (oh0.rd.fr (by exact Qf)) (ow0_19.rd.fr (by exact Qf))).mono ?_
         rintro e w22 ⟨rfl,hf22⟩
         have zhf22:=hf22.size;(try simp only[World.size_alloc,World.size_setCell,World.size_drew]at zhf22)
         have BA0:=BA0.fr (show Fr w21 w22 by exact Qf)
         have BA1:=BA1.fr (show Fr w21 w22 by exact Qf)
         have Bw0:=Bw0.fr (show Fr w21 w22 by exact Qf)
         have Bx0:=Bx0.fr (show Fr w21 w22 by exact Qf)
         have Bx1:=Bx1.fr (show Fr w21 w22 by exact Qf)
         have Bg0:=Bg0.fr (show Fr w21 w22 by exact Qf)
         have Bh0:=Bh0.fr (show Fr w21 w22 by exact Qf)
         clear FA0 FA1 Fw0 Fx0 Fx1 Fg0 Fh0
         have FA0:=BA0.facts
         have FA1:=BA1.facts
         have Fw0:=Bw0.facts
         have Fx0:=Bx0.facts
         have Fx1:=Bx1.facts
         have Fg0:=Bg0.facts
         have Fh0:=Bh0.facts
         go_wp2_with fail
         refine(HHg0.out _ (by exact Qf)).mono ?_
         rintro e w23 ⟨rfl,hf23⟩
         have zhf23:=hf23.size;(try simp only[World.size_alloc,World.size_setCell,World.size_drew]at zhf23)
         have BA0:=BA0.fr (show Fr w22 w23 by exact Qf)
         have BA1:=BA1.fr (show Fr w22 w23 by exact Qf)
         have Bw0:=Bw0.fr (show Fr w22 w23 by exact Qf)
         have Bx0:=Bx0.fr (show Fr w22 w23 by exact Qf)
         have Bx1:=Bx1.fr (show Fr w22 w23 by exact Qf)
         have Bg0:=Bg0.fr (show Fr w22 w23 by exact Qf)
         have Bh0:=Bh0.fr (show Fr w22 w23 by exact Qf)
         clear FA0 FA1 Fw0 Fx0 Fx1 Fg0 Fh0
         have FA0:=BA0.facts
         have FA1:=BA1.facts
         have Fw0:=Bw0.facts
         have Fx0:=Bx0.facts
         have Fx1:=Bx1.facts
         have Fg0:=Bg0.facts
         have Fh0:=Bh0.facts
         go_wp2_with fail
         go_ret
         exact⟨rfl,by exact Qf⟩
     · skip
       have hr:szR q1 (d1.bulk)= -1:=szR_no hl2
       have HR:=Lib.hid hr
       clear hr hspec himpl
       go_enter Tryz.func10,Tryz.ntmps10
       go_wp2_with fail
       refine(szGraph_w _ d0 _ _ (hv0.fr (by exact Qf)) hs0 (by omega) (by omega)).mono ?_
       rintro e w1 ⟨rfl,hf1⟩
       have zhf1:=hf1.size;(try simp only[World.size_alloc,World.size_setCell,World.size_drew]at zhf1)
       have BA0:Box w1 (w.heap.size) #[.int .i64 d0.f0,u0] 48:=(Box.new' (w:=w) (X:= #[.int .i64 d0.f0,u0]) (T:=48) (by simp)).fr (by exact Qf)
       have FA0:=BA0.facts
       have BA1:Box w1 (w.heap.size+1) #[.bool d1.f0,u1_1,u1_2,u1_3] 26:=(Box.new' (w:=(w.alloc (.cells #[.int .i64 d0.f0,u0] 48))) (X:= #[.bool d1.f0,u1_1,u1_2,u1_3]) (T:=26) (by simp)).fr (by exact Qf)
       have FA1:=BA1.facts
       rw[HQ1.out]
       go_wp2_with fail
       refine(szQuery_w _ d1 _ _ (hv1.fr (by exact Qf)) hs1 (by omega) (by omega)).mono ?_
       rintro e w2 ⟨rfl,hf2⟩
       have zhf2:=hf2.size;(try simp only[World.size_alloc,World.size_setCell,World.size_drew]at zhf2)
       have BA0:Box w2 (w.heap.size) #[.int .i64 d0.f0,u0] 48:=(Box.new' (w:=w) (X:= #[.int .i64 d0.f0,u0]) (T:=48) (by simp)).fr (by exact Qf)
       have FA0:=BA0.facts
       have BA1:Box w2 (w.heap.size+1) #[.bool d1.f0,u1_1,u1_2,u1_3] 26:=(Box.new' (w:=(w.alloc (.cells #[.int .i64 d0.f0,u0] 48))) (X:= #[.bool d1.f0,u1_1,u1_2,u1_3]) (T:=26) (by simp)).fr (by exact Qf)
       have FA1:=BA1.facts
       rw[HR.out]
       go_wp2_with fail
       go_ret
       exact⟨rfl,by exact Qf⟩
   · skip
     have hr:szR 1048576 (d0.bulk)= -1:=szR_no hl1
     have HR:=Lib.hid hr
     clear hr hspec himpl
     go_enter Tryz.func10,Tryz.ntmps10
     go_wp2_with fail
     refine(szGraph_w _ d0 _ _ (hv0.fr (by exact Qf)) hs0 (by omega) (by omega)).mono ?_
     rintro e w1 ⟨rfl,hf1⟩
     have zhf1:=hf1.size;(try simp only[World.size_alloc,World.size_setCell,World.size_drew]at zhf1)
     have BA0:Box w1 (w.heap.size) #[.int .i64 d0.f0,u0] 48:=(Box.new' (w:=w) (X:= #[.int .i64 d0.f0,u0]) (T:=48) (by simp)).fr (by exact Qf)
     have FA0:=BA0.facts
     have BA1:Box w1 (w.heap.size+1) #[.bool d1.f0,u1_1,u1_2,u1_3] 26:=(Box.new' (w:=(w.alloc (.cells #[.int .i64 d0.f0,u0] 48))) (X:= #[.bool d1.f0,u1_1,u1_2,u1_3]) (T:=26) (by simp)).fr (by exact Qf)
     have FA1:=BA1.facts
     rw[HR.out]
     go_wp2_with fail
     go_ret
     exact⟨rfl,by exact Qf⟩
 · skip
   clear hspec himpl
   go_enter Tryz.func10,Tryz.ntmps10
   go_wp2_with fail
   go_ret
   exact⟨rfl,by exact Qf⟩
end Go.Proofs.YtmdgdnkllclpcaaGreat
