/- laws.FnExactRoamStep: its walk, out of the contracts of the two functions. No condition but the sizes that the reading gives. (Printed by mk_law.py.) -/
import Derived.Test.YtmdgdnkllclpcaaGreatRst
import Derived.Test.YtmdgdnkllclpcaaGreatGOSWalk
import Derived.Test.YtmdgdnkllclpcaaGreatGGrOk
import Derived.Test.YtmdgdnkllclpcaaGreatGPrw
import Derived.Test.YtmdgdnkllclpcaaGreatGParP
import Derived.Deep.RegionHeld3
import Derived.Deep.Cut
namespace Go.Proofs.YtmdgdnkllclpcaaGreat
open Go.RowKit
set_option linter.unusedVariables false
set_option linter.unusedSimpArgs false
set_option maxHeartbeats 4000000 in
set_option maxRecDepth 100000 in
theorem fnRoamStep_of (v0:Value) (d0:GraphD) (hs0:d0.okSize) (v1:Value) (d1:QueryD) (hs1:d1.okSize) (a2:Int) (v3:Value) (d3:RoamD) (hs3:d3.okSize) (a4:Int) (w:World) (hv0:GraphRd w v0 d0) (hv1:QueryRd w v1 d1) (hv3:RoamRd w v3 d3) (r0:RoamD) (hr0:d0.f1.length≤1048576→d1.bulk≤1048576→d3.bulk≤1048576→r0.cnt≤1000000000000) (r1:Bool)
  (hspec:d0.f1.length≤1048576→d1.bulk≤1048576→d3.bulk≤1048576→ ∀ (v0:Value) (v1:Value) (v3:Value) (w:World),GraphRd w v0 d0→QueryRd w v1 d1→RoamRd w v3 d3→Calls Tryz.prog 44 #[v0,v1,.int .i64 a2,v3,.int .i64 a4] w fun e w'=> ∃ ao0_0 cap0_0 ao0_1 cap0_1,e= .returned (.tuple #[.agg #[.slice ao0_0 r0.f0.length cap0_0,.slice ao0_1 r0.f1.length cap0_1],.bool r1])∧RoamW w' w.heap.size w'.heap.size (.agg #[.slice ao0_0 r0.f0.length cap0_0,.slice ao0_1 r0.f1.length cap0_1]) r0∧Fr w w')
  (himpl:d0.f1.length≤1048576→d1.bulk≤1048576→d3.bulk≤1048576→ ∀ (v0:Value) (v1:Value) (v3:Value) (w:World),GraphRd w v0 d0→QueryRd w v1 d1→RoamRd w v3 d3→Calls Tryz.prog 46 #[v0,v1,.int .i64 a2,v3,.int .i64 a4] w fun e w'=> ∃ ao0_0 cap0_0 ao0_1 cap0_1,e= .returned (.tuple #[.agg #[.slice ao0_0 r0.f0.length cap0_0,.slice ao0_1 r0.f1.length cap0_1],.bool r1])∧RoamW w' w.heap.size w'.heap.size (.agg #[.slice ao0_0 r0.f0.length cap0_0,.slice ao0_1 r0.f1.length cap0_1]) r0∧Fr w w'):
  Calls Tryz.prog 9 #[v0,v1,.int .i64 a2,v3,.int .i64 a4] w fun e w'=>e= .returned (.bool true)∧Fr w w':=by
 obtain⟨u0,rfl,hu0⟩:=hv0
 have hv0:GraphRd w _ d0:=⟨_,rfl,hu0⟩
 obtain⟨u1_1,u1_2,u1_3,rfl,hu1⟩:=hv1
 have hv1:QueryRd w _ d1:=⟨_,_,_,rfl,hu1⟩
 obtain⟨u3_0,u3_1,rfl,hu3⟩:=hv3
 have hv3:RoamRd w _ d3:=⟨_,_,rfl,hu3⟩
 by_cases hl0:((d0.bulk:Nat):Int)≤1048576
 · skip
   obtain⟨q0,hq0⟩: ∃ q:Int,szR 1048576 (d0.bulk)=q:=⟨_,rfl⟩
   have hqa0:q0=1048576-((d0.bulk:Nat):Int):=by rw[← hq0,szR_ok hl0]
   have HQ0:=Lib.hid hq0
   have hqb0:0≤q0:=by omega
   have hqc0:q0≤1048576:=by omega
   clear hq0 hqa0
   by_cases hl1:((d1.bulk:Nat):Int)≤q0
   · skip
     obtain⟨q1,hq1⟩: ∃ q:Int,szR q0 (d1.bulk)=q:=⟨_,rfl⟩
     have hqa1:q1=q0-((d1.bulk:Nat):Int):=by rw[← hq1,szR_ok hl1]
     have HQ1:=Lib.hid hq1
     have hqb1:0≤q1:=by omega
     have hqc1:q1≤1048576:=by omega
     clear hq1 hqa1
     by_cases hl2:((d3.bulk:Nat):Int)≤q1
     · skip
       obtain⟨q2,hq2⟩: ∃ q:Int,szR q1 (d3.bulk)=q:=⟨_,rfl⟩
       have hqa2:q2=q1-((d3.bulk:Nat):Int):=by rw[← hq2,szR_ok hl2]
       have HQ2:=Lib.hid hq2
       have hqb2:0≤q2:=by omega
       have hqc2:q2≤1048576:=by omega
       clear hq2 hqa2
       have hn0:d0.f1.length≤1048576:=by have:=hl0;unfold GraphD.bulk at this;omega
       have hn1:d1.bulk≤1048576:=by have:=hl1;omega
       have hn3:d3.bulk≤1048576:=by have:=hl2;omega
       have hc0:d0.cnt≤100000000:=by unfold GraphD.cnt;omega
       have hc1:d1.cnt≤100000000:=by have:=QueryD.cnt_le d1;omega
       have hc3:d3.cnt≤100000000:=by have:=cnt_bulk d3;omega
       replace hr0:=hr0 hn0 hn1 hn3
       have HS:=Lib.hid (hspec hn0 hn1 hn3)
       have HI:=Lib.hid (himpl hn0 hn1 hn3)
       clear hspec himpl
       go_enter Tryz.func9,Tryz.ntmps9
       go_wp2_with fail
       refine(szGraph_w _ d0 _ _ (hv0.fr (by exact Qf)) hs0 (by omega) (by omega)).mono ?_
       rintro e w1 ⟨rfl,hf1⟩
       have zhf1:=hf1.size;(try simp only[World.size_alloc,World.size_setCell,World.size_drew]at zhf1)
       have BA0:Box w1 (w.heap.size) #[.int .i64 d0.f0,u0] 48:=(Box.new' (w:=w) (X:= #[.int .i64 d0.f0,u0]) (T:=48) (by simp)).fr (by exact Qf)
       have BA1:Box w1 (w.heap.size+1) #[.bool d1.f0,u1_1,u1_2,u1_3] 26:=(Box.new' (w:=(w.alloc (.cells #[.int .i64 d0.f0,u0] 48))) (X:= #[.bool d1.f0,u1_1,u1_2,u1_3]) (T:=26) (by simp)).fr (by exact Qf)
       have BA3:Box w1 (w.heap.size+1+1) #[u3_0,u3_1] 81:=(Box.new' (w:=((w.alloc (.cells #[.int .i64 d0.f0,u0] 48)).alloc (.cells #[.bool d1.f0,u1_1,u1_2,u1_3] 26))) (X:= #[u3_0,u3_1]) (T:=81) (by simp)).fr (by exact Qf)
       have FA0:=BA0.facts
       have FA1:=BA1.facts
       have FA3:=BA3.facts
       rw[HQ0.out]
       go_wp2_with fail
       refine(szQuery_w _ d1 _ _ (hv1.fr (by exact Qf)) hs1 (by omega) (by omega)).mono ?_
       rintro e w2 ⟨rfl,hf2⟩
       have zhf2:=hf2.size;(try simp only[World.size_alloc,World.size_setCell,World.size_drew]at zhf2)
       have BA0:=BA0.fr (show Fr w1 w2 by exact Qf)
       have BA1:=BA1.fr (show Fr w1 w2 by exact Qf)
       have BA3:=BA3.fr (show Fr w1 w2 by exact Qf)
       clear FA0 FA1 FA3
       have FA0:=BA0.facts
       have FA1:=BA1.facts
       have FA3:=BA3.facts
       rw[HQ1.out]
       go_wp2_with fail
       refine(szRoam_w _ d3 _ _ (hv3.fr (by exact Qf)) hs3 (by omega) (by omega)).mono ?_
       rintro e w3 ⟨rfl,hf3⟩
       have zhf3:=hf3.size;(try simp only[World.size_alloc,World.size_setCell,World.size_drew]at zhf3)
       have BA0:=BA0.fr (show Fr w2 w3 by exact Qf)
       have BA1:=BA1.fr (show Fr w2 w3 by exact Qf)
       have BA3:=BA3.fr (show Fr w2 w3 by exact Qf)
       clear FA0 FA1 FA3
       have FA0:=BA0.facts
       have FA1:=BA1.facts
       have FA3:=BA3.facts
       rw[HQ2.out]
       go_upto_region 11 with fail
       go_cut [12,13]from 24 (fun p12 p13 wx=> ∃ bkw0 low0 hiw0 aow0_0 capw0_0 aow0_1 capw0_1,p12= .pointer (some ⟨bkw0,0,none⟩)∧p13= .bool r1∧Box wx bkw0 #[.slice aow0_0 r0.f0.length capw0_0,.slice aow0_1 r0.f1.length capw0_1] 72∧(w3.heap.size≤low0∧low0≤hiw0∧hiw0≤wx.heap.size∧w3.heap.size≤bkw0∧(bkw0<low0∨hiw0≤bkw0))∧RoamW wx low0 hiw0 (.agg #[.slice aow0_0 r0.f0.length capw0_0,.slice aow0_1 r0.f1.length capw0_1]) r0∧Fr w3 wx)
       case first=>
        have RA0: ∀ w',Sf w3 w'→ ∀ o,w'.cell? ⟨w.heap.size,o,none⟩=_:=fun w' h o=>(BA0.fr h.out).cell o
        have RA1: ∀ w',Sf w3 w'→ ∀ o,w'.cell? ⟨w.heap.size+1,o,none⟩=_:=fun w' h o=>(BA1.fr h.out).cell o
        have RA3: ∀ w',Sf w3 w'→ ∀ o,w'.cell? ⟨w.heap.size+1+1,o,none⟩=_:=fun w' h o=>(BA3.fr h.out).cell o
        clear BA0
        clear BA1
        clear BA3
        clear FA0 FA1 FA3
        go_region_held3 (fun w'=>Sf w3 w') ((refine Sf.mk ?_;repeat(first|(with_reducible exact Fr.refl _)|(with_reducible assumption)|(with_reducible refine Fr.drewN ?_ _)|(with_reducible refine Fr.drew ?_)|(with_reducible refine Fr.alloc ?_ _)|(with_reducible refine Fr.setCell ?_ (by exact Qz) _)|(with_reducible refine Fr.trans ?_ (by with_reducible assumption))))) (first|(go_at_call 26;refine(toGraph_w _ d0 _ (hv0.fr (by exact Qf)) hn0).mono ?_;rintro e w4 ⟨aot4,capt4,rfl,ht4,hf4⟩;have zhf4:=hf4.size;(try simp only[World.size_alloc,World.size_setCell,World.size_drew]at zhf4);(try have kb4_0:=hf4.blk (w3.heap.size) (by exact Qz)))|(go_at_call 14;refine(toQuery_w _ d1 _ (hv1.fr (by exact Qf)) hn1).mono ?_;rintro e w5 ⟨aot5_1,capt5_1,aot5_2,capt5_2,aot5_3,capt5_3,rfl,ht5,hf5⟩;have zhf5:=hf5.size;(try simp only[World.size_alloc,World.size_setCell,World.size_drew]at zhf5);(try have kb5_0:=hf5.blk (w3.heap.size) (by exact Qz));(try have kb5_1:=hf5.blk (w4.heap.size) (by exact Qz)))|(go_at_call 45;refine(toRoam_w _ d3 _ (hv3.fr (by exact Qf)) hn3).mono ?_;rintro e w6 ⟨aot6_0,capt6_0,aot6_1,capt6_1,rfl,ht6,hf6⟩;have zhf6:=hf6.size;(try simp only[World.size_alloc,World.size_setCell,World.size_drew]at zhf6);(try have kb6_0:=hf6.blk (w3.heap.size) (by exact Qz));(try have kb6_1:=hf6.blk (w4.heap.size) (by exact Qz));(try have kb6_2:=hf6.blk (w5.heap.size) (by exact Qz)))|(go_at_call 44;refine(HS.out _ _ _ _ (ht4.rd.fr (by exact Qf)) (ht5.rd.fr (by exact Qf)) (ht6.rd.fr (by exact Qf))).mono ?_;rintro e w7 ⟨aow0_0,capw0_0,aow0_1,capw0_1,rfl,ow0,hf7⟩;have zhf7:=hf7.size;(try simp only[World.size_alloc,World.size_setCell,World.size_drew]at zhf7);(try have kb7_0:=hf7.blk (w3.heap.size) (by exact Qz));(try have kb7_1:=hf7.blk (w4.heap.size) (by exact Qz));(try have kb7_2:=hf7.blk (w5.heap.size) (by exact Qz));(try have kb7_3:=hf7.blk (w6.heap.size) (by exact Qz));obtain⟨lqw0,hlqaw0,hlqbw0,ow0⟩: ∃ l:Nat,_≤l∧l≤_∧RoamW w7 l _ _ _:=⟨_,Nat.le_refl _,Nat.le_refl _,ow0⟩;(try simp only[World.size_alloc,World.size_setCell,World.size_drew]at hlqaw0 hlqbw0)))
        all_goals
         go_wp2_with fail
         go_meet
         case rel=>
          refine⟨_,lqw0,w7.heap.size,aow0_0,capw0_0,aow0_1,capw0_1,rfl,rfl,?_,?_,?_,by exact Qf⟩
          · (repeat(first|(with_reducible exact Box.new _ _ _)|(with_reducible apply Box.drew)|(apply Box.set_to)|(apply Box.new';(first|with_reducible rfl|(focus(simp;done))))|(with_reducible refine Box.alloc ?_ _)|(apply Box.fr;(case hf=>with_reducible assumption))));all_goals rfl
          · (try simp only[World.size_alloc,World.size_setCell,World.size_drew]);(refine⟨?_,?_,?_,?_,?_⟩<;>first|omega|(simp;omega))
          · (repeat(first|(exact ow0)|(with_reducible refine RoamW.drewN ?_ _)|(with_reducible refine RoamW.drew ?_)|(with_reducible refine RoamW.alloc ?_ _)|(with_reducible refine RoamW.set ?_ (by exact Qz) _)))
       case rest=>
        obtain⟨w4,rfl⟩: ∃ w_:World,w_=wc:=⟨_,rfl⟩
        obtain⟨bkw0,low0,hiw0,aow0_0,capw0_0,aow0_1,capw0_1,rfl,rfl,Bw0,hbw0,ow0,hf4⟩:=hcut
        have qltw0:=Bw0.lt
        have qw0:=hbw0;(try simp only[World.size_alloc,World.size_setCell,World.size_drew]at qw0)
        have zhf4:=hf4.size;(try simp only[World.size_alloc,World.size_setCell,World.size_drew]at zhf4)
        have BA0:=BA0.fr (show Fr w3 w4 by exact Qf)
        have BA1:=BA1.fr (show Fr w3 w4 by exact Qf)
        have BA3:=BA3.fr (show Fr w3 w4 by exact Qf)
        clear FA0 FA1 FA3
        have FA0:=BA0.facts
        have FA1:=BA1.facts
        have FA3:=BA3.facts
        have Fw0:=Bw0.facts
        go_wp2_with fail
        refine(toGraph_w _ d0 _ (hv0.fr (by exact Qf)) hn0).mono ?_
        rintro e w5 ⟨aot5,capt5,rfl,ht5,hf5⟩
        have zhf5:=hf5.size;(try simp only[World.size_alloc,World.size_setCell,World.size_drew]at zhf5)
        have BA0:=BA0.fr (show Fr w4 w5 by exact Qf)
        have BA1:=BA1.fr (show Fr w4 w5 by exact Qf)
        have BA3:=BA3.fr (show Fr w4 w5 by exact Qf)
        have Bw0:=Bw0.fr (show Fr w4 w5 by exact Qf)
        clear FA0 FA1 FA3 Fw0
        have FA0:=BA0.facts
        have FA1:=BA1.facts
        have FA3:=BA3.facts
        have Fw0:=Bw0.facts
        have ox0:=ht5
        go_wp2_with fail
        refine(toQuery_w _ d1 _ (hv1.fr (by exact Qf)) hn1).mono ?_
        rintro e w6 ⟨aot6_1,capt6_1,aot6_2,capt6_2,aot6_3,capt6_3,rfl,ht6,hf6⟩
        have zhf6:=hf6.size;(try simp only[World.size_alloc,World.size_setCell,World.size_drew]at zhf6)
        have BA0:=BA0.fr (show Fr w5 w6 by exact Qf)
        have BA1:=BA1.fr (show Fr w5 w6 by exact Qf)
        have BA3:=BA3.fr (show Fr w5 w6 by exact Qf)
        have Bw0:=Bw0.fr (show Fr w5 w6 by exact Qf)
        have Bx0:Box w6 (w5.heap.size) #[.int .i64 d0.f0,.slice aot5 d0.f1.length capt5] 55:=(Box.new' (w:=w5) (X:= #[.int .i64 d0.f0,.slice aot5 d0.f1.length capt5]) (T:=55) (by simp)).fr (by exact Qf)
        clear FA0 FA1 FA3 Fw0
        have FA0:=BA0.facts
        have FA1:=BA1.facts
        have FA3:=BA3.facts
        have Fw0:=Bw0.facts
        have Fx0:=Bx0.facts
        have ox1:=ht6
        go_wp2_with fail
        refine(toRoam_w _ d3 _ (hv3.fr (by exact Qf)) hn3).mono ?_
        rintro e w7 ⟨aot7_0,capt7_0,aot7_1,capt7_1,rfl,ht7,hf7⟩
        have zhf7:=hf7.size;(try simp only[World.size_alloc,World.size_setCell,World.size_drew]at zhf7)
        have BA0:=BA0.fr (show Fr w6 w7 by exact Qf)
        have BA1:=BA1.fr (show Fr w6 w7 by exact Qf)
        have BA3:=BA3.fr (show Fr w6 w7 by exact Qf)
        have Bw0:=Bw0.fr (show Fr w6 w7 by exact Qf)
        have Bx0:=Bx0.fr (show Fr w6 w7 by exact Qf)
        have Bx1:Box w7 (w6.heap.size) #[.bool d1.f0,.slice aot6_1 d1.f1.length capt6_1,.slice aot6_2 d1.f2.length capt6_2,.slice aot6_3 d1.f3.length capt6_3] 35:=(Box.new' (w:=w6) (X:= #[.bool d1.f0,.slice aot6_1 d1.f1.length capt6_1,.slice aot6_2 d1.f2.length capt6_2,.slice aot6_3 d1.f3.length capt6_3]) (T:=35) (by simp)).fr (by exact Qf)
        clear FA0 FA1 FA3 Fw0 Fx0
        have FA0:=BA0.facts
        have FA1:=BA1.facts
        have FA3:=BA3.facts
        have Fw0:=Bw0.facts
        have Fx0:=Bx0.facts
        have Fx1:=Bx1.facts
        have ox3:=ht7
        go_wp2_with fail
        refine(HI.out _ _ _ _ (ox0.rd.fr (by exact Qf)) (ox1.rd.fr (by exact Qf)) (ox3.rd.fr (by exact Qf))).mono ?_
        rintro e w8 ⟨aog0_0,capg0_0,aog0_1,capg0_1,rfl,og0,hf8⟩
        have zhf8:=hf8.size;(try simp only[World.size_alloc,World.size_setCell,World.size_drew]at zhf8)
        have BA0:=BA0.fr (show Fr w7 w8 by exact Qf)
        have BA1:=BA1.fr (show Fr w7 w8 by exact Qf)
        have BA3:=BA3.fr (show Fr w7 w8 by exact Qf)
        have Bw0:=Bw0.fr (show Fr w7 w8 by exact Qf)
        have Bx0:=Bx0.fr (show Fr w7 w8 by exact Qf)
        have Bx1:=Bx1.fr (show Fr w7 w8 by exact Qf)
        have Bx3:Box w8 (w7.heap.size) #[.slice aot7_0 d3.f0.length capt7_0,.slice aot7_1 d3.f1.length capt7_1] 72:=(Box.new' (w:=w7) (X:= #[.slice aot7_0 d3.f0.length capt7_0,.slice aot7_1 d3.f1.length capt7_1]) (T:=72) (by simp)).fr (by exact Qf)
        clear FA0 FA1 FA3 Fw0 Fx0 Fx1
        have FA0:=BA0.facts
        have FA1:=BA1.facts
        have FA3:=BA3.facts
        have Fw0:=Bw0.facts
        have Fx0:=Bx0.facts
        have Fx1:=Bx1.facts
        have Fx3:=Bx3.facts
        go_wp2_with fail
        refine(eqRoam_same _ _ r0 _ (og0.rd.fr (by exact Qf)) (ow0.rd.fr (by exact Qf))).mono ?_
        rintro e w9 ⟨rfl,hf9⟩
        have zhf9:=hf9.size;(try simp only[World.size_alloc,World.size_setCell,World.size_drew]at zhf9)
        have BA0:=BA0.fr (show Fr w8 w9 by exact Qf)
        have BA1:=BA1.fr (show Fr w8 w9 by exact Qf)
        have BA3:=BA3.fr (show Fr w8 w9 by exact Qf)
        have Bw0:=Bw0.fr (show Fr w8 w9 by exact Qf)
        have Bx0:=Bx0.fr (show Fr w8 w9 by exact Qf)
        have Bx1:=Bx1.fr (show Fr w8 w9 by exact Qf)
        have Bx3:=Bx3.fr (show Fr w8 w9 by exact Qf)
        have Bg0:Box w9 (w8.heap.size) #[.slice aog0_0 r0.f0.length capg0_0,.slice aog0_1 r0.f1.length capg0_1] 72:=(Box.new' (w:=w8) (X:= #[.slice aog0_0 r0.f0.length capg0_0,.slice aog0_1 r0.f1.length capg0_1]) (T:=72) (by simp)).fr (by exact Qf)
        clear FA0 FA1 FA3 Fw0 Fx0 Fx1 Fx3
        have FA0:=BA0.facts
        have FA1:=BA1.facts
        have FA3:=BA3.facts
        have Fw0:=Bw0.facts
        have Fx0:=Bx0.facts
        have Fx1:=Bx1.facts
        have Fx3:=Bx3.facts
        have Fg0:=Bg0.facts
        have RA0: ∀ w',Sf w9 w'→ ∀ o,w'.cell? ⟨w.heap.size,o,none⟩=_:=fun w' h o=>(BA0.fr h.out).cell o
        have RA1: ∀ w',Sf w9 w'→ ∀ o,w'.cell? ⟨w.heap.size+1,o,none⟩=_:=fun w' h o=>(BA1.fr h.out).cell o
        have RA3: ∀ w',Sf w9 w'→ ∀ o,w'.cell? ⟨w.heap.size+1+1,o,none⟩=_:=fun w' h o=>(BA3.fr h.out).cell o
        have Rw0: ∀ w',Sf w9 w'→ ∀ o,w'.cell? ⟨bkw0,o,none⟩=_:=fun w' h o=>(Bw0.fr h.out).cell o
        have Rx0: ∀ w',Sf w9 w'→ ∀ o,w'.cell? ⟨w5.heap.size,o,none⟩=_:=fun w' h o=>(Bx0.fr h.out).cell o
        have Rx1: ∀ w',Sf w9 w'→ ∀ o,w'.cell? ⟨w6.heap.size,o,none⟩=_:=fun w' h o=>(Bx1.fr h.out).cell o
        have Rx3: ∀ w',Sf w9 w'→ ∀ o,w'.cell? ⟨w7.heap.size,o,none⟩=_:=fun w' h o=>(Bx3.fr h.out).cell o
        have Rg0: ∀ w',Sf w9 w'→ ∀ o,w'.cell? ⟨w8.heap.size,o,none⟩=_:=fun w' h o=>(Bg0.fr h.out).cell o
        go_wp2_with fail
        go_region_held3 (fun w'=>Sf w9 w') ((refine Sf.mk ?_;repeat(first|(with_reducible exact Fr.refl _)|(with_reducible assumption)|(with_reducible refine Fr.drewN ?_ _)|(with_reducible refine Fr.drew ?_)|(with_reducible refine Fr.alloc ?_ _)|(with_reducible refine Fr.setCell ?_ (by exact Qz) _)|(with_reducible refine Fr.trans ?_ (by with_reducible assumption))))) (first|(go_at_call 26;refine(toGraph_w _ d0 _ (hv0.fr (by exact Qf)) hn0).mono ?_;rintro e w10 ⟨aot10,capt10,rfl,ht10,hf10⟩)|(go_at_call 29;refine(eqGraph_same _ _ d0 _ (ox0.rd.fr (by exact Qf)) (ht10.rd.fr (by exact Qf))).mono ?_;rintro e w11 ⟨rfl,hf11⟩))
        clear RA0
        clear RA1
        clear RA3
        clear Rw0
        clear Rx0
        clear Rx1
        clear Rx3
        clear Rg0
        have zhf10:=hf10.size;(try simp only[World.size_alloc,World.size_setCell,World.size_drew]at zhf10)
        have zhf11:=hf11.size;(try simp only[World.size_alloc,World.size_setCell,World.size_drew]at zhf11)
        have BA0:=BA0.fr (show Fr w9 w11 by exact Qf)
        have BA1:=BA1.fr (show Fr w9 w11 by exact Qf)
        have BA3:=BA3.fr (show Fr w9 w11 by exact Qf)
        have Bw0:=Bw0.fr (show Fr w9 w11 by exact Qf)
        have Bx0:=Bx0.fr (show Fr w9 w11 by exact Qf)
        have Bx1:=Bx1.fr (show Fr w9 w11 by exact Qf)
        have Bx3:=Bx3.fr (show Fr w9 w11 by exact Qf)
        have Bg0:=Bg0.fr (show Fr w9 w11 by exact Qf)
        clear FA0 FA1 FA3 Fw0 Fx0 Fx1 Fx3 Fg0
        have FA0:=BA0.facts
        have FA1:=BA1.facts
        have FA3:=BA3.facts
        have Fw0:=Bw0.facts
        have Fx0:=Bx0.facts
        have Fx1:=Bx1.facts
        have Fx3:=Bx3.facts
        have Fg0:=Bg0.facts
        have RA0: ∀ w',Sf w11 w'→ ∀ o,w'.cell? ⟨w.heap.size,o,none⟩=_:=fun w' h o=>(BA0.fr h.out).cell o
        have RA1: ∀ w',Sf w11 w'→ ∀ o,w'.cell? ⟨w.heap.size+1,o,none⟩=_:=fun w' h o=>(BA1.fr h.out).cell o
        have RA3: ∀ w',Sf w11 w'→ ∀ o,w'.cell? ⟨w.heap.size+1+1,o,none⟩=_:=fun w' h o=>(BA3.fr h.out).cell o
        have Rw0: ∀ w',Sf w11 w'→ ∀ o,w'.cell? ⟨bkw0,o,none⟩=_:=fun w' h o=>(Bw0.fr h.out).cell o
        have Rx0: ∀ w',Sf w11 w'→ ∀ o,w'.cell? ⟨w5.heap.size,o,none⟩=_:=fun w' h o=>(Bx0.fr h.out).cell o
        have Rx1: ∀ w',Sf w11 w'→ ∀ o,w'.cell? ⟨w6.heap.size,o,none⟩=_:=fun w' h o=>(Bx1.fr h.out).cell o
        have Rx3: ∀ w',Sf w11 w'→ ∀ o,w'.cell? ⟨w7.heap.size,o,none⟩=_:=fun w' h o=>(Bx3.fr h.out).cell o
        have Rg0: ∀ w',Sf w11 w'→ ∀ o,w'.cell? ⟨w8.heap.size,o,none⟩=_:=fun w' h o=>(Bg0.fr h.out).cell o
        go_wp2_with fail
        go_region_held3 (fun w'=>Sf w11 w') ((refine Sf.mk ?_;repeat(first|(with_reducible exact Fr.refl _)|(with_reducible assumption)|(with_reducible refine Fr.drewN ?_ _)|(with_reducible refine Fr.drew ?_)|(with_reducible refine Fr.alloc ?_ _)|(with_reducible refine Fr.setCell ?_ (by exact Qz) _)|(with_reducible refine Fr.trans ?_ (by with_reducible assumption))))) (first|(go_at_call 14;refine(toQuery_w _ d1 _ (hv1.fr (by exact Qf)) hn1).mono ?_;rintro e w12 ⟨aot12_1,capt12_1,aot12_2,capt12_2,aot12_3,capt12_3,rfl,ht12,hf12⟩)|(go_at_call 18;refine(eqQuery_same _ _ d1 _ (ox1.rd.fr (by exact Qf)) (ht12.rd.fr (by exact Qf))).mono ?_;rintro e w13 ⟨rfl,hf13⟩))
        clear RA0
        clear RA1
        clear RA3
        clear Rw0
        clear Rx0
        clear Rx1
        clear Rx3
        clear Rg0
        have zhf12:=hf12.size;(try simp only[World.size_alloc,World.size_setCell,World.size_drew]at zhf12)
        have zhf13:=hf13.size;(try simp only[World.size_alloc,World.size_setCell,World.size_drew]at zhf13)
        have BA0:=BA0.fr (show Fr w11 w13 by exact Qf)
        have BA1:=BA1.fr (show Fr w11 w13 by exact Qf)
        have BA3:=BA3.fr (show Fr w11 w13 by exact Qf)
        have Bw0:=Bw0.fr (show Fr w11 w13 by exact Qf)
        have Bx0:=Bx0.fr (show Fr w11 w13 by exact Qf)
        have Bx1:=Bx1.fr (show Fr w11 w13 by exact Qf)
        have Bx3:=Bx3.fr (show Fr w11 w13 by exact Qf)
        have Bg0:=Bg0.fr (show Fr w11 w13 by exact Qf)
        clear FA0 FA1 FA3 Fw0 Fx0 Fx1 Fx3 Fg0
        have FA0:=BA0.facts
        have FA1:=BA1.facts
        have FA3:=BA3.facts
        have Fw0:=Bw0.facts
        have Fx0:=Bx0.facts
        have Fx1:=Bx1.facts
        have Fx3:=Bx3.facts
        have Fg0:=Bg0.facts
        have RA0: ∀ w',Sf w13 w'→ ∀ o,w'.cell? ⟨w.heap.size,o,none⟩=_:=fun w' h o=>(BA0.fr h.out).cell o
        have RA1: ∀ w',Sf w13 w'→ ∀ o,w'.cell? ⟨w.heap.size+1,o,none⟩=_:=fun w' h o=>(BA1.fr h.out).cell o
        have RA3: ∀ w',Sf w13 w'→ ∀ o,w'.cell? ⟨w.heap.size+1+1,o,none⟩=_:=fun w' h o=>(BA3.fr h.out).cell o
        have Rw0: ∀ w',Sf w13 w'→ ∀ o,w'.cell? ⟨bkw0,o,none⟩=_:=fun w' h o=>(Bw0.fr h.out).cell o
        have Rx0: ∀ w',Sf w13 w'→ ∀ o,w'.cell? ⟨w5.heap.size,o,none⟩=_:=fun w' h o=>(Bx0.fr h.out).cell o
        have Rx1: ∀ w',Sf w13 w'→ ∀ o,w'.cell? ⟨w6.heap.size,o,none⟩=_:=fun w' h o=>(Bx1.fr h.out).cell o
        have Rx3: ∀ w',Sf w13 w'→ ∀ o,w'.cell? ⟨w7.heap.size,o,none⟩=_:=fun w' h o=>(Bx3.fr h.out).cell o
        have Rg0: ∀ w',Sf w13 w'→ ∀ o,w'.cell? ⟨w8.heap.size,o,none⟩=_:=fun w' h o=>(Bg0.fr h.out).cell o
        go_wp2_with fail
        go_region_held3 (fun w'=>Sf w13 w') ((refine Sf.mk ?_;repeat(first|(with_reducible exact Fr.refl _)|(with_reducible assumption)|(with_reducible refine Fr.drewN ?_ _)|(with_reducible refine Fr.drew ?_)|(with_reducible refine Fr.alloc ?_ _)|(with_reducible refine Fr.setCell ?_ (by exact Qz) _)|(with_reducible refine Fr.trans ?_ (by with_reducible assumption))))) (first|(go_at_call 45;refine(toRoam_w _ d3 _ (hv3.fr (by exact Qf)) hn3).mono ?_;rintro e w14 ⟨aot14_0,capt14_0,aot14_1,capt14_1,rfl,ht14,hf14⟩)|(go_at_call 40;refine(eqRoam_same _ _ d3 _ (ox3.rd.fr (by exact Qf)) (ht14.rd.fr (by exact Qf))).mono ?_;rintro e w15 ⟨rfl,hf15⟩))
        clear RA0
        clear RA1
        clear RA3
        clear Rw0
        clear Rx0
        clear Rx1
        clear Rx3
        clear Rg0
        have zhf14:=hf14.size;(try simp only[World.size_alloc,World.size_setCell,World.size_drew]at zhf14)
        have zhf15:=hf15.size;(try simp only[World.size_alloc,World.size_setCell,World.size_drew]at zhf15)
        have BA0:=BA0.fr (show Fr w13 w15 by exact Qf)
        have BA1:=BA1.fr (show Fr w13 w15 by exact Qf)
        have BA3:=BA3.fr (show Fr w13 w15 by exact Qf)
        have Bw0:=Bw0.fr (show Fr w13 w15 by exact Qf)
        have Bx0:=Bx0.fr (show Fr w13 w15 by exact Qf)
        have Bx1:=Bx1.fr (show Fr w13 w15 by exact Qf)
        have Bx3:=Bx3.fr (show Fr w13 w15 by exact Qf)
        have Bg0:=Bg0.fr (show Fr w13 w15 by exact Qf)
        clear FA0 FA1 FA3 Fw0 Fx0 Fx1 Fx3 Fg0
        have FA0:=BA0.facts
        have FA1:=BA1.facts
        have FA3:=BA3.facts
        have Fw0:=Bw0.facts
        have Fx0:=Bx0.facts
        have Fx1:=Bx1.facts
        have Fx3:=Bx3.facts
        have Fg0:=Bg0.facts
        go_wp2_with fail
        refine(markGraph_w _ d0 1 (w4.heap.size) (w5.heap.size) _ (ox0.fr (by exact Qf)) (by exact Qz) (by omega) (by omega)).mono ?_
        rintro e w16 ⟨rfl,omx0,sp16⟩
        have zsp16:=sp16.size;(try simp only[World.size_alloc,World.size_setCell,World.size_drew]at zsp16)
        have ow0_16:=(ow0.fr (show Fr w4 w15 by exact Qf)).span sp16 (by exact Qz)
        have ox1_16:=(ox1.fr (show Fr w6 w15 by exact Qf)).span sp16 (by exact Qz)
        have ox3_16:=(ox3.fr (show Fr w7 w15 by exact Qf)).span sp16 (by exact Qz)
        have og0_16:=(og0.fr (show Fr w8 w15 by exact Qf)).span sp16 (by exact Qz)
        have BA0:=(BA0.fr (show Fr w15 w15 by exact Qf)).span sp16 (by exact Qz)
        have BA1:=(BA1.fr (show Fr w15 w15 by exact Qf)).span sp16 (by exact Qz)
        have BA3:=(BA3.fr (show Fr w15 w15 by exact Qf)).span sp16 (by exact Qz)
        have Bw0:=(Bw0.fr (show Fr w15 w15 by exact Qf)).span sp16 (by exact Qz)
        have Bx0:=(Bx0.fr (show Fr w15 w15 by exact Qf)).span sp16 (by exact Qz)
        have Bx1:=(Bx1.fr (show Fr w15 w15 by exact Qf)).span sp16 (by exact Qz)
        have Bx3:=(Bx3.fr (show Fr w15 w15 by exact Qf)).span sp16 (by exact Qz)
        have Bg0:=(Bg0.fr (show Fr w15 w15 by exact Qf)).span sp16 (by exact Qz)
        have hF16:Fr w w16:=Span.fr (show Fr w w15 by exact Qf) sp16 (by exact Qz)
        clear FA0 FA1 FA3 Fw0 Fx0 Fx1 Fx3 Fg0
        have FA0:=BA0.facts
        have FA1:=BA1.facts
        have FA3:=BA3.facts
        have Fw0:=Bw0.facts
        have Fx0:=Bx0.facts
        have Fx1:=Bx1.facts
        have Fx3:=Bx3.facts
        have Fg0:=Bg0.facts
        obtain⟨kx0,hkx0⟩: ∃ q:Int,1+((d0.cnt:Nat):Int)=q:=⟨_,rfl⟩
        have hpkx0:0<kx0:=by omega
        have hbkx0:kx0≤150000000:=by omega
        have hdkx0:decide (kx0<0)=false:=by simp;omega
        rw[hkx0]
        clear hkx0
        go_wp2_with fail
        refine(markQuery_w _ d1 kx0 ((w5.alloc (.cells #[.int .i64 d0.f0,.slice aot5 d0.f1.length capt5] 55)).heap.size) (w6.heap.size) _ (ox1_16.fr (by exact Qf)) (by exact Qz) (by omega) (by omega)).mono ?_
        rintro e w17 ⟨rfl,omx1,sp17⟩
        have zsp17:=sp17.size;(try simp only[World.size_alloc,World.size_setCell,World.size_drew]at zsp17)
        have ow0_17:=(ow0_16.fr (show Fr w16 w16 by exact Qf)).span sp17 (by exact Qz)
        have ox3_17:=(ox3_16.fr (show Fr w16 w16 by exact Qf)).span sp17 (by exact Qz)
        have og0_17:=(og0_16.fr (show Fr w16 w16 by exact Qf)).span sp17 (by exact Qz)
        have BA0:=(BA0.fr (show Fr w16 w16 by exact Qf)).span sp17 (by exact Qz)
        have BA1:=(BA1.fr (show Fr w16 w16 by exact Qf)).span sp17 (by exact Qz)
        have BA3:=(BA3.fr (show Fr w16 w16 by exact Qf)).span sp17 (by exact Qz)
        have Bw0:=(Bw0.fr (show Fr w16 w16 by exact Qf)).span sp17 (by exact Qz)
        have Bx0:=(Bx0.fr (show Fr w16 w16 by exact Qf)).span sp17 (by exact Qz)
        have Bx1:=(Bx1.fr (show Fr w16 w16 by exact Qf)).span sp17 (by exact Qz)
        have Bx3:=(Bx3.fr (show Fr w16 w16 by exact Qf)).span sp17 (by exact Qz)
        have Bg0:=(Bg0.fr (show Fr w16 w16 by exact Qf)).span sp17 (by exact Qz)
        have hF17:Fr w w17:=Span.fr (show Fr w w16 by exact Qf) sp17 (by exact Qz)
        clear FA0 FA1 FA3 Fw0 Fx0 Fx1 Fx3 Fg0
        have FA0:=BA0.facts
        have FA1:=BA1.facts
        have FA3:=BA3.facts
        have Fw0:=Bw0.facts
        have Fx0:=Bx0.facts
        have Fx1:=Bx1.facts
        have Fx3:=Bx3.facts
        have Fg0:=Bg0.facts
        obtain⟨kx1,hkx1⟩: ∃ q:Int,kx0+((d1.cnt:Nat):Int)=q:=⟨_,rfl⟩
        have hpkx1:0<kx1:=by omega
        have hbkx1:kx1≤300000000:=by omega
        have hdkx1:decide (kx1<0)=false:=by simp;omega
        rw[hkx1]
        clear hkx1
        go_wp2_with fail
        refine(markRoam_w _ d3 kx1 ((w6.alloc (.cells #[.bool d1.f0,.slice aot6_1 d1.f1.length capt6_1,.slice aot6_2 d1.f2.length capt6_2,.slice aot6_3 d1.f3.length capt6_3] 35)).heap.size) (w7.heap.size) _ (ox3_17.fr (by exact Qf)) (by exact Qz) (by omega) (by omega)).mono ?_
        rintro e w18 ⟨rfl,omx3,sp18⟩
        have zsp18:=sp18.size;(try simp only[World.size_alloc,World.size_setCell,World.size_drew]at zsp18)
        have ow0_18:=(ow0_17.fr (show Fr w17 w17 by exact Qf)).span sp18 (by exact Qz)
        have og0_18:=(og0_17.fr (show Fr w17 w17 by exact Qf)).span sp18 (by exact Qz)
        have BA0:=(BA0.fr (show Fr w17 w17 by exact Qf)).span sp18 (by exact Qz)
        have BA1:=(BA1.fr (show Fr w17 w17 by exact Qf)).span sp18 (by exact Qz)
        have BA3:=(BA3.fr (show Fr w17 w17 by exact Qf)).span sp18 (by exact Qz)
        have Bw0:=(Bw0.fr (show Fr w17 w17 by exact Qf)).span sp18 (by exact Qz)
        have Bx0:=(Bx0.fr (show Fr w17 w17 by exact Qf)).span sp18 (by exact Qz)
        have Bx1:=(Bx1.fr (show Fr w17 w17 by exact Qf)).span sp18 (by exact Qz)
        have Bx3:=(Bx3.fr (show Fr w17 w17 by exact Qf)).span sp18 (by exact Qz)
        have Bg0:=(Bg0.fr (show Fr w17 w17 by exact Qf)).span sp18 (by exact Qz)
        have hF18:Fr w w18:=Span.fr (show Fr w w17 by exact Qf) sp18 (by exact Qz)
        clear FA0 FA1 FA3 Fw0 Fx0 Fx1 Fx3 Fg0
        have FA0:=BA0.facts
        have FA1:=BA1.facts
        have FA3:=BA3.facts
        have Fw0:=Bw0.facts
        have Fx0:=Bx0.facts
        have Fx1:=Bx1.facts
        have Fx3:=Bx3.facts
        have Fg0:=Bg0.facts
        obtain⟨kx3,hkx3⟩: ∃ q:Int,kx1+((d3.cnt:Nat):Int)=q:=⟨_,rfl⟩
        have hpkx3:0<kx3:=by omega
        have hbkx3:kx3≤450000000:=by omega
        have hdkx3:decide (kx3<0)=false:=by simp;omega
        rw[hkx3]
        clear hkx3
        go_wp2_with fail
        refine(eqRoam_same _ _ r0 _ (og0_18.rd.fr (by exact Qf)) (ow0_18.rd.fr (by exact Qf))).mono ?_
        rintro e w19 ⟨rfl,hf19⟩
        have zhf19:=hf19.size;(try simp only[World.size_alloc,World.size_setCell,World.size_drew]at zhf19)
        have BA0:=BA0.fr (show Fr w18 w19 by exact Qf)
        have BA1:=BA1.fr (show Fr w18 w19 by exact Qf)
        have BA3:=BA3.fr (show Fr w18 w19 by exact Qf)
        have Bw0:=Bw0.fr (show Fr w18 w19 by exact Qf)
        have Bx0:=Bx0.fr (show Fr w18 w19 by exact Qf)
        have Bx1:=Bx1.fr (show Fr w18 w19 by exact Qf)
        have Bx3:=Bx3.fr (show Fr w18 w19 by exact Qf)
        have Bg0:=Bg0.fr (show Fr w18 w19 by exact Qf)
        clear FA0 FA1 FA3 Fw0 Fx0 Fx1 Fx3 Fg0
        have FA0:=BA0.facts
        have FA1:=BA1.facts
        have FA3:=BA3.facts
        have Fw0:=Bw0.facts
        have Fx0:=Bx0.facts
        have Fx1:=Bx1.facts
        have Fx3:=Bx3.facts
        have Fg0:=Bg0.facts
        go_wp2_with fail
        refine(markRoam_w _ r0 1 ((w7.alloc (.cells #[.slice aot7_0 d3.f0.length capt7_0,.slice aot7_1 d3.f1.length capt7_1] 72)).heap.size) (w8.heap.size) _ (og0_18.fr (by exact Qf)) (by exact Qz) (by omega) (by omega)).mono ?_
        rintro e w20 ⟨rfl,omg0,sp20⟩
        have zsp20:=sp20.size;(try simp only[World.size_alloc,World.size_setCell,World.size_drew]at zsp20)
        have ow0_20:=(ow0_18.fr (show Fr w18 w19 by exact Qf)).span sp20 (by exact Qz)
        have BA0:=(BA0.fr (show Fr w19 w19 by exact Qf)).span sp20 (by exact Qz)
        have BA1:=(BA1.fr (show Fr w19 w19 by exact Qf)).span sp20 (by exact Qz)
        have BA3:=(BA3.fr (show Fr w19 w19 by exact Qf)).span sp20 (by exact Qz)
        have Bw0:=(Bw0.fr (show Fr w19 w19 by exact Qf)).span sp20 (by exact Qz)
        have Bx0:=(Bx0.fr (show Fr w19 w19 by exact Qf)).span sp20 (by exact Qz)
        have Bx1:=(Bx1.fr (show Fr w19 w19 by exact Qf)).span sp20 (by exact Qz)
        have Bx3:=(Bx3.fr (show Fr w19 w19 by exact Qf)).span sp20 (by exact Qz)
        have Bg0:=(Bg0.fr (show Fr w19 w19 by exact Qf)).span sp20 (by exact Qz)
        have hF20:Fr w w20:=Span.fr (show Fr w w19 by exact Qf) sp20 (by exact Qz)
        clear FA0 FA1 FA3 Fw0 Fx0 Fx1 Fx3 Fg0
        have FA0:=BA0.facts
        have FA1:=BA1.facts
        have FA3:=BA3.facts
        have Fw0:=Bw0.facts
        have Fx0:=Bx0.facts
        have Fx1:=Bx1.facts
        have Fx3:=Bx3.facts
        have Fg0:=Bg0.facts
        obtain⟨mg0,hmg0⟩: ∃ q:Int,1+((r0.cnt:Nat):Int)=q:=⟨_,rfl⟩
        have hpmg0:0<mg0:=by omega
        have hbmg0:mg0≤2000000000000:=by omega
        have hdmg0:decide (mg0<0)=false:=by simp;omega
        rw[hmg0]
        have hheldg0:=fun(W:World) (hf:Fr w20 W)=>heldRoam_w (.agg #[.slice aog0_0 r0.f0.length capg0_0,.slice aog0_1 r0.f1.length capg0_1]) r0 1 W (omg0.rd.fr hf) (by omega) (by omega)
        rw[hmg0]at hheldg0
        have HHg0:=Lib.hid hheldg0
        clear hheldg0
        clear hmg0
        go_wp2_with fail
        refine(HHg0.out _ (by exact Qf)).mono ?_
        rintro e w21 ⟨rfl,hf21⟩
        have zhf21:=hf21.size;(try simp only[World.size_alloc,World.size_setCell,World.size_drew]at zhf21)
        have BA0:=BA0.fr (show Fr w20 w21 by exact Qf)
        have BA1:=BA1.fr (show Fr w20 w21 by exact Qf)
        have BA3:=BA3.fr (show Fr w20 w21 by exact Qf)
        have Bw0:=Bw0.fr (show Fr w20 w21 by exact Qf)
        have Bx0:=Bx0.fr (show Fr w20 w21 by exact Qf)
        have Bx1:=Bx1.fr (show Fr w20 w21 by exact Qf)
        have Bx3:=Bx3.fr (show Fr w20 w21 by exact Qf)
        have Bg0:=Bg0.fr (show Fr w20 w21 by exact Qf)
        clear FA0 FA1 FA3 Fw0 Fx0 Fx1 Fx3 Fg0
        have FA0:=BA0.facts
        have FA1:=BA1.facts
        have FA3:=BA3.facts
        have Fw0:=Bw0.facts
        have Fx0:=Bx0.facts
        have Fx1:=Bx1.facts
        have Fx3:=Bx3.facts
        have Fg0:=Bg0.facts
        go_upto_region 38 with fail
        go_cut [22,23]from 24 (fun p22 p23 wx=> ∃ bkh0 loh0 hih0 aoh0_0 caph0_0 aoh0_1 caph0_1,p22= .pointer (some ⟨bkh0,0,none⟩)∧p23= .bool r1∧Box wx bkh0 #[.slice aoh0_0 r0.f0.length caph0_0,.slice aoh0_1 r0.f1.length caph0_1] 72∧(w21.heap.size≤loh0∧loh0≤hih0∧hih0≤wx.heap.size∧w21.heap.size≤bkh0∧(bkh0<loh0∨hih0≤bkh0))∧RoamW wx loh0 hih0 (.agg #[.slice aoh0_0 r0.f0.length caph0_0,.slice aoh0_1 r0.f1.length caph0_1]) r0∧Fr w21 wx)
        case first=>
         have RA0: ∀ w',Sf w21 w'→ ∀ o,w'.cell? ⟨w.heap.size,o,none⟩=_:=fun w' h o=>(BA0.fr h.out).cell o
         have RA1: ∀ w',Sf w21 w'→ ∀ o,w'.cell? ⟨w.heap.size+1,o,none⟩=_:=fun w' h o=>(BA1.fr h.out).cell o
         have RA3: ∀ w',Sf w21 w'→ ∀ o,w'.cell? ⟨w.heap.size+1+1,o,none⟩=_:=fun w' h o=>(BA3.fr h.out).cell o
         have Rw0: ∀ w',Sf w21 w'→ ∀ o,w'.cell? ⟨bkw0,o,none⟩=_:=fun w' h o=>(Bw0.fr h.out).cell o
         have Rx0: ∀ w',Sf w21 w'→ ∀ o,w'.cell? ⟨w5.heap.size,o,none⟩=_:=fun w' h o=>(Bx0.fr h.out).cell o
         have Rx1: ∀ w',Sf w21 w'→ ∀ o,w'.cell? ⟨w6.heap.size,o,none⟩=_:=fun w' h o=>(Bx1.fr h.out).cell o
         have Rx3: ∀ w',Sf w21 w'→ ∀ o,w'.cell? ⟨w7.heap.size,o,none⟩=_:=fun w' h o=>(Bx3.fr h.out).cell o
         have Rg0: ∀ w',Sf w21 w'→ ∀ o,w'.cell? ⟨w8.heap.size,o,none⟩=_:=fun w' h o=>(Bg0.fr h.out).cell o
         clear BA0
         clear BA1
         clear BA3
         clear Bw0
         clear Bx0
         clear Bx1
         clear Bx3
         clear Bg0
         clear FA0 FA1 FA3 Fw0 Fx0 Fx1 Fx3 Fg0
         go_region_held3 (fun w'=>Sf w21 w') ((refine Sf.mk ?_;repeat(first|(with_reducible exact Fr.refl _)|(with_reducible assumption)|(with_reducible refine Fr.drewN ?_ _)|(with_reducible refine Fr.drew ?_)|(with_reducible refine Fr.alloc ?_ _)|(with_reducible refine Fr.setCell ?_ (by exact Qz) _)|(with_reducible refine Fr.trans ?_ (by with_reducible assumption))))) (first|(go_at_call 26;refine(toGraph_w _ d0 _ (hv0.fr (by exact Qf)) hn0).mono ?_;rintro e w22 ⟨aot22,capt22,rfl,ht22,hf22⟩;have zhf22:=hf22.size;(try simp only[World.size_alloc,World.size_setCell,World.size_drew]at zhf22);(try have kb22_0:=hf22.blk (w21.heap.size) (by exact Qz)))|(go_at_call 14;refine(toQuery_w _ d1 _ (hv1.fr (by exact Qf)) hn1).mono ?_;rintro e w23 ⟨aot23_1,capt23_1,aot23_2,capt23_2,aot23_3,capt23_3,rfl,ht23,hf23⟩;have zhf23:=hf23.size;(try simp only[World.size_alloc,World.size_setCell,World.size_drew]at zhf23);(try have kb23_0:=hf23.blk (w21.heap.size) (by exact Qz));(try have kb23_1:=hf23.blk (w22.heap.size) (by exact Qz)))|(go_at_call 45;refine(toRoam_w _ d3 _ (hv3.fr (by exact Qf)) hn3).mono ?_;rintro e w24 ⟨aot24_0,capt24_0,aot24_1,capt24_1,rfl,ht24,hf24⟩;have zhf24:=hf24.size;(try simp only[World.size_alloc,World.size_setCell,World.size_drew]at zhf24);(try have kb24_0:=hf24.blk (w21.heap.size) (by exact Qz));(try have kb24_1:=hf24.blk (w22.heap.size) (by exact Qz));(try have kb24_2:=hf24.blk (w23.heap.size) (by exact Qz)))|(go_at_call 46;refine(HI.out _ _ _ _ (ht22.rd.fr (by exact Qf)) (ht23.rd.fr (by exact Qf)) (ht24.rd.fr (by exact Qf))).mono ?_;rintro e w25 ⟨aoh0_0,caph0_0,aoh0_1,caph0_1,rfl,oh0,hf25⟩;have zhf25:=hf25.size;(try simp only[World.size_alloc,World.size_setCell,World.size_drew]at zhf25);(try have kb25_0:=hf25.blk (w21.heap.size) (by exact Qz));(try have kb25_1:=hf25.blk (w22.heap.size) (by exact Qz));(try have kb25_2:=hf25.blk (w23.heap.size) (by exact Qz));(try have kb25_3:=hf25.blk (w24.heap.size) (by exact Qz));obtain⟨lqh0,hlqah0,hlqbh0,oh0⟩: ∃ l:Nat,_≤l∧l≤_∧RoamW w25 l _ _ _:=⟨_,Nat.le_refl _,Nat.le_refl _,oh0⟩;(try simp only[World.size_alloc,World.size_setCell,World.size_drew]at hlqah0 hlqbh0)))
         all_goals
          go_wp2_with fail
          go_meet
          case rel=>
           refine⟨_,lqh0,w25.heap.size,aoh0_0,caph0_0,aoh0_1,caph0_1,rfl,rfl,?_,?_,?_,by exact Qf⟩
           · (repeat(first|(with_reducible exact Box.new _ _ _)|(with_reducible apply Box.drew)|(apply Box.set_to)|(apply Box.new';(first|with_reducible rfl|(focus(simp;done))))|(with_reducible refine Box.alloc ?_ _)|(apply Box.fr;(case hf=>with_reducible assumption))));all_goals rfl
           · (try simp only[World.size_alloc,World.size_setCell,World.size_drew]);(refine⟨?_,?_,?_,?_,?_⟩<;>first|omega|(simp;omega))
           · (repeat(first|(exact oh0)|(with_reducible refine RoamW.drewN ?_ _)|(with_reducible refine RoamW.drew ?_)|(with_reducible refine RoamW.alloc ?_ _)|(with_reducible refine RoamW.set ?_ (by exact Qz) _)))
        case rest=>
         obtain⟨w22,rfl⟩: ∃ w_:World,w_=wc:=⟨_,rfl⟩
         obtain⟨bkh0,loh0,hih0,aoh0_0,caph0_0,aoh0_1,caph0_1,rfl,rfl,Bh0,hbh0,oh0,hf22⟩:=hcut
         have qlth0:=Bh0.lt
         have qh0:=hbh0;(try simp only[World.size_alloc,World.size_setCell,World.size_drew]at qh0)
         have zhf22:=hf22.size;(try simp only[World.size_alloc,World.size_setCell,World.size_drew]at zhf22)
         have BA0:=BA0.fr (show Fr w21 w22 by exact Qf)
         have BA1:=BA1.fr (show Fr w21 w22 by exact Qf)
         have BA3:=BA3.fr (show Fr w21 w22 by exact Qf)
         have Bw0:=Bw0.fr (show Fr w21 w22 by exact Qf)
         have Bx0:=Bx0.fr (show Fr w21 w22 by exact Qf)
         have Bx1:=Bx1.fr (show Fr w21 w22 by exact Qf)
         have Bx3:=Bx3.fr (show Fr w21 w22 by exact Qf)
         have Bg0:=Bg0.fr (show Fr w21 w22 by exact Qf)
         clear FA0 FA1 FA3 Fw0 Fx0 Fx1 Fx3 Fg0
         have FA0:=BA0.facts
         have FA1:=BA1.facts
         have FA3:=BA3.facts
         have Fw0:=Bw0.facts
         have Fx0:=Bx0.facts
         have Fx1:=Bx1.facts
         have Fx3:=Bx3.facts
         have Fg0:=Bg0.facts
         have Fh0:=Bh0.facts
         go_wp2_with fail
         refine(eqRoam_same _ _ r0 _ (oh0.rd.fr (by exact Qf)) (ow0_20.rd.fr (by exact Qf))).mono ?_
         rintro e w23 ⟨rfl,hf23⟩
         have zhf23:=hf23.size;(try simp only[World.size_alloc,World.size_setCell,World.size_drew]at zhf23)
         have BA0:=BA0.fr (show Fr w22 w23 by exact Qf)
         have BA1:=BA1.fr (show Fr w22 w23 by exact Qf)
         have BA3:=BA3.fr (show Fr w22 w23 by exact Qf)
         have Bw0:=Bw0.fr (show Fr w22 w23 by exact Qf)
         have Bx0:=Bx0.fr (show Fr w22 w23 by exact Qf)
         have Bx1:=Bx1.fr (show Fr w22 w23 by exact Qf)
         have Bx3:=Bx3.fr (show Fr w22 w23 by exact Qf)
         have Bg0:=Bg0.fr (show Fr w22 w23 by exact Qf)
         have Bh0:=Bh0.fr (show Fr w22 w23 by exact Qf)
         clear FA0 FA1 FA3 Fw0 Fx0 Fx1 Fx3 Fg0 Fh0
         have FA0:=BA0.facts
         have FA1:=BA1.facts
         have FA3:=BA3.facts
         have Fw0:=Bw0.facts
         have Fx0:=Bx0.facts
         have Fx1:=Bx1.facts
         have Fx3:=Bx3.facts
         have Fg0:=Bg0.facts
         have Fh0:=Bh0.facts
         go_wp2_with fail
         refine(HHg0.out _ (by exact Qf)).mono ?_
         rintro e w24 ⟨rfl,hf24⟩
         have zhf24:=hf24.size;(try simp only[World.size_alloc,World.size_setCell,World.size_drew]at zhf24)
         have BA0:=BA0.fr (show Fr w23 w24 by exact Qf)
         have BA1:=BA1.fr (show Fr w23 w24 by exact Qf)
         have BA3:=BA3.fr (show Fr w23 w24 by exact Qf)
         have Bw0:=Bw0.fr (show Fr w23 w24 by exact Qf)
         have Bx0:=Bx0.fr (show Fr w23 w24 by exact Qf)
         have Bx1:=Bx1.fr (show Fr w23 w24 by exact Qf)
         have Bx3:=Bx3.fr (show Fr w23 w24 by exact Qf)
         have Bg0:=Bg0.fr (show Fr w23 w24 by exact Qf)
         have Bh0:=Bh0.fr (show Fr w23 w24 by exact Qf)
         clear FA0 FA1 FA3 Fw0 Fx0 Fx1 Fx3 Fg0 Fh0
         have FA0:=BA0.facts
         have FA1:=BA1.facts
         have FA3:=BA3.facts
         have Fw0:=Bw0.facts
         have Fx0:=Bx0.facts
         have Fx1:=Bx1.facts
         have Fx3:=Bx3.facts
         have Fg0:=Bg0.facts
         have Fh0:=Bh0.facts
         go_wp2_with fail
         go_ret
         exact⟨rfl,by exact Qf⟩
     · skip
       have hr:szR q1 (d3.bulk)= -1:=szR_no hl2
       have HR:=Lib.hid hr
       clear hr hspec himpl
       go_enter Tryz.func9,Tryz.ntmps9
       go_wp2_with fail
       refine(szGraph_w _ d0 _ _ (hv0.fr (by exact Qf)) hs0 (by omega) (by omega)).mono ?_
       rintro e w1 ⟨rfl,hf1⟩
       have zhf1:=hf1.size;(try simp only[World.size_alloc,World.size_setCell,World.size_drew]at zhf1)
       have BA0:Box w1 (w.heap.size) #[.int .i64 d0.f0,u0] 48:=(Box.new' (w:=w) (X:= #[.int .i64 d0.f0,u0]) (T:=48) (by simp)).fr (by exact Qf)
       have FA0:=BA0.facts
       have BA1:Box w1 (w.heap.size+1) #[.bool d1.f0,u1_1,u1_2,u1_3] 26:=(Box.new' (w:=(w.alloc (.cells #[.int .i64 d0.f0,u0] 48))) (X:= #[.bool d1.f0,u1_1,u1_2,u1_3]) (T:=26) (by simp)).fr (by exact Qf)
       have FA1:=BA1.facts
       have BA3:Box w1 (w.heap.size+1+1) #[u3_0,u3_1] 81:=(Box.new' (w:=((w.alloc (.cells #[.int .i64 d0.f0,u0] 48)).alloc (.cells #[.bool d1.f0,u1_1,u1_2,u1_3] 26))) (X:= #[u3_0,u3_1]) (T:=81) (by simp)).fr (by exact Qf)
       have FA3:=BA3.facts
       rw[HQ0.out]
       go_wp2_with fail
       refine(szQuery_w _ d1 _ _ (hv1.fr (by exact Qf)) hs1 (by omega) (by omega)).mono ?_
       rintro e w2 ⟨rfl,hf2⟩
       have zhf2:=hf2.size;(try simp only[World.size_alloc,World.size_setCell,World.size_drew]at zhf2)
       have BA0:Box w2 (w.heap.size) #[.int .i64 d0.f0,u0] 48:=(Box.new' (w:=w) (X:= #[.int .i64 d0.f0,u0]) (T:=48) (by simp)).fr (by exact Qf)
       have FA0:=BA0.facts
       have BA1:Box w2 (w.heap.size+1) #[.bool d1.f0,u1_1,u1_2,u1_3] 26:=(Box.new' (w:=(w.alloc (.cells #[.int .i64 d0.f0,u0] 48))) (X:= #[.bool d1.f0,u1_1,u1_2,u1_3]) (T:=26) (by simp)).fr (by exact Qf)
       have FA1:=BA1.facts
       have BA3:Box w2 (w.heap.size+1+1) #[u3_0,u3_1] 81:=(Box.new' (w:=((w.alloc (.cells #[.int .i64 d0.f0,u0] 48)).alloc (.cells #[.bool d1.f0,u1_1,u1_2,u1_3] 26))) (X:= #[u3_0,u3_1]) (T:=81) (by simp)).fr (by exact Qf)
       have FA3:=BA3.facts
       rw[HQ1.out]
       go_wp2_with fail
       refine(szRoam_w _ d3 _ _ (hv3.fr (by exact Qf)) hs3 (by omega) (by omega)).mono ?_
       rintro e w3 ⟨rfl,hf3⟩
       have zhf3:=hf3.size;(try simp only[World.size_alloc,World.size_setCell,World.size_drew]at zhf3)
       have BA0:Box w3 (w.heap.size) #[.int .i64 d0.f0,u0] 48:=(Box.new' (w:=w) (X:= #[.int .i64 d0.f0,u0]) (T:=48) (by simp)).fr (by exact Qf)
       have FA0:=BA0.facts
       have BA1:Box w3 (w.heap.size+1) #[.bool d1.f0,u1_1,u1_2,u1_3] 26:=(Box.new' (w:=(w.alloc (.cells #[.int .i64 d0.f0,u0] 48))) (X:= #[.bool d1.f0,u1_1,u1_2,u1_3]) (T:=26) (by simp)).fr (by exact Qf)
       have FA1:=BA1.facts
       have BA3:Box w3 (w.heap.size+1+1) #[u3_0,u3_1] 81:=(Box.new' (w:=((w.alloc (.cells #[.int .i64 d0.f0,u0] 48)).alloc (.cells #[.bool d1.f0,u1_1,u1_2,u1_3] 26))) (X:= #[u3_0,u3_1]) (T:=81) (by simp)).fr (by exact Qf)
       have FA3:=BA3.facts
       rw[HR.out]
       go_wp2_with fail
       go_ret
       exact⟨rfl,by exact Qf⟩
   · skip
     have hr:szR q0 (d1.bulk)= -1:=szR_no hl1
     have HR:=Lib.hid hr
     clear hr hspec himpl
     go_enter Tryz.func9,Tryz.ntmps9
     go_wp2_with fail
     refine(szGraph_w _ d0 _ _ (hv0.fr (by exact Qf)) hs0 (by omega) (by omega)).mono ?_
     rintro e w1 ⟨rfl,hf1⟩
     have zhf1:=hf1.size;(try simp only[World.size_alloc,World.size_setCell,World.size_drew]at zhf1)
     have BA0:Box w1 (w.heap.size) #[.int .i64 d0.f0,u0] 48:=(Box.new' (w:=w) (X:= #[.int .i64 d0.f0,u0]) (T:=48) (by simp)).fr (by exact Qf)
     have FA0:=BA0.facts
     have BA1:Box w1 (w.heap.size+1) #[.bool d1.f0,u1_1,u1_2,u1_3] 26:=(Box.new' (w:=(w.alloc (.cells #[.int .i64 d0.f0,u0] 48))) (X:= #[.bool d1.f0,u1_1,u1_2,u1_3]) (T:=26) (by simp)).fr (by exact Qf)
     have FA1:=BA1.facts
     have BA3:Box w1 (w.heap.size+1+1) #[u3_0,u3_1] 81:=(Box.new' (w:=((w.alloc (.cells #[.int .i64 d0.f0,u0] 48)).alloc (.cells #[.bool d1.f0,u1_1,u1_2,u1_3] 26))) (X:= #[u3_0,u3_1]) (T:=81) (by simp)).fr (by exact Qf)
     have FA3:=BA3.facts
     rw[HQ0.out]
     go_wp2_with fail
     refine(szQuery_w _ d1 _ _ (hv1.fr (by exact Qf)) hs1 (by omega) (by omega)).mono ?_
     rintro e w2 ⟨rfl,hf2⟩
     have zhf2:=hf2.size;(try simp only[World.size_alloc,World.size_setCell,World.size_drew]at zhf2)
     have BA0:Box w2 (w.heap.size) #[.int .i64 d0.f0,u0] 48:=(Box.new' (w:=w) (X:= #[.int .i64 d0.f0,u0]) (T:=48) (by simp)).fr (by exact Qf)
     have FA0:=BA0.facts
     have BA1:Box w2 (w.heap.size+1) #[.bool d1.f0,u1_1,u1_2,u1_3] 26:=(Box.new' (w:=(w.alloc (.cells #[.int .i64 d0.f0,u0] 48))) (X:= #[.bool d1.f0,u1_1,u1_2,u1_3]) (T:=26) (by simp)).fr (by exact Qf)
     have FA1:=BA1.facts
     have BA3:Box w2 (w.heap.size+1+1) #[u3_0,u3_1] 81:=(Box.new' (w:=((w.alloc (.cells #[.int .i64 d0.f0,u0] 48)).alloc (.cells #[.bool d1.f0,u1_1,u1_2,u1_3] 26))) (X:= #[u3_0,u3_1]) (T:=81) (by simp)).fr (by exact Qf)
     have FA3:=BA3.facts
     rw[HR.out]
     go_wp2_with fail
     go_ret
     exact⟨rfl,by exact Qf⟩
 · skip
   have hr:szR 1048576 (d0.bulk)= -1:=szR_no hl0
   have HR:=Lib.hid hr
   clear hr hspec himpl
   go_enter Tryz.func9,Tryz.ntmps9
   go_wp2_with fail
   refine(szGraph_w _ d0 _ _ (hv0.fr (by exact Qf)) hs0 (by omega) (by omega)).mono ?_
   rintro e w1 ⟨rfl,hf1⟩
   have zhf1:=hf1.size;(try simp only[World.size_alloc,World.size_setCell,World.size_drew]at zhf1)
   have BA0:Box w1 (w.heap.size) #[.int .i64 d0.f0,u0] 48:=(Box.new' (w:=w) (X:= #[.int .i64 d0.f0,u0]) (T:=48) (by simp)).fr (by exact Qf)
   have FA0:=BA0.facts
   have BA1:Box w1 (w.heap.size+1) #[.bool d1.f0,u1_1,u1_2,u1_3] 26:=(Box.new' (w:=(w.alloc (.cells #[.int .i64 d0.f0,u0] 48))) (X:= #[.bool d1.f0,u1_1,u1_2,u1_3]) (T:=26) (by simp)).fr (by exact Qf)
   have FA1:=BA1.facts
   have BA3:Box w1 (w.heap.size+1+1) #[u3_0,u3_1] 81:=(Box.new' (w:=((w.alloc (.cells #[.int .i64 d0.f0,u0] 48)).alloc (.cells #[.bool d1.f0,u1_1,u1_2,u1_3] 26))) (X:= #[u3_0,u3_1]) (T:=81) (by simp)).fr (by exact Qf)
   have FA3:=BA3.facts
   rw[HR.out]
   go_wp2_with fail
   go_ret
   exact⟨rfl,by exact Qf⟩
end Go.Proofs.YtmdgdnkllclpcaaGreat
