/- Texts in one: Drg, Drg2, Drk. -/
import Derived.Test.YtjnahjgncmcmdaaGreatGPrt
import Derived.Test.YtjnahjgncmcmdaaGreatKDraw
import Derived.BigRegion
import Derived.Deep.RegionLaw
import Derived.Test.YtjnahjgncmcmdaaGreatPax
namespace Go.Proofs.YtjnahjgncmcmdaaGreat
open Go.RowKit
set_option linter.unusedVariables false
set_option linter.unusedSimpArgs false
theorem edgeO_cells (xs:List EdgeR): ∀ u∈xs.flatMap EdgeR.cells,u.oneCell'=true:=by
 intro u hu
 obtain⟨x,_,h⟩:=List.mem_flatMap.1 hu
 simp only[EdgeR.cells,List.mem_cons,List.not_mem_nil,or_false]at h
 rcases h with rfl|rfl|rfl<;>rfl
set_option maxHeartbeats 1600000 in
set_option maxRecDepth 100000 in
theorem l04Copy_any (n:Int) (xs:List EdgeR) (u:Value) (w:World) (hu:EdgesR w u xs) (hn:xs.length≤1048576):
  Calls Tryz.prog 189 #[.agg #[.int .i64 n,u]] w fun e w'=> ∃ ao cap,e= .returned (.agg #[.int .i64 n,.slice ao xs.length cap])∧EdgesW w' w.heap.size w'.heap.size (.slice ao xs.length cap) xs∧Fr w w':=by
 obtain⟨i0,hi,hz0,hz1,hz2⟩:=info_parts info_Edge
 obtain⟨a0,c0,rfl,_⟩:=RdS.val hu
 have HU:=Lib.hid hu
 clear hu
 go_enter Tryz.func189,Tryz.ntmps189
 go_wp2
 have r0: ∀ w',Fr (w.alloc (.cells #[.int .i64 n,.slice a0 xs.length c0] 26)) w'→ ∀ o,w'.cell? ⟨w.heap.size,o,none⟩=_:=fun w' h o=>Fr.box h o
 go_region_held3 (fun w'=>Fr (w.alloc (.cells #[.int .i64 n,.slice a0 xs.length c0] 26)) w') (repeat(first|(with_reducible exact Fr.refl _)|(with_reducible assumption)|(with_reducible refine Fr.drewN ?_ _)|(with_reducible refine Fr.drew ?_)|(with_reducible refine Fr.alloc ?_ _)|(with_reducible refine Fr.setCell ?_ (by exact Qz) _)|(with_reducible refine Fr.trans ?_ (by with_reducible assumption)))) ((refine step_append_rd (by rfl) _ _ 24 (by rfl) (w.heap.size+1+1) 79 i0 (.agg #[.int .i64 0,.int .u8 0,.int .i64 0]) 3 24 Tryz.underlying24 hi hz0 hz1 hz2 rfl (by decide) (.slice (some ⟨w.heap.size+1+1,0,none⟩) 0 0) 0 [] (by rfl) (made_empty (by exact Qz) (Nat.le_refl _)) _ xs.length (xs.flatMap EdgeR.cells) (by rfl) (RdS.fr HU.out (by exact Qf)) (edgeO_cells _) (by unfold maxLen;omega) (by omega) (by exact Qz) ?_;intro ao' cap' w1 hown hgrow hat;have hf0:Fr ((w.alloc (.cells #[.int .i64 n,.slice a0 xs.length c0] 26)).alloc (.cells #[.int .i64 0,.slice none 0 0] 26)) w1:=Fr.app (show Fr ((w.alloc (.cells #[.int .i64 n,.slice a0 xs.length c0] 26)).alloc (.cells #[.int .i64 0,.slice none 0 0] 26)) _ by exact Qf) hgrow (RowIn.one (lo:=w.heap.size+1+1) (hi:=w.heap.size+1+1+1) (Nat.le_refl _) (Nat.lt_succ_self _)) (by exact Qz);have hf1:Fr (w.alloc (.cells #[.int .i64 n,.slice a0 xs.length c0] 26)) w1:=Fr.trans (show Fr (w.alloc (.cells #[.int .i64 n,.slice a0 xs.length c0] 26)) ((w.alloc (.cells #[.int .i64 n,.slice a0 xs.length c0] 26)).alloc (.cells #[.int .i64 0,.slice none 0 0] 26)) by exact Qf) hf0;have FRR:=((Box.new' (b:=w.heap.size+1) (w:=w.alloc (.cells #[.int .i64 n,.slice a0 xs.length c0] 26)) (X:= #[.int .i64 0,.slice none 0 0]) (T:=26) (by exact Qz)).fr hf0).facts;clear hf0))
 go_wp2
 refine bodyPost_ret (v:= .agg #[.int .i64 n,.slice ao' xs.length cap']) (by simp[results,Tryz.results189,go_sem, *]) rfl ⟨_,_,rfl,?_,?_⟩
 · simp only[Nat.zero_add,List.nil_append]at hown
   exact OwW.mono (OwW.ab (OwW.of_owns hown) (by exact Qa)) (by exact Qz) (by exact Qz)
 · repeat(first|(with_reducible exact Fr.refl _)|(with_reducible assumption)|(with_reducible refine Fr.drewN ?_ _)|(with_reducible refine Fr.drew ?_)|(with_reducible refine Fr.alloc ?_ _)|(with_reducible refine Fr.setCell ?_ (by exact Qz) _)|(with_reducible refine Fr.trans ?_ (by with_reducible assumption)))
set_option maxHeartbeats 8000000 in
set_option maxRecDepth 100000 in
theorem specGraphAdd_ok (n:Int) (xs:List EdgeR) (f:EdgeR) (u:Value) (w:World) (hu:EdgesR w u xs) (hg:graphB ⟨n,xs⟩=true):
  Calls Tryz.prog 181 #[.agg #[.int .i64 n,u],.agg #[.int .i64 f.f0,.int .u8 (f.f1.toNat:Int),.int .i64 f.f2]] w fun e w'=> ∃ (ys:List EdgeR) (ok:Bool) (ao:Option Addr) (cap:Nat),graphB ⟨n,ys⟩=true∧e= .returned (.tuple #[.agg #[.int .i64 n,.slice ao ys.length cap],.bool ok])∧EdgesW w' w.heap.size w'.heap.size (.slice ao ys.length cap) ys∧Fr w w':=by
 obtain⟨a0,c0,rfl,_⟩:=RdS.val hu
 have hl:xs.length≤40:=(graphB_out hg).2.1
 have HU:=Lib.hid hu
 have HG:=Lib.hid hg
 obtain⟨ys,hys⟩: ∃ ys,putE xs f=ys:=⟨_,rfl⟩
 have hyl:ys.length≤1048576:=by
  rw[← hys, ← putEK_all]
  have:=putEK_le xs f xs.length
  omega
 have CP:Hid (∀ w',Fr w w'→Calls Tryz.prog 217 #[.slice a0 xs.length c0,.agg #[.int .i64 f.f0,.int .u8 (f.f1.toNat:Int),.int .i64 f.f2]] w' fun e w''=> ∃ ao cap,e= .returned (.slice ao ys.length cap)∧EdgesW w'' w'.heap.size w''.heap.size (.slice ao ys.length cap) ys∧Fr w' w''):=Lib.hid fun w' h=>by rw[← hys];exact l04Put_any _ xs f w' (HU.out.fr h) (by omega)
 have CG:Hid (∀ w',Fr w w'→Calls Tryz.prog 67 #[.agg #[.int .i64 n,.slice a0 xs.length c0]] w' fun e w''=>e= .returned (.bool true)∧Fr w' w''):=Lib.hid fun w' h=>by rw[← HG.out];exact specGraphOk_any _ n xs w' (HU.out.fr h)
 have CC:Hid (∀ w',Fr w w'→Calls Tryz.prog 189 #[.agg #[.int .i64 n,.slice a0 xs.length c0]] w' fun e w''=> ∃ ao cap,e= .returned (.agg #[.int .i64 n,.slice ao xs.length cap])∧EdgesW w'' w'.heap.size w''.heap.size (.slice ao xs.length cap) xs∧Fr w' w''):=Lib.hid fun w' h=>l04Copy_any n xs _ w' (HU.out.fr h) (by omega)
 clear hu hg hys
 go_enter Tryz.func181,Tryz.ntmps181
 have BG:Box (((w.alloc (.cells #[.int .i64 n,.slice a0 xs.length c0] 26)).alloc (.cells #[.int .i64 f.f0,.int .u8 (f.f1.toNat:Int),.int .i64 f.f2] 79)).alloc (.cells #[.int .i64 0,.slice none 0 0] 26)) w.heap.size #[.int .i64 n,.slice a0 xs.length c0] 26:=((Box.new _ _ _).alloc _).alloc _
 have BE:Box (((w.alloc (.cells #[.int .i64 n,.slice a0 xs.length c0] 26)).alloc (.cells #[.int .i64 f.f0,.int .u8 (f.f1.toNat:Int),.int .i64 f.f2] 79)).alloc (.cells #[.int .i64 0,.slice none 0 0] 26)) (w.heap.size+1) #[.int .i64 f.f0,.int .u8 (f.f1.toNat:Int),.int .i64 f.f2] 79:=(Box.new' (by simp)).alloc _
 have BR:Box (((w.alloc (.cells #[.int .i64 n,.slice a0 xs.length c0] 26)).alloc (.cells #[.int .i64 f.f0,.int .u8 (f.f1.toNat:Int),.int .i64 f.f2] 79)).alloc (.cells #[.int .i64 0,.slice none 0 0] 26)) (w.heap.size+1+1) #[.int .i64 0,.slice none 0 0] 26:=Box.new' (by simp)
 go_upto_region 1 with fail
 go_cut [6]from 7 (fun p wx=> ∃ bk lo hi an cn,p= .pointer (some ⟨bk,0,none⟩)∧Box wx bk #[.int .i64 n,.slice an ys.length cn] 26∧(w.heap.size+1+1+1≤lo∧lo≤hi∧hi≤wx.heap.size∧w.heap.size+1+1+1≤bk∧(bk<lo∨hi≤bk))∧EdgesW wx lo hi (.slice an ys.length cn) ys∧Fr (((w.alloc (.cells #[.int .i64 n,.slice a0 xs.length c0] 26)).alloc (.cells #[.int .i64 f.f0,.int .u8 (f.f1.toNat:Int),.int .i64 f.f2] 79)).alloc (.cells #[.int .i64 0,.slice none 0 0] 26)) wx)
 case first=>
  have F0: ∀ w',Sf (((w.alloc (.cells #[.int .i64 n,.slice a0 xs.length c0] 26)).alloc (.cells #[.int .i64 f.f0,.int .u8 (f.f1.toNat:Int),.int .i64 f.f2] 79)).alloc (.cells #[.int .i64 0,.slice none 0 0] 26)) w'→ ∀ o,w'.cell? ⟨w.heap.size,o,none⟩=(#[.int .i64 n,.slice a0 xs.length c0]:Array Value)[o]? :=fun w' h o=>(BG.fr h.out).cell o
  have F1: ∀ w',Sf (((w.alloc (.cells #[.int .i64 n,.slice a0 xs.length c0] 26)).alloc (.cells #[.int .i64 f.f0,.int .u8 (f.f1.toNat:Int),.int .i64 f.f2] 79)).alloc (.cells #[.int .i64 0,.slice none 0 0] 26)) w'→ ∀ o,w'.cell? ⟨w.heap.size+1,o,none⟩=(#[.int .i64 f.f0,.int .u8 (f.f1.toNat:Int),.int .i64 f.f2]:Array Value)[o]? :=fun w' h o=>(BE.fr h.out).cell o
  clear BG BE BR
  go_region_held3 (fun w'=>Sf (((w.alloc (.cells #[.int .i64 n,.slice a0 xs.length c0] 26)).alloc (.cells #[.int .i64 f.f0,.int .u8 (f.f1.toNat:Int),.int .i64 f.f2] 79)).alloc (.cells #[.int .i64 0,.slice none 0 0] 26)) w') ((refine Sf.mk ?_;repeat(first|(with_reducible exact Fr.refl _)|(with_reducible assumption)|(with_reducible refine Fr.drewN ?_ _)|(with_reducible refine Fr.drew ?_)|(with_reducible refine Fr.alloc ?_ _)|(with_reducible refine Fr.setCell ?_ (by exact Qz) _)|(with_reducible refine Fr.trans ?_ (by with_reducible assumption))))) (first|(go_at_call 217;with_reducible refine(CP.out _ (by exact Qf)).mono ?_;rintro e w8 ⟨an,cn,rfl,hl8,hf8⟩;have z8:=hf8.size;(try simp only[World.size_alloc,World.size_setCell,World.size_drew]at z8);(try have kb8:=hf8.blk (w.heap.size+1+1+1) (by exact Qz));obtain⟨lq,hlqa,hlqb,ol⟩: ∃ l:Nat,_≤l∧l≤_∧EdgesW w8 l _ _ _:=⟨_,Nat.le_refl _,Nat.le_refl _,hl8⟩;(try simp only[World.size_alloc,World.size_setCell,World.size_drew]at hlqa hlqb)))
  all_goals
   go_wp2_with fail
   go_meet
   case rel=>
    refine⟨_,lq,w8.heap.size,an,cn,rfl,?_,?_,?_,by exact Qf⟩
    · (repeat(first|(with_reducible exact Box.new _ _ _)|(with_reducible apply Box.drew)|(apply Box.set_to)|(apply Box.new';(first|with_reducible rfl|(focus(simp;done))))|(with_reducible refine Box.alloc ?_ _)|(apply Box.fr;(case hf=>with_reducible assumption))));all_goals rfl
    · (try simp only[World.size_alloc,World.size_setCell,World.size_drew]);(refine⟨?_,?_,?_,?_,?_⟩<;>first|omega|(simp;omega))
    · change OwW _ _ _ _ _ _ _ _;(repeat(first|(with_reducible refine OwW.drewN ?_ _)|(with_reducible refine OwW.drew ?_)|(with_reducible refine OwW.alloc ?_ _)|(with_reducible refine OwW.set ?_ (by exact Qz) _)|(exact ol)))
 case rest=>
  obtain⟨w8,rfl⟩: ∃ w_:World,w_=wc:=⟨_,rfl⟩
  obtain⟨bk,lo,hi,an,cn,rfl,BN,hb,hN,hf8⟩:=hcut
  have HN:=Lib.hid hN
  clear hN CP
  have z8:=hf8.size
  simp only[World.size_alloc]at z8
  have BG:=BG.fr hf8
  have BR:=BR.fr hf8
  have FG:=BG.facts
  have FN:=BN.facts
  go_wp2_with fail
  refine(CG.out _ (by exact Qf)).mono ?_
  rintro e w9 ⟨rfl,hf9⟩
  have z9:=hf9.size
  have BG:=BG.fr hf9
  have BR:=BR.fr hf9
  have BN:=BN.fr hf9
  have HN:=Lib.hid (OwW.fr HN.out hf9)
  clear FG FN
  have FG:=BG.facts
  have FN:=BN.facts
  obtain⟨b,hbv⟩: ∃ b,graphB ⟨n,ys⟩=b:=⟨_,rfl⟩
  have CN:Hid (∀ w',Fr w9 w'→Calls Tryz.prog 67 #[.agg #[.int .i64 n,.slice an ys.length cn]] w' fun e w''=>e= .returned (.bool b)∧Fr w' w''):=Lib.hid fun w' h=>by rw[← hbv];exact specGraphOk_any _ n ys w' ((OwW.rd HN.out).fr h)
  have HBV:=Lib.hid hbv
  clear hbv
  go_wp2_with fail
  refine(CN.out _ (by exact Qf)).mono ?_
  rintro e w10 ⟨rfl,hf10⟩
  have z10:=hf10.size
  have BG:=BG.fr hf10
  have BR:=BR.fr hf10
  have BN:=BN.fr hf10
  have HN:=Lib.hid (OwW.fr HN.out hf10)
  clear FG FN
  cases b
  · have FG:=BG.facts
    go_wp2_with fail
    refine(CC.out _ (by exact Qf)).mono ?_
    rintro e w11 ⟨ao,cap,rfl,ho,hf11⟩
    have HO:=Lib.hid ho
    have z11:=hf11.size
    have BR:=BR.fr hf11
    have FR1:=BR.facts
    clear FG ho
    go_wp2_with fail
    refine bodyPost_ret (v:= .tuple #[.agg #[.int .i64 n,.slice ao xs.length cap],.bool false]) (by simp[results,Tryz.results181,go_sem, *]) rfl ⟨xs,false,ao,cap,HG.out,rfl,?_,by exact Qf⟩
    refine OwW.mono (lo:=w10.heap.size) (hi:=w11.heap.size) ?_ (by omega) (by simp)
    change OwW _ _ _ _ _ _ _ _;(repeat(first|(with_reducible refine OwW.drewN ?_ _)|(with_reducible refine OwW.drew ?_)|(with_reducible refine OwW.alloc ?_ _)|(with_reducible refine OwW.set ?_ (by exact Qz) _)|(exact HO.out)))
  · have FN:=BN.facts
    have FR1:=BR.facts
    go_wp2_with fail
    refine bodyPost_ret (v:= .tuple #[.agg #[.int .i64 n,.slice an ys.length cn],.bool true]) (by simp[results,Tryz.results181,go_sem, *]) rfl ⟨ys,true,an,cn,HBV.out,rfl,?_,by exact Qf⟩
    refine OwW.mono (lo:=lo) (hi:=hi) ?_ (by omega) (by simp;omega)
    change OwW _ _ _ _ _ _ _ _;(repeat(first|(with_reducible refine OwW.drewN ?_ _)|(with_reducible refine OwW.drew ?_)|(with_reducible refine OwW.alloc ?_ _)|(with_reducible refine OwW.set ?_ (by exact Qz) _)|(exact HN.out)))
set_option maxRecDepth 100000 in
theorem l04Edge_any (b:Nat) (n:Int) (w:World) (hc:Cu w b) (hn:n≤1000):
  Calls Tryz.prog 182 #[.pointer (some ⟨b,0,none⟩),.int .i64 n] w fun e w'=> ∃ x:EdgeR,e= .returned (.agg #[.int .i64 x.f0,.int .u8 (x.f1.toNat:Int),.int .i64 x.f2])∧Cu w' b∧Span b (b+1) w w':=by
 have hbl:=hc.lt
 go_enter Tryz.func182,Tryz.ntmps182
 have BR:Box (w.alloc (.cells #[.int .i64 0,.int .u8 0,.int .i64 0] 79)) w.heap.size #[.int .i64 0,.int .u8 0,.int .i64 0] 79:=Box.new _ _ _
 go_wp2_with fail
 refine(l01Below_any b n _ (hc.fr (by exact Qf)) (by omega)).mono ?_
 rintro e w1 ⟨x,_,_,rfl,hc1,sp1⟩
 have z1:=sp1.size;(try simp only[World.size_alloc]at z1)
 have BR:=BR.span sp1 (.inr (by omega))
 go_wp2_with fail
 refine(l01Below_any b 3 _ hc1 (by omega)).mono ?_
 rintro e w2 ⟨y,hy,_,rfl,hc2,sp2⟩
 have hy:=hy (by omega)
 have z2:=sp2.size
 have BR:=BR.span sp2 (.inr (by omega))
 go_wp2_with fail
 refine(l01Below_any b n _ hc2 (by omega)).mono ?_
 rintro e w3 ⟨z,_,_,rfl,hc3,sp3⟩
 have z3:=sp3.size
 have BR:=BR.span sp3 (.inr (by omega))
 have FB:=BR.facts
 have hb:((UInt8.ofNat (97+y)).toNat:Int)=97+(y:Int):=by simp;omega
 have hs:Span b (b+1) w w3:=(((Span.refl b (b+1) w).alloc' _).trans sp1).trans (sp2.trans sp3)
 go_wp2_with fail
 refine bodyPost_ret (v:= .agg #[.int .i64 x,.int .u8 (97+(y:Int)),.int .i64 z]) (by simp[results,Tryz.results182,go_sem, *]) rfl ⟨⟨x,UInt8.ofNat (97+y),z⟩,by rw[← hb],?_,?_⟩
 · refine Cu.span (lo:=b+1) (hi:=w3.heap.size+1) hc3 ?_ (by omega);(repeat(first|with_reducible exact Span.refl _ _ _|with_reducible refine Span.setb ?_ (by omega) (by omega)|with_reducible apply Span.alloc'|with_reducible apply Span.drew'|with_reducible apply Span.drewN'))
 · refine Span.above' (L:=w.heap.size) (M:=w3.heap.size+1) hs ?_ (Nat.le_refl _);(repeat(first|with_reducible exact Span.refl _ _ _|with_reducible refine Span.setb ?_ (by omega) (by omega)|with_reducible apply Span.alloc'|with_reducible apply Span.drew'|with_reducible apply Span.drewN'))
set_option maxHeartbeats 8000000 in
set_option maxRecDepth 100000 in
theorem l04Graph_any (b:Nat) (w:World) (hc:Cu w b):
  Calls Tryz.prog 132 #[.pointer (some ⟨b,0,none⟩)] w fun e w'=> ∃ (n:Int) (xs:List EdgeR) (ao:Option Addr) (cap:Nat),2≤n∧n≤5∧graphB ⟨n,xs⟩=true∧e= .returned (.agg #[.int .i64 n,.slice ao xs.length cap])∧EdgesW w' w.heap.size w'.heap.size (.slice ao xs.length cap) xs∧Cu w' b∧Span b (b+1) w w':=by
 have hbl:=hc.lt
 go_enter Tryz.func132,Tryz.ntmps132
 have BR:Box (w.alloc (.cells #[.int .i64 0,.slice none 0 0] 26)) w.heap.size #[.int .i64 0,.slice none 0 0] 26:=Box.new _ _ _
 go_wp2_with fail
 refine(l01Below_any b 4 _ (hc.fr (by exact Qf)) (by omega)).mono ?_
 rintro e w1 ⟨x,hx,_,rfl,hc1,sp1⟩
 have hx:=hx (by omega)
 have z1:=sp1.size;(try simp only[World.size_alloc]at z1)
 have BR1:=BR.span sp1 (.inr (by omega))
 have hs1:Span b (b+1) w w1:=((Span.refl b (b+1) w).alloc' _).trans sp1
 obtain⟨n,hn⟩: ∃ n:Int,2+(x:Int)=n:=⟨_,rfl⟩
 have hn2:2≤n:=by omega
 have hn5:n≤5:=by omega
 have hwn:IntKind.i64.wrap (2+(x:Int))=n:=by rw[hn];exact IntWalk.i64_in _ (by omega)
 have hg0:graphB ⟨n,[]⟩=true:=graphB_ok ⟨by show 1≤n;omega,by show n≤12;omega⟩ (by simp) (fun j hj=>absurd hj (by simp))
 have HG0:=Lib.hid hg0
 clear hg0 BR hx
 go_wp2_with fail
 try rw[hn]
 clear hn hwn
 go_loopw [4] (fun i wr=> ∃ (k:Nat) (xs:List EdgeR) (ao:Option Addr) (cap:Nat),k≤11∧i= .int .i64 k∧Hid (graphB ⟨n,xs⟩=true)∧Box wr w1.heap.size #[.int .i64 n,.slice ao xs.length cap] 26∧Hid (EdgesW wr (w1.heap.size+1) wr.heap.size (.slice ao xs.length cap) xs)∧Box wr w.heap.size #[.int .i64 0,.slice none 0 0] 26∧Cu wr b∧Span b (b+1) w wr) (fun i _=>11-(intOf i).toNat)
 case atStart=>exact⟨0,[],none,0,by omega,rfl,HG0,Box.new _ _ _,Lib.hid (OwW.nil _ _ _ _ _),BR1.alloc _,hc1.fr (by exact Qf),hs1.alloc' _⟩
 case round=>
  clear BR1 hc1 hs1 HG0
  obtain⟨k,xs,ao,cap,hk,rfl,HG,BG,HW,BR,hcr,hsr⟩:=hrel
  have zr:=hsr.size
  have zg:=BG.lt
  go_wp2_with fail
  refine(l01Below_any b 9 _ hcr (by omega)).mono ?_
  rintro e w2 ⟨y,hy,_,rfl,hc2,sp2⟩
  have hy:=hy (by omega)
  have z2:=sp2.size
  have BG2:=BG.span sp2 (.inr (by omega))
  have BR2:=BR.span sp2 (.inr (by omega))
  have HW2:=Lib.hid (OwW.span HW.out sp2 (.inr (by omega)))
  have hs2:Span b (b+1) w w2:=hsr.trans sp2
  have hwy:IntKind.i64.wrap (2+(y:Int))=2+(y:Int):=IntWalk.i64_in _ (by omega)
  clear BG BR HW hcr hsr
  by_cases hlt:(k:Int)<2+(y:Int)
  · have CA:Hid (∀ (f:EdgeR) w',Ss b (b+1) w2 w'→Calls Tryz.prog 181 #[.agg #[.int .i64 n,.slice ao xs.length cap],.agg #[.int .i64 f.f0,.int .u8 (f.f1.toNat:Int),.int .i64 f.f2]] w' fun e w''=> ∃ (ys:List EdgeR) (ok:Bool) (ao:Option Addr) (cap:Nat),graphB ⟨n,ys⟩=true∧e= .returned (.tuple #[.agg #[.int .i64 n,.slice ao ys.length cap],.bool ok])∧EdgesW w'' w'.heap.size w''.heap.size (.slice ao ys.length cap) ys∧Fr w' w''):=Lib.hid fun f w' h=>specGraphAdd_ok n xs f _ w' (OwW.rd (OwW.span HW2.out h.out (.inr (by omega)))) HG.out
    have FG2:=BG2.facts
    have hzb:=hc2.lt
    go_wp2_with fail
    go_region_law(first|(go_simp;go_at_call 182;refine(l04Edge_any b n _ (Cu.fr hc2 (by exact Qf)) (by omega)).mono ?_;rintro e w5 ⟨f,rfl,hc5,sp5⟩;have z5:=sp5.size;(try simp only[World.size_drew,World.heap_drewN]at z5);have BG5:Box w5 _ _ _:=BG2.span (show Span b (b+1) w2 w5 by(repeat(first|(with_reducible exact Span.refl _ _ _)|(with_reducible assumption)|(with_reducible refine Span.drewN' ?_)|(with_reducible refine Span.drew' ?_)|(with_reducible refine Span.alloc' ?_ _)|(with_reducible refine Span.then_fr ?_ (by with_reducible assumption))|(with_reducible refine Span.trans ?_ (by with_reducible assumption))))) (.inr (by omega));have FG5:=BG5.facts)|(go_simp;go_at_call 181;refine(CA.out _ _ (by refine Ss.mk ?_;(repeat(first|(with_reducible exact Span.refl _ _ _)|(with_reducible assumption)|(with_reducible refine Span.drewN' ?_)|(with_reducible refine Span.drew' ?_)|(with_reducible refine Span.alloc' ?_ _)|(with_reducible refine Span.then_fr ?_ (by with_reducible assumption))|(with_reducible refine Span.trans ?_ (by with_reducible assumption)))))).mono ?_;rintro e w6 ⟨ys,ok,ay,cy,hgy,rfl,hoy,hf6⟩;have z6:=hf6.size;(try simp only[World.size_drew,World.heap_drewN]at z6);have BG6':Box w6 _ _ _:=BG2.span (show Span b (b+1) w2 w6 by(repeat(first|(with_reducible exact Span.refl _ _ _)|(with_reducible assumption)|(with_reducible refine Span.drewN' ?_)|(with_reducible refine Span.drew' ?_)|(with_reducible refine Span.alloc' ?_ _)|(with_reducible refine Span.then_fr ?_ (by with_reducible assumption))|(with_reducible refine Span.trans ?_ (by with_reducible assumption))))) (.inr (by omega));have FG6':=BG6'.facts))
    all_goals
     have hs26:Span b (b+1) w2 w6:=by(repeat(first|(with_reducible exact Span.refl _ _ _)|(with_reducible assumption)|(with_reducible refine Span.drewN' ?_)|(with_reducible refine Span.drew' ?_)|(with_reducible refine Span.alloc' ?_ _)|(with_reducible refine Span.then_fr ?_ (by with_reducible assumption))|(with_reducible refine Span.trans ?_ (by with_reducible assumption))))
     have HGY:=Lib.hid hgy
     have HOY:=Lib.hid hoy
     have BG6:=BG2.span hs26 (.inr (by omega))
     have BR6:=BR2.span hs26 (.inr (by omega))
     have hc6:=hc5.fr (show Fr w5 w6 by exact Qf)
     clear CA hgy hoy BR2 hc5
     go_wp2_with fail
     go_roundw
     case rel=>exact⟨k+1,ys,ay,cy,by omega,by go_num,HGY,(BG6.set_to (X:= #[.int .i64 n,.slice ao xs.length cap]) (by simp)).set_to (by simp),Lib.hid (OwW.mono (OwW.set (OwW.set HOY.out (.inl (by show w1.heap.size<_;omega)) _) (.inl (by show w1.heap.size<_;omega)) _) (by omega) (by simp)),(BR6.far' (by omega) _).far' (by omega) _,by refine Cu.span (lo:=b+1) (hi:=w6.heap.size+1) hc6 ?_ (by omega);(repeat(first|with_reducible exact Span.refl _ _ _|with_reducible refine Span.setb ?_ (by omega) (by omega)|with_reducible apply Span.alloc'|with_reducible apply Span.drew'|with_reducible apply Span.drewN')),by refine Span.above' (L:=w.heap.size) (M:=w6.heap.size+1) (hs2.trans hs26) ?_ (Nat.le_refl _);(repeat(first|with_reducible exact Span.refl _ _ _|with_reducible refine Span.setb ?_ (by omega) (by omega)|with_reducible apply Span.alloc'|with_reducible apply Span.drew'|with_reducible apply Span.drewN'))⟩
     case measure=>(simp[intOf];omega)
  · have FG:=BG2.facts
    have FR1:=BR2.facts
    go_wp2_with fail
    refine bodyPost_ret (v:= .agg #[.int .i64 n,.slice ao xs.length cap]) (by simp[results,Tryz.results132,go_sem, *]) rfl ⟨n,xs,ao,cap,hn2,hn5,HG.out,rfl,?_,?_,?_⟩
    · refine OwW.mono (lo:=w1.heap.size+1) (hi:=wr.heap.size) ?_ (by omega) (by simp;omega)
      change OwW _ _ _ _ _ _ _ _;(repeat(first|(with_reducible refine OwW.drewN ?_ _)|(with_reducible refine OwW.drew ?_)|(with_reducible refine OwW.alloc ?_ _)|(with_reducible refine OwW.set ?_ (by exact Qz) _)|(exact HW2.out)))
    · refine Cu.span (lo:=b+1) (hi:=w2.heap.size+1) hc2 ?_ (by omega);(repeat(first|with_reducible exact Span.refl _ _ _|with_reducible refine Span.setb ?_ (by omega) (by omega)|with_reducible apply Span.alloc'|with_reducible apply Span.drew'|with_reducible apply Span.drewN'))
    · refine Span.above' (L:=w.heap.size) (M:=w2.heap.size+1) hs2 ?_ (Nat.le_refl _);(repeat(first|with_reducible exact Span.refl _ _ _|with_reducible refine Span.setb ?_ (by omega) (by omega)|with_reducible apply Span.alloc'|with_reducible apply Span.drew'|with_reducible apply Span.drewN'))
set_option maxHeartbeats 16000000 in
set_option maxRecDepth 100000 in
theorem l04Any_any (b:Nat) (w:World) (hc:Cu w b):
  Calls Tryz.prog 150 #[.pointer (some ⟨b,0,none⟩)] w fun e w'=> ∃ (g:GraphD) (ao:Option Addr) (cap:Nat),g.f1.length≤50∧e= .returned (.agg #[.int .i64 g.f0,.slice ao g.f1.length cap])∧EdgesW w' w.heap.size w'.heap.size (.slice ao g.f1.length cap) g.f1∧Cu w' b∧Span b (b+1) w w':=by
 obtain⟨i0,hi,hz0,hz1,hz2⟩:=info_parts info_Edge
 have hbl:=hc.lt
 go_enter Tryz.func150,Tryz.ntmps150
 have BR:Box (w.alloc (.cells #[.int .i64 0,.slice none 0 0] 26)) w.heap.size #[.int .i64 0,.slice none 0 0] 26:=Box.new _ _ _
 go_wp2_with fail
 refine(l01Below_any b 12 _ (hc.fr (by exact Qf)) (by omega)).mono ?_
 rintro e w1 ⟨x1,hx1,_,rfl,hc1,sp1⟩
 have hx1:=hx1 (by omega)
 have z1:=sp1.size;(try simp only[World.size_alloc]at z1)
 have BR:=BR.span sp1 (.inr (by omega))
 go_wp2_with fail
 refine(l01Below_any b 60 _ hc1 (by omega)).mono ?_
 rintro e w2 ⟨x2,hx2,_,rfl,hc2,sp2⟩
 have hx2:=hx2 (by omega)
 have z2:=sp2.size
 have BR:=BR.span sp2 (.inr (by omega))
 go_wp2_with fail
 refine(l04Graph_any b _ hc2).mono ?_
 rintro e w3 ⟨n,xs,a3,c3,hn2,hn5,hg,rfl,ho3,hc3,sp3⟩
 have z3:=sp3.size
 have BR:=BR.span sp3 (.inr (by omega))
 have hxl:xs.length≤40:=(graphB_out hg).2.1
 have HO3:=Lib.hid ho3
 clear ho3 hg
 go_wp2_with fail
 refine(l04Copy_any n xs _ _ (OwW.rd HO3.out) (by omega)).mono ?_
 rintro e w4 ⟨a4,c4,rfl,ho4,hf4⟩
 have z4:=hf4.size
 have HW:Hid (EdgesW (w4.alloc (.cells #[.int .i64 n,.slice a4 xs.length c4] 26)) w3.heap.size w4.heap.size (.slice a4 xs.length c4) xs):=Lib.hid (OwW.alloc ho4 _)
 have HW4:=Lib.hid ho4
 have hc4:Cu w4 b:=hc3.fr hf4
 have sp4:Span b (b+1) w w4:=((((Span.refl b (b+1) w).alloc' _).trans sp1).trans sp2).trans (sp3.then_fr hf4)
 have BR4:=BR.fr hf4
 have BR:=BR4.alloc (.cells #[.int .i64 n,.slice a4 xs.length c4] 26)
 have BG:Box (w4.alloc (.cells #[.int .i64 n,.slice a4 xs.length c4] 26)) w4.heap.size #[.int .i64 n,.slice a4 xs.length c4] 26:=Box.new _ _ _
 have hc5:Cu (w4.alloc (.cells #[.int .i64 n,.slice a4 xs.length c4] 26)) b:=(hc3.fr hf4).fr (by exact Qf)
 have sp5:Span b (b+1) w (w4.alloc (.cells #[.int .i64 n,.slice a4 xs.length c4] 26)):=(((((Span.refl b (b+1) w).alloc' _).trans sp1).trans sp2).trans (sp3.then_fr hf4)).alloc' _
 have FBR:=BR4.facts
 clear ho4 HO3 hc1 hc2 hc3 hc
 have hne1:w4.heap.size≠w.heap.size:=by omega
 have hne2:w.heap.size≠w4.heap.size:=by omega
 have hcase:x1=0∨x1=1∨x1=2∨2<x1:=by omega
 rcases hcase with hk|hk|hk|hk
 · subst hk
   have hm:x2%5=0∨x2%5=1∨x2%5=2∨x2%5=3∨x2%5=4:=by omega
   rcases hm with hm|hm|hm|hm|hm
   · have hmi:(x2:Int)%5=0:=by omega
     go_wp2_with fail
     refine bodyPost_ret (v:= .agg #[.int .i64 0,.slice a4 xs.length c4]) (by simp[results,Tryz.results150,go_sem, *]) rfl ⟨⟨0,xs⟩,a4,c4,by show xs.length≤_;omega,rfl,?_,?_,?_⟩;(· refine OwW.mono (lo:=w3.heap.size) (hi:=w4.heap.size) ?_ (by omega) (by simp;try omega);have hWf:=HW4.out;change OwW _ _ _ _ _ (.slice a4 xs.length c4) xs.length (xs.flatMap EdgeR.cells);change OwW _ _ _ _ _ _ _ _;(repeat(first|(with_reducible refine OwW.drewN ?_ _)|(with_reducible refine OwW.drew ?_)|(with_reducible refine OwW.alloc ?_ _)|(with_reducible refine OwW.set ?_ (by exact Qz) _)|(exact hWf))));(· refine Cu.span (lo:=b+1) (hi:=w4.heap.size+1) hc4 ?_ (by omega);(repeat(first|with_reducible exact Span.refl _ _ _|with_reducible refine Span.setb ?_ (by omega) (by omega)|with_reducible apply Span.alloc'|with_reducible apply Span.drew'|with_reducible apply Span.drewN')));(· refine Span.above' (L:=w.heap.size) (M:=w4.heap.size+1) sp4 ?_ (Nat.le_refl _);(repeat(first|with_reducible exact Span.refl _ _ _|with_reducible refine Span.setb ?_ (by omega) (by omega)|with_reducible apply Span.alloc'|with_reducible apply Span.drew'|with_reducible apply Span.drewN')))
   · have hmi:(x2:Int)%5=1:=by omega
     go_wp2_with fail
     refine bodyPost_ret (v:= .agg #[.int .i64 1,.slice a4 xs.length c4]) (by simp[results,Tryz.results150,go_sem, *]) rfl ⟨⟨1,xs⟩,a4,c4,by show xs.length≤_;omega,rfl,?_,?_,?_⟩;(· refine OwW.mono (lo:=w3.heap.size) (hi:=w4.heap.size) ?_ (by omega) (by simp;try omega);have hWf:=HW4.out;change OwW _ _ _ _ _ (.slice a4 xs.length c4) xs.length (xs.flatMap EdgeR.cells);change OwW _ _ _ _ _ _ _ _;(repeat(first|(with_reducible refine OwW.drewN ?_ _)|(with_reducible refine OwW.drew ?_)|(with_reducible refine OwW.alloc ?_ _)|(with_reducible refine OwW.set ?_ (by exact Qz) _)|(exact hWf))));(· refine Cu.span (lo:=b+1) (hi:=w4.heap.size+1) hc4 ?_ (by omega);(repeat(first|with_reducible exact Span.refl _ _ _|with_reducible refine Span.setb ?_ (by omega) (by omega)|with_reducible apply Span.alloc'|with_reducible apply Span.drew'|with_reducible apply Span.drewN')));(· refine Span.above' (L:=w.heap.size) (M:=w4.heap.size+1) sp4 ?_ (Nat.le_refl _);(repeat(first|with_reducible exact Span.refl _ _ _|with_reducible refine Span.setb ?_ (by omega) (by omega)|with_reducible apply Span.alloc'|with_reducible apply Span.drew'|with_reducible apply Span.drewN')))
   · have hmi:(x2:Int)%5=2:=by omega
     go_wp2_with fail
     refine bodyPost_ret (v:= .agg #[.int .i64 12,.slice a4 xs.length c4]) (by simp[results,Tryz.results150,go_sem, *]) rfl ⟨⟨12,xs⟩,a4,c4,by show xs.length≤_;omega,rfl,?_,?_,?_⟩;(· refine OwW.mono (lo:=w3.heap.size) (hi:=w4.heap.size) ?_ (by omega) (by simp;try omega);have hWf:=HW4.out;change OwW _ _ _ _ _ (.slice a4 xs.length c4) xs.length (xs.flatMap EdgeR.cells);change OwW _ _ _ _ _ _ _ _;(repeat(first|(with_reducible refine OwW.drewN ?_ _)|(with_reducible refine OwW.drew ?_)|(with_reducible refine OwW.alloc ?_ _)|(with_reducible refine OwW.set ?_ (by exact Qz) _)|(exact hWf))));(· refine Cu.span (lo:=b+1) (hi:=w4.heap.size+1) hc4 ?_ (by omega);(repeat(first|with_reducible exact Span.refl _ _ _|with_reducible refine Span.setb ?_ (by omega) (by omega)|with_reducible apply Span.alloc'|with_reducible apply Span.drew'|with_reducible apply Span.drewN')));(· refine Span.above' (L:=w.heap.size) (M:=w4.heap.size+1) sp4 ?_ (Nat.le_refl _);(repeat(first|with_reducible exact Span.refl _ _ _|with_reducible refine Span.setb ?_ (by omega) (by omega)|with_reducible apply Span.alloc'|with_reducible apply Span.drew'|with_reducible apply Span.drewN')))
   · have hmi:(x2:Int)%5=3:=by omega
     go_wp2_with fail
     refine bodyPost_ret (v:= .agg #[.int .i64 13,.slice a4 xs.length c4]) (by simp[results,Tryz.results150,go_sem, *]) rfl ⟨⟨13,xs⟩,a4,c4,by show xs.length≤_;omega,rfl,?_,?_,?_⟩;(· refine OwW.mono (lo:=w3.heap.size) (hi:=w4.heap.size) ?_ (by omega) (by simp;try omega);have hWf:=HW4.out;change OwW _ _ _ _ _ (.slice a4 xs.length c4) xs.length (xs.flatMap EdgeR.cells);change OwW _ _ _ _ _ _ _ _;(repeat(first|(with_reducible refine OwW.drewN ?_ _)|(with_reducible refine OwW.drew ?_)|(with_reducible refine OwW.alloc ?_ _)|(with_reducible refine OwW.set ?_ (by exact Qz) _)|(exact hWf))));(· refine Cu.span (lo:=b+1) (hi:=w4.heap.size+1) hc4 ?_ (by omega);(repeat(first|with_reducible exact Span.refl _ _ _|with_reducible refine Span.setb ?_ (by omega) (by omega)|with_reducible apply Span.alloc'|with_reducible apply Span.drew'|with_reducible apply Span.drewN')));(· refine Span.above' (L:=w.heap.size) (M:=w4.heap.size+1) sp4 ?_ (Nat.le_refl _);(repeat(first|with_reducible exact Span.refl _ _ _|with_reducible refine Span.setb ?_ (by omega) (by omega)|with_reducible apply Span.alloc'|with_reducible apply Span.drew'|with_reducible apply Span.drewN')))
   · have hmi:(x2:Int)%5=4:=by omega
     go_wp2_with fail
     refine bodyPost_ret (v:= .agg #[.int .i64 (-9223372036854775808),.slice a4 xs.length c4]) (by simp[results,Tryz.results150,go_sem, *]) rfl ⟨⟨(-9223372036854775808),xs⟩,a4,c4,by show xs.length≤_;omega,rfl,?_,?_,?_⟩;(· refine OwW.mono (lo:=w3.heap.size) (hi:=w4.heap.size) ?_ (by omega) (by simp;try omega);have hWf:=HW4.out;change OwW _ _ _ _ _ (.slice a4 xs.length c4) xs.length (xs.flatMap EdgeR.cells);change OwW _ _ _ _ _ _ _ _;(repeat(first|(with_reducible refine OwW.drewN ?_ _)|(with_reducible refine OwW.drew ?_)|(with_reducible refine OwW.alloc ?_ _)|(with_reducible refine OwW.set ?_ (by exact Qz) _)|(exact hWf))));(· refine Cu.span (lo:=b+1) (hi:=w4.heap.size+1) hc4 ?_ (by omega);(repeat(first|with_reducible exact Span.refl _ _ _|with_reducible refine Span.setb ?_ (by omega) (by omega)|with_reducible apply Span.alloc'|with_reducible apply Span.drew'|with_reducible apply Span.drewN')));(· refine Span.above' (L:=w.heap.size) (M:=w4.heap.size+1) sp4 ?_ (Nat.le_refl _);(repeat(first|with_reducible exact Span.refl _ _ _|with_reducible refine Span.setb ?_ (by omega) (by omega)|with_reducible apply Span.alloc'|with_reducible apply Span.drew'|with_reducible apply Span.drewN')))
 · subst hk
   obtain⟨q,hq⟩: ∃ q:Nat,x2%8=q:=⟨_,rfl⟩
   have hb:((UInt8.ofNat (95+q)).toNat:Int)=95+(x2:Int)%8:=by simp;omega
   obtain⟨y,hy⟩: ∃ y:EdgeR,y=⟨(x2:Int)%7,UInt8.ofNat (95+q),(x2:Int)%6⟩:=⟨_,rfl⟩
   have HC:=Lib.hid (show(xs++[y]).flatMap EdgeR.cells=xs.flatMap EdgeR.cells++[.int .i64 ((x2:Int)%7),.int .u8 (95+(x2:Int)%8),.int .i64 ((x2:Int)%6)] by rw[edgeC_snoc,hy, ← hb])
   have HL:=Lib.hid (show(xs++[y]).length=xs.length+1 by simp)
   clear hy hb hq
   go_wp2_with(at_builtin;(refine wpList_append_rd rfl _ _ 24 rfl w3.heap.size 79 i0 (.agg #[.int .i64 0,.int .u8 0,.int .i64 0]) 3 24 Tryz.underlying24 hi hz0 hz1 hz2 rfl (by decide) _ xs.length (xs.flatMap EdgeR.cells) rfl (World.ownsRow.alloc HW.out.1 _) _ 1 [.int .i64 ((x2:Int)%7),.int .u8 (95+(x2:Int)%8),.int .i64 ((x2:Int)%6)] rfl (RdS.new (by first|rfl|simp) rfl) (by simp[Value.oneCell']) (by unfold maxLen;omega) (by omega) (by exact Qz) ?_;intro ay cy w9 hown hgrow hat;have BG9:=(BG.alloc (.cells #[.int .i64 ((x2:Int)%7),.int .u8 (95+(x2:Int)%8),.int .i64 ((x2:Int)%6)] 79)).row hgrow HW.out.2 (.inr (Nat.le_refl _));have FG9:=BG9.facts;have BR9:=(BR.alloc (.cells #[.int .i64 ((x2:Int)%7),.int .u8 (95+(x2:Int)%8),.int .i64 ((x2:Int)%6)] 79)).row hgrow HW.out.2 (.inl (by omega));have FR9:=BR9.facts;clear FBR))
   have hfar:(Value.slice ay (xs++[y]).length cy).ownBlock≠some w4.heap.size:=(by rw[HL.out];intro e;rcases hat with h|h;(have:=HW4.out.2 _ (h.symm.trans e);omega);(rw[h]at e;simp at e;try omega));rw[← HC.out]at hown;have hW9:EdgesW w9 w3.heap.size w9.heap.size (.slice ay (xs++[y]).length cy) (xs++[y]):=(by have:=OwW.of_owns hown;rw[← HL.out]at this;exact this);have s9:=Span.of_gr (lo:=w3.heap.size) (hi:=w4.heap.size) hgrow (fun g hg=>HW.out.2 g hg);have z9:=s9.size;(simp only[World.size_alloc,World.size_drew]at z9);have hc9:Cu w9 b:=Cu.span (Cu.fr hc5 (by exact Qf)) s9 (by omega);have sp9:Span b (b+1) w w9:=Span.above' (Span.then_fr sp5 (by exact Qf)) s9 (by omega);refine bodyPost_ret (v:= .agg #[.int .i64 n,.slice ay (xs.length+1) cy]) (by simp[results,Tryz.results150,go_sem, *]) rfl ⟨⟨n,xs++[y]⟩,ay,cy,by show(xs++[y]).length≤_;rw[HL.out];omega,by show _=Ending.returned (.agg #[.int .i64 n,.slice ay (xs++[y]).length cy]);rw[HL.out],?_,?_,?_⟩;(· refine OwW.mono (lo:=w3.heap.size) (hi:=w9.heap.size) ?_ (by omega) (by simp);change OwW _ _ _ _ _ (.slice ay (xs++[y]).length cy) (xs++[y]).length ((xs++[y]).flatMap EdgeR.cells);(repeat(first|(with_reducible refine OwW.drewN ?_ _)|(with_reducible refine OwW.drew ?_)|(with_reducible refine OwW.alloc ?_ _)|(with_reducible refine OwW.set ?_ (.inl (by show w.heap.size<_;omega)) _)));exact⟨owns_far hW9.1 hfar _,hW9.2⟩);(· refine Cu.span (lo:=b+1) (hi:=w9.heap.size+1) hc9 ?_ (by omega);(repeat(first|with_reducible exact Span.refl _ _ _|with_reducible refine Span.setb ?_ (by omega) (by omega)|with_reducible apply Span.alloc'|with_reducible apply Span.drew'|with_reducible apply Span.drewN')));(· refine Span.above' (L:=w.heap.size) (M:=w9.heap.size+1) sp9 ?_ (Nat.le_refl _);(repeat(first|with_reducible exact Span.refl _ _ _|with_reducible refine Span.setb ?_ (by omega) (by omega)|with_reducible apply Span.alloc'|with_reducible apply Span.drew'|with_reducible apply Span.drewN')))
 · subst hk
   by_cases h0:0<xs.length
   · obtain⟨a4',b4,o4,c4',hv4,hc4,hm4,f4⟩:=(EdgesW.rd HW.out).one
     cases hv4
     obtain⟨rfl,hb4,f4⟩:=f4 h0
     obtain⟨y,hy⟩: ∃ y,edgeAt xs 0=y:=⟨_,rfl⟩
     obtain⟨g0,g1,g2⟩:=f4 0 h0
     rw[hy]at g0 g1 g2
     simp only[Nat.zero_mul,Nat.add_zero]at g0 g1 g2
     have hbl:=y.f1.toNat_lt
     have HC:=Lib.hid (show(xs++[y]).flatMap EdgeR.cells=xs.flatMap EdgeR.cells++[.int .i64 y.f0,.int .u8 (y.f1.toNat:Int),.int .i64 y.f2] by rw[edgeC_snoc])
     have HL:=Lib.hid (show(xs++[y]).length=xs.length+1 by simp)
     have gl:decide ((0:Int)<(xs.length:Int))=true:=by simp;omega
     clear f4 hy
     go_wp2_with fail
     go_region_law((refine step_append_rd (by rfl) _ _ 24 (by rfl) w3.heap.size 79 i0 (.agg #[.int .i64 0,.int .u8 0,.int .i64 0]) 3 24 Tryz.underlying24 hi hz0 hz1 hz2 rfl (by decide) (.slice (some ⟨b4,o4,none⟩) xs.length c4) xs.length (xs.flatMap EdgeR.cells) (by rfl) (by exact owns_lo (owns_ab HW.out.1 (by exact Qa)) (by exact Qz)) _ 1 [.int .i64 y.f0,.int .u8 (y.f1.toNat:Int),.int .i64 y.f2] (by rfl) (RdS.drew (RdS.new (by first|rfl|(simp;done)) rfl)) (by simp[Value.oneCell']) (by unfold maxLen;omega) (by omega) (by exact Qz) ?_;intro ay cy w9 hown hgrow hat;have BG9:=(BG.alloc _).drew.row hgrow HW.out.2 (.inr (Nat.le_refl _));have FG9:=BG9.facts))
     all_goals
      have BR9:=(BR.alloc _).drew.row hgrow HW.out.2 (.inl (by omega))
      have FR9:=BR9.facts
      go_wp2_with fail
      have hfar:(Value.slice ay (xs++[y]).length cy).ownBlock≠some w4.heap.size:=(by rw[HL.out];intro e;rcases hat with h|h;(have:=HW4.out.2 _ (h.symm.trans e);omega);(rw[h]at e;simp at e;try omega));rw[← HC.out]at hown;have hW9:EdgesW w9 w3.heap.size w9.heap.size (.slice ay (xs++[y]).length cy) (xs++[y]):=(by have:=OwW.of_owns hown;rw[← HL.out]at this;exact this);have s9:=Span.of_gr (lo:=w3.heap.size) (hi:=w4.heap.size) hgrow (fun g hg=>HW.out.2 g hg);have z9:=s9.size;(simp only[World.size_alloc,World.size_drew]at z9);have hc9:Cu w9 b:=Cu.span (Cu.fr hc5 (by exact Qf)) s9 (by omega);have sp9:Span b (b+1) w w9:=Span.above' (Span.then_fr sp5 (by exact Qf)) s9 (by omega);refine bodyPost_ret (v:= .agg #[.int .i64 n,.slice ay (xs.length+1) cy]) (by simp[results,Tryz.results150,go_sem, *]) rfl ⟨⟨n,xs++[y]⟩,ay,cy,by show(xs++[y]).length≤_;rw[HL.out];omega,by show _=Ending.returned (.agg #[.int .i64 n,.slice ay (xs++[y]).length cy]);rw[HL.out],?_,?_,?_⟩;(· refine OwW.mono (lo:=w3.heap.size) (hi:=w9.heap.size) ?_ (by omega) (by simp);change OwW _ _ _ _ _ (.slice ay (xs++[y]).length cy) (xs++[y]).length ((xs++[y]).flatMap EdgeR.cells);(repeat(first|(with_reducible refine OwW.drewN ?_ _)|(with_reducible refine OwW.drew ?_)|(with_reducible refine OwW.alloc ?_ _)|(with_reducible refine OwW.set ?_ (.inl (by show w.heap.size<_;omega)) _)));exact⟨owns_far hW9.1 hfar _,hW9.2⟩);(· refine Cu.span (lo:=b+1) (hi:=w9.heap.size+1) hc9 ?_ (by omega);(repeat(first|with_reducible exact Span.refl _ _ _|with_reducible refine Span.setb ?_ (by omega) (by omega)|with_reducible apply Span.alloc'|with_reducible apply Span.drew'|with_reducible apply Span.drewN')));(· refine Span.above' (L:=w.heap.size) (M:=w9.heap.size+1) sp9 ?_ (Nat.le_refl _);(repeat(first|with_reducible exact Span.refl _ _ _|with_reducible refine Span.setb ?_ (by omega) (by omega)|with_reducible apply Span.alloc'|with_reducible apply Span.drew'|with_reducible apply Span.drewN')))
   · have gl:decide ((0:Int)<(xs.length:Int))=false:=by rw[decide_eq_false_iff_not];omega
     go_wp2_with fail
     refine bodyPost_ret (v:= .agg #[.int .i64 n,.slice a4 xs.length c4]) (by simp[results,Tryz.results150,go_sem, *]) rfl ⟨⟨n,xs⟩,a4,c4,by show xs.length≤_;omega,rfl,?_,?_,?_⟩;(· refine OwW.mono (lo:=w3.heap.size) (hi:=w4.heap.size) ?_ (by omega) (by simp;try omega);have hWf:=HW4.out;change OwW _ _ _ _ _ (.slice a4 xs.length c4) xs.length (xs.flatMap EdgeR.cells);change OwW _ _ _ _ _ _ _ _;(repeat(first|(with_reducible refine OwW.drewN ?_ _)|(with_reducible refine OwW.drew ?_)|(with_reducible refine OwW.alloc ?_ _)|(with_reducible refine OwW.set ?_ (by exact Qz) _)|(exact hWf))));(· refine Cu.span (lo:=b+1) (hi:=w4.heap.size+1) hc4 ?_ (by omega);(repeat(first|with_reducible exact Span.refl _ _ _|with_reducible refine Span.setb ?_ (by omega) (by omega)|with_reducible apply Span.alloc'|with_reducible apply Span.drew'|with_reducible apply Span.drewN')));(· refine Span.above' (L:=w.heap.size) (M:=w4.heap.size+1) sp4 ?_ (Nat.le_refl _);(repeat(first|with_reducible exact Span.refl _ _ _|with_reducible refine Span.setb ?_ (by omega) (by omega)|with_reducible apply Span.alloc'|with_reducible apply Span.drew'|with_reducible apply Span.drewN')))
 · have k0:((x1:Int)==0)=false:=by rw[beq_eq_false_iff_ne];omega
   have k1:((x1:Int)==1)=false:=by rw[beq_eq_false_iff_ne];omega
   have k2:((x1:Int)==2)=false:=by rw[beq_eq_false_iff_ne];omega
   go_wp2_with fail
   refine bodyPost_ret (v:= .agg #[.int .i64 n,.slice a4 xs.length c4]) (by simp[results,Tryz.results150,go_sem, *]) rfl ⟨⟨n,xs⟩,a4,c4,by show xs.length≤_;omega,rfl,?_,?_,?_⟩;(· refine OwW.mono (lo:=w3.heap.size) (hi:=w4.heap.size) ?_ (by omega) (by simp;try omega);have hWf:=HW4.out;change OwW _ _ _ _ _ (.slice a4 xs.length c4) xs.length (xs.flatMap EdgeR.cells);change OwW _ _ _ _ _ _ _ _;(repeat(first|(with_reducible refine OwW.drewN ?_ _)|(with_reducible refine OwW.drew ?_)|(with_reducible refine OwW.alloc ?_ _)|(with_reducible refine OwW.set ?_ (by exact Qz) _)|(exact hWf))));(· refine Cu.span (lo:=b+1) (hi:=w4.heap.size+1) hc4 ?_ (by omega);(repeat(first|with_reducible exact Span.refl _ _ _|with_reducible refine Span.setb ?_ (by omega) (by omega)|with_reducible apply Span.alloc'|with_reducible apply Span.drew'|with_reducible apply Span.drewN')));(· refine Span.above' (L:=w.heap.size) (M:=w4.heap.size+1) sp4 ?_ (Nat.le_refl _);(repeat(first|with_reducible exact Span.refl _ _ _|with_reducible refine Span.setb ?_ (by omega) (by omega)|with_reducible apply Span.alloc'|with_reducible apply Span.drew'|with_reducible apply Span.drewN')))
set_option maxHeartbeats 1000000 in
theorem l01Pick_any (b g:Nat) (xs:List ByteArray) (T:TypeId) (w:World) (hc:Cu w b) (hb:Box w g (xs.map Value.string).toArray T) (hg:b<g) (hx:0<xs.length) (hl:xs.length≤256):
  Calls Tryz.prog 216 #[.pointer (some ⟨b,0,none⟩),.slice (some ⟨g,0,none⟩) xs.length xs.length] w fun e w'=> ∃ k,k<xs.length∧e= .returned (.string (sAt xs k))∧Cu w' b∧Span b (b+1) w w':=by
 go_enter Tryz.func216,Tryz.ntmps216
 go_wp2_with fail
 refine(l01Below_any b _ _ hc (by omega)).mono ?_
 rintro e w1 ⟨k,hk1,hk2,rfl,hc1,sp1⟩
 have hk3:k<xs.length:=by have:=hk1 (by omega);omega
 have c0:w1.cell? ⟨g,k,none⟩=some (.string (sAt xs k)):=by
  rw[(hb.span sp1 (.inr (by omega))).cell]
  simp[sAt,List.getD,List.getElem?_eq_getElem hk3,hk3]
 clear hb
 go_wp2_with fail
 go_ret
 exact⟨k,hk3,rfl,hc1,sp1⟩
set_option maxHeartbeats 1000000 in
theorem l01PickInt_any (b g:Nat) (xs:List Int) (T:TypeId) (w:World) (hc:Cu w b) (hb:Box w g (xs.map (Value.int .i64)).toArray T) (hg:b<g) (hx:0<xs.length) (hl:xs.length≤256):
  Calls Tryz.prog 77 #[.pointer (some ⟨b,0,none⟩),.slice (some ⟨g,0,none⟩) xs.length xs.length] w fun e w'=> ∃ k,k<xs.length∧e= .returned (.int .i64 (iAt xs k))∧Cu w' b∧Span b (b+1) w w':=by
 go_enter Tryz.func77,Tryz.ntmps77
 go_wp2_with fail
 refine(l01Below_any b _ _ hc (by omega)).mono ?_
 rintro e w1 ⟨k,hk1,hk2,rfl,hc1,sp1⟩
 have hk3:k<xs.length:=by have:=hk1 (by omega);omega
 have c0:w1.cell? ⟨g,k,none⟩=some (.int .i64 (iAt xs k)):=by
  rw[(hb.span sp1 (.inr (by omega))).cell]
  simp[iAt,List.getD,List.getElem?_eq_getElem hk3,hk3]
 clear hb
 go_wp2_with fail
 go_ret
 exact⟨k,hk3,rfl,hc1,sp1⟩
set_option maxHeartbeats 1000000 in
theorem l06Text_any (b:Nat) (w:World) (hc:Cu w b):
  Calls Tryz.prog 180 #[.pointer (some ⟨b,0,none⟩)] w fun e w'=> ∃ k,k<14∧e= .returned (.string (sAt paTexts k))∧Cu w' b∧Span b (b+1) w w':=by
 have hbl:=hc.lt
 go_enter Tryz.func180,Tryz.ntmps180
 go_wp2_with fail
 refine(l01Pick_any b w.heap.size paTexts 9 _ (hc.fr (by exact Qf)) (Box.new _ _ _) hbl (by decide) (by decide)).mono ?_
 rintro e w1 ⟨k,hk,rfl,hc1,sp1⟩
 obtain⟨nm,hnm⟩: ∃ nm,sAt paTexts k=nm:=⟨_,rfl⟩
 have HN:=Lib.hid hnm
 rw[hnm]
 clear hnm
 go_wp2_with fail
 go_ret
 exact⟨k,hk,by rw[HN.out];try rfl,hc1,((Span.refl b (b+1) w).alloc' _).trans sp1⟩
set_option maxHeartbeats 2000000 in
theorem l01Place_any (b:Nat) (n:Int) (w:World) (hc:Cu w b) (h0:0≤n) (hn:n≤1048576):
  Calls Tryz.prog 74 #[.pointer (some ⟨b,0,none⟩),.int .i64 n] w fun e w'=> ∃ p:Int,e= .returned (.int .i64 p)∧Cu w' b∧Span b (b+1) w w':=by
 have hbl:=hc.lt
 have u1:IntKind.i64.wrap (n+1)=n+1:=IntWalk.i64_in _ (by omega)
 go_enter Tryz.func74,Tryz.ntmps74
 go_wp2_with fail
 refine(l01Once_any b _ _ hc (by omega)).mono ?_
 rintro e w1 ⟨x,rfl,hc1,sp1⟩
 have hs1:=sp1.size
 cases x
 · go_wp2_with fail
   refine(l01Below_any b _ _ hc1 (by omega)).mono ?_
   rintro e w2 ⟨y,_,_,rfl,hc2,sp2⟩
   go_wp2_with fail
   go_ret
   exact⟨_,rfl,hc2,sp1.trans sp2⟩
 · go_wp2_with fail
   refine(l01PickInt_any b w1.heap.size [-1,n,n+1,9223372036854775807,-9223372036854775808] 3 _ (hc1.fr (by exact Qf)) (Box.new _ _ _) (by omega) (by simp) (by simp)).mono ?_
   rintro e w2 ⟨j,hj,rfl,hc2,sp2⟩
   go_wp2_with fail
   go_ret
   exact⟨_,rfl,hc2,(sp1.alloc' _).trans sp2⟩
end Go.Proofs.YtjnahjgncmcmdaaGreat