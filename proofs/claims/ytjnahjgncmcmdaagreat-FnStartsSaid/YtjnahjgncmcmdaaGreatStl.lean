/- laws.FnStarts: its walk. No condition but the reading of the draw. -/
import Derived.Test.YtjnahjgncmcmdaaGreatDwf
import Derived.Test.YtjnahjgncmcmdaaGreatStp
import Derived.Test.YtjnahjgncmcmdaaGreatSta2
import Derived.Test.YtjnahjgncmcmdaaGreatSwk
import Derived.Deep.RegionHeld3
namespace Go.Proofs.YtjnahjgncmcmdaaGreat
open Go.RowKit
set_option linter.unusedVariables false
set_option linter.unusedSimpArgs false
set_option maxHeartbeats 16000000 in
set_option maxRecDepth 100000 in
theorem fnStarts_any (ao:Option Addr) (n cap:Nat) (w:World) (hy:ByR w w.heap.size ao n cap):
  Calls Tryz.prog 4 #[.slice ao n cap] w fun e w'=>e= .returned (.bool true)∧Fr w w':=by
 have HY:=Lib.hid hy
 have hn:n≤9223372036854775807:=by have:=hy.1;have:=hy.2.1;omega
 clear hy
 by_cases hbig:n≤1048576
 · go_enter Tryz.func4,Tryz.ntmps4
   go_wp2_with(go_at_call 9;refine(bigS_any _ _ _ _ hn).mono ?_;rintro e w0 ⟨rfl,rfl⟩)
   refine(DrawCase_any ao n cap _ HY.out).mono ?_
   intro e w1 h1
   obtain⟨g,q,gv,qv,rfl,hg,hg2,hq,hp,hf1⟩:=h1
   obtain⟨ae,ce,ao0,co,ax,cx,af,cf,rfl,rfl⟩:=hp.val
   have hr1:=hp w1 (Ab.refl _ _)
   obtain⟨U,hU⟩: ∃ U,U=((w1.alloc (.cells #[.int .i64 g.f0,.slice ae g.f1.length ce] 26)).alloc (.cells #[.bool q.f0,.slice ao0 q.f1.length co,.slice ax q.f2.length cx,.slice af q.f3.length cf] 31)):=⟨_,rfl⟩
   obtain⟨H,hH⟩: ∃ H,w1.heap.size=H:=⟨_,rfl⟩
   have BL:Box U H #[.int .i64 g.f0,.slice ae g.f1.length ce] 26:=by rw[hU, ← hH];exact Box.alloc (Box.new _ _ _) _
   have BQ:Box U (H+1) #[.bool q.f0,.slice ao0 q.f1.length co,.slice ax q.f2.length cx,.slice af q.f3.length cf] 31:=by rw[hU, ← hH];exact Box.new' (by simp)
   have hfU:Fr w1 U:=by rw[hU];repeat(first|(with_reducible exact Fr.refl _)|(with_reducible assumption)|(with_reducible refine Fr.drewN ?_ _)|(with_reducible refine Fr.drew ?_)|(with_reducible refine Fr.alloc ?_ _)|(with_reducible refine Fr.setCell ?_ (by exact Qz) _)|(with_reducible refine Fr.trans ?_ (by with_reducible assumption)))
   have hfwU:Fr w U:=hf1.trans hfU
   have HG:=Lib.hid (hr1.1.fr hfU)
   have HQ:=Lib.hid (hr1.2.fr hfU)
   have zU:w.heap.size≤H∧H+2≤U.heap.size:=by have:=hf1.size;have:=BQ.lt;omega
   have hx4:q.f2.length≤4:=(qryB_atoms hq.ok).1.2
   have hgo:=graphB_out hg
   have hqk:=hq.ok
   have hqf:=hq.few
   have HST:Hid (∀ N:Nat,1≤N→staC g q (N:Int) N=q.f2.length*g.f0.toNat):=Lib.hid fun N h=>staC_all hg hqk h
   have HSL:Hid (∀ (N j k:Nat),j≤k→staC g q (N:Int) j≤staC g q (N:Int) k):=Lib.hid fun N j k h=>staC_le h
   have hgf:2≤g.f0∧g.f0≤12:=⟨hg2,by have:=hgo.1;omega⟩
   have CS:Hid (∀ (k n:Int) w',Fr U w'→Calls Tryz.prog 16 #[.agg #[.int .i64 g.f0,.slice ae g.f1.length ce],.agg #[.bool q.f0,.slice ao0 q.f1.length co,.slice ax q.f2.length cx,.slice af q.f3.length cf],.int .i64 k,.int .i64 n] w' fun e w''=> ∃ ao cap,e= .returned (.slice ao (staL g q k n).length cap)∧WalksW w'' w'.heap.size w''.heap.size (.slice ao (staL g q k n).length cap) (staL g q k n)∧Fr w' w''):=Lib.hid fun k n w' h=>implStartWalks_any _ _ g q k n w' (HG.out.fr h) (HQ.out.fr h) (by omega)
   clear hp hr1 hg hgo hq hqk hqf hg2
   have FL:=BL.facts
   have FQ:=BQ.facts
   go_wp2_with fail
   (try rw[← hU])
   (try rw[hH])
   refine(DrawPlaces_any ao n cap _ (HY.out.here hfwU)).mono ?_
   rintro e w2 ⟨ps,ap,cp,hpl,hpr,rfl,hP,hf2⟩
   clear hU
   have BL2:=BL.fr hf2
   have BQ2:=BQ.fr hf2
   have hfU2:=hf2
   have hfw2:=hfwU.trans hf2
   have z2:=hf2.size
   obtain⟨ap',bp,op,cp',hv,hcp,hmp,fp⟩:=hP.rd.one
   rw[hpl]at hv
   cases hv
   obtain⟨rfl,hbp,fp⟩:=fp (by omega)
   have c0:=fp 0 (by omega)
   obtain⟨y,hy⟩: ∃ y,iAt ps 0=y:=⟨_,rfl⟩
   have hyr:0≤y∧y<10000:=by
    rw[← hy]
    refine hpr _ ?_
    unfold iAt
    simp[List.getD,List.getElem?_eq_getElem (show 0<ps.length by omega)]
   rw[hy,Nat.add_zero]at c0
   obtain⟨N,hN⟩: ∃ N:Nat,N=1+(y%4).toNat:=⟨_,rfl⟩
   have hN4:1≤N∧N≤4:=by omega
   have hw1:IntKind.i64.wrap (1+y%4)=(N:Int):=by rw[IntWalk.i64_in _ (by omega)];omega
   have hy0:0≤y:=hyr.1
   clear hP hpr fp hy hpl hN hyr hf2 FL FQ
   have FL2:=BL2.facts
   have FQ2:=BQ2.facts
   go_wp2_with fail
   clear c0 hw1 hy0
   go_loopw [6,7] (fun c i wr=> ∃ K:Nat,K≤N∧i= .int .i64 K∧c= .int .i64 (staC g q N K)∧Fr w2 wr) (fun _ i _=>N-(intOf i).toNat)
   case atStart=>exact⟨0,Nat.zero_le _,rfl,rfl,Fr.refl _⟩
   case round=>
    obtain⟨K,hK,rfl,rfl,hfr⟩:=hrel
    have BLr:=BL2.fr hfr
    have BQr:=BQ2.fr hfr
    have FLr:=BLr.facts
    have FQr:=BQr.facts
    have hfUr:=hfU2.trans hfr
    have hfwr:=hfw2.trans hfr
    have zr:=hfr.size
    clear FL2 FQ2
    by_cases hlt:K<N
    · obtain⟨L,hL⟩: ∃ L,staL g q (K:Int) (N:Int)=L:=⟨_,rfl⟩
      have HLA:Hid (∀ x∈L,x.f1=x.f2∧x.f3=0∧owR x.f2 N=K∧0≤x.f2):=Lib.hid fun x hx=>staL_at (g:=g) (q:=q) (by rw[hL];exact hx)
      have HCN:Hid (staC g q N (K+1)=staC g q N K+L.length):=Lib.hid (by rw[staC,hL])
      have hcl:staC g q N K+L.length≤1000:=by
       have h1:=HSL.out N (K+1) N (by omega)
       have h2:=HST.out N (by omega)
       rw[HCN.out,h2]at h1
       have:q.f2.length*g.f0.toNat≤4*12:=Nat.mul_le_mul hx4 (by omega)
       omega
      have CS2:=Lib.hid (CS.out (K:Int) (N:Int))
      rw[hL]at CS2
      clear hL
      go_wp2_with fail
      refine(CS2.out _ (by exact Qf)).mono ?_
      rintro e w3 ⟨aL,cL,rfl,hW3,hf3⟩
      have BL3:=BLr.fr hf3
      have BQ3:=BQr.fr hf3
      have z3:=hf3.size
      have hfr3:=hfr.trans hf3
      have hfw3:=hfwr.trans hf3
      have hWR:WalksR w3 (.slice aL L.length cL) L:=OwW.rd hW3
      obtain⟨a3,b3,o3,c3,hv3,hc3,hm3,f3⟩:=hWR.one
      cases hv3
      have F3:=Lib.hid f3
      clear CS2 f3 hW3 hWR FLr FQr
      go_wp2_with fail
      go_loopw [9] (fun i wq=> ∃ j:Nat,j≤L.length∧i= .int .i64 j∧Fr w3 wq) (fun i _=>L.length-(intOf i).toNat)
      case atStart=>exact⟨0,Nat.zero_le _,rfl,Fr.refl _⟩
      case round=>
       obtain⟨j,hj,rfl,hfq⟩:=hrel
       have BLq:=BL3.fr hfq
       have BQq:=BQ3.fr hfq
       have FLq:=BLq.facts
       have FQq:=BQq.facts
       have zq:=hfq.size
       by_cases hjl:j<L.length
       · obtain⟨rfl,hb3,f3⟩:=F3.out (by omega)
         obtain⟨x,hx⟩: ∃ x,walkAt L j=x:=⟨_,rfl⟩
         obtain⟨x1,x2,x3,x4⟩:=HLA.out x (by rw[← hx];simp[walkAt,List.getD,List.getElem?_eq_getElem hjl])
         obtain⟨x0,v,v2,st⟩:=x
         simp only[]at x1 x2 x3 x4
         subst x1 x2
         obtain⟨d0,d1,d2,d3⟩:=f3 j hjl
         rw[hx]at d0 d1 d2 d3
         simp only[]at d0 d1 d2 d3
         have R1: ∀ w',Sf wr w'→w'.cell? ⟨b3,o3+j*4+1,none⟩=some (.int .i64 v):=fun w' h=>((hfq.trans h.out).cell (p:=⟨b3,_,none⟩) hb3).trans d1
         have R2: ∀ w',Sf wr w'→w'.cell? ⟨b3,o3+j*4+2,none⟩=some (.int .i64 v):=fun w' h=>((hfq.trans h.out).cell (p:=⟨b3,_,none⟩) hb3).trans d2
         have R3: ∀ w',Sf wr w'→w'.cell? ⟨b3,o3+j*4+3,none⟩=some (.int .i64 0):=fun w' h=>((hfq.trans h.out).cell (p:=⟨b3,_,none⟩) hb3).trans d3
         have CO:Hid (∀ w',Calls Tryz.prog 17 #[.int .i64 v,.int .i64 (N:Int)] w' fun e w''=>e= .returned (.int .i64 K)∧Fr w' w''):=Lib.hid fun w'=>by rw[← x3];exact specOwnerOf_any v N w'
         clear d0 d1 d2 d3 f3 hx x3
         go_wp2_with fail
         go_region_held3 (fun w'=>Sf wr w') ((refine Sf.mk ?_;repeat(first|(with_reducible exact Fr.refl _)|(with_reducible assumption)|(with_reducible refine Fr.drewN ?_ _)|(with_reducible refine Fr.drew ?_)|(with_reducible refine Fr.alloc ?_ _)|(with_reducible refine Fr.setCell ?_ (by exact Qz) _)|(with_reducible refine Fr.trans ?_ (by with_reducible assumption))))) (first|(go_at_call 17;refine(CO.out _).mono ?_;rintro e w10 ⟨rfl,hf10⟩))
         all_goals
          have hfr10:Fr wr w10:=by exact Qf
          clear R1 R2 R3 CO FLq FQq
          go_wp2_with fail
          go_roundw
          case rel=>exact⟨j+1,by omega,by go_num,hfq.trans hfr10⟩
          case measure=>(simp[intOf];omega)
       · have HC2:=HCN.out
         have hcw:IntKind.i64.wrap ((staC g q N K:Int)+(L.length:Int))=(staC g q N (K+1):Int):=by rw[IntWalk.i64_in _ (by omega),HC2];push_cast;rfl
         clear HC2
         go_wp2_with fail
         go_roundw
         case rel=>exact⟨K+1,by omega,by go_num,rfl,hfr3.trans hfq⟩
         case measure=>(simp[intOf];omega)
    · obtain rfl:K=N:=by omega
      have hcnt:(staC g q K K:Int)=g.f0*(q.f2.length:Int):=by
       rw[HST.out K (by omega)]
       push_cast
       rw[Int.mul_comm,Int.toNat_of_nonneg (by omega)]
      have hbnd:0≤g.f0*(q.f2.length:Int)∧g.f0*(q.f2.length:Int)≤48:=by
       rw[← hcnt]
       have h2:=HST.out K (by omega)
       have:q.f2.length*g.f0.toNat≤4*12:=Nat.mul_le_mul hx4 (by omega)
       omega
      have hwm:IntKind.i64.wrap (g.f0*(q.f2.length:Int))=g.f0*(q.f2.length:Int):=IntWalk.i64_in _ (by omega)
      have HCT:=Lib.hid hcnt
      clear hcnt
      go_wp2_with fail
      refine(DrawStartWalks_any ao n cap _ (HY.out.here hfwr)).mono ?_
      rintro e w3 ⟨g2,q2,gv2,qv2,k2,m2,rfl,hqb2,hp2,hf3⟩
      obtain⟨ae2,ce2,ao2,co2,ax2,cx2,af2,cf2,rfl,rfl⟩:=hp2.val
      have hr2:=hp2 w3 (Ab.refl _ _)
      have BL3:=BLr.fr hf3
      have BQ3:=BQr.fr hf3
      have hfw3:=hfwr.trans hf3
      obtain⟨V,hV⟩: ∃ V,V=((w3.alloc (.cells #[.int .i64 g2.f0,.slice ae2 g2.f1.length ce2] 26)).alloc (.cells #[.bool q2.f0,.slice ao2 q2.f1.length co2,.slice ax2 q2.f2.length cx2,.slice af2 q2.f3.length cf2] 31)):=⟨_,rfl⟩
      obtain⟨J,hJ⟩: ∃ J,w3.heap.size=J:=⟨_,rfl⟩
      have BM:Box V J #[.int .i64 g2.f0,.slice ae2 g2.f1.length ce2] 26:=by rw[hV, ← hJ];exact Box.alloc (Box.new _ _ _) _
      have BP:Box V (J+1) #[.bool q2.f0,.slice ao2 q2.f1.length co2,.slice ax2 q2.f2.length cx2,.slice af2 q2.f3.length cf2] 31:=by rw[hV, ← hJ];exact Box.new' (by simp)
      have hfV:Fr w3 V:=by rw[hV];repeat(first|(with_reducible exact Fr.refl _)|(with_reducible assumption)|(with_reducible refine Fr.drewN ?_ _)|(with_reducible refine Fr.drew ?_)|(with_reducible refine Fr.alloc ?_ _)|(with_reducible refine Fr.setCell ?_ (by exact Qz) _)|(with_reducible refine Fr.trans ?_ (by with_reducible assumption)))
      have hfwV:=hfw3.trans hfV
      have BL4:=BL3.fr hfV
      have BQ4:=BQ3.fr hfV
      have HG2:=Lib.hid (hr2.1.fr hfV)
      have HQ2:=Lib.hid (hr2.2.fr hfV)
      obtain⟨L2,hL2⟩: ∃ L,staL g2 q2 k2 m2=L:=⟨_,rfl⟩
      have C1:Hid (∀ w',Fr V w'→Calls Tryz.prog 16 #[.agg #[.int .i64 g2.f0,.slice ae2 g2.f1.length ce2],.agg #[.bool q2.f0,.slice ao2 q2.f1.length co2,.slice ax2 q2.f2.length cx2,.slice af2 q2.f3.length cf2],.int .i64 k2,.int .i64 m2] w' fun e w''=> ∃ ao cap,e= .returned (.slice ao L2.length cap)∧WalksW w'' w'.heap.size w''.heap.size (.slice ao L2.length cap) L2∧Fr w' w''):=Lib.hid fun w' h=>by rw[← hL2];exact implStartWalks_any _ _ g2 q2 k2 m2 w' (HG2.out.fr h) (HQ2.out.fr h) (by omega)
      have C2:Hid (∀ w',Fr V w'→Calls Tryz.prog 20 #[.agg #[.int .i64 g2.f0,.slice ae2 g2.f1.length ce2],.agg #[.bool q2.f0,.slice ao2 q2.f1.length co2,.slice ax2 q2.f2.length cx2,.slice af2 q2.f3.length cf2],.int .i64 k2,.int .i64 m2] w' fun e w''=> ∃ ao cap,e= .returned (.slice ao L2.length cap)∧WalksW w'' w'.heap.size w''.heap.size (.slice ao L2.length cap) L2∧Fr w' w''):=Lib.hid fun w' h=>by rw[← hL2];exact specStartWalks_any _ _ g2 q2 k2 m2 w' (HG2.out.fr h) (HQ2.out.fr h) (by omega)
      have RG: ∀ w',Sf V w'→ ∀ o,w'.cell? ⟨J,o,none⟩=(#[.int .i64 g2.f0,.slice ae2 g2.f1.length ce2]:Array Value)[o]? :=fun w' h o=>(BM.fr h.out).cell o
      have RQ: ∀ w',Sf V w'→ ∀ o,w'.cell? ⟨J+1,o,none⟩=(#[.bool q2.f0,.slice ao2 q2.f1.length co2,.slice ax2 q2.f2.length cx2,.slice af2 q2.f3.length cf2]:Array Value)[o]? :=fun w' h o=>(BP.fr h.out).cell o
      have RA: ∀ w',Sf V w'→ ∀ o,w'.cell? ⟨H,o,none⟩=(#[.int .i64 g.f0,.slice ae g.f1.length ce]:Array Value)[o]? :=fun w' h o=>(BL4.fr h.out).cell o
      have RB: ∀ w',Sf V w'→ ∀ o,w'.cell? ⟨H+1,o,none⟩=(#[.bool q.f0,.slice ao0 q.f1.length co,.slice ax q.f2.length cx,.slice af q.f3.length cf]:Array Value)[o]? :=fun w' h o=>(BQ4.fr h.out).cell o
      have hct:=HCT.out
      clear hp2 hr2 hL2 FLr FQr BL3 BQ3
      go_wp2_with fail
      (try rw[← hV])
      (try rw[hJ])
      clear hV
      go_region_held3 (fun w'=>Sf V w') ((refine Sf.mk ?_;repeat(first|(with_reducible exact Fr.refl _)|(with_reducible assumption)|(with_reducible refine Fr.drewN ?_ _)|(with_reducible refine Fr.drew ?_)|(with_reducible refine Fr.alloc ?_ _)|(with_reducible refine Fr.setCell ?_ (by exact Qz) _)|(with_reducible refine Fr.trans ?_ (by with_reducible assumption))))) (first|(go_at_call 16;refine(C1.out _ (by exact Qf)).mono ?_;rintro e w10 ⟨aP,cP,rfl,hP,hf10⟩)|(go_at_call 20;refine(C2.out _ (by exact Qf)).mono ?_;rintro e w11 ⟨aS,cS,rfl,hS,hf11⟩)|(go_at_call 19;refine(sameWalks_same _ _ L2 _ (hP.rd.fr (by exact Qf)) (hS.rd.fr (by exact Qf))).mono ?_;rintro e w12 ⟨rfl,hf12⟩))
      all_goals
       have hfin:Fr w w12:=by exact Qf
       clear RG RQ RA RB C1 C2 hP hS
       go_wp2_with fail
       go_ret
       exact⟨rfl,hfin⟩
 · have hnb:1048576<n:=by omega
   go_enter Tryz.func4,Tryz.ntmps4
   go_wp2_with(go_at_call 9;refine(bigS_any _ _ _ _ hn).mono ?_;rintro e w0 ⟨rfl,rfl⟩)
   go_ret
   exact⟨rfl,Fr.refl _⟩
end Go.Proofs.YtjnahjgncmcmdaaGreat
