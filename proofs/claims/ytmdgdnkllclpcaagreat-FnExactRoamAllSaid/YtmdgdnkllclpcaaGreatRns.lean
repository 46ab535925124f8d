/- RoamNew of the reference. Conditions: bounds on what comes in. -/
import Derived.Test.YtmdgdnkllclpcaaGreatRnw
import Derived.Test.YtmdgdnkllclpcaaGreatGSta
import Derived.Test.YtmdgdnkllclpcaaGreatGNWalkSS2
namespace Go.Proofs.YtmdgdnkllclpcaaGreat
open Go.RowKit
set_option linter.unusedVariables false
set_option linter.unusedSimpArgs false
theorem rd_none (w:World) (ao:Option Addr):WalksR w (.slice ao 0 0) []:=⟨rfl,ao,0,rfl,Nat.le_refl _,by unfold maxLen;omega,fun h=>absurd h (by simp)⟩
set_option maxHeartbeats 16000000 in
set_option maxRecDepth 100000 in
theorem specRoamNew_any (gv qv:Value) (g:GraphD) (q:QueryD) (n:Int) (w:World) (hg:GraphRd w gv g) (hq:QueryRd w qv q) (hn:q.bulk≤1048576):
  Calls Tryz.prog 38 #[gv,qv,.int .i64 n] w fun e w'=>RnPost w (newD g q n) (newOk g q n) e w':=by
 obtain⟨gb,hgb⟩: ∃ gb,graphB g=gb:=⟨_,rfl⟩
 obtain⟨qb,hqb⟩: ∃ qb,qryD q=qb:=⟨_,rfl⟩
 obtain⟨nb,hnb⟩: ∃ nb,decide (1≤n∧n≤8)=nb:=⟨_,rfl⟩
 have hok:newOk g q n=(gb&&(qb&&nb)):=by unfold newOk;rw[hgb,hqb,hnb]
 obtain⟨i0,hi,hz0,hz1,hz2⟩:=info_parts info_WalkS
 obtain⟨j0,hj,hy0,hy1,hy2⟩:=info_parts info_Parcel
 have HG:=Lib.hid hg;have HQ:=Lib.hid hq
 have CG:Hid (∀ w',Fr w w'→Calls Tryz.prog 81 #[gv] w' fun e w''=>e= .returned (.bool gb)∧Fr w' w''):=Lib.hid fun w' h=>by obtain⟨u,rfl,he⟩:=HG.out;rw[← hgb];exact specGraphOk_any u g.f0 g.f1 w' (he.fr h)
 have CQ:Hid (∀ w',Fr w w'→Calls Tryz.prog 55 #[qv] w' fun e w''=>e= .returned (.bool qb)∧Fr w' w''):=Lib.hid fun w' h=>by rw[← hqb];exact specQueryOk_d qv q w' (HQ.out.fr h) hn
 have CN:Hid (∀ w',Calls Tryz.prog 56 #[.int .i64 n,.int .i64 1,.int .i64 8] w' fun e w''=>e= .returned (.bool nb)∧Fr w' w''):=Lib.hid fun w'=>by
  rw[← hnb]
  refine(l01In_any _ _ _ _).mono ?_
  rintro e w'' ⟨rfl,rfl⟩
  exact⟨rfl,Fr.refl _⟩
 obtain⟨R,hR⟩: ∃ R,newD g q n=R:=⟨_,rfl⟩
 obtain⟨O,hO⟩: ∃ O,newOk g q n=O:=⟨_,rfl⟩
 have HNO:Hid ((gb&&(qb&&nb))=false→R=⟨[],[]⟩∧O=false):=Lib.hid fun h=>⟨hR.symm.trans (newD_no (hok.trans h)),hO.symm.trans (hok.trans h)⟩
 have HYES:Hid (gb=true→qb=true→nb=true→O=true∧1≤n∧n≤8):=Lib.hid fun h1 h2 h3=>⟨by rw[← hO,hok,h1,h2,h3];rfl,of_decide_eq_true (hnb.trans h3)⟩
 have HRK:Hid (O=true→ ∀ N:Nat,n=(N:Int)→R=newK g q (N:Int) N):=Lib.hid fun h N e=>by subst e;rw[← hR];exact newD_yes (hO.trans h)
 rw[hR,hO]
 have CP:Hid (∀ (k:Int) w',Fr w w'→Calls Tryz.prog 99 #[gv,.int .i64 k,.int .i64 n] w' fun e w''=>PrtPost w' g k n e w''):=Lib.hid fun k w' h=>by obtain⟨u,rfl,he⟩:=HG.out;exact specPartOf_any g u k n w' (he.fr h)
 have CS:Hid (∀ (k:Int) w',Fr w w'→Calls Tryz.prog 32 #[gv,qv,.int .i64 k,.int .i64 n] w' fun e w''=> ∃ ao cap,e= .returned (.slice ao (staL g q k n).length cap)∧WalksW w'' w'.heap.size w''.heap.size (.slice ao (staL g q k n).length cap) (staL g q k n)∧Fr w' w''):=Lib.hid fun k w' h=>specStartWalks_any gv qv g q k n w' (HG.out.fr h) (HQ.out.fr h) hn
 have CT:Hid (gb=true→qb=true→ ∀ (k:Nat) pv av vv sv w',GraphRd w' pv (partG g k n)→NfasR w' av (autL q)→WalksR w' vv []→WalksR w' sv (staL g q k n)→Calls Tryz.prog 90 #[pv,av,.int .i64 k,.int .i64 n,vv,sv] w' fun e w''=>TkPost w' (takeN g q n k) e w''):=Lib.hid fun h1 h2 k pv av vv sv w' hp ha hv hs=>by
  obtain⟨u,rfl,he⟩:=hp
  have hgp:=partG_ok (hgb.trans h1) (k:Int) n
  exact l20Take_any u av vv sv g.f0 k n (partG g k n).f1 (autL q) [] (staL g q k n) _ w' he ha hv hs (graphB_out hgp).2.1 (autL_few q) (take_on hgp (staL g q k n)) (fun x _=>take_few hgp x) (by simp) (by have:=staL_few g q k n;omega) (take_tk hgp (hqb.trans h2) k n [] (staL g q k n))
 have CF:Hid (qb=true→ ∀ w',Fr w w'→Calls Tryz.prog 57 #[qv] w' fun e w''=> ∃ ao cap,e= .returned (.slice ao (autL q).length cap)∧NfasW w'' w'.heap.size w''.heap.size (.slice ao (autL q).length cap) (autL q)∧Fr w' w''):=Lib.hid fun h2 w' h=>l20Nfas_d qv q w' (HQ.out.fr h) hn (hqb.trans h2)
 have HTF:Hid (∀ k,(takeN g q n k).1.length≤13872∧(takeN g q n k).2.length≤13872):=Lib.hid (takeN_few g q n)
 have CA:Hid (∀ (k:Nat) (s1:List WalkR) v w',s1.length≤13872→WalksR w' v s1→Calls Tryz.prog 100 #[v,.int .i64 n] w' fun e w''=>PaPost w' (parAll s1 n) e w''):=Lib.hid fun k s1 v w' hs hv=>(specParcelsOf_any v s1 n w' hv (by omega)).mono fun e w'' h=>by obtain⟨a,c,rfl,h1,h2⟩:=h;exact PaPost.of h1 h2
 obtain⟨ue,rfl,he⟩:=hg;obtain⟨ae,be,oe,ce,rfl,hce,hme,fe⟩:=he.one;obtain⟨u1,u2,u3,rfl,r1,r2,r3⟩:=hq;obtain⟨ao,bo,oo,co,rfl,hco,hmo,ko⟩:=r1.one;obtain⟨ax,bx,ox,cx,rfl,hcx,hmx,kx⟩:=r2.one;obtain⟨af,bf,of,cf,rfl,hcf,hmf,kf⟩:=r3.one;clear he fe r1 r2 r3 ko kx kf
 clear hgb hqb hnb hok HG HQ hn hR hO
 go_enter Tryz.func38,Tryz.ntmps38
 go_wp2_with fail
 refine(CG.out _ (by exact Qf)).mono ?_
 rintro e w1 ⟨rfl,hf1⟩
 have BG1:Box w1 w.heap.size #[.int .i64 g.f0,.slice ae g.f1.length ce] 55:=Box.fr (Box.alloc (Box.alloc (Box.new' rfl) _) _) hf1
 have BQ1:Box w1 (w.heap.size+1) #[.bool q.f0,.slice ao q.f1.length co,.slice ax q.f2.length cx,.slice af q.f3.length cf] 35:=Box.fr (Box.alloc (Box.new' (by simp)) _) hf1
 have BR1:Box w1 (w.heap.size+1+1) #[.slice none 0 0,.slice none 0 0] 72:=Box.fr (Box.new' (by simp)) hf1
 have FR1:=BR1.facts
 have FQ1:=BQ1.facts
 have z1:=hf1.size
 (try simp only[World.size_alloc]at z1)
 cases gb
 · obtain⟨h1,h2⟩:=HNO.out (by first|rfl|simp)
   have H1:=Lib.hid h1;have H2:=Lib.hid h2
   clear h1 h2
   go_wp2_with fail
   rw[H1.out,H2.out]
   refine bodyPost_ret (v:= .tuple #[.agg #[.slice none 0 0,.slice none 0 0],.bool false]) (by simp[results,Tryz.results38,go_sem, *]) rfl ?_
   exact RnPost.no _ _ (by exact Qf)
 go_wp2_with fail
 refine(CQ.out _ (by exact Qf)).mono ?_
 rintro e w2 ⟨rfl,hf2⟩
 have BG2:=BG1.fr hf2
 have BQ2:=BQ1.fr hf2
 have BR2:=BR1.fr hf2
 clear FR1 FQ1 BG1 BQ1 BR1
 have FR2:=BR2.facts
 have z2:=hf2.size
 cases qb
 · obtain⟨h1,h2⟩:=HNO.out (by first|rfl|simp)
   have H1:=Lib.hid h1;have H2:=Lib.hid h2
   clear h1 h2
   go_wp2_with fail
   rw[H1.out,H2.out]
   refine bodyPost_ret (v:= .tuple #[.agg #[.slice none 0 0,.slice none 0 0],.bool false]) (by simp[results,Tryz.results38,go_sem, *]) rfl ?_
   exact RnPost.no _ _ (by exact Qf)
 go_wp2_with fail
 refine(CN.out _).mono ?_
 rintro e w3 ⟨rfl,hf3⟩
 have BG3:=BG2.fr hf3
 have BQ3:=BQ2.fr hf3
 have BR3:=BR2.fr hf3
 clear FR2 BG2 BQ2 BR2
 have FR3:=BR3.facts
 have z3:=hf3.size
 cases nb
 · obtain⟨h1,h2⟩:=HNO.out (by first|rfl|simp)
   have H1:=Lib.hid h1;have H2:=Lib.hid h2
   clear h1 h2
   go_wp2_with fail
   rw[H1.out,H2.out]
   refine bodyPost_ret (v:= .tuple #[.agg #[.slice none 0 0,.slice none 0 0],.bool false]) (by simp[results,Tryz.results38,go_sem, *]) rfl ?_
   exact RnPost.no _ _ (by exact Qf)
 obtain⟨hok,hn1,hn8⟩:=HYES.out (by first|rfl|trivial) (by first|rfl|trivial) (by first|rfl|trivial)
 obtain⟨N,rfl⟩:=Int.eq_ofNat_of_zero_le (show 0≤n by omega)
 have HOK:=Lib.hid hok
 have HD:=Lib.hid (HRK.out hok N rfl)
 have hfw3:Fr w w3:=by exact Qf
 have hw3:w.heap.size+3≤w3.heap.size:=by omega
 have CT:=Lib.hid (CT.out (by first|rfl|trivial) (by first|rfl|trivial))
 have CF:=Lib.hid (CF.out (by first|rfl|trivial))
 have FQ3:=BQ3.facts
 clear hok HNO HYES HRK CG CQ CN FR3 hf1 hf2 hf3 z1 z2
 go_wp2_with fail
 refine(CF.out _ hfw3).mono ?_
 rintro e w4 ⟨aa,ca,rfl,hA,hf4⟩
 have HNF:=Lib.hid (NfasW.rd hA)
 have BG4:=BG3.fr hf4
 have BQ4:=BQ3.fr hf4
 have BR4:=BR3.fr hf4
 have hfw4:Fr w w4:=hfw3.trans hf4
 have z4:=hf4.size
 clear hA FQ3 BG3 BQ3 BR3 CF
 go_wp2_with fail
 obtain⟨b,hb⟩: ∃ b,w4.heap.size=b:=⟨_,rfl⟩
 rw[hb]
 have BO0:Box (w4.alloc (.cells #[.slice none 0 0,.slice none 0 0] 72)) b #[.slice none 0 0,.slice none 0 0] 72:=Box.new' hb.symm
 have hbw:w.heap.size+3≤b:=by omega
 go_loopw [10] (fun i wr=> ∃ (k:Nat) (a1:Option Addr) (c1:Nat) (a2:Option Addr) (c2:Nat) (L1:List (Itm (List WalkR))) (L2:List (Itm ParcelD)),k≤N∧i= .int .i64 k∧Hid (L1.map Itm.x=(newK g q (N:Int) k).f0)∧Hid (L2.map Itm.x=(newK g q (N:Int) k).f1)∧Hid (RoamV wr (b+1) wr.heap.size (.slice a1 L1.length c1) (.slice a2 L2.length c2) L1 L2)∧Box wr w.heap.size #[.int .i64 g.f0,.slice ae g.f1.length ce] 55∧Box wr (w.heap.size+1) #[.bool q.f0,.slice ao q.f1.length co,.slice ax q.f2.length cx,.slice af q.f3.length cf] 35∧Box wr (w.heap.size+1+1) #[.slice none 0 0,.slice none 0 0] 72∧Box wr b #[.slice a1 L1.length c1,.slice a2 L2.length c2] 72∧Fr w wr∧Fr w4 wr) (fun i _=>N-(intOf i).toNat)
 case atStart=>exact⟨0,none,0,none,0,[],[],Nat.zero_le _,rfl,Lib.hid rfl,Lib.hid rfl,Lib.hid (RoamV.nil _ _ _),BG4.alloc _,BQ4.alloc _,BR4.alloc _,BO0,by exact Qf,by exact Qf⟩
 case round=>
  clear BG4 BQ4 BR4 BO0
  obtain⟨k,a1,c1,a2,c2,L1,L2,hk,rfl,HL1,HL2,HV,BG,BQ,BR,BO,hfr,hf4r⟩:=hrel
  have hbr:=BO.lt
  by_cases hlt:k<N
  · have hl1:L1.length≤8:=by have h:=congrArg List.length HL1.out;rw[List.length_map,newK_len]at h;omega
    have hl2:L2.length≤887808:=by
     have h:=congrArg List.length HL2.out
     rw[List.length_map]at h
     have h2:=(newK_cnt g q (N:Int) k).1
     have h3:k*110976≤8*110976:=Nat.mul_le_mul_right _ (by omega)
     omega
    obtain⟨⟨s0,s1⟩,hts⟩: ∃ t,takeN g q (N:Int) k=t:=⟨_,rfl⟩
    have hsf:=HTF.out k
    rw[hts]at hsf
    obtain⟨hs0,hs1⟩:=hsf
    simp only[]at hs0 hs1
    have CT2:Hid (∀ pv vv sv w',Fr wr w'→GraphRd w' pv (partG g k N)→WalksR w' vv []→WalksR w' sv (staL g q k N)→Calls Tryz.prog 90 #[pv,.slice aa (autL q).length ca,.int .i64 k,.int .i64 N,vv,sv] w' fun e w''=>TkPost w' (s0,s1) e w''):=Lib.hid fun pv vv sv w' h hp hv hs=>by rw[← hts];exact CT.out k pv _ vv sv w' hp (HNF.out.fr (hf4r.trans h)) hv hs
    have HN1:Hid ((newK g q (N:Int) (k+1))=⟨(newK g q (N:Int) k).f0++[s0],(newK g q (N:Int) k).f1++parAll s1 N⟩):=Lib.hid (by rw[newK,hts])
    have CA2:=Lib.hid (CA.out k s1)
    obtain⟨ps,hps⟩: ∃ ps,parAll s1 (N:Int)=ps:=⟨_,rfl⟩
    have hpl:ps.length≤110976:=by have:=(parAll_few s1 (N:Int)).1;rw[hps]at this;omega
    rw[hps]at HN1 CA2
    have RG: ∀ w',Sf wr w'→ ∀ o,w'.cell? ⟨w.heap.size,o,none⟩=(#[.int .i64 g.f0,.slice ae g.f1.length ce]:Array Value)[o]? :=fun w' h o=>(BG.fr h.out).cell o
    have RQ: ∀ w',Sf wr w'→ ∀ o,w'.cell? ⟨w.heap.size+1,o,none⟩=(#[.bool q.f0,.slice ao q.f1.length co,.slice ax q.f2.length cx,.slice af q.f3.length cf]:Array Value)[o]? :=fun w' h o=>(BQ.fr h.out).cell o
    clear hts hps
    go_wp2_with fail
    go_region_held3 (fun w'=>Sf wr w') ((refine Sf.mk ?_;repeat(first|(with_reducible exact Fr.refl _)|(with_reducible assumption)|(with_reducible refine Fr.drewN ?_ _)|(with_reducible refine Fr.drew ?_)|(with_reducible refine Fr.alloc ?_ _)|(with_reducible refine Fr.setCell ?_ (by exact Qz) _)|(with_reducible refine Fr.trans ?_ (by with_reducible assumption))))) (first|(go_at_call 99;refine(CP.out _ _ (by exact Qf)).mono ?_;rintro e w10 ⟨ap,cp,rfl,hP,hf10⟩)|(go_at_call 32;refine(CS.out _ _ (by exact Qf)).mono ?_;rintro e w11 ⟨aS,cS,rfl,hS,hf11⟩)|(go_at_call 90;refine(CT2.out _ _ _ _ (by exact Qf) ⟨_,rfl,hP.rd.fr (by exact Qf)⟩ (rd_none _ _) (hS.rd.fr (by exact Qf))).mono ?_;rintro e w12 ⟨x0,y0,x1,y1,l0,k0,l1,k1,rfl,p0,p1,hord,hf12⟩))
    all_goals
     have z10:=hf10.size
     have z11:=hf11.size
     have z12:=hf12.size
     (try simp only[World.size_alloc,World.size_drew,World.heap_drewN]at z10 z11 z12 hord)
     have hfr12:Fr wr w12:=by exact Qf
     have hfw12:Fr w w12:=by exact Qf
     have hf4w12:Fr w4 w12:=hf4r.trans hfr12
     have BG12:=BG.fr hfr12
     have BQ12:=BQ.fr hfr12
     have BR12:=BR.fr hfr12
     have BO12:=BO.fr hfr12
     have FO12:=BO12.facts
     have HV12:=Lib.hid (HV.out.fr hfr12)
     have P0:=Lib.hid p0
     have P1:=Lib.hid p1
     obtain⟨hb0,hb1,hb2,hb3,hb4,hb5,_⟩:=hord
     clear hP hS CT2 RG RQ HV BG BQ BR BO p0 p1 hf10 hf11 hf12
     go_wp2_with(at_builtin;refine wpList_append_rd rfl _ _ 69 rfl 0 37 i0 (.slice none 0 0) 1 24 Tryz.underlying69 hi hz0 hz1 hz2 rfl (by decide) (.slice a1 L1.length c1) L1.length (L1.map Itm.u).flatten rfl (World.ownsRow.alloc HV12.out.own1 _) _ 1 [.slice x0 s0.length y0] rfl (RdS.new (by first|rfl|(simp;done)) rfl) (by simp[Value.oneCell']) (by unfold maxLen;omega) (by omega) (by exact Qz) ?_;intro a13 c13 w13 hown hgrow hat;have BO13:Box w13 b _ _:=Box.row (Box.alloc BO12 _) hgrow HV12.out.in1 (.inl (by omega));have FO13:=BO13.facts)
     have BO13:Box w13 b _ _:=Box.row (Box.alloc BO12 _) hgrow HV12.out.in1 (.inl (by omega))
     have BG13:Box w13 w.heap.size _ _:=Box.row (Box.alloc BG12 _) hgrow HV12.out.in1 (.inl (by omega))
     have BQ13:Box w13 (w.heap.size+1) _ _:=Box.row (Box.alloc BQ12 _) hgrow HV12.out.in1 (.inl (by omega))
     have BR13:Box w13 (w.heap.size+1+1) _ _:=Box.row (Box.alloc BR12 _) hgrow HV12.out.in1 (.inl (by omega))
     have hf4w13:Fr w4 w13:=Fr.app (w:=w12.alloc (.cells #[.slice x0 s0.length y0] 37)) (hf4w12.alloc _) hgrow HV12.out.in1 (by omega)
     have hfw13:Fr w w13:=Fr.app (w:=w12.alloc (.cells #[.slice x0 s0.length y0] 37)) (by exact Qf) hgrow HV12.out.in1 (by omega)
     have z13:=hgrow.size
     (try simp only[World.size_alloc]at z13)
     have hin1:=HV12.out.in1
     have P13:WalksW w13 l1 k1 (.slice x1 s1.length y1) s1:=OwW.tch (OwW.alloc P1.out (.cells #[.slice x0 s0.length y0] 37)) (Tch.of_gr (B:=fun g=>(Value.slice a1 L1.length c1).ownBlock=some g) hgrow fun i h=>h) (fun g g1 g2 e=>by have:=hin1 g e;omega)
     have hV13:=RoamV.add1 (w:=w12.alloc (.cells #[.slice x0 s0.length y0] 37)) (HV12.out.fr (by exact Qf)) (i:=⟨[.slice x0 s0.length y0],l0,k0,s0⟩) rfl (walk_row (OwW.alloc P0.out _)) (by show wr.heap.size≤l0;omega) (by show l0≤k0;omega) (by show k0≤_;simp;omega) (by omega) hown hgrow hat
     have HLN1:=Lib.hid (show(L1++[(⟨[.slice x0 s0.length y0],l0,k0,s0⟩:Itm (List WalkR))]).length=L1.length+1 by simp)
     have HX1:Hid ((L1++[(⟨[.slice x0 s0.length y0],l0,k0,s0⟩:Itm (List WalkR))]).map Itm.x=(newK g q (N:Int) (k+1)).f0):=Lib.hid (by rw[List.map_append,HL1.out,HN1.out];rfl)
     have HVz:=Lib.hid (hV13.set (p:=⟨b,0,none⟩) (.inl (by show b<b+1;omega)) (.slice a13 (L1.length+1) c13))
     have HPz:=Lib.hid (OwW.set P13 (p:=⟨b,0,none⟩) (.inl (by show b<l1;omega)) (.slice a13 (L1.length+1) c13))
     have BOz:=BO13.set_to (i:=0) (v:= .slice a13 (L1.length+1) c13) (X:= #[.slice a13 (L1.length+1) c13,.slice a2 L2.length c2]) rfl
     have BGz:=BG13.far' (q:=b) (i:=0) (by omega) (.slice a13 (L1.length+1) c13)
     have BQz:=BQ13.far' (q:=b) (i:=0) (by omega) (.slice a13 (L1.length+1) c13)
     have BRz:=BR13.far' (q:=b) (i:=0) (by omega) (.slice a13 (L1.length+1) c13)
     have hf4z:Fr w4 (w13.setCell ⟨b,0,none⟩ (.slice a13 (L1.length+1) c13)):=Fr.setCell hf4w13 (by show w4.heap.size≤b;omega) _
     have hfwz:Fr w (w13.setCell ⟨b,0,none⟩ (.slice a13 (L1.length+1) c13)):=Fr.setCell hfw13 (by show w.heap.size≤b;omega) _
     have hzz:(w13.setCell ⟨b,0,none⟩ (.slice a13 (L1.length+1) c13)).heap.size=w13.heap.size:=by simp
     generalize hwz:w13.setCell ⟨b,0,none⟩ (.slice a13 (L1.length+1) c13)=wz at HVz HPz BOz BGz BQz BRz hfwz hf4z hzz ⊢
     clear hwz hV13 P13 BO13 BG13 BQ13 BR13 BO12 BG12 BQ12 BR12 FO12 HV12 P0 P1 hown hgrow hat hin1 HL1
     have FOz:=BOz.facts
     go_region_law(first|(go_simp;go_at_call 100;refine(CA2.out _ _ (by omega) (HPz.out.rd.fr (by exact Qf))).mono ?_;rintro e w15 ⟨M,a5,c5,rfl,hMx,hMr,hM1,hMe,hf15⟩;have hml:M.length≤110976:=(by have h:=congrArg List.length hMx;rw[List.length_map]at h;omega);have z15:=hf15.size;(try simp only[World.size_drew,World.heap_drewN]at z15);have HMX:=Lib.hid hMx;have HMR:=Lib.hid hMr;have HME:=Lib.hid hMe;clear hMx hMr hMe;have BO15:=BOz.fr (show Fr wz w15 by exact Qf);have FO15:=BO15.facts)|(refine step_append_rd (by rfl) _ _ 70 (by rfl) 0 155 j0 (.agg #[.int .i64 0,.slice none 0 0]) 2 32 Tryz.underlying70 hj hy0 hy1 hy2 rfl (by decide) (.slice a2 L2.length c2) L2.length (L2.map Itm.u).flatten (by rfl) ((HVz.out.fr (by exact Qf)).own2) (.slice a5 M.length c5) M.length (M.map Itm.u).flatten (by rfl) (HMR.out.fr (by exact Qf)) hM1 (by unfold maxLen;omega) (by omega) (by exact Qz) ?_;intro a6 c6 w16 hown6 hgrow6 hat6;have BO16:Box w16 b _ _:=Box.row (BO15.fr (by exact Qf)) hgrow6 HVz.out.in2 (.inl (by omega));have FO16:=BO16.facts))
     all_goals
      have hfz15:Fr wz w15:=by exact Qf
      have BG16:Box w16 w.heap.size _ _:=Box.row (BGz.fr (by exact Qf)) hgrow6 HVz.out.in2 (.inl (by omega))
      have BQ16:Box w16 (w.heap.size+1) _ _:=Box.row (BQz.fr (by exact Qf)) hgrow6 HVz.out.in2 (.inl (by omega))
      have BR16:Box w16 (w.heap.size+1+1) _ _:=Box.row (BRz.fr (by exact Qf)) hgrow6 HVz.out.in2 (.inl (by omega))
      have hf4w16:Fr w4 w16:=Fr.app (a:=w4) (hf4z.trans (by exact Qf)) hgrow6 HVz.out.in2 (by omega)
      have hfw16:Fr w w16:=Fr.app (a:=w) (hfwz.trans (by exact Qf)) hgrow6 HVz.out.in2 (by omega)
      have hV16:=RoamV.add2 (hg:=hgrow6) (hown:=hown6) (hat:=hat6) (h:=HVz.out.fr (by exact Qf)) (hM:=HME.out.fr ParcelEW.keeps (by exact Qf)) (by exact Qz) (by exact Qz) (by omega) (by exact Qz)
      have HLN2:=Lib.hid (show(L2++M).length=L2.length+M.length by simp)
      have HX2:Hid ((L2++M).map Itm.x=(newK g q (N:Int) (k+1)).f1):=Lib.hid (by rw[List.map_append,HL2.out,HN1.out,HMX.out])
      have HV16:=Lib.hid hV16
      clear hV16 hown6 hgrow6 hat6 HVz HPz HL2 HMX HMR HME hM1 HN1
      go_wp2_with fail
      go_roundw
      case rel=>exact⟨k+1,a13,c13,a6,c6,_,_,by omega,by go_num,HX1,HX2,Lib.hid (by rw[HLN1.out,HLN2.out];exact(HV16.out.set (p:=⟨b,1,none⟩) (.inl (by show b<b+1;omega)) _).mono (Nat.le_refl _) (by simp)),BG16.far' (by omega) _,BQ16.far' (by omega) _,BR16.far' (by omega) _,by rw[HLN1.out,HLN2.out];exact BO16.set_to rfl,Fr.setCell hfw16 (by show w.heap.size≤b;omega) _,Fr.setCell hf4w16 (by show w4.heap.size≤b;omega) _⟩
      case measure=>(simp[intOf];omega)
  · obtain rfl:k=N:=by omega
    have FO:=BO.facts
    have FR:=BR.facts
    have e1:L1.length=(newK g q (k:Int) k).f0.length:=by rw[← HL1.out];simp
    have e2:L2.length=(newK g q (k:Int) k).f1.length:=by rw[← HL2.out];simp
    have hX:=((HV.out.set (p:=⟨w.heap.size+1+1,0,none⟩) (.inl (by show w.heap.size+1+1<b+1;omega)) (.slice a1 L1.length c1)).set (p:=⟨w.heap.size+1+1,1,none⟩) (.inl (by show w.heap.size+1+1<b+1;omega)) (.slice a2 L2.length c2)).x HL1.out HL2.out
    have HX:=Lib.hid hX
    have E1:=Lib.hid e1
    have E2:=Lib.hid e2
    clear hX e1 e2 HL1 HL2 HV
    go_wp2_with fail
    rw[HD.out,HOK.out]
    refine bodyPost_ret (v:= .tuple #[.agg #[.slice a1 L1.length c1,.slice a2 L2.length c2],.bool true]) (by simp[results,Tryz.results38,go_sem, *]) rfl ?_
    exact⟨a1,c1,a2,c2,by rw[← E1.out, ← E2.out],⟨a1,c1,a2,c2,by rw[← E1.out, ← E2.out],by rw[← E1.out, ← E2.out];exact HX.out.mono (by omega) (by simp)⟩,by exact Qf⟩
end Go.Proofs.YtmdgdnkllclpcaaGreat
