/- Texts in one: Tkn, Tkw, Pgl, Par, Par2, NWalkSS2. -/
import Derived.Test.YtmdgdnkllclpcaaGreatGSta
import Derived.Carry
import Derived.Deep.RegionHeld3
import Derived.Test.YtmdgdnkllclpcaaGreatGParP
import Derived.Test.YtmdgdnkllclpcaaGreatGPrt
import Derived.Test.YtmdgdnkllclpcaaGreatGTch
namespace Go.Proofs.YtmdgdnkllclpcaaGreat
open Go.RowKit
set_option linter.unusedVariables false
set_option linter.unusedSimpArgs false
theorem onQ_no {es:List EdgeR} {nfs:List NfaD} {x:WalkR} (h:decide (0≤x.f0∧x.f0<(nfs.length:Int))=false):onQ es nfs x=[]:=onQ_out (of_decide_eq_false h)
set_option maxHeartbeats 32000000 in
set_option maxRecDepth 100000 in
theorem implTake_ok (gv qv sv lv:Value) (g:GraphD) (q:QueryD) (k n:Int) (seen list:List WalkR) (r:List WalkR×List WalkR) (w:World) (hg:GraphRd w gv g) (hq:QueryRd w qv q) (hs:WalksR w sv seen) (hl:WalksR w lv list) (hn:q.bulk≤1048576)
  (hgb:graphB g=true) (hqb:qryD q=true) (hcs: ∀ j,j<(autL q).length→(nAt (autL q) j).f1.length≤262144) (hon: ∀ x∈potW list,∀ y∈onQ g.f1 (autL q) x,y∈potW list) (hB: ∀ x∈potW list,(onQ g.f1 (autL q) x).length≤960)
  (hss:seen.length≤1048576) (hll:list.length≤1048576) (hr:Tk (ownW k n) (onQ g.f1 (autL q)) list seen [] r):
  Calls Tryz.prog 35 #[gv,qv,.int .i64 k,.int .i64 n,sv,lv] w fun e w'=>TkPost w r e w':=by
 obtain⟨i0,hi,hz0,hz1,hz2⟩:=info_parts info_Walk
 have hmm:= @run_makeMap Tryz.prog
 have HG:=Lib.hid hg;have HQ:=Lib.hid hq;have HS:=Lib.hid hs;have HL:=Lib.hid hl;have HR:=Lib.hid hr;have HON:=Lib.hid hon;have HBB:=Lib.hid hB
 have hpl:=potW_len list
 obtain⟨pl,hple⟩: ∃ pl,(potW list).length=pl:=⟨_,rfl⟩
 rw[hple]at hpl
 have HPL:=Lib.hid hple
 have hg40:=(graphB_out hgb).2.1
 have hx4:q.f2.length≤4:=(qryB_atoms hqb).1.2
 have hal:(autL q).length=q.f2.length:=autL_len q
 have CG:Hid (∀ w',Fr w w'→Calls Tryz.prog 84 #[gv] w' fun e w''=>e= .returned (.bool true)∧Fr w' w''):=Lib.hid fun w' h=>by obtain⟨u,rfl,he⟩:=HG.out;rw[← hgb];exact implGraphOk_any u g.f0 g.f1 w' (he.fr h)
 have CQ:Hid (∀ w',Fr w w'→Calls Tryz.prog 62 #[qv] w' fun e w''=>e= .returned (.bool true)∧Fr w' w''):=Lib.hid fun w' h=>by rw[← hqb];exact implQueryOk_d qv q w' (HQ.out.fr h) hn
 have CA:Hid (∀ w',Fr w w'→Calls Tryz.prog 64 #[qv] w' fun e w''=> ∃ ao cap,e= .returned (.slice ao (autL q).length cap)∧NfasW w'' w'.heap.size w''.heap.size (.slice ao (autL q).length cap) (autL q)∧Fr w' w''):=Lib.hid fun w' h=>by
  obtain⟨u1,u2,u3,rfl,r1,r2,r3⟩:=HQ.out.fr h
  obtain⟨a1,c1,rfl,_⟩:=RdS.val r1
  obtain⟨a3,c3,rfl,_⟩:=RdS.val r3
  exact automataOf_any q.f0 _ u2 _ q.f2 w' ⟨_,_,_,rfl⟩ ⟨_,_,_,rfl⟩ r2 (by omega) (fun k hk=>(atoms_sz hn k hk).2.1)
 have CW:Hid (∀ (av:Value) (k0:Nat) (x1 x2 x3:Int) w',Fr w w'→NfasR w' av (autL q)→k0<(autL q).length→Calls Tryz.prog 85 #[gv,av,.agg #[.int .i64 (k0:Int),.int .i64 x1,.int .i64 x2,.int .i64 x3]] w' fun e w''=> ∃ ao cap,e= .returned (.slice ao (onQ g.f1 (autL q) ⟨k0,x1,x2,x3⟩).length cap)∧WalksW w'' w'.heap.size w''.heap.size (.slice ao (onQ g.f1 (autL q) ⟨k0,x1,x2,x3⟩).length cap) (onQ g.f1 (autL q) ⟨k0,x1,x2,x3⟩)∧Fr w' w''):=Lib.hid fun av k0 x1 x2 x3 w' h ha hk=>by
  obtain⟨u,rfl,he⟩:=HG.out.fr h
  rw[onQ_in hk]
  exact walksOn_any u av g.f0 g.f1 (autL q) k0 x1 x2 x3 w' he ha hk hg40 (hcs k0 hk)
 obtain⟨ue,rfl,he⟩:=hg
 obtain⟨ae,be,oe,ce,rfl,hce,hme,fe⟩:=he.one
 obtain⟨u1,u2,u3,rfl,r1,r2,r3⟩:=hq
 obtain⟨ao,bo,oo,co,rfl,hco,hmo,ko⟩:=r1.one
 obtain⟨ax,bx,ox,cx,rfl,hcx,hmx,kx⟩:=r2.one
 obtain⟨af,bf,of,cf,rfl,hcf,hmf,kf⟩:=r3.one
 have CI:Hid (∀ (j:Int) w',Calls Tryz.prog 63 #[.agg #[.bool q.f0,.slice ao q.f1.length co,.slice ax q.f2.length cx,.slice af q.f3.length cf],.int .i64 j] w' fun e w''=>e= .returned (.bool (decide (0≤j∧j<((autL q).length:Int))))∧Fr w' w''):=Lib.hid fun j w'=>by rw[hal];exact isAtom_any q.f0 _ _ ax q.f2.length cx j w' ⟨_,_,_,rfl⟩ ⟨_,_,_,rfl⟩
 have HSR:=Lib.hid hs
 obtain⟨asv,bs,os,csv,rfl,hcsv,hmsv,ks⟩:=hs.one
 obtain⟨al,cl,rfl,hal2⟩:=RdS.val hl
 have KS:=Lib.hid ks
 clear he fe r1 r2 r3 ko kx kf hs hl ks hal2 hgb hqb hcs hr hon hB hn hple HG HQ
 obtain⟨nfs,hnfs⟩: ∃ nfs,autL q=nfs:=⟨_,rfl⟩
 rw[hnfs]at CA CW CI HR HON HBB hal
 have HAL:=Lib.hid hal
 clear hal
 have HNF:=Lib.hid hnfs
 clear hnfs
 go_enter Tryz.func35,Tryz.ntmps35
 go_wp2_with fail
 refine(cloneWalk_w _ seen _ (HSR.out.fr (by exact Qf)) hss).mono ?_
 rintro e w1 ⟨a1,c1,rfl,h1,hf1⟩
 have BG1:Box w1 w.heap.size #[.int .i64 g.f0,.slice ae g.f1.length ce] 55:=Box.fr (Box.alloc (Box.new _ _ _) _) hf1
 have BQ1:Box w1 (w.heap.size+1) #[.bool q.f0,.slice ao q.f1.length co,.slice ax q.f2.length cx,.slice af q.f3.length cf] 35:=Box.fr (Box.new' (by simp)) hf1
 have FG1:=BG1.facts
 have FQ1:=BQ1.facts
 have z1:=hf1.size
 (try simp only[World.size_alloc]at z1)
 have HO1:=Lib.hid h1
 clear h1
 go_wp2_with fail
 refine(CG.out _ (by exact Qf)).mono ?_
 rintro e w2 ⟨rfl,hf2⟩
 have BG2:=BG1.fr hf2
 have BQ2:=BQ1.fr hf2
 have FG2:=BG2.facts
 have FQ2:=BQ2.facts
 have z2:=hf2.size
 go_wp2_with fail
 refine(CQ.out _ (by exact Qf)).mono ?_
 rintro e w3 ⟨rfl,hf3⟩
 have BG3:=BG2.fr hf3
 have BQ3:=BQ2.fr hf3
 clear FG1 FQ1 FG2 FQ2
 have FG3:=BG3.facts
 have FQ3:=BQ3.facts
 have z3:=hf3.size
 go_wp2_with fail
 refine(CA.out _ (by exact Qf)).mono ?_
 rintro e wa ⟨aa,ca,rfl,hA,hf4⟩
 have BG4:=BG3.fr hf4
 have BQ4:=BQ3.fr hf4
 clear FG3 FQ3
 have z4:=hf4.size
 have hfa:Fr w wa:=by exact Qf
 have HA:=Lib.hid hA
 have HO4:=Lib.hid (OwW.fr (OwW.fr (OwW.fr HO1.out hf2) hf3) hf4)
 clear hA HO1 BG1 BQ1 BG2 BQ2 BG3 BQ3 CG CQ CA
 go_wp2_with fail
 have H0:Hid (TkM w wa ((wa.alloc (.map #[] 0)).alloc (.map #[] 0)) w3.heap.size 0 #[.int .i64 g.f0,.slice ae g.f1.length ce] #[.bool q.f0,.slice ao q.f1.length co,.slice ax q.f2.length cx,.slice af q.f3.length cf] 55 35 [] [] seen [] (.slice none 0 0) (.slice a1 seen.length c1) (.slice none 0 0)):=Lib.hid (by
  refine⟨⟨World.ownsRow_nil _ _ _ _,owns_lo (owns_fr HO4.out.1 (by exact Qf)) (by simp),World.ownsRow_nil _ _ _ _,fun g h=>(by cases h),fun g h=>(by cases h),fun g _ h=>(by cases h)⟩,Off.none _ _ _ _,fun g h=>?_,Off.none _ _ _ _,((Ab.refl _ _).alloc _).alloc _,⟨[],(MapS.new wa).fr (by exact Qf),fun x=>Iff.rfl⟩,⟨[],by have:=MapS.new (wa.alloc (.map #[] 0));simpa using this,fun x=>Iff.rfl⟩,(BG4.alloc _).alloc _,(BQ4.alloc _).alloc _,by exact Qf,by omega,z4⟩
  have:=(HO4.out.2 g h).2
  left;omega)
 clear HO4 BG4 BQ4
 go_loopw [41] (fun i wr=> ∃ kk:Nat,kk≤seen.length∧i= .int .i64 kk∧Hid (TkM w wa wr w3.heap.size kk #[.int .i64 g.f0,.slice ae g.f1.length ce] #[.bool q.f0,.slice ao q.f1.length co,.slice ax q.f2.length cx,.slice af q.f3.length cf] 55 35 (seen.take kk) [] seen [] (.slice none 0 0) (.slice a1 seen.length c1) (.slice none 0 0))) (fun i _=>seen.length-(intOf i).toNat)
 case atStart=>exact⟨0,Nat.zero_le _,rfl,H0⟩
 case round=>
  clear H0
  obtain⟨kk,hk,rfl,HM⟩:=hrel
  have hfr:=HM.out.fr
  by_cases hlt:kk<seen.length
  · obtain⟨rfl,hb,hf⟩:=KS.out (by omega)
    obtain⟨g0,g1,g2,g3⟩:=hf kk hlt
    have hmem: ∀ y,y∈walkAt seen kk::seen.take kk↔y∈seen.take (kk+1):=fun y=>by
     have e:seen.take (kk+1)=seen.take kk++[walkAt seen kk]:=by
      rw[List.take_succ_eq_append_getElem hlt]
      simp[walkAt,List.getD,hlt]
     rw[e,List.mem_cons,List.mem_append,List.mem_singleton]
     exact Or.comm
    obtain⟨x,hx⟩: ∃ x,walkAt seen kk=x:=⟨_,rfl⟩
    rw[hx]at g0 g1 g2 g3 hmem
    obtain⟨x0,x1,x2,x3⟩:=x
    simp only[]at g0 g1 g2 g3
    have q0:=(hfr.cell (p:=⟨bs,_,none⟩) hb).trans g0
    have q1:=(hfr.cell (p:=⟨bs,_,none⟩) hb).trans g1
    have q2:=(hfr.cell (p:=⟨bs,_,none⟩) hb).trans g2
    have q3:=(hfr.cell (p:=⟨bs,_,none⟩) hb).trans g3
    have HMEM:=Lib.hid hmem
    clear hf g0 g1 g2 g3 hx hmem
    go_wp2_with fail
    refine(meetS_any wa.heap.size kk (seen.take kk) ⟨x0,x1,x2,x3⟩ _ (HM.out.kn.fr (by exact Qf)) (by omega)).mono ?_
    rintro e w5 ⟨rfl,hm,ht⟩
    have HM5:Hid (TkM w wa w5 w3.heap.size (kk+1) #[.int .i64 g.f0,.slice ae g.f1.length ce] #[.bool q.f0,.slice ao q.f1.length co,.slice ax q.f2.length cx,.slice af q.f3.length cf] 55 35 (seen.take (kk+1)) [] seen [] (.slice none 0 0) (.slice a1 seen.length c1) (.slice none 0 0)):=Lib.hid ((HM.out.frs (by exact Qf)).meetK ht _ (hm.cong HMEM.out))
    clear hm ht
    go_wp2_with fail
    go_roundw
    case rel=>exact⟨kk+1,by omega,by go_num,HM5⟩
    case measure=>(simp[intOf];omega)
  · obtain rfl:kk=seen.length:=by omega
    have HM2:Hid (TkM w wa wr w3.heap.size seen.length #[.int .i64 g.f0,.slice ae g.f1.length ce] #[.bool q.f0,.slice ao q.f1.length co,.slice ax q.f2.length cx,.slice af q.f3.length cf] 55 35 seen [] seen [] (.slice none 0 0) (.slice a1 seen.length c1) (.slice none 0 0)):=Lib.hid (by have:=HM.out;rwa [List.take_length]at this)
    clear HM
    have hfr1:Fr w wr:=hfr
    go_wp2_with fail
    refine(cloneWalk_w _ list _ (HL.out.fr (by exact Qf)) hll).mono ?_
    rintro e w6 ⟨a6,c6,rfl,h6,hf6⟩
    have HM6:=Lib.hid (HM2.out.setT hf6 h6)
    have HI:Hid (TkI (potW list) seen 960 list.length list 0 seen []):=Lib.hid (TkI.start list fun x hx=>List.mem_append.2 (.inl hx))
    clear h6 hf6 HM2 hfr hfr1
    go_wp2_with fail
    go_loopw [14,20,21,22] (fun o u t i wr=> ∃ (j ct cO cu:Nat) (at_ ao' au:Option Addr) (T O U:List WalkR),i= .int .i64 j∧t= .slice at_ T.length ct∧o= .slice ao' O.length cO∧u= .slice au U.length cu∧Hid (TkI (potW list) seen 960 list.length T j O U)∧Hid (Tk (ownW k n) (onQ g.f1 nfs) (T.drop j) O U r)∧Hid (TkM w wa wr w3.heap.size (seen.length+j) #[.int .i64 g.f0,.slice ae g.f1.length ce] #[.bool q.f0,.slice ao q.f1.length co,.slice ax q.f2.length cx,.slice af q.f3.length cf] 55 35 O T O U (.slice at_ T.length ct) (.slice ao' O.length cO) (.slice au U.length cu))) (fun o _ t i _=>(seen.length+pl-lenV o)*961+(lenV t-(intOf i).toNat))
    case atStart=>exact⟨0,c6,c1,0,a6,a1,none,list,seen,[],rfl,rfl,rfl,rfl,HI,Lib.hid (by rw[List.drop_zero];exact HR.out),HM6⟩
    case round=>
     clear HI HM6 hk hlt
     obtain⟨j,ct,cO,cu,at_,ao',au,T,O,U,rfl,rfl,rfl,rfl,HI,HT,HM⟩:=hrel
     have hfr:=HM.out.fr
     have FG:=HM.out.bg.facts
     have FQ:=HM.out.bq.facts
     have zr:=hfr.size
     have hjT:=HI.out.hi
     have hTl:=HI.out.todoLen
     have hOl:=HI.out.outLen
     have hUl:=HI.out.toldLen
     rw[HPL.out]at hTl hOl hUl
     by_cases hlt:j<T.length
     · obtain⟨ao2,bT,oT,cT,heT,_,_,hfT⟩:=(WalksO.rd HM.out.row.rt).one
       cases heT
       obtain⟨rfl,hbT,hcT⟩:=hfT (by omega)
       obtain⟨q0,q1,q2,q3⟩:=hcT j hlt
       have hd:=walk_dropAt hlt
       obtain⟨x,hx⟩: ∃ x,walkAt T j=x:=⟨_,rfl⟩
       rw[hx]at q0 q1 q2 q3 hd
       have HD:=Lib.hid hd
       have HX:=Lib.hid hx
       obtain⟨x0,x1,x2,x3⟩:=x
       simp only[]at q0 q1 q2 q3
       clear hcT hfT hd hx
       go_wp2_with fail
       refine(implOwnerOf_any _ _ _).mono ?_
       rintro e w7 ⟨rfl,hf7⟩
       have BW7:Box w7 wr.heap.size #[.int .i64 x0,.int .i64 x1,.int .i64 x2,.int .i64 x3] 57:=(Box.new _ _ _).fr hf7
       have HM7:=Lib.hid (HM.out.frs (show Fr wr w7 by exact Qf))
       have FW7:=BW7.facts
       have FG7:=HM7.out.bg.facts
       have FQ7:=HM7.out.bq.facts
       have z7:=hf7.size
       (try simp only[World.size_alloc]at z7)
       have hszr:=HM.out.size
       have HR0:=Lib.hid HM.out.row.ro
       clear q0 q1 q2 q3 HM FG FQ
       by_cases how:owR x2 n=k
       · have qo:(owR x2 n !=k)=false:=by simpa using how
         have HOW:Hid (ownW k n ⟨x0,x1,x2,x3⟩=true):=Lib.hid (by unfold ownW;simpa using how)
         clear how
         go_wp2_with fail
         refine(meetS_any wa.heap.size (seen.length+j) O ⟨x0,x1,x2,x3⟩ _ (HM7.out.kn.fr (by exact Qf)) (by omega)).mono ?_
         rintro e w8 ⟨rfl,hm,ht⟩
         have BW8:=Tch.box ht BW7 (by omega)
         have z8:=ht.size
         cases hin:inW O ⟨x0,x1,x2,x3⟩
         · have HM8:=Lib.hid (HM7.out.meetK ht (O++[⟨x0,x1,x2,x3⟩]) (hm.cong fun y=>by rw[List.mem_cons,List.mem_append,List.mem_singleton];exact Or.comm))
           have HIN:=Lib.hid (HI.out.new hlt (by rw[HX.out];exact hin) HON.out HBB.out)
           have HTN:=Lib.hid (by have:=HT.out;rw[HD.out]at this;exact this.new_inv HOW.out hin)
           rw[HX.out]at HIN
           have hol3:=HIN.out.outLen
           have hbb:=HBB.out _ (HI.out.sub _ (walkAt_mem hlt))
           rw[HX.out]at hbb
           rw[HPL.out,List.length_append,List.length_singleton]at hol3
           have hdr:Hid ((T++onQ g.f1 nfs ⟨x0,x1,x2,x3⟩).drop (j+1)=T.drop (j+1)++onQ g.f1 nfs ⟨x0,x1,x2,x3⟩):=Lib.hid (List.drop_append_of_le_length hlt)
           rw[← hdr.out]at HTN
           have HLN:=Lib.hid (show(O++[(⟨x0,x1,x2,x3⟩:WalkR)]).length=O.length+1 by simp)
           have HCA:=Lib.hid (wlk_snoc O ⟨x0,x1,x2,x3⟩)
           have FW8:=BW8.facts
           have FG8:=HM8.out.bg.facts
           have FQ8:=HM8.out.bq.facts
           have hor: ∀ g,(Value.slice ao' O.length cO).ownBlock=some g→g≠wr.heap.size:=fun g hg=>by have:=(HR0.out.lt g hg).2;omega
           clear hin HI HT hm ht BW7 HM7 FW7 FG7 FQ7
           go_wp2_with(at_builtin;refine wpList_append_rd rfl _ _ 37 rfl (w.heap.size+1+1) 57 i0 (.agg #[.int .i64 0,.int .i64 0,.int .i64 0,.int .i64 0]) 4 32 Tryz.underlying37 hi hz0 hz1 hz2 rfl (by decide) (.slice ao' O.length cO) O.length (O.flatMap WalkR.cells) rfl (World.ownsRow.alloc HM8.out.row.ro _) _ 1 [.int .i64 x0,.int .i64 x1,.int .i64 x2,.int .i64 x3] rfl (RdS.new (by first|rfl|(simp;done)) rfl) (by simp[Value.oneCell']) (by unfold maxLen;omega) (by omega) (by exact Qz) ?_;intro a9 c9 w9 hown9 hgrow9 hat9;have HM9:=Lib.hid ((HM8.out.frs (show Fr w8 _ by exact Qf)).addO (v':= .slice a9 (O.length+1) c9) (R:=[⟨x0,x1,x2,x3⟩]) (by unfold WalksO;rw[HCA.out,HLN.out];exact hown9) hgrow9 hat9);have BW9:=Box.gr (Box.alloc BW8 _) hgrow9 (fun e=>hor _ e rfl);have FW9:=BW9.facts;have FG9:=HM9.out.bg.facts;have FQ9:=HM9.out.bq.facts)
           clear hown9 hgrow9 hat9 HM8 FW8 FG8 FQ8 BW8 hor
           refine(CI.out x0 _).mono ?_
           rintro e w10 ⟨rfl,hf10⟩
           have HM10:=Lib.hid (HM9.out.frs hf10)
           have BW10:=BW9.fr hf10
           clear HM9 BW9 FW9 FG9 FQ9
           have FW10:=BW10.facts
           have FG10:=HM10.out.bg.facts
           have hfr10:=HM10.out.fr
           obtain⟨ia,hia⟩: ∃ ia,decide (0≤x0∧x0<(nfs.length:Int))=ia:=⟨_,rfl⟩
           rw[hia]
           cases ia
           · have h0:=onQ_no (es:=g.f1) (x:=⟨x0,x1,x2,x3⟩) hia
             rw[h0,List.append_nil]at HIN HTN
             have HM10:Hid (TkM w wa w10 w3.heap.size (seen.length+(j+1)) #[.int .i64 g.f0,.slice ae g.f1.length ce] #[.bool q.f0,.slice ao q.f1.length co,.slice ax q.f2.length cx,.slice af q.f3.length cf] 55 35 (O++[⟨x0,x1,x2,x3⟩]) T (O++[⟨x0,x1,x2,x3⟩]) U (.slice (some ⟨bT,oT,none⟩) T.length ct) (.slice a9 (O++[(⟨x0,x1,x2,x3⟩:WalkR)]).length c9) (.slice au U.length cu)):=Lib.hid (by rw[HLN.out];exact HM10.out)
             clear hia h0 hdr hbb
             go_wp2_with fail
             go_roundw
             case rel=>exact⟨j+1,ct,c9,cu,some ⟨bT,oT,none⟩,a9,au,T,O++[⟨x0,x1,x2,x3⟩],U,by go_num,rfl,by rw[HLN.out],rfl,HIN,HTN,HM10⟩
             case measure=>simp[lenV,intOf];omega
           · obtain⟨hx0,hx1⟩:=of_decide_eq_true hia
             obtain⟨k0,rfl⟩:=Int.eq_ofNat_of_zero_le hx0
             have hk0:k0<nfs.length:=by omega
             have CX:=CW.out (.slice aa nfs.length ca) k0 x1 x2 x3 _ hfr10 (NfasW.rd (NfasW.ab HA.out HM10.out.ab)) hk0
             obtain⟨R,hR⟩: ∃ R,onQ g.f1 nfs ⟨(k0:Int),x1,x2,x3⟩=R:=⟨_,rfl⟩
             rw[hR]at HIN HTN hbb CX
             have CX:=Lib.hid CX
             clear hia hx0 hx1 hR hdr
             go_wp2_with fail
             refine CX.out.mono ?_
             rintro e w11 ⟨a11,c11,rfl,h11,hf11⟩
             have HM11:=Lib.hid (HM10.out.frs hf11)
             have HR11:=Lib.hid (WalksW.rd h11)
             have HLT:=Lib.hid (show(T++R).length=T.length+R.length by simp)
             have hsz11:=HM11.out.size
             have hz11:=HM11.out.fr.size
             have hz12:=HM11.out.h1
             have hz13:=HM11.out.ha
             clear h11 HM10 BW10 FW10 FG10 hf10 hf11 hfr10 CX
             go_wp2_with(at_builtin;refine wpList_append_rd rfl _ _ 37 rfl (w.heap.size+1+1) 57 i0 (.agg #[.int .i64 0,.int .i64 0,.int .i64 0,.int .i64 0]) 4 32 Tryz.underlying37 hi hz0 hz1 hz2 rfl (by decide) (.slice (some ⟨bT,oT,none⟩) T.length ct) T.length (T.flatMap WalkR.cells) rfl HM11.out.row.rt _ R.length (R.flatMap WalkR.cells) rfl HR11.out (walk_oneCells R) (by unfold maxLen;omega) (by omega) (by omega) ?_;intro a12 c12 w12 hown12 hgrow12 hat12)
             have HM12:Hid (TkM w wa w12 w3.heap.size (seen.length+(j+1)) #[.int .i64 g.f0,.slice ae g.f1.length ce] #[.bool q.f0,.slice ao q.f1.length co,.slice ax q.f2.length cx,.slice af q.f3.length cf] 55 35 (O++[⟨k0,x1,x2,x3⟩]) (T++R) (O++[⟨k0,x1,x2,x3⟩]) U (.slice a12 (T++R).length c12) (.slice a9 (O++[(⟨k0,x1,x2,x3⟩:WalkR)]).length c9) (.slice au U.length cu)):=Lib.hid (by
              rw[HLN.out,HLT.out]
              exact HM11.out.addT (v':= .slice a12 (T.length+R.length) c12) (R:=R) (by unfold WalksO;rw[HLT.out,List.flatMap_append];exact hown12) hgrow12 hat12)
             clear hown12 hgrow12 hat12 HM11
             go_wp2_with fail
             go_roundw
             case rel=>exact⟨j+1,c12,c9,cu,a12,a9,au,T++R,O++[⟨k0,x1,x2,x3⟩],U,by go_num,by rw[HLT.out],by rw[HLN.out],rfl,HIN,HTN,HM12⟩
             case measure=>simp[lenV,intOf];omega
         · have HM8:=Lib.hid (HM7.out.meetK ht O (hm.cong fun y=>by rw[List.mem_cons];exact⟨fun h=>h.elim (fun e=>e▸inW_iff.1 hin) id,.inr⟩))
           have HT4:=Lib.hid (by have:=HT.out;rw[HD.out]at this;exact this.known_inv HOW.out hin)
           have HI4:=Lib.hid (HI.out.next hlt)
           have HM8:Hid (TkM w wa w8 w3.heap.size (seen.length+(j+1)) #[.int .i64 g.f0,.slice ae g.f1.length ce] #[.bool q.f0,.slice ao q.f1.length co,.slice ax q.f2.length cx,.slice af q.f3.length cf] 55 35 O T O U (.slice (some ⟨bT,oT,none⟩) T.length ct) (.slice ao' O.length cO) (.slice au U.length cu)):=HM8
           clear hin hm ht
           go_wp2_with fail
           go_roundw
           case rel=>exact⟨j+1,ct,cO,cu,some ⟨bT,oT,none⟩,ao',au,T,O,U,by go_num,rfl,rfl,rfl,HI4,HT4,HM8⟩
           case measure=>simp[lenV,intOf];omega
       · have qo:(owR x2 n !=k)=true:=by simpa using how
         have HOW:Hid (ownW k n ⟨x0,x1,x2,x3⟩=false):=Lib.hid (by unfold ownW;simpa using how)
         clear how
         go_wp2_with fail
         refine(meetS_any (wa.heap.size+1) (seen.length+j) U ⟨x0,x1,x2,x3⟩ _ (HM7.out.ma.fr (by exact Qf)) (by omega)).mono ?_
         rintro e w8 ⟨rfl,hm,ht⟩
         have BW8:=Tch.box ht BW7 (by omega)
         have z8:=ht.size
         cases hin:inW U ⟨x0,x1,x2,x3⟩
         · have HIN:=Lib.hid (HI.out.tell hlt (by rw[HX.out];exact hin))
           have HTN:=Lib.hid (by have:=HT.out;rw[HD.out]at this;exact this.tell_inv HOW.out hin)
           rw[HX.out]at HIN
           have HP8:=Lib.hid (HM7.out.meetA ht)
           have HMA:=Lib.hid (hm.cong (K':=U++[⟨x0,x1,x2,x3⟩]) fun y=>by rw[List.mem_cons,List.mem_append,List.mem_singleton];exact Or.comm)
           have HLN:=Lib.hid (show(U++[(⟨x0,x1,x2,x3⟩:WalkR)]).length=U.length+1 by simp)
           have HCA:=Lib.hid (wlk_snoc U ⟨x0,x1,x2,x3⟩)
           have HOF:=Lib.hid (And.intro HM7.out.ot (And.intro HM7.out.oo (And.intro HM7.out.ou (And.intro HM7.out.h1 HM7.out.ha))))
           have FW8:=BW8.facts
           clear hin HI HT hm ht BW7 HM7 FW7 FG7 FQ7
           go_wp2_with(at_builtin;refine wpList_append_rd rfl _ _ 37 rfl (w.heap.size+1+1) 57 i0 (.agg #[.int .i64 0,.int .i64 0,.int .i64 0,.int .i64 0]) 4 32 Tryz.underlying37 hi hz0 hz1 hz2 rfl (by decide) (.slice au U.length cu) U.length (U.flatMap WalkR.cells) rfl (World.ownsRow.alloc HP8.out.1.ru _) _ 1 [.int .i64 x0,.int .i64 x1,.int .i64 x2,.int .i64 x3] rfl (RdS.new (by first|rfl|(simp;done)) rfl) (by simp[Value.oneCell']) (by unfold maxLen;omega) (by omega) (by exact Qz) ?_;intro a9 c9 w9 hown9 hgrow9 hat9)
           have HM9:Hid (TkM w wa w9 w3.heap.size (seen.length+(j+1)) #[.int .i64 g.f0,.slice ae g.f1.length ce] #[.bool q.f0,.slice ao q.f1.length co,.slice ax q.f2.length cx,.slice af q.f3.length cf] 55 35 O T O (U++[⟨x0,x1,x2,x3⟩]) (.slice (some ⟨bT,oT,none⟩) T.length ct) (.slice ao' O.length cO) (.slice a9 (U++[(⟨x0,x1,x2,x3⟩:WalkR)]).length c9)):=Lib.hid (by
            obtain⟨p1,p2,p3,p4,p5⟩:=HOF.out
            obtain⟨s1,s2,s3,s4,s5,s6⟩:=HP8.out
            rw[HLN.out]
            exact TkM.addU (wr:=w8.alloc (.cells #[.int .i64 x0,.int .i64 x1,.int .i64 x2,.int .i64 x3] 57)) ⟨s1.fr (by exact Qf),s2.alloc _,s3.fr (by exact Qf),s4.alloc _,s5.alloc _,by exact Qf⟩ p1 p2 p3 p4 p5 (HMA.out.fr (by exact Qf)) (v':= .slice a9 (U.length+1) c9) (by unfold WalksO;rw[HCA.out,HLN.out];exact hown9) hgrow9 hat9)
           clear hown9 hgrow9 hat9 HP8 BW8 FW8
           go_wp2_with fail
           go_roundw
           case rel=>exact⟨j+1,ct,cO,c9,some ⟨bT,oT,none⟩,ao',a9,T,O,U++[⟨x0,x1,x2,x3⟩],by go_num,rfl,rfl,by rw[HLN.out],HIN,HTN,HM9⟩
           case measure=>simp[lenV,intOf];omega
         · have HM8:Hid (TkM w wa w8 w3.heap.size (seen.length+(j+1)) #[.int .i64 g.f0,.slice ae g.f1.length ce] #[.bool q.f0,.slice ao q.f1.length co,.slice ax q.f2.length cx,.slice af q.f3.length cf] 55 35 O T O U (.slice (some ⟨bT,oT,none⟩) T.length ct) (.slice ao' O.length cO) (.slice au U.length cu)):=Lib.hid (HM7.out.farA ht (hm.cong fun y=>by rw[List.mem_cons];exact⟨fun h=>h.elim (fun e=>e▸inW_iff.1 hin) id,.inr⟩))
           have HT4:=Lib.hid (by have:=HT.out;rw[HD.out]at this;exact this.far_inv HOW.out hin)
           have HI4:=Lib.hid (HI.out.next hlt)
           clear hin hm ht
           go_wp2_with fail
           go_roundw
           case rel=>exact⟨j+1,ct,cO,cu,some ⟨bT,oT,none⟩,ao',au,T,O,U,by go_num,rfl,rfl,rfl,HI4,HT4,HM8⟩
           case measure=>simp[lenV,intOf];omega
     · have hje:j=T.length:=by omega
       have HRE:Hid (r=(O,U)):=Lib.hid (by have:=HT.out;rw[hje,List.drop_length]at this;exact this.nil_inv)
       clear hje
       go_wp2_with fail
       go_ret2
       have:=TkPost.mk' (w:=w) (r:=(O,U)) (owns_lo HM.out.row.ro (by omega)) (owns_lo HM.out.row.ru (by omega)) HM.out.row.aou hfr
       rw[HRE.out]
       exact this
def takeQ (g:GraphD) (q:QueryD) (k n:Int) (seen list:List WalkR):List WalkR×List WalkR:=if graphB g=true∧qryD q=true then tkF (ownW k n) (onQ g.f1 (autL q)) ((potW list).length*961+list.length) list seen []else(seen,[])
theorem autL_at (q:QueryD) {j:Nat} (h:j<(autL q).length):nAt (autL q) j=nfaT (atomAt q.f2 j).f1:=by
 unfold autL
 exact autK_at q.f2 (by rwa [autL_len]at h)
theorem autL_few (q:QueryD): ∀ j,j<(autL q).length→(nAt (autL q) j).f1.length≤262144:=fun j hj=>by
 rw[autL_at q hj]
 exact nfaT_len _
theorem mem_onQ {es:List EdgeR} {q:QueryD} {x y:WalkR} (h:y∈onQ es (autL q) x): ∃ e∈es,∃ c:EdgeR,(0≤c.f2∧c.f2<24)∧e.f0=x.f2∧y=⟨x.f0,x.f1,e.f2,c.f2⟩:=by
 unfold onQ at h
 split at h
 · rename_i hx
   have hj:x.f0.toNat<(autL q).length:=by omega
   rw[autL_at q hj]at h
   unfold onL at h
   obtain⟨e,he,h⟩:=List.mem_flatMap.1 h
   unfold arcsOn at h
   split at h
   · rename_i hm
     obtain⟨c,hc,h⟩:=List.mem_flatMap.1 h
     unfold arcOn at h
     split at h
     · rw[List.mem_singleton]at h
       have:=(nfaT_arcs _).2 c hc
       exact⟨e,he,c,by omega,hm,h⟩
     · cases h
   · cases h
 · cases h
theorem take_on {g:GraphD} {q:QueryD} (hgb:graphB g=true) (list:List WalkR): ∀ x∈potW list,∀ y∈onQ g.f1 (autL q) x,y∈potW list:=fun x hx y hy=>by
 obtain⟨e,he,c,hc,_,rfl⟩:=mem_onQ hy
 obtain⟨n,hn,hn0,hn1,hin⟩:=graph_nat hgb
 obtain⟨i,hi,rfl⟩:=List.getElem_of_mem he
 have:=(hin i hi).2
 rw[← edgeAt_get hi]at this
 exact mem_potW hx rfl rfl (by simp only[];omega) hc
theorem take_few {g:GraphD} {q:QueryD} (hgb:graphB g=true) (x:WalkR):(onQ g.f1 (autL q) x).length≤960:=by
 unfold onQ
 split
 · rename_i hx
   have hj:x.f0.toNat<(autL q).length:=by omega
   rw[autL_at q hj]
   exact onL_few (graphB_out hgb).2.1 (nfaT_arcs _).1 (nfaT_arcs _).2 x
 · simp
theorem take_tk {g:GraphD} {q:QueryD} (hgb:graphB g=true) (hqb:qryD q=true) (k n:Int) (seen list:List WalkR):Tk (ownW k n) (onQ g.f1 (autL q)) list seen [] (takeQ g q k n seen list):=by
 unfold takeQ
 rw[if_pos ⟨hgb,hqb⟩]
 have:=tk_ends (own:=ownW k n) (on:=onQ g.f1 (autL q)) (pot:=potW list) (seen:=seen) (B:=960) (n0:=list.length) (take_on hgb list) (fun x _=>take_few hgb x) ((potW list).length*961+list.length) list 0 seen [] (TkI.start list fun x hx=>List.mem_append.2 (.inl hx)) (by simp)
 rwa [List.drop_zero]at this
theorem take_bnd (g:GraphD) (q:QueryD) (k n:Int) (seen list:List WalkR):(takeQ g q k n seen list).1.length≤seen.length+list.length*289∧(takeQ g q k n seen list).2.length≤list.length*289:=by
 by_cases h:graphB g=true∧qryD q=true
 · have h1:=take_tk h.1 h.2 k n seen list
   have h2:=Tk.bnd (pot:=potW list) (seen:=seen) (B:=960) (n0:=list.length) (take_on h.1 list) (fun x _=>take_few h.1 x) h1 (todo:=list) (i:=0) rfl (TkI.start list fun x hx=>List.mem_append.2 (.inl hx))
   have:=potW_len list
   omega
 · unfold takeQ
   rw[if_neg h]
   simp
theorem take_no {g:GraphD} {q:QueryD} (h: ¬ (graphB g=true∧qryD q=true)) (k n:Int) (seen list:List WalkR):takeQ g q k n seen list=(seen,[]):=if_neg h
theorem l20Nfas_d (v:Value) (d:QueryD) (w:World) (hv:QueryRd w v d) (hn:d.bulk≤1048576) (hq:qryD d=true):
  Calls Tryz.prog 57 #[v] w fun e w'=> ∃ ao cap,e= .returned (.slice ao (autL d).length cap)∧NfasW w' w.heap.size w'.heap.size (.slice ao (autL d).length cap) (autL d)∧Fr w w':=by
 obtain⟨u1,u2,u3,rfl,r1,r2,r3⟩:=hv
 obtain⟨a1,c1,rfl,_⟩:=RdS.val r1
 obtain⟨a3,c3,rfl,_⟩:=RdS.val r3
 have h:=qryB_atoms hq
 refine l20Nfas_any d.f0 _ u2 _ d.f2 w ⟨_,_,_,rfl⟩ ⟨_,_,_,rfl⟩ r2 (by omega) (fun k hk=>(atoms_sz hn k hk).2.1) fun k hk=>?_
 have h2:=h.2
 unfold atK at h2
 rw[List.all_eq_true]at h2
 have h3:=h2 k (List.mem_range.2 hk)
 unfold atomB at h3
 simp only[Bool.and_eq_true]at h3
 exact h3.2.2
set_option maxHeartbeats 8000000 in
set_option maxRecDepth 100000 in
theorem specTakeWalks_any (gv qv sv lv:Value) (g:GraphD) (q:QueryD) (k n:Int) (seen list:List WalkR) (w:World) (hg:GraphRd w gv g) (hq:QueryRd w qv q) (hs:WalksR w sv seen) (hl:WalksR w lv list) (hn:q.bulk≤1048576) (hss:seen.length≤1048576) (hll:list.length≤1048576):
  Calls Tryz.prog 34 #[gv,qv,.int .i64 k,.int .i64 n,sv,lv] w fun e w'=>TkPost w (takeQ g q k n seen list) e w':=by
 obtain⟨gb,hgb⟩: ∃ gb,graphB g=gb:=⟨_,rfl⟩
 obtain⟨qb,hqb⟩: ∃ qb,qryD q=qb:=⟨_,rfl⟩
 obtain⟨i0,hi,hz0,hz1,hz2⟩:=info_parts info_Walk
 have HG:=Lib.hid hg;have HQ:=Lib.hid hq;have HS:=Lib.hid hs;have HL:=Lib.hid hl
 have CG:Hid (∀ w',Fr w w'→Calls Tryz.prog 81 #[gv] w' fun e w''=>e= .returned (.bool gb)∧Fr w' w''):=Lib.hid fun w' h=>by obtain⟨u,rfl,he⟩:=HG.out;rw[← hgb];exact specGraphOk_any u g.f0 g.f1 w' (he.fr h)
 have CQ:Hid (∀ w',Fr w w'→Calls Tryz.prog 55 #[qv] w' fun e w''=>e= .returned (.bool qb)∧Fr w' w''):=Lib.hid fun w' h=>by rw[← hqb];exact specQueryOk_d qv q w' (HQ.out.fr h) hn
 obtain⟨r,hr⟩: ∃ r,takeQ g q k n seen list=r:=⟨_,rfl⟩
 have HNO:Hid (¬ (gb=true∧qb=true)→r=(seen,[])):=Lib.hid fun h=>by rw[← hr];exact take_no (by rw[hgb,hqb];exact h) k n seen list
 have CT:Hid (gb=true→qb=true→ ∀ av w',Fr w w'→NfasR w' av (autL q)→Calls Tryz.prog 90 #[gv,av,.int .i64 k,.int .i64 n,sv,lv] w' fun e w''=> ∃ a0 c0 a1 c1 l0 h0 l1 h1,e= .returned (.tuple #[.slice a0 r.1.length c0,.slice a1 r.2.length c1])∧WalksW w'' l0 h0 (.slice a0 r.1.length c0) r.1∧WalksW w'' l1 h1 (.slice a1 r.2.length c1) r.2∧(w'.heap.size≤l0∧l0≤h0∧h0≤w''.heap.size∧w'.heap.size≤l1∧l1≤h1∧h1≤w''.heap.size∧(h0≤l1∨h1≤l0))∧Fr w' w''):=Lib.hid fun h1 h2 av w' h ha=>by
  obtain⟨u,rfl,he⟩:=HG.out.fr h
  rw[h1]at hgb;rw[h2]at hqb
  rw[← hr]
  exact l20Take_any u av sv lv g.f0 k n g.f1 (autL q) seen list _ w' he ha (HS.out.fr h) (HL.out.fr h) (graphB_out hgb).2.1 (autL_few q) (take_on hgb list) (fun x _=>take_few hgb x) hss hll (take_tk hgb hqb k n seen list)
 have CA:Hid (qb=true→ ∀ w',Fr w w'→Calls Tryz.prog 57 #[qv] w' fun e w''=> ∃ ao cap,e= .returned (.slice ao (autL q).length cap)∧NfasW w'' w'.heap.size w''.heap.size (.slice ao (autL q).length cap) (autL q)∧Fr w' w''):=Lib.hid fun h2 w' h=>l20Nfas_d qv q w' (HQ.out.fr h) hn (hqb.trans h2)
 rw[hr]
 obtain⟨ue,rfl,he⟩:=hg;obtain⟨ae,be,oe,ce,rfl,hce,hme,fe⟩:=he.one;obtain⟨u1,u2,u3,rfl,r1,r2,r3⟩:=hq;obtain⟨ao,bo,oo,co,rfl,hco,hmo,ko⟩:=r1.one;obtain⟨ax,bx,ox,cx,rfl,hcx,hmx,kx⟩:=r2.one;obtain⟨af,bf,of,cf,rfl,hcf,hmf,kf⟩:=r3.one;clear he fe r1 r2 r3 ko kx kf
 obtain⟨asv,csv,rfl,hasv⟩:=RdS.val hs
 obtain⟨al,cl,rfl,hal⟩:=RdS.val hl
 clear hs hl hasv hal hgb hqb HG HQ hn hr
 cases gb
 · have HR:=Lib.hid (HNO.out (by simp))
   go_enter Tryz.func34,Tryz.ntmps34
   go_wp2_with fail
   refine(CG.out _ (by exact Qf)).mono ?_
   rintro e w1 ⟨rfl,hf1⟩
   have z1:=hf1.size
   (try simp only[World.size_alloc]at z1)
   go_wp2_with(at_builtin;refine wpList_append_first rfl _ _ 37 rfl w1.heap.size 57 i0 (.agg #[.int .i64 0,.int .i64 0,.int .i64 0,.int .i64 0]) 4 32 Tryz.underlying37 hi hz0 hz1 hz2 rfl (by decide) (.slice (some ⟨w1.heap.size,0,none⟩) 0 0) rfl (made_empty (by simp) (by exact Qz)) _ seen.length (seen.flatMap WalkR.cells) rfl (HS.out.fr (by exact Qf)) (walk_oneCells _) (by unfold maxLen;omega) (by omega) (by exact Qz) ?_;intro a8 c8 w8 hown8 hgrow8 hat8;have hf8:Fr w w8:=Fr.app (by exact Qf) hgrow8 (RowIn.one (lo:=w1.heap.size) (hi:=w1.heap.size+1) (Nat.le_refl _) (by omega)) (by omega);have z8:=hgrow8.size;(try simp only[World.size_alloc]at z8))
   go_ret2
   rw[HR.out]
   have hmt:=made_empty (w:=w8) (lo:=w.heap.size) (b:=w8.heap.size) (sz:=4) (e:=57) rfl (by omega)
   exact TkPost.mk' (w:=w) (r:=(seen,[])) (owns_lo (hown8.alloc _) (by omega)) hmt (fun g q1 q2=>by have:=(hown8.lt g q1).2;have e:w8.heap.size=g:=(by simpa [Value.ownBlock]using q2);omega) (by exact Qf)
 cases qb
 · have HR:=Lib.hid (HNO.out (by simp))
   go_enter Tryz.func34,Tryz.ntmps34
   go_wp2_with fail
   refine(CG.out _ (by exact Qf)).mono ?_
   rintro e w1 ⟨rfl,hf1⟩
   have B1:Box w1 (w.heap.size+1) #[.bool q.f0,.slice ao q.f1.length co,.slice ax q.f2.length cx,.slice af q.f3.length cf] 35:=Box.fr (Box.new' (by simp)) hf1
   have F1:=B1.facts
   have z1:=hf1.size
   (try simp only[World.size_alloc]at z1)
   go_wp2_with fail
   refine(CQ.out _ (by exact Qf)).mono ?_
   rintro e w2 ⟨rfl,hf2⟩
   have z2:=hf2.size
   clear B1 F1
   go_wp2_with(at_builtin;refine wpList_append_first rfl _ _ 37 rfl w2.heap.size 57 i0 (.agg #[.int .i64 0,.int .i64 0,.int .i64 0,.int .i64 0]) 4 32 Tryz.underlying37 hi hz0 hz1 hz2 rfl (by decide) (.slice (some ⟨w2.heap.size,0,none⟩) 0 0) rfl (made_empty (by simp) (by exact Qz)) _ seen.length (seen.flatMap WalkR.cells) rfl (HS.out.fr (by exact Qf)) (walk_oneCells _) (by unfold maxLen;omega) (by omega) (by exact Qz) ?_;intro a8 c8 w8 hown8 hgrow8 hat8;have hf8:Fr w w8:=Fr.app (by exact Qf) hgrow8 (RowIn.one (lo:=w2.heap.size) (hi:=w2.heap.size+1) (Nat.le_refl _) (by omega)) (by omega);have z8:=hgrow8.size;(try simp only[World.size_alloc]at z8))
   go_ret2
   rw[HR.out]
   have hmt:=made_empty (w:=w8) (lo:=w.heap.size) (b:=w8.heap.size) (sz:=4) (e:=57) rfl (by omega)
   exact TkPost.mk' (w:=w) (r:=(seen,[])) (owns_lo (hown8.alloc _) (by omega)) hmt (fun g q1 q2=>by have:=(hown8.lt g q1).2;have e:w8.heap.size=g:=(by simpa [Value.ownBlock]using q2);omega) (by exact Qf)
 clear HNO
 go_enter Tryz.func34,Tryz.ntmps34
 go_wp2_with fail
 refine(CG.out _ (by exact Qf)).mono ?_
 rintro e w1 ⟨rfl,hf1⟩
 have A1:Box w1 w.heap.size #[.int .i64 g.f0,.slice ae g.f1.length ce] 55:=Box.fr (Box.alloc (Box.new _ _ _) _) hf1
 have B1:Box w1 (w.heap.size+1) #[.bool q.f0,.slice ao q.f1.length co,.slice ax q.f2.length cx,.slice af q.f3.length cf] 35:=Box.fr (Box.new' (by simp)) hf1
 have F1:=B1.facts
 have z1:=hf1.size
 (try simp only[World.size_alloc]at z1)
 go_wp2_with fail
 refine(CQ.out _ (by exact Qf)).mono ?_
 rintro e w2 ⟨rfl,hf2⟩
 have A2:=A1.fr hf2
 have B2:=B1.fr hf2
 have z2:=hf2.size
 clear B1 F1 A1 CG CQ
 go_wp2_with fail
 have hf9:Fr w w2:=by exact Qf
 obtain⟨w9,rfl⟩: ∃ w9:World,w9=w2:=⟨_,rfl⟩
 have A9:=A2
 have B9:=B2
 clear A2 B2 hf1 hf2 z1 z2
 have CA:=Lib.hid (CA.out trivial)
 have CT:=Lib.hid (CT.out trivial trivial)
 have RA: ∀ w',Sf w9 w'→ ∀ o,w'.cell? ⟨w.heap.size,o,none⟩=(#[.int .i64 g.f0,.slice ae g.f1.length ce]:Array Value)[o]? :=fun w' h o=>(A9.fr h.out).cell o
 have RB: ∀ w',Sf w9 w'→ ∀ o,w'.cell? ⟨w.heap.size+1,o,none⟩=(#[.bool q.f0,.slice ao q.f1.length co,.slice ax q.f2.length cx,.slice af q.f3.length cf]:Array Value)[o]? :=fun w' h o=>(B9.fr h.out).cell o
 go_region_held3 (fun w'=>Sf w9 w') ((refine Sf.mk ?_;repeat(first|(with_reducible exact Fr.refl _)|(with_reducible assumption)|(with_reducible refine Fr.drewN ?_ _)|(with_reducible refine Fr.drew ?_)|(with_reducible refine Fr.alloc ?_ _)|(with_reducible refine Fr.setCell ?_ (by exact Qz) _)|(with_reducible refine Fr.trans ?_ (by with_reducible assumption))))) (first|(go_at_call 57;with_reducible refine(CA.out _ (by exact Qf)).mono ?_;rintro e w10 ⟨aa,ca,rfl,hA,hf10⟩)|(go_at_call 90;with_reducible refine(CT.out _ _ (by exact Qf) (NfasW.rd hA)).mono ?_;rintro e w11 ⟨a0,c0,a1,c1,l0,k0,l1,k1,rfl,p0,p1,hord,hf11⟩))
 all_goals
  go_wp2_with fail
  go_ret2
  exact⟨a0,c0,a1,c1,l0,k0,l1,k1,rfl,p0,p1,(by have q9:=hf9.size;have q10:=hf10.size;have q11:=hf11.size;(try simp only[World.size_alloc,World.size_drew,World.heap_drewN]at q9 q10 q11 hord ⊢);omega),by exact Qf⟩
set_option maxHeartbeats 8000000 in
set_option maxRecDepth 100000 in
theorem implTakeWalks_any (gv qv sv lv:Value) (g:GraphD) (q:QueryD) (k n:Int) (seen list:List WalkR) (w:World) (hg:GraphRd w gv g) (hq:QueryRd w qv q) (hs:WalksR w sv seen) (hl:WalksR w lv list) (hn:q.bulk≤1048576) (hss:seen.length≤1048576) (hll:list.length≤1048576):
  Calls Tryz.prog 35 #[gv,qv,.int .i64 k,.int .i64 n,sv,lv] w fun e w'=>TkPost w (takeQ g q k n seen list) e w':=by
 obtain⟨gb,hgb⟩: ∃ gb,graphB g=gb:=⟨_,rfl⟩
 obtain⟨qb,hqb⟩: ∃ qb,qryD q=qb:=⟨_,rfl⟩
 by_cases hok:gb=true∧qb=true
 · obtain⟨rfl,rfl⟩:=hok
   exact implTake_ok gv qv sv lv g q k n seen list _ w hg hq hs hl hn hgb hqb (autL_few q) (take_on hgb list) (fun x _=>take_few hgb x) hss hll (take_tk hgb hqb k n seen list)
 have HG:=Lib.hid hg;have HQ:=Lib.hid hq;have HS:=Lib.hid hs;have HL:=Lib.hid hl
 have CG:Hid (∀ w',Fr w w'→Calls Tryz.prog 84 #[gv] w' fun e w''=>e= .returned (.bool gb)∧Fr w' w''):=Lib.hid fun w' h=>by obtain⟨u,rfl,he⟩:=HG.out;rw[← hgb];exact implGraphOk_any u g.f0 g.f1 w' (he.fr h)
 have CQ:Hid (∀ w',Fr w w'→Calls Tryz.prog 62 #[qv] w' fun e w''=>e= .returned (.bool qb)∧Fr w' w''):=Lib.hid fun w' h=>by rw[← hqb];exact implQueryOk_d qv q w' (HQ.out.fr h) hn
 have HR:=Lib.hid (take_no (g:=g) (q:=q) (by rw[hgb,hqb];exact hok) k n seen list)
 rw[HR.out]
 obtain⟨ue,rfl,he⟩:=hg;obtain⟨ae,be,oe,ce,rfl,hce,hme,fe⟩:=he.one;obtain⟨u1,u2,u3,rfl,r1,r2,r3⟩:=hq;obtain⟨ao,bo,oo,co,rfl,hco,hmo,ko⟩:=r1.one;obtain⟨ax,bx,ox,cx,rfl,hcx,hmx,kx⟩:=r2.one;obtain⟨af,bf,of,cf,rfl,hcf,hmf,kf⟩:=r3.one;clear he fe r1 r2 r3 ko kx kf
 obtain⟨asv,csv,rfl,hasv⟩:=RdS.val hs
 obtain⟨al,cl,rfl,hal⟩:=RdS.val hl
 clear hs hl hasv hal hgb hqb HG HQ hn
 go_enter Tryz.func35,Tryz.ntmps35
 go_wp2_with fail
 refine(cloneWalk_w _ seen _ (HS.out.fr (by exact Qf)) hss).mono ?_
 rintro e w1 ⟨a1,c1,rfl,h1,hf1⟩
 have B1:Box w1 (w.heap.size+1) #[.bool q.f0,.slice ao q.f1.length co,.slice ax q.f2.length cx,.slice af q.f3.length cf] 35:=Box.fr (Box.new' (by simp)) hf1
 have A1:Box w1 w.heap.size #[.int .i64 g.f0,.slice ae g.f1.length ce] 55:=Box.fr (Box.alloc (Box.new _ _ _) _) hf1
 have G1:=A1.facts
 have z1:=hf1.size
 (try simp only[World.size_alloc]at z1)
 have HO1:=Lib.hid h1
 clear h1
 go_wp2_with fail
 refine(CG.out _ (by exact Qf)).mono ?_
 rintro e w2 ⟨rfl,hf2⟩
 have B2:=B1.fr hf2
 have F2:=B2.facts
 have z2:=hf2.size
 have HO2:=Lib.hid (OwW.fr HO1.out hf2)
 clear HO1 G1 A1 B1
 cases gb
 · go_wp2_with fail
   go_ret2
   exact TkPost.mk' (w:=w) (r:=(seen,[])) (owns_lo HO2.out.1 (by simp;omega)) (World.ownsRow_nil _ _ _ _) (fun g q1 q2=>by cases q2) (by exact Qf)
 cases qb
 · go_wp2_with fail
   refine(CQ.out _ (by exact Qf)).mono ?_
   rintro e w3 ⟨rfl,hf3⟩
   have HO3:=Lib.hid (OwW.fr HO2.out hf3)
   clear HO2 B2 F2
   go_wp2_with fail
   go_ret2
   exact TkPost.mk' (w:=w) (r:=(seen,[])) (owns_lo HO3.out.1 (by simp;omega)) (World.ownsRow_nil _ _ _ _) (fun g q1 q2=>by cases q2) (by exact Qf)
 exact absurd ⟨rfl,rfl⟩ hok
/-! ### a roaming begun -/
def takeN (g:GraphD) (q:QueryD) (n:Int) (k:Nat):List WalkR×List WalkR:=takeQ (partG g (k:Int) n) q (k:Int) n [] (staL g q (k:Int) n)
def newK (g:GraphD) (q:QueryD) (n:Int):Nat→RoamD
 |0=>⟨[],[]⟩
 |k+1=>⟨(newK g q n k).f0++[(takeN g q n k).1],(newK g q n k).f1++parAll (takeN g q n k).2 n⟩
def newOk (g:GraphD) (q:QueryD) (n:Int):Bool:=graphB g&&(qryD q&&decide (1≤n∧n≤8))
def newD (g:GraphD) (q:QueryD) (n:Int):RoamD:=if newOk g q n=true then newK g q n n.toNat else⟨[],[]⟩
theorem newK_len (g:GraphD) (q:QueryD) (n:Int): ∀ k,(newK g q n k).f0.length=k
 |0=>rfl
 |k+1=>by simp[newK,newK_len g q n k]
theorem staL_few (g:GraphD) (q:QueryD) (k n:Int):(staL g q k n).length≤48:=by
 unfold staL
 split
 · rename_i h
   obtain⟨h1,h2⟩:=h
   obtain⟨m,hm,hm0,hm1,_⟩:=graph_nat h1
   have h3:=ownK_len k n m
   have h4:ownL g k n=ownK k n m:=by unfold ownL;rw[h1,hm];rfl
   rw[h4,staK_len]
   have h5:=(qryB_atoms h2).1
   have h6:(ownK k n m).length≤12:=by omega
   have:q.f2.length*(ownK k n m).length≤4*12:=Nat.mul_le_mul (by omega) h6
   omega
 · simp
theorem takeN_few (g:GraphD) (q:QueryD) (n:Int) (k:Nat):(takeN g q n k).1.length≤13872∧(takeN g q n k).2.length≤13872:=by
 have h:=take_bnd (partG g (k:Int) n) q (k:Int) n [] (staL g q (k:Int) n)
 have h2:=staL_few g q (k:Int) n
 unfold takeN
 simp only[List.length_nil]at h
 omega
theorem parAll_few (l:List WalkR) (n:Int):(parAll l n).length≤8*l.length∧ParcelSCnt (parAll l n)≤40*l.length:=by
 unfold parAll
 have ht:(max 0 (min n 8)).toNat≤8:=by omega
 have:=parL_cnt l n (max 0 (min n 8)).toNat
 have h1:=Nat.mul_le_mul_right l.length ht
 have h2:=Nat.mul_le_mul_right (5*l.length) ht
 omega
theorem WalkSSCnt_append (a b:List (List WalkR)):WalkSSCnt (a++b)=WalkSSCnt a+WalkSSCnt b:=by simp[WalkSSCnt]
theorem newK_cnt (g:GraphD) (q:QueryD) (n:Int): ∀ k,(newK g q n k).f1.length≤k*110976∧(newK g q n k).cnt≤k*610368
 |0=>by simp[newK,RoamD.cnt,WalkSSCnt,ParcelSCnt]
 |k+1=>by
  have h:=newK_cnt g q n k
  have h1:=takeN_few g q n k
  have h2:=parAll_few (takeN g q n k).2 n
  unfold RoamD.cnt at h ⊢
  simp only[newK,List.length_append,WalkSSCnt_append,ParcelSCnt_append]
  have h3:WalkSSCnt [(takeN g q n k).1]=4*(takeN g q n k).1.length:=by simp[WalkSSCnt]
  rw[h3]
  omega
theorem newD_cnt (g:GraphD) (q:QueryD) (n:Int):(newD g q n).cnt≤1000000000000:=by
 unfold newD
 split
 · rename_i h
   unfold newOk at h
   simp only[Bool.and_eq_true,decide_eq_true_eq]at h
   have h2:=(newK_cnt g q n n.toNat).2
   have h3:n.toNat*610368≤8*610368:=Nat.mul_le_mul_right _ (by omega)
   omega
 · simp[RoamD.cnt,WalkSSCnt,ParcelSCnt]
theorem ParcelSW.nil (w:World) (lo hi:Nat):ParcelSW w lo hi (.slice none 0 0) []:=NestP.none_yet (OwW.nil _ _ _ _ _)
theorem walks_snoc (l:List WalkR) (x:WalkR):(l++[x]).flatMap WalkR.cells=l.flatMap WalkR.cells++[.int .i64 x.f0,.int .i64 x.f1,.int .i64 x.f2,.int .i64 x.f3]:=by simp[WalkR.cells]
theorem walk_at {xs:List WalkR} {k:Nat} (h:k<xs.length):(walkAt xs k).cells=[.int .i64 (walkAt xs k).f0,.int .i64 (walkAt xs k).f1,.int .i64 (walkAt xs k).f2,.int .i64 (walkAt xs k).f3]:=rfl
set_option maxHeartbeats 16000000 in
set_option maxRecDepth 100000 in
theorem implParcelsOf_any (v:Value) (xs:List WalkR) (n:Int) (w:World) (hv:WalksR w v xs) (hl:xs.length≤400000000):
  Calls Tryz.prog 103 #[v,.int .i64 n] w fun e w'=> ∃ ao cap,e= .returned (.slice ao (parAll xs n).length cap)∧ParcelSW w' w.heap.size w'.heap.size (.slice ao (parAll xs n).length cap) (parAll xs n)∧Fr w w':=by
 obtain⟨i0,hi,hz0,hz1,hz2⟩:=info_parts info_Walk
 obtain⟨j0,hj,hy0,hy1,hy2⟩:=info_parts info_Parcel
 obtain⟨ao,ba,oa,ca,rfl,hca,hma,fa⟩:=hv.one
 have FA:=Lib.hid fa
 clear hv fa
 obtain⟨T,hT,hT8⟩: ∃ T:Nat,(max 0 (min n 8)).toNat=T∧T≤8:=⟨_,rfl,by omega⟩
 have HPA:=Lib.hid (show parAll xs n=parL xs n T by unfold parAll;rw[hT])
 have hTm:max 0 (min n 8)=(T:Int):=by omega
 go_enter Tryz.func103,Tryz.ntmps103
 go_wp2_with fail
 go_loopw [5,6,7,9,10,14] (fun o _ _ _ _ i wr=> ∃ (t:Nat) (ao':Option Addr) (cap':Nat),t≤T∧i= .int .i64 t∧o= .slice ao' (parL xs n t).length cap'∧Hid (ParcelSW wr w.heap.size wr.heap.size (.slice ao' (parL xs n t).length cap') (parL xs n t))∧Fr w wr) (fun _ _ _ _ _ i _=>T-(intOf i).toNat)
 case atStart=>exact⟨0,none,0,Nat.zero_le _,rfl,rfl,Lib.hid (ParcelSW.nil _ _ _),by exact Qf⟩
 case round=>
  obtain⟨t,ap,cp,ht,rfl,rfl,HP,hfr⟩:=hrel
  have zr:=hfr.size
  by_cases hlt:t<T
  · have htT:t+1≤8:=by omega
    have HST:=Lib.hid (show parL xs n (t+1)=parL xs n t++parO xs n t from rfl)
    have hpl:(parL xs n t).length≤3200000000:=by have:=parL_mono xs n t (by omega);omega
    generalize parL xs n t=P0 at HP HST hpl ⊢
    obtain⟨PW,hPW⟩: ∃ PW,parW xs n t=PW:=⟨_,rfl⟩
    have HPW:=Lib.hid hPW
    have HPO:=Lib.hid (show parO xs n t=(chunk PW).map (ParcelD.mk t) by unfold parO;rw[hPW])
    clear hPW
    obtain⟨wo,hwo⟩: ∃ w_:World,w_=wr:=⟨_,rfl⟩
    subst hwo
    go_wp2_with fail
    go_loopw [7,9,19] (fun ws _ i w2=> ∃ (k:Nat) (ys:List WalkR) (ay:Option Addr) (cy:Nat),k≤xs.length∧i= .int .i64 k∧ws= .slice ay ys.length cy∧ys.length≤k∧Hid (ys++parW (xs.drop k) n t=PW)∧Hid (WalksW w2 wo.heap.size w2.heap.size (.slice ay ys.length cy) ys)∧Fr wo w2) (fun _ _ i _=>xs.length-(intOf i).toNat)
    case atStart=>exact⟨0,[],none,0,Nat.zero_le _,rfl,rfl,Nat.le_refl _,Lib.hid (by rw[List.drop_zero,List.nil_append];exact HPW.out),Lib.hid (OwW.nil _ _ _ _ _),by exact Qf⟩
    case round=>
     obtain⟨k,ys,ay,cy,hk,rfl,rfl,hyk,hd,HW,hf2⟩:=hrel
     have z2:=hf2.size
     by_cases hkl:k<xs.length
     · obtain⟨rfl,hba,fa⟩:=FA.out (by omega)
       obtain⟨g0,g1,g2,g3⟩:=fa k hkl
       have hf02:Fr w wr:=by exact Qf
       have hsk:=fun h=>parW_skip (n:=n) (t:=t) hkl h
       have hht:=fun h=>parW_hit (n:=n) (t:=t) hkl h
       obtain⟨x,hx⟩: ∃ x,walkAt xs k=x:=⟨_,rfl⟩
       rw[hx]at g0 g1 g2 g3 hsk hht
       have c0:=(hf02.cell (p:=⟨ba,_,none⟩) hba).trans g0
       have c1:=(hf02.cell (p:=⟨ba,_,none⟩) hba).trans g1
       have c2:=(hf02.cell (p:=⟨ba,_,none⟩) hba).trans g2
       have c3:=(hf02.cell (p:=⟨ba,_,none⟩) hba).trans g3
       clear g0 g1 g2 g3 fa hx
       obtain⟨x0,x1,x2,x3⟩:=x
       simp only[]at c0 c1 c2 c3 hsk hht
       by_cases how:owR x2 n=t
       · have q:(owR x2 n==(t:Int))=true:=by simpa using how
         have hd2:Hid ((ys++[⟨x0,x1,x2,x3⟩])++parW (xs.drop (k+1)) n t=PW):=Lib.hid (by have:=hd.out;rw[hht how]at this;rw[List.append_assoc];exact this)
         clear hd hsk hht
         have HCA:=Lib.hid (walks_snoc ys ⟨x0,x1,x2,x3⟩)
         have HLA:=Lib.hid (show(ys++[(⟨x0,x1,x2,x3⟩:WalkR)]).length=ys.length+1 by simp)
         go_wp2_with fail
         refine(implOwnerOf_any _ _ _).mono ?_
         rintro e w3 ⟨rfl,hf3⟩
         have z3:=hf3.size
         simp only[World.size_alloc]at z3
         have BW:Box w3 wr.heap.size #[.int .i64 x0,.int .i64 x1,.int .i64 x2,.int .i64 x3] 57:=(Box.new _ _ _).fr hf3
         have FW:=BW.facts
         have HW3:Hid (WalksW w3 wo.heap.size wr.heap.size (.slice ay ys.length cy) ys):=Lib.hid (OwW.fr HW.out (by exact Qf))
         go_wp2_with(at_builtin;(refine wpList_append_rd rfl _ _ 37 rfl wo.heap.size 57 i0 (.agg #[.int .i64 0,.int .i64 0,.int .i64 0,.int .i64 0]) 4 32 Tryz.underlying37 hi hz0 hz1 hz2 rfl (by decide) _ ys.length (ys.flatMap WalkR.cells) rfl (World.ownsRow.alloc HW3.out.1 _) _ 1 [.int .i64 x0,.int .i64 x1,.int .i64 x2,.int .i64 x3] rfl (RdS.new (by first|rfl|simp) rfl) (by simp[Value.oneCell']) (by unfold maxLen;omega) (by omega) (by exact Qz) ?_;intro ao' cap' w4 hown hgrow hat))
         have hf4:Fr wo w4:=Fr.app (w:=w3.alloc (.cells #[.int .i64 x0,.int .i64 x1,.int .i64 x2,.int .i64 x3] 57)) (by exact Qf) hgrow HW3.out.2 (Nat.le_refl _)
         rw[← HCA.out]at hown
         go_roundw
         case rel=>exact⟨k+1,ys++[⟨x0,x1,x2,x3⟩],ao',cap',by omega,by go_num,by rw[HLA.out],by rw[HLA.out];omega,hd2,Lib.hid (by have:=OwW.of_owns hown;rw[← HLA.out]at this;exact this),hf4⟩
         case measure=>(simp[intOf];omega)
       · have q:(owR x2 n==(t:Int))=false:=by simpa using how
         have hd2:Hid (ys++parW (xs.drop (k+1)) n t=PW):=Lib.hid (by have:=hd.out;rw[hsk how]at this;exact this)
         clear hd hsk hht
         go_wp2_with fail
         refine(implOwnerOf_any _ _ _).mono ?_
         rintro e w3 ⟨rfl,hf3⟩
         have z3:=hf3.size
         simp only[World.size_alloc]at z3
         have HW3:Hid (WalksW w3 wo.heap.size wr.heap.size (.slice ay ys.length cy) ys):=Lib.hid (OwW.fr HW.out (by exact Qf))
         go_wp2_with fail
         go_roundw
         case rel=>exact⟨k+1,ys,ay,cy,by omega,by go_num,rfl,by omega,hd2,Lib.hid (OwW.mono HW3.out (Nat.le_refl _) (by omega)),by exact Qf⟩
         case measure=>(simp[intOf];omega)
     · obtain rfl:k=xs.length:=by omega
       have hyp:ys=PW:=by have:=hd.out;rw[parW_end,List.append_nil]at this;exact this
       have HPS:=Lib.hid (show P0++(chunk ys).map (ParcelD.mk t)=parL xs n (t+1) by rw[HST.out,HPO.out,hyp])
       clear hd hyp HPO HST HPW
       obtain⟨wp,hwp⟩: ∃ w_:World,w_=wr:=⟨_,rfl⟩
       subst hwp
       have HP1:Hid (ParcelSW wp w.heap.size wp.heap.size (.slice ap P0.length cp) P0):=Lib.hid (NestP.mono (ParcelSW.fr HP.out hf2) (Nat.le_refl _) hf2.size)
       have hfp:Fr w wp:=by exact Qf
       have hri:=NestW.rowIn HP.out
       obtain⟨B,HB⟩: ∃ B,Hid (0<ys.length→(∃ o,ay=some ⟨B,o,none⟩)∧B<wp.heap.size∧(.slice ap P0.length cp:Value).ownBlock≠some B):=by
        rcases owns_shape HW.out.1 with⟨_,h1,_⟩|⟨g,c,hv,h2,h3,_⟩
        · exact⟨0,Lib.hid fun h=>absurd h (by omega)⟩
        · cases hv
          exact⟨g,Lib.hid fun _=>⟨⟨0,rfl⟩,h3,fun e=>by have:=hri g e;omega⟩⟩
       clear HP hri
       go_wp2_with fail
       go_loopw [5,7,10] (fun o ws _ w4=> ∃ (ps:List ParcelD) (zs:List WalkR) (ap' az:Option Addr) (cp' cz:Nat),o= .slice ap' ps.length cp'∧ws= .slice az zs.length cz∧Hid (ps++(chunk zs).map (ParcelD.mk t)=parL xs n (t+1))∧ps.length+zs.length≤3600000000∧zs.length≤400000000∧Hid (ParcelSW w4 w.heap.size w4.heap.size (.slice ap' ps.length cp') ps)∧Hid (WalksR wp (.slice az zs.length cz) zs)∧Hid (0<zs.length→(∃ o,az=some ⟨B,o,none⟩)∧B<wp.heap.size∧(.slice ap' ps.length cp':Value).ownBlock≠some B∧ ∀ o,w4.cell? ⟨B,o,none⟩=wp.cell? ⟨B,o,none⟩)∧wp.heap.size≤w4.heap.size∧Fr w w4) (fun _ ws _ _=>lenVP ws)
       case atStart=>exact⟨P0,ys,ap,ay,cp,cy,rfl,rfl,HPS,by omega,by omega,HP1,Lib.hid (OwW.rd HW.out),Lib.hid (fun h=>⟨(HB.out h).1,(HB.out h).2.1,(HB.out h).2.2,fun _=>rfl⟩),Nat.le_refl _,hfp⟩
       case round=>
        clear HP1 HW HPS HB
        obtain⟨ps,zs,ap',az,cp',cz,rfl,rfl,hd,hpz,hz,HP,HZ,HB,z4,hf4⟩:=hrel
        have zw4:=hf4.size
        by_cases hz0':0<zs.length
        · obtain⟨⟨oz,rfl⟩,hb1,hb2,hb3⟩:=HB.out hz0'
          have HB2:=Lib.hid hb2
          have HB3:=Lib.hid hb3
          clear hb2 hb3 HB
          obtain⟨_,bz,oz',_,hv,hcz,hmz,fz⟩:=HZ.out.one
          cases hv
          have HCH:=Lib.hid (chunk_step hz0')
          obtain⟨K,hKm,hK1,hK2,hK3⟩: ∃ K:Nat,min (zs.length:Int) 60=(K:Int)∧K≤zs.length∧0<K∧Hid (zs.take 60=zs.take K∧zs.drop 60=zs.drop K):=by
           rcases Nat.le_total zs.length 60 with h|h
           · exact⟨zs.length,by omega,Nat.le_refl _,hz0',Lib.hid ⟨by rw[List.take_of_length_le h,List.take_length],by rw[List.drop_of_length_le h,List.drop_length]⟩⟩
           · exact⟨60,by omega,h,by omega,Lib.hid ⟨rfl,rfl⟩⟩
          rw[hK3.out.1,hK3.out.2]at HCH
          rw[HCH.out]at hd
          clear fz hK3 HCH
          have htk:WalksR wr (.slice (some ⟨B,oz,none⟩) K cz) (zs.take K):=WalksR.take (RdS.move (b:=B) HZ.out (fun _=>⟨oz,rfl⟩) z4 (fun _=>HB3.out)) K cz hK1 (by omega) (by unfold maxLen;omega)
          have hdk:WalksR wp (.slice (some ⟨B,oz+K*4,none⟩) (zs.length-K) (cz-K)) (zs.drop K):=HZ.out.drop K (cz-K) hK1 (by omega) (by unfold maxLen;omega)
          have hyl:(zs.take K).length=K:=by simp;omega
          have hdl:(zs.drop K).length=zs.length-K:=by simp
          generalize zs.take K=yk at hd htk hyl
          generalize zs.drop K=zd at hd hdk hdl
          have HTK:=Lib.hid htk
          have HDK:=Lib.hid hdk
          have HYL:=Lib.hid hyl
          have HDL:=Lib.hid hdl
          have hyk:yk.length≤1048576:=by omega
          clear htk hdk hyl hdl HZ
          rw[List.map_cons,List.append_cons]at hd
          obtain⟨cells,hOw,happ⟩:=NestW.app (E:=ParcelEW) (fun a b c=>ParcelEW.span a b c) HP.out
          have HOW:=Lib.hid hOw
          have HAPP:=Lib.hid happ
          clear hOw happ HP
          go_wp2_with fail
          refine(cloneWalk_w _ yk _ (HTK.out.fr (by exact Qf)) hyk).mono ?_
          rintro e w5 ⟨ac,cc,rfl,hc5,hf5⟩
          have z5:=hf5.size
          have HC5:=Lib.hid hc5
          clear hc5
          go_wp2_with(at_builtin;(refine wpList_append_rd rfl _ _ 70 rfl w.heap.size 155 j0 (.agg #[.int .i64 0,.slice none 0 0]) 2 32 Tryz.underlying70 hj hy0 hy1 hy2 rfl (by decide) _ ps.length cells rfl (World.ownsRow.alloc (OwW.fr HOW.out hf5).1 _) _ 1 [.int .i64 t,.slice ac yk.length cc] rfl (RdS.new (by first|rfl|simp) rfl) (by simp[Value.oneCell']) (by unfold maxLen;omega) (by omega) (by exact Qz) ?_;intro ao' cap' w6 hown hgrow hat))
          have sb:w5.heap.size+1≤w6.heap.size:=by have:=hgrow.size;simpa using this
          have hN6:ParcelSW w6 w.heap.size w6.heap.size (.slice ao' (ps.length+1) cap') (ps++[⟨t,yk⟩]):=HAPP.out _ (w5.alloc (.cells #[.int .i64 t,.slice ac yk.length cc] 155)) w6 [.int .i64 t,.slice ac yk.length cc] ⟨t,yk⟩ wr.heap.size w5.heap.size w6.heap.size (w5.alloc (.cells #[.int .i64 t,.slice ac yk.length cc] 155)).heap.size (hf5.alloc _) hown hgrow hat (RowIn.of_owns hown) (by simp) (by omega) rfl ⟨ac,cc,rfl,OwW.alloc HC5.out _⟩ zw4 (Nat.le_refl _) z5
          have hf6:Fr w w6:=Fr.app (w:=w5.alloc (.cells #[.int .i64 t,.slice ac yk.length cc] 155)) (by exact Qf) hgrow HOW.out.2 (Nat.le_refl _)
          have hcell: ∀ o,w6.cell? ⟨B,o,none⟩=wp.cell? ⟨B,o,none⟩:=fun o=>by
           rw[grown_cell hgrow (b:=B) (by simp;omega) HB2.out o, ← HB3.out o]
           exact(hf5.alloc (.cells #[.int .i64 t,.slice ac yk.length cc] 155)).cell (p:=⟨B,o,none⟩) (by show B<wr.heap.size;omega)
          have hne:(.slice ao' (ps.length+1) cap':Value).ownBlock≠some B:=fun e=>by
           rcases hat with h|h
           · rw[h]at e;exact HB2.out e
           · rw[h]at e;simp at e;omega
          have hl7:(ps++[(⟨t,yk⟩:ParcelD)]).length=ps.length+1:=by simp
          have hif:0<zs.length-K→(if cz=K then some (⟨B,oz,none⟩:Addr)else some ⟨B,oz+K*4,none⟩)=some ⟨B,oz+K*4,none⟩:=fun h=>if_neg (by omega)
          refine⟨⟨ps++[⟨t,yk⟩],zd,ao',(if cz=K then some ⟨B,oz,none⟩else some ⟨B,oz+K*4,none⟩),cap',cz-K,by rw[hl7],by rw[HDL.out],hd,by rw[hl7,HDL.out];omega,by rw[HDL.out];omega,Lib.hid (by rw[hl7];exact hN6),Lib.hid ?_,Lib.hid (fun h=>⟨⟨_,hif (by rw[← HDL.out];exact h)⟩,hb1,by rw[hl7];exact hne,hcell⟩),by omega,hf6⟩,by show zs.length-K<zs.length;omega⟩
          rw[HDL.out]
          by_cases hck:cz=K
          · have hz0:zd=[]:=List.eq_nil_of_length_eq_zero (by rw[HDL.out];omega)
            subst hz0
            have hl0:zs.length-K=0:=by have:=HDL.out;simpa using this.symm
            rw[hl0]
            exact⟨by simp,_,_,rfl,Nat.zero_le _,by unfold maxLen;omega,fun h=>absurd h (by decide)⟩
          · rw[if_neg hck]
            exact HDK.out
        · have hz1:zs=[]:=List.eq_nil_of_length_eq_zero (by omega)
          subst hz1
          rw[chunk_nil,List.map_nil,List.append_nil]at hd
          clear HZ HB
          go_wp2_with fail
          go_roundw
          case rel=>exact⟨t+1,ap',cp',by omega,by go_num,by rw[hd.out],by rw[hd.out]at HP;exact HP,hf4⟩
          case measure=>(simp[intOf];omega)
  · obtain rfl:t=T:=by omega
    rw[← HPA.out]at HP
    go_wp2_with fail
    go_ret
    exact⟨ap,cp,by rw[HPA.out];rfl,HP.out,hfr⟩
set_option maxHeartbeats 16000000 in
set_option maxRecDepth 100000 in
theorem specParcelsOf_any (v:Value) (xs:List WalkR) (n:Int) (w:World) (hv:WalksR w v xs) (hl:xs.length≤400000000):
  Calls Tryz.prog 100 #[v,.int .i64 n] w fun e w'=> ∃ ao cap,e= .returned (.slice ao (parAll xs n).length cap)∧ParcelSW w' w.heap.size w'.heap.size (.slice ao (parAll xs n).length cap) (parAll xs n)∧Fr w w':=by
 obtain⟨i0,hi,hz0,hz1,hz2⟩:=info_parts info_Walk
 obtain⟨j0,hj,hy0,hy1,hy2⟩:=info_parts info_Parcel
 obtain⟨ao,ba,oa,ca,rfl,hca,hma,fa⟩:=hv.one
 have FA:=Lib.hid fa
 clear hv fa
 obtain⟨T,hT,hT8,hTn,hTe⟩: ∃ T:Nat,Hid ((max 0 (min n 8)).toNat=T)∧T≤8∧(∀ t:Nat,t<T→(t:Int)<n)∧(T=8∨n≤T):=⟨_,Lib.hid rfl,by omega,fun t h=>by omega,by omega⟩
 have HPA:=Lib.hid (show parAll xs n=parL xs n T by unfold parAll;rw[hT.out])
 go_enter Tryz.func100,Tryz.ntmps100
 go_wp2_with fail
 go_loopw [5,6,7,8] (fun o i _ _ wr=> ∃ (t:Nat) (ao':Option Addr) (cap':Nat),t≤T∧i= .int .i64 t∧o= .slice ao' (parL xs n t).length cap'∧Hid (ParcelSW wr w.heap.size wr.heap.size (.slice ao' (parL xs n t).length cap') (parL xs n t))∧Fr w wr) (fun _ i _ _ _=>T-(intOf i).toNat)
 case atStart=>exact⟨0,some ⟨w.heap.size,0,none⟩,0,Nat.zero_le _,rfl,rfl,Lib.hid (NestP.none_yet (OwW.of_owns (made_empty rfl (Nat.le_refl _)))),by exact Qf⟩
 case round=>
  obtain⟨t,ap,cp,ht,rfl,rfl,HP,hfr⟩:=hrel
  have zr:=hfr.size
  by_cases hlt:t<T
  · have htn:=hTn t hlt
    have ht8:(t:Int)<8:=by omega
    have HST:=Lib.hid (show parL xs n t++(chunk (parW xs n t)).map (ParcelD.mk t)=parL xs n (t+1)from rfl)
    have hpl:(parL xs n t).length≤3200000000:=by have:=parL_mono xs n t (by omega);omega
    have hpn:(parL xs n (t+1)).length≤3200000000:=by have:=parL_mono xs n (t+1) (by omega);omega
    generalize parL xs n t=P0 at HP HST hpl ⊢
    obtain⟨PN,hPN⟩: ∃ PN,parL xs n (t+1)=PN:=⟨_,rfl⟩
    have HPN:=Lib.hid hPN
    rw[hPN]at HST hpn
    clear hPN
    go_wp2_with fail
    go_loopw [5,7,8] (fun o ws i w2=> ∃ (k L:Nat) (ps:List ParcelD) (ys:List WalkR) (ap' ay:Option Addr) (cp' cy:Nat),k≤xs.length∧i= .int .i64 k∧o= .slice ap' ps.length cp'∧ws= .slice ay ys.length cy∧ys.length≤59∧Hid (ps++(chunk (ys++parW (xs.drop k) n t)).map (ParcelD.mk t)=PN)∧w.heap.size≤L∧L≤w2.heap.size∧Hid (ParcelSW w2 w.heap.size L (.slice ap' ps.length cp') ps)∧Hid (WalksW w2 L w2.heap.size (.slice ay ys.length cy) ys)∧Fr w w2) (fun _ _ i _=>xs.length-(intOf i).toNat)
    case atStart=>exact⟨0,wr.heap.size,P0,[],ap,some ⟨wr.heap.size,0,none⟩,cp,0,Nat.zero_le _,rfl,rfl,rfl,Nat.zero_le _,Lib.hid (by rw[List.drop_zero,List.nil_append];exact HST.out),zr,by simp,Lib.hid (ParcelSW.fr HP.out (by exact Qf)),Lib.hid (OwW.of_owns (made_empty rfl (Nat.le_refl _))),by exact Qf⟩
    case round=>
     clear HP HST
     obtain⟨k,L,ps,ys,ap',ay,cp',cy,hk,rfl,rfl,rfl,hyk,hd,hL1,hL2,HP,HW,hf2⟩:=hrel
     have z2:=hf2.size
     have hpsl:ps.length≤3200000000:=by have:=congrArg List.length hd.out;rw[List.length_append]at this;omega
     by_cases hkl:k<xs.length
     · obtain⟨rfl,hba,fa⟩:=FA.out (by omega)
       obtain⟨g0,g1,g2,g3⟩:=fa k hkl
       have hsk:=fun h=>parW_skip (n:=n) (t:=t) hkl h
       have hht:=fun h=>parW_hit (n:=n) (t:=t) hkl h
       obtain⟨x,hx⟩: ∃ x,walkAt xs k=x:=⟨_,rfl⟩
       rw[hx]at g0 g1 g2 g3 hsk hht
       have c0: ∀ w',Fr wr w'→w'.cell? _=_:=fun w' h=>((hf2.trans h).cell (p:=⟨ba,_,none⟩) hba).trans g0
       have c1: ∀ w',Fr wr w'→w'.cell? _=_:=fun w' h=>((hf2.trans h).cell (p:=⟨ba,_,none⟩) hba).trans g1
       have c2: ∀ w',Fr wr w'→w'.cell? _=_:=fun w' h=>((hf2.trans h).cell (p:=⟨ba,_,none⟩) hba).trans g2
       have c3: ∀ w',Fr wr w'→w'.cell? _=_:=fun w' h=>((hf2.trans h).cell (p:=⟨ba,_,none⟩) hba).trans g3
       clear g0 g1 g2 g3 fa hx
       obtain⟨x0,x1,x2,x3⟩:=x
       simp only[]at c0 c1 c2 c3 hsk hht
       have d2:=c2 wr (Fr.refl _)
       go_wp2_with fail
       refine(specOwnerOf_any _ _ _).mono ?_
       rintro e w3 ⟨rfl,hf3⟩
       have z3:=hf3.size
       have HW3:Hid (WalksW w3 L wr.heap.size (.slice ay ys.length cy) ys):=Lib.hid (OwW.fr HW.out hf3)
       have HP3:Hid (ParcelSW w3 w.heap.size L (.slice ap' ps.length cp') ps):=Lib.hid (ParcelSW.fr HP.out hf3)
       have e0:=c0 w3 hf3
       have e1:=c1 w3 hf3
       have e2:=c2 w3 hf3
       have e3:=c3 w3 hf3
       clear c0 c1 c2 c3 HW HP d2
       by_cases how:owR x2 n=t
       · have q:(owR x2 n==(t:Int))=true:=by simpa using how
         have hd2:Hid (ps++(chunk ((ys++[⟨x0,x1,x2,x3⟩])++parW (xs.drop (k+1)) n t)).map (ParcelD.mk t)=PN):=Lib.hid (by have:=hd.out;rw[hht how]at this;rw[List.append_assoc];exact this)
         clear hd hsk hht
         have HCA:=Lib.hid (walks_snoc ys ⟨x0,x1,x2,x3⟩)
         have HLA:=Lib.hid (show(ys++[(⟨x0,x1,x2,x3⟩:WalkR)]).length=ys.length+1 by simp)
         by_cases h60:ys.length=59
         · have q61:(((ys.length+1:Nat):Int)==60)=true:=by simp;omega
           have q62:((ys.length:Int)+1==60)=true:=by simp;omega
           have hy58:59≤ys.length:=by omega
           clear h60
           go_wp2_with(first|(at_builtin;(refine wpList_append_rd rfl _ _ 37 rfl L 57 i0 (.agg #[.int .i64 0,.int .i64 0,.int .i64 0,.int .i64 0]) 4 32 Tryz.underlying37 hi hz0 hz1 hz2 rfl (by decide) _ ys.length (ys.flatMap WalkR.cells) rfl (World.ownsRow.alloc HW3.out.1 _) _ 1 [.int .i64 x0,.int .i64 x1,.int .i64 x2,.int .i64 x3] rfl (RdS.new (by first|rfl|simp) rfl) (by simp[Value.oneCell']) (by unfold maxLen;omega) (by omega) (by exact Qz) ?_;intro ao' cap' w4 hown hgrow hat;have s4:Span L wr.heap.size (w3.alloc (.cells #[.int .i64 x0,.int .i64 x1,.int .i64 x2,.int .i64 x3] 57)) w4:=Span.of_gr hgrow (fun g hg=>HW3.out.2 g hg);have HP4:ParcelSW w4 w.heap.size L (.slice ap' ps.length cp') ps:=ParcelSW.span (ParcelSW.fr HP3.out ((Fr.refl _).alloc _)) s4 (.inl (Nat.le_refl _));obtain⟨cells,hOw,happ⟩:=NestW.app (E:=ParcelEW) (fun a b c=>ParcelEW.span a b c) HP4;have HOW:=Lib.hid hOw;have HAPP:=Lib.hid happ;have zg4:=s4.size;(try simp only[World.size_alloc]at zg4);clear hOw happ HP4 s4))|(at_builtin;(refine wpList_append_rd rfl _ _ 70 rfl w.heap.size 155 j0 (.agg #[.int .i64 0,.slice none 0 0]) 2 32 Tryz.underlying70 hj hy0 hy1 hy2 rfl (by decide) _ ps.length cells rfl (World.ownsRow.alloc HOW.out.1 _) _ 1 [.int .i64 t,.slice ao' (ys.length+1) cap'] rfl (RdS.new (by first|rfl|simp) rfl) (by simp[Value.oneCell']) (by unfold maxLen;omega) (by omega) (by exact Qz) ?_;intro ap6 cp6 w6 hown6 hgrow6 hat6)))
           have sb:w4.heap.size+1≤w6.heap.size:=by have:=hgrow6.size;simpa using this
           have hf4:Fr w w4:=Fr.app (w:=(w3.alloc (.cells #[.int .i64 x0,.int .i64 x1,.int .i64 x2,.int .i64 x3] 57))) (by exact Qf) hgrow HW3.out.2 hL1
           have hf6:Fr w w6:=Fr.app (w:=w4.alloc (.cells #[.int .i64 t,.slice ao' (ys.length+1) cap'] 155)) (by exact Qf) hgrow6 HOW.out.2 (Nat.le_refl _)
           have hN6:ParcelSW w6 w.heap.size w6.heap.size (.slice ap6 (ps.length+1) cp6) (ps++[⟨t,ys++[⟨x0,x1,x2,x3⟩]⟩]):=by
            refine HAPP.out _ (w4.alloc (.cells #[.int .i64 t,.slice ao' (ys.length+1) cap'] 155)) w6 [.int .i64 t,.slice ao' (ys.length+1) cap'] ⟨t,ys++[⟨x0,x1,x2,x3⟩]⟩ L w4.heap.size w6.heap.size (w4.alloc (.cells #[.int .i64 t,.slice ao' (ys.length+1) cap'] 155)).heap.size ((Fr.refl _).alloc _) hown6 hgrow6 hat6 (RowIn.of_owns hown6) (by simp) (by omega) rfl ⟨ao',cap',by show [_,_]=[_,_];rw[HLA.out],?_⟩ hL1 (Nat.le_refl _) (by omega)
            have:=OwW.of_owns hown
            rw[← HCA.out, ← HLA.out]at this
            exact OwW.alloc this _
           have hd3:Hid ((ps++[⟨t,ys++[⟨x0,x1,x2,x3⟩]⟩])++(chunk ([]++parW (xs.drop (k+1)) n t)).map (ParcelD.mk t)=PN):=Lib.hid (by
            have:=hd2.out
            rw[chunk_full (by rw[HLA.out];omega),List.map_cons,List.append_cons]at this
            exact this)
           have hl7:(ps++[(⟨t,ys++[⟨x0,x1,x2,x3⟩]⟩:ParcelD)]).length=ps.length+1:=by simp
           go_wp2_with fail
           go_roundw
           case rel=>exact⟨k+1,w6.heap.size,ps++[⟨t,ys++[⟨x0,x1,x2,x3⟩]⟩],[],ap6,some ⟨w6.heap.size,0,none⟩,cp6,0,by omega,by go_num,by rw[hl7],rfl,Nat.zero_le _,hd3,by omega,by simp,Lib.hid (by rw[hl7];exact ParcelSW.fr hN6 ((Fr.refl _).alloc _)),Lib.hid (OwW.of_owns (made_empty rfl (Nat.le_refl _))),by exact Qf⟩
           case measure=>(simp[intOf];omega)
         · have q61:(((ys.length+1:Nat):Int)==60)=false:=by simp;omega
           have q62:((ys.length:Int)+1==60)=false:=by simp;omega
           have hy58:ys.length≤58:=by omega
           go_wp2_with(at_builtin;(refine wpList_append_rd rfl _ _ 37 rfl L 57 i0 (.agg #[.int .i64 0,.int .i64 0,.int .i64 0,.int .i64 0]) 4 32 Tryz.underlying37 hi hz0 hz1 hz2 rfl (by decide) _ ys.length (ys.flatMap WalkR.cells) rfl (World.ownsRow.alloc HW3.out.1 _) _ 1 [.int .i64 x0,.int .i64 x1,.int .i64 x2,.int .i64 x3] rfl (RdS.new (by first|rfl|simp) rfl) (by simp[Value.oneCell']) (by unfold maxLen;omega) (by omega) (by exact Qz) ?_;intro ao' cap' w4 hown hgrow hat))
           have s4:Span L wr.heap.size (w3.alloc (.cells #[.int .i64 x0,.int .i64 x1,.int .i64 x2,.int .i64 x3] 57)) w4:=Span.of_gr hgrow (fun g hg=>HW3.out.2 g hg)
           have zg4:=s4.size
           simp only[World.size_alloc]at zg4
           have hf4:Fr w w4:=Fr.app (w:=(w3.alloc (.cells #[.int .i64 x0,.int .i64 x1,.int .i64 x2,.int .i64 x3] 57))) (by exact Qf) hgrow HW3.out.2 hL1
           have hW4:WalksW w4 L w4.heap.size (.slice ao' (ys++[(⟨x0,x1,x2,x3⟩:WalkR)]).length cap') (ys++[⟨x0,x1,x2,x3⟩]):=by
            have:=OwW.of_owns hown
            rw[← HCA.out, ← HLA.out]at this
            exact this
           go_roundw
           case rel=>exact⟨k+1,L,ps,ys++[⟨x0,x1,x2,x3⟩],ap',ao',cp',cap',by omega,by go_num,rfl,by rw[HLA.out],by rw[HLA.out];omega,hd2,hL1,by omega,Lib.hid (ParcelSW.span (ParcelSW.fr HP3.out ((Fr.refl _).alloc _)) s4 (.inl (Nat.le_refl _))),Lib.hid hW4,hf4⟩
           case measure=>(simp[intOf];omega)
       · have q:(owR x2 n==(t:Int))=false:=by simpa using how
         have hd2:Hid (ps++(chunk (ys++parW (xs.drop (k+1)) n t)).map (ParcelD.mk t)=PN):=Lib.hid (by have:=hd.out;rw[hsk how]at this;exact this)
         clear hd hsk hht e0 e1 e2 e3
         go_wp2_with fail
         go_roundw
         case rel=>exact⟨k+1,L,ps,ys,ap',ay,cp',cy,by omega,by go_num,rfl,rfl,hyk,hd2,hL1,by omega,HP3,Lib.hid (OwW.mono HW3.out (Nat.le_refl _) (by omega)),by exact Qf⟩
         case measure=>(simp[intOf];omega)
     · obtain rfl:k=xs.length:=by omega
       rw[parW_end,List.append_nil]at hd
       by_cases hy0':0<ys.length
       · rw[chunk_small hy0' (by omega),List.map_cons,List.map_nil]at hd
         obtain⟨cells,hOw,happ⟩:=NestW.app (E:=ParcelEW) (fun a b c=>ParcelEW.span a b c) HP.out
         have HOW:=Lib.hid hOw
         have HAPP:=Lib.hid happ
         clear hOw happ HP
         go_wp2_with(at_builtin;(refine wpList_append_rd rfl _ _ 70 rfl w.heap.size 155 j0 (.agg #[.int .i64 0,.slice none 0 0]) 2 32 Tryz.underlying70 hj hy0 hy1 hy2 rfl (by decide) _ ps.length cells rfl (World.ownsRow.alloc HOW.out.1 _) _ 1 [.int .i64 t,.slice ay ys.length cy] rfl (RdS.new (by first|rfl|simp) rfl) (by simp[Value.oneCell']) (by unfold maxLen;omega) (by omega) (by exact Qz) ?_;intro ap6 cp6 w6 hown6 hgrow6 hat6))
         have sb:wr.heap.size+1≤w6.heap.size:=by have:=hgrow6.size;simpa using this
         have hf6:Fr w w6:=Fr.app (w:=wr.alloc (.cells #[.int .i64 t,.slice ay ys.length cy] 155)) (by exact Qf) hgrow6 HOW.out.2 (Nat.le_refl _)
         have hN6:ParcelSW w6 w.heap.size w6.heap.size (.slice ap6 (ps.length+1) cp6) (ps++[⟨t,ys⟩]):=HAPP.out _ (wr.alloc (.cells #[.int .i64 t,.slice ay ys.length cy] 155)) w6 [.int .i64 t,.slice ay ys.length cy] ⟨t,ys⟩ L wr.heap.size w6.heap.size (wr.alloc (.cells #[.int .i64 t,.slice ay ys.length cy] 155)).heap.size ((Fr.refl _).alloc _) hown6 hgrow6 hat6 (RowIn.of_owns hown6) (by simp) (by omega) rfl ⟨ay,cy,rfl,OwW.alloc HW.out _⟩ hL1 (Nat.le_refl _) hL2
         have hl7:(ps++[(⟨t,ys⟩:ParcelD)]).length=ps.length+1:=by simp
         rw[← hl7]at hN6
         rw[hd.out]at hN6 hl7
         go_wp2_with fail
         go_roundw
         case rel=>exact⟨t+1,ap6,cp6,by omega,by go_num,by rw[HPN.out,hl7],Lib.hid (by rw[HPN.out];exact hN6),hf6⟩
         case measure=>(simp[intOf];omega)
       · have hz1:ys=[]:=List.eq_nil_of_length_eq_zero (by omega)
         subst hz1
         rw[chunk_nil,List.map_nil,List.append_nil]at hd
         have hP7:ParcelSW wr w.heap.size wr.heap.size (.slice ap' ps.length cp') ps:=NestP.mono HP.out (Nat.le_refl _) hL2
         rw[hd.out]at hP7
         clear HW HP
         go_wp2_with fail
         go_roundw
         case rel=>exact⟨t+1,ap',cp',by omega,by go_num,by rw[HPN.out,hd.out],Lib.hid (by rw[HPN.out];exact hP7),hf2⟩
         case measure=>(simp[intOf];omega)
  · obtain rfl:t=T:=by omega
    rw[← HPA.out]at HP
    by_cases htn:(t:Int)<n
    · have ht8:(t:Int)=8:=by omega
      go_wp2_with fail
      go_ret
      exact⟨ap,cp,by rw[HPA.out];rfl,HP.out,hfr⟩
    · go_wp2_with fail
      go_ret
      exact⟨ap,cp,by rw[HPA.out];rfl,HP.out,hfr⟩
set_option maxHeartbeats 1000000 in
theorem szWalkSS_any (a : Value) (xs : List (List WalkR)) (left : Int) (w : World) (ha : WalkSSR w a xs) (hs : WalkSSOk xs) (h0 : 0 ≤ left) (h1 : left ≤ 1048576) :
  Calls Tryz.prog 110 #[a, .int .i64 left] w fun e w' => e = .returned (.int .i64 (szR left (WalkSSBulk xs))) ∧ Fr w w' := by
 obtain ⟨ao, ba, oa, ca, rfl, hca, hma, fa⟩ := ha.one
 clear ha
 by_cases hl : (xs.length : Int) ≤ left
 · go_enter Tryz.func110, Tryz.ntmps110
   go_wp2
   go_loopw [1, 5] (fun l i wr => ∃ k : Nat, k ≤ xs.length ∧ i = .int .i64 k ∧ l = .int .i64 (left - xs.length - nSum List.length xs k) ∧ (nSum List.length xs k : Int) ≤ left - xs.length ∧ Fr w wr) (fun _ i _ => xs.length - (intOf i).toNat)
   case atStart => exact ⟨0, Nat.zero_le _, rfl, by simp [nSum], by simp [nSum]; omega, Fr.refl _⟩
   case round =>
    obtain ⟨k, hk, rfl, rfl, hj, hfr⟩ := hrel
    by_cases hlt : k < xs.length
    · obtain ⟨rfl, hba, fa⟩ := fa (by omega)
      obtain ⟨ac, ra, ga⟩ := fa k hlt
      obtain ⟨x, hx⟩ : ∃ x, nAt xs k = x := ⟨_, rfl⟩
      have c0 : wr.cell? ⟨ba, oa + k, none⟩ = some (ac) := (hfr.cell (p := ⟨ba, _, none⟩) hba).trans (by first | exact ga | (rw [← hx]; exact ga))
      rw [hx] at ra
      obtain ⟨aoc, capc, rfl, _⟩ := RdS.val ra
      have hok : (fun _ => True) x := hx ▸ nAt_mem hs k hlt
      have hsu := nSum_succ List.length xs k hlt
      rw [hx] at hsu
      have hle := nSum_le List.length xs (k + 1)
      have HSU := Lib.hid hsu
      clear hsu fa hx ga
      obtain ⟨bk, hbk⟩ : ∃ bk, List.length x = bk := ⟨_, rfl⟩
      rw [hbk] at HSU
      have HBK := Lib.hid hbk
      clear hbk
      by_cases hr : (bk : Int) ≤ left - xs.length - nSum List.length xs k
      · have hz := szR_ok hr
        go_wp2_with (go_at_call 12; refine (szWalkS_any _ x _ _ (ra.fr (by exact Qf)) (by omega) (by omega)).mono ?_; rintro e w1 ⟨rfl, hf1⟩; rw [HBK.out])
        go_roundw
        case rel => exact ⟨k + 1, by omega, by go_num, by rw [HSU.out]; go_num, by rw [HSU.out]; omega, by subst hf1; repeat (first | (with_reducible exact Fr.refl _) | (with_reducible assumption) | (with_reducible refine Fr.drewN ?_ _) | (with_reducible refine Fr.drew ?_) | (with_reducible refine Fr.alloc ?_ _) | (with_reducible refine Fr.setCell ?_ (by exact Qz) _) | (with_reducible refine Fr.trans ?_ (by with_reducible assumption)))⟩
        case measure => (simp [intOf]; omega)
      · have hz := szR_no hr
        go_wp2_with (go_at_call 12; refine (szWalkS_any _ x _ _ (ra.fr (by exact Qf)) (by omega) (by omega)).mono ?_; rintro e w1 ⟨rfl, hf1⟩; rw [HBK.out])
        go_ret
        exact ⟨ret_int (by rw [szR_no]; unfold WalkSSBulk nBulk; have := HSU.out; omega), by subst hf1; repeat (first | (with_reducible exact Fr.refl _) | (with_reducible assumption) | (with_reducible refine Fr.drewN ?_ _) | (with_reducible refine Fr.drew ?_) | (with_reducible refine Fr.alloc ?_ _) | (with_reducible refine Fr.setCell ?_ (by exact Qz) _) | (with_reducible refine Fr.trans ?_ (by with_reducible assumption)))⟩
    · clear fa
      obtain rfl : k = xs.length := by omega
      go_wp2
      go_ret
      exact ⟨ret_int (by rw [szR_ok]; · unfold WalkSSBulk nBulk; omega
                         · unfold WalkSSBulk nBulk; omega), by exact Qf⟩
 · go_enter Tryz.func110, Tryz.ntmps110
   go_wp2
   go_ret
   exact ⟨ret_int (by rw [szR_no]; unfold WalkSSBulk nBulk; omega), by exact Qf⟩
set_option maxHeartbeats 1000000 in
set_option maxRecDepth 100000 in
theorem toWalkSS_w (a:Value) (xs:List (List WalkR)) (w:World) (ha:WalkSSR w a xs) (hn:WalkSSBulk xs≤1048576):
  Calls Tryz.prog 114 #[a] w fun e w'=> ∃ ao cap,e= .returned (.slice ao xs.length cap)∧WalkSSW w' w.heap.size w'.heap.size (.slice ao xs.length cap) xs∧Fr w w':=by
 obtain⟨ao,ba,oa,ca,rfl,hca,hma,fa⟩:=ha.one
 clear ha
 have hn0:xs.length≤1048576:=by unfold WalkSSBulk nBulk at hn;omega
 have HN:=Lib.hid hn
 clear hn
 obtain⟨i0,hi,hz0,hz1,hz2⟩:=info_parts info_Walkss
 go_enter Tryz.func114,Tryz.ntmps114
 go_wp2_with(at_make;refine wpList_make_full _ rfl _ _ 69 rfl w.heap.size 37 i0 (.slice none 0 0) 1 Tryz.underlying69 hi hz0 hz1 _ _ _ _ xs.length rfl rfl rfl rfl (by rw[hz2];omega) (by unfold maxLen;omega) (by omega) ?_;intro w1 hown hgrow)
 rw[show(madeCells (Value.cells (.slice none 0 0)) (xs.length*1)).toList=fillR xs (fun _=>[]) [.slice none 0 0] 0 from made_fill xs (fun _=>[]) [.slice none 0 0] 1 rfl (by omega)]at hown
 go_loopw [4] (fun i wr=> ∃ k:Nat,k≤xs.length∧i= .int .i64 k∧NestP WalkssEW 37 1 wr w.heap.size wr.heap.size (.slice (some ⟨w.heap.size,0,none⟩) xs.length xs.length) xs.length ((List.replicate (xs.length-k) [.slice none 0 0]).flatten) (xs.take k)∧Fr w wr) (fun i _=>xs.length-(intOf i).toNat)
 case atStart=>exact⟨0,Nat.zero_le _,rfl,NestP.none_yet (OwW.of_owns (by simpa [fillR]using hown)),(Fr.refl w).grown hgrow (by simp)⟩
 case round=>
  clear hown hgrow
  obtain⟨k,hk,rfl,ho,hfr⟩:=hrel
  by_cases hlt:k<xs.length
  · obtain⟨rfl,hba,fa⟩:=fa (by omega)
    obtain⟨ac,ra,ga⟩:=fa k hlt
    obtain⟨x,hx⟩: ∃ x,nAt xs k=x:=⟨_,rfl⟩
    have hxl:x.length≤1048576:=by
     have h1:=nSum_succ List.length xs k hlt
     have h2:=nSum_le List.length xs (k+1)
     have h3:=HN.out
     unfold WalkSSBulk nBulk at h3
     rw[hx]at h1
     have h4:List.length x≤1048576:=by omega
     clear h1 h2 h3 hx
     revert h4
     intro h4
     exact(by omega)
    have c0:wr.cell? ⟨ba,oa+k,none⟩=some (ac):=(hfr.cell (p:=⟨ba,_,none⟩) hba).trans (by first|exact ga|(rw[← hx];exact ga))
    have HX:=Lib.hid (take_next xs k hlt)
    rw[hx]at ra HX
    obtain⟨aoc,capc,rfl,_⟩:=RdS.val ra
    have hkl:(xs.take k).length=k:=by simp;omega
    have hsz:=ho.block.2.2
    rw[show xs.length-k=(xs.length-(k+1))+1 from by omega,List.replicate_succ,List.flatten_cons]at ho
    clear fa hx ga
    go_wp2_with(go_at_call 15;refine(toWalkS_w _ x _ (ra.fr (by exact Qf)) hxl).mono ?_;rintro e w2 ⟨aor,capr,rfl,hr2,hf1⟩;have p0:=NestP.fr (E:=WalkssEW) (fun a b c=>WalkssEW.span a b c) ho hf1;obtain⟨g0,u0,d0⟩:=p0.spot (k) (by omega))
    have p0:=NestP.fr (E:=WalkssEW) (fun a b c=>WalkssEW.span a b c) ho hf1
    have p1:=NestP.stored (E:=WalkssEW) (fun a b c=>WalkssEW.span a b c) p0 0 (.slice aor x.length capr) (by simp) (i:=k) (by omega)
    go_roundw
    case rel=>
     refine⟨k+1,by omega,by go_num,?_,by exact Qf⟩
     rw[HX.out]
     have zf:=hf1.size
     refine NestP.grow (l1:=wr.heap.size) (h1:=w2.heap.size) (u:=[.slice aor x.length capr]) p1 rfl ?_ (by omega) (Nat.le_refl _) zf (by exact Qz)
     skip
     exact⟨aor,capr,rfl,by change OwW _ _ _ _ _ _ _ _;(repeat(first|(with_reducible refine OwW.drewN ?_ _)|(with_reducible refine OwW.drew ?_)|(with_reducible refine OwW.alloc ?_ _)|(with_reducible refine OwW.set ?_ (by exact Qz) _)|(exact hr2)))⟩
    case measure=>(simp[intOf];omega)
  · clear fa
    obtain rfl:k=xs.length:=by omega
    simp only[Nat.sub_self,List.replicate_zero,List.flatten_nil,List.take_length]at ho
    go_wp2
    go_ret
    exact⟨_,_,rfl,ho,hfr⟩
end Go.Proofs.YtmdgdnkllclpcaaGreat