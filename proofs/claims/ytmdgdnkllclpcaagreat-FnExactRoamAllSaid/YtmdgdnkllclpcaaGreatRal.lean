/- RoamAll of both. Conditions: the sizes of the query and of the picks. -/
import Derived.Test.YtmdgdnkllclpcaaGreatRap
import Derived.Test.YtmdgdnkllclpcaaGreatRst
import Derived.Test.YtmdgdnkllclpcaaGreatRnw
import Derived.Test.YtmdgdnkllclpcaaGreatRsq
import Derived.Test.YtmdgdnkllclpcaaGreatRns
import Derived.Test.YtmdgdnkllclpcaaGreatWe
import Derived.Deep.LoopGhost
namespace Go.Proofs.YtmdgdnkllclpcaaGreat
open Go.RowKit
set_option linter.unusedVariables false
set_option linter.unusedSimpArgs false
theorem RI.few {g:GraphD} {q:QueryD} {n:Int} {R:WalkR→Prop} {m:Nat} {r:RoamD} (hR:RoamR g q n R) (hm:m≤8) (h:RI R n m r) (hu:muR r≤850231296):RoamFew r:=by
 obtain⟨h1,h2,h3⟩:=h.lens hR hm hu
 exact⟨by omega,fun k hk=>by have:=h2 k hk;omega,fun k hk=>by have:=h3 k hk;omega⟩
theorem NfasW.tch {w w':World} {lo hi:Nat} {v:Value} {xs:List NfaD} {C:Nat→Prop} (h:NfasW w lo hi v xs) (t:Tch C w w') (hb: ∀ g,lo≤g→g<hi→ ¬ C g):NfasW w' lo hi v xs:=by
 obtain⟨us,los,his,h1,h2,h3,h4⟩:=h
 exact⟨us,los,his,h1,OwW.tch h2 t hb,fun k u x hu hx=>by
  obtain⟨a1,⟨y,z,e1,e2,e3⟩,a3,a4,a5,a6⟩:=h3 k u x hu hx
  exact⟨a1,⟨y,z,e1,OwW.tch e2 t (fun g g1 g2=>hb g (by omega) (by omega)),OwW.tch e3 t (fun g g1 g2=>hb g (by omega) (by omega))⟩,a3,a4,a5,a6⟩,h4⟩
/-- The rows of a roaming between blocks b0 and the end, none in block b. -/
def RnH (w:World) (b0 b:Nat) (u1 u2:Value) (r:RoamD):Prop:= ∃ lo hi,b0≤lo∧hi≤w.heap.size∧(hi≤b∨b<lo)∧RoamX w lo hi u1 u2 r
theorem RnH.fr {w w':World} {b0 b:Nat} {u1 u2:Value} {r:RoamD} (h:RnH w b0 b u1 u2 r) (hf:Fr w w'):RnH w' b0 b u1 u2 r:=by
 obtain⟨lo,hi,h1,h2,h3,h4⟩:=h
 have:=hf.size
 exact⟨lo,hi,h1,by omega,h3,h4.fr hf⟩
theorem RnH.set {w:World} {b0 b:Nat} {u1 u2:Value} {r:RoamD} (h:RnH w b0 b u1 u2 r) (j:Nat) (v:Value):RnH (w.setCell ⟨b,j,none⟩ v) b0 b u1 u2 r:=by
 obtain⟨lo,hi,h1,h2,h3,h4⟩:=h
 exact⟨lo,hi,h1,by simpa using h2,h3,h4.tch (Tch.set (B:=fun q=>q=b) (p:=⟨b,j,none⟩) (Tch.refl _ w) (.inl rfl) v) fun q q1 q2 e=>by omega⟩
theorem RnH.low {w:World} {b0 b:Nat} {u1 u2:Value} {r:RoamD} (h:RnH w b0 b u1 u2 r) {c:Nat} (hc:c<b0) (j:Nat) (v:Value):RnH (w.setCell ⟨c,j,none⟩ v) b0 b u1 u2 r:=by
 obtain⟨lo,hi,h1,h2,h3,h4⟩:=h
 exact⟨lo,hi,h1,by simpa using h2,h3,h4.tch (Tch.set (B:=fun q=>q=c) (p:=⟨c,j,none⟩) (Tch.refl _ w) (.inl rfl) v) fun q q1 q2 e=>by omega⟩
theorem RnH.rd {w:World} {b0 b:Nat} {u1 u2:Value} {r:RoamD} (h:RnH w b0 b u1 u2 r):RoamRd w (.agg #[u1,u2]) r:=by
 obtain⟨lo,hi,h1,h2,h3,h4⟩:=h
 exact⟨u1,u2,rfl,h4.rds.1,h4.rds.2⟩
theorem RnH.post {w w':World} {b0 b:Nat} {a1 a2:Option Addr} {c1 c2:Nat} {r:RoamD} {ok:Bool} (h:RnH w' b0 b (.slice a1 r.f0.length c1) (.slice a2 r.f1.length c2) r) (hb:w.heap.size≤b0) (hf:Fr w w'):RnPost w r ok (.returned (.tuple #[.agg #[.slice a1 r.f0.length c1,.slice a2 r.f1.length c2],.bool ok])) w':=by
 obtain⟨lo,hi,h1,h2,h3,h4⟩:=h
 exact⟨a1,c1,a2,c2,rfl,⟨a1,c1,a2,c2,rfl,h4.mono (by omega) h2⟩,hf⟩
theorem RnPost.out {w w':World} {r:RoamD} {ok:Bool} {e:Ending} (h:RnPost w r ok e w') (b:Nat) (hb:b<w.heap.size): ∃ a1 c1 a2 c2,e= .returned (.tuple #[.agg #[.slice a1 r.f0.length c1,.slice a2 r.f1.length c2],.bool ok])∧RoamX w' w.heap.size w'.heap.size (.slice a1 r.f0.length c1) (.slice a2 r.f1.length c2) r∧Fr w w':=by
 obtain⟨a1,c1,a2,c2,rfl,⟨x1,y1,x2,y2,hv,hx⟩,hf⟩:=h
 cases hv
 exact⟨a1,c1,a2,c2,rfl,hx,hf⟩
theorem pick_next (g:GraphD) (q:QueryD) (n:Int) (ps:List Int) (r:RoamD) {k:Nat} (h:k<ps.length):pickR g q n (ps.drop k) r=pickR g q n (ps.drop (k+1)) (rstD g q n r (iAt ps k)):=by
 have:ps.drop k=iAt ps k::ps.drop (k+1):=by
  rw[List.drop_eq_getElem_cons h]
  simp[iAt,List.getD,List.getElem?_eq_getElem h]
 rw[this,pickR]
theorem drain_next {g:GraphD} {q:QueryD} {n:Int} {r S:RoamD} {f:Nat} (hR:RoamR g q n wIn) (h:newOk g q n=true) (hI:RI wIn n n.toNat r) (hp:0<r.f1.length) (hu:muR r≤f) (hd:drainR g q n f r=S): ∃ f',f=f'+1∧muR (rstR g q n r 0)≤f'∧drainR g q n f' (rstR g q n r 0)=S:=by
 obtain⟨h1,h2,h3,h4,h5⟩:=newOk_out h
 have:=hI.step hR h1 h2 h5 hp
 obtain⟨f',rfl⟩: ∃ f',f=f'+1:=⟨f-1,by omega⟩
 rw[drainR,if_pos hp]at hd
 exact⟨f',rfl,by omega,hd⟩
theorem rst_zero {g:GraphD} {q:QueryD} {n:Int} {r:RoamD} (h:newOk g q n=true) (hI:RI wIn n n.toNat r):(rstOk g q n r 0=true→0<r.f1.length∧rstD g q n r 0=rstR g q n r 0)∧(rstOk g q n r 0=false→r.f1.length=0∧rstD g q n r 0=r):=by
 refine⟨fun hs=>?_,fun hs=>⟨?_,rstD_no hs⟩⟩
 · have e:=rstD_yes hs
   rw[hI.ok h]at hs
   simp only[Bool.and_eq_true,decide_eq_true_eq]at hs
   exact⟨hs.1,by rw[e];simp⟩
 · rw[hI.ok h]at hs
   simp at hs
   simp[hs]
set_option maxHeartbeats 16000000 in
set_option maxRecDepth 100000 in
theorem implRoamAll_any (gv qv pv:Value) (g:GraphD) (q:QueryD) (n:Int) (ps:List Int) (w:World) (hg:GraphRd w gv g) (hq:QueryRd w qv q) (hp:IntsR w pv ps) (hn:q.bulk≤1048576) (hps:ps.length≤1048576):
  Calls Tryz.prog 49 #[gv,qv,.int .i64 n,pv] w fun e w'=>RnPost w (allD g q n ps) (allOk g q n ps) e w':=by
 obtain⟨nb,hnb⟩: ∃ nb,newOk g q n=nb:=⟨_,rfl⟩
 obtain⟨R0,hR0⟩: ∃ R0,newD g q n=R0:=⟨_,rfl⟩
 obtain⟨R,hR⟩: ∃ R,allD g q n ps=R:=⟨_,rfl⟩
 obtain⟨O,hO⟩: ∃ O,allOk g q n ps=O:=⟨_,rfl⟩
 have HG:=Lib.hid hg;have HQ:=Lib.hid hq
 have CN:Hid (∀ w',Fr w w'→Calls Tryz.prog 39 #[gv,qv,.int .i64 n] w' fun e w''=>RnPost w' R0 nb e w''):=Lib.hid fun w' h=>by rw[← hR0, ← hnb];exact implRoamNew_any gv qv g q n w' (HG.out.fr h) (HQ.out.fr h) hn
 have CS:Hid (∀ rv r k w',Fr w w'→RoamRd w' rv r→RoamFew r→Calls Tryz.prog 46 #[gv,qv,.int .i64 n,rv,.int .i64 k] w' fun e w''=>RnPost w' (rstD g q n r k) (rstOk g q n r k) e w''):=Lib.hid fun rv r k w' h hr hb=>implRoamStep_any gv qv rv g q r n k w' (HG.out.fr h) (HQ.out.fr h) hr hn hb
 have HNO:Hid (nb=false∨200<ps.length→R=⟨[],[]⟩∧O=false):=Lib.hid fun h=>by
  have h2:allOk g q n ps=false:=by
   unfold allOk
   rw[hnb]
   rcases h with h|h
   · rw[h];rfl
   · rw[decide_eq_false (by omega)];simp
  exact⟨hR.symm.trans (by unfold allD;rw[h2];rfl),hO.symm.trans h2⟩
 have HYES:Hid (nb=true→ps.length≤200→O=true∧newOk g q n=true∧RoamR g q n wIn∧n.toNat≤8∧R=drainR g q n (muR (pickR g q n ps R0)) (pickR g q n ps R0)∧RI wIn n n.toNat R0∧muR R0≤850231296):=Lib.hid fun h1 h2=>by
  have h3:=hnb.trans h1
  have h4:allOk g q n ps=true:=by unfold allOk;rw[h3,decide_eq_true h2];rfl
  obtain⟨e1,e2,e3,e4,e5⟩:=newOk_out h3
  have h5:=newD_RI (wIn_roam (q:=q) (n:=n) e1) h3
  rw[hR0]at h5
  exact⟨hO.symm.trans h4,h3,wIn_roam e1,by omega,hR.symm.trans (by unfold allD;rw[if_pos h4,allR,hR0]),h5.1,h5.2⟩
 rw[hR,hO]
 obtain⟨ue,rfl,he⟩:=hg;obtain⟨ae,be,oe,ce,rfl,hce,hme,fe⟩:=he.one;obtain⟨u1,u2,u3,rfl,r1,r2,r3⟩:=hq;obtain⟨ao,bo,oo,co,rfl,hco,hmo,ko⟩:=r1.one;obtain⟨ax,bx,ox,cx,rfl,hcx,hmx,kx⟩:=r2.one;obtain⟨af,bf,of,cf,rfl,hcf,hmf,kf⟩:=r3.one;clear he fe r1 r2 r3 ko kx kf
 obtain⟨ap,bp,op,cp,rfl,hcp,hmp,fp⟩:=IntsR.one hp
 have FP:=Lib.hid fp
 clear hp fp hnb hR0 hR hO hn HG HQ
 by_cases hlen:200<ps.length
 · go_enter Tryz.func49,Tryz.ntmps49
   obtain⟨h1,h2⟩:=HNO.out (by first|(left;rfl)|(right;omega));have H1:=Lib.hid h1;have H2:=Lib.hid h2;clear h1 h2;go_wp2_with fail;rw[H1.out,H2.out];(refine bodyPost_ret (v:= .tuple #[.agg #[.slice none 0 0,.slice none 0 0],.bool false]) (by simp[results,Tryz.results49,go_sem, *]) rfl ?_);exact RnPost.no _ _ (by exact Qf)
 go_enter Tryz.func49,Tryz.ntmps49
 go_wp2_with fail
 refine(CN.out _ (by exact Qf)).mono ?_
 intro e w1 h1
 obtain⟨a1,c1,a2,c2,rfl,hX1,hf1⟩:=h1.out 0 (by simp)
 have BG1:Box w1 w.heap.size #[.int .i64 g.f0,.slice ae g.f1.length ce] 55:=Box.fr (Box.alloc (Box.alloc (Box.new' rfl) _) _) hf1
 have BQ1:Box w1 (w.heap.size+1) #[.bool q.f0,.slice ao q.f1.length co,.slice ax q.f2.length cx,.slice af q.f3.length cf] 35:=Box.fr (Box.alloc (Box.new' (by simp)) _) hf1
 have BR1:Box w1 (w.heap.size+1+1) #[.slice none 0 0,.slice none 0 0] 72:=Box.fr (Box.new' (by simp)) hf1
 have FR1:=BR1.facts
 have z1:=hf1.size
 (try simp only[World.size_alloc]at z1)
 cases nb
 · obtain⟨h1,h2⟩:=HNO.out (by first|(left;rfl)|(right;omega));have H1:=Lib.hid h1;have H2:=Lib.hid h2;clear h1 h2;go_wp2_with fail;rw[H1.out,H2.out];(refine bodyPost_ret (v:= .tuple #[.agg #[.slice none 0 0,.slice none 0 0],.bool false]) (by simp[results,Tryz.results49,go_sem, *]) rfl ?_);exact RnPost.no _ _ (by exact Qf)
 obtain⟨hO,hok,hRR,hN8,hR,hI,hmu⟩:=HYES.out (by first|rfl|trivial) (by omega)
 obtain⟨P,hP⟩: ∃ P,pickR g q n ps R0=P:=⟨_,rfl⟩
 rw[hP]at hR
 have HO:=Lib.hid hO
 have HOK:=Lib.hid hok
 have HRW:=Lib.hid hRR
 have HR:=Lib.hid hR
 have HI0:Hid (RI wIn n n.toNat R0∧muR R0≤850231296):=Lib.hid ⟨hI,hmu⟩
 have HP0:Hid (pickR g q n (ps.drop 0) R0=P):=Lib.hid hP
 have HPI:Hid (RI wIn n n.toNat P∧muR P≤850231296):=Lib.hid (by have:=pick_RI hRR hok ps R0 hI;rw[hP]at this;exact⟨this.1,by omega⟩)
 have HFW:Hid (∀ r,RI wIn n n.toNat r∧muR r≤850231296→RoamFew r):=Lib.hid fun r h=>RI.few hRR hN8 h.1 h.2
 have HST:Hid (∀ r k,RI wIn n n.toNat r∧muR r≤850231296→RI wIn n n.toNat (rstD g q n r k)∧muR (rstD g q n r k)≤850231296):=Lib.hid fun r k h=>by have:=h.1.stepD hRR hok k;exact⟨this.1,by omega⟩
 have HX1:=Lib.hid hX1
 clear CN HNO HYES hO hok hRR hR hI hmu hP h1 hX1
 have hbw:w.heap.size+3≤w1.heap.size:=by omega
 have HH0:Hid (RnH w1 (w.heap.size+3) w1.heap.size (.slice a1 R0.f0.length c1) (.slice a2 R0.f1.length c2) R0):=Lib.hid ⟨w1.heap.size-(w1.heap.size-(w.heap.size+3)),w1.heap.size,by omega,Nat.le_refl _,.inl (Nat.le_refl _),by have h:=HX1.out;simp only[World.size_alloc]at h;exact h.mono (by omega) (Nat.le_refl _)⟩
 go_wp2_with fail
 go_loopw [30] (fun i wr=> ∃ (k:Nat) (r:RoamD) (x1 x2:Option Addr) (y1 y2:Nat),k≤ps.length∧i= .int .i64 k∧Hid (pickR g q n (ps.drop k) r=P)∧Hid (RI wIn n n.toNat r∧muR r≤850231296)∧Hid (RnH wr (w.heap.size+3) w1.heap.size (.slice x1 r.f0.length y1) (.slice x2 r.f1.length y2) r)∧Box wr w1.heap.size #[.slice x1 r.f0.length y1,.slice x2 r.f1.length y2] 72∧Box wr w.heap.size #[.int .i64 g.f0,.slice ae g.f1.length ce] 55∧Box wr (w.heap.size+1) #[.bool q.f0,.slice ao q.f1.length co,.slice ax q.f2.length cx,.slice af q.f3.length cf] 35∧Box wr (w.heap.size+1+1) #[.slice none 0 0,.slice none 0 0] 72∧Fr w wr) (fun i _=>ps.length-(intOf i).toNat)
 case atStart=>exact⟨0,R0,a1,a2,c1,c2,Nat.zero_le _,rfl,HP0,HI0,Lib.hid (RnH.fr HH0.out (by exact Qf)),Box.new' rfl,BG1.alloc _,BQ1.alloc _,BR1.alloc _,by exact Qf⟩
 case round=>
  clear BG1 BQ1 BR1 FR1 HP0 HI0 HH0 HX1
  obtain⟨k,r,x1,x2,y1,y2,hk,rfl,HP,HI,HH,BO,BG,BQ,BR,hfr⟩:=hrel
  have zw:=hfr.size
  have hbz:=BO.lt
  by_cases hlt:k<ps.length
  · obtain⟨rfl,hb0,f0⟩:=FP.out (by omega)
    have fk:=(hfr.cell (p:=⟨bp,_,none⟩) hb0).trans (f0 k hlt)
    clear f0
    have FO:=BO.facts;have FG:=BG.facts;have FQ:=BQ.facts
    have HPN:Hid (pickR g q n (ps.drop (k+1)) (rstD g q n r (iAt ps k))=P):=Lib.hid ((pick_next g q n ps r hlt).symm.trans HP.out)
    go_wp2_with fail
    refine(CS.out _ r _ _ (by exact Qf) HH.out.rd (HFW.out r HI.out)).mono ?_
    intro e w2 h2
    obtain⟨a3,c3,a4,c4,rfl,hX2,hf2⟩:=h2.out 0 (by omega)
    have z2:=hf2.size
    have HX2:=Lib.hid hX2
    have BO2:=BO.fr hf2;have BG2:=BG.fr hf2;have BQ2:=BQ.fr hf2;have BR2:=BR.fr hf2
    clear h2 hX2 BO BG BQ BR FO FG FQ fk
    have FO2:=BO2.facts
    have hfw2:Fr w w2:=by exact Qf
    go_wp2_with fail
    go_roundw
    case rel=>exact⟨k+1,_,a3,a4,c3,c4,by omega,by go_num,HPN,Lib.hid (HST.out _ _ HI.out),Lib.hid (RnH.set (RnH.set ⟨wr.heap.size,w2.heap.size,by omega,Nat.le_refl _,.inr (by omega),HX2.out⟩ _ _) _ _),Box.set_to (Box.set_to BO2 rfl) rfl,(BG2.far (by omega) _).far (by omega) _,(BQ2.far (by omega) _).far (by omega) _,(BR2.far (by omega) _).far (by omega) _,by exact Qf⟩
    case measure=>(simp[intOf];omega)
  · obtain rfl:k=ps.length:=by omega
    have hp:=HP.out
    rw[List.drop_length,pickR]at hp
    subst hp
    have FO:=BO.facts
    go_wp2_with fail
    go_loopg [11] (muR r+1) (fun gk o wr=> ∃ (r':RoamD) (x1 x2:Option Addr) (y1 y2 f:Nat) (ok:Bool),o= .bool ok∧muR r'≤f∧(if ok then f+1 else f)≤gk∧Hid (drainR g q n f r'=R)∧Hid (ok=false→r'.f1.length=0)∧Hid (RI wIn n n.toNat r'∧muR r'≤850231296)∧Hid (RnH wr (w.heap.size+3) w1.heap.size (.slice x1 r'.f0.length y1) (.slice x2 r'.f1.length y2) r')∧Box wr w1.heap.size #[.slice x1 r'.f0.length y1,.slice x2 r'.f1.length y2] 72∧Box wr w.heap.size #[.int .i64 g.f0,.slice ae g.f1.length ce] 55∧Box wr (w.heap.size+1) #[.bool q.f0,.slice ao q.f1.length co,.slice ax q.f2.length cx,.slice af q.f3.length cf] 35∧Box wr (w.heap.size+1+1) #[.slice none 0 0,.slice none 0 0] 72∧Fr w wr)
    case atStart=>exact⟨r,x1,x2,y1,y2,muR r,true,rfl,Nat.le_refl _,Nat.le_refl _,Lib.hid HR.out.symm,Lib.hid (fun h=>by cases h),HI,HH,BO,BG,BQ,BR,hfr⟩
    case round=>
     clear HH HI BO BG BQ BR FO hfr zw hbz HP
     obtain⟨r',x1,x2,y1,y2,f,ok,rfl,hmf,hgk,HD,HE,HI,HH,BO,BG,BQ,BR,hfr⟩:=hrel
     have zw:=hfr.size
     have hbz:=BO.lt
     have FO:=BO.facts
     cases ok
     · have hz:=HE.out rfl
       have hd:=HD.out
       rw[drain_nil _ hz]at hd
       subst hd
       have FR3:=BR.facts
       have BRF:=((BR.set 0 (.slice x1 r'.f0.length y1)).set 1 (.slice x2 r'.f1.length y2)).facts
       go_wp2_with fail
       rw[HO.out]
       refine bodyPost_ret (v:= .tuple #[.agg #[.slice x1 r'.f0.length y1,.slice x2 r'.f1.length y2],.bool true]) (by simp[results,Tryz.results49,go_sem, *]) rfl ?_
       exact RnH.post (b:=w1.heap.size) (RnH.low (RnH.low HH.out (by omega) _ _) (by omega) _ _) (by omega) (by exact Qf)
     · simp only[if_true]at hgk
       have FG:=BG.facts;have FQ:=BQ.facts
       obtain⟨ob,hob⟩: ∃ ob,rstOk g q n r' 0=ob:=⟨_,rfl⟩
       have HZ:=Lib.hid (rst_zero HOK.out HI.out.1)
       rw[hob]at HZ
       have HDN:Hid (0<r'.f1.length→ ∃ f',f=f'+1∧muR (rstR g q n r' 0)≤f'∧drainR g q n f' (rstR g q n r' 0)=R):=Lib.hid fun h=>drain_next HRW.out HOK.out HI.out.1 h hmf HD.out
       have HSN:=Lib.hid (HST.out r' 0 HI.out)
       go_wp2_with fail
       refine(CS.out _ r' _ _ (by exact Qf) HH.out.rd (HFW.out r' HI.out)).mono ?_
       intro e w2 h2
       obtain⟨a3,c3,a4,c4,rfl,hX2,hf2⟩:=h2.out 0 (by omega)
       have z2:=hf2.size
       have HX2:=Lib.hid hX2
       have BO2:=BO.fr hf2;have BG2:=BG.fr hf2;have BQ2:=BQ.fr hf2;have BR2:=BR.fr hf2
       clear h2 hX2 BO BG BQ BR FO FG FQ
       have FO2:=BO2.facts
       have hfw2:Fr w w2:=by exact Qf
       rw[hob]
       go_wp2_with fail
       go_roundg f
       case measure=>omega
       case rel=>
        obtain⟨f',k1,k2,k3,k4⟩: ∃ f',muR (rstD g q n r' 0)≤f'∧(if ob then f'+1 else f')≤f∧drainR g q n f' (rstD g q n r' 0)=R∧(ob=false→(rstD g q n r' 0).f1.length=0):=by
         cases ob
         · obtain⟨e1,e2⟩:=HZ.out.2 rfl
           rw[e2]
           exact⟨f,hmf,Nat.le_refl _,HD.out,fun _=>e1⟩
         · obtain⟨e1,e2⟩:=HZ.out.1 rfl
           obtain⟨f',j1,j2,j3⟩:=HDN.out e1
           rw[e2]
           exact⟨f',j2,by simp[j1],j3,fun h=>by cases h⟩
        exact⟨_,a3,a4,c3,c4,f',ob,rfl,k1,k2,Lib.hid k3,Lib.hid k4,HSN,Lib.hid (RnH.set (RnH.set ⟨wr.heap.size,w2.heap.size,by omega,Nat.le_refl _,.inr (by omega),HX2.out⟩ _ _) _ _),Box.set_to (Box.set_to BO2 rfl) rfl,(BG2.far (by omega) _).far (by omega) _,(BQ2.far (by omega) _).far (by omega) _,(BR2.far (by omega) _).far (by omega) _,by exact Qf⟩
/-! ### the reference -/
/-- The rows of a roaming in the blocks that the run has made, but for block b and those between b and zA. -/
def RaS (w wr:World) (b zA:Nat) (a1:Option Addr) (c1:Nat) (a2:Option Addr) (c2:Nat) (r:RoamD):Prop:= ∃ L1 L2,L1.map Itm.x=r.f0∧L2.map Itm.x=r.f1∧RoamS wr (fun j=>(w.heap.size+3≤j∧j<b)∨(zA≤j∧j<wr.heap.size)) (.slice a1 L1.length c1) (.slice a2 L2.length c2) L1 L2
def RaD (w:World) (b zA:Nat) (j:Nat):Prop:=w.heap.size+3≤j∧(j≤b∨zA≤j)
theorem RaS.fr {w wr w':World} {b zA:Nat} {a1 a2:Option Addr} {c1 c2:Nat} {r:RoamD} (h:RaS w wr b zA a1 c1 a2 c2 r) (hf:Fr wr w'):RaS w w' b zA a1 c1 a2 c2 r:=by
 obtain⟨L1,L2,h1,h2,h3⟩:=h
 have:=hf.size
 exact⟨L1,L2,h1,h2,(h3.fr hf).sub fun g hg=>by omega⟩
set_option maxRecDepth 100000 in
theorem allStep_any {g:GraphD} {q:QueryD} {N:Nat} {w:World} {b zA:Nat} (gv av:Value) (hg:GraphRd w gv g) (hok:newOk g q (N:Int)=true) (hR:RoamR g q (N:Int) wIn) (hb:w.heap.size+3≤b) (hbA:b<zA)
  (r:RoamD) (m:Nat) (hm:m<r.f1.length) (hI:RI wIn (N:Int) N r∧muR r≤850231296) (a1 a2:Option Addr) (c1 c2:Nat) (w':World) (hf:Fr w w') (hz:zA≤w'.heap.size) (ha:NfasW w' (b+1) zA av (autL q)) (hB:Box w' b #[.slice a1 r.f0.length c1,.slice a2 r.f1.length c2] 72) (hS:RaS w w' b zA a1 c1 a2 c2 r):
  Calls Tryz.prog 113 #[gv,av,.int .i64 N,.pointer (some ⟨b,0,none⟩),.int .i64 m] w' fun e w''=>e= .returned (.tuple #[])∧ ∃ a6 c6,Box w'' b #[.slice a1 (rstR g q N r m).f0.length c1,.slice a6 (rstR g q N r m).f1.length c6] 72∧RaS w w'' b zA a1 c1 a6 c6 (rstR g q N r m)∧NfasW w'' (b+1) zA av (autL q)∧Tch (RaD w b zA) w' w'':=by
 obtain⟨e1,e2,e3,e4,e5⟩:=newOk_out hok
 obtain⟨L1,L2,hx1,hx2,hV⟩:=hS
 have l1:L1.length=r.f0.length:=by rw[← hx1,List.length_map]
 have l2:L2.length=r.f1.length:=by rw[← hx2,List.length_map]
 have hl:=hI.1.len
 have hp:=(hI.1.par _ (nAt_in hm)).1
 rw[← l1, ← l2]at hB
 refine(l21Step_any gv av g q r N m b a1 a2 c1 c2 L1 L2 _ w' (hg.fr hf) (NfasW.rd ha) e1 e2 hB hV hx1 hx2 (fun j hj=>by have:=hB.lt;omega) (fun hj=>by omega) (by omega) (by omega) (by omega) hp (RI.few hR (by omega) hI.1 hI.2)).mono ?_
 rintro e w'' ⟨rfl,a6,c6,M1,M2,k1,k2,k3,k4,k5,k6⟩
 have z:=k6.size
 have T:Tch (RaD w b zA) w' w'':=k6.sub fun j _ hj=>by unfold RaD;omega
 have m1:M1.length=(rstR g q N r m).f0.length:=by rw[← k2,List.length_map]
 have m2:M2.length=(rstR g q N r m).f1.length:=by rw[← k3,List.length_map]
 refine⟨rfl,a6,c6,by rw[← m1, ← m2];exact k4,⟨M1,M2,k2,k3,k5.sub fun j hj=>by omega⟩,ha.tch T fun j j1 j2 hj=>by unfold RaD at hj;omega,T⟩
set_option maxHeartbeats 16000000 in
set_option maxRecDepth 100000 in
theorem specRoamAll_any (gv qv pv:Value) (g:GraphD) (q:QueryD) (n:Int) (ps:List Int) (w:World) (hg:GraphRd w gv g) (hq:QueryRd w qv q) (hp:IntsR w pv ps) (hn:q.bulk≤1048576) (hps:ps.length≤1048576):
  Calls Tryz.prog 47 #[gv,qv,.int .i64 n,pv] w fun e w'=>RnPost w (allD g q n ps) (allOk g q n ps) e w':=by
 obtain⟨nb,hnb⟩: ∃ nb,newOk g q n=nb:=⟨_,rfl⟩
 obtain⟨R0,hR0⟩: ∃ R0,newD g q n=R0:=⟨_,rfl⟩
 obtain⟨R,hR⟩: ∃ R,allD g q n ps=R:=⟨_,rfl⟩
 obtain⟨O,hO⟩: ∃ O,allOk g q n ps=O:=⟨_,rfl⟩
 have HG:=Lib.hid hg;have HQ:=Lib.hid hq
 have CN:Hid (∀ w',Fr w w'→Calls Tryz.prog 38 #[gv,qv,.int .i64 n] w' fun e w''=>RnPost w' R0 nb e w''):=Lib.hid fun w' h=>by rw[← hR0, ← hnb];exact specRoamNew_any gv qv g q n w' (HG.out.fr h) (HQ.out.fr h) hn
 have CF:Hid (newOk g q n=true→ ∀ w',Fr w w'→Calls Tryz.prog 57 #[qv] w' fun e w''=> ∃ ao cap,e= .returned (.slice ao (autL q).length cap)∧NfasW w'' w'.heap.size w''.heap.size (.slice ao (autL q).length cap) (autL q)∧Fr w' w''):=Lib.hid fun h2 w' h=>l20Nfas_d qv q w' (HQ.out.fr h) hn (newOk_out h2).2.1
 have HNO:Hid (nb=false∨200<ps.length→R=⟨[],[]⟩∧O=false):=Lib.hid fun h=>by
  have h2:allOk g q n ps=false:=by
   unfold allOk
   rw[hnb]
   rcases h with h|h
   · rw[h];rfl
   · rw[decide_eq_false (by omega)];simp
  exact⟨hR.symm.trans (by unfold allD;rw[h2];rfl),hO.symm.trans h2⟩
 have HYES:Hid (nb=true→ps.length≤200→O=true∧newOk g q n=true∧RoamR g q n wIn∧1≤n∧n≤8∧R=drainR g q n (muR (pickR g q n ps R0)) (pickR g q n ps R0)∧RI wIn n n.toNat R0∧muR R0≤850231296):=Lib.hid fun h1 h2=>by
  have h3:=hnb.trans h1
  have h4:allOk g q n ps=true:=by unfold allOk;rw[h3,decide_eq_true h2];rfl
  obtain⟨e1,e2,e3,e4,e5⟩:=newOk_out h3
  have h5:=newD_RI (wIn_roam (q:=q) (n:=n) e1) h3
  rw[hR0]at h5
  exact⟨hO.symm.trans h4,h3,wIn_roam e1,e3,e4,hR.symm.trans (by unfold allD;rw[if_pos h4,allR,hR0]),h5.1,h5.2⟩
 rw[hR,hO]
 obtain⟨ue,rfl,he⟩:=hg;obtain⟨ae,be,oe,ce,rfl,hce,hme,fe⟩:=he.one;obtain⟨u1,u2,u3,rfl,r1,r2,r3⟩:=hq;obtain⟨ao,bo,oo,co,rfl,hco,hmo,ko⟩:=r1.one;obtain⟨ax,bx,ox,cx,rfl,hcx,hmx,kx⟩:=r2.one;obtain⟨af,bf,of,cf,rfl,hcf,hmf,kf⟩:=r3.one;clear he fe r1 r2 r3 ko kx kf
 obtain⟨ap,bp,op,cp,rfl,hcp,hmp,fp⟩:=IntsR.one hp
 have FP:=Lib.hid fp
 clear hp fp hnb hR0 hR hO hn HQ
 go_enter Tryz.func47,Tryz.ntmps47
 go_wp2_with fail
 refine(CN.out _ (by exact Qf)).mono ?_
 intro e w1 h1
 obtain⟨a1,c1,a2,c2,rfl,hX1,hf1⟩:=h1.out 0 (by simp)
 have BG1:Box w1 w.heap.size #[.int .i64 g.f0,.slice ae g.f1.length ce] 55:=Box.fr (Box.alloc (Box.alloc (Box.new' rfl) _) _) hf1
 have BQ1:Box w1 (w.heap.size+1) #[.bool q.f0,.slice ao q.f1.length co,.slice ax q.f2.length cx,.slice af q.f3.length cf] 35:=Box.fr (Box.alloc (Box.new' (by simp)) _) hf1
 have BR1:Box w1 (w.heap.size+1+1) #[.slice none 0 0,.slice none 0 0] 72:=Box.fr (Box.new' (by simp)) hf1
 have FR1:=BR1.facts
 have z1:=hf1.size
 (try simp only[World.size_alloc]at z1)
 have hfw1:Fr w w1:=by exact Qf
 cases nb
 · obtain⟨h1,h2⟩:=HNO.out (by first|(left;rfl)|(right;omega));have H1:=Lib.hid h1;have H2:=Lib.hid h2;clear h1 h2;go_wp2_with fail;rw[H1.out,H2.out];(refine bodyPost_ret (v:= .tuple #[.agg #[.slice none 0 0,.slice none 0 0],.bool false]) (by simp[results,Tryz.results47,go_sem, *]) rfl ?_);exact RnPost.no _ _ (by exact Qf)
 by_cases hlen:200<ps.length
 · obtain⟨h1,h2⟩:=HNO.out (by first|(left;rfl)|(right;omega));have H1:=Lib.hid h1;have H2:=Lib.hid h2;clear h1 h2;go_wp2_with fail;rw[H1.out,H2.out];(refine bodyPost_ret (v:= .tuple #[.agg #[.slice none 0 0,.slice none 0 0],.bool false]) (by simp[results,Tryz.results47,go_sem, *]) rfl ?_);exact RnPost.no _ _ (by exact Qf)
 obtain⟨hO,hok,hRR,hn1,hn8,hR,hI,hmu⟩:=HYES.out (by first|rfl|trivial) (by omega)
 obtain⟨N,rfl⟩:=Int.eq_ofNat_of_zero_le (show 0≤n by omega)
 rw[Int.toNat_natCast]at hI
 obtain⟨P,hP⟩: ∃ P,pickR g q N ps R0=P:=⟨_,rfl⟩
 rw[hP]at hR
 have HO:=Lib.hid hO
 have HOK:=Lib.hid hok
 have HRW:=Lib.hid hRR
 have HR:=Lib.hid hR
 have HI0:Hid (RI wIn (N:Int) N R0∧muR R0≤850231296):=Lib.hid ⟨hI,hmu⟩
 have HP0:Hid (pickR g q N (ps.drop 0) R0=P):=Lib.hid hP
 have HST:Hid (∀ r k,RI wIn (N:Int) N r∧muR r≤850231296→RI wIn (N:Int) N (rstD g q N r k)∧muR (rstD g q N r k)≤850231296):=Lib.hid fun r k h=>by have:=RI.stepD (r:=r) hRR hok h.1 k;exact⟨this.1,by have:=h.2;omega⟩
 have HX1:=Lib.hid hX1
 have CF:=Lib.hid (CF.out hok)
 clear CN HNO HYES hO hok hRR hR hI hmu hP h1 hX1
 have hbw:w.heap.size+3≤w1.heap.size:=by omega
 have FQ1:=BQ1.facts
 go_wp2_with fail
 refine(CF.out _ (by exact Qf)).mono ?_
 rintro e w3 ⟨aA,cA,rfl,hA,hf3⟩
 have z3:=hf3.size
 (try simp only[World.size_alloc]at z3)
 have hf13:Fr w1 w3:=by exact Qf
 have BO3:Box w3 w1.heap.size #[.slice a1 R0.f0.length c1,.slice a2 R0.f1.length c2] 72:=Box.fr (Box.new' rfl) hf3
 have HN3:Hid (NfasW w3 (w1.heap.size+1) w3.heap.size (.slice aA (autL q).length cA) (autL q)):=Lib.hid (by have h:=hA;(try simp only[World.size_alloc]at h);exact h)
 have HS3:Hid (RaS w w3 w1.heap.size w3.heap.size a1 c1 a2 c2 R0):=Lib.hid (by
  obtain⟨L1,L2,k1,k2,k3⟩:=RoamV.of HX1.out
  have l1:L1.length=R0.f0.length:=by rw[← k1,List.length_map]
  have l2:L2.length=R0.f1.length:=by rw[← k2,List.length_map]
  rw[← l1, ← l2]at k3
  (try simp only[World.size_alloc]at k3)
  exact⟨L1,L2,k1,k2,RoamS.sub (k3.fr hf13).s fun j hj=> .inl (by omega)⟩)
 have BG3:=BG1.fr hf13
 have BQ3:=BQ1.fr hf13
 have BR3:=BR1.fr hf13
 have hfw3:Fr w w3:=hfw1.trans hf13
 have CS:Hid (∀ r (m:Nat),m<r.f1.length→RI wIn (N:Int) N r∧muR r≤850231296→ ∀ a1 a2 c1 c2 w',Fr w w'→w3.heap.size≤w'.heap.size→NfasW w' (w1.heap.size+1) w3.heap.size (.slice aA (autL q).length cA) (autL q)→Box w' w1.heap.size #[.slice a1 r.f0.length c1,.slice a2 r.f1.length c2] 72→RaS w w' w1.heap.size w3.heap.size a1 c1 a2 c2 r→Calls Tryz.prog 113 #[.agg #[.int .i64 g.f0,.slice ae g.f1.length ce],.slice aA (autL q).length cA,.int .i64 N,.pointer (some ⟨w1.heap.size,0,none⟩),.int .i64 m] w' fun e w''=>e= .returned (.tuple #[])∧ ∃ a6 c6,Box w'' w1.heap.size #[.slice a1 (rstR g q N r m).f0.length c1,.slice a6 (rstR g q N r m).f1.length c6] 72∧RaS w w'' w1.heap.size w3.heap.size a1 c1 a6 c6 (rstR g q N r m)∧NfasW w'' (w1.heap.size+1) w3.heap.size (.slice aA (autL q).length cA) (autL q)∧Tch (RaD w w1.heap.size w3.heap.size) w' w''):=Lib.hid fun r m hm hI a1 a2 c1 c2 w' h hz ha hB hS=>allStep_any _ _ HG.out HOK.out HRW.out hbw (by omega) r m hm hI a1 a2 c1 c2 w' h hz ha hB hS
 clear CF BG1 BQ1 BR1 FR1 FQ1 HX1 hA HG hf1 hf3 hf13 hfw1
 obtain⟨b,hb⟩: ∃ b,w1.heap.size=b:=⟨_,rfl⟩
 obtain⟨zA,hzA⟩: ∃ z,w3.heap.size=z:=⟨_,rfl⟩
 rw[hb,hzA]at HN3 HS3 CS
 rw[hb]at BO3 hbw z3
 rw[hzA]at z3
 rw[hb]
 have hzr:zA≤w3.heap.size:=by omega
 go_wp2_with fail
 have NDA: ∀ i,i<w.heap.size→ ¬ RaD w b zA i:=fun i hi k=>by unfold RaD at k;omega
 have ND0: ¬ RaD w b zA w.heap.size:=fun k=>by unfold RaD at k;omega
 have ND1: ¬ RaD w b zA (w.heap.size+1):=fun k=>by unfold RaD at k;omega
 have ND2: ¬ RaD w b zA (w.heap.size+1+1):=fun k=>by unfold RaD at k;omega
 go_loopw [13] (fun i wr=> ∃ (k:Nat) (r:RoamD) (x1 x2:Option Addr) (y1 y2:Nat),k≤ps.length∧i= .int .i64 k∧Hid (pickR g q N (ps.drop k) r=P)∧Hid (RI wIn (N:Int) N r∧muR r≤850231296)∧Hid (RaS w wr b zA x1 y1 x2 y2 r)∧Hid (NfasW wr (b+1) zA (.slice aA (autL q).length cA) (autL q))∧zA≤wr.heap.size∧Box wr b #[.slice x1 r.f0.length y1,.slice x2 r.f1.length y2] 72∧Box wr w.heap.size #[.int .i64 g.f0,.slice ae g.f1.length ce] 55∧Box wr (w.heap.size+1) #[.bool q.f0,.slice ao q.f1.length co,.slice ax q.f2.length cx,.slice af q.f3.length cf] 35∧Box wr (w.heap.size+1+1) #[.slice none 0 0,.slice none 0 0] 72∧Fr w wr) (fun i _=>ps.length-(intOf i).toNat)
 case atStart=>exact⟨0,R0,a1,a2,c1,c2,Nat.zero_le _,rfl,HP0,HI0,HS3,HN3,hzr,BO3,BG3,BQ3,BR3,hfw3⟩
 case round=>
  clear BG3 BQ3 BR3 BO3 HP0 HI0 HS3 HN3 hfw3 hzr hzA hb
  obtain⟨k,r,x1,x2,y1,y2,hk,rfl,HP,HI,HS,HA,hzr,BO,BG,BQ,BR,hfr⟩:=hrel
  have zw:=hfr.size
  have hbz:=BO.lt
  have hlz:r.f1.length≤9000000000:=by have h:=HI.out.2;unfold muR at h;omega
  have FO:=BO.facts
  by_cases hgo:k<ps.length∧0<r.f1.length
  · obtain⟨hlt,hl0⟩:=hgo
    obtain⟨rfl,hb0,f0⟩:=FP.out (by omega)
    have fk:=(hfr.cell (p:=⟨bp,_,none⟩) hb0).trans (f0 k hlt)
    clear f0
    have HPN:Hid (pickR g q N (ps.drop (k+1)) (rstD g q N r (iAt ps k))=P):=Lib.hid ((pick_next g q N ps r hlt).symm.trans HP.out)
    · by_cases hpk:0≤iAt ps k
      · obtain⟨pk,hpe⟩:=Int.eq_ofNat_of_zero_le hpk
        rw[hpe]at fk
        obtain⟨m,hm⟩: ∃ m,pk%r.f1.length=m:=⟨_,rfl⟩
        have hmlt:m<r.f1.length:=by rw[← hm];exact Nat.mod_lt _ hl0
        have hrm:(pk:Int)%(r.f1.length:Int)=(m:Int):=by rw[← hm];first|exact(Int.natCast_emod pk r.f1.length).symm|exact(Int.ofNat_emod pk r.f1.length).symm|simp
        have htm:Int.tmod (pk:Int) (r.f1.length:Int)=(m:Int):=by rw[Int.tmod_eq_emod_of_nonneg (by omega)];exact hrm
        have HRD:Hid (rstD g q N r (iAt ps k)=rstR g q N r m):=Lib.hid (by rw[hpe,rstD_yes (by rw[RI.ok HOK.out (by rw[Int.toNat_natCast];exact HI.out.1),decide_eq_true hl0,decide_eq_true (by omega:(0:Int)≤(pk:Int))];rfl),Int.toNat_natCast,hm])
        have HIN:=Lib.hid (HST.out r (iAt ps k) HI.out)
        rw[HRD.out]at HPN HIN
        have RG: ∀ w',Fr wr w'→ ∀ o,w'.cell? ⟨w.heap.size,o,none⟩=(#[.int .i64 g.f0,.slice ae g.f1.length ce]:Array Value)[o]? :=fun w' h o=>(BG.fr h).cell o
        have RB: ∀ w',Fr wr w'→ ∀ o,w'.cell? ⟨b,o,none⟩=(#[.slice x1 r.f0.length y1,.slice x2 r.f1.length y2]:Array Value)[o]? :=fun w' h o=>(BO.fr h).cell o
        have RP: ∀ w',Fr wr w'→w'.cell? ⟨bp,op+k,none⟩=some (.int .i64 (pk:Int)):=fun w' h=>(h.cell (p:=⟨bp,_,none⟩) (by show bp<wr.heap.size;omega)).trans fk
        have hne: ¬ r.f1=[]:=fun e=>by rw[e]at hl0;simp at hl0
        clear hm hpe hpk
        go_wp2_with fail
        refine wp_region_last_drew (fun w'=>Fr wr w') 11 (by kernel_rfl) (by exact Qf) (fun hHeld=>?_)
        refine wpAnyE_take (i:=0) (r:=[11]) (v:=?_) rfl (by kernel_rfl) (by kernel_rfl) (by kernel_rfl) (by kernel_rfl) (fun _ _ _ h=>h) (Or.inl ⟨by rfl,?_⟩) (by assumption) ?_;rotate_left;(focus(intro w hSw;(try dsimp only at hSw);go_simp;all_goals (try with_reducible rfl)));(try simp only[Act.put,List.setIfInBounds_toArray,List.set_cons_zero,List.set_cons_succ])
        refine wpAnyE_take (i:=1) (r:=[11]) (v:=?_) rfl (by kernel_rfl) (by kernel_rfl) (by kernel_rfl) (by kernel_rfl) (fun _ _ _ h=>h) (Or.inl ⟨by rfl,?_⟩) (by assumption) ?_;rotate_left;(focus(intro w hSw;(try dsimp only at hSw);go_simp;all_goals (try with_reducible rfl)));(try simp only[Act.put,List.setIfInBounds_toArray,List.set_cons_zero,List.set_cons_succ])
        refine wpAnyE_take (i:=2) (r:=[11]) (v:=?_) rfl (by kernel_rfl) (by kernel_rfl) (by kernel_rfl) (by kernel_rfl) (fun _ _ _ h=>h) (Or.inl ⟨by rfl,?_⟩) (by assumption) ?_;rotate_left;(focus(intro w hSw;(try dsimp only at hSw);go_simp;all_goals (try with_reducible rfl)));(try simp only[Act.put,List.setIfInBounds_toArray,List.set_cons_zero,List.set_cons_succ])
        refine wpAnyE_take (i:=3) (r:=[5,6,10,11]) (v:=?_) rfl (by kernel_rfl) (by kernel_rfl) (by kernel_rfl) (by kernel_rfl) (fun _ _ _ h=>h) (Or.inl ⟨by rfl,?_⟩) (by assumption) ?_;rotate_left;(focus(intro w hSw;(try dsimp only at hSw);go_simp;all_goals (try with_reducible rfl)));(try simp only[Act.put,List.setIfInBounds_toArray,List.set_cons_zero,List.set_cons_succ])
        refine wpAnyE_take (i:=4) (r:=[5,6,10,11]) (v:=?_) rfl (by kernel_rfl) (by kernel_rfl) (by kernel_rfl) (by kernel_rfl) (fun _ _ _ h=>h) (Or.inl ⟨by rfl,?_⟩) (by assumption) ?_;rotate_left;(focus(intro w hSw;(try dsimp only at hSw);go_simp;all_goals (try with_reducible rfl)));(try simp only[Act.put,List.setIfInBounds_toArray,List.set_cons_zero,List.set_cons_succ])
        refine wpAnyE_take (i:=5) (r:=[6,10,11]) (v:=?_) rfl (by kernel_rfl) (by kernel_rfl) (by kernel_rfl) (by kernel_rfl) (fun _ _ _ h=>h) (Or.inl ⟨by rfl,?_⟩) (by assumption) ?_;rotate_left;(focus(intro w hSw;(try dsimp only at hSw);go_simp;all_goals (try with_reducible rfl)));(try simp only[Act.put,List.setIfInBounds_toArray,List.set_cons_zero,List.set_cons_succ])
        refine wpAnyE_take (i:=6) (r:=[10,11]) (v:=?_) rfl (by kernel_rfl) (by kernel_rfl) (by kernel_rfl) (by kernel_rfl) (fun _ _ _ h=>h) (Or.inl ⟨by rfl,?_⟩) (by assumption) ?_;rotate_left;(focus(intro w hSw;(try dsimp only at hSw);go_simp;all_goals (try with_reducible rfl)));(try simp only[Act.put,List.setIfInBounds_toArray,List.set_cons_zero,List.set_cons_succ])
        refine wpAnyE_take (i:=7) (r:=[8,9,10,11]) (v:=?_) rfl (by kernel_rfl) (by kernel_rfl) (by kernel_rfl) (by kernel_rfl) (fun _ _ _ h=>h) (Or.inl ⟨by rfl,?_⟩) (by assumption) ?_;rotate_left;(focus(intro w hSw;(try dsimp only at hSw);go_simp;all_goals (try with_reducible rfl)));(try simp only[Act.put,List.setIfInBounds_toArray,List.set_cons_zero,List.set_cons_succ])
        refine wpAnyE_take (i:=8) (r:=[9,10,11]) (v:=?_) rfl (by kernel_rfl) (by kernel_rfl) (by kernel_rfl) (by kernel_rfl) (fun _ _ _ h=>h) (Or.inl ⟨by rfl,?_⟩) (by assumption) ?_;rotate_left;(focus(intro w hSw;(try dsimp only at hSw);go_simp;all_goals (try with_reducible rfl)));(try simp only[Act.put,List.setIfInBounds_toArray,List.set_cons_zero,List.set_cons_succ])
        refine wpAnyE_take (i:=9) (r:=[10,11]) (v:=?_) rfl (by kernel_rfl) (by kernel_rfl) (by kernel_rfl) (by kernel_rfl) (fun _ _ _ h=>h) (Or.inl ⟨by rfl,?_⟩) (by assumption) ?_;rotate_left;(focus(intro w hSw;(try dsimp only at hSw);go_simp;all_goals (try with_reducible rfl)));(try simp only[Act.put,List.setIfInBounds_toArray,List.set_cons_zero,List.set_cons_succ])
        refine wpAnyE_take (i:=10) (r:=[11]) (v:=?_) rfl (by kernel_rfl) (by kernel_rfl) (by kernel_rfl) (by kernel_rfl) (fun _ _ _ h=>h) (Or.inl ⟨by rfl,?_⟩) (by assumption) ?_;rotate_left;(focus(intro w hSw;(try dsimp only at hSw);go_simp;all_goals (try with_reducible rfl)));(try simp only[Act.put,List.setIfInBounds_toArray,List.set_cons_zero,List.set_cons_succ])
        refine wpAnyE_ready (rs:=[11]) (by kernel_rfl) (by simp) ?_;refine AllReadyE.last rfl rfl (fun K hK=>?_);go_simp
        refine(CS.out r m hmlt HI.out _ _ _ _ _ (by exact Qf) (by exact Qz) (NfasW.tch HA.out (Tch.of_fr (B:=fun _=>False) (show Fr wr _ by exact Qf)) (fun _ _ _ h=>h)) (BO.fr (by exact Qf)) (HS.out.fr (by exact Qf))).mono ?_;rintro e w5 ⟨rfl,a6,c6,BO5,HS5,HA5,T50⟩;have T5:=(Tch.of_fr (B:=RaD w b zA) (show Fr wr _ by exact Qf)).trans T50;have z5:=T5.size;refine hK.out _ _ ?_;clear hK K hHeld;(try simp only[Act.put,List.setIfInBounds_toArray,List.set_cons_zero,List.set_cons_succ]);refine wpAnyE_done (by kernel_rfl) ?_ _
        go_wp2_with fail
        go_roundw
        case rel=>exact⟨k+1,_,x1,a6,y1,c6,by omega,by go_num,HPN,HIN,Lib.hid HS5,Lib.hid HA5,by omega,BO5,T5.box BG ND0,T5.box BQ ND1,T5.box BR ND2,T5.old hfr NDA⟩
        case measure=>(simp[intOf];omega)
      · have HPM:Hid (pickR g q N (ps.drop (k+1)) r=P):=Lib.hid (by have h:=HPN.out;rw[rstD_no (by rw[RI.ok HOK.out (by rw[Int.toNat_natCast];exact HI.out.1),decide_eq_false hpk];simp)]at h;exact h)
        go_wp2_with fail
        go_roundw
        case rel=>exact⟨k+1,r,x1,x2,y1,y2,by omega,by go_num,HPM,HI,HS,HA,hzr,BO,BG,BQ,BR,hfr⟩
        case measure=>(simp[intOf];omega)
  · obtain rfl:r=P:=by
     have hp:=HP.out
     by_cases hlt:k<ps.length
     · rwa [pick_nil _ _ (by omega)]at hp
     · rw[show k=ps.length by omega,List.drop_length,pickR]at hp;exact hp
    by_cases hlt:k<ps.length
    all_goals
     (try have hl0: ¬ 0<r.f1.length:=fun h=>hgo ⟨hlt,h⟩)
     (try have hz:r.f1.length=0:=by omega)
     clear hgo
     go_wp2_with fail
     go_loopg [] (muR r+1) (fun gk wr=> ∃ (r':RoamD) (x1 x2:Option Addr) (y1 y2 f:Nat),muR r'≤f∧f+1≤gk∧Hid (drainR g q N f r'=R)∧Hid (RI wIn (N:Int) N r'∧muR r'≤850231296)∧Hid (RaS w wr b zA x1 y1 x2 y2 r')∧Hid (NfasW wr (b+1) zA (.slice aA (autL q).length cA) (autL q))∧zA≤wr.heap.size∧Box wr b #[.slice x1 r'.f0.length y1,.slice x2 r'.f1.length y2] 72∧Box wr w.heap.size #[.int .i64 g.f0,.slice ae g.f1.length ce] 55∧Box wr (w.heap.size+1) #[.bool q.f0,.slice ao q.f1.length co,.slice ax q.f2.length cx,.slice af q.f3.length cf] 35∧Box wr (w.heap.size+1+1) #[.slice none 0 0,.slice none 0 0] 72∧Fr w wr)
     case atStart=>exact⟨r,x1,x2,y1,y2,muR r,Nat.le_refl _,Nat.le_refl _,Lib.hid HR.out.symm,HI,HS,HA,hzr,BO,BG,BQ,BR,hfr⟩
     case round=>
      clear HI HS HA hzr BO BG BQ BR FO zw hbz hlz hfr HP
      obtain⟨r',x1,x2,y1,y2,f,hmf,hgk,HD,HI,HS,HA,hzr,BO,BG,BQ,BR,hfr⟩:=hrel
      have zw:=hfr.size
      have hbz:=BO.lt
      have hlz:r'.f1.length≤9000000000:=by have h:=HI.out.2;unfold muR at h;omega
      have FO:=BO.facts
      by_cases hl1:0<r'.f1.length
      · obtain⟨f',rfl,hmf',hd'⟩:=drain_next HRW.out HOK.out (by rw[Int.toNat_natCast];exact HI.out.1) hl1 hmf HD.out
        have HDN:=Lib.hid hd'
        have HIN:=Lib.hid (HST.out r' 0 HI.out)
        rw[((rst_zero HOK.out (by rw[Int.toNat_natCast];exact HI.out.1)).1 (by rw[RI.ok HOK.out (by rw[Int.toNat_natCast];exact HI.out.1),decide_eq_true hl1];rfl)).2]at HIN
        have FG:=BG.facts
        clear hd'
        go_wp2_with fail
        refine(CS.out r' 0 hl1 HI.out _ _ _ _ _ (by exact Qf) (by exact Qz) (NfasW.tch HA.out (Tch.of_fr (B:=fun _=>False) (show Fr wr _ by exact Qf)) (fun _ _ _ h=>h)) (BO.fr (by exact Qf)) (HS.out.fr (by exact Qf))).mono ?_
        rintro e w5 ⟨rfl,a6,c6,BO5,HS5,HA5,T50⟩
        have T5:=(Tch.of_fr (B:=RaD w b zA) (show Fr wr _ by exact Qf)).trans T50
        have z5:=T5.size
        go_wp2_with fail
        go_roundg (f'+1)
        case measure=>omega
        case rel=>exact⟨_,x1,a6,y1,c6,f',hmf',Nat.le_refl _,HDN,HIN,Lib.hid HS5,Lib.hid HA5,by omega,BO5,T5.box BG ND0,T5.box BQ ND1,T5.box BR ND2,T5.old hfr NDA⟩
      · obtain rfl:r'=R:=by have h:=HD.out;rwa [drain_nil _ (by omega)]at h
        obtain⟨L1,L2,k1,k2,k3⟩:=HS.out
        have l1:L1.length=r'.f0.length:=by rw[← k1,List.length_map]
        have l2:L2.length=r'.f1.length:=by rw[← k2,List.length_map]
        have FR3:=BR.facts
        have BRF:=((BR.set 0 (.slice x1 r'.f0.length y1)).set 1 (.slice x2 r'.f1.length y2)).facts
        have K1:=Lib.hid k1;have K2:=Lib.hid k2
        have HV:=Lib.hid (RoamS.v (lo:=w.heap.size+3) (hi:=wr.heap.size) k3 fun j hj=>by omega)
        clear k1 k2 k3
        go_wp2_with fail
        rw[HO.out]
        refine bodyPost_ret (v:= .tuple #[.agg #[.slice x1 r'.f0.length y1,.slice x2 r'.f1.length y2],.bool true]) (by simp[results,Tryz.results47,go_sem, *]) rfl ?_
        rw[← l1, ← l2]
        refine RnPost.of (lo:=w.heap.size+3) (hi:=wr.heap.size) ?_ K1.out K2.out (by omega) (by exact Qz) (by exact Qf)
        repeat(first|(exact HV.out)|(refine RoamV.set ?_ (.inl (by show w.heap.size+1+1<w.heap.size+3;omega)) _))
end Go.Proofs.YtmdgdnkllclpcaaGreat
