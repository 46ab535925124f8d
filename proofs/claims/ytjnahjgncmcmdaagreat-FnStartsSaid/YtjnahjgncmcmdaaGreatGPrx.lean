/- Texts in one: Snf, Inf, Prx. -/
import Derived.Test.YtjnahjgncmcmdaaGreatGPth2
import Derived.BigRegion
import Derived.Deep.RegionHeld3
import Derived.Deep.OwnRows
import Derived.Deep.Cut
import Derived.Deep.CutRange
import Derived.Test.YtjnahjgncmcmdaaGreatGShg
import Derived.Test.YtjnahjgncmcmdaaGreatGLor
import Derived.Test.YtjnahjgncmcmdaaGreatGPrw
namespace Go.Proofs.YtjnahjgncmcmdaaGreat
open Go.RowKit
set_option linter.unusedVariables false
set_option linter.unusedSimpArgs false
/-- An automaton as a value reads. -/
def NfaRd (w:World) (v:Value) (d:NfaD):Prop:= ∃ va ve,v= .agg #[.int .i64 d.f0,va,ve]∧EdgesR w va d.f1∧BoolsR w ve d.f2
theorem NfaRd.fr {w w':World} {v:Value} {d:NfaD} (h:NfaRd w v d) (hf:Fr w w'):NfaRd w' v d:=by obtain⟨a,b,h1,h2,h3⟩:=h;exact⟨a,b,h1,h2.fr hf,RdS.fr h3 hf⟩
/-- An automaton whose rows are owned. -/
def NfaOw (w:World) (lo:Nat) (v:Value) (d:NfaD):Prop:= ∃ va ve,v= .agg #[.int .i64 d.f0,va,ve]∧w.ownsRow lo 195 3 va d.f1.length (d.f1.flatMap EdgeR.cells)∧w.ownsRow lo 4 1 ve d.f2.length (d.f2.map Value.bool)
theorem NfaOw.rd {w:World} {lo:Nat} {v:Value} {d:NfaD} (h:NfaOw w lo v d):NfaRd w v d:=by obtain⟨a,b,h1,h2,h3⟩:=h;exact⟨a,b,h1,RdS.of_owns h2,RdS.of_owns h3⟩
theorem NfaOw.fr {w w':World} {lo:Nat} {v:Value} {d:NfaD} (h:NfaOw w lo v d) (hf:Fr w w'):NfaOw w' lo v d:=by obtain⟨a,b,h1,h2,h3⟩:=h;exact⟨a,b,h1,owns_fr h2 hf,owns_fr h3 hf⟩
theorem NfaOw.lo {w:World} {lo lo':Nat} {v:Value} {d:NfaD} (h:NfaOw w lo v d) (hl:lo'≤lo):NfaOw w lo' v d:=by obtain⟨a,b,h1,h2,h3⟩:=h;exact⟨a,b,h1,owns_lo h2 hl,owns_lo h3 hl⟩
theorem NfaOw.nil (w:World) (lo:Nat):NfaOw w lo (.agg #[.int .i64 0,.slice none 0 0,.slice none 0 0]) ⟨0,[],[]⟩:=⟨_,_,rfl,World.ownsRow_nil _ _ _ _,World.ownsRow_nil _ _ _ _⟩
def bCells (n:Nat) (p:Nat→Bool):List Value:=(List.range n).map fun j=> .bool (p j)
theorem bCells_len (n:Nat) (p:Nat→Bool):(bCells n p).length=n:=by simp[bCells]
theorem bCells_at {n:Nat} {p:Nat→Bool} {i:Nat} (h:i<n):(bCells n p)[i]? =some (.bool (p i)):=by simp[bCells,h]
theorem bCells_congr {n:Nat} {p q:Nat→Bool} (h: ∀ i,i<n→p i=q i):bCells n p=bCells n q:=by
 unfold bCells
 refine List.map_congr_left fun i hi=>?_
 rw[h i (List.mem_range.1 hi)]
theorem bCells_set (n:Nat) (p:Nat→Bool) (i:Nat) (v:Bool):(bCells n p).set i (.bool v)=bCells n (fun x=>if x=i then v else p x):=by
 refine List.ext_getElem? fun k=>?_
 rw[List.getElem?_set]
 by_cases hk:k<n
 · rw[bCells_at hk,bCells_at hk,bCells_len]
   by_cases e:i=k
   · subst e
     simp[hk]
   · rw[if_neg e,if_neg (fun h=>e h.symm)]
 · rw[List.getElem?_eq_none (by rw[bCells_len];omega),List.getElem?_eq_none (by rw[bCells_len];omega),bCells_len]
   split
   · rw[if_neg (by omega)]
   · rfl
theorem bCells_no (n:Nat):bCells n (fun _=>false)=List.replicate n (.bool false):=by
 unfold bCells
 exact List.map_const'▸by simp
def BolO (w:World) (lo:Nat) (v:Value) (n:Nat) (p:Nat→Bool):Prop:=w.ownsRow lo 4 1 v n (bCells n p)
theorem BolO.fr {w w':World} {lo:Nat} {v:Value} {n:Nat} {p:Nat→Bool} (h:BolO w lo v n p) (hf:Fr w w'):BolO w' lo v n p:=owns_fr h hf
theorem BolO.congr {w:World} {lo:Nat} {v:Value} {n:Nat} {p q:Nat→Bool} (h:BolO w lo v n p) (e: ∀ i,i<n→p i=q i):BolO w lo v n q:=by
 unfold BolO at h ⊢
 rw[← bCells_congr e]
 exact h
theorem BolO.set {w:World} {lo B cap:Nat} {n:Nat} {p:Nat→Bool} (h:BolO w lo (.slice (some ⟨B,0,none⟩) n cap) n p) (i:Nat) (v:Bool):BolO (w.setCell ⟨B,i,none⟩ (.bool v)) lo (.slice (some ⟨B,0,none⟩) n cap) n (fun x=>if x=i then v else p x):=by
 have:=(World.ownsRow.stored h i (.bool v)).1
 unfold BolO
 rw[← bCells_set]
 exact this
theorem BolO.cell {w:World} {lo B cap:Nat} {n:Nat} {p:Nat→Bool} (h:BolO w lo (.slice (some ⟨B,0,none⟩) n cap) n p) {i:Nat} (hi:i<n):w.cell? ⟨B,i,none⟩=some (.bool (p i)):=(h.cellAt i (by omega)).trans (bCells_at hi)
def endP (r:StD×SpD):Nat→Bool
 |0=>r.2.null
 |s+1=>r.2.last s
theorem endsB_cells (r:StD×SpD):(endsB r).map Value.bool=bCells (r.1.labs.length+1) (endP r):=by
 unfold endsB bCells
 rw[List.range_succ_eq_map]
 simp[endP,Function.comp_def]
theorem endsB_len (r:StD×SpD):(endsB r).length=r.1.labs.length+1:=by simp[endsB]
def endQ (b:Bool) (L:List Int) (k:Nat) (i:Nat):Bool:=(decide (i=0)&&b)||(L.take k).any fun x=>decide (x=(i:Int))
theorem endQ_step {b:Bool} {L:List Int} {k t:Nat} (hk:k<L.length) (ht:iAt L k=(t:Int)):endQ b L (k+1)=fun x=>if x=t then true else endQ b L k x:=by
 funext i
 unfold endQ
 rw[List.take_succ_eq_append_getElem hk,List.any_append]
 have e:L[k]=(t:Int):=by rw[← ht];simp[iAt,List.getD,List.getElem?_eq_getElem hk]
 simp only[List.any_cons,List.any_nil,Bool.or_false,e]
 by_cases h:i=t
 · subst h;simp
 · rw[if_neg h,decide_eq_false (show ¬ ((t:Int)=(i:Int)) by omega),Bool.or_false]
theorem endQ_all {r:StD×SpD} {L:List Int} (h:InL L r.2.last) (hp: ∀ x∈L,1≤x) (i:Nat):endQ r.2.null L L.length i=endP r i:=by
 unfold endQ
 rw[List.take_length]
 cases i with
 |zero=>
  have:(L.any fun x=>decide (x=((0:Nat):Int)))=false:=by
   rw[List.any_eq_false]
   intro x hx
   have:=hp x hx
   simp;omega
  rw[this]
  simp[endP]
 |succ s=>
  simp only[Nat.add_eq_zero_iff,Nat.succ_ne_self,and_false,decide_false,Bool.false_and,Bool.false_or,endP]
  rw[Bool.eq_iff_iff,List.any_eq_true]
  constructor
  · rintro⟨x,hx,he⟩
    rw[decide_eq_true_eq]at he
    obtain⟨j,hj,hjx⟩:=(h x).1 hx
    obtain rfl:j=s:=by omega
    exact hj
  · intro hl
    exact⟨(s:Int)+1,(h _).2 ⟨s,hl,rfl⟩,by simp⟩
theorem StOk.none:StOk ⟨[],fun _ _=>false⟩:=fun i j h=>by cases h
set_option maxHeartbeats 8000000 in
set_option maxRecDepth 100000 in
theorem specNfaOf_any (pv:Value) (ps:List PieceD) (w:World) (hp:pathB ps=true) (hoc:occA ps (ps.length-1)≤20) (hv:PiecesR w pv ps):
  Calls Tryz.prog 151 #[.agg #[pv]] w fun e w'=> ∃ v,e= .returned (.tuple #[v,.bool true])∧NfaOw w' w.heap.size v (nfaM ps)∧Fr w w':=by
 have hps:=(pathB_out hp).1
 have HV:=Lib.hid hv
 have CP:=specPathOk_any pv ps
 obtain⟨avp,bvp,ovp,cvp,rfl,hcp,hmp,hold⟩:=hv.one
 rw[hp]at CP
 have CP:=Lib.hid CP
 have HOLD:=Lib.hid hold
 have HPP:=Lib.hid hp
 clear hv hold
 go_enter Tryz.func151,Tryz.ntmps151
 go_wp2_with(go_at_call 165;refine(CP.out _ (HV.out.fr (by exact Qf))).mono ?_;rintro e w1 ⟨rfl,hf1⟩;have BP1:Box w1 w.heap.size #[.slice avp ps.length cvp] 140:=Box.fr ((Box.new _ _ _).alloc _) hf1;have BR1:Box w1 (w.heap.size+1) #[.int .i64 0,.slice none 0 0,.slice none 0 0] 133:=Box.fr (Box.new' (by simp)) hf1;have FP1:=BP1.facts;have FR1:=BR1.facts;have zw1:=hf1.size;(try simp only[World.size_alloc]at zw1))
 go_at_call 190
 have HV1:PiecesR w1 (.slice avp ps.length cvp) ps:=HV.out.fr (by exact Qf)
 have M1:MakSt (w1.alloc (.cells #[.slice avp ps.length cvp,.slice none 0 0,.slice none 0 0,.bool false] 235)) w1.heap.size w1.heap.size (.slice avp ps.length cvp) (.slice none 0 0) (.slice none 0 0) false [] []:=
  ⟨Box.new _ _ _,World.ownsRow_nil _ _ _ _,World.ownsRow_nil _ _ _ _,fun g h1 h2=>(by cases h1),fun h=>(by cases h),fun h=>(by cases h)⟩
 have hL:=lok_any HPP.out HV1 ps.length w1.heap.size (ps.length-1) ⟨[],fun _ _=>false⟩ [] _ _ _ (by exact Qf) (Nat.le_refl _) M1 ArcS.nil StOk.none (by omega) (by omega) (by simp;omega)
 rw[show((ps.length:Int)-1)=((ps.length-1:Nat):Int) by omega]
 refine hL.mono ?_
 clear hL
 obtain⟨r,hr⟩: ∃ r,gluA ps=r:=⟨_,rfl⟩
 have hr':glu ps ps.length (ps.length-1) ⟨[],fun _ _=>false⟩=r:=hr
 rw[hr']
 have GO:=gluA_ok HPP.out
 have GL:=gluA_len HPP.out
 have GS:=glu_labs HPP.out ps.length (ps.length-1) (by omega) (by omega) ⟨[],fun _ _=>false⟩ (fun c h=>by cases h)
 rw[hr']at GS
 rw[hr]at GO GL
 have HRR:=Lib.hid hr
 clear hr hr'
 rintro e w2 ⟨v1,v2,lv',av',L1,L2,xs',rfl,M2,A2,T2,D1,D2,V1,V2,HI1,HI2,_,_,P0,P1,P2⟩
 obtain⟨a1,c1,rfl⟩: ∃ a c,v1= .slice a L1.length c:=owns_val V1
 obtain⟨a2,c2,rfl⟩: ∃ a c,v2= .slice a L2.length c:=owns_val V2
 obtain⟨al,cl,rfl⟩: ∃ a c,lv'= .slice a r.1.labs.length c:=owns_val M2.labs
 have L1B:=InL.bnd (n:=r.1.labs.length) HI1 (fun j hj=>(GO.first j hj).2)
 have L2B:=InL.bnd (n:=r.1.labs.length) HI2 (fun j hj=>(GO.last j hj).2)
 have XSB:=ArcS.bnd A2 (fun i j hj=>by have:=GO.fol i j hj;simp at this;omega) (by omega)
 have LBN: ∀ i,i<w1.heap.size→ ¬ LB w1.heap.size (.slice none 0 0) i:=by
  rintro i hi (e|e)
  · omega
  · cases e
 have hf2:Fr w1 w2:=T2.old (by exact Qf) LBN
 have BP2:Box w2 w.heap.size _ _:=BP1.fr hf2
 have BR2:Box w2 (w.heap.size+1) _ _:=BR1.fr hf2
 have FP2:=BP2.facts;have FR2:=BR2.facts;have FM2:=M2.box.facts
 have zw2:=T2.size
 simp only[World.size_alloc]at zw2
 have hv1b:(Value.slice a1 L1.length c1).ownBlock≠some w1.heap.size:=fun e=>by have:=(World.ownsRow.lt V1 _ e).1;simp only[World.size_alloc]at this;omega
 have hv2b:(Value.slice a2 L2.length c2).ownBlock≠some w1.heap.size:=fun e=>by have:=(World.ownsRow.lt V2 _ e).1;simp only[World.size_alloc]at this;omega
 have hM3:=arcs_whole A2 HI1 (fun i j hj=>by have:=GO.fol i j hj;simp at this;omega) (fun j hj=>(GO.first j hj).2)
 have LV:=Lib.hid V1;have LV2:=Lib.hid V2;have HM2:=Lib.hid M2;have HA2:=Lib.hid A2;have HP0:=Lib.hid P0;have HM3:=Lib.hid hM3;have HL1B:=Lib.hid L1B;have HL2B:=Lib.hid L2B;have HXSB:=Lib.hid XSB;have HI2':=Lib.hid HI2;have HGS:=Lib.hid GS
 have hb1:w1.heap.size<w2.heap.size:=by omega
 have hlab:r.1.labs.length≤20:=by omega
 clear V1 V2 M1 M2 A2 D1 D2 P0 P1 P2 HI1 HI2 hM3 L1B L2B XSB GS LBN GO T2 hoc
 go_wp2_with fail
 go_at_call 191
 obtain⟨WJ,hWJ⟩: ∃ W,((w2.alloc (.cells #[.slice a1 L1.length c1,.slice a2 L2.length c2,.bool r.2.null] 237)).alloc (.cells #[.int .i64 0] 3))=W:=⟨_,rfl⟩
 have hFJ:Fr w2 WJ:=by rw[← hWJ];repeat(first|(with_reducible exact Fr.refl _)|(with_reducible assumption)|(with_reducible refine Fr.drewN ?_ _)|(with_reducible refine Fr.drew ?_)|(with_reducible refine Fr.alloc ?_ _)|(with_reducible refine Fr.setCell ?_ (by exact Qz) _)|(with_reducible refine Fr.trans ?_ (by with_reducible assumption)))
 have hZJ:w1.heap.size≤WJ.heap.size:=by have:=hFJ.size;omega
 have hLJ:IntsO WJ w1.heap.size (.slice (some ⟨w2.heap.size+1,0,none⟩) 1 1) [0]:=by
  rw[← hWJ]
  have h:=World.ownsRow_lit (base:=w1.heap.size) (e:=3) (size:=1) (w2.alloc (.cells #[.slice a1 L1.length c1,.slice a2 L2.length c2,.bool r.2.null] 237)) #[.int .i64 0] 1 (by rw[World.size_alloc];omega) (by unfold maxLen;omega) rfl
  rw[World.size_alloc]at h
  exact h
 have hVJ:IntsO WJ w1.heap.size (.slice a1 L1.length c1) L1:=owns_lo (owns_fr LV.out hFJ) (by simp)
 have hMJ:=HM2.out.fr hFJ
 rw[hWJ]
 have hJ:=(join_arcs_any w1.heap.size w1.heap.size (.slice avp ps.length cvp) (.slice al r.1.labs.length cl) av' (.slice (some ⟨w2.heap.size+1,0,none⟩) 1 1) (.slice a1 L1.length c1) false r.1.labs xs' [0] L1 WJ hMJ hLJ hVJ (fun e=>by have:w2.heap.size+1=w1.heap.size:=Option.some.inj e;omega) hv1b hZJ HA2.out.1 HXSB.out (by simp) HL1B.out (by omega))
 refine hJ.mono ?_
 rintro e w3 ⟨rfl,av3,M3,T3,D3⟩
 rw[HM3.out]at M3
 have R3:Hid (Box w3 w2.heap.size #[.slice a1 L1.length c1,.slice a2 L2.length c2,.bool r.2.null] 237):=Lib.hid (T3.box (by rw[← hWJ];exact(Box.new _ _ _).alloc _) (by omega))
 have BP3:Box w3 w.heap.size _ _:=T3.box (BP2.fr hFJ) (by omega)
 have BR3:Box w3 (w.heap.size+1) _ _:=T3.box (BR2.fr hFJ) (by omega)
 have hf3:Fr w1 w3:=T3.old (hf2.trans hFJ) (fun i hi e=>by omega)
 have L23:Hid (IntsO w3 w1.heap.size (.slice a2 L2.length c2) L2):=Lib.hid (T3.owns (owns_lo (owns_fr LV2.out hFJ) (by simp)) (fun g e h=>hv2b (by rw[e,h])))
 obtain⟨ya,yc,rfl⟩: ∃ a c,av3= .slice a (arcC r.1.labs (goP r)).length c:=owns_val M3.arcs
 obtain⟨N,hN⟩: ∃ N,(arcC r.1.labs (goP r)).length=N:=⟨_,rfl⟩
 have zw3:=T3.size
 rw[hN]at M3
 have F3:=M3.box.facts;have FR3:=R3.out.facts;have FB3:=BR3.facts
 have HM3':=Lib.hid M3
 obtain⟨m,hm⟩: ∃ m,r.1.labs.length=m:=⟨_,rfl⟩
 have hm20:m≤20:=by omega
 rw[hm]at F3
 have HN:=Lib.hid hN;have HMM:=Lib.hid hm
 clear M3 hN hm T3 BP2 BR2 FM2
 have mkb: ∀ W:World,(Instr.makeSlice 131 (.int .i64 ((m:Int)+1)) (.int .i64 ((m:Int)+1))).run Tryz.prog W= .ok (.slice (some ⟨W.heap.size,0,none⟩) (m+1) (m+1)) (W.alloc (.cells (madeCells #[.bool false] (m+1)) 4)):=fun W=>run_make_row' (P:=Tryz.prog) 131 4 (.bool false) 1 Tryz.underlying131 info_bool rfl .i64 .i64 (m+1) (by omega) (by omega) W
 have HBM:=HM3'.out.box
 rw[HMM.out]at HBM
 have PK1: ∀ w',Sf w3 w'→w'.cell? ⟨w1.heap.size,1,none⟩=some (.slice al m cl):=fun w' h=>(HBM.fr h.out).cell 1
 have PK2: ∀ w',Sf w3 w'→w'.cell? ⟨w1.heap.size,2,none⟩=some (.slice ya N yc):=fun w' h=>(HBM.fr h.out).cell 2
 have hwm:IntKind.i64.wrap ((m:Int)+1)=(m:Int)+1:=IntWalk.i64_in _ (by omega)
 go_upto_region 8 with fail
 go_cut [6]from 31 to 48 (fun p wx=> ∃ g B:Nat,p= .pointer (some ⟨B,0,none⟩)∧Hid (Box wx B #[.int .i64 ((m:Int)+1),.slice ya N yc,.slice (some ⟨g,0,none⟩) (m+1) (m+1)] 133)∧Hid (wx.ownsRow w3.heap.size 4 1 (.slice (some ⟨g,0,none⟩) (m+1) (m+1)) (m+1) (List.replicate (m+1) (.bool false)))∧B≠g∧w3.heap.size≤B∧Fr w3 wx)
 case first=>
  go_region_held3 (fun w'=>Sf w3 w') ((refine Sf.mk ?_;repeat(first|(with_reducible exact Fr.refl _)|(with_reducible assumption)|(with_reducible refine Fr.drewN ?_ _)|(with_reducible refine Fr.drew ?_)|(with_reducible refine Fr.alloc ?_ _)|(with_reducible refine Fr.setCell ?_ (by exact Qz) _)|(with_reducible refine Fr.trans ?_ (by with_reducible assumption))))) (fail)
  all_goals (go_wp2_with fail;go_meet;(case rel=>exact⟨_,_,rfl,Lib.hid (by repeat(first|(with_reducible exact Box.new _ _ _)|(refine Box.new' ?_<;>(simp;done))|(with_reducible refine Box.drew ?_)|(with_reducible refine Box.drewN ?_ _)|(with_reducible refine Box.alloc ?_ _))),Lib.hid (by repeat(first|(refine made_new ?_ ?_ ?_<;>first|omega|(simp;done)|(simp;omega))|(with_reducible refine World.ownsRow.drew ?_)|(with_reducible refine World.ownsRow.alloc ?_ _))),by omega,by omega,by exact Qf⟩))
 case rest=>
  obtain⟨g,B,rfl,hB,hg,hne,hz,hfx⟩:=hcut
  have hBx:=hB.out
  have FBx:=hBx.facts
  have hRx:=R3.out.fr hfx
  have FRx:=hRx.facts
  have hg0:BolO wc w3.heap.size (.slice (some ⟨g,0,none⟩) (m+1) (m+1)) (m+1) (fun _=>false):=by
   unfold BolO
   rw[bCells_no]
   exact hg.out
  have HG0:=Lib.hid hg0
  have hgz:=owns_old hg.out g rfl
  have hg1:=(World.ownsRow.lt hg.out g rfl).1
  have hgc:=hg0.cell (i:=0) (by omega)
  have hgf:=World.ownsRow.frozenAt hg.out 0
  clear PK1 PK2 mkb
  go_wp2_with fail
  have HS0:Hid (BolO (wc.setCell ⟨g,0,none⟩ (.bool r.2.null)) w3.heap.size (.slice (some ⟨g,0,none⟩) (m+1) (m+1)) (m+1) (endQ r.2.null L2 0)):=Lib.hid (BolO.congr (HG0.out.set 0 r.2.null) (fun i _=>by
   unfold endQ
   simp only[List.take_zero,List.any_nil,Bool.or_false]
   by_cases h:i=0
   · subst h;simp
   · rw[if_neg h,decide_eq_false h,Bool.false_and]))
  go_loopw [7] (fun i wr=> ∃ k:Nat,k≤L2.length∧i= .int .i64 k∧Hid (BolO wr w3.heap.size (.slice (some ⟨g,0,none⟩) (m+1) (m+1)) (m+1) (endQ r.2.null L2 k))∧Hid (Box wr B #[.int .i64 ((m:Int)+1),.slice ya N yc,.slice (some ⟨g,0,none⟩) (m+1) (m+1)] 133)∧Fr w3 wr) (fun i _=>L2.length-(intOf i).toNat)
  case atStart=>exact⟨0,Nat.zero_le _,rfl,HS0,Lib.hid (hBx.other hne _),hfx.setCell (p:=⟨g,0,none⟩) (by omega) _⟩
  case round=>
   clear HS0 HG0 hg0 hgc hgf hBx FBx hRx FRx hB
   obtain⟨k,hk,rfl,HR,hB,hfr⟩:=hrel
   have hBx:=hB.out
   have FBx:=hBx.facts
   have hRx:=R3.out.fr hfr
   have FRx:=hRx.facts
   have zr:=owns_old HR.out g rfl
   by_cases hlt:k<L2.length
   · obtain⟨ht1,ht2⟩:=HL2B.out _ (iAt_mem hlt)
     obtain⟨t,ht⟩: ∃ t:Nat,iAt L2 k=(t:Int):=⟨(iAt L2 k).toNat,by omega⟩
     have htm:t<m+1:=by have:=HMM.out;omega
     have hti:(t:Int)<(m:Int)+1:=by omega
     have hti1:(t:Int)≤(m:Int):=by omega
     have hti2:(t:Int)<((m+1:Nat):Int):=by omega
     have hti0:(0:Int)≤(t:Int):=by omega
     have HST:=Lib.hid (endQ_step (b:=r.2.null) hlt ht)
     obtain⟨a2',b2,o2,c2',hv,_,_,f2⟩:=(IntsO.rd (IntsO.fr L23.out hfr)).one
     cases hv
     obtain⟨rfl,hb2,f2⟩:=f2 (by omega)
     have e2:=f2 k hlt
     rw[ht]at e2
     have gc:=HR.out.cell htm
     have gf:=World.ownsRow.frozenAt HR.out t
     have hb2o:=owns_old L23.out b2 rfl
     have Q1: ∀ w',Tch (fun i=>i=g) wr w'→w'.cell? ⟨b2,o2+k,none⟩=some (.int .i64 (t:Int)):=fun w' h=>(World.cell?_of_block (h.block b2 hb2 (show ¬ b2=g by omega))).trans e2
     have Q2: ∀ w',Tch (fun i=>i=g) wr w'→ ∀ o,w'.cell? ⟨B,o,none⟩=_:=fun w' h o=>(h.box hBx (show ¬ B=g from hne)).cell o
     have Q3: ∀ w',Tch (fun i=>i=g) wr w'→ ∀ o,w'.cell? ⟨w2.heap.size,o,none⟩=_:=fun w' h o=>(h.box hRx (show ¬ w2.heap.size=g by omega)).cell o
     clear f2 ht1 ht2 ht
     go_wp2_with fail
     go_region_held3 (fun w'=>Tch (fun i=>i=g) wr w') (first|(focus((refine Tch.of_fr ?_;repeat(first|(with_reducible exact Fr.refl _)|(with_reducible assumption)|(with_reducible refine Fr.drewN ?_ _)|(with_reducible refine Fr.drew ?_)|(with_reducible refine Fr.alloc ?_ _)|(with_reducible refine Fr.setCell ?_ (by exact Qz) _)|(with_reducible refine Fr.trans ?_ (by with_reducible assumption))));done))|(focus((refine Tch.fr (w':=wr.setCell ⟨g,t,none⟩ (.bool true)) (Tch.set (B:=fun i=>i=g) (Tch.refl _ _) (p:=⟨g,t,none⟩) (.inl rfl) _) ?_;repeat(first|(with_reducible exact Fr.refl _)|(with_reducible assumption)|(with_reducible refine Fr.drewN ?_ _)|(with_reducible refine Fr.drew ?_)|(with_reducible refine Fr.alloc ?_ _)|(with_reducible refine Fr.setCell ?_ (by exact Qz) _)|(with_reducible refine Fr.trans ?_ (by with_reducible assumption))));done))) (fail)
     all_goals
      go_wp2_with fail
      go_roundw
      case rel=>exact⟨k+1,by omega,by go_num,Lib.hid (by rw[HST.out];exact HR.out.set t true),Lib.hid (hBx.other hne _),(hfr.setCell (p:=⟨g,t,none⟩) (by omega) _).drew⟩
      case measure=>(simp[intOf];omega)
   · obtain rfl:k=L2.length:=by omega
     have HE:=Lib.hid (HR.out.congr (q:=endP r) (fun i _=>endQ_all HI2'.out (fun x hx=>(HL2B.out x hx).1) i))
     have hER:EdgesR wr (.slice ya N yc) (arcC r.1.labs (goP r)):=by
      have h:=RdS.of_owns (owns_fr HM3'.out.arcs hfr)
      have e:=HN.out
      subst e
      exact h
     have hBR:BoolsR wr (.slice (some ⟨g,0,none⟩) (m+1) (m+1)) (endsB r):=by
      have h:=RdS.of_owns HE.out
      unfold BoolsR
      rw[endsB_cells,endsB_len,HMM.out]
      exact h
     go_wp2_with fail
     have FR1':=BR3.fr hfr
     have FRR:=FR1'.facts
     go_wp2_with(go_at_call 192;refine(specNfaOk_ok (.slice ya N yc) (.slice (some ⟨g,0,none⟩) (m+1) (m+1)) ((m:Int)+1) (arcC r.1.labs (goP r)) (endsB r) wr hER hBR (by omega) (by rw[endsB_len,HMM.out];rfl) (fun k hk=>by have:=arcC_ok HGS.out hk;rw[HMM.out]at this;exact this) (fun k h0 hk=>srt_at (srt_arcC _ _) h0 hk)).mono ?_;rintro e w5 ⟨rfl,hf5⟩;have FB5:=(hBx.fr hf5).facts;have FR5:=(FR1'.fr hf5).facts)
     have hfw:Fr w w5:=((Fr.trans (show Fr w w1 by exact Qf) hf3).trans hfr).trans hf5
     have hk1:w.heap.size+1<w1.heap.size:=by omega
     have hA5:=owns_set (owns_set (owns_set (owns_fr HM3'.out.arcs (hfr.trans hf5)) (p:=⟨w.heap.size+1,0,none⟩) hk1 (.int .i64 ((m:Int)+1))) (p:=⟨w.heap.size+1,1,none⟩) hk1 (.slice ya N yc)) (p:=⟨w.heap.size+1,2,none⟩) hk1 (.slice (some ⟨g,0,none⟩) (m+1) (m+1))
     have hE5:=owns_set (owns_set (owns_set (owns_fr HE.out hf5) (p:=⟨w.heap.size+1,0,none⟩) (by show w.heap.size+1<_;omega) (.int .i64 ((m:Int)+1))) (p:=⟨w.heap.size+1,1,none⟩) (by show w.heap.size+1<_;omega) (.slice ya N yc)) (p:=⟨w.heap.size+1,2,none⟩) (by show w.heap.size+1<_;omega) (.slice (some ⟨g,0,none⟩) (m+1) (m+1))
     refine bodyPost_ret (v:= .tuple #[.agg #[.int .i64 ((m:Int)+1),.slice ya N yc,.slice (some ⟨g,0,none⟩) (m+1) (m+1)],.bool true]) (by simp[results,Tryz.results151,go_sem, *]) rfl ⟨_,rfl,⟨.slice ya N yc,.slice (some ⟨g,0,none⟩) (m+1) (m+1),?_,?_,?_⟩,?_⟩
     · unfold nfaM
       rw[HRR.out]
       unfold nfaR
       rw[HMM.out]
     · unfold nfaM
       rw[HRR.out]
       have e:=HN.out
       subst e
       exact owns_lo hA5 (by omega)
     · unfold nfaM
       rw[HRR.out]
       have h:=owns_lo (lo':=w.heap.size) hE5 (by omega)
       unfold nfaR
       rw[endsB_cells,endsB_len,HMM.out]
       exact h
     · exact((hfw.setCell (p:=⟨w.heap.size+1,0,none⟩) (Nat.le_succ _) _).setCell (p:=⟨w.heap.size+1,1,none⟩) (Nat.le_succ _) _).setCell (p:=⟨w.heap.size+1,2,none⟩) (Nat.le_succ _) _
set_option maxHeartbeats 8000000 in
set_option maxRecDepth 100000 in
theorem implNfaOf_any (pv:Value) (ps:List PieceD) (w:World) (hp:pathB ps=true) (hoc:occA ps (ps.length-1)≤20) (hv:PiecesR w pv ps):
  Calls Tryz.prog 194 #[.agg #[pv]] w fun e w'=> ∃ v,e= .returned (.tuple #[v,.bool true])∧NfaOw w' w.heap.size v (nfaM ps)∧Fr w w':=by
 have hps:=(pathB_out hp).1
 have HV:=Lib.hid hv
 have CP:=implPathOk_any pv ps
 have CO:=fun w'=>occurrences_any pv ps w' hp
 obtain⟨avp,bvp,ovp,cvp,rfl,hcp,hmp,hold⟩:=hv.one
 rw[hp]at CP
 rw[show min (occA ps (ps.length-1)) 24=occA ps (ps.length-1) by omega]at CO
 have CP:=Lib.hid CP
 have CO:=Lib.hid CO
 have HPP:=Lib.hid hp
 obtain⟨oc,hoce⟩: ∃ oc,occA ps (ps.length-1)=oc:=⟨_,rfl⟩
 rw[hoce]at CO hoc
 have HOC:=Lib.hid hoce
 clear hv hold hp hoce
 obtain⟨i0,hi,hz0,hz1,hz2⟩:=info_parts info_bool
 go_enter Tryz.func194,Tryz.ntmps194
 go_wp2_with(first|(go_at_call 159;refine(CP.out _ (HV.out.fr (by exact Qf))).mono ?_;rintro e w1 ⟨rfl,hf1⟩;have BP1:Box w1 w.heap.size #[.slice avp ps.length cvp] 140:=Box.fr ((Box.new _ _ _).alloc _) hf1;have BR1:Box w1 (w.heap.size+1) #[.int .i64 0,.slice none 0 0,.slice none 0 0] 133:=Box.fr (Box.new' (by simp)) hf1;have FP1:=BP1.facts;have FR1:=BR1.facts;have zw1:=hf1.size;(try simp only[World.size_alloc]at zw1))|(go_at_call 221;refine(CO.out _ (HV.out.fr (by exact Qf))).mono ?_;rintro e w2 ⟨rfl,hf2⟩;have BP2:=BP1.fr hf2;have BR2:=BR1.fr hf2;have FP2:=BP2.facts;have FR2:=BR2.facts;have zw2:=hf2.size))
 go_at_call 222
 have HV2:PiecesR w2 (.slice avp ps.length cvp) ps:=HV.out.fr (by exact Qf)
 have M2:PosSt (w2.alloc (.cells #[.slice avp ps.length cvp,.slice none 0 0,.slice none 0 0] 270)) w2.heap.size w2.heap.size (.slice avp ps.length cvp) (.slice none 0 0) (.slice none 0 0) ⟨[],fun _ _=>false⟩:=
  ⟨Box.new _ _ _,World.ownsRow_nil _ _ _ _,World.ownsRow_nil _ _ _ _,fun g h1 h2=>(by cases h1),fun h=>(by cases h),fun h=>(by cases h)⟩
 have hL:=vis_any HPP.out HV2 ps.length w2.heap.size (ps.length-1) ⟨[],fun _ _=>false⟩ _ _ _ (by exact Qf) (Nat.le_refl _) M2 StOk.none (by omega) (by omega) (by rw[HOC.out];simp;omega)
 rw[show((ps.length:Int)-1)=((ps.length-1:Nat):Int) by omega]
 refine hL.mono ?_
 clear hL
 obtain⟨r,hr⟩: ∃ r,gluA ps=r:=⟨_,rfl⟩
 have hr':glu ps ps.length (ps.length-1) ⟨[],fun _ _=>false⟩=r:=hr
 rw[hr']
 have GO:=gluA_ok HPP.out
 have GL:=gluA_len HPP.out
 have GF:=glu_first HPP.out ps.length (ps.length-1) (by omega) (by omega) ⟨[],fun _ _=>false⟩
 have HSO:StOk r.1:=by rw[← hr];exact StOk.none.glu GO
 rw[hr']at GF
 rw[hr]at GO GL
 rw[HOC.out]at GL
 have HRR:=Lib.hid hr
 clear hr hr'
 rintro e w3 ⟨rfl,lv,fv,P3,T3,D1,D2⟩
 obtain⟨al,cl,rfl⟩: ∃ a c,lv= .slice a r.1.labs.length c:=owns_val P3.labs
 obtain⟨af,cf,rfl⟩:=RelO.val P3.fol
 obtain⟨m,hm⟩: ∃ m,r.1.labs.length=m:=⟨_,rfl⟩
 have hm20:m≤20:=by omega
 have LBN: ∀ i,i<w2.heap.size→ ¬ PB w2.heap.size (.slice none 0 0) (.slice none 0 0) i:=by
  rintro i hi (e|e|e)
  · omega
  · cases e
  · cases e
 have hf3:Fr w2 w3:=T3.old (by exact Qf) LBN
 have BP3:=BP2.fr hf3
 have BR3:=BR2.fr hf3
 have FP3:=BP3.facts;have FR3:=BR3.facts;have FM3:=P3.box.facts
 have zw3:=T3.size
 simp only[World.size_alloc]at zw3
 rw[hm]at FM3
 obtain⟨F,hF⟩: ∃ F,r.2.first=F:=⟨_,rfl⟩
 obtain⟨L,hL⟩: ∃ L,r.2.last=L:=⟨_,rfl⟩
 obtain⟨z,hz⟩: ∃ z,r.2.null=z:=⟨_,rfl⟩
 rw[hF,hL,hz]
 have HP3:=Lib.hid P3;have HGF:=Lib.hid GF;have HGO:=Lib.hid GO;have HMM:=Lib.hid hm;have HFF:=Lib.hid hF;have HLL:=Lib.hid hL;have HZZ:=Lib.hid hz;have HSOO:=Lib.hid HSO
 clear P3 T3 D1 D2 LBN M2 HSO GF GO GL hm hF hL hz HOC hoc
 have hbz:w2.heap.size<w3.heap.size:=by omega
 have hwm:IntKind.i64.wrap ((m:Int)+1)=(m:Int)+1:=IntWalk.i64_in _ (by omega)
 go_wp2_with fail
 obtain⟨wq,hwq⟩: ∃ W,w3.alloc (.cells #[.int .u32 (bN F:Int),.int .u32 (bN L:Int),.bool z] 272)=W:=⟨_,rfl⟩
 have zq:wq.heap.size=w3.heap.size+1:=by rw[← hwq,World.size_alloc]
 have hfq:Fr w3 wq:=by rw[← hwq];repeat(first|(with_reducible exact Fr.refl _)|(with_reducible assumption)|(with_reducible refine Fr.drewN ?_ _)|(with_reducible refine Fr.drew ?_)|(with_reducible refine Fr.alloc ?_ _)|(with_reducible refine Fr.setCell ?_ (by exact Qz) _)|(with_reducible refine Fr.trans ?_ (by with_reducible assumption)))
 have hSp:Box wq w3.heap.size #[.int .u32 (bN F:Int),.int .u32 (bN L:Int),.bool z] 272:=by rw[← hwq];exact Box.new _ _ _
 have hPq:PosSt wq w2.heap.size w2.heap.size (.slice avp ps.length cvp) (.slice al r.1.labs.length cl) (.slice af r.1.labs.length cf) r.1:=HP3.out.fr hfq
 obtain⟨W,hW⟩: ∃ W,((wq.alloc (.cells #[.bool z] 4)).alloc (.cells #[.int .i64 ((m:Int)+1),.slice none 0 0,.slice (some ⟨w3.heap.size+1,0,none⟩) 1 1] 133))=W:=⟨_,rfl⟩
 have hfW:Fr wq W:=by rw[← hW];repeat(first|(with_reducible exact Fr.refl _)|(with_reducible assumption)|(with_reducible refine Fr.drewN ?_ _)|(with_reducible refine Fr.drew ?_)|(with_reducible refine Fr.alloc ?_ _)|(with_reducible refine Fr.setCell ?_ (by exact Qz) _)|(with_reducible refine Fr.trans ?_ (by with_reducible assumption)))
 have hN:NfaSt W (w3.heap.size+1+1) wq.heap.size ((m:Int)+1) (.slice none 0 0) (.slice (some ⟨w3.heap.size+1,0,none⟩) 1 1) [] [z]:=by
  have h:=World.ownsRow_lit (base:=wq.heap.size) (e:=4) (size:=1) wq #[.bool z] 1 (Nat.le_refl _) (by unfold maxLen;omega) rfl
  rw[zq]at h
  refine⟨?_,World.ownsRow_nil _ _ _ _,?_,fun g h1 h2=>(by cases h1),fun h=>(by cases h),fun h=>?_⟩
  · rw[← hW];exact Box.new' (by rw[World.size_alloc,zq])
  · rw[← hW,zq];exact owns_fr h (by exact Qf)
  · have:w3.heap.size+1=w3.heap.size+1+1:=Option.some.inj h
    omega
 rw[hwq,hW]
 have hA0:=arcs_any2 (wq:=wq) (w:=W) w2.heap.size (w3.heap.size+1+1) w2.heap.size 0 ((m:Int)+1) (.slice avp ps.length cvp) (.slice al r.1.labs.length cl) (.slice af r.1.labs.length cf) (.slice none 0 0) (.slice (some ⟨w3.heap.size+1,0,none⟩) 1 1) r.1 F [] [z] (by omega) hPq hfW hN (by omega) (fun j hj=>by have:=(HGO.out.first j (by rw[HFF.out];exact hj)).2;exact this) (by have:=HMM.out;omega) (by simp) (by omega)
 refine hA0.mono ?_
 clear hA0 hN
 rintro e w4 ⟨rfl,av4,N4,hf4⟩
 have HQ:=Lib.hid hPq;have HSP:=Lib.hid hSp;have HFQ:=Lib.hid hfq
 have FP4:=((BP3.fr hfq).fr hf4).facts;have FR4:=((BR3.fr hfq).fr hf4).facts;have FS4:=(hSp.fr hf4).facts;have FB4:=(HQ.out.box.fr hf4).facts;have FN4:=N4.box.facts
 have zw4:=hf4.size
 have BR4:=BR3.fr hfq
 have e0: ∀ f:Nat→Nat→Bool,arcL r.1.labs f 1=[]++rowA r.1.labs 0 (f 0):=fun f=>arcL_one _ _
 have N4':NfaSt w4 (w3.heap.size+1+1) wq.heap.size ((m:Int)+1) av4 (.slice (some ⟨w3.heap.size+1,0,none⟩) 1 1) (arcL r.1.labs (goP r) 1) [z]:=by
  rw[arcL_one]
  have:goP r 0=F:=HFF.out
  rw[this]
  exact N4
 have HN4:=Lib.hid N4'
 rw[HMM.out]at FB4
 clear hPq hSp hfq N4 N4' hW hfW e0 FP3 FR3 FM3 BP3 BR3
 go_wp2_with fail
 go_loopw [42] (fun i wr=> ∃ (k:Nat) (av ev:Value),k≤m∧i= .int .i64 k∧Hid (NfaSt wr (w3.heap.size+1+1) wq.heap.size ((m:Int)+1) av ev (arcL r.1.labs (goP r) (k+1)) (z::(List.range k).map L))∧Fr wq wr) (fun i _=>m-(intOf i).toNat)
 case atStart=>exact⟨0,av4,_,Nat.zero_le _,rfl,HN4,hf4⟩
 case round=>
  clear HN4 FP4 FR4 FS4 FB4 FN4 hf4 zw4
  obtain⟨k,av,ev,hk,rfl,HN,hfr⟩:=hrel
  have zr:=hfr.size
  have FS:=(HSP.out.fr hfr).facts;have FN:=HN.out.box.facts
  have hlen:(z::(List.range k).map L).length=k+1:=by simp
  obtain⟨ae,ce,rfl⟩: ∃ a c,ev= .slice a (z::(List.range k).map L).length c:=owns_val HN.out.ends
  have hac:=arcL_len r.1.labs (goP r) (k+1)
  obtain⟨A,hA⟩: ∃ A,(arcL r.1.labs (goP r) (k+1)).length=A:=⟨_,rfl⟩
  have hmul:(k+1)*r.1.labs.length≤21*20:=Nat.mul_le_mul (by omega) (by have:=HMM.out;omega)
  have hA1:A≤420:=by omega
  obtain⟨aa,ca,rfl⟩: ∃ a c,av= .slice a (arcL r.1.labs (goP r) (k+1)).length c:=owns_val HN.out.arcs
  rw[hlen,hA]at HN FN
  have HNA:=Lib.hid hA
  clear hA hac hmul
  by_cases hlt:k<m
  · obtain⟨af',bf,of',cf',hv,_,_,hff⟩:=(HQ.out.fr hfr).fol.rd.one
    cases hv
    obtain⟨rfl,hbf,hff⟩:=hff (by have:=HMM.out;omega)
    have cf0:=hff k (by have:=HMM.out;omega)
    obtain⟨G,hG⟩: ∃ G,r.1.fol k=G:=⟨_,rfl⟩
    rw[hG]at cf0
    have HG:=Lib.hid hG
    obtain⟨T,hT⟩: ∃ T:Int,(if L k=true then(1:Int)else 0)=T:=⟨_,rfl⟩
    obtain⟨bk,hbk⟩: ∃ b,L k=b:=⟨_,rfl⟩
    have hd1:decide (T=1)=bk:=by rw[← hT, ← hbk];cases L k<;>rfl
    have hd2:(T==1)=bk:=by rw[← hT, ← hbk];cases L k<;>rfl
    have hb:=bN_bit L k (by omega)
    rw[hT]at hb
    have HBK:=Lib.hid hbk
    have HE:Hid (wr.ownsRow wq.heap.size 4 1 (.slice ae (k+1) ce) (k+1) ((z::(List.range k).map L).map Value.bool)):=Lib.hid (by have h:=HN.out.ends;rw[hlen]at h;exact h)
    have zc:w3.heap.size+1+1<wr.heap.size:=HN.out.box.lt
    have zc1:w3.heap.size+1+1≠wr.heap.size:=by omega
    clear hff hG hT hbk hlen
    go_wp2_with(at_builtin;(refine wpList_append_rd rfl _ _ 131 rfl wq.heap.size 4 i0 (.bool false) 1 1 Tryz.underlying131 hi hz0 hz1 hz2 rfl (by decide) (.slice ae (k+1) ce) (k+1) ((z::(List.range k).map L).map Value.bool) rfl (World.ownsRow.alloc HE.out _) _ 1 [.bool bk] rfl (RdS.new (by first|rfl|(simp;done)) rfl) (by simp[Value.oneCell']) (by unfold maxLen;omega) (by omega) (by exact Qz) ?_;intro ay cy w9 hown hgrow hat;have hB9:Box w9 (w3.heap.size+1+1) _ _:=Box.gr (Box.fr HN.out.box (by exact Qf)) hgrow (fun e=>HN.out.ne e);have F9:=hB9.facts;have hf9:Fr wq w9:=append_fr hfr HE.out hgrow;have FS9:=(HSP.out.fr hf9).facts))
    have m1:Mvd wr.heap.size (.slice ae (k+1) ce) (.slice ay (k+1+1) cy):=Mvd.of_app hat (by exact Qz)
    have hyc:(Value.slice ay (k+1+1) cy).ownBlock≠some (w3.heap.size+1+1):=m1.ne (fun e=>HN.out.ne (by rw[own_len _ _ (k+1)];exact e)) zc
    have hap:Apart (Value.slice aa A ca) (.slice ay (k+1+1) cy):=Apart.symm' (m1.apart (Apart.symm' (fun g h1 h2=>HN.out.ap g h1 (by rw[own_len _ _ (k+1)];exact h2))) (fun g e=>owns_old HN.out.arcs g e))
    have a9:=World.ownsRow.kept (owns_fr HN.out.arcs ((Fr.refl _).alloc (.cells #[.bool bk] 4))) hgrow (Apart.ne (fun g h1 h2=>HN.out.ap g h1 (by rw[own_len _ _ (k+1)];exact h2)))
    have N10:NfaSt (w9.setCell ⟨w3.heap.size+1+1,2,none⟩ (.slice ay (k+1+1) cy)) (w3.heap.size+1+1) wq.heap.size ((m:Int)+1) (.slice aa A ca) (.slice ay (k+1+1) cy) (arcL r.1.labs (goP r) (k+1)) (z::(List.range (k+1)).map L):=by
     have hl:(z::(List.range (k+1)).map L)=(z::(List.range k).map L)++[bk]:=by rw[List.range_succ,List.map_append, ← HBK.out];rfl
     refine⟨hB9.set_to (by simp),owns_far a9 (p:=⟨w3.heap.size+1+1,2,none⟩) HN.out.na _,?_,hap,HN.out.na,hyc⟩
     have:=owns_far hown (p:=⟨w3.heap.size+1+1,2,none⟩) hyc (.slice ay (k+1+1) cy)
     rw[hl,List.map_append]
     simpa using this
    have hf10:Fr wq (w9.setCell ⟨w3.heap.size+1+1,2,none⟩ (.slice ay (k+1+1) cy)):=hf9.setCell (p:=⟨w3.heap.size+1+1,2,none⟩) (by show wq.heap.size≤w3.heap.size+1+1;omega) _
    have hC:=arcs_any2 (wq:=wq) w2.heap.size (w3.heap.size+1+1) w2.heap.size (k+1) ((m:Int)+1) _ _ _ _ _ r.1 G _ _ (by omega) HQ.out hf10 N10 (by omega) (fun j hj=>(HSOO.out k j (by rw[HG.out];exact hj)).2) (by have:=HMM.out;omega) (by rw[HNA.out];omega) (by omega)
    rw[show((k+1:Nat):Int)=(k:Int)+1 from rfl]at hC
    refine hC.mono ?_
    rintro e w11 ⟨rfl,av11,N11,hf11⟩
    have hgo:goP r (k+1)=G:=HG.out
    have hN11:Hid (NfaSt w11 (w3.heap.size+1+1) wq.heap.size ((m:Int)+1) av11 (.slice ay (k+1+1) cy) (arcL r.1.labs (goP r) (k+1+1)) (z::(List.range (k+1)).map L)):=Lib.hid (by
     rw[arcL,hgo]
     exact N11)
    clear hgo N11 N10 hC hown hgrow hat
    go_wp2_with fail
    go_roundw
    case rel=>exact⟨k+1,av11,_,by omega,by go_num,hN11,hf11⟩
    case measure=>(simp[intOf];omega)
  · obtain rfl:k=m:=by omega
    go_wp2_with fail
    have hne:arcL r.1.labs (goP r) (k+1)≠[]:=by
     obtain⟨j,hj⟩:=HGF.out
     have:arcE r.1.labs 0 j∈arcL r.1.labs (goP r) (k+1):=mem_arcL.2 ⟨0,j,by omega,(HGO.out.first j hj).2,hj,rfl⟩
     intro e
     rw[e]at this
     cases this
    obtain⟨B,hB⟩: ∃ B,aa=some ⟨B,0,none⟩:=by
     rcases owns_shape HN.out.arcs with⟨_,h0,_⟩|⟨g,cap,e,_⟩
     · exact absurd (List.eq_nil_of_length_eq_zero h0) hne
     · cases e;exact⟨g,rfl⟩
    subst hB
    have hrow:=HN.out.arcs
    rw[HNA.out]at hrow
    have hS:=sortArcs_any wq.heap.size B ca (arcL r.1.labs (goP r) (k+1)) wr (by rw[HNA.out];exact hrow) (by rw[HNA.out];omega) (arcL_nodup _ _ _)
    rw[HNA.out]at hS
    refine hS.mono ?_
    clear hS
    rintro e w12 ⟨rfl,ys,hys,hmem,hyl,hyo,hyg⟩
    have hyc:ys=arcC r.1.labs (goP r):=arcL_sorted hys (by rw[HMM.out];exact hmem)
    have hf12:Fr wq w12:=hfr.grown hyg (fun g hg=>(hrow.lt g hg).1)
    have hBc:=Box.gr HN.out.box hyg (fun e=>HN.out.na e)
    have hE12:=World.ownsRow.kept HN.out.ends hyg (Apart.ne (Apart.symm' HN.out.ap))
    have FB12:=hBc.facts;have FR12:=(BR4.fr hf12).facts
    have zr12:=hf12.size
    have HYO:=Lib.hid hyo;have HYL:=Lib.hid hyl;have HYC:=Lib.hid hyc;have HE12:=Lib.hid hE12
    clear hyo hyl hyc hE12 hys hmem hyg hrow hne FN FS
    go_wp2_with fail
    have hk1:w.heap.size+1<wq.heap.size:=by omega
    have hA5:=owns_set (owns_set (owns_set HYO.out (p:=⟨w.heap.size+1,0,none⟩) hk1 (.int .i64 ((k:Int)+1))) (p:=⟨w.heap.size+1,1,none⟩) hk1 (.slice (some ⟨B,0,none⟩) A ca)) (p:=⟨w.heap.size+1,2,none⟩) hk1 (.slice ae (k+1) ce)
    have hE5:=owns_set (owns_set (owns_set HE12.out (p:=⟨w.heap.size+1,0,none⟩) hk1 (.int .i64 ((k:Int)+1))) (p:=⟨w.heap.size+1,1,none⟩) hk1 (.slice (some ⟨B,0,none⟩) A ca)) (p:=⟨w.heap.size+1,2,none⟩) hk1 (.slice ae (k+1) ce)
    have hfw:Fr w w12:=(((show Fr w w2 by exact Qf).trans hf3).trans HFQ.out).trans hf12
    refine bodyPost_ret (v:= .tuple #[.agg #[.int .i64 ((k:Int)+1),.slice (some ⟨B,0,none⟩) A ca,.slice ae (k+1) ce],.bool true]) (by simp[results,Tryz.results194,go_sem, *]) rfl ⟨_,rfl,⟨.slice (some ⟨B,0,none⟩) A ca,.slice ae (k+1) ce,?_,?_,?_⟩,?_⟩
    · unfold nfaM
      rw[HRR.out]
      unfold nfaR
      rw[HMM.out]
    · unfold nfaM
      rw[HRR.out]
      unfold nfaR
      rw[← HYC.out]
      have h:=owns_lo (lo':=w.heap.size) hA5 (by omega)
      have e:ys.length=A:=HYL.out.trans (by first|exact HNA.out|rfl)
      rw[e]
      exact h
    · unfold nfaM
      rw[HRR.out]
      have h:=owns_lo (lo':=w.heap.size) hE5 (by omega)
      have hend:endsB r=z::(List.range k).map L:=by unfold endsB;rw[HMM.out,HLL.out,HZZ.out]
      unfold nfaR
      rw[hend]
      simpa using h
    · exact((hfw.setCell (p:=⟨w.heap.size+1,0,none⟩) (Nat.le_succ _) _).setCell (p:=⟨w.heap.size+1,1,none⟩) (Nat.le_succ _) _).setCell (p:=⟨w.heap.size+1,2,none⟩) (Nat.le_succ _) _
def Job.cost:Job→Nat
 | .item=>0
 | .post _=>0
 | .alt _=>1
 | .expr _=>2
theorem grp_len (op:Int) (ks:List Int) (ps:List PieceD):(grp op ks ps).2.length≤ps.length+1:=by
 unfold grp
 split
 · simp
 · simp
/-- At most two pieces a byte. -/
theorem prs_len (t:ByteArray): ∀ (f:Nat) (j:Job) (a:Nat) (ps:List PieceD) (k:Int) (a1:Nat) (ps1:List PieceD),prs t f j a ps=some (k,a1,ps1)→ps1.length+2*a≤ps.length+2*a1+j.cost:=by
 intro f
 induction f with
 |zero=>intro j a ps k a1 ps1 h;rw[prs]at h;cases h
 |succ f ih=>
  intro j a ps k a1 ps1 h
  cases j with
  |item=>
   rw[prs]at h
   split at h
   · cases hE:prs t f (.expr []) (a+1) ps with
     |none=>rw[hE]at h;cases h
     |some r=>
      obtain⟨k2,a2,ps2⟩:=r
      rw[hE]at h
      simp only[]at h
      split at h
      · have h1:=ih _ _ _ _ _ _ hE
        have h2:=ih _ _ _ _ _ _ h
        simp only[Job.cost]at h1 h2 ⊢
        omega
      · cases h
   · have h2:=ih _ _ _ _ _ _ h
     simp only[Job.cost,List.length_append,List.length_singleton]at h2 ⊢
     omega
  |post k0=>
   rw[prs]at h
   split at h
   · have h2:=ih _ _ _ _ _ _ h
     simp only[Job.cost,List.length_append,List.length_singleton]at h2 ⊢
     omega
   · split at h
     · have h2:=ih _ _ _ _ _ _ h
       simp only[Job.cost,List.length_append,List.length_singleton]at h2 ⊢
       omega
     · split at h
       · have h2:=ih _ _ _ _ _ _ h
         simp only[Job.cost,List.length_append,List.length_singleton]at h2 ⊢
         omega
       · cases h
         simp[Job.cost]
  |alt ks=>
   rw[prs]at h
   split at h
   · cases hE:prs t f .item a ps with
     |none=>rw[hE]at h;cases h
     |some r=>
      obtain⟨k2,a2,ps2⟩:=r
      rw[hE]at h
      simp only[]at h
      have h1:=ih _ _ _ _ _ _ hE
      have h2:=ih _ _ _ _ _ _ h
      simp only[Job.cost]at h1 h2 ⊢
      omega
   · split at h
     · cases h
     · cases h
       have:=grp_len 2 ks ps
       simp only[Job.cost]
       omega
  |expr ks=>
   rw[prs]at h
   cases hE:prs t f (.alt []) a ps with
   |none=>rw[hE]at h;cases h
   |some r=>
    obtain⟨k2,a2,ps2⟩:=r
    rw[hE]at h
    simp only[]at h
    have h1:=ih _ _ _ _ _ _ hE
    split at h
    · have h2:=ih _ _ _ _ _ _ h
      simp only[Job.cost]at h1 h2 ⊢
      omega
    · cases h
      have:=grp_len 3 (ks++[k2]) ps2
      simp only[Job.cost]at h1 ⊢
      omega
/-- No place behind the end. -/
theorem prs_in (t:ByteArray): ∀ (f:Nat) (j:Job) (a:Nat) (ps:List PieceD) (k:Int) (a1:Nat) (ps1:List PieceD),prs t f j a ps=some (k,a1,ps1)→a≤t.size→(j= .item→nx t a≠0)→a1≤t.size:=by
 intro f
 induction f with
 |zero=>intro j a ps k a1 ps1 h;rw[prs]at h;cases h
 |succ f ih=>
  intro j a ps k a1 ps1 h ha hj
  have ne: ∀ {x n:Nat},nx t x=n→n≠0→x+1≤t.size:=fun e hn=>nx_in (by rw[e];exact hn)
  cases j with
  |item=>
   have h1:=nx_in (hj rfl)
   rw[prs]at h
   split at h
   · cases hE:prs t f (.expr []) (a+1) ps with
     |none=>rw[hE]at h;cases h
     |some r=>
      obtain⟨k2,a2,ps2⟩:=r
      rw[hE]at h
      simp only[]at h
      split at h
      · rename_i h41
        have:=ne h41 (by decide)
        exact ih _ _ _ _ _ _ h this (fun e=>by cases e)
      · cases h
   · exact ih _ _ _ _ _ _ h h1 (fun e=>by cases e)
  |post k0=>
   rw[prs]at h
   split at h
   · rename_i e
     exact ih _ _ _ _ _ _ h (ne e (by decide)) (fun e=>by cases e)
   · split at h
     · rename_i e
       exact ih _ _ _ _ _ _ h (ne e (by decide)) (fun e=>by cases e)
     · split at h
       · rename_i e
         exact ih _ _ _ _ _ _ h (ne e (by decide)) (fun e=>by cases e)
       · cases h
         exact ha
  |alt ks=>
   rw[prs]at h
   split at h
   · rename_i e
     have hz:nx t a≠0:=by
      rcases e with e|e
      · intro h0
        rw[h0]at e
        exact absurd e (by decide)
      · omega
     cases hE:prs t f .item a ps with
     |none=>rw[hE]at h;cases h
     |some r=>
      obtain⟨k2,a2,ps2⟩:=r
      rw[hE]at h
      simp only[]at h
      exact ih _ _ _ _ _ _ h (ih _ _ _ _ _ _ hE ha (fun _=>hz)) (fun e=>by cases e)
   · split at h
     · cases h
     · cases h
       exact ha
  |expr ks=>
   rw[prs]at h
   cases hE:prs t f (.alt []) a ps with
   |none=>rw[hE]at h;cases h
   |some r=>
    obtain⟨k2,a2,ps2⟩:=r
    rw[hE]at h
    simp only[]at h
    have h2:=ih _ _ _ _ _ _ hE ha (fun e=>by cases e)
    split at h
    · rename_i e
      exact ih _ _ _ _ _ _ h (ne e (by decide)) (fun e=>by cases e)
    · cases h
      exact h2
theorem Old.on {w w':World} {y:Value} (h:Old w y) (hs:w.heap.size≤w'.heap.size):Old w' y:=fun g e=>Nat.lt_of_lt_of_le (h g e) hs
/-- What a call of the reader leaves behind. -/
def RPost (b lo:Nat) (t:ByteArray) (v:Value) (us:List Value) (w:World) (R:Option (Int×Nat×List PieceD)) (e:Ending) (w':World):Prop:=
 match R with
 |none=>e= .returned (.tuple #[.int .i64 0,.bool false])∧Two b v.ownBlock w w'
 |some (k,a1,ps1)=>e= .returned (.tuple #[.int .i64 k,.bool true])∧RdSt b lo a1 t v (.slice none 0 0) us ps1 w w'
/-- A loop of the reader: z is its own row of kids. -/
structure Lp (b lo a:Nat) (t:ByteArray) (v0:Value) (us0:List Value) (w:World) (z:Value) (ks:List Int) (v:Value) (us:List Value) (ps:List PieceD) (wr:World):Prop where
 box:Box wr b #[.string t,.int .i64 (a:Int),v] 199
 prd:Prd wr lo v ps us
 go:PGo b v0 v w wr
 row:IntsO wr lo z ks
 apt:Apt v us z
 new: ∀ g,z.ownBlock=some g→w.heap.size≤g
 old: ∀ y,Old w y→Apt v0 us0 y→Apt v us y
theorem Apt.none (v:Value) (us:List Value):Apt v us (.slice none 0 0):=⟨fun g h=>by simp[Value.ownBlock]at h,fun u _ g h=>by simp[Value.ownBlock]at h⟩
theorem Lp.start {b lo a:Nat} {t:ByteArray} {v:Value} {us:List Value} {ps:List PieceD} {w:World} (hb:Box w b #[.string t,.int .i64 (a:Int),v] 199) (hp:Prd w lo v ps us):Lp b lo a t v us w (.slice none 0 0) [] v us ps w:=
 ⟨hb,hp,PGo.of_fr (Fr.refl w),World.ownsRow_nil _ _ _ _,Apt.none _ _,fun g h=>by simp[Value.ownBlock]at h,fun y _ h=>h⟩
theorem Lp.fr {b lo a:Nat} {t:ByteArray} {v0 z v:Value} {us0 us:List Value} {ks:List Int} {ps:List PieceD} {w wr w1:World} (h:Lp b lo a t v0 us0 w z ks v us ps wr) (hf:Fr wr w1):Lp b lo a t v0 us0 w z ks v us ps w1:=
 ⟨h.box.fr hf,h.prd.fr hf,h.go.trans (PGo.of_fr hf),owns_fr h.row hf,h.apt,h.new,h.old⟩
theorem Lp.call {b lo a a1:Nat} {t:ByteArray} {v0 z v:Value} {us0 us:List Value} {ks:List Int} {ps ps1:List PieceD} {w wr w1:World} (h:Lp b lo a t v0 us0 w z ks v us ps wr) (hlo:b<lo) (hr:RdSt b lo a1 t v (.slice none 0 0) us ps1 wr w1): ∃ v' us',Lp b lo a1 t v0 us0 w z ks v' us' ps1 w1:=by
 obtain⟨v',us',h1,h2,h3,h4⟩:=hr
 have hk:=h3.kids h.row h.apt.1 hlo
 have hN: ∀ y:Value,Apart y (.slice none 0 0):=fun y g _ e=>by simp[Value.ownBlock]at e
 exact⟨v',us',h1,h2,h.go.trans h3,hk.1,h4 z (fun g e=>(World.ownsRow.lt h.row g e).2) h.apt (hN z),h.new,fun y hy ha=>h4 y (hy.on h.go.size) (h.old y hy ha) (hN y)⟩
theorem Lp.app {b lo a:Nat} {t:ByteArray} {v0 z z' v:Value} {us0 us:List Value} {ks:List Int} {k:Int} {ps:List PieceD} {w wr w1:World} (h:Lp b lo a t v0 us0 w z ks v us ps wr) (hlo:b<lo) (hg:wr.grownBy w1 z.ownBlock) (ho:IntsO w1 lo z' (ks++[k])) (hat:z'.ownBlock=z.ownBlock∨ ∃ g,z'.ownBlock=some g∧wr.heap.size≤g):Lp b lo a t v0 us0 w z' (ks++[k]) v us ps w1:=by
 have hsz:=h.go.size
 have hmem: ∀ k,k<ps.length→nAt us k∈us:=fun k hk=>by
  have hk':k<us.length:=by rw[h.prd.len];exact hk
  have:nAt us k=us[k]:=by unfold nAt;simp[List.getD,hk']
  rw[this]
  exact List.getElem_mem hk'
 have sym: ∀ {x y:Value},Apart x y→Apart y x:=fun q g h1 h2=>q g h2 h1
 refine⟨h.box.gr hg (fun e=>by have:=(World.ownsRow.lt h.row b e).1;omega),⟨h.prd.len,World.ownsRow.kept h.prd.own hg (Apart.ne (sym h.apt.1)),fun j hj=>⟨World.ownsRow.kept (h.prd.kid j hj).1 hg (Apart.ne (sym (h.apt.2 _ (hmem j hj)))),(h.prd.kid j hj).2⟩⟩,⟨?_,h.go.row⟩,ho,?_,?_,h.old⟩
 · have ht:=h.go.two
   refine⟨hg.os.trans ht.os,hg.tape.trans ht.tape,hg.output.trans ht.output,Nat.le_trans ht.size hg.size,fun i hi h1 h2=>?_⟩
   rw[hg.block i (by omega) (fun e=>by have:=h.new i (by first|exact e|exact e.symm);omega)]
   exact ht.block i hi h1 h2
 · refine⟨fun g h1 h2=>?_,fun u hu g h1 h2=>?_⟩
   · rcases hat with r|⟨g',r,hg'⟩
     · exact h.apt.1 g (r▸h1) h2
     · rw[r]at h1
       cases h1
       have:=(World.ownsRow.lt h.prd.own g h2).2
       omega
   · rcases hat with r|⟨g',r,hg'⟩
     · exact h.apt.2 u hu g (r▸h1) h2
     · rw[r]at h1
       cases h1
       obtain⟨j,hj,rfl⟩:=List.getElem_of_mem hu
       have e1:nAt us j=us[j]:=by unfold nAt;simp[List.getD,hj]
       have:=(World.ownsRow.lt (h.prd.kid j (by rw[← h.prd.len];exact hj)).1 g (by rw[e1];exact h2)).2
       omega
 · intro g e
   rcases hat with r|⟨g',r,hg'⟩
   · exact h.new g (r▸e)
   · rw[r]at e
     cases e
     omega
theorem Lp.at_ {b lo a a1:Nat} {t:ByteArray} {v0 z v:Value} {us0 us:List Value} {ks:List Int} {ps:List PieceD} {w wr:World} (h:Lp b lo a t v0 us0 w z ks v us ps wr) (hlo:b<lo) (hb:Box (wr.setCell ⟨b,1,none⟩ (.int .i64 (a1:Int))) b #[.string t,.int .i64 (a1:Int),v] 199):Lp b lo a1 t v0 us0 w z ks v us ps (wr.setCell ⟨b,1,none⟩ (.int .i64 (a1:Int))):=
 ⟨hb,h.prd.set (by show b<lo;exact hlo) _,⟨h.go.two.set 1 _,h.go.row⟩,owns_set h.row (by show b<lo;exact hlo) _,h.apt,h.new,h.old⟩
theorem Lp.piece {b lo a:Nat} {t:ByteArray} {v0 v v' u:Value} {us0 us:List Value} {ps:List PieceD} {x:PieceD} {w wr w1:World} (h:Lp b lo a t v0 us0 w (.slice none 0 0) [] v us ps wr) (hu: ∀ g,u.ownBlock=some g→w.heap.size≤g)
  (h1:Box w1 b #[.string t,.int .i64 (a:Int),v'] 199) (h2:Prd w1 lo v' (ps++[x]) (us++[u])) (h3:Two b v.ownBlock wr w1) (h4:v'.ownBlock=v.ownBlock∨ ∃ g,v'.ownBlock=some g∧wr.heap.size≤g):Lp b lo a t v0 us0 w (.slice none 0 0) [] v' (us++[u]) (ps++[x]) w1:=
 ⟨h1,h2,h.go.trans ⟨h3,h4⟩,World.ownsRow_nil _ _ _ _,Apt.none _ _,fun g h=>by simp[Value.ownBlock]at h,fun y hy ha=>(h.old y hy ha).snoc (hy.on h.go.size) (fun g e1 e2=>by have:=hy g e1;have:=hu g e2;omega) h4⟩
theorem Lp.done {b lo a a1:Nat} {t:ByteArray} {v0 z v:Value} {us0 us:List Value} {ks:List Int} {ps ps1:List PieceD} {w wr w1:World} (h:Lp b lo a t v0 us0 w z ks v us ps wr) (hr:RdSt b lo a1 t v z us ps1 wr w1):RdSt b lo a1 t v0 (.slice none 0 0) us0 ps1 w w1:=by
 obtain⟨v',us',h1,h2,h3,h4⟩:=hr
 exact⟨v',us',h1,h2,h.go.trans h3,fun y hy ha _=>h4 y (hy.on h.go.size) (h.old y hy ha) fun g e1 e2=>by have:=hy g e1;have:=h.new g e2;omega⟩
end Go.Proofs.YtjnahjgncmcmdaaGreat