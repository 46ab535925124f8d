/- A parcel taken by the reference (l21Step). Conditions: bounds on what comes in. -/
import Derived.Test.YtmdgdnkllclpcaaGreatRvs
import Derived.Test.YtmdgdnkllclpcaaGreatRpo
import Derived.Test.YtmdgdnkllclpcaaGreatGPrt
import Derived.Test.YtmdgdnkllclpcaaGreatGNWalkSS2
import Derived.Test.YtmdgdnkllclpcaaGreatCpq
import Derived.Test.YtmdgdnkllclpcaaGreatWe
import Derived.Deep.RegionHeld3
namespace Go.Proofs.YtmdgdnkllclpcaaGreat
open Go.RowKit
set_option linter.unusedVariables false
set_option linter.unusedSimpArgs false
section
variable {w w' w5:World} {S C D:Nat→Prop} {u1 u2 v':Value} {L1:List (Itm (List WalkR))} {L2 M:List (Itm ParcelD)}
/-- The parcels copied to a row of another block, one left out, some more. -/
theorem RoamS.keep2 {A B:List (Itm ParcelD)} {i:Itm ParcelD} (h:RoamS w S u1 u2 L1 L2) (hs:L2=A++i::B) (t:Tch D w w5) (hd: ∀ g,S g→ ¬ D g) (hM:ElsV ParcelEW 2 w5 C M) (hC: ∀ g,C g→ ¬ S g)
  (hown:w5.ownsRow 0 155 2 v' (A++B++M).length ((A++B++M).map Itm.u).flatten) (hv: ∀ g,v'.ownBlock=some g→ ¬ S g∧ ¬ C g):RoamS w5 (fun q=>S q∨C q∨v'.ownBlock=some q) u1 v' L1 (A++B++M):=by
 subst hs
 obtain⟨B1,B2,a,b,c,e⟩:=h.ex
 have e1:=(b.els.sublist (M:=A++B) (List.Sublist.append (List.Sublist.refl _) (List.sublist_cons_self _ _))).tch ParcelEW.keeps t (fun g k=>hd g (e g (.inr k.1)))
 have e2:=e1.append hM (fun g k1 k2=>hC g k2 (e g (.inr k1.1)))
 refine⟨B1,fun q=>B2 q∨C q∨v'.ownBlock=some q,a.tch WalkssEW.keeps t (fun g k=>hd g (e g (.inl k))),⟨hown,fun g k=> .inr (.inr k),e2.sub fun g k=>?_⟩,fun g k1 k2=>?_,fun g k=>?_⟩
 · rcases k with k|k
   · exact⟨.inl k.1,fun k2=>(hv g k2).1 (e g (.inr k.1))⟩
   · exact⟨.inr (.inl k),fun k2=>(hv g k2).2 k⟩
 · rcases k2 with k2|k2|k2
   · exact c g k1 k2
   · exact hC g k2 (e g (.inl k1))
   · exact(hv g k2).1 (e g (.inl k1))
 · rcases k with k|k|k|k
   · exact .inl (e g (.inl k))
   · exact .inl (e g (.inr k))
   · exact .inr (.inl k)
   · exact .inr (.inr k)
/-- A part of a row, as a slice of it. -/
theorem rds_part {g c c' n k m o:Nat} {xs ys zs:List Value} (h:RdS w 2 (.slice (some ⟨g,0,none⟩) n c) n (xs++(ys++zs))) (hx:xs.length=k*2) (hy:ys.length=m*2) (ho:o=k*2) (hc:m≤c') (hm:c'≤maxLen):RdS w 2 (.slice (some ⟨g,o,none⟩) m c') m ys:=by
 subst ho
 obtain⟨h1,ao,cap,hv,h2,h3,h4⟩:=h
 cases hv
 rw[List.length_append,List.length_append]at h1
 refine⟨hy,_,_,rfl,hc,hm,fun hn=>?_⟩
 obtain⟨b,o,hb,hs,hcell⟩:=h4 (by omega)
 cases hb
 refine⟨g,k*2,rfl,hs,fun j hj=>?_⟩
 have:=hcell (k*2+j) (by omega)
 rw[Nat.zero_add]at this
 rw[this,List.getElem?_append_right (by omega),List.getElem?_append_left (by omega),hx]
 congr 1
 omega
theorem owns_rise {w:World} {lo lo':Nat} {e:TypeId} {sz:Nat} {v:Value} {n:Nat} {xs:List Value} (h:w.ownsRow lo e sz v n xs) (hl: ∀ g,v.ownBlock=some g→lo'≤g):w.ownsRow lo' e sz v n xs:=by
 obtain⟨h1,h2|⟨g,cap,cur,hv,hg,hr⟩⟩:=h
 · exact⟨h1,.inl h2⟩
 · exact⟨h1,.inr ⟨g,cap,cur,hv,hl g (by rw[hv];rfl),hr⟩⟩
theorem ParcelSW.parts2 {w:World} {lo hi:Nat} {v:Value} {xs:List ParcelD} (h:ParcelSW w lo hi v xs): ∃ M:List (Itm ParcelD),M.map Itm.x=xs∧M.length=xs.length∧w.ownsRow lo 155 2 v M.length (M.map Itm.u).flatten∧(∀ u∈(M.map Itm.u).flatten,u.oneCell'=true)∧ElsV ParcelEW 2 w (fun g=>lo≤g∧g<hi) M:=by
 obtain⟨M,h1,h2⟩:=NestX.of_nest h
 refine⟨M,h1,by rw[← h1];simp,owns_rise h2.own (fun g e=>(h2.blk g e).1),fun u hu=>?_,h2.els.sub fun g hg=>hg.1⟩
 obtain⟨l,hl,hul⟩:=List.mem_flatten.1 hu
 obtain⟨i,hi',rfl⟩:=List.mem_map.1 hl
 obtain⟨_,⟨ao,cap,e,_⟩,_⟩:=h2.els.el i hi'
 rw[e]at hul
 simp at hul
 rcases hul with rfl|rfl<;>rfl
end
set_option maxHeartbeats 16000000 in
set_option maxRecDepth 100000 in
theorem l21Step_any (gv av:Value) (g:GraphD) (q:QueryD) (d:RoamD) (N m o:Nat) (a1 a2:Option Addr) (c1 c2:Nat) (L1:List (Itm (List WalkR))) (L2:List (Itm ParcelD)) (S:Nat→Prop) (w:World) (hg:GraphRd w gv g) (ha:NfasR w av (autL q)) (hgb:graphB g=true) (hqb:qryD q=true)
  (hB:Box w o #[.slice a1 L1.length c1,.slice a2 L2.length c2] 72) (hV:RoamS w S (.slice a1 L1.length c1) (.slice a2 L2.length c2) L1 L2) (hx1:L1.map Itm.x=d.f0) (hx2:L2.map Itm.x=d.f1) (hS: ∀ j,S j→j<w.heap.size) (ho: ¬ S o)
  (hmlt:m<L2.length) (h8:N≤8) (hl1:L1.length=N) (hp:0≤(nAt d.f1 m).f0∧(nAt d.f1 m).f0<(N:Int)) (hb:RoamFew d):
  Calls Tryz.prog 113 #[gv,av,.int .i64 N,.pointer (some ⟨o,0,none⟩),.int .i64 m] w fun e w'=>e= .returned (.tuple #[])∧ ∃ a6 c6 L1' L2',L1'.length=L1.length∧L1'.map Itm.x=(rstR g q N d m).f0∧L2'.map Itm.x=(rstR g q N d m).f1∧Box w' o #[.slice a1 L1'.length c1,.slice a6 L2'.length c6] 72∧RoamS w' (fun j=>S j∨(w.heap.size≤j∧j<w'.heap.size)) (.slice a1 L1'.length c1) (.slice a6 L2'.length c6) L1' L2'∧Tch (fun j=>j=o∨S j) w w':=by
 obtain⟨j0,hj,hy0,hy1,hy2⟩:=info_parts info_Parcel
 obtain⟨hlb0,hlb1⟩:=roam_lens hb
 have hd0:d.f0.length=N:=by rw[← hx1,List.length_map];exact hl1
 have hd1:d.f1.length=L2.length:=by rw[← hx2,List.length_map]
 have hsl:=roam_row0 hb (k:=(nAt d.f1 m).f0.toNat) (by omega)
 have hpl:=roam_row1 hb (k:=m) (by omega)
 have hV0:RoamV w 0 w.heap.size (.slice a1 L1.length c1) (.slice a2 L2.length c2) L1 L2:=hV.v fun j hj=>⟨Nat.zero_le _,hS j hj⟩
 obtain⟨A2,⟨xu,xl,xh,⟨p0,pw⟩⟩,B2,gq,cq,ap,cp,hs2,hA2,hv2,hcq1,hcq2,hgq1,hgq2,hgq3,qc0,qc1,hpw,hdis⟩:=hV0.at2k hmlt
 cases hv2
 simp only[]at qc0 qc1 hpw hdis
 have hPP:nAt d.f1 m=⟨p0,pw⟩:=by
  have h1:=itm_at (hs2▸hx2)
  rw[hA2]at h1
  exact h1
 rw[hPP]at hsl hpl hp
 simp only[]at hsl hpl hp
 obtain⟨Pn,rfl⟩:=Int.eq_ofNat_of_zero_le hp.1
 have hPn:Pn<L1.length:=by omega
 obtain⟨A1,⟨yu,yl,yh,sn⟩,B1,gs,cs,as',csl,hs1,hA1,hv1,e1,e2,e3,rc0,rf0,hsw⟩:=hV0.at1k hPn
 cases hv1
 simp only[]at rc0 hsw
 have hSN:nAt d.f0 Pn=sn:=by
  have h1:=itm_at (hs1▸hx1)
  rw[hA1]at h1
  exact h1
 rw[Int.toNat_natCast,hSN]at hsl
 have hgso:gs≠o:=fun e=>ho (e▸hV.in1 gs rfl)
 obtain⟨⟨s0,s1⟩,hts⟩: ∃ t,takeP g q (N:Int) d ⟨(Pn:Int),pw⟩=t:=⟨_,rfl⟩
 have htb:=take_bulk (g:=g) (q:=q) (n:=(N:Int)) (r:=d) (p:=⟨(Pn:Int),pw⟩)
 rw[hts]at htb
 simp only[Int.toNat_natCast]at htb
 rw[hSN]at htb
 have HG:=Lib.hid hg
 have CP:Hid (∀ w',Fr w w'→Calls Tryz.prog 99 #[gv,.int .i64 Pn,.int .i64 N] w' fun e w''=>PrtPost w' g Pn N e w''):=Lib.hid fun w' h=>by obtain⟨u,rfl,he⟩:=HG.out;exact specPartOf_any g u Pn N w' (he.fr h)
 have HA:=Lib.hid ha
 have CT2:Hid (∀ pv sv lv w',Fr w w'→GraphRd w' pv (partG g (Pn:Int) (N:Int))→WalksR w' sv sn→WalksR w' lv pw→Calls Tryz.prog 90 #[pv,av,.int .i64 Pn,.int .i64 N,sv,lv] w' fun e w''=>TkPost w' (s0,s1) e w''):=Lib.hid fun pv sv lv w' h hp hs hl=>by
  have hgp:=partG_ok hgb (Pn:Int) (N:Int)
  obtain⟨u,rfl,he⟩:=hp
  have h3:takeP g q (N:Int) d ⟨(Pn:Int),pw⟩=takeQ (partG g (Pn:Int) (N:Int)) q (Pn:Int) (N:Int) sn pw:=by
   unfold takeP
   simp only[Int.toNat_natCast]
   rw[hSN]
  rw[hts]at h3
  rw[h3]
  exact l20Take_any u av sv lv (partG g (Pn:Int) (N:Int)).f0 (Pn:Int) (N:Int) (partG g (Pn:Int) (N:Int)).f1 (autL q) sn pw _ w' he (HA.out.fr h) hs hl (graphB_out hgp).2.1 (autL_few q) (take_on hgp pw) (fun x _=>take_few hgp x) hsl hpl (take_tk hgp hqb (Pn:Int) (N:Int) sn pw)
 have HST:Hid (rstR g q N d m=⟨d.f0.set Pn s0,d.f1.eraseIdx m++parAll s1 (N:Int)⟩):=Lib.hid (by
  unfold rstR
  rw[hPP,hts]
  simp only[Int.toNat_natCast])
 obtain⟨ps,hps⟩: ∃ ps,parAll s1 (N:Int)=ps:=⟨_,rfl⟩
 have hpsl:ps.length≤8*s1.length:=by have:=(parAll_few s1 (N:Int)).1;rw[hps]at this;exact this
 have CA2:Hid (∀ v w',s1.length≤1048576*289→WalksR w' v s1→Calls Tryz.prog 100 #[v,.int .i64 N] w' fun e w''=> ∃ (M:List (Itm ParcelD)) (a:Option Addr) (c:Nat),e= .returned (.slice a M.length c)∧M.map Itm.x=ps∧w''.ownsRow w'.heap.size 155 2 (.slice a M.length c) M.length (M.map Itm.u).flatten∧(∀ u∈(M.map Itm.u).flatten,u.oneCell'=true)∧ElsV ParcelEW 2 w'' (fun g=>w'.heap.size≤g∧g<w''.heap.size) M∧Fr w' w''):=Lib.hid fun v w' hs hv=>(specParcelsOf_any v s1 N w' hv (by omega)).mono fun e w'' h=>by
  obtain⟨a,c,rfl,h1,h2⟩:=h
  rw[← hps]
  obtain⟨M,k1,k2,k3,k4,k5⟩:=h1.parts2
  exact⟨M,a,c,by rw[k2],k1,by rw[← k2]at k3;exact k3,k4,k5,h2⟩
 rw[hps]at HST
 have hl1a:L1.length≤N∧N≤L1.length:=by omega
 have hl2a:L2.length≤1073741824:=by omega
 have hpn0:(0:Int)≤(Pn:Int):=by omega
 have hpn1:(Pn:Int)<(L1.length:Int):=by omega
 clear hl1 hd0 hd1
 obtain⟨ue,rfl,he⟩:=hg
 obtain⟨ae,be,oe,ce,rfl,hce,hme,fe⟩:=he.one
 have FB:=hB.facts
 have HB:=Lib.hid hB
 have HV:=Lib.hid hV
 have HPW:=Lib.hid hpw
 have HSW:=Lib.hid hsw
 have HS1:=Lib.hid hs1
 have HS2:=Lib.hid hs2
 have HA1:=Lib.hid hA1
 have HA2:=Lib.hid hA2
 have HX1:=Lib.hid hx1
 have HX2:=Lib.hid hx2
 have HSS:=Lib.hid hS
 have HO:=Lib.hid ho
 have zo:=hB.lt
 have hll:A2.length=m∧B2.length=L2.length-(m+1):=by rw[hs2];simp;omega
 have HLL:=Lib.hid hll
 have HOW2:=Lib.hid hV.own2
 have HLN2:=Lib.hid hV0.two
 rw[hs2]at HLN2
 clear he fe ha hB hV hV0 hpw hsw hs1 hs2 hA1 hA2 hx1 hx2 hS ho hdis hp hSN hPP hts hps HG HA hgb hqb hll hb
 go_enter Tryz.func113,Tryz.ntmps113
 go_wp2_with fail
 have BG0:Box ((w.alloc (.cells #[.int .i64 g.f0,.slice ae g.f1.length ce] 55)).alloc (.cells #[.int .i64 (Pn:Int),.slice ap pw.length cp] 155)) w.heap.size #[.int .i64 g.f0,.slice ae g.f1.length ce] 55:=Box.alloc (Box.new _ _ _) _
 have BX0:Box ((w.alloc (.cells #[.int .i64 g.f0,.slice ae g.f1.length ce] 55)).alloc (.cells #[.int .i64 (Pn:Int),.slice ap pw.length cp] 155)) (w.heap.size+1) #[.int .i64 (Pn:Int),.slice ap pw.length cp] 155:=Box.new' (by simp)
 have hfz:Fr w ((w.alloc (.cells #[.int .i64 g.f0,.slice ae g.f1.length ce] 55)).alloc (.cells #[.int .i64 (Pn:Int),.slice ap pw.length cp] 155)):=by exact Qf
 have hzz:((w.alloc (.cells #[.int .i64 g.f0,.slice ae g.f1.length ce] 55)).alloc (.cells #[.int .i64 (Pn:Int),.slice ap pw.length cp] 155)).heap.size=w.heap.size+2:=by simp
 generalize hwz:(w.alloc (.cells #[.int .i64 g.f0,.slice ae g.f1.length ce] 55)).alloc (.cells #[.int .i64 (Pn:Int),.slice ap pw.length cp] 155)=wz at BG0 BX0 hfz hzz ⊢
 have hzz2:wz.heap.size≤w.heap.size+2∧w.heap.size+2≤wz.heap.size:=by omega
 clear hwz FB qc0 qc1 hzz
 have hBz:=HB.out.fr hfz
 have RG: ∀ w',Sf wz w'→ ∀ o,w'.cell? ⟨w.heap.size,o,none⟩=(#[.int .i64 g.f0,.slice ae g.f1.length ce]:Array Value)[o]? :=fun w' h o=>(BG0.fr h.out).cell o
 have RX: ∀ w',Sf wz w'→ ∀ o,w'.cell? ⟨w.heap.size+1,o,none⟩=(#[.int .i64 (Pn:Int),.slice ap pw.length cp]:Array Value)[o]? :=fun w' h o=>(BX0.fr h.out).cell o
 have RO: ∀ w',Sf wz w'→ ∀ j,w'.cell? ⟨o,j,none⟩=(#[.slice (some ⟨gs,0,none⟩) L1.length c1,.slice (some ⟨gq,0,none⟩) L2.length c2]:Array Value)[j]? :=fun w' h j=>(hBz.fr h.out).cell j
 have RS: ∀ w',Sf wz w'→w'.cell? ⟨gs,Pn,none⟩=some (.slice as' sn.length csl):=fun w' h=>((hfz.trans h.out).cell (p:=⟨gs,Pn,none⟩) e3).trans rc0
 go_region_held3 (fun w'=>Sf wz w') ((refine Sf.mk ?_;repeat(first|(with_reducible exact Fr.refl _)|(with_reducible assumption)|(with_reducible refine Fr.drewN ?_ _)|(with_reducible refine Fr.drew ?_)|(with_reducible refine Fr.alloc ?_ _)|(with_reducible refine Fr.setCell ?_ (by exact Qz) _)|(with_reducible refine Fr.trans ?_ (by with_reducible assumption))))) (first|(go_at_call 99;refine(CP.out _ (by exact Qf)).mono ?_;rintro e w10 ⟨aP,cP,rfl,hP,hf10⟩)|(go_at_call 90;refine(CT2.out _ _ _ _ (by exact Qf) ⟨_,rfl,hP.rd.fr (by exact Qf)⟩ (HSW.out.fr (by exact Qf)) (HPW.out.rd.fr (by exact Qf))).mono ?_;rintro e w12 ⟨x0,y0,x1,y1,l0,k0,l1,k1,rfl,q0,q1,hord,hf12⟩))
 all_goals
  have z10:=hf10.size
  have z12:=hf12.size
  (try simp only[World.size_alloc,World.size_drew,World.heap_drewN]at z10 z12 hord)
  have hfz12:Fr wz w12:=by exact Qf
  have hfw12:Fr w w12:=hfz.trans hfz12
  obtain⟨hb0,hb1,hb2,hb3,hb4,hb5,_⟩:=hord
  have BX12:=BX0.fr hfz12
  have BO12:=hBz.fr hfz12
  have c12:=RS w12 (Sf.mk hfz12)
  have f12:=(hfw12.frozen (p:=⟨gs,Pn,none⟩) e3).trans rf0
  have hgs12:gs<w12.heap.size:=Nat.lt_of_lt_of_le e3 hfw12.size
  have RX2: ∀ w',Tch (fun i=>i=gs) w12 w'→ ∀ j,w'.cell? ⟨w.heap.size+1,j,none⟩=(#[.int .i64 (Pn:Int),.slice ap pw.length cp]:Array Value)[j]? :=fun w' h j=>(h.box BX12 (by omega)).cell j
  have RO2: ∀ w',Tch (fun i=>i=gs) w12 w'→ ∀ j,w'.cell? ⟨o,j,none⟩=(#[.slice (some ⟨gs,0,none⟩) L1.length c1,.slice (some ⟨gq,0,none⟩) L2.length c2]:Array Value)[j]? :=fun w' h j=>(h.box BO12 (fun e=>hgso e.symm)).cell j
  have HV12:=Lib.hid (HV.out.fr hfw12)
  have Q0:=Lib.hid q0
  have Q1:=Lib.hid q1
  clear RG RX RO RS hP hf10 hf12 q0 q1 CT2 BG0 BX0 hBz CP rf0 HSW
  go_wp2_with fail
  go_region_held3 (fun w'=>Tch (fun i=>i=gs) w12 w') (first|(focus((refine Tch.of_fr ?_;repeat(first|(with_reducible exact Fr.refl _)|(with_reducible assumption)|(with_reducible refine Fr.drewN ?_ _)|(with_reducible refine Fr.drew ?_)|(with_reducible refine Fr.alloc ?_ _)|(with_reducible refine Fr.setCell ?_ (by exact Qz) _)|(with_reducible refine Fr.trans ?_ (by with_reducible assumption))));done))|(focus((refine Tch.fr (w':=w12.setCell ⟨gs,Pn,none⟩ (.slice x0 s0.length y0)) (Tch.set (B:=fun i=>i=gs) (Tch.refl _ _) (p:=⟨gs,Pn,none⟩) (.inl rfl) _) ?_;repeat(first|(with_reducible exact Fr.refl _)|(with_reducible assumption)|(with_reducible refine Fr.drewN ?_ _)|(with_reducible refine Fr.drew ?_)|(with_reducible refine Fr.alloc ?_ _)|(with_reducible refine Fr.setCell ?_ (by exact Qz) _)|(with_reducible refine Fr.trans ?_ (by with_reducible assumption))));done))) (fail)
  have hdr:Fr (w12.setCell ⟨gs,Pn,none⟩ (.slice x0 s0.length y0)) (w12.setCell ⟨gs,Pn,none⟩ (.slice x0 s0.length y0)).drew:=(Fr.refl _).drew
  obtain⟨hV13,hLe⟩:=RoamS.putk HV12.out HS1.out HA1.out (j:=⟨[.slice x0 s0.length y0],l0,k0,s0⟩) rfl (walk_row Q0.out) (fun j hj=>by have:=HSS.out j hj;show j<l0;omega) (by show l0≤k0;omega)
  have hX4:(A1++(⟨[.slice x0 s0.length y0],l0,k0,s0⟩:Itm (List WalkR))::B1).map Itm.x=d.f0.set Pn s0:=by have h:=itm_set (j:=⟨[.slice x0 s0.length y0],l0,k0,s0⟩) (HS1.out▸HX1.out);rw[HA1.out]at h;exact h
  obtain⟨L4,hL4⟩: ∃ L4,A1++(⟨[.slice x0 s0.length y0],l0,k0,s0⟩:Itm (List WalkR))::B1=L4:=⟨_,rfl⟩
  rw[hL4]at hV13 hLe hX4
  have HLE:=Lib.hid hLe
  have HX4:=Lib.hid hX4
  have hVy:=hV13.fr hdr
  have hPy:WalksW (w12.setCell ⟨gs,Pn,none⟩ (.slice x0 s0.length y0)).drew l1 k1 (.slice x1 s1.length y1) s1:=(OwW.set Q1.out (p:=⟨gs,Pn,none⟩) (.inl (by show gs<l1;omega)) _).fr hdr
  have BOy:=(BO12.far' (q:=gs) (i:=Pn) (fun e=>hgso e.symm) (.slice x0 s0.length y0)).fr hdr
  have hTy:Tch (fun j=>S j) w (w12.setCell ⟨gs,Pn,none⟩ (.slice x0 s0.length y0)).drew:=(Tch.set (Tch.of_fr hfw12) (p:=⟨gs,Pn,none⟩) (.inl (HV.out.in1 gs rfl)) _).fr hdr
  have hzy:(w12.setCell ⟨gs,Pn,none⟩ (.slice x0 s0.length y0)).drew.heap.size=w12.heap.size:=by simp
  clear RX2 RO2 c12 f12 BX12 BO12 hfw12 hfz12 Q0 Q1 hV13 hLe hX4 hL4 hdr HV12
  generalize hwy:(w12.setCell ⟨gs,Pn,none⟩ (.slice x0 s0.length y0)).drew=wy at hVy hPy BOy hTy hzy ⊢
  have hzy2:wy.heap.size≤w12.heap.size∧w12.heap.size≤wy.heap.size:=by omega
  clear hwy hzy
  have HVy:=Lib.hid hVy
  have HPy:=Lib.hid hPy
  have hrd:=RdS.of_owns hVy.own2
  rw[HS2.out]at hrd
  simp only[List.map_append,List.map_cons,List.flatten_append,List.flatten_cons]at hrd
  rw[← HS2.out]at hrd
  have hla:(A2.map Itm.u).flatten.length=m*2:=by rw[flatten_len (sz:=2) (fun u hu=>HLN2.out.1 u (by rw[List.map_append];exact List.mem_append.2 (.inl hu))),List.length_map,HLL.out.1]
  have hlb:(B2.map Itm.u).flatten.length=(L2.length-(m+1))*2:=by rw[flatten_len (sz:=2) (fun u hu=>HLN2.out.1 u (by rw[List.map_append,List.map_cons];exact List.mem_append.2 (.inr (List.mem_cons_of_mem _ hu)))),List.length_map,HLL.out.2]
  have hlx:xu.length=2:=HLN2.out.1 xu (by simp)
  have HRA:Hid (∀ w',Fr wy w'→RdS w' 2 (.slice (some ⟨gq,0,none⟩) m c2) m (A2.map Itm.u).flatten):=Lib.hid fun w' h=>rds_part (xs:=[]) (zs:=xu++(B2.map Itm.u).flatten) (hrd.fr h) (k:=0) rfl hla rfl (by omega) (by unfold maxLen;omega)
  obtain⟨pq,hpq⟩: ∃ x:Option Addr,(if c2=m+1 then some ⟨gq,0,none⟩else some ⟨gq,(m+1)*2,none⟩)=x:=⟨_,rfl⟩
  have HRB:Hid (∀ w',Fr wy w'→RdS w' 2 (.slice pq (L2.length-(m+1)) (c2-(m+1))) (L2.length-(m+1)) (B2.map Itm.u).flatten):=Lib.hid fun w' h=>by
   by_cases hc:c2=m+1
   · have e1:L2.length-(m+1)=0:=by omega
     have e2:c2-(m+1)=0:=by omega
     have e3:(B2.map Itm.u).flatten=[]:=List.eq_nil_of_length_eq_zero (by rw[hlb,e1])
     rw[e1,e2,e3]
     exact⟨by simp,pq,0,rfl,Nat.le_refl _,by unfold maxLen;omega,fun h=>absurd h (by decide)⟩
   · rw[if_neg hc]at hpq
     subst hpq
     exact rds_part (xs:=(A2.map Itm.u).flatten++xu) (zs:=[]) (by have h2:=hrd.fr h;rw[List.append_nil,List.append_assoc];exact h2) (k:=m+1) (by rw[List.length_append,hla,hlx];omega) hlb rfl (by omega) (by unfold maxLen;omega)
  have HON:Hid ((∀ u∈(A2.map Itm.u).flatten,u.oneCell'=true)∧(∀ u∈(B2.map Itm.u).flatten,u.oneCell'=true)):=Lib.hid (by
   have h2:=HLN2.out.2
   simp only[List.map_append,List.map_cons,List.flatten_append,List.flatten_cons]at h2
   exact⟨fun u hu=>h2 u (List.mem_append.2 (.inl hu)),fun u hu=>h2 u (List.mem_append.2 (.inr (List.mem_append.2 (.inr hu))))⟩)
  have hwm:IntKind.i64.wrap ((m:Int)+1)=(m:Int)+1:=IntWalk.i64_in _ (by omega)
  have RO3: ∀ w',Sf wy w'→ ∀ j,w'.cell? ⟨o,j,none⟩=(#[.slice (some ⟨gs,0,none⟩) L1.length c1,.slice (some ⟨gq,0,none⟩) L2.length c2]:Array Value)[j]? :=fun w' h j=>(BOy.fr h.out).cell j
  have zoy:=BOy.lt
  have hmc:m≤c2:=by omega
  have hmc1:m+1≤c2:=by omega
  have hi0:(0:Int)≤(m:Int)+1:=by omega
  have hi1:(m:Int)+1≤(L2.length:Int):=by omega
  clear hVy hPy hrd hla hlb hlx HLN2
  go_wp2_with fail
  refine wp_region_last_drew (fun w'=>Sf wy w') 23 (by kernel_rfl) (by first|assumption|(refine Sf.mk ?_;repeat(first|(with_reducible exact Fr.refl _)|(with_reducible assumption)|(with_reducible refine Fr.drewN ?_ _)|(with_reducible refine Fr.drew ?_)|(with_reducible refine Fr.alloc ?_ _)|(with_reducible refine Fr.setCell ?_ (by exact Qz) _)|(with_reducible refine Fr.trans ?_ (by with_reducible assumption))))) (fun hHeld=>?_)
  refine wpAnyE_take (i:=0) (r:=[21,22,23]) (v:=?_) rfl (by kernel_rfl) (by kernel_rfl) (by kernel_rfl) (by kernel_rfl) (fun _ _ _ h=>h) (Or.inl ⟨by rfl,?_⟩) (by assumption) ?_;rotate_left;(focus(intro w hSw;(try dsimp only at hSw);go_simp;all_goals (try with_reducible rfl)));(try simp only[Act.put,List.setIfInBounds_toArray,List.set_cons_zero,List.set_cons_succ])
  refine wpAnyE_take (i:=2) (r:=[3,4,5,7,8,16,20,23]) (v:=?_) rfl (by kernel_rfl) (by kernel_rfl) (by kernel_rfl) (by kernel_rfl) (fun _ _ _ h=>h) (Or.inl ⟨by rfl,?_⟩) (by assumption) ?_;rotate_left;(focus(intro w hSw;(try dsimp only at hSw);go_simp;all_goals (try with_reducible rfl)));(try simp only[Act.put,List.setIfInBounds_toArray,List.set_cons_zero,List.set_cons_succ])
  refine wpAnyE_take (i:=3) (r:=[4,5,7,8,16,20,23]) (v:=?_) rfl (by kernel_rfl) (by kernel_rfl) (by kernel_rfl) (by kernel_rfl) (fun _ _ _ h=>h) (Or.inl ⟨by rfl,?_⟩) (by assumption) ?_;rotate_left;(focus(intro w hSw;(try dsimp only at hSw);go_simp;all_goals (try with_reducible rfl)));(try simp only[Act.put,List.setIfInBounds_toArray,List.set_cons_zero,List.set_cons_succ])
  refine wpAnyE_take (i:=4) (r:=[5,7,8,16,20,23]) (v:=?_) rfl (by kernel_rfl) (by kernel_rfl) (by kernel_rfl) (by kernel_rfl) (fun _ _ _ h=>h) (Or.inl ⟨by rfl,?_⟩) (by assumption) ?_;rotate_left;(focus(intro w hSw;(try dsimp only at hSw);go_simp;all_goals (try with_reducible rfl)));(try simp only[Act.put,List.setIfInBounds_toArray,List.set_cons_zero,List.set_cons_succ])
  refine wpAnyE_take (i:=5) (r:=[7,8,16,20,23]) (v:=?_) rfl (by kernel_rfl) (by kernel_rfl) (by kernel_rfl) (by kernel_rfl) (fun _ _ _ h=>h) (Or.inl ⟨by rfl,?_⟩) (by assumption) ?_;rotate_left;(focus(intro w hSw;(try dsimp only at hSw);go_simp;all_goals (try with_reducible rfl)));(try simp only[Act.put,List.setIfInBounds_toArray,List.set_cons_zero,List.set_cons_succ])
  refine wpAnyE_take (i:=6) (r:=[7,8,16,20,23]) (v:=?_) rfl (by kernel_rfl) (by kernel_rfl) (by kernel_rfl) (by kernel_rfl) (fun _ _ _ h=>h) (Or.inl ⟨by rfl,?_⟩) (by assumption) ?_;rotate_left;(focus(intro w hSw;(try dsimp only at hSw);go_simp;all_goals (try with_reducible rfl)));(try simp only[Act.put,List.setIfInBounds_toArray,List.set_cons_zero,List.set_cons_succ])
  refine wpAnyE_take (i:=7) (r:=[8,16,20,23]) (v:=?_) rfl (by kernel_rfl) (by kernel_rfl) (by kernel_rfl) (by kernel_rfl) (fun _ _ _ h=>h) (Or.inl ⟨by rfl,?_⟩) (by assumption) ?_;rotate_left;(focus(intro w hSw;(try dsimp only at hSw);go_simp;all_goals (try with_reducible rfl)));(try simp only[Act.put,List.setIfInBounds_toArray,List.set_cons_zero,List.set_cons_succ])
  refine wpAnyE_take (i:=9) (r:=[10,11,12,15,16,20,23]) (v:=?_) rfl (by kernel_rfl) (by kernel_rfl) (by kernel_rfl) (by kernel_rfl) (fun _ _ _ h=>h) (Or.inl ⟨by rfl,?_⟩) (by assumption) ?_;rotate_left;(focus(intro w hSw;(try dsimp only at hSw);go_simp;all_goals (try with_reducible rfl)));(try simp only[Act.put,List.setIfInBounds_toArray,List.set_cons_zero,List.set_cons_succ])
  refine wpAnyE_take (i:=10) (r:=[11,12,15,16,20,23]) (v:=?_) rfl (by kernel_rfl) (by kernel_rfl) (by kernel_rfl) (by kernel_rfl) (fun _ _ _ h=>h) (Or.inl ⟨by rfl,?_⟩) (by assumption) ?_;rotate_left;(focus(intro w hSw;(try dsimp only at hSw);go_simp;all_goals (try with_reducible rfl)));(try simp only[Act.put,List.setIfInBounds_toArray,List.set_cons_zero,List.set_cons_succ])
  refine wpAnyE_take (i:=11) (r:=[12,15,16,20,23]) (v:=?_) rfl (by kernel_rfl) (by kernel_rfl) (by kernel_rfl) (by kernel_rfl) (fun _ _ _ h=>h) (Or.inl ⟨by rfl,?_⟩) (by assumption) ?_;rotate_left;(focus(intro w hSw;(try dsimp only at hSw);go_simp;all_goals (try with_reducible rfl)));(try simp only[Act.put,List.setIfInBounds_toArray,List.set_cons_zero,List.set_cons_succ])
  refine wpAnyE_take (i:=12) (r:=[15,16,20,23]) (v:=?_) rfl (by kernel_rfl) (by kernel_rfl) (by kernel_rfl) (by kernel_rfl) (fun _ _ _ h=>h) (Or.inl ⟨by rfl,?_⟩) (by assumption) ?_;rotate_left;(focus(intro w hSw;(try dsimp only at hSw);go_simp;all_goals (try with_reducible rfl)));(try simp only[Act.put,List.setIfInBounds_toArray,List.set_cons_zero,List.set_cons_succ])
  refine wpAnyE_take (i:=13) (r:=[14,15,16,20,23]) (v:=?_) rfl (by kernel_rfl) (by kernel_rfl) (by kernel_rfl) (by kernel_rfl) (fun _ _ _ h=>h) (Or.inl ⟨by rfl,?_⟩) (by assumption) ?_;rotate_left;(focus(intro w hSw;(try dsimp only at hSw);go_simp;all_goals (try with_reducible rfl)));(try simp only[Act.put,List.setIfInBounds_toArray,List.set_cons_zero,List.set_cons_succ])
  refine wpAnyE_take (i:=14) (r:=[15,16,20,23]) (v:=?_) rfl (by kernel_rfl) (by kernel_rfl) (by kernel_rfl) (by kernel_rfl) (fun _ _ _ h=>h) (Or.inl ⟨by rfl,?_⟩) (by assumption) ?_;rotate_left;(focus(intro w hSw;(try dsimp only at hSw);go_simp;all_goals (try with_reducible rfl)));(try simp only[Act.put,List.setIfInBounds_toArray,List.set_cons_zero,List.set_cons_succ])
  refine wpAnyE_take (i:=15) (r:=[16,20,23]) (v:=?_) rfl (by kernel_rfl) (by kernel_rfl) (by kernel_rfl) (by kernel_rfl) (fun _ _ _ h=>h) (Or.inl ⟨by rfl,?_⟩) (by assumption) ?_;rotate_left;(focus(intro w hSw;(try dsimp only at hSw);go_simp;all_goals (try with_reducible rfl)));(try simp only[Act.put,List.setIfInBounds_toArray,List.set_cons_zero,List.set_cons_succ])
  refine wpAnyE_take (i:=17) (r:=[19,20,23]) (v:=?_) rfl (by kernel_rfl) (by kernel_rfl) (by kernel_rfl) (by kernel_rfl) (fun _ _ _ h=>h) (Or.inl ⟨by rfl,?_⟩) (by assumption) ?_;rotate_left;(focus(intro w hSw;(try dsimp only at hSw);go_simp;all_goals (try with_reducible rfl)));(try simp only[Act.put,List.setIfInBounds_toArray,List.set_cons_zero,List.set_cons_succ])
  refine wpAnyE_take (i:=18) (r:=[19,20,23]) (v:=?_) rfl (by kernel_rfl) (by kernel_rfl) (by kernel_rfl) (by kernel_rfl) (fun _ _ _ h=>h) (Or.inl ⟨by rfl,?_⟩) (by assumption) ?_;rotate_left;(focus(intro w hSw;(try dsimp only at hSw);go_simp;all_goals (try with_reducible rfl)));(try simp only[Act.put,List.setIfInBounds_toArray,List.set_cons_zero,List.set_cons_succ])
  refine wpAnyE_ready (rs:=[1]) (by kernel_rfl) (by simp) ?_;refine AllReadyE.cons rfl (fun K hK=>?_) AllReadyE.nil
  go_simp
  refine hK.out _ _ (by first|assumption|(refine Sf.mk ?_;repeat(first|(with_reducible exact Fr.refl _)|(with_reducible assumption)|(with_reducible refine Fr.drewN ?_ _)|(with_reducible refine Fr.drew ?_)|(with_reducible refine Fr.alloc ?_ _)|(with_reducible refine Fr.setCell ?_ (by exact Qz) _)|(with_reducible refine Fr.trans ?_ (by with_reducible assumption))))) (fun hHeld2=>?_);clear hK K hHeld;have hHeld:=hHeld2;clear hHeld2;(try simp only[Act.put,List.setIfInBounds_toArray,List.set_cons_zero,List.set_cons_succ])
  refine wpAnyE_ready (rs:=[8]) (by kernel_rfl) (by simp) ?_;refine AllReadyE.cons rfl (fun K hK=>?_) AllReadyE.nil
  refine step_append_fst (by rfl) _ _ 70 (by rfl) wy.heap.size 155 j0 (.agg #[.int .i64 0,.slice none 0 0]) 2 32 Tryz.underlying70 hj hy0 hy1 hy2 rfl (by decide) (.slice (some ⟨wy.heap.size,0,none⟩) 0 0) (by rfl) (made_empty (by simp) (by omega)) _ m (A2.map Itm.u).flatten (by rfl) (HRA.out _ (by exact Qf)) HON.out.1 (by unfold maxLen;omega) (by omega) (by exact Qz) ?_;intro a7 c7 w7 hown7 hgrow7 hat7;have hf7:Fr wy w7:=Fr.grown (by exact Qf) hgrow7 (fun k e=>by have e2:=Option.some.inj e;(try dsimp only at e2);omega);have z7:=hgrow7.size;(try simp only[World.size_alloc,World.size_drew,World.heap_drewN]at z7)
  refine hK.out _ _ (by first|assumption|(refine Sf.mk ?_;repeat(first|(with_reducible exact Fr.refl _)|(with_reducible assumption)|(with_reducible refine Fr.drewN ?_ _)|(with_reducible refine Fr.drew ?_)|(with_reducible refine Fr.alloc ?_ _)|(with_reducible refine Fr.setCell ?_ (by exact Qz) _)|(with_reducible refine Fr.trans ?_ (by with_reducible assumption))))) (fun hHeld2=>?_);clear hK K hHeld;have hHeld:=hHeld2;clear hHeld2;(try simp only[Act.put,List.setIfInBounds_toArray,List.set_cons_zero,List.set_cons_succ])
  refine wpAnyE_ready (rs:=[16]) (by kernel_rfl) (by simp) ?_;refine AllReadyE.cons rfl (fun K hK=>?_) AllReadyE.nil
  refine step_append_rd (by rfl) _ _ 70 (by rfl) wy.heap.size 155 j0 (.agg #[.int .i64 0,.slice none 0 0]) 2 32 Tryz.underlying70 hj hy0 hy1 hy2 rfl (by decide) (.slice a7 m c7) m (A2.map Itm.u).flatten (by rfl) (hown7) _ (L2.length-(m+1)) (B2.map Itm.u).flatten (by rfl) (HRB.out _ (by exact Qf)) HON.out.2 (by unfold maxLen;omega) (by omega) (by exact Qz) ?_;intro a8 c8 w8 hown8 hgrow8 hat8;have hf8:Fr wy w8:=Fr.grown (by exact Qf) hgrow8 (fun k e=>(hown7.lt k e).1);have z8:=hgrow8.size;(try simp only[World.size_alloc,World.size_drew,World.heap_drewN]at z8)
  refine hK.out _ _ (by first|assumption|(refine Sf.mk ?_;repeat(first|(with_reducible exact Fr.refl _)|(with_reducible assumption)|(with_reducible refine Fr.drewN ?_ _)|(with_reducible refine Fr.drew ?_)|(with_reducible refine Fr.alloc ?_ _)|(with_reducible refine Fr.setCell ?_ (by exact Qz) _)|(with_reducible refine Fr.trans ?_ (by with_reducible assumption))))) (fun hHeld2=>?_);clear hK K hHeld;have hHeld:=hHeld2;clear hHeld2;(try simp only[Act.put,List.setIfInBounds_toArray,List.set_cons_zero,List.set_cons_succ])
  refine wpAnyE_ready (rs:=[19]) (by kernel_rfl) (by simp) ?_;refine AllReadyE.cons rfl (fun K hK=>?_) AllReadyE.nil
  go_simp;go_at_call 100;refine(CA2.out _ _ (by omega) (HPy.out.rd.fr (by exact Qf))).mono ?_;rintro e w15 ⟨M,a5,c5,rfl,hMx,hMo,hM1,hMe,hf15⟩;have hml:M.length≤8*s1.length:=(by have h:=congrArg List.length hMx;rw[List.length_map]at h;omega);have z15:=hf15.size;(try simp only[World.size_alloc,World.size_drew,World.heap_drewN]at z15);obtain⟨lM,hlM⟩: ∃ x,x=w8.heap.size:=⟨_,rfl⟩;have HMO:Hid (w15.ownsRow lM 155 2 (.slice a5 M.length c5) M.length (M.map Itm.u).flatten):=Lib.hid (owns_lo hMo (by(try simp only[World.size_alloc,World.size_drew,World.heap_drewN]);omega));have HME:Hid (ElsV ParcelEW 2 w15 (fun g=>lM≤g∧g<w15.heap.size) M):=Lib.hid (hMe.sub fun g hg=>⟨by have h9:=hg.1;(try simp only[World.size_alloc,World.size_drew,World.heap_drewN]at h9);omega,hg.2⟩);have HMX:=Lib.hid hMx;clear hMx hMo hMe
  have hq7: ∀ j,(Value.slice a7 m c7).ownBlock=some j→j<lM∨w15.heap.size≤j:=fun j e=>by have e3:=(hown7.lt j e).2;rcases hat7 with h|h<;>(have e2:=Option.some.inj (h.symm.trans e);(try dsimp only at e2);(try simp only[World.size_alloc,World.size_drew,World.heap_drewN]at e2);omega)
  refine hK.out _ _ (by first|assumption|(refine Sf.mk ?_;repeat(first|(with_reducible exact Fr.refl _)|(with_reducible assumption)|(with_reducible refine Fr.drewN ?_ _)|(with_reducible refine Fr.drew ?_)|(with_reducible refine Fr.alloc ?_ _)|(with_reducible refine Fr.setCell ?_ (by exact Qz) _)|(with_reducible refine Fr.trans ?_ (by with_reducible assumption))))) (fun hHeld2=>?_);clear hK K hHeld;have hHeld:=hHeld2;clear hHeld2;(try simp only[Act.put,List.setIfInBounds_toArray,List.set_cons_zero,List.set_cons_succ])
  refine wpAnyE_ready (rs:=[20]) (by kernel_rfl) (by simp) ?_;refine AllReadyE.cons rfl (fun K hK=>?_) AllReadyE.nil
  refine step_append_rd (by rfl) _ _ 70 (by rfl) wy.heap.size 155 j0 (.agg #[.int .i64 0,.slice none 0 0]) 2 32 Tryz.underlying70 hj hy0 hy1 hy2 rfl (by decide) (.slice a8 (m+(L2.length-(m+1))) c8) (m+(L2.length-(m+1))) ((A2.map Itm.u).flatten++(B2.map Itm.u).flatten) (by rfl) (owns_fr hown8 hf15) (.slice a5 M.length c5) M.length (M.map Itm.u).flatten (by rfl) (RdS.of_owns (HMO.out)) hM1 (by unfold maxLen;omega) (by omega) (by exact Qz) ?_;intro a9 c9 w9 hown9 hgrow9 hat9;have hf9:Fr wy w9:=Fr.grown (by exact Qf) hgrow9 (fun k e=>(hown8.lt k e).1);have z9:=hgrow9.size;(try simp only[World.size_alloc,World.size_drew,World.heap_drewN]at z9);have BO9:=BOy.fr hf9;have FO9:=BO9.facts
  have T8:Tch (fun g=> ¬ (lM≤g∧g<w15.heap.size)) w15 w15:=Tch.refl _ _
  refine hK.out _ _ (by first|assumption|(refine Sf.mk ?_;repeat(first|(with_reducible exact Fr.refl _)|(with_reducible assumption)|(with_reducible refine Fr.drewN ?_ _)|(with_reducible refine Fr.drew ?_)|(with_reducible refine Fr.alloc ?_ _)|(with_reducible refine Fr.setCell ?_ (by exact Qz) _)|(with_reducible refine Fr.trans ?_ (by with_reducible assumption))))) (fun hHeld2=>?_);clear hK K hHeld;have hHeld:=hHeld2;clear hHeld2;(try simp only[Act.put,List.setIfInBounds_toArray,List.set_cons_zero,List.set_cons_succ])
  refine wpAnyE_take (i:=21) (r:=[22,23]) (v:=?_) rfl (by kernel_rfl) (by kernel_rfl) (by kernel_rfl) (by kernel_rfl) (fun _ _ _ h=>h) (Or.inl ⟨by rfl,?_⟩) (by assumption) ?_;rotate_left;(focus(intro w hSw;(try dsimp only at hSw);go_simp;all_goals (try with_reducible rfl)));(try simp only[Act.put,List.setIfInBounds_toArray,List.set_cons_zero,List.set_cons_succ])
  refine wpAnyE_take (i:=22) (r:=[23]) (v:=?_) rfl (by kernel_rfl) (by kernel_rfl) (by kernel_rfl) (by kernel_rfl) (fun _ _ _ h=>h) (Or.inl ⟨by rfl,?_⟩) (by assumption) ?_;rotate_left;(focus(intro w hSw;(try dsimp only at hSw);go_simp;all_goals (try with_reducible rfl)));(try simp only[Act.put,List.setIfInBounds_toArray,List.set_cons_zero,List.set_cons_succ])
  refine wpAnyE_ready (rs:=[23]) (by kernel_rfl) (by simp) ?_;refine AllReadyE.last rfl rfl (fun K hK=>?_);go_simp;refine hK.out _ _ ?_;clear hK K hHeld;(try simp only[Act.put,List.setIfInBounds_toArray,List.set_cons_zero,List.set_cons_succ]);refine wpAnyE_done (by kernel_rfl) ?_ _
  all_goals
   have hq8: ∀ j,(Value.slice a8 (m+(L2.length-(m+1))) c8).ownBlock=some j→j<lM∨w15.heap.size≤j:=fun j e=>by
    have e3:=(hown8.lt j e).2
    rcases hat8 with h|h
    · exact hq7 j (h.symm.trans e)
    · have e2:=Option.some.inj (h.symm.trans e)
      (try simp only[World.size_alloc,World.size_drew,World.heap_drewN]at e2)
      omega
   have hq9: ∀ j,(Value.slice a9 (m+(L2.length-(m+1))+M.length) c9).ownBlock=some j→j<lM∨w15.heap.size≤j:=fun j e=>by
    have e3:=(hown9.lt j e).2
    rcases hat9 with h|h
    · exact hq8 j (h.symm.trans e)
    · have e2:=Option.some.inj (h.symm.trans e)
      (try simp only[World.size_alloc,World.size_drew,World.heap_drewN]at e2)
      omega
   have T9:Tch (fun g=> ¬ (lM≤g∧g<w15.heap.size)) w15 w9:=T8.trans (Tch.of_gr hgrow9 fun j e=>by have e2:=hq8 j e;omega)
   have hlm:(A2++B2++M).length=m+(L2.length-(m+1))+M.length:=by rw[List.length_append,List.length_append,HLL.out.1,HLL.out.2]
   have hlM2:wy.heap.size≤lM:=by omega
   have hR9:=RoamS.keep2 (C:=fun g=>lM≤g∧g<w15.heap.size) (w5:=w9) (v':= .slice a9 (m+(L2.length-(m+1))+M.length) c9) HVy.out HS2.out (Tch.of_fr (B:=fun _=>False) hf9) (fun _ _ k=>k) (HME.out.tch ParcelEW.keeps T9 (fun g k1 k2=>k2 k1)) (fun g k1 k2=>by
     have h9:g<wy.heap.size:=by
      rcases k2 with k2|k2
      · have:=HSS.out g k2;have h5:=hTy.size;omega
      · have h9:l0≤g∧g<k0:=k2;omega
     omega) (by
     rw[hlm]
     simp only[List.map_append,List.flatten_append]
     exact owns_lo hown9 (Nat.zero_le _)) (fun g e=>⟨fun k2=>by
     have h8:=(hown9.lt g e).1
     have h9:g<wy.heap.size:=by
      rcases k2 with k2|k2
      · have:=HSS.out g k2;have h5:=hTy.size;omega
      · have h9:l0≤g∧g<k0:=k2;omega
     omega,fun k1=>by have:=hq9 g e;omega⟩)
   have hX5:(A2++B2++M).map Itm.x=d.f1.eraseIdx m++ps:=by
    have h:=itm_erase (HS2.out▸HX2.out)
    rw[HA2.out]at h
    rw[List.map_append,h,HMX.out]
   have hS9:=hR9.set (p:=⟨o,1,none⟩) (fun hj=>by
    rcases hj with(hj|hj)|hj|hj
    · exact HO.out hj
    · have h9:l0≤o∧o<k0:=hj;omega
    · have h9:lM≤o∧o<w15.heap.size:=hj;omega
    · have h9:=(hown9.lt o hj).1;omega) (.slice a9 (m+(L2.length-(m+1))+M.length) c9)
   have hT9:Tch (fun j=>j=o∨S j) w (w9.setCell ⟨o,1,none⟩ (.slice a9 (m+(L2.length-(m+1))+M.length) c9)):=Tch.set ((hTy.sub fun i _ k=> .inr k).fr hf9) (p:=⟨o,1,none⟩) (.inl (.inl rfl)) _
   have hB9:Box (w9.setCell ⟨o,1,none⟩ (.slice a9 (m+(L2.length-(m+1))+M.length) c9)) o #[.slice (some ⟨gs,0,none⟩) L1.length c1,.slice a9 (m+(L2.length-(m+1))+M.length) c9] 72:=BO9.set_to rfl
   have hfin:RoamS (w9.setCell ⟨o,1,none⟩ (.slice a9 (m+(L2.length-(m+1))+M.length) c9)) (fun j=>S j∨(w.heap.size≤j∧j<(w9.setCell ⟨o,1,none⟩ (.slice a9 (m+(L2.length-(m+1))+M.length) c9)).heap.size)) (.slice (some ⟨gs,0,none⟩) L1.length c1) (.slice a9 (m+(L2.length-(m+1))+M.length) c9) L4 (A2++B2++M):=hS9.sub fun j hj=>by
    have h5:=hTy.size
    have h6:=T9.size
    rcases hj with(hj|hj)|hj|hj
    · exact .inl hj
    · have h9:l0≤j∧j<k0:=hj
      exact .inr (by simp only[World.size_setCell];omega)
    · have h9:lM≤j∧j<w15.heap.size:=hj
      exact .inr (by simp only[World.size_setCell];omega)
    · have h9:=hown9.lt j hj
      exact .inr (by simp only[World.size_setCell];omega)
   rw[← hlm]at hfin hB9 hT9
   rw[← HLE.out]at hfin hB9
   have HF1:=Lib.hid hfin
   have HF2:=Lib.hid hB9
   have HF3:=Lib.hid hT9
   have HF4:=Lib.hid hX5
   have HF5:=Lib.hid hlm
   clear hfin hB9 hT9 hS9 hR9 hX5 hlm T9 T8 hq9 hq8 hq7 hown9 hown8 hown7 hgrow9 hgrow8 hgrow7 hat9 hat8 hat7 HMO HME hM1 HPy HVy CA2 HRA HRB HON RO3 BO9 FO9
   go_wp2_with fail
   go_end0
   refine⟨rfl,a9,c9,L4,A2++B2++M,HLE.out,?_,?_,?_⟩
   · rw[HST.out];exact HX4.out
   · rw[HST.out];exact HF4.out
   · rw[← HF5.out];exact⟨HF2.out,HF1.out,HF3.out⟩
end Go.Proofs.YtmdgdnkllclpcaaGreat
