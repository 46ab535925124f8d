/- RoamStep of the program. Conditions: bounds on what comes in. -/
import Derived.Test.YtmdgdnkllclpcaaGreatRvs
import Derived.Test.YtmdgdnkllclpcaaGreatCpr
import Derived.Test.YtmdgdnkllclpcaaGreatDlp
import Derived.Test.YtmdgdnkllclpcaaGreatRpo
import Derived.Test.YtmdgdnkllclpcaaGreatGPrt
import Derived.Test.YtmdgdnkllclpcaaGreatGNWalkSS2
import Derived.Deep.RegionHeld3
import Derived.Deep.RegionHeldLaw
namespace Go.Proofs.YtmdgdnkllclpcaaGreat
open Go.RowKit
set_option linter.unusedVariables false
set_option linter.unusedSimpArgs false
theorem RnPost.of {w w':World} {d:RoamD} {ok:Bool} {lo hi:Nat} {a1:Option Addr} {c1:Nat} {a2:Option Addr} {c2:Nat} {L1:List (Itm (List WalkR))} {L2:List (Itm ParcelD)} (h:RoamV w' lo hi (.slice a1 L1.length c1) (.slice a2 L2.length c2) L1 L2) (h1:L1.map Itm.x=d.f0) (h2:L2.map Itm.x=d.f1) (hlo:w.heap.size≤lo) (hhi:hi≤w'.heap.size) (hf:Fr w w'):RnPost w d ok (.returned (.tuple #[.agg #[.slice a1 L1.length c1,.slice a2 L2.length c2],.bool ok])) w':=by
 have e1:L1.length=d.f0.length:=by rw[← h1];simp
 have e2:L2.length=d.f1.length:=by rw[← h2];simp
 refine⟨a1,c1,a2,c2,by rw[← e1, ← e2],⟨a1,c1,a2,c2,by rw[← e1, ← e2],?_⟩,hf⟩
 rw[← e1, ← e2]
 exact(h.mono hlo hhi).x h1 h2
set_option maxHeartbeats 16000000 in
set_option maxRecDepth 100000 in
theorem implRoamStep_any (gv qv rv:Value) (g:GraphD) (q:QueryD) (d:RoamD) (n k:Int) (w:World) (hg:GraphRd w gv g) (hq:QueryRd w qv q) (hr:RoamRd w rv d) (hn:q.bulk≤1048576) (hb:RoamFew d):
  Calls Tryz.prog 46 #[gv,qv,.int .i64 n,rv,.int .i64 k] w fun e w'=>RnPost w (rstD g q n d k) (rstOk g q n d k) e w':=by
 obtain⟨gb,hgb⟩: ∃ gb,graphB g=gb:=⟨_,rfl⟩
 obtain⟨qb,hqb⟩: ∃ qb,qryD q=qb:=⟨_,rfl⟩
 obtain⟨nb,hnb⟩: ∃ nb,decide (1≤n∧n≤8)=nb:=⟨_,rfl⟩
 obtain⟨pb,hpb⟩: ∃ pb,decide (0<d.f1.length)=pb:=⟨_,rfl⟩
 obtain⟨kb,hkb⟩: ∃ kb,decide (0≤k)=kb:=⟨_,rfl⟩
 obtain⟨sb,hsb⟩: ∃ sb,decide ((d.f0.length:Int)=n)=sb:=⟨_,rfl⟩
 obtain⟨P,hP⟩: ∃ P,nAt d.f1 (k.toNat%d.f1.length)=P:=⟨_,rfl⟩
 have hok:rstOk g q n d k=(pb&&(kb&&((gb&&(qb&&nb))&&(sb&&decide (0≤P.f0∧P.f0<n))))):=by unfold rstOk newOk;rw[hgb,hqb,hnb,hpb,hkb,hsb,hP]
 obtain⟨i0,hi,hz0,hz1,hz2⟩:=info_parts info_WalkS
 obtain⟨j0,hj,hy0,hy1,hy2⟩:=info_parts info_Parcel
 have HG:=Lib.hid hg;have HQ:=Lib.hid hq;have HRD:=Lib.hid hr
 have CC:Hid (∀ w',Fr w w'→Calls Tryz.prog 116 #[rv] w' fun e w''=>CpPost w' d e w''):=Lib.hid fun w' h=>copyRoam_any rv d w' (HRD.out.fr h) hb
 have CG:Hid (∀ w',Fr w w'→Calls Tryz.prog 84 #[gv] w' fun e w''=>e= .returned (.bool gb)∧Fr w' w''):=Lib.hid fun w' h=>by obtain⟨u,rfl,he⟩:=HG.out;rw[← hgb];exact implGraphOk_any u g.f0 g.f1 w' (he.fr h)
 have CQ:Hid (∀ w',Fr w w'→Calls Tryz.prog 62 #[qv] w' fun e w''=>e= .returned (.bool qb)∧Fr w' w''):=Lib.hid fun w' h=>by rw[← hqb];exact implQueryOk_d qv q w' (HQ.out.fr h) hn
 have CN:Hid (∀ w',Calls Tryz.prog 101 #[.int .i64 n] w' fun e w''=>e= .returned (.bool nb)∧Fr w' w''):=Lib.hid fun w'=>by rw[← hnb];exact isWorkers_any n w'
 obtain⟨R,hR⟩: ∃ R,rstD g q n d k=R:=⟨_,rfl⟩
 obtain⟨O,hO⟩: ∃ O,rstOk g q n d k=O:=⟨_,rfl⟩
 have HNO:Hid (pb=false∨kb=false∨gb=false∨qb=false∨nb=false∨sb=false→R=d∧O=false):=Lib.hid fun h=>by
  have:rstOk g q n d k=false:=by rw[hok];rcases h with h|h|h|h|h|h<;>simp[h]
  exact⟨hR.symm.trans (rstD_no this),hO.symm.trans this⟩
 have HPN:Hid (¬ (0≤P.f0∧P.f0<n)→R=d∧O=false):=Lib.hid fun h=>by
  have:rstOk g q n d k=false:=by rw[hok,decide_eq_false h];simp
  exact⟨hR.symm.trans (rstD_no this),hO.symm.trans this⟩
 have HYES:Hid (pb=true→kb=true→gb=true→qb=true→nb=true→sb=true→(0≤P.f0∧P.f0<n)→O=true∧R=rstR g q n d (k.toNat%d.f1.length)):=Lib.hid fun h1 h2 h3 h4 h5 h6 h7=>by
  have:rstOk g q n d k=true:=by rw[hok,h1,h2,h3,h4,h5,h6,decide_eq_true h7];rfl
  exact⟨hO.symm.trans this,hR.symm.trans (rstD_yes this)⟩
 have HSB:Hid (sb=true→(d.f0.length:Int)=n):=Lib.hid fun h=>of_decide_eq_true (hsb.trans h)
 have HNB:Hid (nb=true→1≤n∧n≤8):=Lib.hid fun h=>of_decide_eq_true (hnb.trans h)
 rw[hR,hO]
 have CP:Hid (∀ (k:Int) w',Fr w w'→Calls Tryz.prog 102 #[gv,.int .i64 k,.int .i64 n] w' fun e w''=>PrtPost w' g k n e w''):=Lib.hid fun k w' h=>by obtain⟨u,rfl,he⟩:=HG.out;exact implPartOf_any g u k n w' (he.fr h)
 have CT:Hid (∀ (k:Int) pv sv lv seen list w',Fr w w'→GraphRd w' pv (partG g k n)→WalksR w' sv seen→WalksR w' lv list→seen.length≤1048576→list.length≤1048576→Calls Tryz.prog 35 #[pv,qv,.int .i64 k,.int .i64 n,sv,lv] w' fun e w''=>TkPost w' (takeQ (partG g k n) q k n seen list) e w''):=Lib.hid fun k pv sv lv seen list w' h hp hs hl h1 h2=>implTakeWalks_any pv qv sv lv (partG g k n) q k n seen list w' hp (HQ.out.fr h) hs hl hn h1 h2
 have CA:Hid (∀ (s1:List WalkR) v w',s1.length≤1048576*289→WalksR w' v s1→Calls Tryz.prog 103 #[v,.int .i64 n] w' fun e w''=>PaPost w' (parAll s1 n) e w''):=Lib.hid fun s1 v w' hs hv=>(implParcelsOf_any v s1 n w' hv (by omega)).mono fun e w'' h=>by obtain⟨a,c,rfl,h1,h2⟩:=h;exact PaPost.of h1 h2
 have HR0:Hid (∀ k,k<d.f0.length→(nAt d.f0 k).length≤1048576):=Lib.hid fun k hk=>roam_row0 hb hk
 have HR1:Hid (∀ k,k<d.f1.length→(nAt d.f1 k).f1.length≤1048576):=Lib.hid fun k hk=>roam_row1 hb hk
 have HZ:Hid (((d.f1.length:Int)==0)=!pb):=Lib.hid (by rw[← hpb, ← decide_not];show decide ((d.f1.length:Int)=0)=_;exact decide_eq_decide.2 (by omega))
 have HK:Hid (decide (k<0)=!kb):=Lib.hid (by rw[← hkb, ← decide_not];exact decide_eq_decide.2 (by omega))
 have HS:Hid (((d.f0.length:Int) !=n)=!sb):=Lib.hid (by rw[← hsb];rfl)
 have HPB:Hid (pb=true→0<d.f1.length):=Lib.hid fun h=>of_decide_eq_true (hpb.trans h)
 have HKB:Hid (kb=true→0≤k):=Lib.hid fun h=>of_decide_eq_true (hkb.trans h)
 obtain⟨hlb0,hlb1⟩:=roam_lens hb
 have HPX:=Lib.hid hP
 obtain⟨ue,rfl,he⟩:=hg;obtain⟨ae,be,oe,ce,rfl,hce,hme,fe⟩:=he.one;obtain⟨u1,u2,u3,rfl,r1,r2,r3⟩:=hq;obtain⟨ao,bo,oo,co,rfl,hco,hmo,ko⟩:=r1.one;obtain⟨ax,bx,ox,cx,rfl,hcx,hmx,kx⟩:=r2.one;obtain⟨af,bf,of,cf,rfl,hcf,hmf,kf⟩:=r3.one;clear he fe r1 r2 r3 ko kx kf
 obtain⟨v1,v2,rfl,s1,s2⟩:=hr
 obtain⟨aa,ba,oa,ca,rfl,hca,hma,fa⟩:=s1.one
 obtain⟨ab,bb,ob,cb,rfl,hcb,hmb,fb⟩:=s2.one
 clear s1 s2 fa fb hgb hqb hnb hpb hkb hsb hok hR hO hn hb hP HG HQ HRD
 go_enter Tryz.func46,Tryz.ntmps46
 go_wp2_with fail
 refine(CC.out _ (by exact Qf)).mono ?_
 rintro e w1 ⟨a1,c1,a2,c2,L1,L2,rfl,hx1,hx2,hV,hf1⟩
 have z1:=hf1.size
 (try simp only[World.size_alloc]at z1)
 have BG1:Box w1 w.heap.size #[.int .i64 g.f0,.slice ae g.f1.length ce] 55:=Box.fr (Box.alloc (Box.alloc (Box.alloc (Box.new' rfl) _) _) _) hf1
 have BQ1:Box w1 (w.heap.size+1) #[.bool q.f0,.slice ao q.f1.length co,.slice ax q.f2.length cx,.slice af q.f3.length cf] 35:=Box.fr (Box.alloc (Box.alloc (Box.new' (by simp)) _) _) hf1
 have BI1:Box w1 (w.heap.size+1+1) #[.slice aa d.f0.length ca,.slice ab d.f1.length cb] 72:=Box.fr (Box.alloc (Box.new' (by simp)) _) hf1
 have BR1:Box w1 (w.heap.size+1+1+1) #[.slice none 0 0,.slice none 0 0] 72:=Box.fr (Box.new' (by simp)) hf1
 have HX1:=Lib.hid hx1
 have HX2:=Lib.hid hx2
 have HV:Hid (RoamV w1 (w.heap.size+4) w1.heap.size (.slice a1 L1.length c1) (.slice a2 L2.length c2) L1 L2):=Lib.hid (hV.mono (by exact Qz) (Nat.le_refl _))
 have hfw1:Fr w w1:=by exact Qf
 have FI1:=BI1.facts
 have FR1:=BR1.facts
 have FG1:=BG1.facts
 clear CC hx1 hx2 hV
 have gz:=HZ.out
 cases pb
 · obtain⟨h1,h2⟩:=HNO.out (by simp);have H1:=Lib.hid h1;have H2:=Lib.hid h2;clear h1 h2
   simp only[Bool.not_false]at gz
   go_wp2_with fail;rw[H1.out,H2.out];(refine bodyPost_ret (v:= .tuple #[.agg #[.slice a1 L1.length c1,.slice a2 L2.length c2],.bool false]) (by simp[results,Tryz.results46,go_sem, *]) rfl ?_);refine RnPost.of (lo:=w.heap.size+4) (hi:=w1.heap.size) ?_ HX1.out HX2.out (by omega) (by exact Qz) (by exact Qf);repeat(first|(exact HV.out)|(with_reducible refine RoamV.alloc ?_ _)|(with_reducible refine RoamV.drewN ?_ _)|(refine RoamV.set ?_ (.inl (by show w.heap.size+1+1+1<w.heap.size+4;omega)) _))
 simp only[Bool.not_true]at gz
 have gk:=HK.out
 cases kb
 · obtain⟨h1,h2⟩:=HNO.out (by simp);have H1:=Lib.hid h1;have H2:=Lib.hid h2;clear h1 h2
   simp only[Bool.not_false]at gk
   go_wp2_with fail;rw[H1.out,H2.out];(refine bodyPost_ret (v:= .tuple #[.agg #[.slice a1 L1.length c1,.slice a2 L2.length c2],.bool false]) (by simp[results,Tryz.results46,go_sem, *]) rfl ?_);refine RnPost.of (lo:=w.heap.size+4) (hi:=w1.heap.size) ?_ HX1.out HX2.out (by omega) (by exact Qz) (by exact Qf);repeat(first|(exact HV.out)|(with_reducible refine RoamV.alloc ?_ _)|(with_reducible refine RoamV.drewN ?_ _)|(refine RoamV.set ?_ (.inl (by show w.heap.size+1+1+1<w.heap.size+4;omega)) _))
 simp only[Bool.not_true]at gk
 have hk0:=HKB.out (by first|rfl|trivial)
 have hp0:=HPB.out (by first|rfl|trivial)
 obtain⟨K,rfl⟩:=Int.eq_ofNat_of_zero_le hk0
 clear HZ HK HKB HPB
 go_wp2_with fail
 refine(CG.out _ (by exact Qf)).mono ?_
 rintro e w2 ⟨rfl,hf2⟩
 have z2:=hf2.size
 (try simp only[World.size_alloc]at z2)
 have hf12:Fr w1 w2:=by exact Qf
 have BO2:Box w2 w1.heap.size #[.slice a1 L1.length c1,.slice a2 L2.length c2] 72:=Box.fr (Box.new' rfl) hf2
 have BG2:=BG1.fr hf12
 have BQ2:=BQ1.fr hf12
 have BI2:=BI1.fr hf12
 have BR2:=BR1.fr hf12
 clear FI1 FR1 FG1 BG1 BQ1 BI1 BR1 gz gk CG
 have FO2:=BO2.facts
 have FR2:=BR2.facts
 have FQ2:=BQ2.facts
 cases gb
 · obtain⟨h1,h2⟩:=HNO.out (by simp);have H1:=Lib.hid h1;have H2:=Lib.hid h2;clear h1 h2
   go_wp2_with fail;rw[H1.out,H2.out];(refine bodyPost_ret (v:= .tuple #[.agg #[.slice a1 L1.length c1,.slice a2 L2.length c2],.bool false]) (by simp[results,Tryz.results46,go_sem, *]) rfl ?_);refine RnPost.of (lo:=w.heap.size+4) (hi:=w1.heap.size) ?_ HX1.out HX2.out (by omega) (by exact Qz) (by exact Qf);repeat(first|(exact(HV.out.fr hf12))|(with_reducible refine RoamV.alloc ?_ _)|(with_reducible refine RoamV.drewN ?_ _)|(refine RoamV.set ?_ (.inl (by show w.heap.size+1+1+1<w.heap.size+4;omega)) _))
 go_wp2_with fail
 refine(CQ.out _ (by exact Qf)).mono ?_
 rintro e w3 ⟨rfl,hf3⟩
 have hf13:Fr w1 w3:=hf12.trans hf3
 have z3:=hf3.size
 have BO3:=BO2.fr hf3
 have BG3:=BG2.fr hf3
 have BQ3:=BQ2.fr hf3
 have BI3:=BI2.fr hf3
 have BR3:=BR2.fr hf3
 clear FO2 FR2 FQ2 BO2 BG2 BQ2 BI2 BR2 CQ
 have FO3:=BO3.facts
 have FR3:=BR3.facts
 cases qb
 · obtain⟨h1,h2⟩:=HNO.out (by simp);have H1:=Lib.hid h1;have H2:=Lib.hid h2;clear h1 h2
   go_wp2_with fail;rw[H1.out,H2.out];(refine bodyPost_ret (v:= .tuple #[.agg #[.slice a1 L1.length c1,.slice a2 L2.length c2],.bool false]) (by simp[results,Tryz.results46,go_sem, *]) rfl ?_);refine RnPost.of (lo:=w.heap.size+4) (hi:=w1.heap.size) ?_ HX1.out HX2.out (by omega) (by exact Qz) (by exact Qf);repeat(first|(exact(HV.out.fr hf13))|(with_reducible refine RoamV.alloc ?_ _)|(with_reducible refine RoamV.drewN ?_ _)|(refine RoamV.set ?_ (.inl (by show w.heap.size+1+1+1<w.heap.size+4;omega)) _))
 go_wp2_with fail
 refine(CN.out _).mono ?_
 rintro e w4 ⟨rfl,hf4⟩
 have hf14:Fr w1 w4:=hf13.trans hf4
 have z4:=hf4.size
 have BO4:=BO3.fr hf4
 have BG4:=BG3.fr hf4
 have BQ4:=BQ3.fr hf4
 have BI4:=BI3.fr hf4
 have BR4:=BR3.fr hf4
 clear FO3 FR3 BO3 BG3 BQ3 BI3 BR3 CN
 have FO4:=BO4.facts
 have FR4:=BR4.facts
 have FI4:=BI4.facts
 cases nb
 · obtain⟨h1,h2⟩:=HNO.out (by simp);have H1:=Lib.hid h1;have H2:=Lib.hid h2;clear h1 h2
   go_wp2_with fail;rw[H1.out,H2.out];(refine bodyPost_ret (v:= .tuple #[.agg #[.slice a1 L1.length c1,.slice a2 L2.length c2],.bool false]) (by simp[results,Tryz.results46,go_sem, *]) rfl ?_);refine RnPost.of (lo:=w.heap.size+4) (hi:=w1.heap.size) ?_ HX1.out HX2.out (by omega) (by exact Qz) (by exact Qf);repeat(first|(exact(HV.out.fr hf14))|(with_reducible refine RoamV.alloc ?_ _)|(with_reducible refine RoamV.drewN ?_ _)|(refine RoamV.set ?_ (.inl (by show w.heap.size+1+1+1<w.heap.size+4;omega)) _))
 have gs:=HS.out
 cases sb
 · obtain⟨h1,h2⟩:=HNO.out (by simp);have H1:=Lib.hid h1;have H2:=Lib.hid h2;clear h1 h2
   simp only[Bool.not_false]at gs
   go_wp2_with fail;rw[H1.out,H2.out];(refine bodyPost_ret (v:= .tuple #[.agg #[.slice a1 L1.length c1,.slice a2 L2.length c2],.bool false]) (by simp[results,Tryz.results46,go_sem, *]) rfl ?_);refine RnPost.of (lo:=w.heap.size+4) (hi:=w1.heap.size) ?_ HX1.out HX2.out (by omega) (by exact Qz) (by exact Qf);repeat(first|(exact(HV.out.fr hf14))|(with_reducible refine RoamV.alloc ?_ _)|(with_reducible refine RoamV.drewN ?_ _)|(refine RoamV.set ?_ (.inl (by show w.heap.size+1+1+1<w.heap.size+4;omega)) _))
 simp only[Bool.not_true]at gs
 have hsn:=HSB.out (by first|rfl|trivial)
 obtain⟨hn1,hn8⟩:=HNB.out (by first|rfl|trivial)
 obtain⟨N,rfl⟩:=Int.eq_ofNat_of_zero_le (show 0≤n by omega)
 have hfw4:Fr w w4:=hfw1.trans hf14
 have HV4:=Lib.hid (HV.out.fr hf14)
 have hl2:L2.length≤d.f1.length∧d.f1.length≤L2.length:=by have h:=congrArg List.length HX2.out;rw[List.length_map]at h;omega
 have hl1:L1.length≤N∧N≤L1.length:=by have h:=congrArg List.length HX1.out;rw[List.length_map]at h;omega
 have h02:0<L2.length:=by omega
 obtain⟨m,hm⟩: ∃ m,K%L2.length=m:=⟨_,rfl⟩
 have hmlt:m<L2.length:=by rw[← hm];exact Nat.mod_lt _ h02
 have hrm:(K:Int)%(L2.length:Int)=(m:Int):=by rw[← hm];first|exact(Int.natCast_emod K L2.length).symm|exact(Int.ofNat_emod K L2.length).symm|simp
 have htm:Int.tmod (K:Int) (L2.length:Int)=(m:Int):=by rw[Int.tmod_eq_emod_of_nonneg (by omega)];exact hrm
 obtain⟨A2,⟨xu,xl,xh,⟨p0,pw⟩⟩,B2,gq,cq,ap,cp,hs2,hA2,hv2,hcq1,hcq2,hgq1,hgq2,hgq3,qc0,qc1,hpw,hdis⟩:=HV4.out.at2k hmlt
 cases hv2
 simp only[]at qc0 qc1 hpw hdis
 have hPP:P=⟨p0,pw⟩:=by
  have h1:=itm_at (hs2▸HX2.out)
  have h2:=HPX.out
  have h3:d.f1.length=L2.length:=by omega
  rw[h3,Int.toNat_natCast,hm, ← hA2,h1]at h2
  exact h2.symm
 have hmk:(K:Int).toNat%d.f1.length=m:=by
  have h3:d.f1.length=L2.length:=by omega
  rw[h3,Int.toNat_natCast,hm]
 subst hPP
 have HMK:=Lib.hid hmk
 have HS2:=Lib.hid hs2
 have HA2:=Lib.hid hA2
 have HPW:=Lib.hid hpw
 have HDIS:=Lib.hid hdis
 have HM:=Lib.hid hm
 have hpl:pw.length≤1048576:=by
  have h1:=HR1.out m (by omega)
  have h2:=itm_at (hs2▸HX2.out)
  rw[hA2]at h2
  rw[h2]at h1
  exact h1
 have HSN:=Lib.hid hsn
 clear hmk hs2 hA2 hpw hdis HPX HSB HNB HS hsn
 by_cases ht:0≤p0∧p0<(N:Int)
 · obtain⟨hO,hR⟩:=HYES.out (by first|rfl|trivial) (by first|rfl|trivial) (by first|rfl|trivial) (by first|rfl|trivial) (by first|rfl|trivial) (by first|rfl|trivial) ht
   rw[HMK.out]at hR
   have HO:=Lib.hid hO
   have HRR:=Lib.hid hR
   obtain⟨Pn,rfl⟩:=Int.eq_ofNat_of_zero_le ht.1
   have hPn:Pn<L1.length:=by omega
   have g1:decide ((Pn:Int)<0)=false:=by simp
   have g2:decide ((N:Int)≤(Pn:Int))=false:=by simp;omega
   have hwm:IntKind.i64.wrap ((m:Int)+1)=(m:Int)+1:=IntWalk.i64_in _ (by omega)
   have CD:Hid (∀ w',Fr w4 w'→Calls Tryz.prog 117 #[.slice (some ⟨gq,0,none⟩) L2.length c2,.int .i64 m,.int .i64 ((m:Int)+1)] w' fun e w''=>e= .returned (.slice (some ⟨gq,0,none⟩) (L2.length-1) c2)∧w''.ownsRow 0 155 2 (.slice (some ⟨gq,0,none⟩) (L2.length-1) c2) (L2.length-1) ((L2.map Itm.u).eraseIdx m).flatten∧w'.grownBy w'' (some gq)):=Lib.hid fun w' hf=>by
    have hv:=HV4.out.fr hf
    have h:=deleteP_any 0 gq c2 m (L2.map Itm.u) w' hv.two.1 hv.two.2 (by rw[List.length_map];exact hv.own2) (by rw[List.length_map];omega) (by rw[List.length_map];exact hmlt)
    rw[List.length_map]at h
    exact h
   clear HYES HPN HNO hO hR HMK
   go_wp2_with fail
   refine(CD.out _ (by exact Qf)).mono ?_
   rintro e w5 ⟨rfl,ho5,hg5⟩
   have z5:=hg5.size
   (try simp only[World.size_alloc]at z5)
   have BX5:Box w5 w4.heap.size #[.int .i64 (Pn:Int),.slice ap pw.length cp] 155:=Box.gr (Box.new' rfl) hg5 (by simp;omega)
   have BG5:=Box.gr (BG4.alloc (.cells #[.int .i64 (Pn:Int),.slice ap pw.length cp] 155)) hg5 (by simp;omega)
   have BQ5:=Box.gr (BQ4.alloc (.cells #[.int .i64 (Pn:Int),.slice ap pw.length cp] 155)) hg5 (by simp;omega)
   have BR5:=Box.gr (BR4.alloc (.cells #[.int .i64 (Pn:Int),.slice ap pw.length cp] 155)) hg5 (by simp;omega)
   have BO5:=Box.gr (BO4.alloc (.cells #[.int .i64 (Pn:Int),.slice ap pw.length cp] 155)) hg5 (by simp;omega)
   obtain⟨hV5,hL3⟩:=RoamV.delk (HV4.out.fr ((Fr.refl w4).alloc (.cells #[.int .i64 (Pn:Int),.slice ap pw.length cp] 155))) HS2.out HA2.out ho5 hg5 rfl
   have P5:WalksW w5 xl xh (.slice ap pw.length cp) pw:=OwW.tch (OwW.alloc HPW.out (.cells #[.int .i64 (Pn:Int),.slice ap pw.length cp] 155)) (Tch.of_gr (B:=fun g=>some gq=some g) hg5 fun i h=>h) (fun q q1 q2 e=>(HDIS.out q q1 q2).2.1 e)
   have hfw5:Fr w w5:=Fr.grown (w:=w4.alloc (.cells #[.int .i64 (Pn:Int),.slice ap pw.length cp] 155)) (by exact Qf) hg5 (fun k h=>by cases h;omega)
   have hX3:(A2++B2).map Itm.x=d.f1.eraseIdx m:=by have h:=itm_erase (HS2.out▸HX2.out);rw[HA2.out]at h;exact h
   obtain⟨L3,hL3e⟩: ∃ L3,A2++B2=L3:=⟨_,rfl⟩
   rw[hL3e]at hV5 hL3 hX3
   have HL3:=Lib.hid hL3
   have HX3:=Lib.hid hX3
   have hl3:L3.length≤1073741824:=by omega
   have hVz:=hV5.set (p:=⟨w1.heap.size,1,none⟩) (.inr (Nat.le_refl _)) (.slice (some ⟨gq,0,none⟩) (L2.length-1) c2)
   have hPz:WalksW (w5.setCell ⟨w1.heap.size,1,none⟩ (.slice (some ⟨gq,0,none⟩) (L2.length-1) c2)) xl xh (.slice ap pw.length cp) pw:=OwW.tch P5 (Tch.set (B:=fun g=>g=w1.heap.size) (p:=⟨w1.heap.size,1,none⟩) (Tch.refl _ _) (.inl rfl) _) (fun q q1 q2 e=>by have:=(HDIS.out q q1 q2).1;omega)
   have BOz:=BO5.set_to (i:=1) (v:= .slice (some ⟨gq,0,none⟩) (L2.length-1) c2) (X:= #[.slice a1 L1.length c1,.slice (some ⟨gq,0,none⟩) (L2.length-1) c2]) rfl
   have BGz:=BG5.far' (q:=w1.heap.size) (i:=1) (by omega) (.slice (some ⟨gq,0,none⟩) (L2.length-1) c2)
   have BQz:=BQ5.far' (q:=w1.heap.size) (i:=1) (by omega) (.slice (some ⟨gq,0,none⟩) (L2.length-1) c2)
   have BRz:=BR5.far' (q:=w1.heap.size) (i:=1) (by omega) (.slice (some ⟨gq,0,none⟩) (L2.length-1) c2)
   have BXz:=BX5.far' (q:=w1.heap.size) (i:=1) (by omega) (.slice (some ⟨gq,0,none⟩) (L2.length-1) c2)
   have hfwz:Fr w (w5.setCell ⟨w1.heap.size,1,none⟩ (.slice (some ⟨gq,0,none⟩) (L2.length-1) c2)):=Fr.setCell hfw5 (by show w.heap.size≤w1.heap.size;omega) _
   have hzz:(w5.setCell ⟨w1.heap.size,1,none⟩ (.slice (some ⟨gq,0,none⟩) (L2.length-1) c2)).heap.size=w5.heap.size:=by simp
   have FO5:=BO5.facts
   go_wp2_with fail
   generalize hwz:w5.setCell ⟨w1.heap.size,1,none⟩ (.slice (some ⟨gq,0,none⟩) (L2.length-1) c2)=wz at hVz hPz BOz BGz BQz BRz BXz hfwz hzz ⊢
   clear hwz FO5 BO5 BG5 BQ5 BR5 BX5 P5 hV5 ho5 hg5 CD hfw5 HV4 HPW FO4 FR4 FI4 BO4 BG4 BQ4 BI4 BR4 qc0 qc1 hL3 hX3 hL3e
   obtain⟨A1,⟨yu,yl,yh,sn⟩,B1,gs,cs,as',csl,hs1,hA1,hv1,e1,e2,e3,rc0,rf0,hsw⟩:=hVz.at1k hPn
   cases hv1
   simp only[]at rc0 hsw
   have hsl:sn.length≤1048576:=by
    have h1:=HR0.out Pn (by have:=HSN.out;omega)
    have h2:=itm_at (hs1▸HX1.out)
    rw[hA1]at h2
    rw[h2]at h1
    exact h1
   have HSNN:Hid (nAt d.f0 Pn=sn):=Lib.hid (by have h2:=itm_at (hs1▸HX1.out);rw[hA1]at h2;exact h2)
   have HVz:=Lib.hid hVz
   have HPz:=Lib.hid hPz
   have HS1:=Lib.hid hs1
   have HA1:=Lib.hid hA1
   have HSW:=Lib.hid hsw
   have HPNN:Hid (nAt d.f1 m=⟨(Pn:Int),pw⟩):=Lib.hid (by have h2:=itm_at (HS2.out▸HX2.out);rw[HA2.out]at h2;exact h2)
   obtain⟨⟨s0,s1⟩,hts⟩: ∃ t,takeP g q (N:Int) d ⟨(Pn:Int),pw⟩=t:=⟨_,rfl⟩
   have htb:=take_bulk (g:=g) (q:=q) (n:=(N:Int)) (r:=d) (p:=⟨(Pn:Int),pw⟩)
   rw[hts]at htb
   simp only[Int.toNat_natCast]at htb
   rw[HSNN.out]at htb
   have CT2:Hid (∀ pv sv lv w',Fr w w'→GraphRd w' pv (partG g (Pn:Int) (N:Int))→WalksR w' sv sn→WalksR w' lv pw→Calls Tryz.prog 35 #[pv,.agg #[.bool q.f0,.slice ao q.f1.length co,.slice ax q.f2.length cx,.slice af q.f3.length cf],.int .i64 Pn,.int .i64 N,sv,lv] w' fun e w''=>TkPost w' (s0,s1) e w''):=Lib.hid fun pv sv lv w' h hp hs hl=>by
    have h2:=CT.out (Pn:Int) pv sv lv sn pw w' h hp hs hl hsl hpl
    have h3:takeP g q (N:Int) d ⟨(Pn:Int),pw⟩=takeQ (partG g (Pn:Int) (N:Int)) q (Pn:Int) (N:Int) sn pw:=by
     unfold takeP
     simp only[Int.toNat_natCast]
     rw[HSNN.out]
    rw[← h3,hts]at h2
    exact h2
   have HST:Hid (R=⟨d.f0.set Pn s0,d.f1.eraseIdx m++parAll s1 (N:Int)⟩):=Lib.hid (by
    rw[HRR.out]
    unfold rstR
    rw[HPNN.out,hts]
    simp only[Int.toNat_natCast])
   have CA2:=Lib.hid (CA.out s1)
   obtain⟨ps,hps⟩: ∃ ps,parAll s1 (N:Int)=ps:=⟨_,rfl⟩
   have hpsl:ps.length≤8*s1.length:=by have:=(parAll_few s1 (N:Int)).1;rw[hps]at this;exact this
   rw[hps]at HST CA2
   have RG: ∀ w',Sf wz w'→ ∀ o,w'.cell? ⟨w.heap.size,o,none⟩=(#[.int .i64 g.f0,.slice ae g.f1.length ce]:Array Value)[o]? :=fun w' h o=>(BGz.fr h.out).cell o
   have RQ: ∀ w',Sf wz w'→ ∀ o,w'.cell? ⟨w.heap.size+1,o,none⟩=(#[.bool q.f0,.slice ao q.f1.length co,.slice ax q.f2.length cx,.slice af q.f3.length cf]:Array Value)[o]? :=fun w' h o=>(BQz.fr h.out).cell o
   have RX: ∀ w',Sf wz w'→ ∀ o,w'.cell? ⟨w4.heap.size,o,none⟩=(#[.int .i64 (Pn:Int),.slice ap pw.length cp]:Array Value)[o]? :=fun w' h o=>(BXz.fr h.out).cell o
   have RO: ∀ w',Sf wz w'→ ∀ o,w'.cell? ⟨w1.heap.size,o,none⟩=(#[.slice (some ⟨gs,0,none⟩) L1.length c1,.slice (some ⟨gq,0,none⟩) (L2.length-1) c2]:Array Value)[o]? :=fun w' h o=>(BOz.fr h.out).cell o
   have RS: ∀ w',Sf wz w'→w'.cell? ⟨gs,Pn,none⟩=some (.slice as' sn.length csl):=fun w' h=>(h.out.cell (p:=⟨gs,Pn,none⟩) e3).trans rc0
   clear hts hps hs1 hA1 hsw rc0 hVz hPz HPNN HSNN HRR CT CA HR0 HR1
   go_region_held3 (fun w'=>Sf wz w') ((refine Sf.mk ?_;repeat(first|(with_reducible exact Fr.refl _)|(with_reducible assumption)|(with_reducible refine Fr.drewN ?_ _)|(with_reducible refine Fr.drew ?_)|(with_reducible refine Fr.alloc ?_ _)|(with_reducible refine Fr.setCell ?_ (by exact Qz) _)|(with_reducible refine Fr.trans ?_ (by with_reducible assumption))))) (first|(go_at_call 102;refine(CP.out _ _ (by exact Qf)).mono ?_;rintro e w10 ⟨aP,cP,rfl,hP,hf10⟩)|(go_at_call 35;refine(CT2.out _ _ _ _ (by exact Qf) ⟨_,rfl,hP.rd.fr (by exact Qf)⟩ (HSW.out.fr (by exact Qf)) (HPz.out.rd.fr (by exact Qf))).mono ?_;rintro e w12 ⟨x0,y0,x1,y1,l0,k0,l1,k1,rfl,q0,q1,hord,hf12⟩))
   all_goals
    have z10:=hf10.size
    have z12:=hf12.size
    (try simp only[World.size_alloc,World.size_drew,World.heap_drewN]at z10 z12 hord)
    have hfz12:Fr wz w12:=by exact Qf
    have hfw12:Fr w w12:=hfwz.trans hfz12
    have BG12:=BGz.fr hfz12
    have BQ12:=BQz.fr hfz12
    have BR12:=BRz.fr hfz12
    have BO12:=BOz.fr hfz12
    have BX12:=BXz.fr hfz12
    have FO12:=BO12.facts
    have FX12:=BX12.facts
    have HV12:=Lib.hid (HVz.out.fr hfz12)
    obtain⟨hb0,hb1,hb2,hb3,hb4,hb5,_⟩:=hord
    have c12:=RS w12 (Sf.mk hfz12)
    have f12:=(hfz12.frozen (p:=⟨gs,Pn,none⟩) e3).trans rf0
    have hgs12:gs<w12.heap.size:=Nat.lt_of_lt_of_le e3 hfz12.size
    have Q0:=Lib.hid q0
    have Q1:=Lib.hid q1
    clear RG RQ RX RO RS hP hf10 hf12 q0 q1 CT2 BGz BQz BRz BOz BXz HVz HPz HSW CP rf0
    go_wp2_with fail
    obtain⟨hV13,hLe⟩:=RoamS.putk HV12.out.s HS1.out HA1.out (j:=⟨[.slice x0 s0.length y0],l0,k0,s0⟩) rfl (walk_row Q0.out) (fun q hq=>by show q<l0;have:=hq.2;omega) (by show l0≤k0;omega)
    have hX4:(A1++(⟨[.slice x0 s0.length y0],l0,k0,s0⟩:Itm (List WalkR))::B1).map Itm.x=d.f0.set Pn s0:=by have h:=itm_set (j:=⟨[.slice x0 s0.length y0],l0,k0,s0⟩) (HS1.out▸HX1.out);rw[HA1.out]at h;exact h
    obtain⟨L4,hL4⟩: ∃ L4,A1++(⟨[.slice x0 s0.length y0],l0,k0,s0⟩:Itm (List WalkR))::B1=L4:=⟨_,rfl⟩
    rw[hL4]at hV13 hLe hX4
    have HLE:=Lib.hid hLe
    have HX4:=Lib.hid hX4
    have P13:WalksW (w12.setCell ⟨gs,Pn,none⟩ (.slice x0 s0.length y0)) l1 k1 (.slice x1 s1.length y1) s1:=OwW.set Q1.out (p:=⟨gs,Pn,none⟩) (.inl (by show gs<l1;omega)) _
    have BO13:=BO12.far' (q:=gs) (i:=Pn) (by omega) (.slice x0 s0.length y0)
    have BR13:=BR12.far' (q:=gs) (i:=Pn) (by omega) (.slice x0 s0.length y0)
    have hfw13:Fr w (w12.setCell ⟨gs,Pn,none⟩ (.slice x0 s0.length y0)):=Fr.setCell hfw12 (by show w.heap.size≤gs;omega) _
    have hz13:(w12.setCell ⟨gs,Pn,none⟩ (.slice x0 s0.length y0)).heap.size=w12.heap.size:=by simp
    generalize hwy:w12.setCell ⟨gs,Pn,none⟩ (.slice x0 s0.length y0)=wy at hV13 P13 BO13 BR13 hfw13 hz13 ⊢
    have HVy:=Lib.hid hV13
    have HPy:=Lib.hid P13
    have HOW:Hid (∀ w',Fr wy w'→w'.ownsRow 0 155 2 (.slice (some ⟨gq,0,none⟩) (L2.length-1) c2) (L2.length-1) (L3.map Itm.u).flatten):=Lib.hid fun w' hf=>by have h:=(HVy.out.fr hf).own2;rw[HL3.out]at h;exact h
    have FOy:=BO13.facts
    clear hwy hL4 hV13 hLe hX4 P13 c12 f12 hgs12 FO12 FX12 BG12 BQ12 BR12 BO12 BX12 HV12 Q0 Q1 HS1 HA1
    go_region_law(first|(go_simp;go_at_call 103;refine(CA2.out _ _ (by omega) (HPy.out.rd.fr (by exact Qf))).mono ?_;rintro e w15 ⟨M,a5,c5,rfl,hMx,hMr,hM1,hMe,hf15⟩;have hml:M.length≤8*s1.length:=(by have h:=congrArg List.length hMx;rw[List.length_map]at h;omega);have z15:=hf15.size;(try simp only[World.size_drew,World.heap_drewN]at z15);have HMX:=Lib.hid hMx;have HMR:=Lib.hid hMr;have HME:=Lib.hid hMe;clear hMx hMr hMe;have BO15:=BO13.fr (show Fr wy w15 by exact Qf);have FO15:=BO15.facts)|(refine step_append_rd (by rfl) _ _ 70 (by rfl) 0 155 j0 (.agg #[.int .i64 0,.slice none 0 0]) 2 32 Tryz.underlying70 hj hy0 hy1 hy2 rfl (by decide) (.slice (some ⟨gq,0,none⟩) (L2.length-1) c2) (L2.length-1) (L3.map Itm.u).flatten (by rfl) (HOW.out _ (by exact Qf)) (.slice a5 M.length c5) M.length (M.map Itm.u).flatten (by rfl) (HMR.out.fr (by exact Qf)) hM1 (by unfold maxLen;omega) (by omega) (by exact Qz) ?_;intro a6 c6 w16 hown6 hgrow6 hat6;have BO16:Box w16 w1.heap.size _ _:=Box.gr (BO15.fr (by exact Qf)) hgrow6 (fun e=>by have e2:gq=w1.heap.size:=Option.some.inj e;omega);have FO16:=BO16.facts))
    all_goals
     have hfy15:Fr wy w15:=by exact Qf
     have BR16:Box w16 (w.heap.size+1+1+1) _ _:=Box.gr (BR13.fr (by exact Qf)) hgrow6 (fun e=>by have e2:gq=w.heap.size+1+1+1:=Option.some.inj e;omega)
     have FR16:=BR16.facts
     have hfw16:Fr w w16:=Fr.grown (hfw13.trans (by exact Qf)) hgrow6 (fun j e=>by have e2:gq=j:=Option.some.inj e;omega)
     have hV16:=RoamS.add2 (hg:=hgrow6) (hown:=by rw[HL3.out];exact hown6) (hat:=hat6) (h:=HVy.out.fr (by exact Qf)) (hM:=HME.out.fr ParcelEW.keeps (by exact Qf)) (fun j hj=>by have hj:(w.heap.size+4≤j∧j<w1.heap.size)∨(l0≤j∧j<k0):=hj;(constructor<;>(try simp only[World.size_drew,World.heap_drewN])<;>omega)) (by exact Qz)
     have hz16:=hgrow6.size
     (try simp only[World.size_drew,World.heap_drewN]at hz16 hat6)
     have hlm:(L3++M).length=L2.length-1+M.length:=by rw[List.length_append,HL3.out]
     have hX5:(L3++M).map Itm.x=d.f1.eraseIdx m++ps:=by rw[List.map_append,HX3.out,HMX.out]
     have hatg: ∀ j,(Value.slice a6 (L2.length-1+M.length) c6).ownBlock=some j→w.heap.size+4≤j∧j<w16.heap.size∧j≠w1.heap.size:=fun j hj=>by
      have hlt:=owns_old hown6 j hj
      rcases hat6 with e|e
      · have e2:gq=j:=Option.some.inj (e.symm.trans hj);omega
      · have e2:=Option.some.inj (e.symm.trans hj);(try simp only[World.size_drew,World.heap_drewN]at e2);omega
     have HV16:=Lib.hid hV16
     have HLM:=Lib.hid hlm
     have HX5:=Lib.hid hX5
     have HAT:=Lib.hid hatg
     clear hV16 hlm hX5 hatg hown6 hgrow6 hat6 HVy HPy HOW HMX HMR HME hM1 HL3 HX3 CA2
     go_wp2_with fail
     rw[HST.out,HO.out]
     refine bodyPost_ret (v:= .tuple #[.agg #[.slice (some ⟨gs,0,none⟩) L1.length c1,.slice a6 (L2.length-1+M.length) c6],.bool true]) (by simp[results,Tryz.results46,go_sem, *]) rfl ?_
     have hS1:=HV16.out.set (p:=⟨w1.heap.size,1,none⟩) (fun hj=>by
      rcases hj with(hj|hj)|hj|hj
      · have:=hj.2;simp at this
      · have h9:l0≤w1.heap.size∧w1.heap.size<k0:=hj;omega
      · have h9:=hj.1;(try simp only[World.size_drew,World.heap_drewN]at h9);have h8:w1.heap.size<wy.heap.size:=(by omega);omega
      · exact(HAT.out _ hj).2.2 rfl) (.slice a6 (L2.length-1+M.length) c6)
     have hS2:=hS1.v (lo:=w.heap.size+4) (hi:=w16.heap.size) (fun j hj=>by
      rcases hj with(hj|hj)|hj|hj
      · have h9:w.heap.size+4≤j∧j<w1.heap.size:=hj;omega
      · have h9:l0≤j∧j<k0:=hj;omega
      · have h9:=hj.1;have h8:=hj.2;(try simp only[World.size_drew,World.heap_drewN]at h9);omega
      · have:=HAT.out _ hj;omega)
     have hS3:=(hS2.set (p:=⟨w.heap.size+1+1+1,0,none⟩) (.inl (by show w.heap.size+1+1+1<w.heap.size+4;omega)) (.slice (some ⟨gs,0,none⟩) L1.length c1)).set (p:=⟨w.heap.size+1+1+1,1,none⟩) (.inl (by show w.heap.size+1+1+1<w.heap.size+4;omega)) (.slice a6 (L2.length-1+M.length) c6)
     rw[← HLE.out, ← HLM.out]at hS3 ⊢
     exact RnPost.of hS3 HX4.out HX5.out (by omega) (by simp) (by exact Qf)
 · obtain⟨h1,h2⟩:=HPN.out ht
   have H1:=Lib.hid h1
   have H2:=Lib.hid h2
   clear h1 h2 HYES HPN HNO CT CP CA HR0 HR1
   by_cases h0:p0<0
   · have g1:decide (p0<0)=true:=by simpa using h0
     go_wp2_with fail;rw[H1.out,H2.out];(refine bodyPost_ret (v:= .tuple #[.agg #[.slice a1 L1.length c1,.slice (some ⟨gq,0,none⟩) L2.length c2],.bool false]) (by simp[results,Tryz.results46,go_sem, *]) rfl ?_);refine RnPost.of (lo:=w.heap.size+4) (hi:=w1.heap.size) ?_ HX1.out HX2.out (by omega) (by exact Qz) (by exact Qf);repeat(first|(exact HV4.out)|(with_reducible refine RoamV.alloc ?_ _)|(with_reducible refine RoamV.drewN ?_ _)|(refine RoamV.set ?_ (.inl (by show w.heap.size+1+1+1<w.heap.size+4;omega)) _))
   · have g1:decide (p0<0)=false:=by simpa using h0
     have g2:decide ((N:Int)≤p0)=true:=by simp only[decide_eq_true_eq];omega
     go_wp2_with fail;rw[H1.out,H2.out];(refine bodyPost_ret (v:= .tuple #[.agg #[.slice a1 L1.length c1,.slice (some ⟨gq,0,none⟩) L2.length c2],.bool false]) (by simp[results,Tryz.results46,go_sem, *]) rfl ?_);refine RnPost.of (lo:=w.heap.size+4) (hi:=w1.heap.size) ?_ HX1.out HX2.out (by omega) (by exact Qz) (by exact Qf);repeat(first|(exact HV4.out)|(with_reducible refine RoamV.alloc ?_ _)|(with_reducible refine RoamV.drewN ?_ _)|(refine RoamV.set ?_ (.inl (by show w.heap.size+1+1+1<w.heap.size+4;omega)) _))
end Go.Proofs.YtmdgdnkllclpcaaGreat
