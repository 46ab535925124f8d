/- RoamStep of the reference. Conditions: bounds on what comes in. -/
import Derived.Test.YtmdgdnkllclpcaaGreatRsq
import Derived.Test.YtmdgdnkllclpcaaGreatRst
namespace Go.Proofs.YtmdgdnkllclpcaaGreat
open Go.RowKit
set_option linter.unusedVariables false
set_option linter.unusedSimpArgs false
set_option maxHeartbeats 16000000 in
set_option maxRecDepth 100000 in
theorem specRoamStep_any (gv qv rv:Value) (g:GraphD) (q:QueryD) (d:RoamD) (n k:Int) (w:World) (hg:GraphRd w gv g) (hq:QueryRd w qv q) (hr:RoamRd w rv d) (hn:q.bulk≤1048576) (hb:RoamFew d):
  Calls Tryz.prog 44 #[gv,qv,.int .i64 n,rv,.int .i64 k] w fun e w'=>RnPost w (rstD g q n d k) (rstOk g q n d k) e w':=by
 obtain⟨gb,hgb⟩: ∃ gb,graphB g=gb:=⟨_,rfl⟩
 obtain⟨qb,hqb⟩: ∃ qb,qryD q=qb:=⟨_,rfl⟩
 obtain⟨nb,hnb⟩: ∃ nb,decide (1≤n∧n≤8)=nb:=⟨_,rfl⟩
 obtain⟨pb,hpb⟩: ∃ pb,decide (0<d.f1.length)=pb:=⟨_,rfl⟩
 obtain⟨kb,hkb⟩: ∃ kb,decide (0≤k)=kb:=⟨_,rfl⟩
 obtain⟨sb,hsb⟩: ∃ sb,decide ((d.f0.length:Int)=n)=sb:=⟨_,rfl⟩
 obtain⟨P,hP⟩: ∃ P,nAt d.f1 (k.toNat%d.f1.length)=P:=⟨_,rfl⟩
 obtain⟨tb,htb⟩: ∃ tb,decide (0≤P.f0∧P.f0<n)=tb:=⟨_,rfl⟩
 have hok:rstOk g q n d k=(pb&&(kb&&((gb&&(qb&&nb))&&(sb&&tb)))):=by unfold rstOk newOk;rw[hgb,hqb,hnb,hpb,hkb,hsb,hP,htb]
 have HG:=Lib.hid hg;have HQ:=Lib.hid hq;have HRD:=Lib.hid hr
 have CC:Hid (∀ w',Fr w w'→Calls Tryz.prog 112 #[rv] w' fun e w''=>CpPost w' d e w''):=Lib.hid fun w' h=>l21Copy_any rv d w' (HRD.out.fr h) hb
 have CG:Hid (∀ w',Fr w w'→Calls Tryz.prog 81 #[gv] w' fun e w''=>e= .returned (.bool gb)∧Fr w' w''):=Lib.hid fun w' h=>by obtain⟨u,rfl,he⟩:=HG.out;rw[← hgb];exact specGraphOk_any u g.f0 g.f1 w' (he.fr h)
 have CQ:Hid (∀ w',Fr w w'→Calls Tryz.prog 55 #[qv] w' fun e w''=>e= .returned (.bool qb)∧Fr w' w''):=Lib.hid fun w' h=>by rw[← hqb];exact specQueryOk_d qv q w' (HQ.out.fr h) hn
 have CN:Hid (∀ w',Calls Tryz.prog 56 #[.int .i64 n,.int .i64 1,.int .i64 8] w' fun e w''=>e= .returned (.bool nb)∧Fr w' w''):=Lib.hid fun w'=>by rw[← hnb];exact(l01In_any n 1 8 w').mono fun e w'' h=>⟨h.1,h.2▸Fr.refl _⟩
 have CF:Hid (qb=true→ ∀ w',Fr w w'→Calls Tryz.prog 57 #[qv] w' fun e w''=> ∃ ao cap,e= .returned (.slice ao (autL q).length cap)∧NfasW w'' w'.heap.size w''.heap.size (.slice ao (autL q).length cap) (autL q)∧Fr w' w''):=Lib.hid fun h2 w' h=>l20Nfas_d qv q w' (HQ.out.fr h) hn (hqb.trans h2)
 obtain⟨R,hR⟩: ∃ R,rstD g q n d k=R:=⟨_,rfl⟩
 obtain⟨O,hO⟩: ∃ O,rstOk g q n d k=O:=⟨_,rfl⟩
 have HNO:Hid (pb=false∨kb=false∨gb=false∨qb=false∨nb=false∨sb=false∨tb=false→R=d∧O=false):=Lib.hid fun h=>by
  have:rstOk g q n d k=false:=by rw[hok];rcases h with h|h|h|h|h|h|h<;>simp[h]
  exact⟨hR.symm.trans (rstD_no this),hO.symm.trans this⟩
 have HYES:Hid (pb=true→kb=true→gb=true→qb=true→nb=true→sb=true→tb=true→O=true∧R=rstR g q n d (k.toNat%d.f1.length)):=Lib.hid fun h1 h2 h3 h4 h5 h6 h7=>by
  have:rstOk g q n d k=true:=by rw[hok,h1,h2,h3,h4,h5,h6,h7];rfl
  exact⟨hO.symm.trans this,hR.symm.trans (rstD_yes this)⟩
 have HSB:Hid (sb=true→(d.f0.length:Int)=n):=Lib.hid fun h=>of_decide_eq_true (hsb.trans h)
 have HNB:Hid (nb=true→1≤n∧n≤8):=Lib.hid fun h=>of_decide_eq_true (hnb.trans h)
 have HTB:Hid (tb=true→0≤P.f0∧P.f0<n):=Lib.hid fun h=>of_decide_eq_true (htb.trans h)
 have HZ:Hid (((d.f1.length:Int)==0)=!pb):=Lib.hid (by rw[← hpb, ← decide_not];show decide ((d.f1.length:Int)=0)=_;exact decide_eq_decide.2 (by omega))
 have HK:Hid (decide (k<0)=!kb):=Lib.hid (by rw[← hkb, ← decide_not];exact decide_eq_decide.2 (by omega))
 have HS:Hid (((d.f0.length:Int) !=n)=!sb):=Lib.hid (by rw[← hsb];rfl)
 have HPB:Hid (pb=true→0<d.f1.length):=Lib.hid fun h=>of_decide_eq_true (hpb.trans h)
 have HKB:Hid (kb=true→0≤k):=Lib.hid fun h=>of_decide_eq_true (hkb.trans h)
 have CT:Hid (∀ w',Calls Tryz.prog 56 #[.int .i64 P.f0,.int .i64 0,.int .i64 (n-1)] w' fun e w''=>e= .returned (.bool tb)∧Fr w' w''):=Lib.hid fun w'=>by
  have h2:decide (0≤P.f0∧P.f0≤n-1)=tb:=by rw[← htb];exact decide_eq_decide.2 (by omega)
  rw[← h2]
  exact(l01In_any P.f0 0 (n-1) w').mono fun e w'' h=>⟨h.1,h.2▸Fr.refl _⟩
 have HGB:Hid (gb=true→graphB g=true):=Lib.hid fun h=>hgb.trans h
 have HQB:Hid (qb=true→qryD q=true):=Lib.hid fun h=>hqb.trans h
 obtain⟨hlb0,hlb1⟩:=roam_lens hb
 have HPX:=Lib.hid hP
 have HBK:=Lib.hid hb
 rw[hR,hO]
 obtain⟨ue,rfl,he⟩:=hg;obtain⟨ae,be,oe,ce,rfl,hce,hme,fe⟩:=he.one;obtain⟨u1,u2,u3,rfl,r1,r2,r3⟩:=hq;obtain⟨ao,bo,oo,co,rfl,hco,hmo,ko⟩:=r1.one;obtain⟨ax,bx,ox,cx,rfl,hcx,hmx,kx⟩:=r2.one;obtain⟨af,bf,of,cf,rfl,hcf,hmf,kf⟩:=r3.one;clear he fe r1 r2 r3 ko kx kf
 obtain⟨v1,v2,rfl,s1,s2⟩:=hr
 obtain⟨aa,ba,oa,ca,rfl,hca,hma,fa⟩:=s1.one
 obtain⟨ab,bb,ob,cb,rfl,hcb,hmb,fb⟩:=s2.one
 have FB:=Lib.hid fb
 clear s1 s2 fa fb hgb hqb hnb hpb hkb hsb htb hok hR hO hn hb hP HQ HRD
 go_enter Tryz.func44,Tryz.ntmps44
 go_wp2_with fail
 refine(CC.out _ (by exact Qf)).mono ?_
 rintro e w1 ⟨a1,c1,a2,c2,L1,L2,rfl,hx1,hx2,hV,hf1⟩
 have z1:=hf1.size
 (try simp only[World.size_alloc]at z1)
 have BG1:Box w1 w.heap.size #[.int .i64 g.f0,.slice ae g.f1.length ce] 55:=Box.fr (Box.alloc (Box.alloc (Box.alloc (Box.new' rfl) _) _) _) hf1
 have BQ1:Box w1 (w.heap.size+1) #[.bool q.f0,.slice ao q.f1.length co,.slice ax q.f2.length cx,.slice af q.f3.length cf] 35:=Box.fr (Box.alloc (Box.alloc (Box.new' (by simp)) _) _) hf1
 have BI1:Box w1 (w.heap.size+1+1) #[.slice aa d.f0.length ca,.slice ab d.f1.length cb] 72:=Box.fr (Box.alloc (Box.new' (by simp)) _) hf1
 have BR1:Box w1 (w.heap.size+1+1+1) #[.slice none 0 0,.slice none 0 0] 72:=Box.fr (Box.new' (by simp)) hf1
 have HX1:=Lib.hid hx1
 have HX2:=Lib.hid hx2
 have HV:Hid (RoamV w1 (w.heap.size+4) w1.heap.size (.slice a1 L1.length c1) (.slice a2 L2.length c2) L1 L2):=Lib.hid (hV.mono (by exact Qz) (Nat.le_refl _))
 have hfw1:Fr w w1:=by exact Qf
 have FG1:=BG1.facts
 clear CC hx1 hx2 hV
 go_wp2_with fail
 refine(CG.out _ (by exact Qf)).mono ?_
 rintro e w2 ⟨rfl,hf2⟩
 have z2:=hf2.size
 (try simp only[World.size_alloc]at z2)
 have hf12:Fr w1 w2:=by exact Qf
 have BO2:Box w2 w1.heap.size #[.slice a1 L1.length c1,.slice a2 L2.length c2] 72:=Box.fr (Box.new' rfl) hf2
 have BG2:=BG1.fr hf12
 have BQ2:=BQ1.fr hf12
 have BI2:=BI1.fr hf12
 have BR2:=BR1.fr hf12
 clear FG1 BG1 BQ1 BI1 BR1 CG
 have FO2:=BO2.facts
 have FR2:=BR2.facts
 have FQ2:=BQ2.facts
 cases gb
 · obtain⟨h1,h2⟩:=HNO.out (by simp);have H1:=Lib.hid h1;have H2:=Lib.hid h2;clear h1 h2
   go_wp2_with fail;rw[H1.out,H2.out];(refine bodyPost_ret (v:= .tuple #[.agg #[.slice a1 L1.length c1,.slice a2 L2.length c2],.bool false]) (by simp[results,Tryz.results44,go_sem, *]) rfl ?_);refine RnPost.of (lo:=w.heap.size+4) (hi:=w1.heap.size) ?_ HX1.out HX2.out (by omega) (by exact Qz) (by exact Qf);repeat(first|(exact(HV.out.fr hf12))|(with_reducible refine RoamV.alloc ?_ _)|(with_reducible refine RoamV.drewN ?_ _)|(refine RoamV.set ?_ (.inl (by show w.heap.size+1+1+1<w.heap.size+4;omega)) _))
 go_wp2_with fail
 refine(CQ.out _ (by exact Qf)).mono ?_
 rintro e w3 ⟨rfl,hf3⟩
 have hf13:Fr w1 w3:=hf12.trans hf3
 have z3:=hf3.size
 have BO3:=BO2.fr hf3
 have BG3:=BG2.fr hf3
 have BQ3:=BQ2.fr hf3
 have BI3:=BI2.fr hf3
 have BR3:=BR2.fr hf3
 clear FO2 FR2 FQ2 BO2 BG2 BQ2 BI2 BR2 CQ
 have FO3:=BO3.facts
 have FR3:=BR3.facts
 cases qb
 · obtain⟨h1,h2⟩:=HNO.out (by simp);have H1:=Lib.hid h1;have H2:=Lib.hid h2;clear h1 h2
   go_wp2_with fail;rw[H1.out,H2.out];(refine bodyPost_ret (v:= .tuple #[.agg #[.slice a1 L1.length c1,.slice a2 L2.length c2],.bool false]) (by simp[results,Tryz.results44,go_sem, *]) rfl ?_);refine RnPost.of (lo:=w.heap.size+4) (hi:=w1.heap.size) ?_ HX1.out HX2.out (by omega) (by exact Qz) (by exact Qf);repeat(first|(exact(HV.out.fr hf13))|(with_reducible refine RoamV.alloc ?_ _)|(with_reducible refine RoamV.drewN ?_ _)|(refine RoamV.set ?_ (.inl (by show w.heap.size+1+1+1<w.heap.size+4;omega)) _))
 go_wp2_with fail
 refine(CN.out _).mono ?_
 rintro e w4 ⟨rfl,hf4⟩
 have hf14:Fr w1 w4:=hf13.trans hf4
 have z4:=hf4.size
 have BO4:=BO3.fr hf4
 have BG4:=BG3.fr hf4
 have BQ4:=BQ3.fr hf4
 have BI4:=BI3.fr hf4
 have BR4:=BR3.fr hf4
 clear FO3 FR3 BO3 BG3 BQ3 BI3 BR3 CN
 have FO4:=BO4.facts
 have FR4:=BR4.facts
 have FI4:=BI4.facts
 cases nb
 · obtain⟨h1,h2⟩:=HNO.out (by simp);have H1:=Lib.hid h1;have H2:=Lib.hid h2;clear h1 h2
   go_wp2_with fail;rw[H1.out,H2.out];(refine bodyPost_ret (v:= .tuple #[.agg #[.slice a1 L1.length c1,.slice a2 L2.length c2],.bool false]) (by simp[results,Tryz.results44,go_sem, *]) rfl ?_);refine RnPost.of (lo:=w.heap.size+4) (hi:=w1.heap.size) ?_ HX1.out HX2.out (by omega) (by exact Qz) (by exact Qf);repeat(first|(exact(HV.out.fr hf14))|(with_reducible refine RoamV.alloc ?_ _)|(with_reducible refine RoamV.drewN ?_ _)|(refine RoamV.set ?_ (.inl (by show w.heap.size+1+1+1<w.heap.size+4;omega)) _))
 have gs:=HS.out
 cases sb
 · obtain⟨h1,h2⟩:=HNO.out (by simp);have H1:=Lib.hid h1;have H2:=Lib.hid h2;clear h1 h2
   simp only[Bool.not_false]at gs
   go_wp2_with fail;rw[H1.out,H2.out];(refine bodyPost_ret (v:= .tuple #[.agg #[.slice a1 L1.length c1,.slice a2 L2.length c2],.bool false]) (by simp[results,Tryz.results44,go_sem, *]) rfl ?_);refine RnPost.of (lo:=w.heap.size+4) (hi:=w1.heap.size) ?_ HX1.out HX2.out (by omega) (by exact Qz) (by exact Qf);repeat(first|(exact(HV.out.fr hf14))|(with_reducible refine RoamV.alloc ?_ _)|(with_reducible refine RoamV.drewN ?_ _)|(refine RoamV.set ?_ (.inl (by show w.heap.size+1+1+1<w.heap.size+4;omega)) _))
 simp only[Bool.not_true]at gs
 have gz:=HZ.out
 cases pb
 · obtain⟨h1,h2⟩:=HNO.out (by simp);have H1:=Lib.hid h1;have H2:=Lib.hid h2;clear h1 h2
   simp only[Bool.not_false]at gz
   go_wp2_with fail;rw[H1.out,H2.out];(refine bodyPost_ret (v:= .tuple #[.agg #[.slice a1 L1.length c1,.slice a2 L2.length c2],.bool false]) (by simp[results,Tryz.results44,go_sem, *]) rfl ?_);refine RnPost.of (lo:=w.heap.size+4) (hi:=w1.heap.size) ?_ HX1.out HX2.out (by omega) (by exact Qz) (by exact Qf);repeat(first|(exact(HV.out.fr hf14))|(with_reducible refine RoamV.alloc ?_ _)|(with_reducible refine RoamV.drewN ?_ _)|(refine RoamV.set ?_ (.inl (by show w.heap.size+1+1+1<w.heap.size+4;omega)) _))
 simp only[Bool.not_true]at gz
 have gk:=HK.out
 cases kb
 · obtain⟨h1,h2⟩:=HNO.out (by simp);have H1:=Lib.hid h1;have H2:=Lib.hid h2;clear h1 h2
   simp only[Bool.not_false]at gk
   go_wp2_with fail;rw[H1.out,H2.out];(refine bodyPost_ret (v:= .tuple #[.agg #[.slice a1 L1.length c1,.slice a2 L2.length c2],.bool false]) (by simp[results,Tryz.results44,go_sem, *]) rfl ?_);refine RnPost.of (lo:=w.heap.size+4) (hi:=w1.heap.size) ?_ HX1.out HX2.out (by omega) (by exact Qz) (by exact Qf);repeat(first|(exact(HV.out.fr hf14))|(with_reducible refine RoamV.alloc ?_ _)|(with_reducible refine RoamV.drewN ?_ _)|(refine RoamV.set ?_ (.inl (by show w.heap.size+1+1+1<w.heap.size+4;omega)) _))
 simp only[Bool.not_true]at gk
 have hk0:=HKB.out (by first|rfl|trivial)
 have hp0:=HPB.out (by first|rfl|trivial)
 obtain⟨hn1,hn8⟩:=HNB.out (by first|rfl|trivial)
 obtain⟨K,rfl⟩:=Int.eq_ofNat_of_zero_le hk0
 obtain⟨N,rfl⟩:=Int.eq_ofNat_of_zero_le (show 0≤n by omega)
 have HSN:=Lib.hid (HSB.out (by first|rfl|trivial))
 obtain⟨m,hm⟩: ∃ m,K%d.f1.length=m:=⟨_,rfl⟩
 have hmlt:m<d.f1.length:=by rw[← hm];exact Nat.mod_lt _ hp0
 have hrm:(K:Int)%(d.f1.length:Int)=(m:Int):=by rw[← hm];first|exact(Int.natCast_emod K d.f1.length).symm|exact(Int.ofNat_emod K d.f1.length).symm|simp
 have htm:Int.tmod (K:Int) (d.f1.length:Int)=(m:Int):=by rw[Int.tmod_eq_emod_of_nonneg (by omega)];exact hrm
 have HMK:Hid ((K:Int).toNat%d.f1.length=m):=Lib.hid (by rw[Int.toNat_natCast,hm])
 have hPm:nAt d.f1 m=P:=by have h:=HPX.out;rw[HMK.out]at h;exact h
 obtain⟨rfl,hbb,fb⟩:=FB.out (by omega)
 obtain⟨ar,ra,g0,g1⟩:=fb m hmlt
 rw[hPm]at g0
 have hwn:IntKind.i64.wrap ((N:Int)-1)=(N:Int)-1:=IntWalk.i64_in _ (by omega)
 have hfw4:Fr w w4:=hfw1.trans hf14
 have q0:=(hfw4.cell (p:=⟨bb,_,none⟩) hbb).trans g0
 have HPM:=Lib.hid hPm
 have HM:=Lib.hid hm
 clear HZ HK HS HKB HPB HNB HSB g0 g1 ra fb FB hPm HPX hm
 go_wp2_with fail
 refine(CT.out _).mono ?_
 rintro e w5 ⟨rfl,hf5⟩
 have hf15:Fr w1 w5:=hf14.trans hf5
 have z5:=hf5.size
 have BO5:=BO4.fr hf5
 have BG5:=BG4.fr hf5
 have BQ5:=BQ4.fr hf5
 have BR5:=BR4.fr hf5
 clear FO4 FR4 FI4 BO4 BG4 BQ4 BI4 BR4 CT gs gz gk q0
 have FO5:=BO5.facts
 have FR5:=BR5.facts
 cases tb
 · obtain⟨h1,h2⟩:=HNO.out (by simp);have H1:=Lib.hid h1;have H2:=Lib.hid h2;clear h1 h2
   go_wp2_with fail;rw[H1.out,H2.out];(refine bodyPost_ret (v:= .tuple #[.agg #[.slice a1 L1.length c1,.slice a2 L2.length c2],.bool false]) (by simp[results,Tryz.results44,go_sem, *]) rfl ?_);refine RnPost.of (lo:=w.heap.size+4) (hi:=w1.heap.size) ?_ HX1.out HX2.out (by omega) (by exact Qz) (by exact Qf);repeat(first|(exact(HV.out.fr hf15))|(with_reducible refine RoamV.alloc ?_ _)|(with_reducible refine RoamV.drewN ?_ _)|(refine RoamV.set ?_ (.inl (by show w.heap.size+1+1+1<w.heap.size+4;omega)) _))
 obtain⟨hO,hR⟩:=HYES.out (by first|rfl|trivial) (by first|rfl|trivial) (by first|rfl|trivial) (by first|rfl|trivial) (by first|rfl|trivial) (by first|rfl|trivial) (by first|rfl|trivial)
 rw[HMK.out]at hR
 have HO:=Lib.hid hO
 have HRR:=Lib.hid hR
 have hl2:L2.length=d.f1.length:=by have h:=congrArg List.length HX2.out;rwa [List.length_map]at h
 have hl1:L1.length=N:=by have h:=congrArg List.length HX1.out;rw[List.length_map]at h;have:=HSN.out;omega
 have CS:Hid (∀ av w',Fr w1 w'→NfasR w' av (autL q)→Box w' w1.heap.size #[.slice a1 L1.length c1,.slice a2 L2.length c2] 72→Calls Tryz.prog 113 #[.agg #[.int .i64 g.f0,.slice ae g.f1.length ce],av,.int .i64 N,.pointer (some ⟨w1.heap.size,0,none⟩),.int .i64 m] w' fun e w''=>e= .returned (.tuple #[])∧ ∃ a6 c6 L1' L2',L1'.length=L1.length∧L1'.map Itm.x=R.f0∧L2'.map Itm.x=R.f1∧Box w'' w1.heap.size #[.slice a1 L1'.length c1,.slice a6 L2'.length c6] 72∧RoamV w'' (w.heap.size+4) w''.heap.size (.slice a1 L1'.length c1) (.slice a6 L2'.length c6) L1' L2'∧Tch (fun j=>j=w1.heap.size∨(w.heap.size+4≤j∧j<w1.heap.size)) w' w''):=Lib.hid fun av w' h ha hB=>by
  have h5:=h.size
  have h6:=hB.lt
  refine(l21Step_any _ av g q d N m w1.heap.size a1 a2 c1 c2 L1 L2 (fun j=>w.heap.size+4≤j∧j<w1.heap.size) w' (HG.out.fr (hfw1.trans h)) ha (HGB.out (by first|rfl|trivial)) (HQB.out (by first|rfl|trivial)) hB (HV.out.fr h).s HX1.out HX2.out (fun j hj=>by have:=hj.2;omega) (fun hj=>by have:=hj.2;omega) (by omega) (by omega) hl1 (by rw[HPM.out];exact HTB.out (by first|rfl|trivial)) HBK.out).mono ?_
  rintro e w'' ⟨rfl,a6,c6,L1',L2',k1,k2,k3,k4,k5,k6⟩
  have h7:=k6.size
  exact⟨rfl,a6,c6,L1',L2',k1,by rw[HRR.out];exact k2,by rw[HRR.out];exact k3,k4,k5.v fun j hj=>by(rcases hj with hj|hj<;>have h8:=hj.1<;>have h9:=hj.2<;>omega),k6⟩
 have CF:=Lib.hid (CF.out (by first|rfl|trivial))
 have hfw5:Fr w w5:=hfw1.trans hf15
 have RG: ∀ w',Tch (fun j=>j=w1.heap.size∨(w.heap.size+4≤j∧j<w1.heap.size)) w5 w'→ ∀ o,w'.cell? ⟨w.heap.size,o,none⟩=(#[.int .i64 g.f0,.slice ae g.f1.length ce]:Array Value)[o]? :=fun w' h o=>(h.box BG5 (by omega)).cell o
 have RQ: ∀ w',Tch (fun j=>j=w1.heap.size∨(w.heap.size+4≤j∧j<w1.heap.size)) w5 w'→ ∀ o,w'.cell? ⟨w.heap.size+1,o,none⟩=(#[.bool q.f0,.slice ao q.f1.length co,.slice ax q.f2.length cx,.slice af q.f3.length cf]:Array Value)[o]? :=fun w' h o=>(h.box BQ5 (by omega)).cell o
 clear FO5 FR5 HYES HNO hO hR HG HBK HGB HQB HTB hlb0 hlb1
 go_wp2_with fail
 go_region_held3 (fun w'=>Tch (fun j=>j=w1.heap.size∨(w.heap.size+4≤j∧j<w1.heap.size)) w5 w') (first|assumption|(focus((refine Tch.of_fr ?_;repeat(first|(with_reducible exact Fr.refl _)|(with_reducible assumption)|(with_reducible refine Fr.drewN ?_ _)|(with_reducible refine Fr.drew ?_)|(with_reducible refine Fr.alloc ?_ _)|(with_reducible refine Fr.setCell ?_ (by exact Qz) _)|(with_reducible refine Fr.trans ?_ (by with_reducible assumption))));done))) (first|(go_at_call 57;refine(CF.out _ (by exact Qf)).mono ?_;rintro e w10 ⟨aA,cA,rfl,hA,hf10⟩)|(go_at_call 113;refine(CS.out _ _ (by exact Qf) (NfasW.rd hA) (BO5.fr (by exact Qf))).mono ?_;rintro e w12 ⟨rfl,a6,c6,M1,M2,k1,k2,k3,k4,k5,k6⟩;have hT12:=(Tch.of_fr (B:=fun j=>j=w1.heap.size∨(w.heap.size+4≤j∧j<w1.heap.size)) (show Fr w5 _ by exact Qf)).trans k6))
 all_goals
  have F12:=k4.facts
  have BR12:=hT12.box BR5 (by omega)
  have FR12:=BR12.facts
  have hfw12:Fr w w12:=hT12.old hfw5 (fun i hi k=>by omega)
  have K2:=Lib.hid k2
  have K3:=Lib.hid k3
  have K5:=Lib.hid k5
  clear k1 k2 k3 k5 k6 hT12 RG RQ CF CS hA HV
  go_wp2_with fail
  rw[HO.out]
  refine bodyPost_ret (v:= .tuple #[.agg #[.slice a1 M1.length c1,.slice a6 M2.length c6],.bool true]) (by simp[results,Tryz.results44,go_sem, *]) rfl ?_
  refine RnPost.of (lo:=w.heap.size+4) (hi:=w12.heap.size) ?_ K2.out K3.out (by omega) (by exact Qz) (by exact Qf)
  repeat(first|(exact K5.out)|(with_reducible refine RoamV.alloc ?_ _)|(with_reducible refine RoamV.drewN ?_ _)|(refine RoamV.set ?_ (.inl (by show w.heap.size+1+1+1<w.heap.size+4;omega)) _))
end Go.Proofs.YtmdgdnkllclpcaaGreat
