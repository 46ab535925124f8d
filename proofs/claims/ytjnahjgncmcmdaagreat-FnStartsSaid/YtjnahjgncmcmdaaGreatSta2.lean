/- StartWalks of the program. Conditions: the bound on the query that the law gives. -/
import Derived.Test.YtjnahjgncmcmdaaGreatGSta
namespace Go.Proofs.YtjnahjgncmcmdaaGreat
open Go.RowKit
set_option linter.unusedVariables false
set_option linter.unusedSimpArgs false
set_option maxHeartbeats 8000000 in
set_option maxRecDepth 100000 in
theorem implStartWalks_any (gv qv:Value) (g:GraphD) (q:QueryD) (k n:Int) (w:World) (hg:GraphRd w gv g) (hq:QueryRd w qv q) (hn:q.bulk≤1048576):
  Calls Tryz.prog 16 #[gv,qv,.int .i64 k,.int .i64 n] w fun e w'=> ∃ ao cap,e= .returned (.slice ao (staL g q k n).length cap)∧WalksW w' w.heap.size w'.heap.size (.slice ao (staL g q k n).length cap) (staL g q k n)∧Fr w w':=by
 obtain⟨gb,hgb⟩: ∃ gb,graphB g=gb:=⟨_,rfl⟩;obtain⟨qb,hqb⟩: ∃ qb,qryD q=qb:=⟨_,rfl⟩;have HG:=Lib.hid hg;have HQ:=Lib.hid hq;obtain⟨i0,hi,hz0,hz1,hz2⟩:=info_parts info_Walk
 have CG:Hid (∀ w',Fr w w'→Calls Tryz.prog 62 #[gv] w' fun e w''=>e= .returned (.bool gb)∧Fr w' w''):=Lib.hid fun w' h=>by obtain⟨u,rfl,he⟩:=HG.out;rw[← hgb];exact implGraphOk_any u g.f0 g.f1 w' (he.fr h)
 have CQ:Hid (∀ w',Fr w w'→Calls Tryz.prog 63 #[qv] w' fun e w''=>e= .returned (.bool qb)∧Fr w' w''):=Lib.hid fun w' h=>by rw[← hqb];exact implQueryOk_d qv q w' (HQ.out.fr h) hn
 have CO:Hid (∀ w',Fr w w'→Calls Tryz.prog 71 #[gv,.int .i64 k,.int .i64 n] w' fun e w''=> ∃ v,e= .returned v∧IntsO w'' w'.heap.size v (ownL g k n)∧Fr w' w''):=Lib.hid fun w' h=>by obtain⟨u,rfl,he⟩:=HG.out;exact implOwned_any g u k n w' (he.fr h)
 obtain⟨ue,rfl,he⟩:=hg;obtain⟨ae,be,oe,ce,rfl,hce,hme,fe⟩:=he.one;obtain⟨u1,u2,u3,rfl,r1,r2,r3⟩:=hq;obtain⟨ao,bo,oo,co,rfl,hco,hmo,ko⟩:=r1.one;obtain⟨ax,bx,ox,cx,rfl,hcx,hmx,kx⟩:=r2.one;obtain⟨af,bf,of,cf,rfl,hcf,hmf,kf⟩:=r3.one;clear he fe r1 r2 r3 ko kx kf
 clear HG HQ hn
 cases gb
 · have HL:Hid (staL g q k n=[]):=Lib.hid (by unfold staL;rw[if_neg];rintro⟨h,_⟩;rw[hgb]at h;cases h)
   clear hgb hqb
   go_enter Tryz.func16,Tryz.ntmps16
   go_wp2_with fail
   refine(CG.out _ (by exact Qf)).mono ?_
   rintro e w1 ⟨rfl,hf1⟩
   go_wp2_with fail
   go_ret
   refine⟨_,_,by rw[HL.out];try rfl,?_,by exact Qf⟩
   rw[HL.out]
   exact WalksW.nil _ _ _
 cases qb
 · have HL:Hid (staL g q k n=[]):=Lib.hid (by unfold staL;rw[if_neg];rintro⟨_,h⟩;rw[hqb]at h;cases h)
   clear hgb hqb
   go_enter Tryz.func16,Tryz.ntmps16
   go_wp2_with fail
   refine(CG.out _ (by exact Qf)).mono ?_
   rintro e w1 ⟨rfl,hf1⟩
   have B1:Box w1 (w.heap.size+1) #[.bool q.f0,.slice ao q.f1.length co,.slice ax q.f2.length cx,.slice af q.f3.length cf] 31:=Box.fr (Box.new' (by simp)) hf1
   have F1:=B1.facts
   go_wp2_with fail
   refine(CQ.out _ (by exact Qf)).mono ?_
   rintro e w2 ⟨rfl,hf2⟩
   go_wp2_with fail
   go_ret
   refine⟨_,_,by rw[HL.out];try rfl,?_,by exact Qf⟩
   rw[HL.out]
   exact WalksW.nil _ _ _
 obtain⟨ow,how⟩: ∃ ow,ownL g k n=ow:=⟨_,rfl⟩
 have hol:ow.length≤12:=by rw[← how];exact ownL_len
 have HL:Hid (staL g q k n=staK ow q.f2.length):=Lib.hid (by unfold staL;rw[if_pos ⟨hgb,hqb⟩,how])
 have hx4:q.f2.length≤4:=(qryB_atoms hqb).1.2
 rw[how]at CO
 clear hgb hqb how
 go_enter Tryz.func16,Tryz.ntmps16
 go_wp2_with fail
 refine(CG.out _ (by exact Qf)).mono ?_
 rintro e w1 ⟨rfl,hf1⟩
 have A1:Box w1 w.heap.size #[.int .i64 g.f0,.slice ae g.f1.length ce] 26:=Box.fr (Box.alloc (Box.new _ _ _) _) hf1
 have B1:Box w1 (w.heap.size+1) #[.bool q.f0,.slice ao q.f1.length co,.slice ax q.f2.length cx,.slice af q.f3.length cf] 31:=Box.fr (Box.new' (by simp)) hf1
 have F1:=B1.facts
 have G1:=A1.facts
 have z1:=hf1.size
 (try simp only[World.size_alloc]at z1)
 go_wp2_with fail
 refine(CQ.out _ (by exact Qf)).mono ?_
 rintro e w2 ⟨rfl,hf2⟩
 have A2:=A1.fr hf2
 have B2:=B1.fr hf2
 have F2:=B2.facts
 have G2:=A2.facts
 have z2:=hf2.size
 have hf02:Fr w w2:=by exact Qf
 clear F1 G1 A1 B1 CG CQ
 go_wp2_with fail
 go_loopw [9,24] (fun o i wr=> ∃ (j c:Nat) (a:Option Addr) (l:List WalkR),j≤q.f2.length∧i= .int .i64 j∧o= .slice a l.length c∧Hid (l=staK ow j)∧Hid (WalksW wr (w.heap.size+1+1) wr.heap.size (.slice a l.length c) l)∧Box wr w.heap.size #[.int .i64 g.f0,.slice ae g.f1.length ce] 26∧Fr w wr) (fun _ i _=>q.f2.length-(intOf i).toNat)
 case atStart=>exact⟨0,0,none,[],Nat.zero_le _,rfl,rfl,Lib.hid rfl,Lib.hid (WalksW.nil _ _ _),A2,hf02⟩
 case round=>
  obtain⟨j,c,a,l,hj,rfl,rfl,HE,HW,hA,hfr⟩:=hrel
  have FA:=hA.facts
  have zr:=hfr.size
  by_cases hlt:j<q.f2.length
  · go_wp2_with fail
    refine(CO.out _ (by exact Qf)).mono ?_
    rintro e w3 ⟨v3,rfl,hO,hf3⟩
    obtain⟨a3,c3,rfl⟩:=hO.val
    have A3:=hA.fr hf3
    have z3:=hf3.size
    have hf03:Fr w w3:=by exact Qf
    have HO:=Lib.hid hO
    have HW3:Hid (WalksW w3 (w.heap.size+1+1) w3.heap.size (.slice a l.length c) l):=Lib.hid (OwW.mono (OwW.fr HW.out hf3) (Nat.le_refl _) z3)
    have HF3:Hid (Off wr.heap.size w3.heap.size (.slice a l.length c)):=Lib.hid (Off.below HW.out.2)
    obtain⟨HH,hHH⟩: ∃ HH,wr.heap.size=HH:=⟨_,rfl⟩
    rw[hHH]at HO HF3
    clear hO HW FA hA A2 B2 F2 G2 hHH
    have F3:=A3.facts
    go_wp2_with fail
    go_loopw [9,32] (fun o i wr=> ∃ (p c:Nat) (a:Option Addr) (l:List WalkR),p≤ow.length∧i= .int .i64 p∧o= .slice a l.length c∧Hid (l=staTo ow j p)∧Hid (WalksW wr (w.heap.size+1+1) wr.heap.size (.slice a l.length c) l)∧Hid (Off HH w3.heap.size (.slice a l.length c))∧Hid (Ab HH w3 wr)∧Box wr w.heap.size #[.int .i64 g.f0,.slice ae g.f1.length ce] 26∧Fr w wr) (fun _ i _=>ow.length-(intOf i).toNat)
    case atStart=>exact⟨0,c,a,l,Nat.zero_le _,rfl,rfl,Lib.hid (by rw[staTo_0];exact HE.out),HW3,HF3,Lib.hid (Ab.refl _ _),A3,hf03⟩
    case round=>
     clear HE HW3 HF3 A3 F3
     obtain⟨p,c,a,l,hp,rfl,rfl,HE,HW,HF,HA,hB,hfr⟩:=hrel
     have FB:=hB.facts
     have zr:=hfr.size
     have hz3:=HA.out.1
     by_cases hltp:p<ow.length
     · obtain⟨bb,hbb⟩:=IntsO.get (IntsO.ab HO.out HA.out)
       obtain⟨rfl,hb1,hb2,hb3⟩:=hbb (by omega)
       have c0:=hb3 p hltp
       obtain⟨x,hx⟩: ∃ x,iAt ow p=x:=⟨_,rfl⟩
       rw[hx]at c0
       have HS:Hid (l++[⟨(j:Int),x,x,0⟩]=staTo ow j (p+1)):=Lib.hid (by rw[HE.out,staTo_step hltp,hx])
       have HLN:=Lib.hid (show(l++[(⟨(j:Int),x,x,0⟩:WalkR)]).length=l.length+1 by simp)
       have hll:l.length≤60:=by
        rw[HE.out]
        have:=staTo_len (ow:=ow) (m:=j) (k:=p)
        have h2:(j+1)*ow.length≤4*12:=Nat.mul_le_mul (by omega) hol
        omega
       have HCA:=Lib.hid (wlk_snoc l ⟨(j:Int),x,x,0⟩)
       clear hb3 hx hbb
       go_wp2_with(at_builtin;refine wpList_append_rd rfl _ _ 43 rfl (w.heap.size+1+1) 48 i0 (.agg #[.int .i64 0,.int .i64 0,.int .i64 0,.int .i64 0]) 4 32 Tryz.underlying43 hi hz0 hz1 hz2 rfl (by decide) (.slice a l.length c) l.length (l.flatMap WalkR.cells) rfl (World.ownsRow.alloc HW.out.1 _) _ 1 [.int .i64 (j:Int),.int .i64 x,.int .i64 x,.int .i64 0] rfl (RdS.new (by first|rfl|(simp;done)) rfl) (by simp[Value.oneCell']) (by unfold maxLen;omega) (by omega) (by exact Qz) ?_;intro a6 c6 w6 hown hgrow hat)
       have z6:=hgrow.size
       (try simp only[World.size_alloc,World.size_drew]at z6)
       have hB6:=Box.gr (Box.alloc hB _) hgrow (fun e=>by have:=HW.out.2 _ e;omega)
       have hf6:Fr w w6:=Fr.app (by exact Qf) hgrow HW.out.2 (by omega)
       have HA6:=Lib.hid (Ab.gr2 (show Ab HH w3 _ from HA.out.alloc _) hgrow HF.out)
       have HF6:=Lib.hid (Off.app HF.out hat (by simp;omega))
       have HW6:Hid (WalksW w6 (w.heap.size+1+1) w6.heap.size (.slice a6 (l++[(⟨(j:Int),x,x,0⟩:WalkR)]).length c6) (l++[⟨(j:Int),x,x,0⟩])):=Lib.hid (by
        have:=OwW.of_owns hown
        rw[← HCA.out, ← HLN.out]at this
        exact this)
       go_wp2_with fail
       go_roundw
       case rel=>exact⟨p+1,c6,a6,l++[⟨(j:Int),x,x,0⟩],by omega,by go_num,by rw[HLN.out],HS,HW6,by rw[HLN.out];exact HF6,HA6,hB6,hf6⟩
       case measure=>(simp[intOf];omega)
     · obtain rfl:p=ow.length:=by omega
       go_wp2_with fail
       go_roundw
       case rel=>exact⟨j+1,c,a,l,by omega,by go_num,rfl,Lib.hid (by rw[HE.out,staTo_all]),HW,hB,hfr⟩
       case measure=>(simp[intOf];omega)
  · obtain rfl:j=q.f2.length:=by omega
    go_wp2_with fail
    go_ret
    refine⟨_,_,by rw[HL.out, ← HE.out];try rfl,?_,hfr⟩
    rw[HL.out, ← HE.out]
    exact OwW.mono HW.out (by omega) (Nat.le_refl _)
end Go.Proofs.YtjnahjgncmcmdaaGreat
