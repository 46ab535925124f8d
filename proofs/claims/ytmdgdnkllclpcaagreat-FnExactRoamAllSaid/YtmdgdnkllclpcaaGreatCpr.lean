/- A roaming copied by the program (copyRoam). Condition: the size. -/
import Derived.Test.YtmdgdnkllclpcaaGreatGParP
import Derived.Test.YtmdgdnkllclpcaaGreatGPrt
import Derived.Deep.RegionHeld3
import Derived.Deep.RegionHeldLaw
import Derived.Deep.RegionLaw
namespace Go.Proofs.YtmdgdnkllclpcaaGreat
open Go.RowKit
set_option linter.unusedVariables false
set_option linter.unusedSimpArgs false
theorem walk_rowC {w:World} {l0 h0:Nat} {a:Option Addr} {c:Nat} {xs:List WalkR} (h:WalksW w l0 h0 (.slice a xs.length c) xs):WalkssEW w l0 h0 [.slice a xs.length c] xs:=⟨a,c,rfl,h⟩
def CpPost (w:World) (d:RoamD) (e:Ending) (w':World):Prop:= ∃ a1 c1 a2 c2 L1 L2,e= .returned (.agg #[.slice a1 L1.length c1,.slice a2 L2.length c2])∧L1.map Itm.x=d.f0∧L2.map Itm.x=d.f1∧RoamV w' w.heap.size w'.heap.size (.slice a1 L1.length c1) (.slice a2 L2.length c2) L1 L2∧Fr w w'
theorem mapx_next {α:Type} [Inhabited α] {L:List (Itm α)} {xs:List α} {k:Nat} {i:Itm α} (h:L.map Itm.x=xs.take k) (hk:k<xs.length) (hi:i.x=nAt xs k):(L++[i]).map Itm.x=xs.take (k+1):=by
 rw[List.map_append,h,take_next xs k hk, ← hi];rfl
theorem mapx_len {α:Type} {L:List (Itm α)} {xs:List α} {k:Nat} (h:L.map Itm.x=xs.take k):L.length≤k:=by
 have:=congrArg List.length h
 rw[List.length_map,List.length_take]at this
 omega
/-- How much a roaming may hold for the contracts: a bound on each row, and on how many there are. -/
def RoamFew (d:RoamD):Prop:=(d.f0.length≤1048576∧d.f1.length≤1073741824)∧(∀ k,k<d.f0.length→(nAt d.f0 k).length≤1048576)∧ ∀ k,k<d.f1.length→(nAt d.f1 k).f1.length≤1048576
theorem roam_row0 {d:RoamD} (h:RoamFew d) {k:Nat} (hk:k<d.f0.length):(nAt d.f0 k).length≤1048576:=h.2.1 k hk
theorem roam_row1 {d:RoamD} (h:RoamFew d) {k:Nat} (hk:k<d.f1.length):(nAt d.f1 k).f1.length≤1048576:=h.2.2 k hk
theorem roam_lens {d:RoamD} (h:RoamFew d):d.f0.length≤1048576∧d.f1.length≤1073741824:=h.1
theorem RoamFew.of {d:RoamD} (h:d.bulk≤1048576):RoamFew d:=by
 unfold RoamD.bulk WalkSSBulk ParcelSBulk nBulk at h
 refine⟨by omega,fun k hk=>?_,fun k hk=>?_⟩
 · have h1:=nSum_succ List.length d.f0 k hk
   have h2:=nSum_le List.length d.f0 (k+1)
   omega
 · have h1:=nSum_succ ParcelD.bulk d.f1 k hk
   have h2:=nSum_le ParcelD.bulk d.f1 (k+1)
   have h3:(nAt d.f1 k).f1.length≤ParcelD.bulk (nAt d.f1 k):=by unfold ParcelD.bulk;omega
   omega
set_option maxHeartbeats 16000000 in
set_option maxRecDepth 100000 in
theorem copyRoam_any (v:Value) (d:RoamD) (w:World) (hv:RoamRd w v d) (hn:RoamFew d):
  Calls Tryz.prog 116 #[v] w fun e w'=>CpPost w d e w':=by
 obtain⟨i0,hi,hz0,hz1,hz2⟩:=info_parts info_WalkS
 obtain⟨j0,hj,hy0,hy1,hy2⟩:=info_parts info_Parcel
 obtain⟨u1,u2,rfl,r1,r2⟩:=hv
 obtain⟨aa,ba,oa,ca,rfl,hca,hma,fa⟩:=r1.one
 obtain⟨ab,bb,ob,cb,rfl,hcb,hmb,fb⟩:=r2.one
 have FA:=Lib.hid fa
 have FB:=Lib.hid fb
 have HR0:Hid (∀ k,k<d.f0.length→(nAt d.f0 k).length≤1048576):=Lib.hid fun k hk=>roam_row0 hn hk
 have HR1:Hid (∀ k,k<d.f1.length→(nAt d.f1 k).f1.length≤1048576):=Lib.hid fun k hk=>roam_row1 hn hk
 obtain⟨hl0,hl1⟩:=roam_lens hn
 clear r1 r2 fa fb hn
 go_enter Tryz.func116,Tryz.ntmps116
 go_wp2_with fail
 have BI0:Box (((w.alloc (.cells #[.slice aa d.f0.length ca,.slice ab d.f1.length cb] 72)).alloc (.cells #[.slice none 0 0,.slice none 0 0] 72)).alloc (.cells #[.slice none 0 0,.slice none 0 0] 72)) w.heap.size #[.slice aa d.f0.length ca,.slice ab d.f1.length cb] 72:=Box.alloc (Box.alloc (Box.new _ _ _) _) _
 have BR0:Box (((w.alloc (.cells #[.slice aa d.f0.length ca,.slice ab d.f1.length cb] 72)).alloc (.cells #[.slice none 0 0,.slice none 0 0] 72)).alloc (.cells #[.slice none 0 0,.slice none 0 0] 72)) (w.heap.size+1) #[.slice none 0 0,.slice none 0 0] 72:=Box.alloc (Box.new' (by simp)) _
 have BO0:Box (((w.alloc (.cells #[.slice aa d.f0.length ca,.slice ab d.f1.length cb] 72)).alloc (.cells #[.slice none 0 0,.slice none 0 0] 72)).alloc (.cells #[.slice none 0 0,.slice none 0 0] 72)) (w.heap.size+1+1) #[.slice none 0 0,.slice none 0 0] 72:=Box.new' (by simp)
 go_loopw [11] (fun i wr=> ∃ (k:Nat) (a1:Option Addr) (c1:Nat) (L1:List (Itm (List WalkR))),k≤d.f0.length∧i= .int .i64 k∧L1.length≤k∧Hid (L1.map Itm.x=d.f0.take k)∧Hid (RoamV wr (w.heap.size+3) wr.heap.size (.slice a1 L1.length c1) (.slice none 0 0) L1 [])∧Box wr w.heap.size #[.slice aa d.f0.length ca,.slice ab d.f1.length cb] 72∧Box wr (w.heap.size+1) #[.slice none 0 0,.slice none 0 0] 72∧Box wr (w.heap.size+1+1) #[.slice a1 L1.length c1,.slice none 0 0] 72∧Fr w wr) (fun i _=>d.f0.length-(intOf i).toNat)
 case atStart=>exact⟨0,none,0,[],Nat.zero_le _,rfl,Nat.le_refl _,Lib.hid rfl,Lib.hid (RoamV.nil _ _ _),BI0,BR0,BO0,by exact Qf⟩
 case round=>
  clear BI0 BR0 BO0
  obtain⟨k,a1,c1,L1,hk,rfl,hlk,HL,HV,BI,BR,BO,hfr⟩:=hrel
  have FI:=BI.facts
  have FO:=BO.facts
  have zr:=hfr.size
  have zo:=BO.lt
  by_cases hlt:k<d.f0.length
  · obtain⟨rfl,hba,fa⟩:=FA.out (by omega)
    obtain⟨ar,ra,ga⟩:=fa k hlt
    have hxl:=HR0.out k hlt
    have HMX:Hid (∀ (x:List WalkR) (i:Itm (List WalkR)),nAt d.f0 k=x→i.x=x→(L1++[i]).map Itm.x=d.f0.take (k+1)):=Lib.hid fun x i e1 e2=>mapx_next HL.out hlt (by rw[e1];exact e2)
    obtain⟨x,hx⟩: ∃ x,nAt d.f0 k=x:=⟨_,rfl⟩
    rw[hx]at ra hxl
    have HX:=Lib.hid hx
    obtain⟨ax,cx,rfl,_⟩:=RdS.val ra
    have q0:=(hfr.cell (p:=⟨ba,_,none⟩) hba).trans ga
    have HRA:=Lib.hid (RdS.fr ra hfr)
    clear fa ga ra hx
    go_wp2_with fail
    go_region_law(first|(go_simp;go_at_call 91;refine(cloneWalk_w _ x _ (HRA.out.fr (by exact Qf)) hxl).mono ?_;rintro e w5 ⟨ac,cc,rfl,hc5,hf5⟩;have z5:=hf5.size;(try simp only[World.size_drew,World.heap_drewN]at z5);have HC5:=Lib.hid hc5;clear hc5;have BO5:=BO.fr (show Fr wr w5 by exact Qf);have FO5:=BO5.facts)|(refine step_append_rd (by rfl) _ _ 69 (by rfl) 0 37 i0 (.slice none 0 0) 1 24 Tryz.underlying69 hi hz0 hz1 hz2 rfl (by decide) (.slice a1 L1.length c1) L1.length (L1.map Itm.u).flatten (by rfl) ((HV.out.fr (by exact Qf)).own1) _ 1 [.slice ac x.length cc] (by rfl) (RdS.new (by first|rfl|(simp;done)) rfl) (by simp[Value.oneCell']) (by unfold maxLen;omega) (by omega) (by exact Qz) ?_;intro a6 c6 w6 hown hgrow hat;have BO6:Box w6 (w.heap.size+1+1) _ _:=Box.row (BO5.fr (by exact Qf)) hgrow HV.out.in1 (.inl (by omega));have FO6:=BO6.facts))
    all_goals
     have BI6:Box w6 w.heap.size _ _:=Box.row (BI.fr (by exact Qf)) hgrow HV.out.in1 (.inl (by omega))
     have BR6:Box w6 (w.heap.size+1) _ _:=Box.row (BR.fr (by exact Qf)) hgrow HV.out.in1 (.inl (by omega))
     have hfw6:Fr w w6:=Fr.app (a:=w) (by exact Qf) hgrow HV.out.in1 (by omega)
     have hV6:=RoamV.add1 (hg:=hgrow) (hown:=hown) (hat:=hat) (h:=HV.out.fr (by exact Qf)) (i:=⟨[.slice ac x.length cc],wr.heap.size,w5.heap.size,x⟩) rfl (walk_rowC ((OwW.mono HC5.out (by exact Qz) (Nat.le_refl _)).fr (by exact Qf))) (Nat.le_refl _) z5 (by exact Qz) (by omega)
     have HLN:=Lib.hid (show(L1++[(⟨[.slice ac x.length cc],wr.heap.size,w5.heap.size,x⟩:Itm (List WalkR))]).length=L1.length+1 by simp)
     have HX1:=Lib.hid (HMX.out x ⟨[.slice ac x.length cc],wr.heap.size,w5.heap.size,x⟩ HX.out rfl)
     have HV6:=Lib.hid hV6
     clear hV6 hown hgrow hat HV HMX HC5 HRA HL
     go_wp2_with fail
     go_roundw
     case rel=>exact⟨k+1,a6,c6,_,by omega,by go_num,by rw[HLN.out];omega,HX1,Lib.hid (by rw[HLN.out];exact(HV6.out.set (p:=⟨w.heap.size+1+1,0,none⟩) (.inl (by show w.heap.size+1+1<w.heap.size+3;omega)) _).mono (Nat.le_refl _) (by simp)),BI6.far' (by omega) _,BR6.far' (by omega) _,by rw[HLN.out];exact BO6.set_to rfl,Fr.setCell hfw6 (by show w.heap.size≤w.heap.size+1+1;omega) _⟩
     case measure=>(simp[intOf];omega)
  · obtain rfl:k=d.f0.length:=by omega
    have HLX:Hid (L1.map Itm.x=d.f0):=Lib.hid (by rw[HL.out,List.take_length])
    clear HL FA HR0
    obtain⟨w0,hw0⟩: ∃ w_:World,w_=wr:=⟨_,rfl⟩
    subst hw0
    go_wp2_with fail
    clear FI FO
    go_loopw [26] (fun i wr=> ∃ (k:Nat) (a2:Option Addr) (c2:Nat) (L2:List (Itm ParcelD)),k≤d.f1.length∧i= .int .i64 k∧L2.length≤k∧Hid (L2.map Itm.x=d.f1.take k)∧Hid (RoamV wr (w.heap.size+3) wr.heap.size (.slice a1 L1.length c1) (.slice a2 L2.length c2) L1 L2)∧Box wr w.heap.size #[.slice aa d.f0.length ca,.slice ab d.f1.length cb] 72∧Box wr (w.heap.size+1) #[.slice none 0 0,.slice none 0 0] 72∧Box wr (w.heap.size+1+1) #[.slice a1 L1.length c1,.slice a2 L2.length c2] 72∧Fr w wr) (fun i _=>d.f1.length-(intOf i).toNat)
    case atStart=>exact⟨0,none,0,[],Nat.zero_le _,rfl,Nat.le_refl _,Lib.hid rfl,HV,BI,BR,BO,hfr⟩
    case round=>
     clear HV BI BR BO hfr zr zo
     obtain⟨k,a2,c2,L2,hk2,rfl,hlk2,HL,HV,BI,BR,BO,hfr⟩:=hrel
     have FO:=BO.facts
     have FR:=BR.facts
     have zr:=hfr.size
     have zo:=BO.lt
     by_cases hlt:k<d.f1.length
     · obtain⟨rfl,hbb,fb⟩:=FB.out (by omega)
       obtain⟨ar,ra,g0,g1⟩:=fb k hlt
       have hxl:=HR1.out k hlt
       have HMX:Hid (∀ (x:ParcelD) (i:Itm ParcelD),nAt d.f1 k=x→i.x=x→(L2++[i]).map Itm.x=d.f1.take (k+1)):=Lib.hid fun x i e1 e2=>mapx_next HL.out hlt (by rw[e1];exact e2)
       obtain⟨x,hx⟩: ∃ x,nAt d.f1 k=x:=⟨_,rfl⟩
       rw[hx]at ra hxl g0
       have HX:=Lib.hid hx
       obtain⟨ax,cx,rfl,_⟩:=RdS.val ra
       obtain⟨x0,x1⟩:=x
       simp only[]at ra hxl g0 g1
       have q0:=(hfr.cell (p:=⟨bb,_,none⟩) hbb).trans g0
       have q1:=(hfr.cell (p:=⟨bb,_,none⟩) hbb).trans g1
       have HRA:=Lib.hid (RdS.fr ra hfr)
       clear fb g0 g1 ra hx
       go_wp2_with fail
       have BX0:Box (wr.alloc (.cells #[.int .i64 x0,.slice ax x1.length cx] 155)) wr.heap.size #[.int .i64 x0,.slice ax x1.length cx] 155:=Box.new _ _ _
       have BOa:=BO.alloc (.cells #[.int .i64 x0,.slice ax x1.length cx] 155)
       have FX0:=BX0.facts
       have FOa:=BOa.facts
       go_region_law(first|(go_simp;go_at_call 91;refine(cloneWalk_w _ x1 _ (HRA.out.fr (by exact Qf)) hxl).mono ?_;rintro e w5 ⟨ac,cc,rfl,hc5,hf5⟩;have z5:=hf5.size;(try simp only[World.size_alloc,World.size_drew,World.heap_drewN]at z5);have HC5:=Lib.hid hc5;clear hc5;have BO5:=BO.fr (show Fr wr w5 by exact Qf);have FO5:=BO5.facts;have BX5:=BX0.fr (show Fr (wr.alloc (.cells #[.int .i64 x0,.slice ax x1.length cx] 155)) w5 by exact Qf);have FX5:=BX5.facts)|(refine step_append_rd (by rfl) _ _ 70 (by rfl) 0 155 j0 (.agg #[.int .i64 0,.slice none 0 0]) 2 32 Tryz.underlying70 hj hy0 hy1 hy2 rfl (by decide) (.slice a2 L2.length c2) L2.length (L2.map Itm.u).flatten (by rfl) ((HV.out.fr (by exact Qf)).own2) _ 1 [.int .i64 x0,.slice ac x1.length cc] (by rfl) (RdS.new (by first|rfl|(simp;done)) rfl) (by simp[Value.oneCell']) (by unfold maxLen;omega) (by omega) (by exact Qz) ?_;intro a6 c6 w6 hown hgrow hat;have BO6:Box w6 (w.heap.size+1+1) _ _:=Box.row (BO5.fr (by exact Qf)) hgrow HV.out.in2 (.inl (by omega));have FO6:=BO6.facts))
       all_goals
        have BI6:Box w6 w.heap.size _ _:=Box.row (BI.fr (by exact Qf)) hgrow HV.out.in2 (.inl (by omega))
        have BR6:Box w6 (w.heap.size+1) _ _:=Box.row (BR.fr (by exact Qf)) hgrow HV.out.in2 (.inl (by omega))
        have hfw6:Fr w w6:=Fr.app (a:=w) (by exact Qf) hgrow HV.out.in2 (by omega)
        have hV6:=RoamV.add2 (M:=[⟨[.int .i64 x0,.slice ac x1.length cc],wr.heap.size,w5.heap.size,⟨x0,x1⟩⟩]) (hg:=hgrow) (hown:=by simpa using hown) (hat:=hat) (h:=HV.out.fr (by exact Qf)) (ElsV.one rfl ⟨ac,cc,rfl,(OwW.mono HC5.out (by exact Qz) (Nat.le_refl _)).fr (by exact Qf)⟩ (by show wr.heap.size≤w5.heap.size;omega)) (Nat.le_refl _) (by exact Qz) (by omega) (by exact Qz)
        have HLN:=Lib.hid (show(L2++[(⟨[.int .i64 x0,.slice ac x1.length cc],wr.heap.size,w5.heap.size,⟨x0,x1⟩⟩:Itm ParcelD)]).length=L2.length+1 by simp)
        have HX1:=Lib.hid (HMX.out ⟨x0,x1⟩ ⟨[.int .i64 x0,.slice ac x1.length cc],wr.heap.size,w5.heap.size,⟨x0,x1⟩⟩ HX.out rfl)
        have HV6:=Lib.hid hV6
        clear hV6 hown hgrow hat HV HMX HC5 HRA HL
        go_wp2_with fail
        go_roundw
        case rel=>exact⟨k+1,a6,c6,_,by omega,by go_num,by rw[HLN.out];omega,HX1,Lib.hid (by rw[HLN.out];exact(HV6.out.set (p:=⟨w.heap.size+1+1,1,none⟩) (.inl (by show w.heap.size+1+1<w.heap.size+3;omega)) _).mono (Nat.le_refl _) (by simp)),BI6.far' (by omega) _,BR6.far' (by omega) _,by rw[HLN.out];exact BO6.set_to rfl,Fr.setCell hfw6 (by show w.heap.size≤w.heap.size+1+1;omega) _⟩
        case measure=>(simp[intOf];omega)
     · obtain rfl:k=d.f1.length:=by omega
       have HLY:Hid (L2.map Itm.x=d.f1):=Lib.hid (by rw[HL.out,List.take_length])
       have HVE:=Lib.hid ((HV.out.set (p:=⟨w.heap.size+1,0,none⟩) (.inl (by show w.heap.size+1<w.heap.size+3;omega)) (.slice a1 L1.length c1)).set (p:=⟨w.heap.size+1,1,none⟩) (.inl (by show w.heap.size+1<w.heap.size+3;omega)) (.slice a2 L2.length c2))
       clear HL HV FB HR1
       go_wp2_with fail
       refine bodyPost_ret (v:= .agg #[.slice a1 L1.length c1,.slice a2 L2.length c2]) (by simp[results,Tryz.results116,go_sem, *]) rfl ?_
       exact⟨a1,c1,a2,c2,L1,L2,rfl,HLX.out,HLY.out,HVE.out.mono (by omega) (by simp),by exact Qf⟩
end Go.Proofs.YtmdgdnkllclpcaaGreat
