/- Texts in one: Los, Lou. -/
import Derived.Test.YtjnahjgncmcmdaaGreatGLol
import Derived.Test.YtjnahjgncmcmdaaGreatGLor
import Derived.Deep.RegionLaw
namespace Go.Proofs.YtjnahjgncmcmdaaGreat
open Go.RowKit
set_option linter.unusedVariables false
set_option linter.unusedSimpArgs false
set_option maxHeartbeats 8000000 in
set_option maxRecDepth 100000 in
theorem lok_alt {ps:List PieceD} (hp:pathB ps=true) {w0:World} {pv:Value} (hv:PiecesR w0 pv ps) (f:Nat) (IH:LokC ps w0 pv f) (b p:Nat) (s:StD) (xs:List EdgeR) (lv av:Value) (w:World) (hf0:Fr w0 w) (hlo:w0.heap.size≤b) (h:MakSt w b w0.heap.size pv lv av false s.labs xs) (hA:ArcS s xs) (hok:StOk s) (hpf:p<f+1) (hl:p<ps.length) (hn:s.labs.length+occA ps p≤23) (h2:(nAt ps p).f0=3):
  Calls Tryz.prog 190 #[.pointer (some ⟨b,0,none⟩),.int .i64 (p:Int)] w fun e w'=>LokQ b w0.heap.size pv lv av (occA ps p) (glu ps (f+1) p s) w e w':=by
 have hps:=(pathB_out hp).1
 obtain⟨bq,oq,cq,a,ba,oa,ca,rfl,hcq,hcm,hbq,c0,c1,c2,hca,hcam,HK⟩:=piece_cells hv hf0 hl
 have HG:Hid (glu ps (f+1) p s=altS (glu ps f) (nAt ps p).f2 s (nAt ps p).f2.length):=Lib.hid (by rw[glu];simp only[];rw[if_neg (by omega),if_neg (by omega),if_pos h2])
 have KF:=Lib.hid (fun k (hk:k<(nAt ps p).f2.length)=>kid_facts hp hpf hl hok hn hk (altS (glu ps f) (nAt ps p).f2 s) (altR_ok hp hpf hl s))
 have OC:Hid (occA ps p=occK (occL ps p) (nAt ps p).f2 (nAt ps p).f2.length):=Lib.hid (by unfold occA;rw[occL_at ps hl,occS,if_neg (by omega),Nat.zero_add])
 have OA:Hid (∀ m,m<p→occA ps m=nAt (occL ps p) m):=Lib.hid fun m hm=>occL_same ps (by omega) hm
 rw[HG.out]
 obtain⟨N,hNN⟩: ∃ N,occA ps p=N:=⟨_,rfl⟩
 rw[hNN]at hn OC ⊢
 obtain⟨x,hxx⟩: ∃ x,nAt ps p=x:=⟨_,rfl⟩
 rw[hxx]at h2 c0 c1 c2 hca HK KF OC ⊢
 clear hxx HG hNN
 obtain⟨x0,x1,x2⟩:=x
 simp only[]at h2 c0 c1 c2 hca HK KF OC ⊢
 subst h2
 have hxl:=x1.toNat_lt
 have HP:=Lib.hid h
 have zb:=h.box.lt
 have hb1:b≠w.heap.size:=by omega
 have hb3:w.heap.size≠b:=by omega
 have zf0:=hf0.size
 have hbqw:bq<w.heap.size:=by omega
 have F:=h.box.facts
 have HI:=Lib.hid IH
 have HA:=Lib.hid hA
 have hN23:N≤23:=by omega
 have OK:Hid (∀ k,k≤x2.length→occK (occL ps p) x2 k≤N):=Lib.hid fun k hk=>by rw[OC.out];exact occK_le _ _ hk
 clear h IH hok hn hA
 obtain⟨i0,hi,hz0,hz1,hz2⟩:=info_parts info_int
 go_enter Tryz.func190,Tryz.ntmps190
 go_wp2_with fail
 have X0:Box (((w.alloc (.cells #[.slice none 0 0,.slice none 0 0,.bool false] 237)).alloc (.cells #[.int .i64 3,.int .u8 (x1.toNat:Int),.slice a x2.length ca] 255)).alloc (.cells #[.slice none 0 0,.slice none 0 0,.bool false] 237)) (w.heap.size+1) #[.int .i64 3,.int .u8 (x1.toNat:Int),.slice a x2.length ca] 255:=Box.alloc (Box.new' (by simp)) _
 have L0:Hid (LLp w b w0.heap.size (.slice (some ⟨bq,oq,none⟩) ps.length cq) lv av #[.int .i64 3,.int .u8 (x1.toNat:Int),.slice a x2.length ca] (occK (occL ps p) x2 0) (altS (glu ps f) x2 s 0).1 (altS (glu ps f) x2 s 0).2 (((w.alloc (.cells #[.slice none 0 0,.slice none 0 0,.bool false] 237)).alloc (.cells #[.int .i64 3,.int .u8 (x1.toNat:Int),.slice a x2.length ca] 255)).alloc (.cells #[.slice none 0 0,.slice none 0 0,.bool false] 237)) lv av (.slice none 0 0) (.slice none 0 0) [] [] xs):=Lib.hid
  ⟨⟨HP.out.fr (by exact Qf),HA.out,((Box.new _ _ _).alloc _).alloc _,X0,Tch.of_fr (by exact Qf),.inl rfl,.inl rfl⟩,Box.new' (by simp),World.ownsRow_nil _ _ _ _,World.ownsRow_nil _ _ _ _,InL.nil,InL.nil,Nat.zero_le _,Nat.zero_le _,fun g h=>by simp[Value.ownBlock]at h⟩
 clear X0
 go_loopw [8] (fun i wr=> ∃ (k:Nat) (lv' av' o1 o2:Value) (O1 O2:List Int) (xs':List EdgeR),k≤x2.length∧i= .int .i64 k∧Hid (LLp w b w0.heap.size (.slice (some ⟨bq,oq,none⟩) ps.length cq) lv av #[.int .i64 3,.int .u8 (x1.toNat:Int),.slice a x2.length ca] (occK (occL ps p) x2 k) (altS (glu ps f) x2 s k).1 (altS (glu ps f) x2 s k).2 wr lv' av' o1 o2 O1 O2 xs')) (fun i _=>x2.length-(intOf i).toNat)
 case atStart=>exact⟨0,lv,av,_,_,_,_,xs,Nat.zero_le _,rfl,L0⟩
 case round=>
  clear L0 c0 c1 c2 F
  obtain⟨k,lv',av',o1,o2,O1,O2,xs',hk,rfl,HL⟩:=hrel
  have zr:w.heap.size+1+1<wr.heap.size:=HL.out.out.lt
  obtain⟨oa1,oc1,rfl⟩: ∃ a c,o1= .slice a O1.length c:=owns_val HL.out.r1
  obtain⟨oa2,oc2,rfl⟩: ∃ a c,o2= .slice a O2.length c:=owns_val HL.out.r2
  have FX:=HL.out.co.pc.facts
  have FM:=HL.out.co.st.box.facts
  have FO:=HL.out.out.facts
  by_cases hlt:k<x2.length
  · obtain⟨m,hm,hkm,hmp,hml,hokm,hlast,hglu⟩:=KF.out k hlt
    have hN2:=OK.out (k+1) hlt
    rw[occK,hkm, ← OA.out m hmp]at hN2
    have HN:=Lib.hid (show occK (occL ps p) x2 (k+1)=occK (occL ps p) x2 k+occA ps m by rw[occK,hkm, ← OA.out m hmp])
    have HS:altS (glu ps f) x2 s (k+1)=((glu ps f m (altS (glu ps f) x2 s k).1).1,spAlt (altS (glu ps f) x2 s k).2 (glu ps f m (altS (glu ps f) x2 s k).1).2):=by rw[altS,hkm]
    obtain⟨S,hS⟩: ∃ S,altS (glu ps f) x2 s k=S:=⟨_,rfl⟩
    obtain⟨n1,hn1⟩: ∃ n1,occK (occL ps p) x2 k=n1:=⟨_,rfl⟩
    rw[hS]at HS hml hokm hlast hglu HL FO
    rw[hn1]at HL hN2 HN
    obtain⟨S1,⟨of,ol,on⟩⟩:=S
    obtain⟨R,hR⟩: ∃ R,glu ps f m S1=R:=⟨_,rfl⟩
    simp only[]at HS hml hokm hlast hglu HL FO
    rw[hR]at HS hglu
    have hfr:=HL.out.co.tch.old hf0 (HP.out.lo_ hlo)
    have CT:Calls Tryz.prog 190 #[.pointer (some ⟨b,0,none⟩),.int .i64 (m:Int)] wr fun e w'=>LokQ b w0.heap.size (.slice (some ⟨bq,oq,none⟩) ps.length cq) lv' av' (occA ps m) R wr e w':=by
     have:=HI.out b m S1 xs' lv' av' wr hfr hlo HL.out.co.st HL.out.co.arc hokm (by omega) (by omega) hml
     rw[hR]at this
     exact this
    have hg1:=hglu.len
    have HRO:=Lib.hid (hokm.glu hglu)
    have HG2:=Lib.hid hglu.first
    have CT:=Lib.hid CT
    obtain⟨⟨R1,R2⟩,⟨yf,yl,yn⟩⟩:=R
    simp only[]at hg1 HRO HG2
    have HS:=Lib.hid HS
    have HLA:=Lib.hid hlast
    obtain⟨rfl,hba,fa⟩:=HK.out (by omega)
    have ck:=(hfr.cell (p:=⟨ba,_,none⟩) hba).trans (fa k hlt)
    rw[hm]at ck
    obtain⟨M,hM⟩: ∃ M,occA ps m=M:=⟨_,rfl⟩
    rw[hM]at CT hml hg1 hN2 HN
    clear hm hkm hS hR hlast hglu fa hokm hn1 hM
    go_wp2_with fail
    refine CT.out.mono ?_
    rintro e w2 ⟨y1,y2,lv2,av2,L1,L2,xs2,rfl,q1,q2,q3,q4,q5,q6,q7,q8,q9,q10,q11,q12,_,_⟩
    obtain⟨ya,yc,rfl⟩: ∃ a c,y1= .slice a L1.length c:=owns_val q6
    obtain⟨yb,yd,rfl⟩: ∃ a c,y2= .slice a L2.length c:=owns_val q7
    have z2:=q3.size
    have C2:=Lib.hid (HL.out.co.call HP.out (by omega) q1 q2 q3 q4 q5)
    have O2b:=q3.box HL.out.out (HL.out.co.new HP.out _ (by omega) (by omega))
    have HR1:=Lib.hid HL.out.r1;have HR2:=Lib.hid HL.out.r2
    have R1o:=Lib.hid (HL.out.co.row HL.out.r1 q3)
    have R2o:=Lib.hid (HL.out.co.row HL.out.r2 q3)
    have Y1:=Lib.hid q6
    have Y2:=Lib.hid q7
    have HE:=Lib.hid (And.intro q8 (And.intro q9 q12))
    have FX2:=C2.out.pc.facts
    have FO2:=O2b.facts
    have HO:=Lib.hid (And.intro HL.out.i1 (And.intro HL.out.i2 HL.out.ap))
    have hl1:=HL.out.l1;have hl2:=HL.out.l2
    have HX2:=Lib.hid O2b
    have hne2:w.heap.size+1+1≠w2.heap.size:=by omega
    have hne3:w.heap.size+1≠w2.heap.size:=by omega
    clear q1 q2 q3 q4 q5 q6 q7 q8 q9 q12 HL CT FX FM FO O2b
    have HSZ:=Lib.hid (show w.heap.size+3≤wr.heap.size by omega)
    have A13:Hid (Apart (.slice oa1 O1.length oc1) (.slice ya L1.length yc)∧Apart (.slice oa1 O1.length oc1) (.slice yb L2.length yd)∧Apart (.slice oa2 O2.length oc2) (.slice ya L1.length yc)∧Apart (.slice oa2 O2.length oc2) (.slice yb L2.length yd)):=Lib.hid ⟨apart_lt HR1.out Y1.out (Nat.le_refl _),apart_lt HR1.out Y2.out (Nat.le_refl _),apart_lt HR2.out Y1.out (Nat.le_refl _),apart_lt HR2.out Y2.out (Nat.le_refl _)⟩
    have P3:Hid (LPh w b w0.heap.size (.slice (some ⟨bq,oq,none⟩) ps.length cq) lv av #[.int .i64 3,.int .u8 (x1.toNat:Int),.slice (some ⟨ba,oa,none⟩) x2.length ca] ⟨R1,R2⟩ (w2.alloc (.cells #[.slice ya L1.length yc,.slice yb L2.length yd,.bool yn] 237)) lv2 av2 xs2 #[.slice oa1 O1.length oc1,.slice oa2 O2.length oc2,.bool on] w2.heap.size #[.slice ya L1.length yc,.slice yb L2.length yd,.bool yn] (.slice oa1 O1.length oc1) (.slice oa2 O2.length oc2) (.slice ya L1.length yc) (.slice yb L2.length yd) O1 O2 L1 L2):=Lib.hid
     ⟨C2.out.fr (by exact Qf),HX2.out.alloc _,Box.new' rfl,owns_fr R1o.out (by exact Qf),owns_fr R2o.out (by exact Qf),owns_fr (owns_lo Y1.out HSZ.out) (by exact Qf),owns_fr (owns_lo Y2.out HSZ.out) (by exact Qf),by omega⟩
    clear C2 R1o R2o Y1 Y2 HX2 HR1 HR2 HLA HG2 HRO
    cases on<;>cases yn
    · go_wp2_with(first|(at_builtin;refine wpList_append_rd rfl _ _ 34 rfl (w.heap.size+3) 3 i0 (.int .i64 0) 1 8 Tryz.underlying34 hi hz0 hz1 hz2 rfl (by decide) (.slice oa1 O1.length oc1) O1.length (O1.map (Value.int .i64)) rfl P3.out.r1 _ L1.length (L1.map (Value.int .i64)) rfl (IntsO.rd P3.out.r3) (oneCells_int _ _) (by unfold maxLen;omega) (by omega) (by exact Qz) ?_;intro a4 c4 w4 hown4 hgrow4 hat4;have P4:=P3.out.grow1 (o1':= .slice a4 (O1++L1).length c4) (O1':=O1++L1) hgrow4 (by simpa [IntsO]using hown4) HO.out.2.2 A13.out.1 A13.out.2.1;have FO4:=P4.out.facts;have FK4:=P4.yb.facts;have FX4:=P4.co.pc.facts;have P4:=Lib.hid (P4.set zb 0 (.slice a4 (O1.length+L1.length) c4));have H4:=Lib.hid (Mvd.of_app (n:=w2.heap.size+1) hat4 (by simp));have A41:Hid (Apart (.slice oa2 O2.length oc2) (.slice a4 (O1++L1).length c4)):=Lib.hid (Apart.symm' (fun g h1 h2=>H4.out.apart HO.out.2.2 (fun g e=>by have:=owns_old P3.out.r2 g e;simpa using this) g ((own_len a4 _ _ c4).trans h1) h2));have z4:=hgrow4.size;(try simp only[World.size_alloc]at z4);clear hown4 hgrow4 hat4)|(at_builtin;refine wpList_append_rd rfl _ _ 34 rfl (w.heap.size+3) 3 i0 (.int .i64 0) 1 8 Tryz.underlying34 hi hz0 hz1 hz2 rfl (by decide) (.slice oa2 O2.length oc2) O2.length (O2.map (Value.int .i64)) rfl P4.out.r2 _ L2.length (L2.map (Value.int .i64)) rfl (IntsO.rd P4.out.r4) (oneCells_int _ _) (by unfold maxLen;omega) (by omega) (by exact Qz) ?_;intro a6 c6 w6 hown6 hgrow6 hat6;have P6:=P4.out.grow2 (o2':= .slice a6 (O2++L2).length c6) (O2':=O2++L2) hgrow6 (by simpa [IntsO]using hown6) A41.out A13.out.2.2.1 A13.out.2.2.2;have FO6:=P6.out.facts;have FK6:=P6.yb.facts;have FX6:=P6.co.pc.facts;have P6:=Lib.hid P6;have H6:=Lib.hid (Mvd.of_app (n:=w4.heap.size) hat6 (by simp));clear hown6 hgrow6 hat6))
      have hlen4:(O1++L1).length=O1.length+L1.length:=List.length_append
      have hlen6:(O2++L2).length=O2.length+L2.length:=List.length_append
      have A6:Hid (Apart (.slice a4 (O1++L1).length c4) (.slice a6 (O2++L2).length c6)):=Lib.hid (Apart.symm' (fun g h1 h2=>H6.out.apart A41.out (fun g e=>by have:=owns_old P4.out.r1 g e;simpa using this) g ((own_len a6 _ _ c6).trans h1) h2))
      have Q:=Lib.hid (LPh.as ((P6.out.set zb 1 (.slice a6 (O2.length+L2.length) c6)).set zb 2 (.bool false)) (Z':= #[.slice a4 (O1++L1).length c4,.slice a6 (O2++L2).length c6,.bool false]) (by simp))
      clear P6 P4
      go_roundw
      case rel=>
       refine⟨k+1,lv2,av2,.slice a4 (O1++L1).length c4,.slice a6 (O2++L2).length c6,O1++L1,O2++L2,xs2,by omega,by go_num,Lib.hid ?_⟩
       rw[HS.out,HN.out]
       exact⟨Q.out.co,Q.out.out,Q.out.r1,Q.out.r2,HO.out.1.app HE.out.1,HO.out.2.1.app HE.out.2.1,by rw[hlen4];omega,by rw[hlen6];omega,A6.out⟩
      case measure=>(simp[intOf];omega)
    · go_wp2_with(first|(at_builtin;refine wpList_append_rd rfl _ _ 34 rfl (w.heap.size+3) 3 i0 (.int .i64 0) 1 8 Tryz.underlying34 hi hz0 hz1 hz2 rfl (by decide) (.slice oa1 O1.length oc1) O1.length (O1.map (Value.int .i64)) rfl P3.out.r1 _ L1.length (L1.map (Value.int .i64)) rfl (IntsO.rd P3.out.r3) (oneCells_int _ _) (by unfold maxLen;omega) (by omega) (by exact Qz) ?_;intro a4 c4 w4 hown4 hgrow4 hat4;have P4:=P3.out.grow1 (o1':= .slice a4 (O1++L1).length c4) (O1':=O1++L1) hgrow4 (by simpa [IntsO]using hown4) HO.out.2.2 A13.out.1 A13.out.2.1;have FO4:=P4.out.facts;have FK4:=P4.yb.facts;have FX4:=P4.co.pc.facts;have P4:=Lib.hid (P4.set zb 0 (.slice a4 (O1.length+L1.length) c4));have H4:=Lib.hid (Mvd.of_app (n:=w2.heap.size+1) hat4 (by simp));have A41:Hid (Apart (.slice oa2 O2.length oc2) (.slice a4 (O1++L1).length c4)):=Lib.hid (Apart.symm' (fun g h1 h2=>H4.out.apart HO.out.2.2 (fun g e=>by have:=owns_old P3.out.r2 g e;simpa using this) g ((own_len a4 _ _ c4).trans h1) h2));have z4:=hgrow4.size;(try simp only[World.size_alloc]at z4);clear hown4 hgrow4 hat4)|(at_builtin;refine wpList_append_rd rfl _ _ 34 rfl (w.heap.size+3) 3 i0 (.int .i64 0) 1 8 Tryz.underlying34 hi hz0 hz1 hz2 rfl (by decide) (.slice oa2 O2.length oc2) O2.length (O2.map (Value.int .i64)) rfl P4.out.r2 _ L2.length (L2.map (Value.int .i64)) rfl (IntsO.rd P4.out.r4) (oneCells_int _ _) (by unfold maxLen;omega) (by omega) (by exact Qz) ?_;intro a6 c6 w6 hown6 hgrow6 hat6;have P6:=P4.out.grow2 (o2':= .slice a6 (O2++L2).length c6) (O2':=O2++L2) hgrow6 (by simpa [IntsO]using hown6) A41.out A13.out.2.2.1 A13.out.2.2.2;have FO6:=P6.out.facts;have FK6:=P6.yb.facts;have FX6:=P6.co.pc.facts;have P6:=Lib.hid P6;have H6:=Lib.hid (Mvd.of_app (n:=w4.heap.size) hat6 (by simp));clear hown6 hgrow6 hat6))
      have hlen4:(O1++L1).length=O1.length+L1.length:=List.length_append
      have hlen6:(O2++L2).length=O2.length+L2.length:=List.length_append
      have A6:Hid (Apart (.slice a4 (O1++L1).length c4) (.slice a6 (O2++L2).length c6)):=Lib.hid (Apart.symm' (fun g h1 h2=>H6.out.apart A41.out (fun g e=>by have:=owns_old P4.out.r1 g e;simpa using this) g ((own_len a6 _ _ c6).trans h1) h2))
      have Q:=Lib.hid (LPh.as ((P6.out.set zb 1 (.slice a6 (O2.length+L2.length) c6)).set zb 2 (.bool true)) (Z':= #[.slice a4 (O1++L1).length c4,.slice a6 (O2++L2).length c6,.bool true]) (by simp))
      clear P6 P4
      go_roundw
      case rel=>
       refine⟨k+1,lv2,av2,.slice a4 (O1++L1).length c4,.slice a6 (O2++L2).length c6,O1++L1,O2++L2,xs2,by omega,by go_num,Lib.hid ?_⟩
       rw[HS.out,HN.out]
       exact⟨Q.out.co,Q.out.out,Q.out.r1,Q.out.r2,HO.out.1.app HE.out.1,HO.out.2.1.app HE.out.2.1,by rw[hlen4];omega,by rw[hlen6];omega,A6.out⟩
      case measure=>(simp[intOf];omega)
    · go_wp2_with(first|(at_builtin;refine wpList_append_rd rfl _ _ 34 rfl (w.heap.size+3) 3 i0 (.int .i64 0) 1 8 Tryz.underlying34 hi hz0 hz1 hz2 rfl (by decide) (.slice oa1 O1.length oc1) O1.length (O1.map (Value.int .i64)) rfl P3.out.r1 _ L1.length (L1.map (Value.int .i64)) rfl (IntsO.rd P3.out.r3) (oneCells_int _ _) (by unfold maxLen;omega) (by omega) (by exact Qz) ?_;intro a4 c4 w4 hown4 hgrow4 hat4;have P4:=P3.out.grow1 (o1':= .slice a4 (O1++L1).length c4) (O1':=O1++L1) hgrow4 (by simpa [IntsO]using hown4) HO.out.2.2 A13.out.1 A13.out.2.1;have FO4:=P4.out.facts;have FK4:=P4.yb.facts;have FX4:=P4.co.pc.facts;have P4:=Lib.hid (P4.set zb 0 (.slice a4 (O1.length+L1.length) c4));have H4:=Lib.hid (Mvd.of_app (n:=w2.heap.size+1) hat4 (by simp));have A41:Hid (Apart (.slice oa2 O2.length oc2) (.slice a4 (O1++L1).length c4)):=Lib.hid (Apart.symm' (fun g h1 h2=>H4.out.apart HO.out.2.2 (fun g e=>by have:=owns_old P3.out.r2 g e;simpa using this) g ((own_len a4 _ _ c4).trans h1) h2));have z4:=hgrow4.size;(try simp only[World.size_alloc]at z4);clear hown4 hgrow4 hat4)|(at_builtin;refine wpList_append_rd rfl _ _ 34 rfl (w.heap.size+3) 3 i0 (.int .i64 0) 1 8 Tryz.underlying34 hi hz0 hz1 hz2 rfl (by decide) (.slice oa2 O2.length oc2) O2.length (O2.map (Value.int .i64)) rfl P4.out.r2 _ L2.length (L2.map (Value.int .i64)) rfl (IntsO.rd P4.out.r4) (oneCells_int _ _) (by unfold maxLen;omega) (by omega) (by exact Qz) ?_;intro a6 c6 w6 hown6 hgrow6 hat6;have P6:=P4.out.grow2 (o2':= .slice a6 (O2++L2).length c6) (O2':=O2++L2) hgrow6 (by simpa [IntsO]using hown6) A41.out A13.out.2.2.1 A13.out.2.2.2;have FO6:=P6.out.facts;have FK6:=P6.yb.facts;have FX6:=P6.co.pc.facts;have P6:=Lib.hid P6;have H6:=Lib.hid (Mvd.of_app (n:=w4.heap.size) hat6 (by simp));clear hown6 hgrow6 hat6))
      have hlen4:(O1++L1).length=O1.length+L1.length:=List.length_append
      have hlen6:(O2++L2).length=O2.length+L2.length:=List.length_append
      have A6:Hid (Apart (.slice a4 (O1++L1).length c4) (.slice a6 (O2++L2).length c6)):=Lib.hid (Apart.symm' (fun g h1 h2=>H6.out.apart A41.out (fun g e=>by have:=owns_old P4.out.r1 g e;simpa using this) g ((own_len a6 _ _ c6).trans h1) h2))
      have Q:=Lib.hid (LPh.as ((P6.out.set zb 1 (.slice a6 (O2.length+L2.length) c6)).set zb 2 (.bool true)) (Z':= #[.slice a4 (O1++L1).length c4,.slice a6 (O2++L2).length c6,.bool true]) (by simp))
      clear P6 P4
      go_roundw
      case rel=>
       refine⟨k+1,lv2,av2,.slice a4 (O1++L1).length c4,.slice a6 (O2++L2).length c6,O1++L1,O2++L2,xs2,by omega,by go_num,Lib.hid ?_⟩
       rw[HS.out,HN.out]
       exact⟨Q.out.co,Q.out.out,Q.out.r1,Q.out.r2,HO.out.1.app HE.out.1,HO.out.2.1.app HE.out.2.1,by rw[hlen4];omega,by rw[hlen6];omega,A6.out⟩
      case measure=>(simp[intOf];omega)
    · go_wp2_with(first|(at_builtin;refine wpList_append_rd rfl _ _ 34 rfl (w.heap.size+3) 3 i0 (.int .i64 0) 1 8 Tryz.underlying34 hi hz0 hz1 hz2 rfl (by decide) (.slice oa1 O1.length oc1) O1.length (O1.map (Value.int .i64)) rfl P3.out.r1 _ L1.length (L1.map (Value.int .i64)) rfl (IntsO.rd P3.out.r3) (oneCells_int _ _) (by unfold maxLen;omega) (by omega) (by exact Qz) ?_;intro a4 c4 w4 hown4 hgrow4 hat4;have P4:=P3.out.grow1 (o1':= .slice a4 (O1++L1).length c4) (O1':=O1++L1) hgrow4 (by simpa [IntsO]using hown4) HO.out.2.2 A13.out.1 A13.out.2.1;have FO4:=P4.out.facts;have FK4:=P4.yb.facts;have FX4:=P4.co.pc.facts;have P4:=Lib.hid (P4.set zb 0 (.slice a4 (O1.length+L1.length) c4));have H4:=Lib.hid (Mvd.of_app (n:=w2.heap.size+1) hat4 (by simp));have A41:Hid (Apart (.slice oa2 O2.length oc2) (.slice a4 (O1++L1).length c4)):=Lib.hid (Apart.symm' (fun g h1 h2=>H4.out.apart HO.out.2.2 (fun g e=>by have:=owns_old P3.out.r2 g e;simpa using this) g ((own_len a4 _ _ c4).trans h1) h2));have z4:=hgrow4.size;(try simp only[World.size_alloc]at z4);clear hown4 hgrow4 hat4)|(at_builtin;refine wpList_append_rd rfl _ _ 34 rfl (w.heap.size+3) 3 i0 (.int .i64 0) 1 8 Tryz.underlying34 hi hz0 hz1 hz2 rfl (by decide) (.slice oa2 O2.length oc2) O2.length (O2.map (Value.int .i64)) rfl P4.out.r2 _ L2.length (L2.map (Value.int .i64)) rfl (IntsO.rd P4.out.r4) (oneCells_int _ _) (by unfold maxLen;omega) (by omega) (by exact Qz) ?_;intro a6 c6 w6 hown6 hgrow6 hat6;have P6:=P4.out.grow2 (o2':= .slice a6 (O2++L2).length c6) (O2':=O2++L2) hgrow6 (by simpa [IntsO]using hown6) A41.out A13.out.2.2.1 A13.out.2.2.2;have FO6:=P6.out.facts;have FK6:=P6.yb.facts;have FX6:=P6.co.pc.facts;have P6:=Lib.hid P6;have H6:=Lib.hid (Mvd.of_app (n:=w4.heap.size) hat6 (by simp));clear hown6 hgrow6 hat6))
      have hlen4:(O1++L1).length=O1.length+L1.length:=List.length_append
      have hlen6:(O2++L2).length=O2.length+L2.length:=List.length_append
      have A6:Hid (Apart (.slice a4 (O1++L1).length c4) (.slice a6 (O2++L2).length c6)):=Lib.hid (Apart.symm' (fun g h1 h2=>H6.out.apart A41.out (fun g e=>by have:=owns_old P4.out.r1 g e;simpa using this) g ((own_len a6 _ _ c6).trans h1) h2))
      have Q:=Lib.hid (LPh.as ((P6.out.set zb 1 (.slice a6 (O2.length+L2.length) c6)).set zb 2 (.bool true)) (Z':= #[.slice a4 (O1++L1).length c4,.slice a6 (O2++L2).length c6,.bool true]) (by simp))
      clear P6 P4
      go_roundw
      case rel=>
       refine⟨k+1,lv2,av2,.slice a4 (O1++L1).length c4,.slice a6 (O2++L2).length c6,O1++L1,O2++L2,xs2,by omega,by go_num,Lib.hid ?_⟩
       rw[HS.out,HN.out]
       exact⟨Q.out.co,Q.out.out,Q.out.r1,Q.out.r2,HO.out.1.app HE.out.1,HO.out.2.1.app HE.out.2.1,by rw[hlen4];omega,by rw[hlen6];omega,A6.out⟩
      case measure=>(simp[intOf];omega)
  · obtain rfl:k=x2.length:=by omega
    obtain⟨S,hS⟩: ∃ S,altS (glu ps f) x2 s x2.length=S:=⟨_,rfl⟩
    rw[hS]at HL FO
    obtain⟨S1,⟨of,ol,on⟩⟩:=S
    have HS:=Lib.hid hS
    clear hS KF HI HK OK
    have FR3:=HL.out.co.res.facts
    have hNN:=HL.out.co.new HP.out w.heap.size (Nat.le_refl _) (by omega)
    go_wp2_with fail
    refine bodyPost_ret (v:= .agg #[.slice oa1 O1.length oc1,.slice oa2 O2.length oc2,.bool on]) (by simp[results,Tryz.results190,go_sem, *]) rfl ?_
    have st3:=HL.out.co.st.set3 (c:=w.heap.size) hb1 (fun e=>hNN (.inr e)) (owns_box HL.out.co.st.arcs HL.out.co.res (by decide)) (.slice oa1 O1.length oc1) (.slice oa2 O2.length oc2) (.bool on)
    refine⟨_,_,lv',av',O1,O2,xs',by rw[HS.out],?_,?_,HL.out.co.tch.set3 (.inr (Nat.le_refl _)) _ _ _,HL.out.co.ml.mono (by omega),HL.out.co.ma,HL.out.r1.set3 HL.out.co.res (by decide) (by omega) _ _ _,HL.out.r2.set3 HL.out.co.res (by decide) (by omega) _ _ _,by rw[HS.out];exact HL.out.i1,by rw[HS.out];exact HL.out.i2,?_,?_,HL.out.ap,?_,?_⟩
    · rw[HS.out];exact st3
    · rw[HS.out];exact HL.out.co.arc
    · have:=HL.out.l1;rw[OC.out];exact this
    · have:=HL.out.l2;rw[OC.out];exact this
    · exact owns_types HL.out.r1 HL.out.co.st.labs (by decide)
    · exact owns_types HL.out.r2 HL.out.co.st.labs (by decide)
theorem LCo.set3 {w:World} {b lo:Nat} {pv lv av:Value} {X Z:Array Value} {s:StD} {wr:World} {lv' av':Value} {xs:List EdgeR} (h:LCo w b lo pv lv av X s wr lv' av' xs) (k:Box wr (w.heap.size+1+1) Z 237) (hb:b<w.heap.size) (u v x:Value):LCo w b lo pv lv av X s (((wr.setCell ⟨w.heap.size+1+1,0,none⟩ u).setCell ⟨w.heap.size+1+1,1,none⟩ v).setCell ⟨w.heap.size+1+1,2,none⟩ x) lv' av' xs:=
 ((h.set k hb 0 u).set (k.set 0 u) hb 1 v).set ((k.set 0 u).set 1 v) hb 2 x
set_option maxHeartbeats 8000000 in
set_option maxRecDepth 100000 in
theorem lok_post {ps:List PieceD} (hp:pathB ps=true) {w0:World} {pv:Value} (hv:PiecesR w0 pv ps) (f:Nat) (IH:LokC ps w0 pv f) (b p:Nat) (s:StD) (xs:List EdgeR) (lv av:Value) (w:World) (hf0:Fr w0 w) (hlo:w0.heap.size≤b) (h:MakSt w b w0.heap.size pv lv av false s.labs xs) (hA:ArcS s xs) (hok:StOk s) (hpf:p<f+1) (hl:p<ps.length) (hn:s.labs.length+occA ps p≤23) (h1:(nAt ps p).f0≠1) (h2:(nAt ps p).f0≠2) (h3:(nAt ps p).f0≠3):
  Calls Tryz.prog 190 #[.pointer (some ⟨b,0,none⟩),.int .i64 (p:Int)] w fun e w'=>LokQ b w0.heap.size pv lv av (occA ps p) (glu ps (f+1) p s) w e w':=by
 have hps:=(pathB_out hp).1
 obtain⟨bq,oq,cq,a,ba,oa,ca,rfl,hcq,hcm,hbq,c0,c1,c2,hca,hcam,HK⟩:=piece_cells hv hf0 hl
 obtain⟨hl1,hop⟩:=pieceB_one ((pathB_out hp).2 p hl) h1 h2 h3
 have HG:Hid (glu ps (f+1) p s=(⟨(glu ps f (kAt (nAt ps p).f2 0) s).1.labs,if(nAt ps p).f0=6 then(glu ps f (kAt (nAt ps p).f2 0) s).1.fol else folJ (glu ps f (kAt (nAt ps p).f2 0) s).1.fol (glu ps f (kAt (nAt ps p).f2 0) s).2.last (glu ps f (kAt (nAt ps p).f2 0) s).2.first⟩,⟨(glu ps f (kAt (nAt ps p).f2 0) s).2.first,(glu ps f (kAt (nAt ps p).f2 0) s).2.last,(glu ps f (kAt (nAt ps p).f2 0) s).2.null||decide ((nAt ps p).f0≠5)⟩)):=Lib.hid (by rw[glu];simp only[];rw[if_neg h1,if_neg h2,if_neg h3])
 obtain⟨m,hm,hkm,hmp,hml,hokm,hlast,hglu⟩:=kid_facts hp hpf hl hok hn (k:=0) (by omega) (fun k=>altS (glu ps f) (nAt ps p).f2 s k) (altR_ok hp hpf hl s)
 simp only[altS]at hml hokm hglu
 have hocc:occA ps p=occA ps m:=by
  have e:occA ps p=occK (occL ps p) (nAt ps p).f2 (nAt ps p).f2.length:=by unfold occA;rw[occL_at ps hl,occS,if_neg h1,Nat.zero_add]
  rw[e,hl1]
  show 0+nAt (occL ps p) (kAt (nAt ps p).f2 0)=_
  rw[Nat.zero_add,hkm]
  exact occL_same ps hmp (by omega)
 rw[hkm]at HG
 rw[HG.out,hocc]
 have CT0:=IH b m s xs lv av
 obtain⟨x,hxx⟩: ∃ x,nAt ps p=x:=⟨_,rfl⟩
 rw[hxx]at h1 h2 h3 c0 c1 c2 hca HK hop hl1 hm ⊢
 obtain⟨R,hR⟩: ∃ R,glu ps f m s=R:=⟨_,rfl⟩
 obtain⟨M,hM⟩: ∃ M,occA ps m=M:=⟨_,rfl⟩
 rw[hR]at CT0 hglu ⊢
 rw[hM]at CT0 hglu hml ⊢
 clear hxx HG hkm hR hM hocc
 obtain⟨x0,x1,x2⟩:=x
 simp only[]at h1 h2 h3 c0 c1 c2 hca HK hop hl1 hm ⊢
 obtain⟨k0,rfl⟩: ∃ k0,x2=[k0]:=by
  match x2,hl1 with
  |[k0],_=>exact⟨k0,rfl⟩
 obtain rfl:k0=(m:Int):=by simpa [iAt]using hm
 obtain⟨rfl,hba,fa⟩:=HK.out (by simp)
 have ck0:w.cell? ⟨ba,oa,none⟩=some (.int .i64 (m:Int)):=by simpa [iAt]using (hf0.cell (p:=⟨ba,_,none⟩) hba).trans (fa 0 (by simp))
 have hbaw:ba<w.heap.size:=by have:=hf0.size;omega
 have hbaw1:ba<w.heap.size+1:=by omega
 have hbaw2:ba<w.heap.size+1+1:=by omega
 have hban:ba≠w.heap.size:=by omega
 have hban1:ba≠w.heap.size+1:=by omega
 have hban2:ba≠w.heap.size+1+1:=by omega
 have hxl:=x1.toNat_lt
 have HP:=Lib.hid h
 have zb:=h.box.lt
 have hb1:b≠w.heap.size:=by omega
 have hb3:w.heap.size≠b:=by omega
 have zf0:=hf0.size
 have hbqw:bq<w.heap.size:=by omega
 have F:=h.box.facts
 have hA:=Lib.hid hA
 have hg1:=hglu.len
 have HRO:=Lib.hid (hok.glu hglu)
 have HG2:=Lib.hid hglu.first
 have HG3:=Lib.hid (fun j hj=>(hglu.last j hj).2)
 have hMl:R.1.labs.length≤23:=by omega
 have CT:=Lib.hid (CT0 _ (hf0.trans (show Fr w (((w.alloc (.cells #[.slice none 0 0,.slice none 0 0,.bool false] 237)).alloc (.cells #[.int .i64 x0,.int .u8 (x1.toNat:Int),.slice (some ⟨ba,oa,none⟩) 1 ca] 255)).alloc (.cells #[.slice none 0 0,.slice none 0 0,.bool false] 237)) by exact Qf)) hlo (h.fr (by exact Qf)) hA.out hok (by omega) (by omega) hml)
 have C0:=Lib.hid (⟨h.fr (by exact Qf),hA.out,((Box.new _ _ _).alloc _).alloc _,Box.alloc (Box.new' (by simp)) _,Tch.of_fr (by exact Qf),.inl rfl,.inl rfl⟩:LCo w b w0.heap.size (.slice (some ⟨bq,oq,none⟩) ps.length cq) lv av #[.int .i64 x0,.int .u8 (x1.toNat:Int),.slice (some ⟨ba,oa,none⟩) 1 ca] s (((w.alloc (.cells #[.slice none 0 0,.slice none 0 0,.bool false] 237)).alloc (.cells #[.int .i64 x0,.int .u8 (x1.toNat:Int),.slice (some ⟨ba,oa,none⟩) 1 ca] 255)).alloc (.cells #[.slice none 0 0,.slice none 0 0,.bool false] 237)) lv av xs)
 clear h IH hok hn hA CT0 fa hm hglu hlast hokm hml HK
 obtain⟨⟨R1,R2⟩,⟨yf,yl,yn⟩⟩:=R
 simp only[]at hg1 HG2 HG3 hMl HRO ⊢
 rcases hop with rfl|rfl|rfl
 · obtain⟨i0,hi,hz0,hz1,hz2⟩:=info_parts info_int
   go_enter Tryz.func190,Tryz.ntmps190
   go_wp2_with fail
   have FX0:=C0.out.pc.facts
   have FM0:=C0.out.st.box.facts
   go_loopw [8] (fun i wr=>(i= .int .i64 0∧wr=(((w.alloc (.cells #[.slice none 0 0,.slice none 0 0,.bool false] 237)).alloc (.cells #[.int .i64 4,.int .u8 (x1.toNat:Int),.slice (some ⟨ba,oa,none⟩) 1 ca] 255)).alloc (.cells #[.slice none 0 0,.slice none 0 0,.bool false] 237)))∨(i= .int .i64 1∧Hid (∃ (lv' av' o1 o2:Value) (O1 O2:List Int) (xs':List EdgeR),LLp w b w0.heap.size (.slice (some ⟨bq,oq,none⟩) ps.length cq) lv av #[.int .i64 4,.int .u8 (x1.toNat:Int),.slice (some ⟨ba,oa,none⟩) 1 ca] M ⟨R1,folJ R2 yl yf⟩ ⟨yf,yl,true⟩ wr lv' av' o1 o2 O1 O2 xs'))) (fun i _=>1-(intOf i).toNat)
   case atStart=>exact .inl ⟨rfl,rfl⟩
   case round=>
    rcases hrel with⟨rfl,rfl⟩|⟨rfl,HL⟩
    · go_wp2_with fail
      refine CT.out.mono ?_
      rintro e w2 ⟨y1,y2,lv2,av2,L1,L2,xs2,rfl,q1,q2,q3,q4,q5,q6,q7,q8,q9,q10,q11,q12,_,_⟩
      obtain⟨ya,yc,rfl⟩: ∃ a c,y1= .slice a L1.length c:=owns_val q6
      obtain⟨yb,yd,rfl⟩: ∃ a c,y2= .slice a L2.length c:=owns_val q7
      have z2:=q3.size
      simp only[World.size_alloc]at z2 q4 q5 q6 q7
      have C2:=Lib.hid (C0.out.call HP.out (by simp) q1 q2 q3 (by simpa using q4) (by simpa using q5))
      have O2b:=q3.box (Box.new' (by simp):Box _ (w.heap.size+1+1) #[.slice none 0 0,.slice none 0 0,.bool false] 237) (C0.out.new HP.out _ (by omega) (by omega))
      have Y1:Hid (IntsO w2 (w.heap.size+3) (.slice ya L1.length yc) L1):=Lib.hid (owns_lo q6 (by omega))
      have Y2:Hid (IntsO w2 (w.heap.size+3) (.slice yb L2.length yd) L2):=Lib.hid (owns_lo q7 (by omega))
      have HE:=Lib.hid (And.intro q8 (And.intro q9 q12))
      have FX2:=C2.out.pc.facts
      have FO2:=O2b.facts
      have HX2:=Lib.hid O2b
      have hne2:w.heap.size+1+1≠w2.heap.size:=by omega
      have hne3:w.heap.size+1≠w2.heap.size:=by omega
      clear q1 q2 q3 q4 q5 q6 q7 q8 q9 q12 CT FX0 FM0 C0 O2b
      go_wp2_with fail
      have CW:=Lib.hid ((C2.out.set3 HX2.out zb (.slice ya L1.length yc) (.slice yb L2.length yd) (.bool yn)).fr ((Fr.refl _).alloc (.cells #[.slice ya L1.length yc,.slice yb L2.length yd,.bool yn] 237)))
      have KW:=((HX2.out.set 0 (.slice ya L1.length yc)).set 1 (.slice yb L2.length yd)).set 2 (.bool yn)
      have KW:=Lib.hid ((Box.as KW (Y:= #[.slice ya L1.length yc,.slice yb L2.length yd,.bool yn]) (by simp)).alloc (.cells #[.slice ya L1.length yc,.slice yb L2.length yd,.bool yn] 237))
      have YW1:=Lib.hid ((Y1.out.set3 HX2.out (by decide) (Nat.le_refl _) (.slice ya L1.length yc) (.slice yb L2.length yd) (.bool yn)).fr ((Fr.refl _).alloc (.cells #[.slice ya L1.length yc,.slice yb L2.length yd,.bool yn] 237)))
      have YW2:=Lib.hid ((Y2.out.set3 HX2.out (by decide) (Nat.le_refl _) (.slice ya L1.length yc) (.slice yb L2.length yd) (.bool yn)).fr ((Fr.refl _).alloc (.cells #[.slice ya L1.length yc,.slice yb L2.length yd,.bool yn] 237)))
      refine(join_arcs_any b w0.heap.size _ lv2 av2 _ _ false R1 xs2 L2 L1 _ CW.out.st (owns_lo YW2.out (by omega)) (owns_lo YW1.out (by omega)) (owns_box YW2.out CW.out.st.box (by decide)) (owns_box YW1.out CW.out.st.box (by decide)) (by simp;omega) CW.out.arc.1 (CW.out.arc.bnd HRO.out (by show R1.length≤24;omega)) (HE.out.2.1.bnd2 (fun j hj=>HG3.out j hj) (by omega)) (HE.out.1.bnd (fun j hj=>(HG2.out j hj).2)) (by omega)).mono ?_
      rintro e w3 ⟨rfl,av3,j1,j2,j3⟩
      have t3:Tch (LB b lv2) _ w3:=j2.sub (fun i _ e=> .inl e)
      have C3:=Lib.hid (CW.out.call (s2:=⟨R1,folJ R2 yl yf⟩) HP.out (by simp;omega) j1 (CW.out.arc.join HE.out.2.1 HE.out.1) t3 (.inl rfl) j3)
      have K3:=Lib.hid (j2.box KW.out (by omega))
      have Z3:=Lib.hid (And.intro (CW.out.row YW1.out t3) (CW.out.row YW2.out t3))
      have KB:Box w3 w2.heap.size #[.slice ya L1.length yc,.slice yb L2.length yd,.bool yn] 237:=j2.box (Box.new' (by simp)) (by have:=C2.out.st.box.lt;omega)
      have FK3:=K3.out.facts
      have FB3:=KB.facts
      have FX3:=C3.out.pc.facts
      clear j1 j2 j3 t3 KB CW KW YW1 YW2 FX2 FO2 C2 HX2 Y1 Y2
      cases yn
      · go_wp2_with fail
        go_roundw
        case rel=>
         refine .inr ⟨rfl,Lib.hid ⟨lv2,av3,.slice ya L1.length yc,.slice yb L2.length yd,L1,L2,_,C3.out.set K3.out zb 2 _,Box.as (K3.out.set 2 _) (by simp),Z3.out.1.setb K3.out (by decide) _,Z3.out.2.setb K3.out (by decide) _,HE.out.1,HE.out.2.1,by omega,by omega,HE.out.2.2⟩⟩
        case measure=>first|(focus(simp[intOf];done))|(simp[intOf];omega)
      · go_wp2_with fail
        go_roundw
        case rel=>
         refine .inr ⟨rfl,Lib.hid ⟨lv2,av3,.slice ya L1.length yc,.slice yb L2.length yd,L1,L2,_,C3.out.set K3.out zb 2 _,Box.as (K3.out.set 2 _) (by simp),Z3.out.1.setb K3.out (by decide) _,Z3.out.2.setb K3.out (by decide) _,HE.out.1,HE.out.2.1,by omega,by omega,HE.out.2.2⟩⟩
        case measure=>first|(focus(simp[intOf];done))|(simp[intOf];omega)
    · obtain⟨lv',av',o1,o2,O1,O2,xs',HL⟩:=HL.out
      obtain⟨oa1,oc1,rfl⟩: ∃ a c,o1= .slice a O1.length c:=owns_val HL.r1
      obtain⟨oa2,oc2,rfl⟩: ∃ a c,o2= .slice a O2.length c:=owns_val HL.r2
      have HL:=Lib.hid HL
      have zr:w.heap.size+1+1<wr.heap.size:=HL.out.out.lt
      have FX:=HL.out.co.pc.facts
      have FM:=HL.out.co.st.box.facts
      have FO:=HL.out.out.facts
      have FR3:=HL.out.co.res.facts
      have hNN:=HL.out.co.new HP.out w.heap.size (Nat.le_refl _) (by omega)
      go_wp2_with fail
      refine bodyPost_ret (v:= .agg #[.slice oa1 O1.length oc1,.slice oa2 O2.length oc2,.bool true]) (by simp[results,Tryz.results190,go_sem, *]) rfl ?_
      have st3:=HL.out.co.st.set3 (c:=w.heap.size) hb1 (fun e=>hNN (.inr e)) (owns_box HL.out.co.st.arcs HL.out.co.res (by decide)) (.slice oa1 O1.length oc1) (.slice oa2 O2.length oc2) (.bool true)
      refine⟨_,_,lv',av',O1,O2,xs',by simp,?_,?_,HL.out.co.tch.set3 (.inr (Nat.le_refl _)) _ _ _,HL.out.co.ml.mono (by omega),HL.out.co.ma,HL.out.r1.set3 HL.out.co.res (by decide) (by omega) _ _ _,HL.out.r2.set3 HL.out.co.res (by decide) (by omega) _ _ _,HL.out.i1,HL.out.i2,HL.out.l1,HL.out.l2,HL.out.ap,?_,?_⟩
      · simpa using st3
      · simpa using HL.out.co.arc
      · exact owns_types HL.out.r1 HL.out.co.st.labs (by decide)
      · exact owns_types HL.out.r2 HL.out.co.st.labs (by decide)
 · obtain⟨i0,hi,hz0,hz1,hz2⟩:=info_parts info_int
   go_enter Tryz.func190,Tryz.ntmps190
   go_wp2_with fail
   have FX0:=C0.out.pc.facts
   have FM0:=C0.out.st.box.facts
   go_loopw [8] (fun i wr=>(i= .int .i64 0∧wr=(((w.alloc (.cells #[.slice none 0 0,.slice none 0 0,.bool false] 237)).alloc (.cells #[.int .i64 5,.int .u8 (x1.toNat:Int),.slice (some ⟨ba,oa,none⟩) 1 ca] 255)).alloc (.cells #[.slice none 0 0,.slice none 0 0,.bool false] 237)))∨(i= .int .i64 1∧Hid (∃ (lv' av' o1 o2:Value) (O1 O2:List Int) (xs':List EdgeR),LLp w b w0.heap.size (.slice (some ⟨bq,oq,none⟩) ps.length cq) lv av #[.int .i64 5,.int .u8 (x1.toNat:Int),.slice (some ⟨ba,oa,none⟩) 1 ca] M ⟨R1,folJ R2 yl yf⟩ ⟨yf,yl,yn⟩ wr lv' av' o1 o2 O1 O2 xs'))) (fun i _=>1-(intOf i).toNat)
   case atStart=>exact .inl ⟨rfl,rfl⟩
   case round=>
    rcases hrel with⟨rfl,rfl⟩|⟨rfl,HL⟩
    · go_wp2_with fail
      refine CT.out.mono ?_
      rintro e w2 ⟨y1,y2,lv2,av2,L1,L2,xs2,rfl,q1,q2,q3,q4,q5,q6,q7,q8,q9,q10,q11,q12,_,_⟩
      obtain⟨ya,yc,rfl⟩: ∃ a c,y1= .slice a L1.length c:=owns_val q6
      obtain⟨yb,yd,rfl⟩: ∃ a c,y2= .slice a L2.length c:=owns_val q7
      have z2:=q3.size
      simp only[World.size_alloc]at z2 q4 q5 q6 q7
      have C2:=Lib.hid (C0.out.call HP.out (by simp) q1 q2 q3 (by simpa using q4) (by simpa using q5))
      have O2b:=q3.box (Box.new' (by simp):Box _ (w.heap.size+1+1) #[.slice none 0 0,.slice none 0 0,.bool false] 237) (C0.out.new HP.out _ (by omega) (by omega))
      have Y1:Hid (IntsO w2 (w.heap.size+3) (.slice ya L1.length yc) L1):=Lib.hid (owns_lo q6 (by omega))
      have Y2:Hid (IntsO w2 (w.heap.size+3) (.slice yb L2.length yd) L2):=Lib.hid (owns_lo q7 (by omega))
      have HE:=Lib.hid (And.intro q8 (And.intro q9 q12))
      have FX2:=C2.out.pc.facts
      have FO2:=O2b.facts
      have HX2:=Lib.hid O2b
      have hne2:w.heap.size+1+1≠w2.heap.size:=by omega
      have hne3:w.heap.size+1≠w2.heap.size:=by omega
      clear q1 q2 q3 q4 q5 q6 q7 q8 q9 q12 CT FX0 FM0 C0 O2b
      go_wp2_with fail
      have CW:=Lib.hid ((C2.out.set3 HX2.out zb (.slice ya L1.length yc) (.slice yb L2.length yd) (.bool yn)).fr ((Fr.refl _).alloc (.cells #[.slice ya L1.length yc,.slice yb L2.length yd,.bool yn] 237)))
      have KW:=((HX2.out.set 0 (.slice ya L1.length yc)).set 1 (.slice yb L2.length yd)).set 2 (.bool yn)
      have KW:=Lib.hid ((Box.as KW (Y:= #[.slice ya L1.length yc,.slice yb L2.length yd,.bool yn]) (by simp)).alloc (.cells #[.slice ya L1.length yc,.slice yb L2.length yd,.bool yn] 237))
      have YW1:=Lib.hid ((Y1.out.set3 HX2.out (by decide) (Nat.le_refl _) (.slice ya L1.length yc) (.slice yb L2.length yd) (.bool yn)).fr ((Fr.refl _).alloc (.cells #[.slice ya L1.length yc,.slice yb L2.length yd,.bool yn] 237)))
      have YW2:=Lib.hid ((Y2.out.set3 HX2.out (by decide) (Nat.le_refl _) (.slice ya L1.length yc) (.slice yb L2.length yd) (.bool yn)).fr ((Fr.refl _).alloc (.cells #[.slice ya L1.length yc,.slice yb L2.length yd,.bool yn] 237)))
      refine(join_arcs_any b w0.heap.size _ lv2 av2 _ _ false R1 xs2 L2 L1 _ CW.out.st (owns_lo YW2.out (by omega)) (owns_lo YW1.out (by omega)) (owns_box YW2.out CW.out.st.box (by decide)) (owns_box YW1.out CW.out.st.box (by decide)) (by simp;omega) CW.out.arc.1 (CW.out.arc.bnd HRO.out (by show R1.length≤24;omega)) (HE.out.2.1.bnd2 (fun j hj=>HG3.out j hj) (by omega)) (HE.out.1.bnd (fun j hj=>(HG2.out j hj).2)) (by omega)).mono ?_
      rintro e w3 ⟨rfl,av3,j1,j2,j3⟩
      have t3:Tch (LB b lv2) _ w3:=j2.sub (fun i _ e=> .inl e)
      have C3:=Lib.hid (CW.out.call (s2:=⟨R1,folJ R2 yl yf⟩) HP.out (by simp;omega) j1 (CW.out.arc.join HE.out.2.1 HE.out.1) t3 (.inl rfl) j3)
      have K3:=Lib.hid (j2.box KW.out (by omega))
      have Z3:=Lib.hid (And.intro (CW.out.row YW1.out t3) (CW.out.row YW2.out t3))
      have KB:Box w3 w2.heap.size #[.slice ya L1.length yc,.slice yb L2.length yd,.bool yn] 237:=j2.box (Box.new' (by simp)) (by have:=C2.out.st.box.lt;omega)
      have FK3:=K3.out.facts
      have FB3:=KB.facts
      have FX3:=C3.out.pc.facts
      clear j1 j2 j3 t3 KB CW KW YW1 YW2 FX2 FO2 C2 HX2 Y1 Y2
      cases yn
      · go_wp2_with fail
        go_roundw
        case rel=>
         refine .inr ⟨rfl,Lib.hid ⟨lv2,av3,.slice ya L1.length yc,.slice yb L2.length yd,L1,L2,_,C3.out.set K3.out zb 2 _,Box.as (K3.out.set 2 _) (by simp),Z3.out.1.setb K3.out (by decide) _,Z3.out.2.setb K3.out (by decide) _,HE.out.1,HE.out.2.1,by omega,by omega,HE.out.2.2⟩⟩
        case measure=>first|(focus(simp[intOf];done))|(simp[intOf];omega)
      · go_wp2_with fail
        go_roundw
        case rel=>
         refine .inr ⟨rfl,Lib.hid ⟨lv2,av3,.slice ya L1.length yc,.slice yb L2.length yd,L1,L2,_,C3.out.set K3.out zb 2 _,Box.as (K3.out.set 2 _) (by simp),Z3.out.1.setb K3.out (by decide) _,Z3.out.2.setb K3.out (by decide) _,HE.out.1,HE.out.2.1,by omega,by omega,HE.out.2.2⟩⟩
        case measure=>first|(focus(simp[intOf];done))|(simp[intOf];omega)
    · obtain⟨lv',av',o1,o2,O1,O2,xs',HL⟩:=HL.out
      obtain⟨oa1,oc1,rfl⟩: ∃ a c,o1= .slice a O1.length c:=owns_val HL.r1
      obtain⟨oa2,oc2,rfl⟩: ∃ a c,o2= .slice a O2.length c:=owns_val HL.r2
      have HL:=Lib.hid HL
      have zr:w.heap.size+1+1<wr.heap.size:=HL.out.out.lt
      have FX:=HL.out.co.pc.facts
      have FM:=HL.out.co.st.box.facts
      have FO:=HL.out.out.facts
      have FR3:=HL.out.co.res.facts
      have hNN:=HL.out.co.new HP.out w.heap.size (Nat.le_refl _) (by omega)
      go_wp2_with fail
      refine bodyPost_ret (v:= .agg #[.slice oa1 O1.length oc1,.slice oa2 O2.length oc2,.bool yn]) (by simp[results,Tryz.results190,go_sem, *]) rfl ?_
      have st3:=HL.out.co.st.set3 (c:=w.heap.size) hb1 (fun e=>hNN (.inr e)) (owns_box HL.out.co.st.arcs HL.out.co.res (by decide)) (.slice oa1 O1.length oc1) (.slice oa2 O2.length oc2) (.bool yn)
      refine⟨_,_,lv',av',O1,O2,xs',by simp,?_,?_,HL.out.co.tch.set3 (.inr (Nat.le_refl _)) _ _ _,HL.out.co.ml.mono (by omega),HL.out.co.ma,HL.out.r1.set3 HL.out.co.res (by decide) (by omega) _ _ _,HL.out.r2.set3 HL.out.co.res (by decide) (by omega) _ _ _,HL.out.i1,HL.out.i2,HL.out.l1,HL.out.l2,HL.out.ap,?_,?_⟩
      · simpa using st3
      · simpa using HL.out.co.arc
      · exact owns_types HL.out.r1 HL.out.co.st.labs (by decide)
      · exact owns_types HL.out.r2 HL.out.co.st.labs (by decide)
 · obtain⟨i0,hi,hz0,hz1,hz2⟩:=info_parts info_int
   go_enter Tryz.func190,Tryz.ntmps190
   go_wp2_with fail
   have FX0:=C0.out.pc.facts
   have FM0:=C0.out.st.box.facts
   go_loopw [8] (fun i wr=>(i= .int .i64 0∧wr=(((w.alloc (.cells #[.slice none 0 0,.slice none 0 0,.bool false] 237)).alloc (.cells #[.int .i64 6,.int .u8 (x1.toNat:Int),.slice (some ⟨ba,oa,none⟩) 1 ca] 255)).alloc (.cells #[.slice none 0 0,.slice none 0 0,.bool false] 237)))∨(i= .int .i64 1∧Hid (∃ (lv' av' o1 o2:Value) (O1 O2:List Int) (xs':List EdgeR),LLp w b w0.heap.size (.slice (some ⟨bq,oq,none⟩) ps.length cq) lv av #[.int .i64 6,.int .u8 (x1.toNat:Int),.slice (some ⟨ba,oa,none⟩) 1 ca] M ⟨R1,R2⟩ ⟨yf,yl,true⟩ wr lv' av' o1 o2 O1 O2 xs'))) (fun i _=>1-(intOf i).toNat)
   case atStart=>exact .inl ⟨rfl,rfl⟩
   case round=>
    rcases hrel with⟨rfl,rfl⟩|⟨rfl,HL⟩
    · go_wp2_with fail
      refine CT.out.mono ?_
      rintro e w2 ⟨y1,y2,lv2,av2,L1,L2,xs2,rfl,q1,q2,q3,q4,q5,q6,q7,q8,q9,q10,q11,q12,_,_⟩
      obtain⟨ya,yc,rfl⟩: ∃ a c,y1= .slice a L1.length c:=owns_val q6
      obtain⟨yb,yd,rfl⟩: ∃ a c,y2= .slice a L2.length c:=owns_val q7
      have z2:=q3.size
      simp only[World.size_alloc]at z2 q4 q5 q6 q7
      have C2:=Lib.hid (C0.out.call HP.out (by simp) q1 q2 q3 (by simpa using q4) (by simpa using q5))
      have O2b:=q3.box (Box.new' (by simp):Box _ (w.heap.size+1+1) #[.slice none 0 0,.slice none 0 0,.bool false] 237) (C0.out.new HP.out _ (by omega) (by omega))
      have Y1:Hid (IntsO w2 (w.heap.size+3) (.slice ya L1.length yc) L1):=Lib.hid (owns_lo q6 (by omega))
      have Y2:Hid (IntsO w2 (w.heap.size+3) (.slice yb L2.length yd) L2):=Lib.hid (owns_lo q7 (by omega))
      have HE:=Lib.hid (And.intro q8 (And.intro q9 q12))
      have FX2:=C2.out.pc.facts
      have FO2:=O2b.facts
      have HX2:=Lib.hid O2b
      have hne2:w.heap.size+1+1≠w2.heap.size:=by omega
      have hne3:w.heap.size+1≠w2.heap.size:=by omega
      clear q1 q2 q3 q4 q5 q6 q7 q8 q9 q12 CT FX0 FM0 C0 O2b
      cases yn
      · go_wp2_with fail
        go_roundw
        case rel=>
         refine .inr ⟨rfl,Lib.hid ⟨lv2,av2,.slice ya L1.length yc,.slice yb L2.length yd,L1,L2,xs2,?_,?_,?_,?_,HE.out.1,HE.out.2.1,by omega,by omega,HE.out.2.2⟩⟩
         · exact((C2.out.set3 HX2.out zb (.slice ya L1.length yc) (.slice yb L2.length yd) (.bool false)).set (((HX2.out.set 0 _).set 1 _).set 2 _) zb 2 _).fr ((Fr.refl _).alloc _)
         · exact Box.as (((((HX2.out.set 0 _).set 1 _).set 2 _).set 2 _).alloc _) (by simp)
         · exact((Y1.out.set3 HX2.out (by decide) (Nat.le_refl _) _ _ _).setb (((HX2.out.set 0 _).set 1 _).set 2 _) (by decide) _).fr ((Fr.refl _).alloc _)
         · exact((Y2.out.set3 HX2.out (by decide) (Nat.le_refl _) _ _ _).setb (((HX2.out.set 0 _).set 1 _).set 2 _) (by decide) _).fr ((Fr.refl _).alloc _)
        case measure=>first|(focus(simp[intOf];done))|(simp[intOf];omega)
      · go_wp2_with fail
        go_roundw
        case rel=>
         refine .inr ⟨rfl,Lib.hid ⟨lv2,av2,.slice ya L1.length yc,.slice yb L2.length yd,L1,L2,xs2,?_,?_,?_,?_,HE.out.1,HE.out.2.1,by omega,by omega,HE.out.2.2⟩⟩
         · exact((C2.out.set3 HX2.out zb (.slice ya L1.length yc) (.slice yb L2.length yd) (.bool true)).set (((HX2.out.set 0 _).set 1 _).set 2 _) zb 2 _).fr ((Fr.refl _).alloc _)
         · exact Box.as (((((HX2.out.set 0 _).set 1 _).set 2 _).set 2 _).alloc _) (by simp)
         · exact((Y1.out.set3 HX2.out (by decide) (Nat.le_refl _) _ _ _).setb (((HX2.out.set 0 _).set 1 _).set 2 _) (by decide) _).fr ((Fr.refl _).alloc _)
         · exact((Y2.out.set3 HX2.out (by decide) (Nat.le_refl _) _ _ _).setb (((HX2.out.set 0 _).set 1 _).set 2 _) (by decide) _).fr ((Fr.refl _).alloc _)
        case measure=>first|(focus(simp[intOf];done))|(simp[intOf];omega)
    · obtain⟨lv',av',o1,o2,O1,O2,xs',HL⟩:=HL.out
      obtain⟨oa1,oc1,rfl⟩: ∃ a c,o1= .slice a O1.length c:=owns_val HL.r1
      obtain⟨oa2,oc2,rfl⟩: ∃ a c,o2= .slice a O2.length c:=owns_val HL.r2
      have HL:=Lib.hid HL
      have zr:w.heap.size+1+1<wr.heap.size:=HL.out.out.lt
      have FX:=HL.out.co.pc.facts
      have FM:=HL.out.co.st.box.facts
      have FO:=HL.out.out.facts
      have FR3:=HL.out.co.res.facts
      have hNN:=HL.out.co.new HP.out w.heap.size (Nat.le_refl _) (by omega)
      go_wp2_with fail
      refine bodyPost_ret (v:= .agg #[.slice oa1 O1.length oc1,.slice oa2 O2.length oc2,.bool true]) (by simp[results,Tryz.results190,go_sem, *]) rfl ?_
      have st3:=HL.out.co.st.set3 (c:=w.heap.size) hb1 (fun e=>hNN (.inr e)) (owns_box HL.out.co.st.arcs HL.out.co.res (by decide)) (.slice oa1 O1.length oc1) (.slice oa2 O2.length oc2) (.bool true)
      refine⟨_,_,lv',av',O1,O2,xs',by simp,?_,?_,HL.out.co.tch.set3 (.inr (Nat.le_refl _)) _ _ _,HL.out.co.ml.mono (by omega),HL.out.co.ma,HL.out.r1.set3 HL.out.co.res (by decide) (by omega) _ _ _,HL.out.r2.set3 HL.out.co.res (by decide) (by omega) _ _ _,HL.out.i1,HL.out.i2,HL.out.l1,HL.out.l2,HL.out.ap,?_,?_⟩
      · simpa using st3
      · simpa using HL.out.co.arc
      · exact owns_types HL.out.r1 HL.out.co.st.labs (by decide)
      · exact owns_types HL.out.r2 HL.out.co.st.labs (by decide)
end Go.Proofs.YtjnahjgncmcmdaaGreat