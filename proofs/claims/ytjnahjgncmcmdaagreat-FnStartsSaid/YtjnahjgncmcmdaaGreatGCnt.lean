/- Texts in one: Viw, Vix, Viy, Cnt. -/
import Derived.Test.YtjnahjgncmcmdaaGreatGVis
import Derived.RegionTactic
namespace Go.Proofs.YtjnahjgncmcmdaaGreat
open Go.RowKit
set_option linter.unusedVariables false
set_option linter.unusedSimpArgs false
theorem Box.as {w:World} {b:Nat} {X Y:Array Value} {T:TypeId} (h:Box w b X T) (e:X=Y):Box w b Y T:=e▸h
theorem ifB_no (b:Nat→Bool):ifB false b=noB:=rfl
theorem orB_no (a:Nat→Bool):orB a noB=a:=by funext j;simp[orB,noB]
theorem bN_noB:(bN noB:Int)=0:=bN_no
/-! ### loops over kids -/
structure VLp (w:World) (b lo:Nat) (pv lv fv:Value) (s:StD) (wr:World) (lv' fv':Value):Prop where
 st:PosSt wr b lo pv lv' fv' s
 res:Box wr w.heap.size #[.int .u32 0,.int .u32 0,.bool false] 272
 tch:Tch (PB b lv fv) w wr
 ml:Mvd (w.heap.size+3) lv lv'
 mf:Mvd (w.heap.size+3) fv fv'
theorem VLp.new {w:World} {b lo:Nat} {pv lv fv:Value} {s0 s:StD} {wr:World} {lv' fv':Value} (h:VLp w b lo pv lv fv s wr lv' fv') (h0:PosSt w b lo pv lv fv s0): ∀ i,w.heap.size≤i→i<w.heap.size+3→ ¬ PB b lv' fv' i:=by
 rintro i h1 h2 (e|e|e)
 · have:=h0.box.lt;omega
 · have:=owns_old h0.labs i (h.ml.old e h2);omega
 · have:=owns_old h0.fol i (h.mf.old e h2);omega
theorem VLp.call {w:World} {b lo:Nat} {pv lv fv:Value} {s0 s s2:StD} {wr w2:World} {lv' fv' lv2 fv2:Value} (h:VLp w b lo pv lv fv s wr lv' fv') (h0:PosSt w b lo pv lv fv s0) (hz:w.heap.size+3≤wr.heap.size) (q:PosSt w2 b lo pv lv2 fv2 s2) (t:Tch (PB b lv' fv') wr w2) (m1:Mvd wr.heap.size lv' lv2) (m2:Mvd wr.heap.size fv' fv2):VLp w b lo pv lv fv s2 w2 lv2 fv2:=
 ⟨q,t.box h.res (h.new h0 _ (Nat.le_refl _) (by omega)),h.tch.then t (PB.back (h.ml.mono (by omega)) (h.mf.mono (by omega))),h.ml.trans m1 hz,h.mf.trans m2 hz⟩
theorem VLp.fr {w:World} {b lo:Nat} {pv lv fv:Value} {s:StD} {wr w2:World} {lv' fv':Value} (h:VLp w b lo pv lv fv s wr lv' fv') (hf:Fr wr w2):VLp w b lo pv lv fv s w2 lv' fv':=⟨h.st.fr hf,h.res.fr hf,h.tch.fr hf,h.ml,h.mf⟩
theorem VLp.set {w:World} {b lo:Nat} {pv lv fv:Value} {s0 s:StD} {wr:World} {lv' fv':Value} (h:VLp w b lo pv lv fv s wr lv' fv') (h0:PosSt w b lo pv lv fv s0) (i:Nat) (v:Value):VLp w b lo pv lv fv s (wr.setCell ⟨w.heap.size+1+1,i,none⟩ v) lv' fv':=by
 have hn:=h.new h0 (w.heap.size+1+1) (by omega) (by omega)
 exact⟨h.st.set (p:=⟨w.heap.size+1+1,i,none⟩) (fun e=>hn (.inl e.symm)) (fun e=>hn (.inr (.inl e))) (fun e=>hn (.inr (.inr e))) v,h.res.other (p:=⟨w.heap.size+1+1,i,none⟩) (by show w.heap.size≠w.heap.size+1+1;omega) v,h.tch.set (p:=⟨w.heap.size+1+1,i,none⟩) (.inr (by show w.heap.size≤w.heap.size+1+1;omega)) v,h.ml,h.mf⟩
theorem VLp.at0 {w:World} {b lo:Nat} {pv lv fv:Value} {s:StD} (h:PosSt w b lo pv lv fv s) {wr:World} (hf:Fr w wr) (hr:Box wr w.heap.size #[.int .u32 0,.int .u32 0,.bool false] 272):VLp w b lo pv lv fv s wr lv fv:=⟨h.fr hf,hr,Tch.of_fr hf,.inl rfl,.inl rfl⟩
/-- What a loop over the kids of a piece rests on. -/
theorem occK_le (acc:List Nat) (ks:List Int) {j k:Nat} (h:j≤k):occK acc ks j≤occK acc ks k:=by
 induction h with
 |refl=>exact Nat.le_refl _
 |step _ ih=>exact Nat.le_trans ih (Nat.le_add_right _ _)
theorem kid_facts {ps:List PieceD} (hp:pathB ps=true) {f p:Nat} (hpf:p<f+1) (hl:p<ps.length) {s:StD} (hok:StOk s) (hn:s.labs.length+occA ps p≤23) {k:Nat} (hk:k<(nAt ps p).f2.length) (R:Nat→StD×SpD) (hR: ∀ k,k≤(nAt ps p).f2.length→GluOk s (R k) (occK (occL ps p) (nAt ps p).f2 k)):
  ∃ m:Nat,iAt (nAt ps p).f2 k=(m:Int)∧kAt (nAt ps p).f2 k=m∧m<p∧(R k).1.labs.length+occA ps m≤23∧StOk (R k).1∧(∀ j,(R k).2.last j=true→j<(R k).1.labs.length)∧GluOk (R k).1 (glu ps f m (R k).1) (occA ps m):=by
 have hm:=pieceB_kids ((pathB_out hp).2 p hl) k hk
 have hkp:=kAt_lt hp hl hk
 have e1:iAt (nAt ps p).f2 k=((kAt (nAt ps p).f2 k:Nat):Int):=by unfold kAt;omega
 have g:=hR k (by omega)
 have hz:=g.len
 have hle:=occK_le (occL ps p) (nAt ps p).f2 (show k+1≤(nAt ps p).f2.length by omega)
 have ho:occA ps p=occS (occL ps p) (nAt ps p):=occL_at ps hl
 have hka:occA ps (kAt (nAt ps p).f2 k)=nAt (occL ps p) (kAt (nAt ps p).f2 k):=occL_same ps (by omega) hkp
 unfold occS at ho
 rw[occK]at hle
 refine⟨_,e1,rfl,hkp,by rw[hka];omega,hok.glu g,fun j hj=>(g.last j hj).2,glu_ok hp f _ (by omega) (by omega) _⟩
theorem rowR_ok {ps:List PieceD} (hp:pathB ps=true) {f p:Nat} (hpf:p<f+1) (hl:p<ps.length) (s:StD): ∀ k,k≤(nAt ps p).f2.length→GluOk s (rowS (glu ps f) (nAt ps p).f2 s k) (occK (occL ps p) (nAt ps p).f2 k):=fun k hk=>
 rowS_ok s k fun j hj s=>by
  have h1:=kAt_lt hp hl (show j<(nAt ps p).f2.length by omega)
  have h2:=glu_ok hp f (kAt (nAt ps p).f2 j) (by omega) (by omega) s
  unfold occA at h2
  rwa [occL_same ps (m:=p) (by omega) h1]at h2
theorem altR_ok {ps:List PieceD} (hp:pathB ps=true) {f p:Nat} (hpf:p<f+1) (hl:p<ps.length) (s:StD): ∀ k,k≤(nAt ps p).f2.length→GluOk s (altS (glu ps f) (nAt ps p).f2 s k) (occK (occL ps p) (nAt ps p).f2 k):=fun k hk=>
 altS_ok s k fun j hj s=>by
  have h1:=kAt_lt hp hl (show j<(nAt ps p).f2.length by omega)
  have h2:=glu_ok hp f (kAt (nAt ps p).f2 j) (by omega) (by omega) s
  unfold occA at h2
  rwa [occL_same ps (m:=p) (by omega) h1]at h2
theorem or_first (of yf:Nat→Bool) (on:Bool) (h:on=true):bits .or .u32 (bN of:Int) (bN yf:Int)=(bN (orB of (ifB on yf)):Int):=by subst h;exact bN_or of yf
theorem or_last (ol yl:Nat→Bool) (yn:Bool) (h:yn=true):bits .or .u32 (bN ol:Int) (bN yl:Int)=(bN (orB (ifB yn ol) yl):Int):=by subst h;exact bN_or ol yl
theorem or_zero (ol yl:Nat→Bool):bits .or .u32 0 (bN yl:Int)=(bN (orB (ifB false ol) yl):Int):=by
 have:=bN_or (fun _=>false) yl
 rw[bN_no]at this
 rw[this];rfl
set_option maxHeartbeats 8000000 in
set_option maxRecDepth 100000 in
theorem vis_row {ps:List PieceD} (hp:pathB ps=true) {w0:World} {pv:Value} (hv:PiecesR w0 pv ps) (f:Nat) (IH:VisC ps w0 pv f) (b p:Nat) (s:StD) (lv fv:Value) (w:World) (hf0:Fr w0 w) (hlo:w0.heap.size≤b) (h:PosSt w b w0.heap.size pv lv fv s) (hok:StOk s) (hpf:p<f+1) (hl:p<ps.length) (hn:s.labs.length+occA ps p≤23) (h2:(nAt ps p).f0=2):
  Calls Tryz.prog 222 #[.pointer (some ⟨b,0,none⟩),.int .i64 (p:Int)] w fun e w'=>VisQ b w0.heap.size pv lv fv (glu ps (f+1) p s) w e w':=by
 have hps:=(pathB_out hp).1
 obtain⟨bq,oq,cq,a,ba,oa,ca,rfl,hcq,hcm,hbq,c0,c1,c2,hca,hcam,HK⟩:=piece_cells hv hf0 hl
 have HG:Hid (glu ps (f+1) p s=rowS (glu ps f) (nAt ps p).f2 s (nAt ps p).f2.length):=Lib.hid (by rw[glu];simp only[];rw[if_neg (by omega),if_pos h2])
 have KF:=Lib.hid (fun k (hk:k<(nAt ps p).f2.length)=>kid_facts hp hpf hl hok hn hk (rowS (glu ps f) (nAt ps p).f2 s) (rowR_ok hp hpf hl s))
 rw[HG.out]
 obtain⟨x,hxx⟩: ∃ x,nAt ps p=x:=⟨_,rfl⟩
 rw[hxx]at h2 c0 c1 c2 hca HK KF ⊢
 clear hxx HG
 obtain⟨x0,x1,x2⟩:=x
 simp only[]at h2 c0 c1 c2 hca HK KF ⊢
 subst h2
 have hxl:=x1.toNat_lt
 have HP:=Lib.hid h
 have zb:=h.box.lt
 have hb1:b≠w.heap.size:=by omega
 have hb3:w.heap.size≠b:=by omega
 have zf0:=hf0.size
 have hbqw:bq<w.heap.size:=by omega
 have F:=h.box.facts
 have HI:=Lib.hid IH
 clear h IH hok hn
 have R0:Box ((w.alloc (.cells #[.int .u32 0,.int .u32 0,.bool false] 272)).alloc (.cells #[.int .i64 2,.int .u8 (x1.toNat:Int),.slice a x2.length ca] 255)) w.heap.size #[.int .u32 0,.int .u32 0,.bool false] 272:=(Box.new _ _ _).alloc _
 have O0:Box (((w.alloc (.cells #[.int .u32 0,.int .u32 0,.bool false] 272)).alloc (.cells #[.int .i64 2,.int .u8 (x1.toNat:Int),.slice a x2.length ca] 255)).alloc (.cells #[.int .u32 0,.int .u32 0,.bool true] 272)) (w.heap.size+1+1) #[.int .u32 0,.int .u32 0,.bool true] 272:=Box.new' (by simp)
 have V0:=Lib.hid (VLp.at0 HP.out (wr:=((w.alloc (.cells #[.int .u32 0,.int .u32 0,.bool false] 272)).alloc (.cells #[.int .i64 2,.int .u8 (x1.toNat:Int),.slice a x2.length ca] 255)).alloc (.cells #[.int .u32 0,.int .u32 0,.bool true] 272)) (by exact Qf) (R0.alloc _))
 clear R0
 go_enter Tryz.func222,Tryz.ntmps222
 go_wp2_with fail
 go_loopw [65] (fun i wr=> ∃ (k:Nat) (lv' fv':Value),k≤x2.length∧i= .int .i64 k∧Hid (VLp w b w0.heap.size (.slice (some ⟨bq,oq,none⟩) ps.length cq) lv fv (rowS (glu ps f) x2 s k).1 wr lv' fv')∧Box wr (w.heap.size+1+1) (#[.int .u32 (bN (rowS (glu ps f) x2 s k).2.first:Int),.int .u32 (bN (rowS (glu ps f) x2 s k).2.last:Int),.bool (rowS (glu ps f) x2 s k).2.null]) 272) (fun i _=>x2.length-(intOf i).toNat)
 case atStart=>exact⟨0,lv,fv,Nat.zero_le _,rfl,V0,by simpa [rowS,sp0,bN_noB]using O0⟩
 case round=>
  clear V0 O0 c0 c1 c2 F
  obtain⟨k,lv',fv',hk,rfl,HV,HO⟩:=hrel
  have zr:w.heap.size+1+1<wr.heap.size:=HO.lt
  by_cases hlt:k<x2.length
  · obtain⟨m,hm,hkm,hmp,hml,hokm,hlast,hglu⟩:=KF.out k hlt
    have HS:rowS (glu ps f) x2 s (k+1)=(⟨(glu ps f m (rowS (glu ps f) x2 s k).1).1.labs,folJ (glu ps f m (rowS (glu ps f) x2 s k).1).1.fol (rowS (glu ps f) x2 s k).2.last (glu ps f m (rowS (glu ps f) x2 s k).1).2.first⟩,spRow (rowS (glu ps f) x2 s k).2 (glu ps f m (rowS (glu ps f) x2 s k).1).2):=by rw[rowS,hkm]
    obtain⟨S,hS⟩: ∃ S,rowS (glu ps f) x2 s k=S:=⟨_,rfl⟩
    rw[hS]at HS hml hokm hlast hglu HV HO
    obtain⟨S1,⟨of,ol,on⟩⟩:=S
    obtain⟨R,hR⟩: ∃ R,glu ps f m S1=R:=⟨_,rfl⟩
    simp only[]at HS hml hokm hlast hglu HV HO
    rw[hR]at HS hglu
    have hfr:=HV.out.tch.old hf0 (HP.out.lo_ hlo)
    have CT:Calls Tryz.prog 222 #[.pointer (some ⟨b,0,none⟩),.int .i64 (m:Int)] wr fun e w'=>VisQ b w0.heap.size (.slice (some ⟨bq,oq,none⟩) ps.length cq) lv' fv' R wr e w':=by
     have:=HI.out b m S1 lv' fv' wr hfr hlo HV.out.st hokm (by omega) (by omega) hml
     rw[hR]at this
     exact this
    have hg1:=hglu.len
    have hg2:=hglu.first
    have CT:=Lib.hid CT
    obtain⟨⟨R1,R2⟩,⟨yf,yl,yn⟩⟩:=R
    simp only[]at hg1 hg2
    have HS:=Lib.hid HS
    have HLA:=Lib.hid hlast
    obtain⟨rfl,hba,fa⟩:=HK.out (by omega)
    have ck:=(hfr.cell (p:=⟨ba,_,none⟩) hba).trans (fa k hlt)
    rw[hm]at ck
    clear hm hkm hS hR hlast hglu hg2 fa hokm
    go_wp2_with fail
    refine CT.out.mono ?_
    rintro e w2 ⟨rfl,lv2,fv2,q1,q2,q3,q4⟩
    have V2:=Lib.hid (HV.out.call HP.out (by omega) q1 q2 q3 q4)
    have O2:=q2.box HO (HV.out.new HP.out _ (by omega) (by omega))
    have z2:=q2.size
    have hb2:b<w2.heap.size:=q1.box.lt
    have hne2:w.heap.size+1+1≠w2.heap.size:=by omega
    have FO2:=O2.facts
    clear q1 q2 q3 q4 HO HV CT
    go_wp2_with fail
    refine(connect_any b w0.heap.size _ lv2 fv2 ⟨R1,R2⟩ ol yf _ (V2.out.st.fr (by exact Qf)) (fun j hj=>by have:=HLA.out j hj;show j<R1.length;omega) (by show R1.length≤24;omega)).mono ?_
    rintro e w3 ⟨rfl,q5,q6⟩
    have V3:=Lib.hid ((V2.out.fr (w2:=w2.alloc (.cells #[.int .u32 (bN yf:Int),.int .u32 (bN yl:Int),.bool yn] 272)) (by exact Qf)).call HP.out (by simp;omega) q5 q6 (.inl rfl) (.inl rfl))
    have O3:=q6.box (O2.alloc _) (V2.out.new HP.out _ (by omega) (by omega))
    have K3:Box w3 w2.heap.size #[.int .u32 (bN yf:Int),.int .u32 (bN yl:Int),.bool yn] 272:=q6.box (Box.new' rfl) (fun e=>by have:=V2.out.st.old _ e;omega)
    have FO3:=O3.facts
    have FK3:=K3.facts
    have z3:=q6.size
    simp only[World.size_alloc]at z3
    clear q5 q6 FO2 O2 V2
    cases on<;>cases yn
    · have e2:=or_zero ol yl
      go_wp2_with fail
      go_roundw
      case rel=>
       refine⟨k+1,lv2,fv2,by omega,by go_num,Lib.hid (by rw[HS.out];exact(((V3.out.set HP.out 1 _).set HP.out 1 _).set HP.out 2 _)),?_⟩
       rw[HS.out]
       exact Box.as (((O3.set 1 _).set 1 _).set 2 _) (by simp[spRow,ifB_no,orB_no])
      case measure=>(simp[intOf];omega)
    · have e2:=or_last ol yl true rfl
      go_wp2_with fail
      go_roundw
      case rel=>
       refine⟨k+1,lv2,fv2,by omega,by go_num,Lib.hid (by rw[HS.out];exact((V3.out.set HP.out 1 _).set HP.out 2 _)),?_⟩
       rw[HS.out]
       exact Box.as ((O3.set 1 _).set 2 _) (by simp[spRow,ifB_no,orB_no])
      case measure=>(simp[intOf];omega)
    · have e1:=or_first of yf true rfl
      have e2:=or_zero ol yl
      go_wp2_with fail
      go_roundw
      case rel=>
       refine⟨k+1,lv2,fv2,by omega,by go_num,Lib.hid (by rw[HS.out];exact((((V3.out.set HP.out 0 _).set HP.out 1 _).set HP.out 1 _).set HP.out 2 _)),?_⟩
       rw[HS.out]
       exact Box.as ((((O3.set 0 _).set 1 _).set 1 _).set 2 _) (by simp[spRow])
      case measure=>(simp[intOf];omega)
    · have e1:=or_first of yf true rfl
      have e2:=or_last ol yl true rfl
      go_wp2_with fail
      go_roundw
      case rel=>
       refine⟨k+1,lv2,fv2,by omega,by go_num,Lib.hid (by rw[HS.out];exact(((V3.out.set HP.out 0 _).set HP.out 1 _).set HP.out 2 _)),?_⟩
       rw[HS.out]
       exact Box.as (((O3.set 0 _).set 1 _).set 2 _) (by simp[spRow])
      case measure=>(simp[intOf];omega)
  · obtain rfl:k=x2.length:=by omega
    obtain⟨S,hS⟩: ∃ S,rowS (glu ps f) x2 s x2.length=S:=⟨_,rfl⟩
    rw[hS]at HV HO
    obtain⟨S1,⟨of,ol,on⟩⟩:=S
    have HS:=Lib.hid hS
    clear hS KF HI HK
    have FO:=HO.facts
    have FR3:=HV.out.res.facts
    have hNN:=HV.out.new HP.out w.heap.size (Nat.le_refl _) (by omega)
    go_wp2_with fail
    refine bodyPost_ret (v:= .agg #[.int .u32 (bN of:Int),.int .u32 (bN ol:Int),.bool on]) (by simp[results,Tryz.results222,go_sem, *]) rfl ⟨by rw[HS.out],lv',fv',?_,?_,?_,?_⟩
    · rw[HS.out];exact HV.out.st.set3 hb1 (fun e=>hNN (.inr (.inl e))) (fun e=>hNN (.inr (.inr e))) _ _ _
    · exact HV.out.tch.set3 (.inr (Nat.le_refl _)) _ _ _
    · exact HV.out.ml.mono (by omega)
    · exact HV.out.mf.mono (by omega)
set_option maxHeartbeats 8000000 in
set_option maxRecDepth 100000 in
theorem vis_alt {ps:List PieceD} (hp:pathB ps=true) {w0:World} {pv:Value} (hv:PiecesR w0 pv ps) (f:Nat) (IH:VisC ps w0 pv f) (b p:Nat) (s:StD) (lv fv:Value) (w:World) (hf0:Fr w0 w) (hlo:w0.heap.size≤b) (h:PosSt w b w0.heap.size pv lv fv s) (hok:StOk s) (hpf:p<f+1) (hl:p<ps.length) (hn:s.labs.length+occA ps p≤23) (h2:(nAt ps p).f0=3):
  Calls Tryz.prog 222 #[.pointer (some ⟨b,0,none⟩),.int .i64 (p:Int)] w fun e w'=>VisQ b w0.heap.size pv lv fv (glu ps (f+1) p s) w e w':=by
 have hps:=(pathB_out hp).1
 obtain⟨bq,oq,cq,a,ba,oa,ca,rfl,hcq,hcm,hbq,c0,c1,c2,hca,hcam,HK⟩:=piece_cells hv hf0 hl
 have HG:Hid (glu ps (f+1) p s=altS (glu ps f) (nAt ps p).f2 s (nAt ps p).f2.length):=Lib.hid (by rw[glu];simp only[];rw[if_neg (by omega),if_neg (by omega),if_pos h2])
 have KF:=Lib.hid (fun k (hk:k<(nAt ps p).f2.length)=>kid_facts hp hpf hl hok hn hk (altS (glu ps f) (nAt ps p).f2 s) (altR_ok hp hpf hl s))
 rw[HG.out]
 obtain⟨x,hxx⟩: ∃ x,nAt ps p=x:=⟨_,rfl⟩
 rw[hxx]at h2 c0 c1 c2 hca HK KF ⊢
 clear hxx HG
 obtain⟨x0,x1,x2⟩:=x
 simp only[]at h2 c0 c1 c2 hca HK KF ⊢
 subst h2
 have hxl:=x1.toNat_lt
 have HP:=Lib.hid h
 have zb:=h.box.lt
 have hb1:b≠w.heap.size:=by omega
 have hb3:w.heap.size≠b:=by omega
 have zf0:=hf0.size
 have hbqw:bq<w.heap.size:=by omega
 have F:=h.box.facts
 have HI:=Lib.hid IH
 clear h IH hok hn
 have R0:Box ((w.alloc (.cells #[.int .u32 0,.int .u32 0,.bool false] 272)).alloc (.cells #[.int .i64 3,.int .u8 (x1.toNat:Int),.slice a x2.length ca] 255)) w.heap.size #[.int .u32 0,.int .u32 0,.bool false] 272:=(Box.new _ _ _).alloc _
 have O0:Box (((w.alloc (.cells #[.int .u32 0,.int .u32 0,.bool false] 272)).alloc (.cells #[.int .i64 3,.int .u8 (x1.toNat:Int),.slice a x2.length ca] 255)).alloc (.cells #[.int .u32 0,.int .u32 0,.bool false] 272)) (w.heap.size+1+1) #[.int .u32 0,.int .u32 0,.bool false] 272:=Box.new' (by simp)
 have V0:=Lib.hid (VLp.at0 HP.out (wr:=((w.alloc (.cells #[.int .u32 0,.int .u32 0,.bool false] 272)).alloc (.cells #[.int .i64 3,.int .u8 (x1.toNat:Int),.slice a x2.length ca] 255)).alloc (.cells #[.int .u32 0,.int .u32 0,.bool false] 272)) (by exact Qf) (R0.alloc _))
 clear R0
 go_enter Tryz.func222,Tryz.ntmps222
 go_wp2_with fail
 go_loopw [110] (fun i wr=> ∃ (k:Nat) (lv' fv':Value),k≤x2.length∧i= .int .i64 k∧Hid (VLp w b w0.heap.size (.slice (some ⟨bq,oq,none⟩) ps.length cq) lv fv (altS (glu ps f) x2 s k).1 wr lv' fv')∧Box wr (w.heap.size+1+1) (#[.int .u32 (bN (altS (glu ps f) x2 s k).2.first:Int),.int .u32 (bN (altS (glu ps f) x2 s k).2.last:Int),.bool (altS (glu ps f) x2 s k).2.null]) 272) (fun i _=>x2.length-(intOf i).toNat)
 case atStart=>exact⟨0,lv,fv,Nat.zero_le _,rfl,V0,by simpa [altS,sp0,bN_noB]using O0⟩
 case round=>
  clear V0 O0 c0 c1 c2 F
  obtain⟨k,lv',fv',hk,rfl,HV,HO⟩:=hrel
  have zr:w.heap.size+1+1<wr.heap.size:=HO.lt
  by_cases hlt:k<x2.length
  · obtain⟨m,hm,hkm,hmp,hml,hokm,hlast,hglu⟩:=KF.out k hlt
    have HS:altS (glu ps f) x2 s (k+1)=((glu ps f m (altS (glu ps f) x2 s k).1).1,spAlt (altS (glu ps f) x2 s k).2 (glu ps f m (altS (glu ps f) x2 s k).1).2):=by rw[altS,hkm]
    obtain⟨S,hS⟩: ∃ S,altS (glu ps f) x2 s k=S:=⟨_,rfl⟩
    rw[hS]at HS hml hokm hlast hglu HV HO
    obtain⟨S1,⟨of,ol,on⟩⟩:=S
    obtain⟨R,hR⟩: ∃ R,glu ps f m S1=R:=⟨_,rfl⟩
    simp only[]at HS hml hokm hlast hglu HV HO
    rw[hR]at HS hglu
    have hfr:=HV.out.tch.old hf0 (HP.out.lo_ hlo)
    have CT:Calls Tryz.prog 222 #[.pointer (some ⟨b,0,none⟩),.int .i64 (m:Int)] wr fun e w'=>VisQ b w0.heap.size (.slice (some ⟨bq,oq,none⟩) ps.length cq) lv' fv' R wr e w':=by
     have:=HI.out b m S1 lv' fv' wr hfr hlo HV.out.st hokm (by omega) (by omega) hml
     rw[hR]at this
     exact this
    have hg1:=hglu.len
    have hg2:=hglu.first
    have CT:=Lib.hid CT
    obtain⟨⟨R1,R2⟩,⟨yf,yl,yn⟩⟩:=R
    simp only[]at hg1 hg2
    have HS:=Lib.hid HS
    have HLA:=Lib.hid hlast
    obtain⟨rfl,hba,fa⟩:=HK.out (by omega)
    have ck:=(hfr.cell (p:=⟨ba,_,none⟩) hba).trans (fa k hlt)
    rw[hm]at ck
    clear hm hkm hS hR hlast hglu hg2 fa hokm
    go_wp2_with fail
    refine CT.out.mono ?_
    rintro e w2 ⟨rfl,lv2,fv2,q1,q2,q3,q4⟩
    have V2:=Lib.hid (HV.out.call HP.out (by omega) q1 q2 q3 q4)
    have O2:=q2.box HO (HV.out.new HP.out _ (by omega) (by omega))
    have z2:=q2.size
    have hb2:b<w2.heap.size:=q1.box.lt
    have hne2:w.heap.size+1+1≠w2.heap.size:=by omega
    have FO2:=O2.facts
    clear q1 q2 q3 q4 HO HV CT
    have e1:bits .or .u32 (bN of:Int) (bN yf:Int)=(bN (orB of yf):Int):=bN_or of yf
    have e2:bits .or .u32 (bN ol:Int) (bN yl:Int)=(bN (orB ol yl):Int):=bN_or ol yl
    cases on<;>cases yn
    · go_wp2_with fail
      go_roundw
      case rel=>
       refine⟨k+1,lv2,fv2,by omega,by go_num,Lib.hid (by rw[HS.out];exact(((V2.out.set HP.out 0 _).set HP.out 1 _).set HP.out 2 _).fr ((Fr.refl _).alloc _)),?_⟩
       rw[HS.out]
       exact Box.as ((((O2.set 0 _).set 1 _).set 2 _).alloc _) (by simp[spAlt])
      case measure=>(simp[intOf];omega)
    · go_wp2_with fail
      go_roundw
      case rel=>
       refine⟨k+1,lv2,fv2,by omega,by go_num,Lib.hid (by rw[HS.out];exact(((V2.out.set HP.out 0 _).set HP.out 1 _).set HP.out 2 _).fr ((Fr.refl _).alloc _)),?_⟩
       rw[HS.out]
       exact Box.as ((((O2.set 0 _).set 1 _).set 2 _).alloc _) (by simp[spAlt])
      case measure=>(simp[intOf];omega)
    · go_wp2_with fail
      go_roundw
      case rel=>
       refine⟨k+1,lv2,fv2,by omega,by go_num,Lib.hid (by rw[HS.out];exact(((V2.out.set HP.out 0 _).set HP.out 1 _).set HP.out 2 _).fr ((Fr.refl _).alloc _)),?_⟩
       rw[HS.out]
       exact Box.as ((((O2.set 0 _).set 1 _).set 2 _).alloc _) (by simp[spAlt])
      case measure=>(simp[intOf];omega)
    · go_wp2_with fail
      go_roundw
      case rel=>
       refine⟨k+1,lv2,fv2,by omega,by go_num,Lib.hid (by rw[HS.out];exact(((V2.out.set HP.out 0 _).set HP.out 1 _).set HP.out 2 _).fr ((Fr.refl _).alloc _)),?_⟩
       rw[HS.out]
       exact Box.as ((((O2.set 0 _).set 1 _).set 2 _).alloc _) (by simp[spAlt])
      case measure=>(simp[intOf];omega)
  · obtain rfl:k=x2.length:=by omega
    obtain⟨S,hS⟩: ∃ S,altS (glu ps f) x2 s x2.length=S:=⟨_,rfl⟩
    rw[hS]at HV HO
    obtain⟨S1,⟨of,ol,on⟩⟩:=S
    have HS:=Lib.hid hS
    clear hS KF HI HK
    have FO:=HO.facts
    have FR3:=HV.out.res.facts
    have hNN:=HV.out.new HP.out w.heap.size (Nat.le_refl _) (by omega)
    go_wp2_with fail
    refine bodyPost_ret (v:= .agg #[.int .u32 (bN of:Int),.int .u32 (bN ol:Int),.bool on]) (by simp[results,Tryz.results222,go_sem, *]) rfl ⟨by rw[HS.out],lv',fv',?_,?_,?_,?_⟩
    · rw[HS.out];exact HV.out.st.set3 hb1 (fun e=>hNN (.inr (.inl e))) (fun e=>hNN (.inr (.inr e))) _ _ _
    · exact HV.out.tch.set3 (.inr (Nat.le_refl _)) _ _ _
    · exact HV.out.ml.mono (by omega)
    · exact HV.out.mf.mono (by omega)
set_option maxHeartbeats 8000000 in
set_option maxRecDepth 100000 in
theorem vis_post {ps:List PieceD} (hp:pathB ps=true) {w0:World} {pv:Value} (hv:PiecesR w0 pv ps) (f:Nat) (IH:VisC ps w0 pv f) (b p:Nat) (s:StD) (lv fv:Value) (w:World) (hf0:Fr w0 w) (hlo:w0.heap.size≤b) (h:PosSt w b w0.heap.size pv lv fv s) (hok:StOk s) (hpf:p<f+1) (hl:p<ps.length) (hn:s.labs.length+occA ps p≤23) (h1:(nAt ps p).f0≠1) (h2:(nAt ps p).f0≠2) (h3:(nAt ps p).f0≠3):
  Calls Tryz.prog 222 #[.pointer (some ⟨b,0,none⟩),.int .i64 (p:Int)] w fun e w'=>VisQ b w0.heap.size pv lv fv (glu ps (f+1) p s) w e w':=by
 have hps:=(pathB_out hp).1
 obtain⟨hl1,hop⟩:=pieceB_one ((pathB_out hp).2 p hl) h1 h2 h3
 obtain⟨bq,oq,cq,a,ba,oa,ca,rfl,hcq,hcm,hbq,c0,c1,c2,hca,hcam,HK⟩:=piece_cells hv hf0 hl
 have HG:Hid (glu ps (f+1) p s=(⟨(glu ps f (kAt (nAt ps p).f2 0) s).1.labs,if(nAt ps p).f0=6 then(glu ps f (kAt (nAt ps p).f2 0) s).1.fol else folJ (glu ps f (kAt (nAt ps p).f2 0) s).1.fol (glu ps f (kAt (nAt ps p).f2 0) s).2.last (glu ps f (kAt (nAt ps p).f2 0) s).2.first⟩,⟨(glu ps f (kAt (nAt ps p).f2 0) s).2.first,(glu ps f (kAt (nAt ps p).f2 0) s).2.last,(glu ps f (kAt (nAt ps p).f2 0) s).2.null||decide ((nAt ps p).f0≠5)⟩)):=Lib.hid (by rw[glu];simp only[];rw[if_neg h1,if_neg h2,if_neg h3])
 obtain⟨m,hm,hkm,hmp,hml,hokm,hlast,hglu⟩:=kid_facts hp hpf hl hok hn (k:=0) (by omega) (fun k=>altS (glu ps f) (nAt ps p).f2 s k) (altR_ok hp hpf hl s)
 simp only[altS]at hml hokm hglu
 rw[hkm]at HG
 rw[HG.out]
 have CT:=IH b m s lv fv
 obtain⟨x,hxx⟩: ∃ x,nAt ps p=x:=⟨_,rfl⟩
 rw[hxx]at h1 h2 h3 c0 c1 c2 hca HK hop hl1 hm ⊢
 obtain⟨R,hR⟩: ∃ R,glu ps f m s=R:=⟨_,rfl⟩
 rw[hR]at CT hglu ⊢
 clear hxx HG hkm hR
 obtain⟨x0,x1,x2⟩:=x
 simp only[]at h1 h2 h3 c0 c1 c2 hca HK hop hl1 hm ⊢
 obtain⟨k0,rfl⟩: ∃ k0,x2=[k0]:=by
  match x2,hl1 with
  |[k0],_=>exact⟨k0,rfl⟩
 obtain rfl:k0=(m:Int):=by simpa [iAt]using hm
 obtain⟨rfl,hba,fa⟩:=HK.out (by simp)
 have ck:w.cell? ⟨ba,oa,none⟩=some (.int .i64 (m:Int)):=by simpa [iAt]using (hf0.cell (p:=⟨ba,_,none⟩) hba).trans (fa 0 (by simp))
 have hg1:=hglu.len
 have hg2:R.1.labs.length≤23:=by omega
 have HLA:=Lib.hid (fun j hj=>(hglu.last j hj).2)
 have hxl:=x1.toNat_lt
 have HP:=Lib.hid h
 have zb:=h.box.lt
 have hb1:b≠w.heap.size:=by omega
 have hb3:w.heap.size≠b:=by omega
 have zf0:=hf0.size
 have hbqw:bq<w.heap.size:=by omega
 have hbaw:ba<w.heap.size:=by omega
 have hbaw2:ba<w.heap.size+1:=by omega
 have F:=h.box.facts
 have CT:=Lib.hid (CT _ (hf0.trans (show Fr w ((w.alloc (.cells #[.int .u32 0,.int .u32 0,.bool false] 272)).alloc (.cells #[.int .i64 x0,.int .u8 (x1.toNat:Int),.slice (some ⟨ba,oa,none⟩) 1 ca] 255)) by exact Qf)) hlo (h.fr (by exact Qf)) hok (by omega) (by omega) hml)
 have R0:Box ((w.alloc (.cells #[.int .u32 0,.int .u32 0,.bool false] 272)).alloc (.cells #[.int .i64 x0,.int .u8 (x1.toNat:Int),.slice (some ⟨ba,oa,none⟩) 1 ca] 255)) w.heap.size #[.int .u32 0,.int .u32 0,.bool false] 272:=(Box.new _ _ _).alloc _
 have X0:Box ((w.alloc (.cells #[.int .u32 0,.int .u32 0,.bool false] 272)).alloc (.cells #[.int .i64 x0,.int .u8 (x1.toNat:Int),.slice (some ⟨ba,oa,none⟩) 1 ca] 255)) (w.heap.size+1) #[.int .i64 x0,.int .u8 (x1.toNat:Int),.slice (some ⟨ba,oa,none⟩) 1 ca] 255:=Box.new' (by simp)
 have T0:Tch (PB b lv fv) w ((w.alloc (.cells #[.int .u32 0,.int .u32 0,.bool false] 272)).alloc (.cells #[.int .i64 x0,.int .u8 (x1.toNat:Int),.slice (some ⟨ba,oa,none⟩) 1 ca] 255)):=Tch.of_fr (by exact Qf)
 have HO:=Lib.hid (fun i (q:PB b lv fv i)=>h.old i q)
 clear h IH hok hn fa hm hglu hlast hokm hml HK
 obtain⟨⟨R1,R2⟩,⟨yf,yl,yn⟩⟩:=R
 simp only[]at hg1 hg2 HLA ⊢
 have HR0:=Lib.hid R0
 have HX0:=Lib.hid X0
 have HT0:=Lib.hid T0
 clear R0 X0 T0
 rcases hop with rfl|rfl|rfl
 · go_enter Tryz.func222,Tryz.ntmps222
   go_wp2_with fail
   refine CT.out.mono ?_
   rintro e w2 ⟨rfl,lv2,fv2,q1,q2,q3,q4⟩
   simp only[World.size_alloc]at q3 q4
   have z2:=q2.size
   simp only[World.size_alloc]at z2
   have hb2:b<w2.heap.size:=q1.box.lt
   have R2b:=q2.box HR0.out (fun e=>by have:=HO.out _ e;omega)
   have X2b:=q2.box HX0.out (fun e=>by have:=HO.out _ e;omega)
   have T2:=Lib.hid (HT0.out.trans q2)
   have M1:=Lib.hid (q3.mono (m:=w.heap.size) (by omega));have M2:=Lib.hid (q4.mono (m:=w.heap.size) (by omega))
   have hN2: ¬ PB b lv2 fv2 w2.heap.size:=fun e=>by have:=q1.old _ e;omega
   have hN0: ¬ PB b lv2 fv2 w.heap.size:=fun e=>by have:=HO.out _ (PB.back q3 q4 _ (by omega) e);omega
   have hN1: ¬ PB b lv2 fv2 (w.heap.size+1):=fun e=>by have:=HO.out _ (PB.back q3 q4 _ (by omega) e);omega
   have P2:=Lib.hid q1
   have FR2:=R2b.facts;have FX2:=X2b.facts
   have hne2:w.heap.size≠w2.heap.size:=by omega
   have hne3:w.heap.size+1≠w2.heap.size:=by omega
   have BK: ∀ i,i<w.heap.size→PB b lv2 fv2 i→PB b lv fv i:=fun i hi e=>PB.back q3 q4 i (by omega) e
   clear q1 q2 q3 q4 CT HT0
   go_wp2_with fail
   refine(connect_any b w0.heap.size _ lv2 fv2 ⟨R1,R2⟩ yl yf _ (P2.out.fr (by exact Qf)) (fun j hj=>HLA.out j hj) (by show R1.length≤24;omega)).mono ?_
   rintro e w3 ⟨rfl,q5,q6⟩
   have K3:Box w3 w2.heap.size #[.int .u32 (bN yf:Int),.int .u32 (bN yl:Int),.bool yn] 272:=q6.box (Box.new' rfl) hN2
   have R3:=q6.box (R2b.alloc _) hN0
   have X3:=q6.box (X2b.alloc _) hN1
   have T3:=Lib.hid ((T2.out.fr (w'':=w2.alloc (.cells #[.int .u32 (bN yf:Int),.int .u32 (bN yl:Int),.bool yn] 272)) (by exact Qf)).then q6 BK)
   have P3:=Lib.hid q5
   have FK3:=K3.facts;have FR3:=R3.facts;have FX3:=X3.facts
   clear q5 q6 R2b X2b FR2 FX2 P2 T2
   have hb4:b≠w2.heap.size:=by omega
   cases yn
   · go_wp2_with fail
     refine bodyPost_ret (v:= .agg #[.int .u32 (bN yf:Int),.int .u32 (bN yl:Int),.bool true]) (by simp[results,Tryz.results222,go_sem, *]) rfl ⟨by simp,lv2,fv2,?_,?_,M1.out,M2.out⟩
     · refine PosSt.set3 ?_ hb1 (fun e=>hN0 (.inr (.inl e))) (fun e=>hN0 (.inr (.inr e))) _ _ _
       refine(PosSt.set ?_ (p:=⟨w2.heap.size,2,none⟩) hb4 (fun e=>hN2 (.inr (.inl e))) (fun e=>hN2 (.inr (.inr e))) _).congr (s:=⟨R1,folJ R2 yl yf⟩) rfl (fun i _=>by simp)
       exact P3.out
     · exact(T3.out.set (p:=⟨w2.heap.size,2,none⟩) (.inr (by show w.heap.size≤w2.heap.size;omega)) _).set3 (.inr (Nat.le_refl _)) _ _ _
   · go_wp2_with fail
     refine bodyPost_ret (v:= .agg #[.int .u32 (bN yf:Int),.int .u32 (bN yl:Int),.bool true]) (by simp[results,Tryz.results222,go_sem, *]) rfl ⟨by simp,lv2,fv2,?_,?_,M1.out,M2.out⟩
     · refine PosSt.set3 ?_ hb1 (fun e=>hN0 (.inr (.inl e))) (fun e=>hN0 (.inr (.inr e))) _ _ _
       refine(PosSt.set ?_ (p:=⟨w2.heap.size,2,none⟩) hb4 (fun e=>hN2 (.inr (.inl e))) (fun e=>hN2 (.inr (.inr e))) _).congr (s:=⟨R1,folJ R2 yl yf⟩) rfl (fun i _=>by simp)
       exact P3.out
     · exact(T3.out.set (p:=⟨w2.heap.size,2,none⟩) (.inr (by show w.heap.size≤w2.heap.size;omega)) _).set3 (.inr (Nat.le_refl _)) _ _ _
 · go_enter Tryz.func222,Tryz.ntmps222
   go_wp2_with fail
   refine CT.out.mono ?_
   rintro e w2 ⟨rfl,lv2,fv2,q1,q2,q3,q4⟩
   simp only[World.size_alloc]at q3 q4
   have z2:=q2.size
   simp only[World.size_alloc]at z2
   have hb2:b<w2.heap.size:=q1.box.lt
   have R2b:=q2.box HR0.out (fun e=>by have:=HO.out _ e;omega)
   have X2b:=q2.box HX0.out (fun e=>by have:=HO.out _ e;omega)
   have T2:=Lib.hid (HT0.out.trans q2)
   have M1:=Lib.hid (q3.mono (m:=w.heap.size) (by omega));have M2:=Lib.hid (q4.mono (m:=w.heap.size) (by omega))
   have hN2: ¬ PB b lv2 fv2 w2.heap.size:=fun e=>by have:=q1.old _ e;omega
   have hN0: ¬ PB b lv2 fv2 w.heap.size:=fun e=>by have:=HO.out _ (PB.back q3 q4 _ (by omega) e);omega
   have hN1: ¬ PB b lv2 fv2 (w.heap.size+1):=fun e=>by have:=HO.out _ (PB.back q3 q4 _ (by omega) e);omega
   have P2:=Lib.hid q1
   have FR2:=R2b.facts;have FX2:=X2b.facts
   have hne2:w.heap.size≠w2.heap.size:=by omega
   have hne3:w.heap.size+1≠w2.heap.size:=by omega
   have BK: ∀ i,i<w.heap.size→PB b lv2 fv2 i→PB b lv fv i:=fun i hi e=>PB.back q3 q4 i (by omega) e
   clear q1 q2 q3 q4 CT HT0
   go_wp2_with fail
   refine(connect_any b w0.heap.size _ lv2 fv2 ⟨R1,R2⟩ yl yf _ (P2.out.fr (by exact Qf)) (fun j hj=>HLA.out j hj) (by show R1.length≤24;omega)).mono ?_
   rintro e w3 ⟨rfl,q5,q6⟩
   have K3:Box w3 w2.heap.size #[.int .u32 (bN yf:Int),.int .u32 (bN yl:Int),.bool yn] 272:=q6.box (Box.new' rfl) hN2
   have R3:=q6.box (R2b.alloc _) hN0
   have X3:=q6.box (X2b.alloc _) hN1
   have T3:=Lib.hid ((T2.out.fr (w'':=w2.alloc (.cells #[.int .u32 (bN yf:Int),.int .u32 (bN yl:Int),.bool yn] 272)) (by exact Qf)).then q6 BK)
   have P3:=Lib.hid q5
   have FK3:=K3.facts;have FR3:=R3.facts;have FX3:=X3.facts
   clear q5 q6 R2b X2b FR2 FX2 P2 T2
   have hb4:b≠w2.heap.size:=by omega
   cases yn
   · go_wp2_with fail
     refine bodyPost_ret (v:= .agg #[.int .u32 (bN yf:Int),.int .u32 (bN yl:Int),.bool false]) (by simp[results,Tryz.results222,go_sem, *]) rfl ⟨by simp,lv2,fv2,?_,?_,M1.out,M2.out⟩
     · refine PosSt.set3 ?_ hb1 (fun e=>hN0 (.inr (.inl e))) (fun e=>hN0 (.inr (.inr e))) _ _ _
       refine(PosSt.set ?_ (p:=⟨w2.heap.size,2,none⟩) hb4 (fun e=>hN2 (.inr (.inl e))) (fun e=>hN2 (.inr (.inr e))) _).congr (s:=⟨R1,folJ R2 yl yf⟩) rfl (fun i _=>by simp)
       exact P3.out
     · exact(T3.out.set (p:=⟨w2.heap.size,2,none⟩) (.inr (by show w.heap.size≤w2.heap.size;omega)) _).set3 (.inr (Nat.le_refl _)) _ _ _
   · go_wp2_with fail
     refine bodyPost_ret (v:= .agg #[.int .u32 (bN yf:Int),.int .u32 (bN yl:Int),.bool true]) (by simp[results,Tryz.results222,go_sem, *]) rfl ⟨by simp,lv2,fv2,?_,?_,M1.out,M2.out⟩
     · refine PosSt.set3 ?_ hb1 (fun e=>hN0 (.inr (.inl e))) (fun e=>hN0 (.inr (.inr e))) _ _ _
       refine(PosSt.set ?_ (p:=⟨w2.heap.size,2,none⟩) hb4 (fun e=>hN2 (.inr (.inl e))) (fun e=>hN2 (.inr (.inr e))) _).congr (s:=⟨R1,folJ R2 yl yf⟩) rfl (fun i _=>by simp)
       exact P3.out
     · exact(T3.out.set (p:=⟨w2.heap.size,2,none⟩) (.inr (by show w.heap.size≤w2.heap.size;omega)) _).set3 (.inr (Nat.le_refl _)) _ _ _
 · go_enter Tryz.func222,Tryz.ntmps222
   go_wp2_with fail
   refine CT.out.mono ?_
   rintro e w2 ⟨rfl,lv2,fv2,q1,q2,q3,q4⟩
   simp only[World.size_alloc]at q3 q4
   have z2:=q2.size
   simp only[World.size_alloc]at z2
   have hb2:b<w2.heap.size:=q1.box.lt
   have R2b:=q2.box HR0.out (fun e=>by have:=HO.out _ e;omega)
   have X2b:=q2.box HX0.out (fun e=>by have:=HO.out _ e;omega)
   have T2:=Lib.hid (HT0.out.trans q2)
   have M1:=Lib.hid (q3.mono (m:=w.heap.size) (by omega));have M2:=Lib.hid (q4.mono (m:=w.heap.size) (by omega))
   have hN2: ¬ PB b lv2 fv2 w2.heap.size:=fun e=>by have:=q1.old _ e;omega
   have hN0: ¬ PB b lv2 fv2 w.heap.size:=fun e=>by have:=HO.out _ (PB.back q3 q4 _ (by omega) e);omega
   have hN1: ¬ PB b lv2 fv2 (w.heap.size+1):=fun e=>by have:=HO.out _ (PB.back q3 q4 _ (by omega) e);omega
   have P2:=Lib.hid q1
   have FR2:=R2b.facts;have FX2:=X2b.facts
   have hne2:w.heap.size≠w2.heap.size:=by omega
   have hne3:w.heap.size+1≠w2.heap.size:=by omega
   clear q1 q2 q3 q4 CT HT0
   have hb4:b≠w2.heap.size:=by omega
   cases yn
   · go_wp2_with fail
     refine bodyPost_ret (v:= .agg #[.int .u32 (bN yf:Int),.int .u32 (bN yl:Int),.bool true]) (by simp[results,Tryz.results222,go_sem, *]) rfl ⟨by simp,lv2,fv2,?_,?_,M1.out,M2.out⟩
     · exact(P2.out.set3 hb1 (fun e=>hN0 (.inr (.inl e))) (fun e=>hN0 (.inr (.inr e))) _ _ _).fr ((Fr.refl _).alloc _)
     · exact(T2.out.set3 (.inr (Nat.le_refl _)) _ _ _).fr ((Fr.refl _).alloc _)
   · go_wp2_with fail
     refine bodyPost_ret (v:= .agg #[.int .u32 (bN yf:Int),.int .u32 (bN yl:Int),.bool true]) (by simp[results,Tryz.results222,go_sem, *]) rfl ⟨by simp,lv2,fv2,?_,?_,M1.out,M2.out⟩
     · exact(P2.out.set3 hb1 (fun e=>hN0 (.inr (.inl e))) (fun e=>hN0 (.inr (.inr e))) _ _ _).fr ((Fr.refl _).alloc _)
     · exact(T2.out.set3 (.inr (Nat.le_refl _)) _ _ _).fr ((Fr.refl _).alloc _)
def iCells (n:Nat) (g:Nat→Int):List Value:=(List.range n).map fun j=> .int .i64 (g j)
theorem iCells_len (n:Nat) (g:Nat→Int):(iCells n g).length=n:=by simp[iCells]
theorem iCells_at {n:Nat} {g:Nat→Int} {i:Nat} (h:i<n):(iCells n g)[i]? =some (.int .i64 (g i)):=by simp[iCells,h]
theorem iCells_congr {n:Nat} {g k:Nat→Int} (h: ∀ i,i<n→g i=k i):iCells n g=iCells n k:=by
 unfold iCells
 refine List.map_congr_left fun i hi=>?_
 rw[h i (List.mem_range.1 hi)]
theorem iCells_set (n:Nat) (g:Nat→Int) (i:Nat) (v:Int):(iCells n g).set i (.int .i64 v)=iCells n (fun x=>if x=i then v else g x):=by
 refine List.ext_getElem? fun k=>?_
 rw[List.getElem?_set]
 by_cases hk:k<n
 · rw[iCells_at hk,iCells_at hk,iCells_len]
   by_cases e:i=k
   · subst e
     simp[hk]
   · rw[if_neg e,if_neg (fun h=>e h.symm)]
 · rw[List.getElem?_eq_none (by rw[iCells_len];omega),List.getElem?_eq_none (by rw[iCells_len];omega),iCells_len]
   split
   · rw[if_neg (by omega)]
   · rfl
theorem iCells_no (n:Nat):iCells n (fun _=>0)=List.replicate n (.int .i64 0):=by
 unfold iCells
 exact List.map_const'▸by simp
def CntO (w:World) (lo:Nat) (v:Value) (n:Nat) (g:Nat→Int):Prop:=w.ownsRow lo 3 1 v n (iCells n g)
theorem CntO.fr {w w':World} {lo:Nat} {v:Value} {n:Nat} {g:Nat→Int} (h:CntO w lo v n g) (hf:Fr w w'):CntO w' lo v n g:=owns_fr h hf
theorem CntO.congr {w:World} {lo:Nat} {v:Value} {n:Nat} {g k:Nat→Int} (h:CntO w lo v n g) (e: ∀ i,i<n→g i=k i):CntO w lo v n k:=by
 unfold CntO at h ⊢
 rw[← iCells_congr e]
 exact h
theorem CntO.set {w:World} {lo B cap:Nat} {n:Nat} {g:Nat→Int} (h:CntO w lo (.slice (some ⟨B,0,none⟩) n cap) n g) (i:Nat) (v:Int):CntO (w.setCell ⟨B,i,none⟩ (.int .i64 v)) lo (.slice (some ⟨B,0,none⟩) n cap) n (fun x=>if x=i then v else g x):=by
 have:=(World.ownsRow.stored h i (.int .i64 v)).1
 unfold CntO
 rw[← iCells_set]
 exact this
theorem CntO.cell {w:World} {lo B cap:Nat} {n:Nat} {g:Nat→Int} (h:CntO w lo (.slice (some ⟨B,0,none⟩) n cap) n g) {i:Nat} (hi:i<n):w.cell? ⟨B,i,none⟩=some (.int .i64 (g i)):=(h.cellAt i (by omega)).trans (iCells_at hi)
theorem vis_any {ps:List PieceD} (hp:pathB ps=true) {w0:World} {pv:Value} (hv:PiecesR w0 pv ps): ∀ f,VisC ps w0 pv f:=by
 intro f
 induction f with
 |zero=>intro b p s lv fv w _ _ _ _ h;omega
 |succ f ih=>
  intro b p s lv fv w hf0 hlo h hok hpf hl hn
  by_cases h1:(nAt ps p).f0=1
  · have:occA ps p=1:=by
     unfold occA
     rw[occL_at ps hl,occS,if_pos h1,pieceB_step ((pathB_out hp).2 p hl) h1]
     rfl
    exact vis_step hp hv f b p s lv fv w hf0 h hok hl (by omega) h1
  · by_cases h2:(nAt ps p).f0=2
    · exact vis_row hp hv f ih b p s lv fv w hf0 hlo h hok hpf hl hn h2
    · by_cases h3:(nAt ps p).f0=3
      · exact vis_alt hp hv f ih b p s lv fv w hf0 hlo h hok hpf hl hn h3
      · exact vis_post hp hv f ih b p s lv fv w hf0 hlo h hok hpf hl hn h1 h2 h3
def gO (ps:List PieceD) (k:Nat) (j:Nat):Nat→Int:=fun q=>if q<k then((min (occA ps q) 24:Nat):Int)else if q=k then((min (occK (occL ps k) (nAt ps k).f2 j) 24:Nat):Int)else 0
theorem gO_next {ps:List PieceD} (hp:pathB ps=true) {k:Nat} (hk:k<ps.length) (h1:(nAt ps k).f0≠1) (q:Nat):gO ps k (nAt ps k).f2.length q=gO ps (k+1) 0 q:=by
 unfold gO
 by_cases hq:q<k
 · rw[if_pos hq,if_pos (by omega)]
 · rw[if_neg hq]
   by_cases he:q=k
   · subst he
     rw[if_pos rfl,if_pos (by omega)]
     have:occA ps q=occK (occL ps q) (nAt ps q).f2 (nAt ps q).f2.length:=by
      unfold occA
      rw[occL_at ps hk,occS,if_neg h1,Nat.zero_add]
     rw[this]
   · rw[if_neg he,if_neg (by omega)]
     split
     · simp[occK]
     · rfl
set_option maxHeartbeats 8000000 in
set_option maxRecDepth 100000 in
theorem occurrences_any (pv:Value) (ps:List PieceD) (w:World) (hp:pathB ps=true) (hv:PiecesR w pv ps):
  Calls Tryz.prog 221 #[.agg #[pv]] w fun e w'=>e= .returned (.int .i64 ((min (occA ps (ps.length-1)) 24:Nat):Int))∧Fr w w':=by
 have hps:=(pathB_out hp).1
 obtain⟨i0,hi,hz0,hz1,hz2⟩:=info_parts info_int
 have HV:=Lib.hid hv
 obtain⟨avp,bvp,ovp,cvp,rfl,hcp,hmp,_⟩:=hv.one
 clear hv
 go_enter Tryz.func221,Tryz.ntmps221
 go_wp2_with(at_make;refine wpList_make_full _ rfl _ _ 34 rfl (w.heap.size+1) 3 i0 (.int .i64 0) 1 Tryz.underlying34 hi hz0 hz1 _ _ _ _ ps.length rfl rfl rfl rfl (by rw[hz2];omega) (by unfold maxLen;omega) (by exact Qz) ?_;intro w1 hown hgrow;have HF1:Fr (w.alloc (.cells #[.slice avp ps.length cvp] 140)) w1:=(Fr.refl _).grown hgrow (by simp);have BP1:Box w1 w.heap.size #[.slice avp ps.length cvp] 140:=(Box.new _ _ _).fr HF1;have FB1:=BP1.facts)
 simp only[World.size_alloc]at hown
 rw[show(madeCells (Value.cells (.int .i64 0)) (ps.length*1)).toList=iCells ps.length (fun _=>0)from by rw[iCells_no,Nat.mul_one];exact toList_madeCells_one _ _]at hown
 have HC0:Hid (CntO w1 (w.heap.size+1) (.slice (some ⟨w.heap.size+1,0,none⟩) ps.length ps.length) ps.length (gO ps 0 0)):=Lib.hid (CntO.congr hown fun i hi=>by
  unfold gO
  rw[if_neg (by omega)]
  split
  · simp[occK]
  · rfl)
 clear hown hgrow
 go_loopw [15] (fun i wr=> ∃ k:Nat,k≤ps.length∧i= .int .i64 k∧Hid (CntO wr (w.heap.size+1) (.slice (some ⟨w.heap.size+1,0,none⟩) ps.length ps.length) ps.length (gO ps k 0))∧Fr w wr) (fun i _=>ps.length-(intOf i).toNat)
 case atStart=>exact⟨0,Nat.zero_le _,rfl,HC0,by exact Qf⟩
 case round=>
  clear HC0 HF1 BP1 FB1
  obtain⟨k,hk,rfl,HC,hfr⟩:=hrel
  by_cases hlt:k<ps.length
  · obtain⟨bq,oq,cq,a,ba,oa,ca,hqv,_,_,hbq,c0,c1,c2,hca,hcam,HK⟩:=piece_cells HV.out hfr hlt
    cases hqv
    have HX:=Lib.hid ((pathB_out hp).2 k hlt)
    have GN:=Lib.hid (fun(h1:(nAt ps k).f0≠1) q=>gO_next hp hlt h1 q)
    have zr:=hfr.size
    have hbqw:bq<wr.heap.size:=by omega
    have zc:w.heap.size+1<wr.heap.size:=(World.ownsRow.lt HC.out _ rfl).2
    have hne:w.heap.size+1≠wr.heap.size:=by omega
    have ck:=HC.out.cell hlt
    have fk:=HC.out.frozenAt k
    by_cases h1:(nAt ps k).f0=1
    · have hx2:=pieceB_step HX.out h1
      have HA:Hid (occA ps k=1):=Lib.hid (by unfold occA;rw[occL_at ps hlt,occS,if_pos h1,hx2];rfl)
      have HS:Hid (CntO (wr.setCell ⟨w.heap.size+1,k,none⟩ (.int .i64 1)) (w.heap.size+1) (.slice (some ⟨w.heap.size+1,0,none⟩) ps.length ps.length) ps.length (gO ps (k+1) 0)):=Lib.hid ((CntO.set HC.out k 1).congr fun q hq=>by
       unfold gO
       by_cases e:q=k
       · subst e
         rw[if_pos rfl,if_pos (by omega),HA.out];rfl
       · rw[if_neg e]
         by_cases h:q<k
         · rw[if_pos h,if_pos (by omega)]
         · rw[if_neg h,if_neg e,if_neg (by omega)]
           split
           · simp[occK]
           · rfl)
      rw[hx2]at c2 HK hca
      rw[h1]at c0
      clear h1 hx2 GN HX
      go_wp2_with fail
      go_loopw [29] (fun i wq=>i= .int .i64 0∧Hid (CntO wq (w.heap.size+1) (.slice (some ⟨w.heap.size+1,0,none⟩) ps.length ps.length) ps.length (gO ps (k+1) 0))∧Fr w wq) (fun i _=>0)
      case atStart=>exact⟨rfl,Lib.hid (HS.out.fr (by exact Qf)),by exact Qf⟩
      case round=>
       clear HS HC ck fk
       obtain⟨rfl,HS,hfq⟩:=hrel
       go_wp2_with fail
       go_roundw
       case rel=>exact⟨k+1,by omega,by go_num,HS,hfq⟩
       case measure=>(simp[intOf];omega)
    · obtain⟨n,hN⟩: ∃ n,(nAt ps k).f2.length=n:=⟨_,rfl⟩
      have KF:=Lib.hid (fun j (hj:j<(nAt ps k).f2.length)=>(⟨kAt_lt hp hlt hj,by have:=pieceB_kids HX.out j hj;unfold kAt;omega⟩:kAt (nAt ps k).f2 j<k∧iAt (nAt ps k).f2 j=((kAt (nAt ps k).f2 j:Nat):Int)))
      have q1:((nAt ps k).f0==1)=false:=by simpa using h1
      have GN:=Lib.hid (fun q=>GN.out h1 q)
      clear h1 HX
      obtain⟨x,hx⟩: ∃ x,nAt ps k=x:=⟨_,rfl⟩
      have HXX:=Lib.hid hx
      rw[hx]at c0 c1 c2 hca HK KF GN q1 hN
      clear hx
      obtain⟨x0,x1,x2⟩:=x
      simp only[]at c0 c1 c2 hca HK KF GN q1 hN
      have hxl:=x1.toNat_lt
      subst hN
      go_wp2_with fail
      go_loopw [29] (fun i wq=> ∃ j:Nat,j≤x2.length∧i= .int .i64 j∧Hid (CntO wq (w.heap.size+1) (.slice (some ⟨w.heap.size+1,0,none⟩) ps.length ps.length) ps.length (gO ps k j))∧Fr w wq) (fun i _=>x2.length-(intOf i).toNat)
      case atStart=>exact⟨0,Nat.zero_le _,rfl,Lib.hid (HC.out.fr (by exact Qf)),by exact Qf⟩
      case round=>
       clear HC ck fk
       obtain⟨j,hj,rfl,HC,hfq⟩:=hrel
       by_cases hjl:j<x2.length
       · obtain⟨rfl,hba,fa⟩:=HK.out (by omega)
         obtain⟨hm1,hm2⟩:=KF.out j hjl
         have cj:=(hfq.cell (p:=⟨ba,_,none⟩) hba).trans (fa j hjl)
         rw[hm2]at cj
         obtain⟨m,hm⟩: ∃ m,kAt x2 j=m:=⟨_,rfl⟩
         rw[hm]at cj hm1
         have ck:=HC.out.cell (i:=k) hlt
         have cm:=HC.out.cell (i:=m) (by omega)
         have fk:=HC.out.frozenAt k
         obtain⟨A,hA⟩: ∃ A,min (occK (occL ps k) x2 j) 24=A:=⟨_,rfl⟩
         obtain⟨B,hB⟩: ∃ B,min (occA ps m) 24=B:=⟨_,rfl⟩
         have e1:gO ps k j k=(A:Int):=by unfold gO;rw[if_neg (by omega),if_pos rfl,HXX.out];simp only[];rw[hA]
         have e2:gO ps k j m=(B:Int):=by unfold gO;rw[if_pos hm1,hB]
         rw[e1]at ck
         rw[e2]at cm
         have hA24:A≤24:=by omega
         have hB24:B≤24:=by omega
         have HS:Hid (∀ wq',Fr wr wq'→CntO (wq'.setCell ⟨w.heap.size+1,k,none⟩ (.int .i64 (min ((A:Int)+B) 24))) (w.heap.size+1) (.slice (some ⟨w.heap.size+1,0,none⟩) ps.length ps.length) ps.length (gO ps k (j+1))):=Lib.hid fun wq' hq=>(CntO.set (HC.out.fr hq) k _).congr fun q hq=>by
          unfold gO
          by_cases e:q=k
          · subst e
            rw[if_pos rfl,if_neg (by omega),if_pos rfl,HXX.out]
            simp only[]
            have hz:nAt (occL ps q) m=occA ps m:=occL_same ps hm1 (by omega)
            rw[occK,hm,hz]
            omega
          · simp only[if_neg e]
         have hwr:IntKind.i64.wrap ((A:Int)+B)=(A:Int)+B:=IntWalk.i64_in _ (by omega)
         have zq:=hfq.size
         have zcq:w.heap.size+1<wr.heap.size:=(World.ownsRow.lt HC.out _ rfl).2
         clear hA hB e1 e2 HC fa hm hm2 hwr
         go_wp2_with fail
         go_region
         all_goals
          go_wp2_with fail
          go_roundw
          case rel=>exact⟨j+1,by omega,by go_num,by(refine Lib.hid (HS.out _ ?_);repeat(first|(with_reducible exact Fr.refl _)|(with_reducible assumption)|(with_reducible refine Fr.drewN ?_ _)|(with_reducible refine Fr.drew ?_)|(with_reducible refine Fr.alloc ?_ _)|(with_reducible refine Fr.setCell ?_ (by exact Qz) _)|(with_reducible refine Fr.trans ?_ (by with_reducible assumption)))),by exact Qf⟩
          case measure=>(simp[intOf];omega)
       · obtain rfl:j=x2.length:=by omega
         have HS:=Lib.hid (HC.out.congr fun q hq=>GN.out q)
         clear HC
         go_wp2_with fail
         go_roundw
         case rel=>exact⟨k+1,by omega,by go_num,HS,hfq⟩
         case measure=>(simp[intOf];omega)
  · obtain rfl:k=ps.length:=by omega
    have cl:=HC.out.cell (i:=ps.length-1) (by omega)
    obtain⟨A,hA⟩: ∃ A,((min (occA ps (ps.length-1)) 24:Nat):Int)=A:=⟨_,rfl⟩
    have e1:gO ps ps.length 0 (ps.length-1)=A:=by unfold gO;rw[if_pos (by omega),hA]
    rw[e1]at cl
    have HA:=Lib.hid hA
    have h0:((ps.length:Int)-1).toNat=ps.length-1:=by omega
    clear hA e1
    go_wp2_with fail
    go_ret
    exact⟨ret_int HA.out.symm,hfr⟩
end Go.Proofs.YtjnahjgncmcmdaaGreat