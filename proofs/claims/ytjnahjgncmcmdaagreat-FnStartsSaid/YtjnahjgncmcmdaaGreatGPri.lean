/- Texts in one: Pry, Prz, Pri. -/
import Derived.Test.YtjnahjgncmcmdaaGreatGPrx
namespace Go.Proofs.YtjnahjgncmcmdaaGreat
open Go.RowKit
set_option linter.unusedVariables false
set_option linter.unusedSimpArgs false
def lenV:Value→Nat
 | .slice _ n _=>n
 |_=>0
def AltC (t:ByteArray) (f:Nat):Prop:= ∀ (b lo a:Nat) (v:Value) (us:List Value) (ps:List PieceD) (w:World),Box w b #[.string t,.int .i64 (a:Int),v] 199→b<lo→lo≤w.heap.size→Prd w lo v ps us→a≤t.size→3*(t.size-a)+1≤f→ps.length+2*(t.size-a)≤900→
 Calls Tryz.prog 206 #[.pointer (some ⟨b,0,none⟩)] w (RPost b lo t v us w (prs t f (.alt []) a ps))
def ExprC (t:ByteArray) (f:Nat):Prop:= ∀ (b lo a:Nat) (v:Value) (us:List Value) (ps:List PieceD) (w:World),Box w b #[.string t,.int .i64 (a:Int),v] 199→b<lo→lo≤w.heap.size→Prd w lo v ps us→a≤t.size→3*(t.size-a)+2≤f→ps.length+2*(t.size-a)≤900→
 Calls Tryz.prog 158 #[.pointer (some ⟨b,0,none⟩)] w (RPost b lo t v us w (prs t f (.expr []) a ps))
set_option maxHeartbeats 8000000 in
set_option maxRecDepth 100000 in
theorem expr_any (t:ByteArray) (ht:t.size≤100) (F:Nat) (IH: ∀ f,f<F→AltC t f):ExprC t F:=by
 intro b lo a v us ps w hb hlo hlw hp ha hf hn
 obtain⟨i0,hi,hz0,hz1,hz2⟩:=info_parts info_int
 have HI:=Lib.hid IH
 obtain⟨R,hR⟩: ∃ R,prs t F (.expr []) a ps=R:=⟨_,rfl⟩
 rw[hR]
 have HR:=Lib.hid hR
 have L0:=Lib.hid (Lp.start hb hp)
 clear hb hp IH hR
 go_enter Tryz.func158,Tryz.ntmps158
 go_wp2_with fail
 go_loopw [4,5,6] (fun z _ _ wr=> ∃ (ks:List Int) (a' f':Nat) (v':Value) (us':List Value) (ps':List PieceD) (az:Option Addr) (cz:Nat),z= .slice az ks.length cz∧Hid (Lp b lo a' t v us w (.slice az ks.length cz) ks v' us' ps' wr)∧Hid (prs t f' (.expr ks) a' ps'=R)∧f'≤F∧a'≤t.size∧3*(t.size-a')+2≤f'∧ps'.length+2*(t.size-a')≤900∧ks.length≤a') (fun z _ _ _=>1000-lenV z)
 case atStart=>exact⟨[],a,F,v,us,ps,none,0,rfl,L0,HR,Nat.le_refl _,ha,hf,hn,Nat.zero_le _⟩
 case round=>
  obtain⟨ks,a',f',v',us',ps',az,cz,rfl,L1,H1,hf1,ha1,hf2,hn1,hk1⟩:=hrel
  obtain⟨g,rfl⟩: ∃ g,f'=g+1:=⟨f'-1,by omega⟩
  have H2:=H1.out
  rw[prs]at H2
  have hsz:=L1.out.go.size
  have CA:=HI.out g (by omega) b lo a' v' us' ps'
  cases hE:prs t g (.alt []) a' ps' with
  |none=>
   rw[hE]at H2
   simp only[]at H2
   subst H2
   have CT:Hid (∀ w',Fr wr w'→Calls Tryz.prog 206 #[.pointer (some ⟨b,0,none⟩)] w' fun e w''=>e= .returned (.tuple #[.int .i64 0,.bool false])∧Two b v'.ownBlock w' w''):=Lib.hid fun w' h=>(CA w' (L1.out.box.fr h) hlo (by have:=h.size;omega) (L1.out.prd.fr h) ha1 (by omega) hn1).mono fun e w'' q=>by rw[hE]at q;exact q
   clear CA hE H1
   go_wp2_with fail
   refine(CT.out _ (by exact Qf)).mono ?_
   rintro e w1 ⟨rfl,ht1⟩
   have HT:=Lib.hid ht1
   clear ht1
   go_wp2_with fail
   refine bodyPost_ret (v:= .tuple #[.int .i64 0,.bool false]) (by simp[results,Tryz.results158,go_sem, *]) rfl ⟨rfl,L1.out.go.then HT.out⟩
  |some r=>
   obtain⟨k2,a2,ps2⟩:=r
   rw[hE]at H2
   simp only[]at H2
   have P1:=prs_on t g (.alt []) a' ps' k2 a2 ps2 hE
   have P2:=prs_len t g (.alt []) a' ps' k2 a2 ps2 hE
   have P3:=prs_in t g (.alt []) a' ps' k2 a2 ps2 hE ha1 (fun e=>by cases e)
   simp only[Job.cost]at P2
   have CT:Hid (∀ w',Fr wr w'→Calls Tryz.prog 206 #[.pointer (some ⟨b,0,none⟩)] w' fun e w''=>e= .returned (.tuple #[.int .i64 k2,.bool true])∧ ∃ v2 us2,Lp b lo a2 t v us w (.slice az ks.length cz) ks v2 us2 ps2 w''):=Lib.hid fun w' h=>(CA w' (L1.out.box.fr h) hlo (by have:=h.size;omega) (L1.out.prd.fr h) ha1 (by omega) hn1).mono fun e w'' q=>by rw[hE]at q;exact⟨q.1,(L1.out.fr h).call hlo q.2⟩
   have HP1:=P1.1
   clear CA hE H1 P1
   go_wp2_with fail
   refine(CT.out _ (by exact Qf)).mono ?_
   rintro e w1 ⟨rfl,v2,us2,l2⟩
   have L2:=Lib.hid l2
   clear l2 CT
   have hs2:=L2.out.go.size
   go_wp2_with(at_builtin;(refine wpList_append_rd rfl _ _ 34 rfl lo 3 i0 (.int .i64 0) 1 8 Tryz.underlying34 hi hz0 hz1 hz2 rfl (by decide) (.slice az ks.length cz) ks.length (ks.map (Value.int .i64)) rfl (World.ownsRow.alloc L2.out.row _) _ 1 [.int .i64 k2] rfl (RdS.new (by first|rfl|(simp;done)) rfl) (by simp[Value.oneCell']) (by unfold maxLen;omega) (by omega) (by exact Qz) ?_;intro az' cz' w4 hown hgrow hat))
   have L3:Hid (Lp b lo a2 t v us w (.slice az' (ks.length+1) cz') (ks++[k2]) v2 us2 ps2 w4):=Lib.hid (Lp.app (L2.out.fr (by exact Qf)) hlo hgrow (by simpa [IntsO]using hown) (hat.imp id fun h=>⟨_,h,by simp⟩))
   have hs4:=L3.out.go.size
   have B4:=L3.out.box
   have F4:=B4.facts
   by_cases h124:nx t a2=124
   · have CN:Hid (∀ w',Fr w4 w'→Calls Tryz.prog 207 #[.pointer (some ⟨b,0,none⟩)] w' fun e w''=>e= .returned (.int .u8 124)∧Fr w' w''):=Lib.hid fun w' h=>(next_any b a2 t v2 w' (L3.out.box.fr h) (by omega)).mono fun e w'' q=>by rw[h124]at q;exact q
     have H3:Hid (prs t g (.expr (ks++[k2])) (a2+1) ps2=R):=by rw[if_pos h124]at H2;exact Lib.hid H2
     have hin:=nx_in (t:=t) (a:=a2) (by omega)
     clear H2 h124 B4
     go_wp2_with fail
     refine(CN.out _ (by exact Qf)).mono ?_
     rintro e w5 ⟨rfl,hf5⟩
     have L5:=Lib.hid (L3.out.fr hf5)
     have B5:=L5.out.box
     have F5:=B5.facts
     clear B5
     go_wp2_with fail
     go_roundw
     case rel=>
      have hw:IntKind.i64.wrap ((a2:Int)+1)=((a2+1:Nat):Int):=by rw[show(a2:Int)+1=((a2+1:Nat):Int) by omega];exact IntWalk.i64_in _ (by omega)
      refine⟨ks++[k2],a2+1,g,v2,us2,ps2,az',cz',by first|(simp;done)|(simp;omega),?_,H3,by omega,by omega,by omega,by omega,by simp;omega⟩
      have LE: ∀ q,Box (w5.setCell ⟨b,1,none⟩ q) b #[.string t,q,v2] 199:=fun q=>(L5.out.box).set_to (by simp)
      have L6:=Lp.at_ (a1:=a2+1) L5.out hlo (LE _)
      simp only[List.length_append,List.length_singleton]
      exact Lib.hid L6
     case measure=>
      simp only[lenV]
      omega
   · have q124:(((nx t a2:Nat):Int)==124)=false:=by rw[beq_eq_false_iff_ne];omega
     have CN:Hid (∀ w',Fr w4 w'→Calls Tryz.prog 207 #[.pointer (some ⟨b,0,none⟩)] w' fun e w''=>e= .returned (.int .u8 (nx t a2:Int))∧Fr w' w''):=Lib.hid fun w' h=>next_any b a2 t v2 w' (L3.out.box.fr h) (by omega)
     rw[if_neg h124]at H2
     have hlen:(ks++[k2]).length=ks.length+1:=by simp
     have CG:Hid (∀ w',Fr w4 w'→Calls Tryz.prog 208 #[.pointer (some ⟨b,0,none⟩),.int .i64 3,.slice az' (ks.length+1) cz'] w' fun e w''=>e= .returned (.int .i64 (grp 3 (ks++[k2]) ps2).1)∧RdSt b lo a2 t v2 (.slice az' (ks.length+1) cz') us2 (grp 3 (ks++[k2]) ps2).2 w' w''):=Lib.hid fun w' h=>group_any b lo a2 t v2 _ ps2 us2 3 (ks++[k2]) w' (L3.out.box.fr h) hlo (by have:=h.size;omega) (L3.out.prd.fr h) (owns_fr L3.out.row h) L3.out.apt.1 (by omega) (by simp)
     have HR2:=Lib.hid H2
     clear H2 B4
     go_wp2_with fail
     refine(CN.out _ (by exact Qf)).mono ?_
     rintro e w5 ⟨rfl,hf5⟩
     have L5:=Lib.hid (L3.out.fr hf5)
     have B5:=L5.out.box
     have F5:=B5.facts
     clear B5
     go_wp2_with fail
     refine(CG.out _ (by exact Qf)).mono ?_
     rintro e w6 ⟨rfl,hst⟩
     have HS:=Lib.hid hst
     clear hst
     go_wp2_with fail
     refine bodyPost_ret (v:= .tuple #[.int .i64 (grp 3 (ks++[k2]) ps2).1,.bool true]) (by simp[results,Tryz.results158,go_sem, *]) rfl ?_
     rw[← HR2.out]
     exact⟨rfl,Lp.done (L5.out) HS.out⟩
def ItemC (t:ByteArray) (f:Nat):Prop:= ∀ (b lo a:Nat) (v:Value) (us:List Value) (ps:List PieceD) (w:World),Box w b #[.string t,.int .i64 (a:Int),v] 199→b<lo→lo≤w.heap.size→Prd w lo v ps us→nx t a≠0→3*(t.size-a)≤f→ps.length+2*(t.size-a)≤900→
 Calls Tryz.prog 231 #[.pointer (some ⟨b,0,none⟩)] w (RPost b lo t v us w (prs t f .item a ps))
theorem isLabN_any (n:Nat) (hn:n<256) (w:World):Calls Tryz.prog 134 #[.int .u8 (n:Int)] w fun e w'=>e= .returned (.bool (isLab n))∧w'=w:=by
 have h:=isLabel_any (UInt8.ofNat n) w
 have e:(UInt8.ofNat n).toNat=n:=by simp[UInt8.toNat_ofNat,Nat.mod_eq_of_lt hn]
 rw[e]at h
 refine h.mono fun e1 w1 q=>?_
 first
  |exact q
  |exact⟨by rw[q.1];unfold isLab;rfl,q.2⟩
  |exact⟨by rw[q.1];unfold isLab;simp,q.2⟩
set_option maxHeartbeats 8000000 in
set_option maxRecDepth 100000 in
theorem alt_any (t:ByteArray) (ht:t.size≤100) (F:Nat) (IH: ∀ f,f<F→ItemC t f):AltC t F:=by
 intro b lo a v us ps w hb hlo hlw hp ha hf hn
 obtain⟨i0,hi,hz0,hz1,hz2⟩:=info_parts info_int
 have HI:=Lib.hid IH
 obtain⟨R,hR⟩: ∃ R,prs t F (.alt []) a ps=R:=⟨_,rfl⟩
 rw[hR]
 have HR:=Lib.hid hR
 have L0:=Lib.hid (Lp.start hb hp)
 clear hb hp IH hR
 go_enter Tryz.func206,Tryz.ntmps206
 go_wp2_with fail
 go_loopw [4,5,6] (fun z _ _ wr=> ∃ (ks:List Int) (a' f':Nat) (v':Value) (us':List Value) (ps':List PieceD) (az:Option Addr) (cz:Nat),z= .slice az ks.length cz∧Hid (Lp b lo a' t v us w (.slice az ks.length cz) ks v' us' ps' wr)∧Hid (prs t f' (.alt ks) a' ps'=R)∧f'≤F∧a'≤t.size∧3*(t.size-a')+1≤f'∧ps'.length+2*(t.size-a')≤900∧ks.length≤a') (fun z _ _ _=>1000-lenV z)
 case atStart=>exact⟨[],a,F,v,us,ps,none,0,rfl,L0,HR,Nat.le_refl _,ha,hf,hn,Nat.zero_le _⟩
 case round=>
  obtain⟨ks,a',f',v',us',ps',az,cz,rfl,L1,H1,hf1,ha1,hf2,hn1,hk1⟩:=hrel
  obtain⟨g,rfl⟩: ∃ g,f'=g+1:=⟨f'-1,by omega⟩
  have H2:=H1.out
  rw[prs]at H2
  have hsz:=L1.out.go.size
  have hn256:=nx_lt t a'
  have CN:Hid (∀ w',Fr wr w'→Calls Tryz.prog 207 #[.pointer (some ⟨b,0,none⟩)] w' fun e w''=>e= .returned (.int .u8 (nx t a':Int))∧Fr w' w''):=Lib.hid fun w' h=>next_any b a' t v' w' (L1.out.box.fr h) (by omega)
  have CL:Hid (∀ w',Calls Tryz.prog 134 #[.int .u8 (nx t a':Int)] w' fun e w''=>e= .returned (.bool (isLab (nx t a')))∧w''=w'):=Lib.hid fun w'=>isLabN_any _ hn256 w'
  by_cases hc:isLab (nx t a')=true∨nx t a'=40
  · have hnz:nx t a'≠0:=by
     rcases hc with e|e
     · intro h0
       rw[h0]at e
       exact absurd e (by decide)
     · omega
    have hin:=nx_in hnz
    rw[if_pos hc]at H2
    have CA:=HI.out g (by omega) b lo a' v' us' ps'
    cases hE:prs t g .item a' ps' with
    |none=>
     rw[hE]at H2
     simp only[]at H2
     subst H2
     have CT:Hid (∀ w',Fr wr w'→Calls Tryz.prog 231 #[.pointer (some ⟨b,0,none⟩)] w' fun e w''=>e= .returned (.tuple #[.int .i64 0,.bool false])∧Two b v'.ownBlock w' w''):=Lib.hid fun w' h=>(CA w' (L1.out.box.fr h) hlo (by have:=h.size;omega) (L1.out.prd.fr h) hnz (by omega) hn1).mono fun e w'' q=>by rw[hE]at q;exact q
     clear CA hE H1 hnz
     go_wp2_with fail
     refine(CN.out _ (by exact Qf)).mono ?_
     rintro e w1 ⟨rfl,hfa⟩
     go_wp2_with fail
     refine(CL.out _).mono ?_
     rintro e w2 ⟨rfl,rfl⟩
     by_cases hl:isLab (nx t a')=true
     · rw[hl]
       go_wp2_with fail
       refine(CT.out _ (by exact Qf)).mono ?_
       rintro e w3 ⟨rfl,ht1⟩
       have HT:=Lib.hid ht1
       clear ht1
       go_wp2_with fail
       refine bodyPost_ret (v:= .tuple #[.int .i64 0,.bool false]) (by simp[results,Tryz.results206,go_sem, *]) rfl ⟨rfl,(L1.out.fr (w1:=w2) (by exact Qf)).go.then HT.out⟩
     · have h40:nx t a'=40:=hc.resolve_left hl
       rw[show isLab (nx t a')=false by simpa using hl]
       rw[h40]at CN
       clear h40
       go_wp2_with fail
       refine(CN.out _ (by exact Qf)).mono ?_
       rintro e w2 ⟨rfl,hfb⟩
       go_wp2_with fail
       refine(CT.out _ (by exact Qf)).mono ?_
       rintro e w3 ⟨rfl,ht1⟩
       have HT:=Lib.hid ht1
       clear ht1
       go_wp2_with fail
       refine bodyPost_ret (v:= .tuple #[.int .i64 0,.bool false]) (by simp[results,Tryz.results206,go_sem, *]) rfl ⟨rfl,(L1.out.fr (w1:=w2) (by exact Qf)).go.then HT.out⟩
    |some r=>
     obtain⟨k2,a2,ps2⟩:=r
     rw[hE]at H2
     simp only[]at H2
     have P1:=prs_on t g .item a' ps' k2 a2 ps2 hE
     have P2:=prs_len t g .item a' ps' k2 a2 ps2 hE
     have P3:=prs_in t g .item a' ps' k2 a2 ps2 hE ha1 (fun _=>hnz)
     simp only[Job.cost]at P2
     have HP1:=P1.2.2 rfl
     have H3:=Lib.hid H2
     have CT:Hid (∀ w',Fr wr w'→Calls Tryz.prog 231 #[.pointer (some ⟨b,0,none⟩)] w' fun e w''=>e= .returned (.tuple #[.int .i64 k2,.bool true])∧ ∃ v2 us2,Lp b lo a2 t v us w (.slice az ks.length cz) ks v2 us2 ps2 w''):=Lib.hid fun w' h=>(CA w' (L1.out.box.fr h) hlo (by have:=h.size;omega) (L1.out.prd.fr h) hnz (by omega) hn1).mono fun e w'' q=>by rw[hE]at q;exact⟨q.1,(L1.out.fr h).call hlo q.2⟩
     clear CA hE H1 P1 H2 hnz
     go_wp2_with fail
     refine(CN.out _ (by exact Qf)).mono ?_
     rintro e w1 ⟨rfl,hfa⟩
     go_wp2_with fail
     refine(CL.out _).mono ?_
     rintro e w2 ⟨rfl,rfl⟩
     by_cases hl:isLab (nx t a')=true
     · rw[hl]
       go_wp2_with fail
       refine(CT.out _ (by exact Qf)).mono ?_
       rintro e w3 ⟨rfl,v2,us2,l2⟩
       have L2:=Lib.hid l2
       clear l2 CT
       have hs2:=L2.out.go.size
       go_wp2_with(at_builtin;(refine wpList_append_rd rfl _ _ 34 rfl lo 3 i0 (.int .i64 0) 1 8 Tryz.underlying34 hi hz0 hz1 hz2 rfl (by decide) (.slice az ks.length cz) ks.length (ks.map (Value.int .i64)) rfl (World.ownsRow.alloc L2.out.row _) _ 1 [.int .i64 k2] rfl (RdS.new (by first|rfl|(simp;done)) rfl) (by simp[Value.oneCell']) (by unfold maxLen;omega) (by omega) (by exact Qz) ?_;intro az' cz' w4 hown hgrow hat))
       have L3:Hid (Lp b lo a2 t v us w (.slice az' (ks.length+1) cz') (ks++[k2]) v2 us2 ps2 w4):=Lib.hid (Lp.app (L2.out.fr (by exact Qf)) hlo hgrow (by simpa [IntsO]using hown) (hat.imp id fun h=>⟨_,h,by simp⟩))
       go_roundw
       case rel=>
        refine⟨ks++[k2],a2,g,v2,us2,ps2,az',cz',by first|(simp;done)|(simp;omega),?_,H3,by omega,by omega,by omega,by omega,by simp;omega⟩
        simp only[List.length_append,List.length_singleton]
        exact L3
       case measure=>
        simp only[lenV]
        omega
     · have h40:nx t a'=40:=hc.resolve_left hl
       rw[show isLab (nx t a')=false by simpa using hl]
       rw[h40]at CN
       clear h40
       go_wp2_with fail
       refine(CN.out _ (by exact Qf)).mono ?_
       rintro e w2 ⟨rfl,hfb⟩
       go_wp2_with fail
       refine(CT.out _ (by exact Qf)).mono ?_
       rintro e w3 ⟨rfl,v2,us2,l2⟩
       have L2:=Lib.hid l2
       clear l2 CT
       have hs2:=L2.out.go.size
       go_wp2_with(at_builtin;(refine wpList_append_rd rfl _ _ 34 rfl lo 3 i0 (.int .i64 0) 1 8 Tryz.underlying34 hi hz0 hz1 hz2 rfl (by decide) (.slice az ks.length cz) ks.length (ks.map (Value.int .i64)) rfl (World.ownsRow.alloc L2.out.row _) _ 1 [.int .i64 k2] rfl (RdS.new (by first|rfl|(simp;done)) rfl) (by simp[Value.oneCell']) (by unfold maxLen;omega) (by omega) (by exact Qz) ?_;intro az' cz' w4 hown hgrow hat))
       have L3:Hid (Lp b lo a2 t v us w (.slice az' (ks.length+1) cz') (ks++[k2]) v2 us2 ps2 w4):=Lib.hid (Lp.app (L2.out.fr (by exact Qf)) hlo hgrow (by simpa [IntsO]using hown) (hat.imp id fun h=>⟨_,h,by simp⟩))
       go_roundw
       case rel=>
        refine⟨ks++[k2],a2,g,v2,us2,ps2,az',cz',by first|(simp;done)|(simp;omega),?_,H3,by omega,by omega,by omega,by omega,by simp;omega⟩
        simp only[List.length_append,List.length_singleton]
        exact L3
       case measure=>
        simp only[lenV]
        omega
  · rw[if_neg hc]at H2
    have hl:isLab (nx t a')=false:=by
     cases q:isLab (nx t a')
     · rfl
     · exact absurd (.inl q) hc
    have h40:(((nx t a':Nat):Int)==40)=false:=by rw[beq_eq_false_iff_ne];exact fun q=>hc (.inr (by omega))
    rw[hl]at CL
    clear hl hc
    by_cases hk0:ks.length=0
    · have q0:((ks.length:Int)==0)=true:=by rw[beq_iff_eq];omega
      rw[if_pos hk0]at H2
      subst H2
      clear hk0
      go_wp2_with fail
      refine(CN.out _ (by exact Qf)).mono ?_
      rintro e w1 ⟨rfl,hfa⟩
      go_wp2_with fail
      refine(CL.out _).mono ?_
      rintro e w2 ⟨rfl,rfl⟩
      go_wp2_with fail
      refine(CN.out _ (by exact Qf)).mono ?_
      rintro e w2 ⟨rfl,hfb⟩
      go_wp2_with fail
      refine bodyPost_ret (v:= .tuple #[.int .i64 0,.bool false]) (by simp[results,Tryz.results206,go_sem, *]) rfl ⟨rfl,(L1.out.fr (w1:=w2) (by exact Qf)).go.two⟩
    · have q0:((ks.length:Int)==0)=false:=by rw[beq_eq_false_iff_ne];omega
      rw[if_neg hk0]at H2
      have HR2:=Lib.hid H2
      have CG:Hid (∀ w',Fr wr w'→Calls Tryz.prog 208 #[.pointer (some ⟨b,0,none⟩),.int .i64 2,.slice az ks.length cz] w' fun e w''=>e= .returned (.int .i64 (grp 2 ks ps').1)∧RdSt b lo a' t v' (.slice az ks.length cz) us' (grp 2 ks ps').2 w' w''):=Lib.hid fun w' h=>group_any b lo a' t v' _ ps' us' 2 ks w' (L1.out.box.fr h) hlo (by have:=h.size;omega) (L1.out.prd.fr h) (owns_fr L1.out.row h) L1.out.apt.1 (by omega) (by omega)
      clear hk0 H2
      go_wp2_with fail
      refine(CN.out _ (by exact Qf)).mono ?_
      rintro e w1 ⟨rfl,hfa⟩
      go_wp2_with fail
      refine(CL.out _).mono ?_
      rintro e w2 ⟨rfl,rfl⟩
      go_wp2_with fail
      refine(CN.out _ (by exact Qf)).mono ?_
      rintro e w2 ⟨rfl,hfb⟩
      go_wp2_with fail
      refine(CG.out _ (by exact Qf)).mono ?_
      rintro e w6 ⟨rfl,hst⟩
      have HS:=Lib.hid hst
      clear hst
      go_wp2_with fail
      refine bodyPost_ret (v:= .tuple #[.int .i64 (grp 2 ks ps').1,.bool true]) (by simp[results,Tryz.results206,go_sem, *]) rfl ?_
      rw[← HR2.out]
      exact⟨rfl,Lp.done (L1.out.fr (w1:=w2) (by exact Qf)) HS.out⟩
theorem row1_any (W:World) (lo n:Nat) (k:Int) (hn:n=W.heap.size) (hl:lo≤n):IntsO (W.alloc (.cells #[.int .i64 k] 3)) lo (.slice (some ⟨n,0,none⟩) 1 1) [k]:=by
 subst hn
 exact⟨by simp,.inr ⟨W.heap.size,1, #[.int .i64 k],rfl,hl,heap_alloc_new W _,by simp,by unfold maxLen;omega,by simp,by simp⟩⟩
theorem piece1_any (b lo a n:Nat) (t:ByteArray) (v0 v:Value) (us0 us:List Value) (ps:List PieceD) (op k:Int) (w w':World) (hlo:b<lo) (hlw:lo≤w.heap.size) (h:Lp b lo a t v0 us0 w (.slice none 0 0) [] v us ps w') (hr:IntsO w' lo (.slice (some ⟨n,0,none⟩) 1 1) [k]) (hN:w.heap.size≤n) (hap:Apart (.slice (some ⟨n,0,none⟩) 1 1) v) (hn:ps.length≤1000):
  Calls Tryz.prog 232 #[.pointer (some ⟨b,0,none⟩),.agg #[.int .i64 op,.int .u8 0,.slice (some ⟨n,0,none⟩) 1 1]] w' fun e w''=>e= .returned (.int .i64 (ps.length:Int))∧ ∃ v2 us2,Lp b lo a t v0 us0 w (.slice none 0 0) [] v2 us2 (ps++[⟨op,0,[k]⟩]) w'':=by
 have q:=piece_any b lo a t v (.slice (some ⟨n,0,none⟩) 1 1) ps us ⟨op,0,[k]⟩ w' h.box hlo (by have:=h.go.size;omega) h.prd hr hap hn
 exact q.mono fun e w'' ⟨v2,e1,e2,e3,e4,e5⟩=>⟨e1,v2,_,h.piece (fun g e=>by simp[Value.ownBlock]at e;omega) e2 e3 e4 e5⟩
set_option maxHeartbeats 8000000 in
set_option maxRecDepth 100000 in
theorem item_any (t:ByteArray) (ht:t.size≤100) (F:Nat) (IH: ∀ f,f<F→ExprC t f):ItemC t F:=by
 intro b lo a v us ps w hb hlo hlw hp hnz hf hn
 have hin:=nx_in hnz
 obtain⟨g,rfl⟩: ∃ g,F=g+1:=⟨F-1,by omega⟩
 obtain⟨i0,hi,hz0,hz1,hz2⟩:=info_parts info_int
 obtain⟨R,hR⟩: ∃ R,prs t (g+1) .item a ps=R:=⟨_,rfl⟩
 rw[hR]
 rw[prs]at hR
 have hn256:=nx_lt t a
 have hw:IntKind.i64.wrap ((a:Int)+1)=((a+1:Nat):Int):=by rw[show(a:Int)+1=((a+1:Nat):Int) by omega];exact IntWalk.i64_in _ (by omega)
 have L0:=Lib.hid (Lp.start hb hp)
 have CN:Hid (∀ w',Fr w w'→Calls Tryz.prog 207 #[.pointer (some ⟨b,0,none⟩)] w' fun e w''=>e= .returned (.int .u8 (nx t a:Int))∧Fr w' w''):=Lib.hid fun w' h=>next_any b a t v w' (L0.out.box.fr h) (by omega)
 have F0:=hb.facts
 clear hb hp
 by_cases h40:nx t a=40
 · rw[if_pos h40]at hR
   rw[h40]at CN
   have CA:=IH g (by omega) b lo (a+1)
   clear h40
   cases hE:prs t g (.expr []) (a+1) ps with
   |none=>
    rw[hE]at hR
    simp only[]at hR
    subst hR
    have CT:Hid (∀ w',Lp b lo (a+1) t v us w (.slice none 0 0) [] v us ps w'→Calls Tryz.prog 158 #[.pointer (some ⟨b,0,none⟩)] w' fun e w''=>e= .returned (.tuple #[.int .i64 0,.bool false])∧Two b v.ownBlock w w''):=Lib.hid fun w' h=>(CA v us ps w' h.box hlo (by have:=h.go.size;omega) h.prd (by omega) (by omega) (by omega)).mono fun e w'' q=>by rw[hE]at q;exact⟨q.1,h.go.then q.2⟩
    clear CA hE IH
    go_enter Tryz.func231,Tryz.ntmps231
    go_wp2_with fail
    refine(CN.out _ (by exact Qf)).mono ?_
    rintro e w1 ⟨rfl,hfa⟩
    have L1:=Lib.hid (L0.out.fr hfa)
    have B1:=L1.out.box
    have F1:=B1.facts
    have L2:Hid (Lp b lo (a+1) t v us w (.slice none 0 0) [] v us ps (w1.setCell ⟨b,1,none⟩ (.int .i64 ((a:Int)+1)))):=Lib.hid (Lp.at_ L1.out hlo (B1.set_to (by simp)))
    clear B1
    go_wp2_with fail
    refine(CT.out _ L2.out).mono ?_
    rintro e w2 ⟨rfl,ht1⟩
    have HT:=Lib.hid ht1
    clear ht1
    go_wp2_with fail
    refine bodyPost_ret (v:= .tuple #[.int .i64 0,.bool false]) (by simp[results,Tryz.results231,go_sem, *]) rfl ⟨rfl,HT.out⟩
   |some r=>
    obtain⟨k2,a2,ps2⟩:=r
    rw[hE]at hR
    simp only[]at hR
    have P1:=prs_on t g (.expr []) (a+1) ps k2 a2 ps2 hE
    have P2:=prs_len t g (.expr []) (a+1) ps k2 a2 ps2 hE
    have P3:=prs_in t g (.expr []) (a+1) ps k2 a2 ps2 hE (by omega) (fun e=>by cases e)
    simp only[Job.cost]at P2
    have HP1:=P1.1
    have CT:Hid (∀ w',Lp b lo (a+1) t v us w (.slice none 0 0) [] v us ps w'→Calls Tryz.prog 158 #[.pointer (some ⟨b,0,none⟩)] w' fun e w''=>e= .returned (.tuple #[.int .i64 k2,.bool true])∧ ∃ v2 us2,Lp b lo a2 t v us w (.slice none 0 0) [] v2 us2 ps2 w''):=Lib.hid fun w' h=>(CA v us ps w' h.box hlo (by have:=h.go.size;omega) h.prd (by omega) (by omega) (by omega)).mono fun e w'' q=>by rw[hE]at q;exact⟨q.1,h.call hlo q.2⟩
    clear CA hE IH P1
    go_enter Tryz.func231,Tryz.ntmps231
    go_wp2_with fail
    refine(CN.out _ (by exact Qf)).mono ?_
    rintro e w1 ⟨rfl,hfa⟩
    have L1:=Lib.hid (L0.out.fr hfa)
    have B1:=L1.out.box
    have F1:=B1.facts
    have L2:Hid (Lp b lo (a+1) t v us w (.slice none 0 0) [] v us ps (w1.setCell ⟨b,1,none⟩ (.int .i64 ((a:Int)+1)))):=Lib.hid (Lp.at_ L1.out hlo (B1.set_to (by simp)))
    clear B1
    go_wp2_with fail
    refine(CT.out _ L2.out).mono ?_
    rintro e w2 ⟨rfl,v2,us2,l3⟩
    have L3:=Lib.hid l3
    clear l3
    have CM:Hid (∀ w',Fr w2 w'→Calls Tryz.prog 207 #[.pointer (some ⟨b,0,none⟩)] w' fun e w''=>e= .returned (.int .u8 (nx t a2:Int))∧Fr w' w''):=Lib.hid fun w' h=>next_any b a2 t v2 w' (L3.out.box.fr h) (by omega)
    by_cases h41:nx t a2=41
    · rw[if_pos h41]at hR
      have HR:=Lib.hid hR
      rw[h41]at CM
      have hin2:=nx_in (t:=t) (a:=a2) (by omega)
      have hw2:IntKind.i64.wrap ((a2:Int)+1)=((a2+1:Nat):Int):=by rw[show(a2:Int)+1=((a2+1:Nat):Int) by omega];exact IntWalk.i64_in _ (by omega)
      clear hR h41
      go_wp2_with fail
      refine(CM.out _ (by exact Qf)).mono ?_
      rintro e w3 ⟨rfl,hfc⟩
      have L4:=Lib.hid (L3.out.fr hfc)
      have B4:=L4.out.box
      have F4:=B4.facts
      have L5:Hid (Lp b lo (a2+1) t v us w (.slice none 0 0) [] v2 us2 ps2 (w3.setCell ⟨b,1,none⟩ (.int .i64 ((a2:Int)+1)))):=Lib.hid (Lp.at_ L4.out hlo (B4.set_to (by simp)))
      clear B4 L3
      have L3:=L5
      go_wp2_with fail
      go_loopw [5,8,47,49,51] (fun z _ _ _ _ wr=> ∃ (k:Int) (a' f':Nat) (v':Value) (us':List Value) (ps':List PieceD),z= .int .i64 k∧Hid (Lp b lo a' t v us w (.slice none 0 0) [] v' us' ps' wr)∧Hid (prs t f' (.post k) a' ps'=R)∧a'≤t.size∧t.size-a'+1≤f'∧ps'.length+2*(t.size-a')≤900) (fun _ _ _ _ _ wr=>t.size+1-(intOf ((wr.cell? ⟨b,1,none⟩).getD (.int .i64 0))).toNat)
      case atStart=>exact⟨_,a2+1,g,v2,us2,_,rfl,L3,HR,by omega,by omega,by omega⟩
      case round=>
       clear L3 HR
       obtain⟨k,a',f',v',us',ps',rfl,L3,H1,ha1,hf2,hn1⟩:=hrel
       obtain⟨g',rfl⟩: ∃ g',f'=g'+1:=⟨f'-1,by omega⟩
       have H2:=H1.out
       rw[prs]at H2
       have hsz:=L3.out.go.size
       have CN2:Hid (∀ w',Fr wr w'→Calls Tryz.prog 207 #[.pointer (some ⟨b,0,none⟩)] w' fun e w''=>e= .returned (.int .u8 (nx t a':Int))∧Fr w' w''):=Lib.hid fun w' h=>next_any b a' t v' w' (L3.out.box.fr h) (by omega)
       by_cases h42:nx t a'=42
       · rw[h42]at CN2
         have hin2:=nx_in (t:=t) (a:=a') (by omega)
         have hw2:IntKind.i64.wrap ((a':Int)+1)=((a'+1:Nat):Int):=by rw[show(a':Int)+1=((a'+1:Nat):Int) by omega];exact IntWalk.i64_in _ (by omega)
         have H3:Hid (prs t g' (.post (ps'.length:Int)) (a'+1) (ps'++[⟨4,0,[k]⟩])=R):=by
          simp[h42]at H2
          exact Lib.hid H2
         clear H2 h42 H1
         go_wp2_with fail
         refine(CN2.out _ (by exact Qf)).mono ?_
         rintro e w4 ⟨rfl,hfb⟩
         have L4:=Lib.hid (L3.out.fr (w1:=w4) (by exact Qf))
         have B4:=L4.out.box
         have F4:=B4.facts
         have L5:Hid (Lp b lo (a'+1) t v us w (.slice none 0 0) [] v' us' ps' (w4.setCell ⟨b,1,none⟩ (.int .i64 ((a':Int)+1)))):=Lib.hid (Lp.at_ L4.out hlo (B4.set_to (by simp)))
         clear B4
         go_wp2_with fail
         have hs4:=L5.out.go.size
         have hs5:(w4.setCell ⟨b,1,none⟩ (.int .i64 ((a':Int)+1))).heap.size=w4.heap.size:=by simp
         refine(piece1_any b lo (a'+1) w4.heap.size t v v' us us' ps' 4 k w _ hlo hlw (L5.out.fr (by exact Qf)) (row1_any _ lo _ k (by simp) (by omega)) (by omega) (fun g e1 e2=>by have:=(World.ownsRow.lt L5.out.prd.own g e2).2;simp[Value.ownBlock]at e1;omega) (by omega)).mono ?_
         rintro e w6 ⟨rfl,v6,us6,l6⟩
         have L6:=Lib.hid l6
         have F6:=l6.box.facts
         clear l6
         go_wp2_with fail
         go_roundw
         case rel=>exact⟨_,a'+1,g',v6,us6,_,rfl,L6,H3,by omega,by omega,by simp;omega⟩
         case measure=>
          have F3:=L3.out.box.facts
          simp[intOf, *]
          omega
       · by_cases h43:nx t a'=43
         · rw[h43]at CN2
           have hin2:=nx_in (t:=t) (a:=a') (by omega)
           have hw2:IntKind.i64.wrap ((a':Int)+1)=((a'+1:Nat):Int):=by rw[show(a':Int)+1=((a'+1:Nat):Int) by omega];exact IntWalk.i64_in _ (by omega)
           have H3:Hid (prs t g' (.post (ps'.length:Int)) (a'+1) (ps'++[⟨5,0,[k]⟩])=R):=by
            simp[h43]at H2
            exact Lib.hid H2
           clear H2 h43 H1
           go_wp2_with fail
           refine(CN2.out _ (by exact Qf)).mono ?_
           rintro e w4 ⟨rfl,hfb⟩
           have L4:=Lib.hid (L3.out.fr (w1:=w4) (by exact Qf))
           have B4:=L4.out.box
           have F4:=B4.facts
           have L5:Hid (Lp b lo (a'+1) t v us w (.slice none 0 0) [] v' us' ps' (w4.setCell ⟨b,1,none⟩ (.int .i64 ((a':Int)+1)))):=Lib.hid (Lp.at_ L4.out hlo (B4.set_to (by simp)))
           clear B4
           go_wp2_with fail
           have hs4:=L5.out.go.size
           have hs5:(w4.setCell ⟨b,1,none⟩ (.int .i64 ((a':Int)+1))).heap.size=w4.heap.size:=by simp
           refine(piece1_any b lo (a'+1) w4.heap.size t v v' us us' ps' 5 k w _ hlo hlw (L5.out.fr (by exact Qf)) (row1_any _ lo _ k (by simp) (by omega)) (by omega) (fun g e1 e2=>by have:=(World.ownsRow.lt L5.out.prd.own g e2).2;simp[Value.ownBlock]at e1;omega) (by omega)).mono ?_
           rintro e w6 ⟨rfl,v6,us6,l6⟩
           have L6:=Lib.hid l6
           have F6:=l6.box.facts
           clear l6
           go_wp2_with fail
           go_roundw
           case rel=>exact⟨_,a'+1,g',v6,us6,_,rfl,L6,H3,by omega,by omega,by simp;omega⟩
           case measure=>
            have F3:=L3.out.box.facts
            simp[intOf, *]
            omega
         · by_cases h63:nx t a'=63
           · rw[h63]at CN2
             have hin2:=nx_in (t:=t) (a:=a') (by omega)
             have hw2:IntKind.i64.wrap ((a':Int)+1)=((a'+1:Nat):Int):=by rw[show(a':Int)+1=((a'+1:Nat):Int) by omega];exact IntWalk.i64_in _ (by omega)
             have H3:Hid (prs t g' (.post (ps'.length:Int)) (a'+1) (ps'++[⟨6,0,[k]⟩])=R):=by
              simp[h63]at H2
              exact Lib.hid H2
             clear H2 h63 H1
             go_wp2_with fail
             refine(CN2.out _ (by exact Qf)).mono ?_
             rintro e w4 ⟨rfl,hfb⟩
             have L4:=Lib.hid (L3.out.fr (w1:=w4) (by exact Qf))
             have B4:=L4.out.box
             have F4:=B4.facts
             have L5:Hid (Lp b lo (a'+1) t v us w (.slice none 0 0) [] v' us' ps' (w4.setCell ⟨b,1,none⟩ (.int .i64 ((a':Int)+1)))):=Lib.hid (Lp.at_ L4.out hlo (B4.set_to (by simp)))
             clear B4
             go_wp2_with fail
             have hs4:=L5.out.go.size
             have hs5:(w4.setCell ⟨b,1,none⟩ (.int .i64 ((a':Int)+1))).heap.size=w4.heap.size:=by simp
             refine(piece1_any b lo (a'+1) w4.heap.size t v v' us us' ps' 6 k w _ hlo hlw (L5.out.fr (by exact Qf)) (row1_any _ lo _ k (by simp) (by omega)) (by omega) (fun g e1 e2=>by have:=(World.ownsRow.lt L5.out.prd.own g e2).2;simp[Value.ownBlock]at e1;omega) (by omega)).mono ?_
             rintro e w6 ⟨rfl,v6,us6,l6⟩
             have L6:=Lib.hid l6
             have F6:=l6.box.facts
             clear l6
             go_wp2_with fail
             go_roundw
             case rel=>exact⟨_,a'+1,g',v6,us6,_,rfl,L6,H3,by omega,by omega,by simp;omega⟩
             case measure=>
              have F3:=L3.out.box.facts
              simp[intOf, *]
              omega
           · have q1:(((nx t a':Nat):Int)==42)=false:=by rw[beq_eq_false_iff_ne];omega
             have q2:(((nx t a':Nat):Int)==43)=false:=by rw[beq_eq_false_iff_ne];omega
             have q3:(((nx t a':Nat):Int)==63)=false:=by rw[beq_eq_false_iff_ne];omega
             rw[if_neg h42,if_neg h43,if_neg h63]at H2
             have HR2:=Lib.hid H2
             clear H2 h42 h43 h63 H1
             go_wp2_with fail
             refine(CN2.out _ (by exact Qf)).mono ?_
             rintro e w4 ⟨rfl,hfb⟩
             go_wp2_with fail
             refine bodyPost_ret (v:= .tuple #[.int .i64 k,.bool true]) (by simp[results,Tryz.results231,go_sem, *]) rfl ?_
             rw[← HR2.out]
             have L9:=L3.out.fr (w1:=w4) (by exact Qf)
             exact⟨rfl,v',us',L9.box,L9.prd,L9.go,fun y hy ha _=>L9.old y hy ha⟩
    · rw[if_neg h41]at hR
      subst hR
      have q41:(((nx t a2:Nat):Int)==41)=false:=by rw[beq_eq_false_iff_ne];omega
      clear h41
      go_wp2_with fail
      refine(CM.out _ (by exact Qf)).mono ?_
      rintro e w3 ⟨rfl,hfc⟩
      go_wp2_with fail
      refine bodyPost_ret (v:= .tuple #[.int .i64 0,.bool false]) (by simp[results,Tryz.results231,go_sem, *]) rfl ⟨rfl,(L3.out.fr hfc).go.two⟩
 · rw[if_neg h40]at hR
   have HR:=Lib.hid hR
   have q40:(((nx t a:Nat):Int)==40)=false:=by rw[beq_eq_false_iff_ne];omega
   have ex:(UInt8.ofNat (nx t a)).toNat=nx t a:=by simp[UInt8.toNat_ofNat,Nat.mod_eq_of_lt hn256]
   have CP:Hid (∀ v' us' w',Lp b lo (a+1) t v us w (.slice none 0 0) [] v' us' ps w'→Calls Tryz.prog 232 #[.pointer (some ⟨b,0,none⟩),.agg #[.int .i64 1,.int .u8 (nx t a:Int),.slice none 0 0]] w' fun e w''=>e= .returned (.int .i64 (ps.length:Int))∧ ∃ v2 us2,Lp b lo (a+1) t v us w (.slice none 0 0) [] v2 us2 (ps++[⟨1,UInt8.ofNat (nx t a),[]⟩]) w''):=Lib.hid fun v' us' w' h=>by
    have q:=piece_any b lo (a+1) t v' (.slice none 0 0) ps us' ⟨1,UInt8.ofNat (nx t a),[]⟩ w' h.box hlo (by have:=h.go.size;omega) h.prd (World.ownsRow_nil _ _ _ _) (fun g e _=>by simp[Value.ownBlock]at e) (by omega)
    simp only[ex]at q
    exact q.mono fun e w'' ⟨v2,e1,e2,e3,e4,e5⟩=>⟨e1,v2,_,h.piece (fun g e=>by simp[Value.ownBlock]at e) e2 e3 e4 e5⟩
   clear hR h40 ex
   go_enter Tryz.func231,Tryz.ntmps231
   go_wp2_with fail
   refine(CN.out _ (by exact Qf)).mono ?_
   rintro e w1 ⟨rfl,hfa⟩
   have L1:=Lib.hid (L0.out.fr hfa)
   have B1:=L1.out.box
   have F1:=B1.facts
   have L2:Hid (Lp b lo (a+1) t v us w (.slice none 0 0) [] v us ps (w1.setCell ⟨b,1,none⟩ (.int .i64 ((a:Int)+1)))):=Lib.hid (Lp.at_ L1.out hlo (B1.set_to (by simp)))
   clear B1
   go_wp2_with fail
   refine(CP.out _ _ _ L2.out).mono ?_
   rintro e w2 ⟨rfl,v2,us2,l3⟩
   have L3:=Lib.hid l3
   clear l3
   go_wp2_with fail
   go_loopw [5,8,47,49,51] (fun z _ _ _ _ wr=> ∃ (k:Int) (a' f':Nat) (v':Value) (us':List Value) (ps':List PieceD),z= .int .i64 k∧Hid (Lp b lo a' t v us w (.slice none 0 0) [] v' us' ps' wr)∧Hid (prs t f' (.post k) a' ps'=R)∧a'≤t.size∧t.size-a'+1≤f'∧ps'.length+2*(t.size-a')≤900) (fun _ _ _ _ _ wr=>t.size+1-(intOf ((wr.cell? ⟨b,1,none⟩).getD (.int .i64 0))).toNat)
   case atStart=>exact⟨_,a+1,g,v2,us2,_,rfl,L3,HR,by omega,by omega,by simp;omega⟩
   case round=>
    clear L3 HR
    obtain⟨k,a',f',v',us',ps',rfl,L3,H1,ha1,hf2,hn1⟩:=hrel
    obtain⟨g',rfl⟩: ∃ g',f'=g'+1:=⟨f'-1,by omega⟩
    have H2:=H1.out
    rw[prs]at H2
    have hsz:=L3.out.go.size
    have CN2:Hid (∀ w',Fr wr w'→Calls Tryz.prog 207 #[.pointer (some ⟨b,0,none⟩)] w' fun e w''=>e= .returned (.int .u8 (nx t a':Int))∧Fr w' w''):=Lib.hid fun w' h=>next_any b a' t v' w' (L3.out.box.fr h) (by omega)
    by_cases h42:nx t a'=42
    · rw[h42]at CN2
      have hin2:=nx_in (t:=t) (a:=a') (by omega)
      have hw2:IntKind.i64.wrap ((a':Int)+1)=((a'+1:Nat):Int):=by rw[show(a':Int)+1=((a'+1:Nat):Int) by omega];exact IntWalk.i64_in _ (by omega)
      have H3:Hid (prs t g' (.post (ps'.length:Int)) (a'+1) (ps'++[⟨4,0,[k]⟩])=R):=by
       simp[h42]at H2
       exact Lib.hid H2
      clear H2 h42 H1
      go_wp2_with fail
      refine(CN2.out _ (by exact Qf)).mono ?_
      rintro e w4 ⟨rfl,hfb⟩
      have L4:=Lib.hid (L3.out.fr (w1:=w4) (by exact Qf))
      have B4:=L4.out.box
      have F4:=B4.facts
      have L5:Hid (Lp b lo (a'+1) t v us w (.slice none 0 0) [] v' us' ps' (w4.setCell ⟨b,1,none⟩ (.int .i64 ((a':Int)+1)))):=Lib.hid (Lp.at_ L4.out hlo (B4.set_to (by simp)))
      clear B4
      go_wp2_with fail
      have hs4:=L5.out.go.size
      have hs5:(w4.setCell ⟨b,1,none⟩ (.int .i64 ((a':Int)+1))).heap.size=w4.heap.size:=by simp
      refine(piece1_any b lo (a'+1) w4.heap.size t v v' us us' ps' 4 k w _ hlo hlw (L5.out.fr (by exact Qf)) (row1_any _ lo _ k (by simp) (by omega)) (by omega) (fun g e1 e2=>by have:=(World.ownsRow.lt L5.out.prd.own g e2).2;simp[Value.ownBlock]at e1;omega) (by omega)).mono ?_
      rintro e w6 ⟨rfl,v6,us6,l6⟩
      have L6:=Lib.hid l6
      have F6:=l6.box.facts
      clear l6
      go_wp2_with fail
      go_roundw
      case rel=>exact⟨_,a'+1,g',v6,us6,_,rfl,L6,H3,by omega,by omega,by simp;omega⟩
      case measure=>
       have F3:=L3.out.box.facts
       simp[intOf, *]
       omega
    · by_cases h43:nx t a'=43
      · rw[h43]at CN2
        have hin2:=nx_in (t:=t) (a:=a') (by omega)
        have hw2:IntKind.i64.wrap ((a':Int)+1)=((a'+1:Nat):Int):=by rw[show(a':Int)+1=((a'+1:Nat):Int) by omega];exact IntWalk.i64_in _ (by omega)
        have H3:Hid (prs t g' (.post (ps'.length:Int)) (a'+1) (ps'++[⟨5,0,[k]⟩])=R):=by
         simp[h43]at H2
         exact Lib.hid H2
        clear H2 h43 H1
        go_wp2_with fail
        refine(CN2.out _ (by exact Qf)).mono ?_
        rintro e w4 ⟨rfl,hfb⟩
        have L4:=Lib.hid (L3.out.fr (w1:=w4) (by exact Qf))
        have B4:=L4.out.box
        have F4:=B4.facts
        have L5:Hid (Lp b lo (a'+1) t v us w (.slice none 0 0) [] v' us' ps' (w4.setCell ⟨b,1,none⟩ (.int .i64 ((a':Int)+1)))):=Lib.hid (Lp.at_ L4.out hlo (B4.set_to (by simp)))
        clear B4
        go_wp2_with fail
        have hs4:=L5.out.go.size
        have hs5:(w4.setCell ⟨b,1,none⟩ (.int .i64 ((a':Int)+1))).heap.size=w4.heap.size:=by simp
        refine(piece1_any b lo (a'+1) w4.heap.size t v v' us us' ps' 5 k w _ hlo hlw (L5.out.fr (by exact Qf)) (row1_any _ lo _ k (by simp) (by omega)) (by omega) (fun g e1 e2=>by have:=(World.ownsRow.lt L5.out.prd.own g e2).2;simp[Value.ownBlock]at e1;omega) (by omega)).mono ?_
        rintro e w6 ⟨rfl,v6,us6,l6⟩
        have L6:=Lib.hid l6
        have F6:=l6.box.facts
        clear l6
        go_wp2_with fail
        go_roundw
        case rel=>exact⟨_,a'+1,g',v6,us6,_,rfl,L6,H3,by omega,by omega,by simp;omega⟩
        case measure=>
         have F3:=L3.out.box.facts
         simp[intOf, *]
         omega
      · by_cases h63:nx t a'=63
        · rw[h63]at CN2
          have hin2:=nx_in (t:=t) (a:=a') (by omega)
          have hw2:IntKind.i64.wrap ((a':Int)+1)=((a'+1:Nat):Int):=by rw[show(a':Int)+1=((a'+1:Nat):Int) by omega];exact IntWalk.i64_in _ (by omega)
          have H3:Hid (prs t g' (.post (ps'.length:Int)) (a'+1) (ps'++[⟨6,0,[k]⟩])=R):=by
           simp[h63]at H2
           exact Lib.hid H2
          clear H2 h63 H1
          go_wp2_with fail
          refine(CN2.out _ (by exact Qf)).mono ?_
          rintro e w4 ⟨rfl,hfb⟩
          have L4:=Lib.hid (L3.out.fr (w1:=w4) (by exact Qf))
          have B4:=L4.out.box
          have F4:=B4.facts
          have L5:Hid (Lp b lo (a'+1) t v us w (.slice none 0 0) [] v' us' ps' (w4.setCell ⟨b,1,none⟩ (.int .i64 ((a':Int)+1)))):=Lib.hid (Lp.at_ L4.out hlo (B4.set_to (by simp)))
          clear B4
          go_wp2_with fail
          have hs4:=L5.out.go.size
          have hs5:(w4.setCell ⟨b,1,none⟩ (.int .i64 ((a':Int)+1))).heap.size=w4.heap.size:=by simp
          refine(piece1_any b lo (a'+1) w4.heap.size t v v' us us' ps' 6 k w _ hlo hlw (L5.out.fr (by exact Qf)) (row1_any _ lo _ k (by simp) (by omega)) (by omega) (fun g e1 e2=>by have:=(World.ownsRow.lt L5.out.prd.own g e2).2;simp[Value.ownBlock]at e1;omega) (by omega)).mono ?_
          rintro e w6 ⟨rfl,v6,us6,l6⟩
          have L6:=Lib.hid l6
          have F6:=l6.box.facts
          clear l6
          go_wp2_with fail
          go_roundw
          case rel=>exact⟨_,a'+1,g',v6,us6,_,rfl,L6,H3,by omega,by omega,by simp;omega⟩
          case measure=>
           have F3:=L3.out.box.facts
           simp[intOf, *]
           omega
        · have q1:(((nx t a':Nat):Int)==42)=false:=by rw[beq_eq_false_iff_ne];omega
          have q2:(((nx t a':Nat):Int)==43)=false:=by rw[beq_eq_false_iff_ne];omega
          have q3:(((nx t a':Nat):Int)==63)=false:=by rw[beq_eq_false_iff_ne];omega
          rw[if_neg h42,if_neg h43,if_neg h63]at H2
          have HR2:=Lib.hid H2
          clear H2 h42 h43 h63 H1
          go_wp2_with fail
          refine(CN2.out _ (by exact Qf)).mono ?_
          rintro e w4 ⟨rfl,hfb⟩
          go_wp2_with fail
          refine bodyPost_ret (v:= .tuple #[.int .i64 k,.bool true]) (by simp[results,Tryz.results231,go_sem, *]) rfl ?_
          rw[← HR2.out]
          have L9:=L3.out.fr (w1:=w4) (by exact Qf)
          exact⟨rfl,v',us',L9.box,L9.prd,L9.go,fun y hy ha _=>L9.old y hy ha⟩
theorem reader_any (t:ByteArray) (ht:t.size≤100) (F:Nat):ItemC t F∧AltC t F∧ExprC t F:=by
 induction F using Nat.strongRecOn with
 |ind F ih=>exact⟨item_any t ht F fun f h=>(ih f h).2.2,alt_any t ht F fun f h=>(ih f h).1,expr_any t ht F fun f h=>(ih f h).2.1⟩
end Go.Proofs.YtjnahjgncmcmdaaGreat