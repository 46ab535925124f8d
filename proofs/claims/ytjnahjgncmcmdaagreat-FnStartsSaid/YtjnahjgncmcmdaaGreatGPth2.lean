/- Texts in one: Nok, Lov, Pth2. -/
import Derived.Test.YtjnahjgncmcmdaaGreatGShg
import Derived.Deep.RegionHeld3
import Derived.BigQuiet
import Derived.Test.YtjnahjgncmcmdaaGreatGLor
import Derived.Test.YtjnahjgncmcmdaaGreatGLou
import Derived.Test.YtjnahjgncmcmdaaGreatGNfp
namespace Go.Proofs.YtjnahjgncmcmdaaGreat
open Go.RowKit
set_option linter.unusedVariables false
set_option linter.unusedSimpArgs false
set_option maxHeartbeats 8000000 in
set_option maxRecDepth 100000 in
theorem specNfaOk_ok (v ve:Value) (n:Int) (xs:List EdgeR) (bs:List Bool) (w:World) (hv:EdgesR w v xs) (hb:BoolsR w ve bs) (hn:1≤n∧n≤24) (hbl:(bs.length:Int)=n)
  (hx: ∀ k,k<xs.length→(0≤(edgeAt xs k).f0∧(edgeAt xs k).f0<n)∧(0≤(edgeAt xs k).f2∧(edgeAt xs k).f2<n)∧97≤(edgeAt xs k).f1.toNat∧(edgeAt xs k).f1.toNat≤100) (hs: ∀ k,0<k→k<xs.length→edgeLt (edgeAt xs (k-1)) (edgeAt xs k)=true):
  Calls Tryz.prog 192 #[.agg #[.int .i64 n,v,ve]] w fun e w'=>e= .returned (.bool true)∧Fr w w':=by
 obtain⟨ao,ba,oa,ca,rfl,hca,hma,fa⟩:=hv.one
 obtain⟨eo,be,oe,ce,rfl,hce,hme,_⟩:=hb.one
 have FA:=Lib.hid fa
 have HX:=Lib.hid hx
 have HS:=Lib.hid hs
 obtain⟨hn1,hn2⟩:=hn
 have gN:decide (1≤n∧n≤24)=true:=by simp;omega
 have gL:((bs.length:Int) !=n)=false:=by rw[bne_eq_false_iff_eq];exact hbl
 have hbn:bs.length≤24:=by omega
 clear hv fa hx hs hbl hb
 go_enter Tryz.func192,Tryz.ntmps192
 go_wp2_with(go_at_call 69;refine(l01In_any _ _ _ _).mono ?_;rintro e w1 ⟨rfl,rfl⟩)
 go_loopw [3,4] (fun i _ wr=> ∃ k:Nat,k≤xs.length∧i= .int .i64 k∧Fr w wr∧Box wr w.heap.size #[.int .i64 n,.slice ao xs.length ca,.slice eo bs.length ce] 133) (fun i _ _=>xs.length-(intOf i).toNat)
 case atStart=>exact⟨0,Nat.zero_le _,rfl,by exact Qf,Box.new _ _ _⟩
 case round=>
  obtain⟨k,hk,rfl,hfr,BX⟩:=hrel
  have FX:=BX.facts
  have zr:=BX.lt
  by_cases hlt:k<xs.length
  · obtain⟨rfl,hba,fa⟩:=FA.out (by omega)
    obtain⟨x,hx⟩: ∃ x,edgeAt xs k=x:=⟨_,rfl⟩
    obtain⟨⟨hf1,hf2⟩,⟨ht1,ht2⟩,hl1,hl2⟩:=HX.out k hlt
    have fk:=fa k hlt
    rw[hx]at fk hf1 hf2 ht1 ht2 hl1 hl2
    obtain⟨g0,g1,g2⟩:=fk
    have c0:=(hfr.cell (p:=⟨ba,_,none⟩) hba).trans g0
    have c1:=(hfr.cell (p:=⟨ba,_,none⟩) hba).trans g1
    have c2:=(hfr.cell (p:=⟨ba,_,none⟩) hba).trans g2
    have hxl:=x.f1.toNat_lt
    have hbaw:ba<wr.heap.size:=by have:=hfr.size;omega
    have hwn:IntKind.i64.wrap (n-1)=n-1:=IntWalk.i64_in _ (by omega)
    have gF:decide (0≤x.f0∧x.f0≤n-1)=true:=by simp;omega
    have gT:decide (0≤x.f2∧x.f2≤n-1)=true:=by simp;omega
    have gA:decide ((x.f1.toNat:Int)<97)=false:=by simp;omega
    have gB:decide (100<(x.f1.toNat:Int))=false:=by simp;omega
    have HXX:=Lib.hid hx
    clear g0 g1 g2 hx hf1 hf2 ht1 ht2 hl1 hl2
    by_cases hz:k=0
    · subst hz
      simp only[Nat.zero_mul,Nat.add_zero]at c0 c1 c2
      clear fa
      go_wp2_with fail
      go_quiet ((go_at_call 69;exact Calls.quiet_of_same ((l01In_any _ _ _ _).mono fun _ _ h=>⟨h.1,h.2.symm⟩)))
      go_wp2_with fail
      go_roundw
      case rel=>exact⟨1,by omega,by go_num,by exact Qf,BX.fr (by exact Qf)⟩
      case measure=>(simp[intOf];omega)
    · have hk0:0<k:=by omega
      obtain⟨y,hy⟩: ∃ y,edgeAt xs (k-1)=y:=⟨_,rfl⟩
      have hL:=HS.out k hk0 hlt
      rw[hy,HXX.out]at hL
      have fy:=fa (k-1) (by omega)
      rw[hy]at fy
      obtain⟨g0,g1,g2⟩:=fy
      have hyl:=y.f1.toNat_lt
      have gk:decide (0<(k:Int))=true:=by simp;omega
      have hk2:((k-1:Nat):Int)<xs.length:=by omega
      have hwk:IntKind.i64.wrap ((k:Int)-1)=((k-1:Nat):Int):=by rw[IntWalk.i64_in _ (by omega)];omega
      have RG: ∀ w',Sf (wr.alloc (.cells #[.int .i64 x.f0,.int .u8 (x.f1.toNat:Int),.int .i64 x.f2] 195)) w'→ ∀ o,w'.cell? ⟨w.heap.size,o,none⟩= #[Value.int .i64 n,.slice (some ⟨ba,oa,none⟩) xs.length ca,.slice eo bs.length ce][o]? :=fun w' h o=>((BX.alloc _).fr h.out).cell o
      have RX: ∀ w',Sf (wr.alloc (.cells #[.int .i64 x.f0,.int .u8 (x.f1.toNat:Int),.int .i64 x.f2] 195)) w'→ ∀ o,w'.cell? ⟨wr.heap.size,o,none⟩= #[Value.int .i64 x.f0,.int .u8 (x.f1.toNat:Int),.int .i64 x.f2][o]? :=fun w' h o=>((Box.new _ _ _).fr h.out).cell o
      have P0: ∀ w',Sf (wr.alloc (.cells #[.int .i64 x.f0,.int .u8 (x.f1.toNat:Int),.int .i64 x.f2] 195)) w'→w'.cell? _=_:=fun w' h=>((hfr.trans (((Fr.refl _).alloc _).trans h.out)).cell (p:=⟨ba,_,none⟩) hba).trans g0
      have P1: ∀ w',Sf (wr.alloc (.cells #[.int .i64 x.f0,.int .u8 (x.f1.toNat:Int),.int .i64 x.f2] 195)) w'→w'.cell? _=_:=fun w' h=>((hfr.trans (((Fr.refl _).alloc _).trans h.out)).cell (p:=⟨ba,_,none⟩) hba).trans g1
      have P2: ∀ w',Sf (wr.alloc (.cells #[.int .i64 x.f0,.int .u8 (x.f1.toNat:Int),.int .i64 x.f2] 195)) w'→w'.cell? _=_:=fun w' h=>((hfr.trans (((Fr.refl _).alloc _).trans h.out)).cell (p:=⟨ba,_,none⟩) hba).trans g2
      have CT:Hid (∀ w',Calls Tryz.prog 220 #[.agg #[.int .i64 y.f0,.int .u8 (y.f1.toNat:Int),.int .i64 y.f2],.agg #[.int .i64 x.f0,.int .u8 (x.f1.toNat:Int),.int .i64 x.f2]] w' fun e w''=>e= .returned (.bool true)∧Fr w' w''):=Lib.hid fun w'=>by rw[← hL];exact l07Less_any y x w'
      clear hL hy fa g0 g1 g2
      go_wp2_with fail
      go_region_held3 (fun w'=>Sf (wr.alloc (.cells #[.int .i64 x.f0,.int .u8 (x.f1.toNat:Int),.int .i64 x.f2] 195)) w') ((refine Sf.mk ?_;repeat(first|(with_reducible exact Fr.refl _)|(with_reducible assumption)|(with_reducible refine Fr.drewN ?_ _)|(with_reducible refine Fr.drew ?_)|(with_reducible refine Fr.alloc ?_ _)|(with_reducible refine Fr.setCell ?_ (by exact Qz) _)|(with_reducible refine Fr.trans ?_ (by with_reducible assumption))))) (first|(go_at_call 69;refine(l01In_any _ _ _ _).mono ?_;rintro e w1 ⟨rfl,rfl⟩)|(go_at_call 220;refine(CT.out _).mono ?_;rintro e w5 ⟨rfl,hf5⟩))
      all_goals
       clear hwk
       go_wp2_with fail
       go_roundw
       case rel=>exact⟨k+1,by omega,by go_num,by exact Qf,BX.fr (by exact Qf)⟩
       case measure=>(simp[intOf];omega)
  · go_wp2_with fail
    go_ret
    exact⟨rfl,by exact Qf⟩
theorem lok_any {ps:List PieceD} (hp:pathB ps=true) {w0:World} {pv:Value} (hv:PiecesR w0 pv ps): ∀ f,LokC ps w0 pv f:=by
 intro f
 induction f with
 |zero=>intro b p s xs lv av w _ _ _ _ _ h;omega
 |succ f ih=>
  intro b p s xs lv av w hf0 hlo h hA hok hpf hl hn
  by_cases h1:(nAt ps p).f0=1
  · have:occA ps p=1:=by
     unfold occA
     rw[occL_at ps hl,occS,if_pos h1,pieceB_step ((pathB_out hp).2 p hl) h1]
     rfl
    rw[this]at hn ⊢
    exact lok_step hp hv f b p s xs lv av w hf0 h hA hok hl (by omega) h1
  · by_cases h2:(nAt ps p).f0=2
    · exact lok_row hp hv f ih b p s xs lv av w hf0 hlo h hA hok hpf hl hn h2
    · by_cases h3:(nAt ps p).f0=3
      · exact lok_alt hp hv f ih b p s xs lv av w hf0 hlo h hA hok hpf hl hn h3
      · exact lok_post hp hv f ih b p s xs lv av w hf0 hlo h hA hok hpf hl hn h1 h2 h3
/-- The arcs of the whole: those of the pieces, those from the beginning. -/
theorem arcs_whole {r:StD×SpD} {xs:List EdgeR} {L:List Int} (hA:ArcS r.1 xs) (hL:InL L r.2.first) (hok:StOk r.1) (hf: ∀ j,r.2.first j=true→j<r.1.labs.length):putsE xs (joinL r.1.labs [0] L)=arcC r.1.labs (goP r):=by
 refine srt_eq (srt_putsE hA.1) (srt_arcC _ _) fun x=>?_
 rw[mem_putsE,hA.2 x,mem_joinL,mem_arcC]
 constructor
 · rintro(⟨i,j,h1,rfl⟩|⟨a,ha,t,ht,rfl⟩)
   · have:=hok i j h1
     exact⟨i+1,j,by omega,this.2,h1,rfl⟩
   · rw[List.mem_singleton]at ha
     obtain⟨j,h2,rfl⟩:=(hL t).1 ht
     exact⟨0,j,by omega,hf j h2,h2,by subst ha;unfold arcE;simp⟩
 · rintro⟨s,j,h1,h2,h3,rfl⟩
   cases s with
   |zero=>exact .inr ⟨0,by simp,(j:Int)+1,(hL _).2 ⟨j,h3,rfl⟩,by unfold arcE;simp⟩
   |succ i=>exact .inl ⟨i,j,h3,rfl⟩
theorem gluA_ok {ps:List PieceD} (hp:pathB ps=true):GluOk ⟨[],fun _ _=>false⟩ (gluA ps) (occA ps (ps.length-1)):=by
 have:=(pathB_out hp).1
 exact glu_ok hp ps.length (ps.length-1) (by omega) (by omega) _
theorem gluA_len {ps:List PieceD} (hp:pathB ps=true):(gluA ps).1.labs.length=occA ps (ps.length-1):=by
 have:=(gluA_ok hp).len
 simpa using this
/-- Every label is one of the four. -/
def LabOk (l:List UInt8):Prop:= ∀ c∈l,97≤c.toNat∧c.toNat≤100
theorem glu_labs {ps:List PieceD} (hp:pathB ps=true): ∀ f p,p<f→p<ps.length→ ∀ s,LabOk s.labs→LabOk (glu ps f p s).1.labs:=by
 intro f
 induction f with
 |zero=>intro p h;omega
 |succ f ih=>
  intro p hf hl s hs
  have hx:=(pathB_out hp).2 p hl
  have row: ∀ k,k≤(nAt ps p).f2.length→LabOk (rowS (glu ps f) (nAt ps p).f2 s k).1.labs:=by
   intro k
   induction k with
   |zero=>intro _;exact hs
   |succ k ihk=>
    intro hk
    have h1:=kAt_lt hp hl (show k<(nAt ps p).f2.length by omega)
    exact ih _ (by omega) (by omega) _ (ihk (by omega))
  have alt: ∀ k,k≤(nAt ps p).f2.length→LabOk (altS (glu ps f) (nAt ps p).f2 s k).1.labs:=by
   intro k
   induction k with
   |zero=>intro _;exact hs
   |succ k ihk=>
    intro hk
    have h1:=kAt_lt hp hl (show k<(nAt ps p).f2.length by omega)
    exact ih _ (by omega) (by omega) _ (ihk (by omega))
  rw[glu]
  simp only[]
  by_cases h1:(nAt ps p).f0=1
  · rw[if_pos h1]
    intro c hc
    rw[List.mem_append,List.mem_singleton]at hc
    rcases hc with hc|rfl
    · exact hs c hc
    · unfold pieceB at hx
      rw[if_pos h1]at hx
      simp at hx
      exact hx.1
  · rw[if_neg h1]
    by_cases h2:(nAt ps p).f0=2
    · rw[if_pos h2];exact row _ (Nat.le_refl _)
    · rw[if_neg h2]
      by_cases h3:(nAt ps p).f0=3
      · rw[if_pos h3];exact alt _ (Nat.le_refl _)
      · rw[if_neg h3]
        obtain⟨hl1,_⟩:=pieceB_one hx h1 h2 h3
        have hk:=kAt_lt hp hl (show 0<(nAt ps p).f2.length by omega)
        exact ih _ (by omega) (by omega) s hs
theorem srt_at {xs:List EdgeR} (h:Srt xs) {k:Nat} (h0:0<k) (hk:k<xs.length):edgeLt (edgeAt xs (k-1)) (edgeAt xs k)=true:=by
 have:=(List.pairwise_iff_getElem.1 h) (k-1) k (by omega) hk (by omega)
 simpa [edgeAt,List.getD,List.getElem?_eq_getElem hk,List.getElem?_eq_getElem (show k-1<xs.length by omega)]using this
theorem arcC_ok {labs:List UInt8} {P:Nat→Nat→Bool} (hl:LabOk labs) {k:Nat} (hk:k<(arcC labs P).length):(0≤(edgeAt (arcC labs P) k).f0∧(edgeAt (arcC labs P) k).f0<(labs.length:Int)+1)∧(0≤(edgeAt (arcC labs P) k).f2∧(edgeAt (arcC labs P) k).f2<(labs.length:Int)+1)∧97≤(edgeAt (arcC labs P) k).f1.toNat∧(edgeAt (arcC labs P) k).f1.toNat≤100:=by
 have hm:edgeAt (arcC labs P) k∈arcC labs P:=by
  simp only[edgeAt,List.getD,List.getElem?_eq_getElem hk,Option.getD_some]
  exact List.getElem_mem hk
 obtain⟨s,j,h1,h2,_,e⟩:=mem_arcC.1 hm
 rw[e]
 unfold arcE
 simp only[]
 have hc:nAt labs j∈labs:=by
  simp only[nAt,List.getD,List.getElem?_eq_getElem h2,Option.getD_some]
  exact List.getElem_mem h2
 have:=hl _ hc
 omega
set_option maxHeartbeats 40000000 in
set_option maxRecDepth 100000 in
theorem specPathOk_any (v:Value) (ps:List PieceD) (w:World) (hv:PiecesR w v ps):
  Calls Tryz.prog 165 #[.agg #[v]] w fun e w'=>e= .returned (.bool (pathB ps))∧Fr w w':=by
 have hvl:ps.length≤9223372036854775807:=NestR.le hv
 obtain⟨av,bv,ov,cv,rfl,hcv,hmv,fv⟩:=hv.one
 have FV:=Lib.hid fv
 clear hv fv
 have HN:Hid (∀ k,k<ps.length→pieceB (nAt ps k) k=false→pathB ps=false):=Lib.hid fun k hk h=>pathB_no hk h
 have HY:Hid ((∀ j,j<ps.length→pieceB (nAt ps j) j=true)→pathB ps=decide ((1:Int)≤(ps.length:Int)∧(ps.length:Int)≤60)):=Lib.hid fun h=>by rw[pathB_ok h,Bool.eq_iff_iff,decide_eq_true_eq,decide_eq_true_eq];omega
 go_enter Tryz.func165,Tryz.ntmps165
 go_wp2_with fail
 go_loopw [3,4,5,6] (fun i _ _ _ wr=> ∃ k:Nat,k≤ps.length∧i= .int .i64 k∧Fr w wr∧Hid (∀ j,j<k→pieceB (nAt ps j) j=true)∧Box wr w.heap.size #[.slice av ps.length cv] 140) (fun i _ _ _ _=>ps.length-(intOf i).toNat)
 case atStart=>exact⟨0,Nat.zero_le _,rfl,by exact Qf,Lib.hid (fun j hj=>absurd hj (by omega)),Box.new _ _ _⟩
 case round=>
  obtain⟨k,hk,rfl,hfr,hj,BW⟩:=hrel
  have FW:=BW.facts
  have zr:=hfr.size
  by_cases hlt:k<ps.length
  · obtain⟨rfl,hbv,fv⟩:=FV.out (by omega)
    obtain⟨va,ha,g0,g1,g2⟩:=fv k hlt
    obtain⟨x,hx⟩: ∃ x,nAt ps k=x:=⟨_,rfl⟩
    rw[hx]at ha g0 g1
    have c0:=(hfr.cell (p:=⟨bv,_,none⟩) hbv).trans g0
    have c1:=(hfr.cell (p:=⟨bv,_,none⟩) hbv).trans g1
    have c2:=(hfr.cell (p:=⟨bv,_,none⟩) hbv).trans g2
    have hxl:=x.f1.toNat_lt
    obtain⟨aa,ba,oa,ca,rfl,hca,hma,fa⟩:=ha.one
    have FA:=Lib.hid fa
    have hwk:IntKind.i64.wrap ((k:Int)-1)=(k:Int)-1:=IntWalk.i64_in _ (by omega)
    obtain⟨x0,x1,x2⟩:=x
    simp only[]at c0 c1 c2 hxl FA hca
    have HX:=Lib.hid hx
    clear fv ha g0 g1 g2 hx fa
    by_cases h1:x0=1
    · subst h1
      by_cases hlab:97≤x1.toNat∧x1.toNat≤100
      · by_cases hlen:x2.length=0
        · have HB:Hid (pieceB ⟨1,x1,x2⟩ k=kidsB k x2):=Lib.hid (by rw[List.eq_nil_of_length_eq_zero hlen];unfold pieceB;simp[hlab,kidsB])
          obtain⟨hlab1,hlab2⟩:=hlab
          have g1:decide ((x1.toNat:Int)<97)=false:=by rw[decide_eq_false_iff_not];omega
          have g2:decide (100<(x1.toNat:Int))=false:=by rw[decide_eq_false_iff_not];omega
          go_wp2_with fail
          go_loopw [6] (fun q wz=> ∃ m:Nat,m≤x2.length∧q= .int .i64 m∧Fr wr wz∧Hid (∀ j,j<m→0≤iAt x2 j∧iAt x2 j<(k:Int))∧Box wz wr.heap.size #[.int .i64 1,.int .u8 (x1.toNat:Int),.slice aa 0 ca] 255) (fun q _=>x2.length-(intOf q).toNat)
          case atStart=>exact⟨0,Nat.zero_le _,rfl,by exact Qf,Lib.hid (fun j hj=>absurd hj (by omega)),Box.new _ _ _⟩
          case round=>
           obtain⟨m,hm,rfl,hfz,hkj,BZ⟩:=hrel
           have FZ:=BZ.facts
           have zz:=hfz.size
           by_cases hmt:m<x2.length
           · exact absurd hmt (by omega)
           · have hj3:Hid (∀ j,j<k+1→pieceB (nAt ps j) j=true):=Lib.hid fun j h=>by
              rcases Nat.lt_succ_iff_lt_or_eq.1 h with h|rfl
              · exact hj.out j h
              · rw[HX.out,HB.out];exact kidsB_all (fun j h=>hkj.out j (by omega))
             have BW2:=BW.fr hfz
             clear hwk
             go_wp2_with fail
             go_roundw
             case rel=>exact⟨k+1,by omega,by go_num,by exact Qf,hj3,BW2⟩
             case measure=>(simp[intOf];omega)
        · obtain⟨hlab1,hlab2⟩:=hlab
          have hF:=Lib.hid (HN.out k hlt (HX.out▸(by unfold pieceB;simp[hlen])))
          have g1:decide ((x1.toNat:Int)<97)=false:=by rw[decide_eq_false_iff_not];omega
          have g2:decide (100<(x1.toNat:Int))=false:=by rw[decide_eq_false_iff_not];omega
          have g3:((x2.length:Int) !=0)=true:=by rw[bne_iff_ne];omega
          go_wp2_with fail
          go_ret
          exact⟨ret_bool hF.out.symm,by exact Qf⟩
      · by_cases hlo:x1.toNat<97
        · have g1:decide ((x1.toNat:Int)<97)=true:=decide_eq_true (by omega)
          have hF:=Lib.hid (HN.out k hlt (HX.out▸(by unfold pieceB;simp[hlab])))
          go_wp2_with fail
          go_ret
          exact⟨ret_bool hF.out.symm,by exact Qf⟩
        · have g1:decide ((x1.toNat:Int)<97)=false:=by rw[decide_eq_false_iff_not];omega
          have g2:decide (100<(x1.toNat:Int))=true:=decide_eq_true (by omega)
          have hF:=Lib.hid (HN.out k hlt (HX.out▸(by unfold pieceB;simp[hlab])))
          go_wp2_with fail
          go_ret
          exact⟨ret_bool hF.out.symm,by exact Qf⟩
    by_cases h2:x0=2
    · subst h2
      clear h1
      by_cases hlab:x1.toNat=0
      · by_cases hlen:2≤x2.length
        · have HB:Hid (pieceB ⟨2,x1,x2⟩ k=kidsB k x2):=Lib.hid (by unfold pieceB;simp[hlab,hlen])
          go_wp2_with fail
          go_loopw [6] (fun q wz=> ∃ m:Nat,m≤x2.length∧q= .int .i64 m∧Fr wr wz∧Hid (∀ j,j<m→0≤iAt x2 j∧iAt x2 j<(k:Int))∧Box wz wr.heap.size #[.int .i64 2,.int .u8 0,.slice aa x2.length ca] 255) (fun q _=>x2.length-(intOf q).toNat)
          case atStart=>exact⟨0,Nat.zero_le _,rfl,by exact Qf,Lib.hid (fun j hj=>absurd hj (by omega)),Box.new _ _ _⟩
          case round=>
           obtain⟨m,hm,rfl,hfz,hkj,BZ⟩:=hrel
           have FZ:=BZ.facts
           have zz:=hfz.size
           by_cases hmt:m<x2.length
           · obtain⟨rfl,hba,fa⟩:=FA.out (by omega)
             obtain⟨y,hy⟩: ∃ y,iAt x2 m=y:=⟨_,rfl⟩
             have d0:=((hfr.trans hfz).cell (p:=⟨ba,_,none⟩) hba).trans (hy▸fa m hmt)
             have HYK:=Lib.hid hy
             clear fa hy
             by_cases hy0:0≤y∧y≤(k:Int)-1
             · have gy:decide (0≤y∧y≤(k:Int)-1)=true:=decide_eq_true hy0
               have hj2:Hid (∀ j,j<m+1→0≤iAt x2 j∧iAt x2 j<(k:Int)):=Lib.hid fun j h=>by
                rcases Nat.lt_succ_iff_lt_or_eq.1 h with h|rfl
                · exact hkj.out j h
                · rw[HYK.out];omega
               clear hy0
               go_wp2_with(go_at_call 69;refine(l01In_any _ _ _ _).mono ?_;rintro e w1 ⟨rfl,rfl⟩)
               go_roundw
               case rel=>exact⟨m+1,by omega,by go_num,hfz,hj2,BZ⟩
               case measure=>first|(simp[intOf];omega)|(simp[intOf];done)
             · have gy:decide (0≤y∧y≤(k:Int)-1)=false:=decide_eq_false hy0
               have hF:=Lib.hid (HN.out k hlt (HX.out▸(by rw[HB.out];exact kidsB_no hmt HYK.out (by omega))))
               clear hy0
               go_wp2_with(go_at_call 69;refine(l01In_any _ _ _ _).mono ?_;rintro e w1 ⟨rfl,rfl⟩)
               go_ret
               exact⟨ret_bool hF.out.symm,by exact Qf⟩
           · have hj3:Hid (∀ j,j<k+1→pieceB (nAt ps j) j=true):=Lib.hid fun j h=>by
              rcases Nat.lt_succ_iff_lt_or_eq.1 h with h|rfl
              · exact hj.out j h
              · rw[HX.out,HB.out];exact kidsB_all (fun j h=>hkj.out j (by omega))
             have BW2:=BW.fr hfz
             clear hwk
             go_wp2_with fail
             go_roundw
             case rel=>exact⟨k+1,by omega,by go_num,by exact Qf,hj3,BW2⟩
             case measure=>(simp[intOf];omega)
        · have g3:decide ((x2.length:Int)<2)=true:=decide_eq_true (by omega)
          have hF:=Lib.hid (HN.out k hlt (HX.out▸(by unfold pieceB;simp[hlen])))
          go_wp2_with fail
          go_ret
          exact⟨ret_bool hF.out.symm,by exact Qf⟩
      · have g1:((x1.toNat:Int) !=0)=true:=by rw[bne_iff_ne];omega
        have hF:=Lib.hid (HN.out k hlt (HX.out▸(by unfold pieceB;simp[hlab])))
        go_wp2_with fail
        go_ret
        exact⟨ret_bool hF.out.symm,by exact Qf⟩
    by_cases h3:x0=3
    · subst h3
      clear h1 h2
      by_cases hlab:x1.toNat=0
      · by_cases hlen:2≤x2.length
        · have HB:Hid (pieceB ⟨3,x1,x2⟩ k=kidsB k x2):=Lib.hid (by unfold pieceB;simp[hlab,hlen])
          go_wp2_with fail
          go_loopw [6] (fun q wz=> ∃ m:Nat,m≤x2.length∧q= .int .i64 m∧Fr wr wz∧Hid (∀ j,j<m→0≤iAt x2 j∧iAt x2 j<(k:Int))∧Box wz wr.heap.size #[.int .i64 3,.int .u8 0,.slice aa x2.length ca] 255) (fun q _=>x2.length-(intOf q).toNat)
          case atStart=>exact⟨0,Nat.zero_le _,rfl,by exact Qf,Lib.hid (fun j hj=>absurd hj (by omega)),Box.new _ _ _⟩
          case round=>
           obtain⟨m,hm,rfl,hfz,hkj,BZ⟩:=hrel
           have FZ:=BZ.facts
           have zz:=hfz.size
           by_cases hmt:m<x2.length
           · obtain⟨rfl,hba,fa⟩:=FA.out (by omega)
             obtain⟨y,hy⟩: ∃ y,iAt x2 m=y:=⟨_,rfl⟩
             have d0:=((hfr.trans hfz).cell (p:=⟨ba,_,none⟩) hba).trans (hy▸fa m hmt)
             have HYK:=Lib.hid hy
             clear fa hy
             by_cases hy0:0≤y∧y≤(k:Int)-1
             · have gy:decide (0≤y∧y≤(k:Int)-1)=true:=decide_eq_true hy0
               have hj2:Hid (∀ j,j<m+1→0≤iAt x2 j∧iAt x2 j<(k:Int)):=Lib.hid fun j h=>by
                rcases Nat.lt_succ_iff_lt_or_eq.1 h with h|rfl
                · exact hkj.out j h
                · rw[HYK.out];omega
               clear hy0
               go_wp2_with(go_at_call 69;refine(l01In_any _ _ _ _).mono ?_;rintro e w1 ⟨rfl,rfl⟩)
               go_roundw
               case rel=>exact⟨m+1,by omega,by go_num,hfz,hj2,BZ⟩
               case measure=>first|(simp[intOf];omega)|(simp[intOf];done)
             · have gy:decide (0≤y∧y≤(k:Int)-1)=false:=decide_eq_false hy0
               have hF:=Lib.hid (HN.out k hlt (HX.out▸(by rw[HB.out];exact kidsB_no hmt HYK.out (by omega))))
               clear hy0
               go_wp2_with(go_at_call 69;refine(l01In_any _ _ _ _).mono ?_;rintro e w1 ⟨rfl,rfl⟩)
               go_ret
               exact⟨ret_bool hF.out.symm,by exact Qf⟩
           · have hj3:Hid (∀ j,j<k+1→pieceB (nAt ps j) j=true):=Lib.hid fun j h=>by
              rcases Nat.lt_succ_iff_lt_or_eq.1 h with h|rfl
              · exact hj.out j h
              · rw[HX.out,HB.out];exact kidsB_all (fun j h=>hkj.out j (by omega))
             have BW2:=BW.fr hfz
             clear hwk
             go_wp2_with fail
             go_roundw
             case rel=>exact⟨k+1,by omega,by go_num,by exact Qf,hj3,BW2⟩
             case measure=>(simp[intOf];omega)
        · have g3:decide ((x2.length:Int)<2)=true:=decide_eq_true (by omega)
          have hF:=Lib.hid (HN.out k hlt (HX.out▸(by unfold pieceB;simp[hlen])))
          go_wp2_with fail
          go_ret
          exact⟨ret_bool hF.out.symm,by exact Qf⟩
      · have g1:((x1.toNat:Int) !=0)=true:=by rw[bne_iff_ne];omega
        have hF:=Lib.hid (HN.out k hlt (HX.out▸(by unfold pieceB;simp[hlab])))
        go_wp2_with fail
        go_ret
        exact⟨ret_bool hF.out.symm,by exact Qf⟩
    by_cases h4:x0=4
    · subst h4
      clear h1 h2 h3
      by_cases hlab:x1.toNat=0
      · by_cases hlen:x2.length=1
        · have HB:Hid (pieceB ⟨4,x1,x2⟩ k=kidsB k x2):=Lib.hid (by unfold pieceB;simp[hlab,hlen])
          go_wp2_with fail
          go_loopw [6] (fun q wz=> ∃ m:Nat,m≤x2.length∧q= .int .i64 m∧Fr wr wz∧Hid (∀ j,j<m→0≤iAt x2 j∧iAt x2 j<(k:Int))∧Box wz wr.heap.size #[.int .i64 4,.int .u8 0,.slice aa 1 ca] 255) (fun q _=>x2.length-(intOf q).toNat)
          case atStart=>exact⟨0,Nat.zero_le _,rfl,by exact Qf,Lib.hid (fun j hj=>absurd hj (by omega)),Box.new _ _ _⟩
          case round=>
           obtain⟨m,hm,rfl,hfz,hkj,BZ⟩:=hrel
           have FZ:=BZ.facts
           have zz:=hfz.size
           by_cases hmt:m<x2.length
           · obtain⟨rfl,hba,fa⟩:=FA.out (by omega)
             obtain⟨y,hy⟩: ∃ y,iAt x2 m=y:=⟨_,rfl⟩
             have d0:=((hfr.trans hfz).cell (p:=⟨ba,_,none⟩) hba).trans (hy▸fa m hmt)
             have HYK:=Lib.hid hy
             clear fa hy
             by_cases hy0:0≤y∧y≤(k:Int)-1
             · have gy:decide (0≤y∧y≤(k:Int)-1)=true:=decide_eq_true hy0
               have hj2:Hid (∀ j,j<m+1→0≤iAt x2 j∧iAt x2 j<(k:Int)):=Lib.hid fun j h=>by
                rcases Nat.lt_succ_iff_lt_or_eq.1 h with h|rfl
                · exact hkj.out j h
                · rw[HYK.out];omega
               clear hy0
               go_wp2_with(go_at_call 69;refine(l01In_any _ _ _ _).mono ?_;rintro e w1 ⟨rfl,rfl⟩)
               go_roundw
               case rel=>exact⟨m+1,by omega,by go_num,hfz,hj2,BZ⟩
               case measure=>first|(simp[intOf];omega)|(simp[intOf];done)
             · have gy:decide (0≤y∧y≤(k:Int)-1)=false:=decide_eq_false hy0
               have hF:=Lib.hid (HN.out k hlt (HX.out▸(by rw[HB.out];exact kidsB_no hmt HYK.out (by omega))))
               clear hy0
               go_wp2_with(go_at_call 69;refine(l01In_any _ _ _ _).mono ?_;rintro e w1 ⟨rfl,rfl⟩)
               go_ret
               exact⟨ret_bool hF.out.symm,by exact Qf⟩
           · have hj3:Hid (∀ j,j<k+1→pieceB (nAt ps j) j=true):=Lib.hid fun j h=>by
              rcases Nat.lt_succ_iff_lt_or_eq.1 h with h|rfl
              · exact hj.out j h
              · rw[HX.out,HB.out];exact kidsB_all (fun j h=>hkj.out j (by omega))
             have BW2:=BW.fr hfz
             clear hwk
             go_wp2_with fail
             go_roundw
             case rel=>exact⟨k+1,by omega,by go_num,by exact Qf,hj3,BW2⟩
             case measure=>(simp[intOf];omega)
        · have g3:((x2.length:Int) !=1)=true:=by rw[bne_iff_ne];omega
          have hF:=Lib.hid (HN.out k hlt (HX.out▸(by unfold pieceB;simp[hlen])))
          go_wp2_with fail
          go_ret
          exact⟨ret_bool hF.out.symm,by exact Qf⟩
      · have g1:((x1.toNat:Int) !=0)=true:=by rw[bne_iff_ne];omega
        have hF:=Lib.hid (HN.out k hlt (HX.out▸(by unfold pieceB;simp[hlab])))
        go_wp2_with fail
        go_ret
        exact⟨ret_bool hF.out.symm,by exact Qf⟩
    by_cases h5:x0=5
    · subst h5
      clear h1 h2 h3 h4
      by_cases hlab:x1.toNat=0
      · by_cases hlen:x2.length=1
        · have HB:Hid (pieceB ⟨5,x1,x2⟩ k=kidsB k x2):=Lib.hid (by unfold pieceB;simp[hlab,hlen])
          go_wp2_with fail
          go_loopw [6] (fun q wz=> ∃ m:Nat,m≤x2.length∧q= .int .i64 m∧Fr wr wz∧Hid (∀ j,j<m→0≤iAt x2 j∧iAt x2 j<(k:Int))∧Box wz wr.heap.size #[.int .i64 5,.int .u8 0,.slice aa 1 ca] 255) (fun q _=>x2.length-(intOf q).toNat)
          case atStart=>exact⟨0,Nat.zero_le _,rfl,by exact Qf,Lib.hid (fun j hj=>absurd hj (by omega)),Box.new _ _ _⟩
          case round=>
           obtain⟨m,hm,rfl,hfz,hkj,BZ⟩:=hrel
           have FZ:=BZ.facts
           have zz:=hfz.size
           by_cases hmt:m<x2.length
           · obtain⟨rfl,hba,fa⟩:=FA.out (by omega)
             obtain⟨y,hy⟩: ∃ y,iAt x2 m=y:=⟨_,rfl⟩
             have d0:=((hfr.trans hfz).cell (p:=⟨ba,_,none⟩) hba).trans (hy▸fa m hmt)
             have HYK:=Lib.hid hy
             clear fa hy
             by_cases hy0:0≤y∧y≤(k:Int)-1
             · have gy:decide (0≤y∧y≤(k:Int)-1)=true:=decide_eq_true hy0
               have hj2:Hid (∀ j,j<m+1→0≤iAt x2 j∧iAt x2 j<(k:Int)):=Lib.hid fun j h=>by
                rcases Nat.lt_succ_iff_lt_or_eq.1 h with h|rfl
                · exact hkj.out j h
                · rw[HYK.out];omega
               clear hy0
               go_wp2_with(go_at_call 69;refine(l01In_any _ _ _ _).mono ?_;rintro e w1 ⟨rfl,rfl⟩)
               go_roundw
               case rel=>exact⟨m+1,by omega,by go_num,hfz,hj2,BZ⟩
               case measure=>first|(simp[intOf];omega)|(simp[intOf];done)
             · have gy:decide (0≤y∧y≤(k:Int)-1)=false:=decide_eq_false hy0
               have hF:=Lib.hid (HN.out k hlt (HX.out▸(by rw[HB.out];exact kidsB_no hmt HYK.out (by omega))))
               clear hy0
               go_wp2_with(go_at_call 69;refine(l01In_any _ _ _ _).mono ?_;rintro e w1 ⟨rfl,rfl⟩)
               go_ret
               exact⟨ret_bool hF.out.symm,by exact Qf⟩
           · have hj3:Hid (∀ j,j<k+1→pieceB (nAt ps j) j=true):=Lib.hid fun j h=>by
              rcases Nat.lt_succ_iff_lt_or_eq.1 h with h|rfl
              · exact hj.out j h
              · rw[HX.out,HB.out];exact kidsB_all (fun j h=>hkj.out j (by omega))
             have BW2:=BW.fr hfz
             clear hwk
             go_wp2_with fail
             go_roundw
             case rel=>exact⟨k+1,by omega,by go_num,by exact Qf,hj3,BW2⟩
             case measure=>(simp[intOf];omega)
        · have g3:((x2.length:Int) !=1)=true:=by rw[bne_iff_ne];omega
          have hF:=Lib.hid (HN.out k hlt (HX.out▸(by unfold pieceB;simp[hlen])))
          go_wp2_with fail
          go_ret
          exact⟨ret_bool hF.out.symm,by exact Qf⟩
      · have g1:((x1.toNat:Int) !=0)=true:=by rw[bne_iff_ne];omega
        have hF:=Lib.hid (HN.out k hlt (HX.out▸(by unfold pieceB;simp[hlab])))
        go_wp2_with fail
        go_ret
        exact⟨ret_bool hF.out.symm,by exact Qf⟩
    by_cases h6:x0=6
    · subst h6
      clear h1 h2 h3 h4 h5
      by_cases hlab:x1.toNat=0
      · by_cases hlen:x2.length=1
        · have HB:Hid (pieceB ⟨6,x1,x2⟩ k=kidsB k x2):=Lib.hid (by unfold pieceB;simp[hlab,hlen])
          go_wp2_with fail
          go_loopw [6] (fun q wz=> ∃ m:Nat,m≤x2.length∧q= .int .i64 m∧Fr wr wz∧Hid (∀ j,j<m→0≤iAt x2 j∧iAt x2 j<(k:Int))∧Box wz wr.heap.size #[.int .i64 6,.int .u8 0,.slice aa 1 ca] 255) (fun q _=>x2.length-(intOf q).toNat)
          case atStart=>exact⟨0,Nat.zero_le _,rfl,by exact Qf,Lib.hid (fun j hj=>absurd hj (by omega)),Box.new _ _ _⟩
          case round=>
           obtain⟨m,hm,rfl,hfz,hkj,BZ⟩:=hrel
           have FZ:=BZ.facts
           have zz:=hfz.size
           by_cases hmt:m<x2.length
           · obtain⟨rfl,hba,fa⟩:=FA.out (by omega)
             obtain⟨y,hy⟩: ∃ y,iAt x2 m=y:=⟨_,rfl⟩
             have d0:=((hfr.trans hfz).cell (p:=⟨ba,_,none⟩) hba).trans (hy▸fa m hmt)
             have HYK:=Lib.hid hy
             clear fa hy
             by_cases hy0:0≤y∧y≤(k:Int)-1
             · have gy:decide (0≤y∧y≤(k:Int)-1)=true:=decide_eq_true hy0
               have hj2:Hid (∀ j,j<m+1→0≤iAt x2 j∧iAt x2 j<(k:Int)):=Lib.hid fun j h=>by
                rcases Nat.lt_succ_iff_lt_or_eq.1 h with h|rfl
                · exact hkj.out j h
                · rw[HYK.out];omega
               clear hy0
               go_wp2_with(go_at_call 69;refine(l01In_any _ _ _ _).mono ?_;rintro e w1 ⟨rfl,rfl⟩)
               go_roundw
               case rel=>exact⟨m+1,by omega,by go_num,hfz,hj2,BZ⟩
               case measure=>first|(simp[intOf];omega)|(simp[intOf];done)
             · have gy:decide (0≤y∧y≤(k:Int)-1)=false:=decide_eq_false hy0
               have hF:=Lib.hid (HN.out k hlt (HX.out▸(by rw[HB.out];exact kidsB_no hmt HYK.out (by omega))))
               clear hy0
               go_wp2_with(go_at_call 69;refine(l01In_any _ _ _ _).mono ?_;rintro e w1 ⟨rfl,rfl⟩)
               go_ret
               exact⟨ret_bool hF.out.symm,by exact Qf⟩
           · have hj3:Hid (∀ j,j<k+1→pieceB (nAt ps j) j=true):=Lib.hid fun j h=>by
              rcases Nat.lt_succ_iff_lt_or_eq.1 h with h|rfl
              · exact hj.out j h
              · rw[HX.out,HB.out];exact kidsB_all (fun j h=>hkj.out j (by omega))
             have BW2:=BW.fr hfz
             clear hwk
             go_wp2_with fail
             go_roundw
             case rel=>exact⟨k+1,by omega,by go_num,by exact Qf,hj3,BW2⟩
             case measure=>(simp[intOf];omega)
        · have g3:((x2.length:Int) !=1)=true:=by rw[bne_iff_ne];omega
          have hF:=Lib.hid (HN.out k hlt (HX.out▸(by unfold pieceB;simp[hlen])))
          go_wp2_with fail
          go_ret
          exact⟨ret_bool hF.out.symm,by exact Qf⟩
      · have g1:((x1.toNat:Int) !=0)=true:=by rw[bne_iff_ne];omega
        have hF:=Lib.hid (HN.out k hlt (HX.out▸(by unfold pieceB;simp[hlab])))
        go_wp2_with fail
        go_ret
        exact⟨ret_bool hF.out.symm,by exact Qf⟩
    have hF:=Lib.hid (HN.out k hlt (HX.out▸(by unfold pieceB;simp[h1,h2,h3,h4,h5,h6])))
    have q1:(x0==1)=false:=by simpa using h1
    have q2:(x0==2)=false:=by simpa using h2
    have q3:(x0==3)=false:=by simpa using h3
    have q4:(x0==4)=false:=by simpa using h4
    have q5:(x0==5)=false:=by simpa using h5
    have q6:(x0==6)=false:=by simpa using h6
    clear h1 h2 h3 h4 h5 h6
    go_wp2_with fail
    go_ret
    exact⟨ret_bool hF.out.symm,by exact Qf⟩
  · have hF:=Lib.hid (HY.out (fun j h=>hj.out j (by omega)))
    go_wp2_with(go_at_call 69;refine(l01In_any _ _ _ _).mono ?_;rintro e w1 ⟨rfl,rfl⟩)
    go_ret
    exact⟨ret_bool (by rw[hF.out,Bool.decide_and]),by exact Qf⟩
end Go.Proofs.YtjnahjgncmcmdaaGreat