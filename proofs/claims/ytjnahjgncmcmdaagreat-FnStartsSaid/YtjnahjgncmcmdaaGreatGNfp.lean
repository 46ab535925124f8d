/- Texts in one: Pth, Rel, Nfp. -/
import Derived.Test.YtjnahjgncmcmdaaGreatGGrOk
import Derived.Test.YtjnahjgncmcmdaaGreatGSWalk
import Derived.Test.YtjnahjgncmcmdaaGreatGUnf
namespace Go.Proofs.YtjnahjgncmcmdaaGreat
open Go.RowKit
set_option linter.unusedVariables false
set_option linter.unusedSimpArgs false
structure PieceD where
 f0:Int
 f1:UInt8
 f2:List Int
deriving DecidableEq
instance:Inhabited PieceD:=⟨⟨0,0,[]⟩⟩
def kidsB (n:Nat) (l:List Int):Bool:=l.all fun k=>decide (0≤k∧k<(n:Int))
def pieceB (x:PieceD) (n:Nat):Bool:=
 if x.f0=1 then decide (97≤x.f1.toNat∧x.f1.toNat≤100)&&decide (x.f2.length=0)
 else if x.f0=2∨x.f0=3 then decide (2≤x.f2.length)&&(kidsB n x.f2&&decide (x.f1.toNat=0))
 else if x.f0=4∨x.f0=5∨x.f0=6 then decide (x.f2.length=1)&&(kidsB n x.f2&&decide (x.f1.toNat=0))
 else false
def pathB (ps:List PieceD):Bool:=decide (1≤ps.length∧ps.length≤60)&&(List.range ps.length).all fun k=>pieceB (nAt ps k) k
theorem kidsB_no {n:Nat} {l:List Int} {k:Nat} (hk:k<l.length) {x:Int} (hx:iAt l k=x) (h: ¬ (0≤x∧x<(n:Int))):kidsB n l=false:=by
 unfold kidsB
 rw[List.all_eq_false]
 refine⟨l[k],List.getElem_mem hk,?_⟩
 have e:l[k]=x:=by rw[← hx];simp[iAt,List.getD,List.getElem?_eq_getElem hk]
 rw[e,decide_eq_true_eq]
 exact h
theorem kidsB_all {n:Nat} {l:List Int} (h: ∀ j,j<l.length→0≤iAt l j∧iAt l j<(n:Int)):kidsB n l=true:=by
 unfold kidsB
 rw[List.all_eq_true]
 intro x hx
 obtain⟨k,hk,rfl⟩:=List.mem_iff_getElem.1 hx
 have:=h k hk
 rw[show iAt l k=l[k] by simp[iAt,List.getD,List.getElem?_eq_getElem hk]]at this
 simpa using this
theorem pathB_far {ps:List PieceD} (h: ¬ (1≤ps.length∧ps.length≤60)):pathB ps=false:=by unfold pathB;rw[decide_eq_false h];rfl
theorem pathB_no {ps:List PieceD} {k:Nat} (hk:k<ps.length) (h:pieceB (nAt ps k) k=false):pathB ps=false:=by unfold pathB;rw[rng_not_all (p:=fun k=>pieceB (nAt ps k) k) hk h,Bool.and_false]
theorem pathB_ok {ps:List PieceD} (h: ∀ j,j<ps.length→pieceB (nAt ps j) j=true):pathB ps=decide (1≤ps.length∧ps.length≤60):=by unfold pathB;rw[rng_all (p:=fun k=>pieceB (nAt ps k) k) h,Bool.and_true]
theorem pathB_out {ps:List PieceD} (h:pathB ps=true):(1≤ps.length∧ps.length≤60)∧ ∀ j,j<ps.length→pieceB (nAt ps j) j=true:=by
 unfold pathB at h
 simp only[Bool.and_eq_true,decide_eq_true_eq,List.all_eq_true]at h
 exact⟨h.1,fun j hj=>h.2 j (List.mem_range.2 hj)⟩
/-- What the cells of a piece read as. -/
def PieceE (w:World) (u:List Value) (d:PieceD):Prop:= ∃ a,u=[.int .i64 d.f0,.int .u8 (d.f1.toNat:Int),a]∧IntsR w a d.f2
theorem PieceE.fr {w w':World} {u:List Value} {d:PieceD} (h:PieceE w u d) (hf:Fr w w'):PieceE w' u d:=by obtain⟨a,h1,h2⟩:=h;exact⟨a,h1,h2.fr hf⟩
def PiecesR (w:World) (v:Value) (ps:List PieceD):Prop:=NestR PieceE 3 w v ps
theorem PiecesR.fr {w w':World} {v:Value} {ps:List PieceD} (h:PiecesR w v ps) (hf:Fr w w'):PiecesR w' v ps:=NestR.fr (E:=PieceE) (fun a b=>PieceE.fr a b) h hf
theorem PiecesR.one {w:World} {v:Value} {ps:List PieceD} (h:PiecesR w v ps):
  ∃ ao b o cap,v= .slice ao ps.length cap∧ps.length≤cap∧cap≤9223372036854775807∧(0<ps.length→ao=some ⟨b,o,none⟩∧b<w.heap.size∧ ∀ k,k<ps.length→ ∃ a,IntsR w a (nAt ps k).f2∧w.cell? ⟨b,o+k*3,none⟩=some (.int .i64 (nAt ps k).f0)∧w.cell? ⟨b,o+k*3+1,none⟩=some (.int .u8 ((nAt ps k).f1.toNat:Int))∧w.cell? ⟨b,o+k*3+2,none⟩=some a):=by
 obtain⟨ao,b,o,cap,h1,h2,h3,h4⟩:=NestR.one h
 refine⟨ao,b,o,cap,h1,h2,h3,fun hn=>⟨(h4 hn).1,(h4 hn).2.1,fun k hk=>?_⟩⟩
 obtain⟨u,_,⟨a,hu,ha⟩,hc⟩:=(h4 hn).2.2 k hk
 rw[hu]at hc
 exact⟨a,ha,by simpa using hc 0 _ (by omega) rfl,by have:=hc 1 _ (by omega) rfl;exact this,by have:=hc 2 _ (by omega) rfl;exact this⟩
theorem info_Piece:(Tryz.prog.info? 255).map (fun i=>(i.zero,i.size,i.bytes))=some (some (.agg #[.int .i64 0,.int .u8 0,.slice none 0 0]),3,40):=by kernel_rfl
set_option maxHeartbeats 4000000 in
set_option maxRecDepth 100000 in
theorem pieceOk_any (x:PieceD) (va:Value) (n:Nat) (w:World) (hv:IntsR w va x.f2) (hn:n≤1048576):
  Calls Tryz.prog 209 #[.agg #[.int .i64 x.f0,.int .u8 (x.f1.toNat:Int),va],.int .i64 n] w fun e w'=>e= .returned (.bool (pieceB x n))∧Fr w w':=by
 obtain⟨av,bv,ov,cv,rfl,hcv,hmv,fv⟩:=hv.one
 have FV:=Lib.hid fv
 have hxl:=x.f1.toNat_lt
 clear hv fv
 by_cases h1:x.f0=1
 · have HB:Hid (pieceB x n=(decide (97≤x.f1.toNat∧x.f1.toNat≤100)&&decide (x.f2.length=0))):=Lib.hid (by unfold pieceB;rw[if_pos h1])
   obtain⟨x0,x1,x2⟩:=x
   simp only[]at h1 HB hxl FV ⊢
   subst h1
   obtain⟨lb,hlb⟩: ∃ lb,decide (97≤x1.toNat∧x1.toNat≤100)=lb:=⟨_,rfl⟩
   have CL:Hid (∀ w',Calls Tryz.prog 134 #[.int .u8 (x1.toNat:Int)] w' fun e w''=>e= .returned (.bool lb)∧w''=w'):=Lib.hid fun w'=>by rw[← hlb];exact isLabel_any x1 w'
   rw[hlb]at HB
   clear hlb
   cases lb
   · go_enter Tryz.func209,Tryz.ntmps209
     go_wp2_with(go_at_call 134;refine(CL.out _).mono ?_;rintro e w1 ⟨rfl,rfl⟩)
     go_ret
     exact⟨ret_bool (by rw[HB.out];rfl),by exact Qf⟩
   · by_cases hl:x2.length=0
     · have q:((x2.length:Int)==0)=true:=by simp[hl]
       go_enter Tryz.func209,Tryz.ntmps209
       go_wp2_with(go_at_call 134;refine(CL.out _).mono ?_;rintro e w1 ⟨rfl,rfl⟩)
       go_ret
       exact⟨ret_bool (by rw[HB.out,hl];first|rfl|simp),by exact Qf⟩
     · have q:((x2.length:Int)==0)=false:=by rw[beq_eq_false_iff_ne];omega
       go_enter Tryz.func209,Tryz.ntmps209
       go_wp2_with(go_at_call 134;refine(CL.out _).mono ?_;rintro e w1 ⟨rfl,rfl⟩)
       go_ret
       exact⟨ret_bool (by rw[HB.out,decide_eq_false hl];first|rfl|simp),by exact Qf⟩
 by_cases h2:x.f0=2
 · have HB:Hid (pieceB x n=(decide (2≤x.f2.length)&&(kidsB n x.f2&&decide (x.f1.toNat=0)))):=Lib.hid (by unfold pieceB;rw[if_neg h1,if_pos (.inl h2)])
   obtain⟨x0,x1,x2⟩:=x
   simp only[]at h1 h2 HB hxl FV ⊢
   subst h2
   clear h1
   by_cases hl:2≤x2.length
   · have HN:Hid (∀ k,k<x2.length→ ∀ y,iAt x2 k=y→ ¬ (0≤y∧y<(n:Int))→pieceB ⟨2,x1,x2⟩ n=false):=Lib.hid fun k hk y hy h=>by rw[HB.out,kidsB_no hk hy h];simp
     have HY:Hid ((∀ j,j<x2.length→0≤iAt x2 j∧iAt x2 j<(n:Int))→pieceB ⟨2,x1,x2⟩ n=decide (x1.toNat=0)):=Lib.hid fun h=>by rw[HB.out,kidsB_all h,decide_eq_true hl];rfl
     clear HB
     go_enter Tryz.func209,Tryz.ntmps209
     go_wp2_with fail
     go_loopw [6,38] (fun _ i wr=> ∃ k:Nat,k≤x2.length∧i= .int .i64 k∧Fr w wr∧Hid (∀ j,j<k→0≤iAt x2 j∧iAt x2 j<(n:Int))∧Box wr w.heap.size #[.int .i64 2,.int .u8 (x1.toNat:Int),.slice av x2.length cv] 255) (fun _ i _=>x2.length-(intOf i).toNat)
     case atStart=>exact⟨0,Nat.zero_le _,rfl,by exact Qf,Lib.hid (fun j hj=>absurd hj (by omega)),Box.new _ _ _⟩
     case round=>
      obtain⟨k,hk,rfl,hfr,hj,BX⟩:=hrel
      have FX:=BX.facts
      by_cases hlt:k<x2.length
      · obtain⟨rfl,hbv,fv⟩:=FV.out (by omega)
        obtain⟨y,hy⟩: ∃ y,iAt x2 k=y:=⟨_,rfl⟩
        have c0:=(hfr.cell (p:=⟨bv,_,none⟩) hbv).trans (hy▸fv k hlt)
        have HYK:=Lib.hid hy
        clear fv hy
        by_cases hy0:y<0
        · have hF:=Lib.hid (HN.out k hlt y HYK.out (by omega))
          go_wp2_with fail
          go_ret
          exact⟨ret_bool hF.out.symm,by exact Qf⟩
        · by_cases hy1:(n:Int)≤y
          · have hF:=Lib.hid (HN.out k hlt y HYK.out (by omega))
            go_wp2_with fail
            go_ret
            exact⟨ret_bool hF.out.symm,by exact Qf⟩
          · have hj2:Hid (∀ j,j<k+1→0≤iAt x2 j∧iAt x2 j<(n:Int)):=Lib.hid fun j h=>by
             rcases Nat.lt_succ_iff_lt_or_eq.1 h with h|rfl
             · exact hj.out j h
             · rw[HYK.out];omega
            go_wp2_with fail
            go_roundw
            case rel=>exact⟨k+1,by omega,by go_num,by exact Qf,hj2,BX⟩
            case measure=>(simp[intOf];omega)
      · have hF:=Lib.hid (HY.out (fun j h=>hj.out j (by omega)))
        go_wp2_with fail
        go_ret
        exact⟨ret_bool (by rw[hF.out];by_cases h0:x1.toNat=0<;>simp[h0]),by exact Qf⟩
   · have hF:Hid (pieceB ⟨2,x1,x2⟩ n=false):=Lib.hid (by rw[HB.out,decide_eq_false hl];rfl)
     clear HB
     go_enter Tryz.func209,Tryz.ntmps209
     go_wp2_with fail
     go_ret
     exact⟨ret_bool hF.out.symm,by exact Qf⟩
 by_cases h3:x.f0=3
 · have HB:Hid (pieceB x n=(decide (2≤x.f2.length)&&(kidsB n x.f2&&decide (x.f1.toNat=0)))):=Lib.hid (by unfold pieceB;rw[if_neg h1,if_pos (.inr h3)])
   obtain⟨x0,x1,x2⟩:=x
   simp only[]at h1 h2 h3 HB hxl FV ⊢
   subst h3
   clear h1 h2
   by_cases hl:2≤x2.length
   · have HN:Hid (∀ k,k<x2.length→ ∀ y,iAt x2 k=y→ ¬ (0≤y∧y<(n:Int))→pieceB ⟨3,x1,x2⟩ n=false):=Lib.hid fun k hk y hy h=>by rw[HB.out,kidsB_no hk hy h];simp
     have HY:Hid ((∀ j,j<x2.length→0≤iAt x2 j∧iAt x2 j<(n:Int))→pieceB ⟨3,x1,x2⟩ n=decide (x1.toNat=0)):=Lib.hid fun h=>by rw[HB.out,kidsB_all h,decide_eq_true hl];rfl
     clear HB
     go_enter Tryz.func209,Tryz.ntmps209
     go_wp2_with fail
     go_loopw [6,38] (fun _ i wr=> ∃ k:Nat,k≤x2.length∧i= .int .i64 k∧Fr w wr∧Hid (∀ j,j<k→0≤iAt x2 j∧iAt x2 j<(n:Int))∧Box wr w.heap.size #[.int .i64 3,.int .u8 (x1.toNat:Int),.slice av x2.length cv] 255) (fun _ i _=>x2.length-(intOf i).toNat)
     case atStart=>exact⟨0,Nat.zero_le _,rfl,by exact Qf,Lib.hid (fun j hj=>absurd hj (by omega)),Box.new _ _ _⟩
     case round=>
      obtain⟨k,hk,rfl,hfr,hj,BX⟩:=hrel
      have FX:=BX.facts
      by_cases hlt:k<x2.length
      · obtain⟨rfl,hbv,fv⟩:=FV.out (by omega)
        obtain⟨y,hy⟩: ∃ y,iAt x2 k=y:=⟨_,rfl⟩
        have c0:=(hfr.cell (p:=⟨bv,_,none⟩) hbv).trans (hy▸fv k hlt)
        have HYK:=Lib.hid hy
        clear fv hy
        by_cases hy0:y<0
        · have hF:=Lib.hid (HN.out k hlt y HYK.out (by omega))
          go_wp2_with fail
          go_ret
          exact⟨ret_bool hF.out.symm,by exact Qf⟩
        · by_cases hy1:(n:Int)≤y
          · have hF:=Lib.hid (HN.out k hlt y HYK.out (by omega))
            go_wp2_with fail
            go_ret
            exact⟨ret_bool hF.out.symm,by exact Qf⟩
          · have hj2:Hid (∀ j,j<k+1→0≤iAt x2 j∧iAt x2 j<(n:Int)):=Lib.hid fun j h=>by
             rcases Nat.lt_succ_iff_lt_or_eq.1 h with h|rfl
             · exact hj.out j h
             · rw[HYK.out];omega
            go_wp2_with fail
            go_roundw
            case rel=>exact⟨k+1,by omega,by go_num,by exact Qf,hj2,BX⟩
            case measure=>(simp[intOf];omega)
      · have hF:=Lib.hid (HY.out (fun j h=>hj.out j (by omega)))
        go_wp2_with fail
        go_ret
        exact⟨ret_bool (by rw[hF.out];by_cases h0:x1.toNat=0<;>simp[h0]),by exact Qf⟩
   · have hF:Hid (pieceB ⟨3,x1,x2⟩ n=false):=Lib.hid (by rw[HB.out,decide_eq_false hl];rfl)
     clear HB
     go_enter Tryz.func209,Tryz.ntmps209
     go_wp2_with fail
     go_ret
     exact⟨ret_bool hF.out.symm,by exact Qf⟩
 by_cases h4:x.f0=4
 · have HB:Hid (pieceB x n=(decide (x.f2.length=1)&&(kidsB n x.f2&&decide (x.f1.toNat=0)))):=Lib.hid (by unfold pieceB;rw[if_neg h1,if_neg (by rintro(h|h)<;>contradiction),if_pos (.inl h4)])
   obtain⟨x0,x1,x2⟩:=x
   simp only[]at h1 h2 h3 h4 HB hxl FV ⊢
   subst h4
   clear h1 h2 h3
   by_cases hl:x2.length=1
   · have HN:Hid (∀ k,k<x2.length→ ∀ y,iAt x2 k=y→ ¬ (0≤y∧y<(n:Int))→pieceB ⟨4,x1,x2⟩ n=false):=Lib.hid fun k hk y hy h=>by rw[HB.out,kidsB_no hk hy h];simp
     have HY:Hid ((∀ j,j<x2.length→0≤iAt x2 j∧iAt x2 j<(n:Int))→pieceB ⟨4,x1,x2⟩ n=decide (x1.toNat=0)):=Lib.hid fun h=>by rw[HB.out,kidsB_all h,decide_eq_true hl];rfl
     clear HB
     go_enter Tryz.func209,Tryz.ntmps209
     go_wp2_with fail
     go_loopw [6,38] (fun _ i wr=> ∃ k:Nat,k≤x2.length∧i= .int .i64 k∧Fr w wr∧Hid (∀ j,j<k→0≤iAt x2 j∧iAt x2 j<(n:Int))∧Box wr w.heap.size #[.int .i64 4,.int .u8 (x1.toNat:Int),.slice av 1 cv] 255) (fun _ i _=>x2.length-(intOf i).toNat)
     case atStart=>exact⟨0,Nat.zero_le _,rfl,by exact Qf,Lib.hid (fun j hj=>absurd hj (by omega)),Box.new _ _ _⟩
     case round=>
      obtain⟨k,hk,rfl,hfr,hj,BX⟩:=hrel
      have FX:=BX.facts
      by_cases hlt:k<x2.length
      · obtain⟨rfl,hbv,fv⟩:=FV.out (by omega)
        obtain⟨y,hy⟩: ∃ y,iAt x2 k=y:=⟨_,rfl⟩
        have c0:=(hfr.cell (p:=⟨bv,_,none⟩) hbv).trans (hy▸fv k hlt)
        have HYK:=Lib.hid hy
        clear fv hy
        by_cases hy0:y<0
        · have hF:=Lib.hid (HN.out k hlt y HYK.out (by omega))
          go_wp2_with fail
          go_ret
          exact⟨ret_bool hF.out.symm,by exact Qf⟩
        · by_cases hy1:(n:Int)≤y
          · have hF:=Lib.hid (HN.out k hlt y HYK.out (by omega))
            go_wp2_with fail
            go_ret
            exact⟨ret_bool hF.out.symm,by exact Qf⟩
          · have hj2:Hid (∀ j,j<k+1→0≤iAt x2 j∧iAt x2 j<(n:Int)):=Lib.hid fun j h=>by
             rcases Nat.lt_succ_iff_lt_or_eq.1 h with h|rfl
             · exact hj.out j h
             · rw[HYK.out];omega
            go_wp2_with fail
            go_roundw
            case rel=>exact⟨k+1,by omega,by go_num,by exact Qf,hj2,BX⟩
            case measure=>(simp[intOf];omega)
      · have hF:=Lib.hid (HY.out (fun j h=>hj.out j (by omega)))
        go_wp2_with fail
        go_ret
        exact⟨ret_bool (by rw[hF.out];by_cases h0:x1.toNat=0<;>simp[h0]),by exact Qf⟩
   · have hF:Hid (pieceB ⟨4,x1,x2⟩ n=false):=Lib.hid (by rw[HB.out,decide_eq_false hl];rfl)
     clear HB
     have q:((x2.length:Int) !=1)=true:=by rw[bne_iff_ne];omega
     go_enter Tryz.func209,Tryz.ntmps209
     go_wp2_with fail
     go_ret
     exact⟨ret_bool hF.out.symm,by exact Qf⟩
 by_cases h5:x.f0=5
 · have HB:Hid (pieceB x n=(decide (x.f2.length=1)&&(kidsB n x.f2&&decide (x.f1.toNat=0)))):=Lib.hid (by unfold pieceB;rw[if_neg h1,if_neg (by rintro(h|h)<;>contradiction),if_pos (.inr (.inl h5))])
   obtain⟨x0,x1,x2⟩:=x
   simp only[]at h1 h2 h3 h4 h5 HB hxl FV ⊢
   subst h5
   clear h1 h2 h3 h4
   by_cases hl:x2.length=1
   · have HN:Hid (∀ k,k<x2.length→ ∀ y,iAt x2 k=y→ ¬ (0≤y∧y<(n:Int))→pieceB ⟨5,x1,x2⟩ n=false):=Lib.hid fun k hk y hy h=>by rw[HB.out,kidsB_no hk hy h];simp
     have HY:Hid ((∀ j,j<x2.length→0≤iAt x2 j∧iAt x2 j<(n:Int))→pieceB ⟨5,x1,x2⟩ n=decide (x1.toNat=0)):=Lib.hid fun h=>by rw[HB.out,kidsB_all h,decide_eq_true hl];rfl
     clear HB
     go_enter Tryz.func209,Tryz.ntmps209
     go_wp2_with fail
     go_loopw [6,38] (fun _ i wr=> ∃ k:Nat,k≤x2.length∧i= .int .i64 k∧Fr w wr∧Hid (∀ j,j<k→0≤iAt x2 j∧iAt x2 j<(n:Int))∧Box wr w.heap.size #[.int .i64 5,.int .u8 (x1.toNat:Int),.slice av 1 cv] 255) (fun _ i _=>x2.length-(intOf i).toNat)
     case atStart=>exact⟨0,Nat.zero_le _,rfl,by exact Qf,Lib.hid (fun j hj=>absurd hj (by omega)),Box.new _ _ _⟩
     case round=>
      obtain⟨k,hk,rfl,hfr,hj,BX⟩:=hrel
      have FX:=BX.facts
      by_cases hlt:k<x2.length
      · obtain⟨rfl,hbv,fv⟩:=FV.out (by omega)
        obtain⟨y,hy⟩: ∃ y,iAt x2 k=y:=⟨_,rfl⟩
        have c0:=(hfr.cell (p:=⟨bv,_,none⟩) hbv).trans (hy▸fv k hlt)
        have HYK:=Lib.hid hy
        clear fv hy
        by_cases hy0:y<0
        · have hF:=Lib.hid (HN.out k hlt y HYK.out (by omega))
          go_wp2_with fail
          go_ret
          exact⟨ret_bool hF.out.symm,by exact Qf⟩
        · by_cases hy1:(n:Int)≤y
          · have hF:=Lib.hid (HN.out k hlt y HYK.out (by omega))
            go_wp2_with fail
            go_ret
            exact⟨ret_bool hF.out.symm,by exact Qf⟩
          · have hj2:Hid (∀ j,j<k+1→0≤iAt x2 j∧iAt x2 j<(n:Int)):=Lib.hid fun j h=>by
             rcases Nat.lt_succ_iff_lt_or_eq.1 h with h|rfl
             · exact hj.out j h
             · rw[HYK.out];omega
            go_wp2_with fail
            go_roundw
            case rel=>exact⟨k+1,by omega,by go_num,by exact Qf,hj2,BX⟩
            case measure=>(simp[intOf];omega)
      · have hF:=Lib.hid (HY.out (fun j h=>hj.out j (by omega)))
        go_wp2_with fail
        go_ret
        exact⟨ret_bool (by rw[hF.out];by_cases h0:x1.toNat=0<;>simp[h0]),by exact Qf⟩
   · have hF:Hid (pieceB ⟨5,x1,x2⟩ n=false):=Lib.hid (by rw[HB.out,decide_eq_false hl];rfl)
     clear HB
     have q:((x2.length:Int) !=1)=true:=by rw[bne_iff_ne];omega
     go_enter Tryz.func209,Tryz.ntmps209
     go_wp2_with fail
     go_ret
     exact⟨ret_bool hF.out.symm,by exact Qf⟩
 by_cases h6:x.f0=6
 · have HB:Hid (pieceB x n=(decide (x.f2.length=1)&&(kidsB n x.f2&&decide (x.f1.toNat=0)))):=Lib.hid (by unfold pieceB;rw[if_neg h1,if_neg (by rintro(h|h)<;>contradiction),if_pos (.inr (.inr h6))])
   obtain⟨x0,x1,x2⟩:=x
   simp only[]at h1 h2 h3 h4 h5 h6 HB hxl FV ⊢
   subst h6
   clear h1 h2 h3 h4 h5
   by_cases hl:x2.length=1
   · have HN:Hid (∀ k,k<x2.length→ ∀ y,iAt x2 k=y→ ¬ (0≤y∧y<(n:Int))→pieceB ⟨6,x1,x2⟩ n=false):=Lib.hid fun k hk y hy h=>by rw[HB.out,kidsB_no hk hy h];simp
     have HY:Hid ((∀ j,j<x2.length→0≤iAt x2 j∧iAt x2 j<(n:Int))→pieceB ⟨6,x1,x2⟩ n=decide (x1.toNat=0)):=Lib.hid fun h=>by rw[HB.out,kidsB_all h,decide_eq_true hl];rfl
     clear HB
     go_enter Tryz.func209,Tryz.ntmps209
     go_wp2_with fail
     go_loopw [6,38] (fun _ i wr=> ∃ k:Nat,k≤x2.length∧i= .int .i64 k∧Fr w wr∧Hid (∀ j,j<k→0≤iAt x2 j∧iAt x2 j<(n:Int))∧Box wr w.heap.size #[.int .i64 6,.int .u8 (x1.toNat:Int),.slice av 1 cv] 255) (fun _ i _=>x2.length-(intOf i).toNat)
     case atStart=>exact⟨0,Nat.zero_le _,rfl,by exact Qf,Lib.hid (fun j hj=>absurd hj (by omega)),Box.new _ _ _⟩
     case round=>
      obtain⟨k,hk,rfl,hfr,hj,BX⟩:=hrel
      have FX:=BX.facts
      by_cases hlt:k<x2.length
      · obtain⟨rfl,hbv,fv⟩:=FV.out (by omega)
        obtain⟨y,hy⟩: ∃ y,iAt x2 k=y:=⟨_,rfl⟩
        have c0:=(hfr.cell (p:=⟨bv,_,none⟩) hbv).trans (hy▸fv k hlt)
        have HYK:=Lib.hid hy
        clear fv hy
        by_cases hy0:y<0
        · have hF:=Lib.hid (HN.out k hlt y HYK.out (by omega))
          go_wp2_with fail
          go_ret
          exact⟨ret_bool hF.out.symm,by exact Qf⟩
        · by_cases hy1:(n:Int)≤y
          · have hF:=Lib.hid (HN.out k hlt y HYK.out (by omega))
            go_wp2_with fail
            go_ret
            exact⟨ret_bool hF.out.symm,by exact Qf⟩
          · have hj2:Hid (∀ j,j<k+1→0≤iAt x2 j∧iAt x2 j<(n:Int)):=Lib.hid fun j h=>by
             rcases Nat.lt_succ_iff_lt_or_eq.1 h with h|rfl
             · exact hj.out j h
             · rw[HYK.out];omega
            go_wp2_with fail
            go_roundw
            case rel=>exact⟨k+1,by omega,by go_num,by exact Qf,hj2,BX⟩
            case measure=>(simp[intOf];omega)
      · have hF:=Lib.hid (HY.out (fun j h=>hj.out j (by omega)))
        go_wp2_with fail
        go_ret
        exact⟨ret_bool (by rw[hF.out];by_cases h0:x1.toNat=0<;>simp[h0]),by exact Qf⟩
   · have hF:Hid (pieceB ⟨6,x1,x2⟩ n=false):=Lib.hid (by rw[HB.out,decide_eq_false hl];rfl)
     clear HB
     have q:((x2.length:Int) !=1)=true:=by rw[bne_iff_ne];omega
     go_enter Tryz.func209,Tryz.ntmps209
     go_wp2_with fail
     go_ret
     exact⟨ret_bool hF.out.symm,by exact Qf⟩
 have hF:Hid (pieceB x n=false):=Lib.hid (by unfold pieceB;rw[if_neg h1,if_neg (by rintro(h|h)<;>contradiction),if_neg (by rintro(h|h|h)<;>contradiction)])
 obtain⟨x0,x1,x2⟩:=x
 simp only[]at h1 h2 h3 h4 h5 h6 hF hxl FV ⊢
 have q1:(x0==1)=false:=by simpa using h1
 have q2:(x0==2)=false:=by simpa using h2
 have q3:(x0==3)=false:=by simpa using h3
 have q4:(x0==4)=false:=by simpa using h4
 have q5:(x0==5)=false:=by simpa using h5
 have q6:(x0==6)=false:=by simpa using h6
 clear h1 h2 h3 h4 h5 h6
 go_enter Tryz.func209,Tryz.ntmps209
 go_wp2_with fail
 go_ret
 exact⟨ret_bool hF.out.symm,by exact Qf⟩
set_option maxHeartbeats 4000000 in
set_option maxRecDepth 100000 in
theorem implPathOk_any (v:Value) (ps:List PieceD) (w:World) (hv:PiecesR w v ps):
  Calls Tryz.prog 159 #[.agg #[v]] w fun e w'=>e= .returned (.bool (pathB ps))∧Fr w w':=by
 have HV:=Lib.hid hv
 obtain⟨av,bv,ov,cv,rfl,hcv,hmv,fv⟩:=hv.one
 have FV:=Lib.hid fv
 clear hv fv
 by_cases hl:1≤ps.length∧ps.length≤60
 · have HN:Hid (∀ k,k<ps.length→pieceB (nAt ps k) k=false→pathB ps=false):=Lib.hid fun k hk h=>pathB_no hk h
   have HY:Hid ((∀ j,j<ps.length→pieceB (nAt ps j) j=true)→pathB ps=true):=Lib.hid fun h=>by rw[pathB_ok h,decide_eq_true hl]
   obtain⟨hl1,hl2⟩:=hl
   go_enter Tryz.func159,Tryz.ntmps159
   go_wp2_with fail
   go_loopw [3,4,18] (fun _ _ i wr=> ∃ k:Nat,k≤ps.length∧i= .int .i64 k∧Fr w wr∧Hid (∀ j,j<k→pieceB (nAt ps j) j=true)) (fun _ _ i _=>ps.length-(intOf i).toNat)
   case atStart=>exact⟨0,Nat.zero_le _,rfl,by exact Qf,Lib.hid (fun j hj=>absurd hj (by omega))⟩
   case round=>
    obtain⟨k,hk,rfl,hfr,hj⟩:=hrel
    by_cases hlt:k<ps.length
    · obtain⟨rfl,hbv,fv⟩:=FV.out (by omega)
      obtain⟨va,ha,g0,g1,g2⟩:=fv k hlt
      obtain⟨x,hx⟩: ∃ x,nAt ps k=x:=⟨_,rfl⟩
      rw[hx]at ha g0 g1
      have c0:=(hfr.cell (p:=⟨bv,_,none⟩) hbv).trans g0
      have c1:=(hfr.cell (p:=⟨bv,_,none⟩) hbv).trans g1
      have c2:=(hfr.cell (p:=⟨bv,_,none⟩) hbv).trans g2
      have hxl:=x.f1.toNat_lt
      obtain⟨aa,ba,oa,ca,rfl,_,_,_⟩:=ha.one
      obtain⟨pb,hpb⟩: ∃ pb,pieceB x k=pb:=⟨_,rfl⟩
      have HA:=Lib.hid ha
      have CP:Hid (∀ w',Fr wr w'→Calls Tryz.prog 209 #[.agg #[.int .i64 x.f0,.int .u8 (x.f1.toNat:Int),.slice aa x.f2.length ca],.int .i64 k] w' fun e w''=>e= .returned (.bool pb)∧Fr w' w''):=Lib.hid fun w' h=>by rw[← hpb];exact pieceOk_any x _ k w' (HA.out.fr (hfr.trans h)) (by omega)
      have HX:Hid (pieceB (nAt ps k) k=pb):=Lib.hid (by rw[hx];exact hpb)
      clear fv ha g0 g1 g2 hx hpb
      cases pb
      · have hF:=Lib.hid (HN.out k hlt HX.out)
        go_wp2_with fail
        refine(CP.out _ (by exact Qf)).mono ?_
        rintro e w1 ⟨rfl,hf1⟩
        go_wp2_with fail
        go_ret
        exact⟨ret_bool hF.out.symm,by exact Qf⟩
      · have hj2:Hid (∀ j,j<k+1→pieceB (nAt ps j) j=true):=Lib.hid fun j h=>by
         rcases Nat.lt_succ_iff_lt_or_eq.1 h with h|rfl
         · exact hj.out j h
         · exact HX.out
        go_wp2_with fail
        refine(CP.out _ (by exact Qf)).mono ?_
        rintro e w1 ⟨rfl,hf1⟩
        go_wp2_with fail
        go_roundw
        case rel=>exact⟨k+1,by omega,by go_num,by exact Qf,hj2⟩
        case measure=>(simp[intOf];omega)
    · have hF:=Lib.hid (HY.out (fun j h=>hj.out j (by omega)))
      go_wp2_with fail
      go_ret
      exact⟨ret_bool hF.out.symm,by exact Qf⟩
 · have hF:=Lib.hid (pathB_far hl)
   by_cases h1:ps.length<1
   · clear hl
     go_enter Tryz.func159,Tryz.ntmps159
     go_wp2_with fail
     go_ret
     exact⟨ret_bool hF.out.symm,by exact Qf⟩
   · have h2:60<ps.length:=by omega
     clear hl
     go_enter Tryz.func159,Tryz.ntmps159
     go_wp2_with fail
     go_ret
     exact⟨ret_bool hF.out.symm,by exact Qf⟩
def Sup (n:Nat) (a:(Nat→Nat→Bool)):Prop:= ∀ i j,a i j=true→i<n∧j<n
def rNo:(Nat→Nat→Bool):=fun _ _=>false
def rId (n:Nat):(Nat→Nat→Bool):=fun i j=>decide (i=j∧i<n)
def rComp (n:Nat) (a b:(Nat→Nat→Bool)):(Nat→Nat→Bool):=fun i j=>(List.range n).any fun k=>a i k&&b k j
def rOr (a b:(Nat→Nat→Bool)):(Nat→Nat→Bool):=fun i j=>a i j||b i j
def wsh (a:(Nat→Nat→Bool)):Nat→(Nat→Nat→Bool)
 |0=>a
 |k+1=>fun i j=>wsh a k i j||(wsh a k i k&&wsh a k k j)
def rnd (n:Nat) (a:(Nat→Nat→Bool)):Nat→(Nat→Nat→Bool)
 |0=>a
 |r+1=>rOr (rnd n a r) (rComp n (rnd n a r) a)
theorem rl_ext {a b:(Nat→Nat→Bool)} (h: ∀ i j,a i j=true↔b i j=true):a=b:=by
 funext i j
 exact Bool.eq_iff_iff.2 (h i j)
theorem rComp_iff {n:Nat} {a b:(Nat→Nat→Bool)} {i j:Nat}:rComp n a b i j=true↔ ∃ k,k<n∧a i k=true∧b k j=true:=by
 unfold rComp
 simp[List.any_eq_true,List.mem_range]
theorem rOr_iff {a b:(Nat→Nat→Bool)} {i j:Nat}:rOr a b i j=true↔a i j=true∨b i j=true:=by
 unfold rOr
 simp
theorem rId_iff {n i j:Nat}:rId n i j=true↔i=j∧i<n:=by
 unfold rId
 simp
theorem wsh_succ_iff {a:(Nat→Nat→Bool)} {k i j:Nat}:wsh a (k+1) i j=true↔wsh a k i j=true∨(wsh a k i k=true∧wsh a k k j=true):=by
 rw[wsh]
 simp
theorem sup_no (n:Nat):Sup n rNo:=fun i j h=>by cases h
theorem sup_dflt (n:Nat):Sup n (default:Nat→Nat→Bool):=fun i j h=>by cases h
theorem sup_id (n:Nat):Sup n (rId n):=fun i j h=>by rw[rId_iff]at h;omega
theorem sup_or {n:Nat} {a b:(Nat→Nat→Bool)} (ha:Sup n a) (hb:Sup n b):Sup n (rOr a b):=fun i j h=>by
 rcases rOr_iff.1 h with h|h
 · exact ha _ _ h
 · exact hb _ _ h
theorem sup_comp {n:Nat} {a b:(Nat→Nat→Bool)} (ha:Sup n a) (hb:Sup n b):Sup n (rComp n a b):=fun i j h=>by
 obtain⟨k,hk,h1,h2⟩:=rComp_iff.1 h
 exact⟨(ha _ _ h1).1,(hb _ _ h2).2⟩
theorem sup_wsh {n:Nat} {a:(Nat→Nat→Bool)} (ha:Sup n a): ∀ k,Sup n (wsh a k)
 |0=>ha
 |k+1=>fun i j h=>by
  rcases wsh_succ_iff.1 h with h|⟨h1,h2⟩
  · exact sup_wsh ha k _ _ h
  · exact⟨(sup_wsh ha k _ _ h1).1,(sup_wsh ha k _ _ h2).2⟩
theorem id_comp {n:Nat} {a:(Nat→Nat→Bool)} (ha:Sup n a):rComp n (rId n) a=a:=by
 refine rl_ext fun i j=>?_
 rw[rComp_iff]
 constructor
 · rintro⟨k,hk,h1,h2⟩
   rw[rId_iff]at h1
   rw[h1.1]
   exact h2
 · intro h
   exact⟨i,(ha _ _ h).1,rId_iff.2 ⟨rfl,(ha _ _ h).1⟩,h⟩
theorem no_or (a:(Nat→Nat→Bool)):rOr rNo a=a:=rl_ext fun i j=>by rw[rOr_iff];exact⟨fun h=>h.resolve_left (by intro h;cases h),.inr⟩
/-! ### again and again -/
theorem wsh_mono {a:(Nat→Nat→Bool)} {i j:Nat}: ∀ {k:Nat},a i j=true→wsh a k i j=true
 |0,h=>h
 |k+1,h=>wsh_succ_iff.2 (.inl (wsh_mono h))
theorem wsh_through {a:(Nat→Nat→Bool)}: ∀ (k:Nat) {i m j:Nat},m<k→wsh a k i m=true→wsh a k m j=true→wsh a k i j=true
 |0,_,_,_,h,_,_=>absurd h (by omega)
 |k+1,i,m,j,hm,h1,h2=>by
  rw[wsh_succ_iff]at h1 h2 ⊢
  rcases Nat.lt_or_ge m k with hk|hk
  · have T:= @wsh_through a k
    rcases h1 with h1|⟨h1,h1'⟩
    · rcases h2 with h2|⟨h2,h2'⟩
      · exact .inl (T hk h1 h2)
      · exact .inr ⟨T hk h1 h2,h2'⟩
    · rcases h2 with h2|⟨h2,h2'⟩
      · exact .inr ⟨h1,T hk h1' h2⟩
      · exact .inr ⟨h1,h2'⟩
  · obtain rfl:m=k:=by omega
    have e1:wsh a m i m=true:=by
     rcases h1 with h1|⟨h1,_⟩
     · exact h1
     · exact h1
    have e2:wsh a m m j=true:=by
     rcases h2 with h2|⟨_,h2⟩
     · exact h2
     · exact h2
    exact .inr ⟨e1,e2⟩
theorem wsh_step {n:Nat} {a:(Nat→Nat→Bool)} (ha:Sup n a) {i k j:Nat} (h1:wsh a n i k=true) (h2:a k j=true):wsh a n i j=true:=
 wsh_through n (ha _ _ h2).1 h1 (wsh_mono h2)
/-- The least of what holds a and goes on by a. -/
theorem wsh_least {a c:(Nat→Nat→Bool)} (h0: ∀ i j,a i j=true→c i j=true) (ht: ∀ i k j,c i k=true→c k j=true→c i j=true): ∀ k i j,wsh a k i j=true→c i j=true
 |0,i,j,h=>h0 i j h
 |k+1,i,j,h=>by
  rcases wsh_succ_iff.1 h with h|⟨h1,h2⟩
  · exact wsh_least h0 ht k i j h
  · exact ht _ _ _ (wsh_least h0 ht k _ _ h1) (wsh_least h0 ht k _ _ h2)
theorem rnd_sub {n:Nat} {a:(Nat→Nat→Bool)} (ha:Sup n a): ∀ r i j,rnd n a r i j=true→wsh a n i j=true
 |0,i,j,h=>wsh_mono h
 |r+1,i,j,h=>by
  rcases rOr_iff.1 h with h|h
  · exact rnd_sub ha r i j h
  · obtain⟨k,hk,h1,h2⟩:=rComp_iff.1 h
    exact wsh_step ha (rnd_sub ha r _ _ h1) h2
def cnt (p:Nat→Bool):Nat→Nat
 |0=>0
 |n+1=>cnt p n+(if p n then 1 else 0)
theorem cnt_le {p q:Nat→Bool} (h: ∀ x,p x=true→q x=true): ∀ n,cnt p n≤cnt q n
 |0=>Nat.le_refl _
 |n+1=>by
  have:=cnt_le h n
  rw[cnt,cnt]
  cases hp:p n
  · simp;omega
  · rw[h n hp];simpa using this
theorem cnt_lt {p q:Nat→Bool} (h: ∀ x,p x=true→q x=true) {x:Nat} (h1:p x=false) (h2:q x=true): ∀ n,x<n→cnt p n<cnt q n
 |0,hx=>absurd hx (by omega)
 |n+1,hx=>by
  rw[cnt,cnt]
  by_cases e:x=n
  · subst e
    rw[h1,h2]
    have:=cnt_le h x
    simp
    omega
  · have:=cnt_lt h h1 h2 n (by omega)
    cases hp:p n
    · simp;omega
    · rw[h n hp];simpa using this
theorem cnt_all (n:Nat):cnt (fun _=>true) n=n:=by
 induction n with
 |zero=>rfl
 |succ n ih=>rw[cnt,ih];simp
theorem rnd_up {n:Nat} {a:(Nat→Nat→Bool)} {r i j:Nat} (h:rnd n a r i j=true):rnd n a (r+1) i j=true:=rOr_iff.2 (.inl h)
/-- Row i goes on by a no more, or it has r places. -/
theorem rnd_row {n:Nat} {a:(Nat→Nat→Bool)} (ha:Sup n a) (i:Nat): ∀ r,(∀ k j,rnd n a r i k=true→a k j=true→rnd n a r i j=true)∨r≤cnt (rnd n a r i) n
 |0=> .inr (Nat.zero_le _)
 |r+1=>by
  rcases rnd_row ha i r with h|h
  · left
    have e: ∀ j,rnd n a (r+1) i j=true→rnd n a r i j=true:=fun j hj=>by
     rcases rOr_iff.1 hj with hj|hj
     · exact hj
     · obtain⟨k,hk,h1,h2⟩:=rComp_iff.1 hj
       exact h k j h1 h2
    exact fun k j h1 h2=>rnd_up (h k j (e k h1) h2)
  · by_cases hc: ∀ k j,rnd n a r i k=true→a k j=true→rnd n a r i j=true
    · left
      have e: ∀ j,rnd n a (r+1) i j=true→rnd n a r i j=true:=fun j hj=>by
       rcases rOr_iff.1 hj with hj|hj
       · exact hj
       · obtain⟨k,hk,h1,h2⟩:=rComp_iff.1 hj
         exact hc k j h1 h2
      exact fun k j h1 h2=>rnd_up (hc k j (e k h1) h2)
    · right
      have: ∃ k j,rnd n a r i k=true∧a k j=true∧rnd n a r i j=false:=by
       refine Classical.byContradiction fun hn=>hc fun k j h1 h2=>?_
       cases hr:rnd n a r i j
       · exact absurd ⟨k,j,h1,h2,hr⟩ hn
       · rfl
      obtain⟨k,j,h1,h2,h3⟩:=this
      have hlt:=cnt_lt (p:=rnd n a r i) (q:=rnd n a (r+1) i) (fun x hx=>rnd_up hx) h3 (rOr_iff.2 (.inr (rComp_iff.2 ⟨k,(ha _ _ h2).1,h1,h2⟩))) n (ha _ _ h2).2
      omega
theorem rnd_closed {n:Nat} {a:(Nat→Nat→Bool)} (ha:Sup n a) {i k j:Nat} (h1:rnd n a n i k=true) (h2:a k j=true):rnd n a n i j=true:=by
 rcases rnd_row ha i n with h|h
 · exact h k j h1 h2
 · cases hr:rnd n a n i j
   · have hlt:=cnt_lt (p:=rnd n a n i) (q:=fun _=>true) (fun x _=>rfl) hr rfl n (ha _ _ h2).2
     rw[cnt_all]at hlt
     omega
   · rfl
theorem rnd_has {n:Nat} {a:(Nat→Nat→Bool)} {i j:Nat} (h:a i j=true): ∀ r,rnd n a r i j=true
 |0=>h
 |r+1=>rnd_up (rnd_has h r)
theorem rnd_trans {n:Nat} {a:(Nat→Nat→Bool)} (ha:Sup n a): ∀ r {i k j:Nat},rnd n a n i k=true→rnd n a r k j=true→rnd n a n i j=true
 |0,i,k,j,h1,h2=>rnd_closed ha h1 h2
 |r+1,i,k,j,h1,h2=>by
  rcases rOr_iff.1 h2 with h2|h2
  · exact rnd_trans ha r h1 h2
  · obtain⟨m,hm,h3,h4⟩:=rComp_iff.1 h2
    exact rnd_closed ha (rnd_trans ha r h1 h3) h4
/-- Both ways mean the same. -/
theorem rnd_wsh {n:Nat} {a:(Nat→Nat→Bool)} (ha:Sup n a):rnd n a n=wsh a n:=
 rl_ext fun i j=>⟨rnd_sub ha n i j,wsh_least (fun i j h=>rnd_has h n) (fun i k j h1 h2=>rnd_trans ha n h1 h2) n i j⟩
/-! ### what a path means -/
def kAt (l:List Int) (k:Nat):Nat:=(iAt l k).toNat
def rowR (n:Nat) (acc:List (Nat→Nat→Bool)) (ks:List Int):Nat→(Nat→Nat→Bool)
 |0=>rId n
 |m+1=>rComp n (rowR n acc ks m) (nAt acc (kAt ks m))
def altR (acc:List (Nat→Nat→Bool)) (ks:List Int):Nat→(Nat→Nat→Bool)
 |0=>rNo
 |m+1=>rOr (altR acc ks m) (nAt acc (kAt ks m))
def stepR (n:Nat) (st:UInt8→(Nat→Nat→Bool)) (acc:List (Nat→Nat→Bool)) (x:PieceD):(Nat→Nat→Bool):=
 if x.f0=1 then st x.f1
 else if x.f0=2 then rowR n acc x.f2 x.f2.length
 else if x.f0=3 then altR acc x.f2 x.f2.length
 else if x.f0=4 then rOr (wsh (nAt acc (kAt x.f2 0)) n) (rId n)
 else if x.f0=5 then wsh (nAt acc (kAt x.f2 0)) n
 else rOr (nAt acc (kAt x.f2 0)) (rId n)
def denR (n:Nat) (st:UInt8→(Nat→Nat→Bool)) (ps:List PieceD):Nat→List (Nat→Nat→Bool)
 |0=>[]
 |i+1=>denR n st ps i++[stepR n st (denR n st ps i) (nAt ps i)]
def endR (n:Nat) (st:UInt8→(Nat→Nat→Bool)) (ps:List PieceD):(Nat→Nat→Bool):=nAt (denR n st ps ps.length) (ps.length-1)
theorem denR_len (n:Nat) (st:UInt8→(Nat→Nat→Bool)) (ps:List PieceD): ∀ i,(denR n st ps i).length=i
 |0=>rfl
 |i+1=>by rw[denR];simp[denR_len n st ps i]
theorem nAt_end {α:Type} [Inhabited α] (l:List α) (x:α) {k:Nat} (hk:k=l.length):nAt (l++[x]) k=x:=by subst hk;simp[nAt,List.getD]
theorem nAt_front {α:Type} [Inhabited α] (l:List α) (x:α) {k:Nat} (hk:k<l.length):nAt (l++[x]) k=nAt l k:=by simp[nAt,List.getD,List.getElem?_append_left hk]
theorem nAt_far {α:Type} [Inhabited α] (l:List α) {k:Nat} (hk:l.length≤k):nAt l k=default:=by simp[nAt,List.getD,List.getElem?_eq_none hk]
theorem sup_row {n:Nat} {acc:List (Nat→Nat→Bool)} (h: ∀ k,Sup n (nAt acc k)) (ks:List Int): ∀ m,Sup n (rowR n acc ks m)
 |0=>sup_id n
 |m+1=>sup_comp (sup_row h ks m) (h _)
theorem sup_alt {n:Nat} {acc:List (Nat→Nat→Bool)} (h: ∀ k,Sup n (nAt acc k)) (ks:List Int): ∀ m,Sup n (altR acc ks m)
 |0=>sup_no n
 |m+1=>sup_or (sup_alt h ks m) (h _)
theorem sup_stepR {n:Nat} {st:UInt8→(Nat→Nat→Bool)} {acc:List (Nat→Nat→Bool)} (hs: ∀ l,Sup n (st l)) (h: ∀ k,Sup n (nAt acc k)) (x:PieceD):Sup n (stepR n st acc x):=by
 unfold stepR
 split
 · exact hs _
 split
 · exact sup_row h _ _
 split
 · exact sup_alt h _ _
 split
 · exact sup_or (sup_wsh (h _) _) (sup_id n)
 split
 · exact sup_wsh (h _) _
 · exact sup_or (h _) (sup_id n)
theorem sup_den {n:Nat} {st:UInt8→(Nat→Nat→Bool)} (hs: ∀ l,Sup n (st l)) (ps:List PieceD): ∀ i k,Sup n (nAt (denR n st ps i) k)
 |0,k=>by rw[denR,nAt_far _ (by simp)];exact sup_dflt n
 |i+1,k=>by
  rw[denR]
  rcases Nat.lt_trichotomy k i with h|h|h
  · rw[nAt_front _ _ (by rw[denR_len];exact h)]
    exact sup_den hs ps i k
  · rw[nAt_end _ _ (by rw[denR_len];exact h)]
    exact sup_stepR hs (sup_den hs ps i) _
  · rw[nAt_far _ (by simp[denR_len];omega)]
    exact sup_dflt n
theorem sup_end {n:Nat} {st:UInt8→(Nat→Nat→Bool)} (hs: ∀ l,Sup n (st l)) (ps:List PieceD):Sup n (endR n st ps):=sup_den hs ps _ _
/-- The vertices that are reached, ascending. -/
def reachL (n:Nat) (p:Nat→Bool):List Int:=((List.range n).filter p).map fun k:Nat=>(k:Int)
theorem reachL_succ (n:Nat) (p:Nat→Bool):reachL (n+1) p=if p n=true then reachL n p++[(n:Int)]else reachL n p:=by
 unfold reachL
 rw[List.range_succ,List.filter_append]
 by_cases h:p n=true
 · simp[h]
 · simp[h]
theorem reachL_more {n m:Nat} {p:Nat→Bool} (h: ∀ k,p k=true→k<n) (hm:n≤m):reachL m p=reachL n p:=by
 obtain⟨d,rfl⟩: ∃ d,m=n+d:=⟨m-n,by omega⟩
 induction d with
 |zero=>rfl
 |succ d ih=>
  rw[show n+(d+1)=(n+d)+1 by omega,reachL_succ,if_neg (fun e=>by have:=h _ e;omega)]
  exact ih (by omega)
theorem reachL_len (n:Nat) (p:Nat→Bool):(reachL n p).length≤n:=by
 induction n with
 |zero=>simp[reachL]
 |succ n ih=>
  rw[reachL_succ]
  split
  · simp;omega
  · omega
def pairsL (R:(Nat→Nat→Bool)) (m:Nat):Nat→List (List Int)
 |0=>[]
 |v+1=>pairsL R m v++(reachL m (R v)).map fun w=>[(v:Int),w]
theorem pairsL_len (R:(Nat→Nat→Bool)) (m:Nat): ∀ v,(pairsL R m v).length≤v*m
 |0=>by simp[pairsL]
 |v+1=>by
  rw[pairsL,List.length_append,List.length_map,Nat.add_mul,Nat.one_mul]
  have:=pairsL_len R m v
  have:=reachL_len m (R v)
  omega
/-- What is known of a piece. -/
structure SpD where
 first:Nat→Bool
 last:Nat→Bool
 null:Bool
/-- The occurrences met so far: their labels, and which may follow which. -/
structure StD where
 labs:List UInt8
 fol:Nat→Nat→Bool
def noB:Nat→Bool:=fun _=>false
def oneB (n:Nat):Nat→Bool:=fun j=>decide (j=n)
def orB (a b:Nat→Bool):Nat→Bool:=fun j=>a j||b j
def ifB (c:Bool) (b:Nat→Bool):Nat→Bool:=fun j=>c&&b j
def folJ (fol:Nat→Nat→Bool) (l f:Nat→Bool):Nat→Nat→Bool:=fun i j=>fol i j||(l i&&f j)
def sp0 (b:Bool):SpD:=⟨noB,noB,b⟩
def spRow (o y:SpD):SpD:=⟨orB o.first (ifB o.null y.first),orB (ifB y.null o.last) y.last,o.null&&y.null⟩
def spAlt (o y:SpD):SpD:=⟨orB o.first y.first,orB o.last y.last,o.null||y.null⟩
def rowS (go:Nat→StD→StD×SpD) (ks:List Int) (s:StD):Nat→StD×SpD
 |0=>(s,sp0 true)
 |m+1=>
  let a:=rowS go ks s m
  let r:=go (kAt ks m) a.1
  (⟨r.1.labs,folJ r.1.fol a.2.last r.2.first⟩,spRow a.2 r.2)
def altS (go:Nat→StD→StD×SpD) (ks:List Int) (s:StD):Nat→StD×SpD
 |0=>(s,sp0 false)
 |m+1=>
  let a:=altS go ks s m
  let r:=go (kAt ks m) a.1
  (r.1,spAlt a.2 r.2)
def glu (ps:List PieceD):Nat→Nat→StD→StD×SpD
 |0,_,s=>(s,sp0 false)
 |f+1,p,s=>
  let x:=nAt ps p
  if x.f0=1 then(⟨s.labs++[x.f1],s.fol⟩,⟨oneB s.labs.length,oneB s.labs.length,false⟩)
  else if x.f0=2 then rowS (glu ps f) x.f2 s x.f2.length
  else if x.f0=3 then altS (glu ps f) x.f2 s x.f2.length
  else
   let r:=glu ps f (kAt x.f2 0) s
   (⟨r.1.labs,if x.f0=6 then r.1.fol else folJ r.1.fol r.2.last r.2.first⟩,⟨r.2.first,r.2.last,r.2.null||decide (x.f0≠5)⟩)
/-! ### how many occurrences there are -/
def occK (acc:List Nat) (ks:List Int):Nat→Nat
 |0=>0
 |m+1=>occK acc ks m+nAt acc (kAt ks m)
def occS (acc:List Nat) (x:PieceD):Nat:=(if x.f0=1 then 1 else 0)+occK acc x.f2 x.f2.length
def occL (ps:List PieceD):Nat→List Nat
 |0=>[]
 |i+1=>occL ps i++[occS (occL ps i) (nAt ps i)]
def occA (ps:List PieceD) (k:Nat):Nat:=nAt (occL ps ps.length) k
theorem occL_len (ps:List PieceD): ∀ i,(occL ps i).length=i
 |0=>rfl
 |i+1=>by rw[occL,List.length_append,occL_len ps i];rfl
theorem occL_at (ps:List PieceD) {k n:Nat} (h:k<n):nAt (occL ps n) k=occS (occL ps k) (nAt ps k):=by
 induction n with
 |zero=>omega
 |succ n ih=>
  rw[occL]
  rcases Nat.lt_or_ge k n with h1|h1
  · rw[nAt_front _ _ (by rw[occL_len];omega),ih h1]
  · obtain rfl:k=n:=by omega
    rw[nAt_end _ _ (occL_len ps k).symm]
theorem occL_same (ps:List PieceD) {k n m:Nat} (h:k<n) (h':k<m):nAt (occL ps n) k=nAt (occL ps m) k:=by rw[occL_at ps h,occL_at ps h']
theorem occL_app (ps more:List PieceD): ∀ i,i≤ps.length→occL (ps++more) i=occL ps i
 |0,_=>rfl
 |i+1,h=>by
  rw[occL,occL,occL_app ps more i (by omega)]
  rw[show nAt (ps++more) i=nAt ps i by simp[nAt,List.getD,List.getElem?_append_left (show i<ps.length by omega)]]
theorem occK_ext {a b:List Nat} {ks:List Int}: ∀ m,(∀ j,j<m→nAt a (kAt ks j)=nAt b (kAt ks j))→occK a ks m=occK b ks m
 |0,_=>rfl
 |m+1,h=>by rw[occK,occK,occK_ext m (fun j hj=>h j (by omega)),h m (by omega)]
theorem occA_app {ps more:List PieceD} {k:Nat} (h:k<ps.length):occA (ps++more) k=occA ps k:=by
 unfold occA
 rw[occL_same (ps++more) (m:=ps.length) (by rw[List.length_append];omega) h,occL_app ps more ps.length (Nat.le_refl _)]
theorem occA_end (ps:List PieceD) (x:PieceD):occA (ps++[x]) ps.length=occS (occL ps ps.length) x:=by
 unfold occA
 rw[occL_at (ps++[x]) (by simp),occL_app ps [x] ps.length (Nat.le_refl _),nAt_end ps x rfl]
/-- The sum over a list of kids. -/
def occT (ps:List PieceD) (ks:List Int):Nat:=(ks.map fun k=>occA ps k.toNat).sum
theorem occT_snoc (ps:List PieceD) (ks:List Int) (k:Int):occT ps (ks++[k])=occT ps ks+occA ps k.toNat:=by simp[occT]
theorem occK_sum (ps:List PieceD) (ks:List Int): ∀ m,m≤ks.length→occK (occL ps ps.length) ks m=((ks.take m).map fun k=>occA ps k.toNat).sum
 |0,_=>by simp[occK]
 |m+1,h=>by
  rw[occK,occK_sum ps ks m (by omega),List.take_succ_eq_append_getElem (by omega),List.map_append,List.sum_append]
  simp[occA,kAt,iAt,List.getD,List.getElem?_eq_getElem (show m<ks.length by omega)]
theorem occT_eq (ps:List PieceD) (ks:List Int):occK (occL ps ps.length) ks ks.length=occT ps ks:=by rw[occK_sum ps ks _ (Nat.le_refl _),List.take_length];rfl
theorem occT_app {ps more:List PieceD} {ks:List Int} (h: ∀ k∈ks,k.toNat<ps.length):occT (ps++more) ks=occT ps ks:=by
 unfold occT
 congr 1
 exact List.map_congr_left fun k hk=>occA_app (h k hk)
/-- A piece laid behind: its kids' occurrences, one for a step. -/
theorem occA_piece (ps:List PieceD) (x:PieceD) (h:x.f0≠1):occA (ps++[x]) ps.length=occT ps x.f2:=by
 rw[occA_end,occS,if_neg h,Nat.zero_add,occT_eq]
theorem occA_step (ps:List PieceD) (l:UInt8):occA (ps++[⟨1,l,[]⟩]) ps.length=1:=by
 rw[occA_end];rfl
end Go.Proofs.YtjnahjgncmcmdaaGreat