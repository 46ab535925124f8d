/- Texts in one: PutA, Nfi, Inp, Shg. -/
import Derived.Test.YtjnahjgncmcmdaaGreatGPrt
import Derived.Test.YtjnahjgncmcmdaaGreatGCnt
import Derived.Test.YtjnahjgncmcmdaaGreatGStr
import Derived.Shelf.SlSortCmp.WholeK
namespace Go.Proofs.YtjnahjgncmcmdaaGreat
open Go.RowKit
set_option linter.unusedVariables false
set_option linter.unusedSimpArgs false
theorem info_Arc:(Tryz.prog.info? 195).map (fun i=>(i.zero,i.size,i.bytes))=some (some (.agg #[.int .i64 0,.int .u8 0,.int .i64 0]),3,24):=by kernel_rfl
def ArcsW (w:World) (lo hi:Nat) (v:Value) (xs:List EdgeR):Prop:=OwW w lo hi 195 3 v xs.length (xs.flatMap EdgeR.cells)
theorem ArcsW.rd {w:World} {lo hi:Nat} {v:Value} {xs:List EdgeR} (h:ArcsW w lo hi v xs):EdgesR w v xs:=OwW.rd h
theorem ArcsW.val {w:World} {lo hi:Nat} {v:Value} {xs:List EdgeR} (h:ArcsW w lo hi v xs): ∃ ao cap,v= .slice ao xs.length cap:=OwW.val h
theorem ArcsW.fr {w w':World} {lo hi:Nat} {v:Value} {xs:List EdgeR} (h:ArcsW w lo hi v xs) (hf:Fr w w'):ArcsW w' lo hi v xs:=OwW.fr h hf
theorem ArcsW.span {w w':World} {lo hi:Nat} {v:Value} {xs:List EdgeR} (h:ArcsW w lo hi v xs) {a b:Nat} (s:Span a b w w') (hd:hi≤a∨b≤lo):ArcsW w' lo hi v xs:=OwW.span h s hd
theorem ArcsW.nil (w:World) (lo hi:Nat):ArcsW w lo hi (.slice none 0 0) []:=OwW.nil _ _ _ _ _
theorem l07Less_any (x y:EdgeR) (w:World):
  Calls Tryz.prog 220 #[.agg #[.int .i64 x.f0,.int .u8 (x.f1.toNat:Int),.int .i64 x.f2],.agg #[.int .i64 y.f0,.int .u8 (y.f1.toNat:Int),.int .i64 y.f2]] w fun e w'=>e= .returned (.bool (edgeLt x y))∧Fr w w':=by
 obtain⟨p,hp⟩: ∃ p,edgeLt x y=p:=⟨_,rfl⟩
 rw[hp]
 have HP:=Lib.hid hp
 clear hp
 obtain⟨a,l,t⟩:=x
 obtain⟨b,m,u⟩:=y
 have hl:=l.toNat_lt
 have hm:=m.toNat_lt
 by_cases h0:a=b
 · have q0:(a !=b)=false:=by simpa using h0
   have H0:=Lib.hid h0
   clear h0
   by_cases h1:l=m
   · have q1:((l.toNat:Int) !=(m.toNat:Int))=false:=by rw[bne_eq_false_iff_eq,byte_eq];exact h1
     have HQ:Hid (decide (t<u)=p):=Lib.hid (by rw[← HP.out];unfold edgeLt;rw[if_neg (by simp[H0.out]),if_neg (by simp[h1])])
     clear h1
     go_enter Tryz.func220,Tryz.ntmps220
     go_wp2
     go_ret
     exact⟨ret_bool HQ.out,by exact Qf⟩
   · have q1:((l.toNat:Int) !=(m.toNat:Int))=true:=by rw[bne_iff_ne];exact fun h=>h1 (byte_eq.1 h)
     have HQ:Hid (decide ((l.toNat:Int)<(m.toNat:Int))=p):=Lib.hid (by rw[← HP.out];unfold edgeLt;rw[if_neg (by simp[H0.out]),if_pos h1,Bool.eq_iff_iff,decide_eq_true_eq,decide_eq_true_eq];simp only[];omega)
     clear h1
     go_enter Tryz.func220,Tryz.ntmps220
     go_wp2
     go_ret
     exact⟨ret_bool (by first|exact HQ.out|(rw[← HQ.out];simp)),by exact Qf⟩
 · have q0:(a !=b)=true:=by simpa using h0
   have HQ:Hid (decide (a<b)=p):=Lib.hid (by rw[← HP.out];unfold edgeLt;rw[if_pos h0])
   clear h0
   go_enter Tryz.func220,Tryz.ntmps220
   go_wp2
   go_ret
   exact⟨ret_bool HQ.out,by exact Qf⟩
set_option maxHeartbeats 8000000 in
set_option maxRecDepth 100000 in
theorem l07Put_any (v:Value) (xs:List EdgeR) (f:EdgeR) (w:World) (hv:EdgesR w v xs) (hn:xs.length≤1048576):
  Calls Tryz.prog 219 #[v,.agg #[.int .i64 f.f0,.int .u8 (f.f1.toNat:Int),.int .i64 f.f2]] w fun e w'=> ∃ ao cap,e= .returned (.slice ao (putE xs f).length cap)∧ArcsW w' w.heap.size w'.heap.size (.slice ao (putE xs f).length cap) (putE xs f)∧Fr w w':=by
 obtain⟨i0,hi,hz0,hz1,hz2⟩:=info_parts info_Arc
 obtain⟨a0,b0,o0,c0,rfl,hc0,hm0,f0⟩:=hv.one
 have F0:=Lib.hid f0
 have hfl:=f.f1.toNat_lt
 clear f0
 go_enter Tryz.func219,Tryz.ntmps219
 have BF0:Box (w.alloc (.cells #[.int .i64 f.f0,.int .u8 (f.f1.toNat:Int),.int .i64 f.f2] 195)) w.heap.size #[.int .i64 f.f0,.int .u8 (f.f1.toNat:Int),.int .i64 f.f2] 195:=Box.new _ _ _
 go_wp2_with fail
 go_loopw [5,6] (fun o i wr=> ∃ (k:Nat) (l:List EdgeR) (ao:Option Addr) (cap:Nat),k≤xs.length∧i= .int .i64 k∧o= .slice ao l.length cap∧Hid (l=selE (fun x=>edgeLt x f) xs k)∧Hid (ArcsW wr (w.heap.size+1) wr.heap.size (.slice ao l.length cap) l)∧Box wr w.heap.size #[.int .i64 f.f0,.int .u8 (f.f1.toNat:Int),.int .i64 f.f2] 195∧Fr w wr) (fun _ i _=>xs.length-(intOf i).toNat)
 case atStart=>exact⟨0,[],some ⟨w.heap.size+1,0,none⟩,0,Nat.zero_le _,rfl,rfl,Lib.hid rfl,Lib.hid ⟨made_empty (by simp) (by omega),RowIn.one (by omega) (by simp)⟩,BF0.alloc _,by exact Qf⟩
 case round=>
  clear BF0
  obtain⟨k,l,ao,cap,hk,rfl,rfl,hl2,HW,BF,hfr⟩:=hrel
  have FF:=BF.facts
  have hzo:=BF.lt
  by_cases hlt:k<xs.length
  · obtain⟨rfl,hb0,f0⟩:=F0.out (by omega)
    obtain⟨x,hx⟩: ∃ x,edgeAt xs k=x:=⟨_,rfl⟩
    have fk:=f0 k hlt
    rw[hx]at fk
    obtain⟨g0,g1,g2⟩:=fk
    have hxl:=x.f1.toNat_lt
    have hb0r:=Nat.lt_of_lt_of_le hb0 hfr.size
    have P0: ∀ w',Sf wr w'→w'.cell? _=_:=fun w' h=>((hfr.trans h.out).cell (p:=⟨b0,_,none⟩) hb0).trans g0
    have P1: ∀ w',Sf wr w'→w'.cell? _=_:=fun w' h=>((hfr.trans h.out).cell (p:=⟨b0,_,none⟩) hb0).trans g1
    have P2: ∀ w',Sf wr w'→w'.cell? _=_:=fun w' h=>((hfr.trans h.out).cell (p:=⟨b0,_,none⟩) hb0).trans g2
    have RF: ∀ w',Sf wr w'→ ∀ o,w'.cell? ⟨w.heap.size,o,none⟩=(#[.int .i64 f.f0,.int .u8 (f.f1.toNat:Int),.int .i64 f.f2]:Array Value)[o]? :=fun w' h o=>(BF.fr h.out).cell o
    clear f0
    cases hp:edgeLt x f
    · have CT:Hid (∀ w',Calls Tryz.prog 220 #[.agg #[.int .i64 x.f0,.int .u8 (x.f1.toNat:Int),.int .i64 x.f2],.agg #[.int .i64 f.f0,.int .u8 (f.f1.toNat:Int),.int .i64 f.f2]] w' fun e w''=>e= .returned (.bool false)∧Fr w' w''):=Lib.hid fun w'=>by rw[← hp];exact l07Less_any x f w'
      have hs:Hid (l=_):=Lib.hid (hl2.out.trans (selE_no (p:=fun x=>edgeLt x f) hlt hx hp).symm)
      clear hp hx hl2
      go_wp2_with fail
      go_region_held3 (fun w'=>Sf wr w') ((refine Sf.mk ?_;repeat(first|(with_reducible exact Fr.refl _)|(with_reducible assumption)|(with_reducible refine Fr.drewN ?_ _)|(with_reducible refine Fr.drew ?_)|(with_reducible refine Fr.alloc ?_ _)|(with_reducible refine Fr.setCell ?_ (by exact Qz) _)|(with_reducible refine Fr.trans ?_ (by with_reducible assumption))))) (first|(go_at_call 220;refine(CT.out _).mono ?_;rintro e w5 ⟨rfl,hf5⟩))
      have z5:=hf5.size;(try simp only[World.size_drew,World.heap_drewN]at z5)
      go_wp2_with fail
      go_roundw
      case rel=>exact⟨k+1,l,ao,cap,by omega,by go_num,rfl,hs,Lib.hid (OwW.mono (OwW.fr HW.out (by exact Qf)) (Nat.le_refl _) (by exact Qz)),BF.fr (by exact Qf),by exact Qf⟩
      case measure=>(simp[intOf];omega)
    · have CT:Hid (∀ w',Calls Tryz.prog 220 #[.agg #[.int .i64 x.f0,.int .u8 (x.f1.toNat:Int),.int .i64 x.f2],.agg #[.int .i64 f.f0,.int .u8 (f.f1.toNat:Int),.int .i64 f.f2]] w' fun e w''=>e= .returned (.bool true)∧Fr w' w''):=Lib.hid fun w'=>by rw[← hp];exact l07Less_any x f w'
      have hs:Hid (l++[x]=_):=Lib.hid (((selE_yes (p:=fun x=>edgeLt x f) hlt hx hp).trans (congrArg (· ++[x]) hl2.out.symm)).symm)
      have hml:l.length≤3000000:=by have h1:=selE_le (fun x=>edgeLt x f) xs k;have h2:=congrArg List.length hl2.out;omega
      have HC:=Lib.hid (edgeC_snoc l x)
      have HL:=Lib.hid (show(l++[x]).length=l.length+1 by simp)
      clear hp hx hl2
      go_wp2_with fail
      go_region_held3 (fun w'=>Sf wr w') ((refine Sf.mk ?_;repeat(first|(with_reducible exact Fr.refl _)|(with_reducible assumption)|(with_reducible refine Fr.drewN ?_ _)|(with_reducible refine Fr.drew ?_)|(with_reducible refine Fr.alloc ?_ _)|(with_reducible refine Fr.setCell ?_ (by exact Qz) _)|(with_reducible refine Fr.trans ?_ (by with_reducible assumption))))) (first|(go_at_call 220;refine(CT.out _).mono ?_;rintro e w5 ⟨rfl,hf5⟩))
      have z5:=hf5.size;(try simp only[World.size_drew,World.heap_drewN]at z5)
      have hfw:Fr wr w5:=by exact Qf
      have q0:=P0 w5 (Sf.mk hfw)
      have q1:=P1 w5 (Sf.mk hfw)
      have q2:=P2 w5 (Sf.mk hfw)
      have HW5:=Lib.hid (OwW.fr HW.out hfw)
      have BF5:=BF.fr hfw
      have hf05:Fr w w5:=by exact Qf
      clear P0 P1 P2 RF FF HW BF
      go_wp2_with(at_builtin;(refine wpList_append_rd rfl _ _ 130 rfl (w.heap.size+1) 195 i0 (.agg #[.int .i64 0,.int .u8 0,.int .i64 0]) 3 24 Tryz.underlying130 hi hz0 hz1 hz2 rfl (by decide) _ l.length (l.flatMap EdgeR.cells) rfl (World.ownsRow.alloc HW5.out.1 _) _ 1 [.int .i64 x.f0,.int .u8 (x.f1.toNat:Int),.int .i64 x.f2] rfl (RdS.new (by first|rfl|simp) rfl) (by simp[Value.oneCell']) (by unfold maxLen;omega) (by omega) (by exact Qz) ?_;intro ay2 cy2 w9 hown hgrow hat))
      have s9:Span (w.heap.size+1) wr.heap.size (w5.alloc (.cells #[.int .i64 x.f0,.int .u8 (x.f1.toNat:Int),.int .i64 x.f2] 195)) w9:=Span.of_gr hgrow (fun g hg=>HW5.out.2 g hg)
      have z9:=s9.size
      simp only[World.size_alloc]at z9
      have BF9:=(BF5.alloc (.cells #[.int .i64 x.f0,.int .u8 (x.f1.toNat:Int),.int .i64 x.f2] 195)).span s9 (.inl (by omega))
      have hf9:Fr w w9:=Span.fr (show Fr w _ by exact Qf) s9 (by omega)
      rw[← HC.out]at hown
      have hW9:ArcsW w9 (w.heap.size+1) w9.heap.size (.slice ay2 (l++[x]).length cy2) (l++[x]):=by
       have:=OwW.of_owns hown
       rw[← HL.out]at this
       exact this
      try go_wp2_with fail
      go_roundw
      case rel=>exact⟨k+1,l++[x],ay2,cy2,by omega,by go_num,by rw[HL.out],hs,Lib.hid hW9,BF9,hf9⟩
      case measure=>(simp[intOf];omega)
  · obtain rfl:k=xs.length:=by omega
    have hml:l.length≤3000000:=by have h1:=selE_le (fun x=>edgeLt x f) xs xs.length;have h2:=congrArg List.length hl2.out;omega
    have hs:Hid (l++[f]=putEK xs f 0):=Lib.hid (by have:=hl2.out;rw[selE_all]at this;rw[putEK_zero,this])
    have HC:=Lib.hid (edgeC_snoc l f)
    have HL:=Lib.hid (show(l++[f]).length=l.length+1 by simp)
    clear hl2 hlt hk
    go_wp2_with(at_builtin;(refine wpList_append_rd rfl _ _ 130 rfl (w.heap.size+1) 195 i0 (.agg #[.int .i64 0,.int .u8 0,.int .i64 0]) 3 24 Tryz.underlying130 hi hz0 hz1 hz2 rfl (by decide) _ l.length (l.flatMap EdgeR.cells) rfl (World.ownsRow.alloc HW.out.1 _) _ 1 [.int .i64 f.f0,.int .u8 (f.f1.toNat:Int),.int .i64 f.f2] rfl (RdS.new (by first|rfl|simp) rfl) (by simp[Value.oneCell']) (by unfold maxLen;omega) (by omega) (by exact Qz) ?_;intro ay2 cy2 w9 hown hgrow hat))
    have s9:Span (w.heap.size+1) wr.heap.size (wr.alloc (.cells #[.int .i64 f.f0,.int .u8 (f.f1.toNat:Int),.int .i64 f.f2] 195)) w9:=Span.of_gr hgrow (fun g hg=>HW.out.2 g hg)
    have z9:=s9.size
    simp only[World.size_alloc]at z9
    have BF9:=(BF.alloc (.cells #[.int .i64 f.f0,.int .u8 (f.f1.toNat:Int),.int .i64 f.f2] 195)).span s9 (.inl (by omega))
    have hf9:Fr w w9:=Span.fr (show Fr w _ by exact Qf) s9 (by omega)
    rw[← HC.out]at hown
    have hW9:ArcsW w9 (w.heap.size+1) w9.heap.size (.slice ay2 (l++[f]).length cy2) (l++[f]):=by
     have:=OwW.of_owns hown
     rw[← HL.out]at this
     exact this
    have HW9:=Lib.hid hW9
    clear FF HW hown hgrow hat BF hzo
    try go_wp2_with fail
    go_loopw [5,7] (fun o i wr=> ∃ (k:Nat) (l:List EdgeR) (ao:Option Addr) (cap:Nat),k≤xs.length∧i= .int .i64 k∧o= .slice ao l.length cap∧Hid (l=putEK xs f k)∧Hid (ArcsW wr (w.heap.size+1) wr.heap.size (.slice ao l.length cap) l)∧Box wr w.heap.size #[.int .i64 f.f0,.int .u8 (f.f1.toNat:Int),.int .i64 f.f2] 195∧Fr w wr) (fun _ i _=>xs.length-(intOf i).toNat)
    case atStart=>exact⟨0,l++[f],ay2,cy2,Nat.zero_le _,rfl,by rw[HL.out],hs,HW9,BF9,hf9⟩
    case round=>
     clear hW9 HW9 BF9 hf9 s9 z9 hs HC HL hml hfr
     obtain⟨k,l,ao,cap,hk,rfl,rfl,hl2,HW,BF,hfr⟩:=hrel
     have FF:=BF.facts
     have hzo:=BF.lt
     by_cases hlt:k<xs.length
     · obtain⟨rfl,hb0,f0⟩:=F0.out (by omega)
       obtain⟨x,hx⟩: ∃ x,edgeAt xs k=x:=⟨_,rfl⟩
       have fk:=f0 k hlt
       rw[hx]at fk
       obtain⟨g0,g1,g2⟩:=fk
       have hxl:=x.f1.toNat_lt
       have hb0r:=Nat.lt_of_lt_of_le hb0 hfr.size
       have P0: ∀ w',Sf wr w'→w'.cell? _=_:=fun w' h=>((hfr.trans h.out).cell (p:=⟨b0,_,none⟩) hb0).trans g0
       have P1: ∀ w',Sf wr w'→w'.cell? _=_:=fun w' h=>((hfr.trans h.out).cell (p:=⟨b0,_,none⟩) hb0).trans g1
       have P2: ∀ w',Sf wr w'→w'.cell? _=_:=fun w' h=>((hfr.trans h.out).cell (p:=⟨b0,_,none⟩) hb0).trans g2
       have RF: ∀ w',Sf wr w'→ ∀ o,w'.cell? ⟨w.heap.size,o,none⟩=(#[.int .i64 f.f0,.int .u8 (f.f1.toNat:Int),.int .i64 f.f2]:Array Value)[o]? :=fun w' h o=>(BF.fr h.out).cell o
       clear f0
       cases hp:edgeLt f x
       · have CT:Hid (∀ w',Calls Tryz.prog 220 #[.agg #[.int .i64 f.f0,.int .u8 (f.f1.toNat:Int),.int .i64 f.f2],.agg #[.int .i64 x.f0,.int .u8 (x.f1.toNat:Int),.int .i64 x.f2]] w' fun e w''=>e= .returned (.bool false)∧Fr w' w''):=Lib.hid fun w'=>by rw[← hp];exact l07Less_any f x w'
         have hs:Hid (l=_):=Lib.hid (hl2.out.trans (putEK_no hlt hx hp).symm)
         clear hp hx hl2
         go_wp2_with fail
         go_region_held3 (fun w'=>Sf wr w') ((refine Sf.mk ?_;repeat(first|(with_reducible exact Fr.refl _)|(with_reducible assumption)|(with_reducible refine Fr.drewN ?_ _)|(with_reducible refine Fr.drew ?_)|(with_reducible refine Fr.alloc ?_ _)|(with_reducible refine Fr.setCell ?_ (by exact Qz) _)|(with_reducible refine Fr.trans ?_ (by with_reducible assumption))))) (first|(go_at_call 220;refine(CT.out _).mono ?_;rintro e w5 ⟨rfl,hf5⟩))
         have z5:=hf5.size;(try simp only[World.size_drew,World.heap_drewN]at z5)
         go_wp2_with fail
         go_roundw
         case rel=>exact⟨k+1,l,ao,cap,by omega,by go_num,rfl,hs,Lib.hid (OwW.mono (OwW.fr HW.out (by exact Qf)) (Nat.le_refl _) (by exact Qz)),BF.fr (by exact Qf),by exact Qf⟩
         case measure=>(simp[intOf];omega)
       · have CT:Hid (∀ w',Calls Tryz.prog 220 #[.agg #[.int .i64 f.f0,.int .u8 (f.f1.toNat:Int),.int .i64 f.f2],.agg #[.int .i64 x.f0,.int .u8 (x.f1.toNat:Int),.int .i64 x.f2]] w' fun e w''=>e= .returned (.bool true)∧Fr w' w''):=Lib.hid fun w'=>by rw[← hp];exact l07Less_any f x w'
         have hs:Hid (l++[x]=_):=Lib.hid (((putEK_yes hlt hx hp).trans (congrArg (· ++[x]) hl2.out.symm)).symm)
         have hml:l.length≤3000000:=by have h1:=putEK_le xs f k;have h2:=congrArg List.length hl2.out;omega
         have HC:=Lib.hid (edgeC_snoc l x)
         have HL:=Lib.hid (show(l++[x]).length=l.length+1 by simp)
         clear hp hx hl2
         go_wp2_with fail
         go_region_held3 (fun w'=>Sf wr w') ((refine Sf.mk ?_;repeat(first|(with_reducible exact Fr.refl _)|(with_reducible assumption)|(with_reducible refine Fr.drewN ?_ _)|(with_reducible refine Fr.drew ?_)|(with_reducible refine Fr.alloc ?_ _)|(with_reducible refine Fr.setCell ?_ (by exact Qz) _)|(with_reducible refine Fr.trans ?_ (by with_reducible assumption))))) (first|(go_at_call 220;refine(CT.out _).mono ?_;rintro e w5 ⟨rfl,hf5⟩))
         have z5:=hf5.size;(try simp only[World.size_drew,World.heap_drewN]at z5)
         have hfw:Fr wr w5:=by exact Qf
         have q0:=P0 w5 (Sf.mk hfw)
         have q1:=P1 w5 (Sf.mk hfw)
         have q2:=P2 w5 (Sf.mk hfw)
         have HW5:=Lib.hid (OwW.fr HW.out hfw)
         have BF5:=BF.fr hfw
         have hf05:Fr w w5:=by exact Qf
         clear P0 P1 P2 RF FF HW BF
         go_wp2_with(at_builtin;(refine wpList_append_rd rfl _ _ 130 rfl (w.heap.size+1) 195 i0 (.agg #[.int .i64 0,.int .u8 0,.int .i64 0]) 3 24 Tryz.underlying130 hi hz0 hz1 hz2 rfl (by decide) _ l.length (l.flatMap EdgeR.cells) rfl (World.ownsRow.alloc HW5.out.1 _) _ 1 [.int .i64 x.f0,.int .u8 (x.f1.toNat:Int),.int .i64 x.f2] rfl (RdS.new (by first|rfl|simp) rfl) (by simp[Value.oneCell']) (by unfold maxLen;omega) (by omega) (by exact Qz) ?_;intro ay2 cy2 w9 hown hgrow hat))
         have s9:Span (w.heap.size+1) wr.heap.size (w5.alloc (.cells #[.int .i64 x.f0,.int .u8 (x.f1.toNat:Int),.int .i64 x.f2] 195)) w9:=Span.of_gr hgrow (fun g hg=>HW5.out.2 g hg)
         have z9:=s9.size
         simp only[World.size_alloc]at z9
         have BF9:=(BF5.alloc (.cells #[.int .i64 x.f0,.int .u8 (x.f1.toNat:Int),.int .i64 x.f2] 195)).span s9 (.inl (by omega))
         have hf9:Fr w w9:=Span.fr (show Fr w _ by exact Qf) s9 (by omega)
         rw[← HC.out]at hown
         have hW9:ArcsW w9 (w.heap.size+1) w9.heap.size (.slice ay2 (l++[x]).length cy2) (l++[x]):=by
          have:=OwW.of_owns hown
          rw[← HL.out]at this
          exact this
         try go_wp2_with fail
         go_roundw
         case rel=>exact⟨k+1,l++[x],ay2,cy2,by omega,by go_num,by rw[HL.out],hs,Lib.hid hW9,BF9,hf9⟩
         case measure=>(simp[intOf];omega)
     · obtain rfl:k=xs.length:=by omega
       have hs:=hl2.out
       rw[putEK_all]at hs
       have HS:=Lib.hid hs
       clear hs hl2
       go_wp2_with fail
       go_ret
       rw[← HS.out]
       exact⟨ao,cap,rfl,OwW.mono HW.out (by omega) (Nat.le_refl _),by exact Qf⟩
theorem PosSt.tch {B:Nat→Prop} {w w':World} {b lo:Nat} {pv lv fv:Value} {s:StD} (h:PosSt w b lo pv lv fv s) (t:Tch B w w') (hd: ∀ i,PB b lv fv i→ ¬ B i):PosSt w' b lo pv lv fv s:=
 ⟨t.box h.box (hd _ (.inl rfl)),t.owns h.labs (fun g e=>hd g (.inr (.inl e))),t.owns h.fol (fun g e=>hd g (.inr (.inr e))),h.ap,h.nl,h.nf⟩
/-- An automaton under way: its box, its arcs, its ends. -/
def AB (c:Nat) (av:Value) (i:Nat):Prop:=i=c∨av.ownBlock=some i
structure NfaSt (w:World) (c lo:Nat) (n:Int) (av ev:Value) (xs:List EdgeR) (bs:List Bool):Prop where
 box:Box w c #[.int .i64 n,av,ev] 133
 arcs:w.ownsRow lo 195 3 av xs.length (xs.flatMap EdgeR.cells)
 ends:w.ownsRow lo 4 1 ev bs.length (bs.map Value.bool)
 ap:Apart av ev
 na:av.ownBlock≠some c
 ne:ev.ownBlock≠some c
theorem NfaSt.fr {w w':World} {c lo:Nat} {n:Int} {av ev:Value} {xs:List EdgeR} {bs:List Bool} (h:NfaSt w c lo n av ev xs bs) (hf:Fr w w'):NfaSt w' c lo n av ev xs bs:=
 ⟨h.box.fr hf,owns_fr h.arcs hf,owns_fr h.ends hf,h.ap,h.na,h.ne⟩
theorem NfaSt.old {w:World} {c lo:Nat} {n:Int} {av ev:Value} {xs:List EdgeR} {bs:List Bool} (h:NfaSt w c lo n av ev xs bs): ∀ i,AB c av i→i<w.heap.size:=by
 rintro i (e|e)
 · have:=h.box.lt;omega
 · exact owns_old h.arcs i e
theorem rowA_len (labs:List UInt8) (s:Nat) (p:Nat→Bool):(rowA labs s p).length=(reachL labs.length p).length:=by simp[rowA]
theorem rowA_step {labs:List UInt8} {s:Nat} {p:Nat→Bool} {k m:Nat} (hk:k<(reachL labs.length p).length) (hm:iAt (reachL labs.length p) k=(m:Int)):(rowA labs s p).take (k+1)=(rowA labs s p).take k++[arcE labs s m]:=by
 rw[List.take_succ_eq_append_getElem (by rw[rowA_len];exact hk)]
 congr 2
 unfold rowA
 rw[List.getElem_map]
 have:(reachL labs.length p)[k]=(m:Int):=by rw[← hm];simp[iAt,List.getD,List.getElem?_eq_getElem hk]
 rw[this];rfl
theorem BytesO.one {w:World} {lo:Nat} {v:Value} {l:List UInt8} (h:BytesO w lo v l) (hn:0<l.length): ∃ g cap,v= .slice (some ⟨g,0,none⟩) l.length cap∧lo≤g∧g<w.heap.size∧ ∀ i,i<l.length→w.cell? ⟨g,i,none⟩=some (.int .u8 ((nAt l i).toNat:Int)):=by
 rcases owns_shape h with⟨rfl,hn0,_⟩|⟨g,cap,rfl,h1,h2,_⟩
 · omega
 · refine⟨g,cap,rfl,h1,h2,fun i hi=>?_⟩
   rw[World.ownsRow.cellAt h i (by omega)]
   simp[nums,nAt,List.getD,List.getElem?_eq_getElem hi]
theorem arcE_cells (labs:List UInt8) (s j:Nat):(arcE labs s j).cells=[.int .i64 (s:Int),.int .u8 ((nAt labs j).toNat:Int),.int .i64 ((j:Int)+1)]:=rfl
set_option maxHeartbeats 8000000 in
set_option maxRecDepth 100000 in
theorem arcs_any (b c lo q:Nat) (n:Int) (pv lv fv av ev:Value) (s:StD) (p:Nat→Bool) (xs:List EdgeR) (bs:List Bool) (w:World) (hP:PosSt w b lo pv lv fv s) (hA:NfaSt w c lo n av ev xs bs) (hd: ∀ i,PB b lv fv i→ ¬ AB c av i) (hp: ∀ j,p j=true→j<s.labs.length) (hs:s.labs.length≤24) (hx:xs.length≤100000) (hq:q≤1000):
  Calls Tryz.prog 223 #[.int .i64 (q:Int),.int .u32 (bN p:Int),.pointer (some ⟨c,0,none⟩),.pointer (some ⟨b,0,none⟩)] w fun e w'=>e= .returned (.tuple #[])∧ ∃ av',NfaSt w' c lo n av' ev (xs++rowA s.labs q p) bs∧Tch (AB c av) w w'∧Mvd w.heap.size av av':=by
 obtain⟨i0,hi,hz0,hz1,hz2⟩:=info_parts info_Arc
 obtain⟨al,cl,rfl⟩: ∃ al cl,lv= .slice al s.labs.length cl:=owns_val hP.labs
 obtain⟨ae,ce,rfl⟩: ∃ al cl,ev= .slice al bs.length cl:=owns_val hA.ends
 have HL:=Lib.hid hp
 have HP:=Lib.hid hP
 have HA:=Lib.hid hA
 have HD:=Lib.hid hd
 clear hp hP hA hd
 go_enter Tryz.func223,Tryz.ntmps223
 go_wp2_with(go_at_call 161;refine(bitsIn_any p _).mono ?_;rintro e w1 ⟨az,cz,rfl,ho,hf1⟩)
 have hre:=reachL_more (p:=p) (fun k hk=>HL.out k hk) (show s.labs.length≤32 by omega)
 rw[hre]at ho ⊢
 have hrl:=reachL_len s.labs.length p
 have HO:=Lib.hid (IntsO.fr ho (Fr.refl w1))
 have zw:=hf1.size
 have HA1:=Lib.hid (HA.out.fr hf1)
 have HX0:Hid (xs++(rowA s.labs q p).take 0=xs):=Lib.hid (by simp)
 have HZ:=Lib.hid (owns_old ho)
 clear ho hre
 go_loopw [7,11] (fun _ i wr=> ∃ (k:Nat) (av':Value),k≤(reachL s.labs.length p).length∧i= .int .i64 k∧Hid (IntsO wr w.heap.size (.slice az (reachL s.labs.length p).length cz) (reachL s.labs.length p))∧Hid (NfaSt wr c lo n av' (.slice ae bs.length ce) (xs++(rowA s.labs q p).take k) bs)∧Hid (Tch (AB c av) w wr)∧Hid (Mvd w1.heap.size av av')∧w1.heap.size≤wr.heap.size) (fun _ i _=>(reachL s.labs.length p).length-(intOf i).toNat)
 case atStart=>exact⟨0,av,Nat.zero_le _,rfl,HO,Lib.hid (by rw[HX0.out];exact HA1.out),Lib.hid (Tch.of_fr hf1),Lib.hid (.inl rfl),Nat.le_refl _⟩
 case round=>
  clear HO HA1 HX0
  obtain⟨k,av',hk,rfl,HO,HA1,HT,HM,zr1⟩:=hrel
  have zr:=HT.out.size
  by_cases hlt:k<(reachL s.labs.length p).length
  · obtain⟨m,hm,hmn,hpm⟩:=reachL_get hlt
    have HSTEP:=Lib.hid (rowA_step (s:=q) hlt hm)
    obtain⟨az',bz,oz,cz',hv,hcz,hmz,fz⟩:=(IntsO.rd HO.out).one
    cases hv
    obtain⟨rfl,hbz,fz⟩:=fz (by omega)
    have c0:=fz k hlt
    rw[hm]at c0
    have HP1:=Lib.hid (HP.out.tch HT.out HD.out)
    obtain⟨av2,cv2,rfl⟩: ∃ a cc,av'= .slice a (xs++(rowA s.labs q p).take k).length cc:=owns_val HA1.out.arcs
    obtain⟨gl,cl',hv,_,hgl,hcl⟩:=BytesO.one HP1.out.labs (by omega)
    cases hv
    have cm:=hcl m hmn
    have hbl:=(nAt s.labs m).toNat_lt
    obtain⟨L,hLL⟩: ∃ L,((nAt s.labs m).toNat:Int)=L:=⟨_,rfl⟩
    have HLL:=Lib.hid hLL
    have hL0:0≤L:=by omega
    have hL1:L<256:=by omega
    rw[hLL]at cm
    have FB:=HP1.out.box.facts
    have FC:=HA1.out.box.facts
    have hlen:(xs++(rowA s.labs q p).take k).length≤100000+24:=by
     rw[List.length_append,List.length_take,rowA_len];omega
    obtain⟨M,hM⟩: ∃ M,(xs++(rowA s.labs q p).take k).length=M:=⟨_,rfl⟩
    have HMM:=Lib.hid hM
    have HOA:Hid (wr.ownsRow lo 195 3 (.slice av2 M cv2) M ((xs++(rowA s.labs q p).take k).flatMap EdgeR.cells)):=Lib.hid (by have:=HA1.out.arcs;rw[hM]at this;exact this)
    rw[hM]at FC hlen
    have zc:c<wr.heap.size:=HA1.out.box.lt
    have zb:b<wr.heap.size:=HP1.out.box.lt
    have hcb:b≠c:=fun e=>HD.out b (.inl rfl) (.inl e)
    have hc1:c≠wr.heap.size:=by omega
    have hc2:c≠wr.heap.size+1:=by omega
    have hb1:b≠wr.heap.size:=by omega
    have hz1':bz≠wr.heap.size:=by have:=owns_old HO.out bz rfl;omega
    have hg1:gl≠wr.heap.size:=by omega
    have hzwr:bz<wr.heap.size:=owns_old HO.out bz rfl
    have hwm:IntKind.i64.wrap ((m:Int)+1)=(m:Int)+1:=IntWalk.i64_in _ (by omega)
    clear hLL hM fz hm hcl
    go_wp2_with fail
    go_region_law((refine step_append_rd (by rfl) _ _ 130 (by rfl) lo 195 i0 (.agg #[.int .i64 0,.int .u8 0,.int .i64 0]) 3 24 Tryz.underlying130 hi hz0 hz1 hz2 rfl (by decide) (.slice av2 M cv2) M ((xs++(rowA s.labs q p).take k).flatMap EdgeR.cells) (by rfl) (by exact owns_lo (owns_ab HOA.out (by exact Qa)) (by exact Qz)) _ 1 [.int .i64 (q:Int),.int .u8 L,.int .i64 ((m:Int)+1)] (by rfl) (RdS.drew (RdS.new (by first|rfl|(simp;done)) rfl)) (by simp[Value.oneCell']) (by unfold maxLen;omega) (by omega) (by exact Qz) ?_;intro ay cy w9 hown hgrow hat;have hB9:Box w9 c _ _:=Box.gr (Box.fr HA1.out.box (by exact Qf)) hgrow (fun e=>HA1.out.na (by rw[HMM.out];exact e));have F9:=hB9.facts;have z9:=hgrow.size;(try simp only[World.size_alloc,World.size_drew]at z9)))
    all_goals
     have m1:Mvd w1.heap.size (.slice av2 M cv2) (.slice ay (M+1) cy):=Mvd.of_app hat (by exact Qz)
     have hyc:(Value.slice ay (M+1) cy).ownBlock≠some c:=(Mvd.of_app (n:=wr.heap.size) hat (by exact Qz)).ne (by rw[← HMM.out];exact HA1.out.na) zc
     have hye:Apart (Value.slice ay (M+1) cy) (.slice ae bs.length ce):=(Mvd.of_app (n:=wr.heap.size) hat (by exact Qz)).apart (by rw[← HMM.out];exact HA1.out.ap) (owns_old HA1.out.ends)
     have e9:World.ownsRow w9 lo 4 1 (.slice ae bs.length ce) bs.length (bs.map Value.bool):=World.ownsRow.kept (owns_fr HA1.out.ends (by exact Qf)) hgrow (Apart.ne (Apart.symm' (by rw[← HMM.out];exact HA1.out.ap)))
     have t9:Tch (AB c av) w w9:=(HT.out.fr (by exact Qf)).then (Tch.of_gr (B:=AB c (.slice av2 M cv2)) hgrow (fun i e=> .inr e)) (by
      rintro i hi (e|e)
      · exact .inl e
      · have hm:=HM.out
        rw[HMM.out]at hm
        exact .inr (hm.old (i:=i) e (Nat.lt_of_lt_of_le hi zw)))
     have o9:IntsO w9 w.heap.size (.slice (some ⟨bz,oz,none⟩) (reachL s.labs.length p).length cz) (reachL s.labs.length p):=World.ownsRow.kept (owns_fr HO.out (by exact Qf)) hgrow (Apart.ne (fun g h1 h2=>by
      have h3:=(World.ownsRow.lt HO.out g h1).1
      have hm:=HM.out
      rw[HMM.out]at hm
      have h4:=owns_old HA.out.arcs g (hm.old h2 (HZ.out g h1))
      omega))
     have hXX:(xs++(rowA s.labs q p).take (k+1))=(xs++(rowA s.labs q p).take k)++[arcE s.labs q m]:=by rw[HSTEP.out,List.append_assoc]
     have HN:Hid (NfaSt (w9.setCell ⟨c,1,none⟩ (.slice ay (M+1) cy)) c lo n (.slice ay (M+1) cy) (.slice ae bs.length ce) (xs++(rowA s.labs q p).take (k+1)) bs):=Lib.hid (by
      refine⟨hB9.set_to (by simp),?_,owns_far e9 (p:=⟨c,1,none⟩) HA1.out.ne _,hye,hyc,HA1.out.ne⟩
      have:=owns_far hown (p:=⟨c,1,none⟩) hyc (.slice ay (M+1) cy)
      rw[hXX,List.length_append,HMM.out,List.flatMap_append]
      simpa [arcE_cells,HLL.out]using this)
     have HT9:=Lib.hid (t9.set (p:=⟨c,1,none⟩) (.inl (.inl rfl)) (.slice ay (M+1) cy))
     have HO9:=Lib.hid (owns_far o9 (p:=⟨c,1,none⟩) (fun e=>by have h3:=(World.ownsRow.lt HO.out c e).1;have h4:=HA.out.box.lt;omega) (.slice ay (M+1) cy))
     have HM9:=Lib.hid (HM.out.trans (by rw[HMM.out];exact m1) (Nat.le_refl _))
     go_wp2_with fail
     go_roundw
     case rel=>exact⟨k+1,.slice ay (M+1) cy,by omega,by go_num,HO9,HN,HT9,HM9,by simp;omega⟩
     case measure=>(simp[intOf];omega)
  · obtain rfl:k=(reachL s.labs.length p).length:=by omega
    have hall:(rowA s.labs q p).take (reachL s.labs.length p).length=rowA s.labs q p:=by rw[← rowA_len s.labs q p,List.take_length]
    go_wp2_with fail
    go_end0
    exact⟨rfl,av',by rw[← hall];exact HA1.out,HT.out,HM.out.mono zw⟩
/-! ### plain -/
theorem spRow_first (a b:SpD):(spRow a b).first=orB a.first (ifB a.null b.first):=rfl
theorem spAlt_first (a b:SpD):(spAlt a b).first=orB a.first b.first:=rfl
theorem rowS_first {go:Nat→StD→StD×SpD} {ks:List Int} {s:StD} (h: ∀ t,∃ j,(go (kAt ks 0) t).2.first j=true): ∀ m,0<m→ ∃ j,(rowS go ks s m).2.first j=true
 |0,h0=>absurd h0 (by omega)
 |1,_=>by
  obtain⟨j,hj⟩:=h s
  exact⟨j,by rw[rowS];simp only[];rw[spRow_first];exact orB_iff.2 (.inr (ifB_iff.2 ⟨rfl,hj⟩))⟩
 |m+2,_=>by
  obtain⟨j,hj⟩:=rowS_first (s:=s) h (m+1) (by omega)
  exact⟨j,by rw[rowS];simp only[];rw[spRow_first];exact orB_iff.2 (.inl hj)⟩
theorem altS_first {go:Nat→StD→StD×SpD} {ks:List Int} {s:StD} (h: ∀ t,∃ j,(go (kAt ks 0) t).2.first j=true): ∀ m,0<m→ ∃ j,(altS go ks s m).2.first j=true
 |0,h0=>absurd h0 (by omega)
 |1,_=>by
  obtain⟨j,hj⟩:=h s
  exact⟨j,by rw[altS];simp only[];rw[spAlt_first];exact orB_iff.2 (.inr hj)⟩
 |m+2,_=>by
  obtain⟨j,hj⟩:=altS_first (s:=s) h (m+1) (by omega)
  exact⟨j,by rw[altS];simp only[];rw[spAlt_first];exact orB_iff.2 (.inl hj)⟩
theorem glu_first {ps:List PieceD} (hp:pathB ps=true): ∀ f p,p<f→p<ps.length→ ∀ s,∃ j,(glu ps f p s).2.first j=true:=by
 intro f
 induction f with
 |zero=>intro p h;omega
 |succ f ih=>
  intro p hf hl s
  have hx:=(pathB_out hp).2 p hl
  have hk:0<(nAt ps p).f2.length→ ∀ t,∃ j,(glu ps f (kAt (nAt ps p).f2 0) t).2.first j=true:=fun h t=>by
   have:=kAt_lt hp hl h
   exact ih _ (by omega) (by omega) t
  have h2l:(nAt ps p).f0=2∨(nAt ps p).f0=3→0<(nAt ps p).f2.length:=fun h=>by
   unfold pieceB at hx
   rw[if_neg (by omega),if_pos h]at hx
   simp at hx
   omega
  rw[glu]
  simp only[]
  by_cases h1:(nAt ps p).f0=1
  · rw[if_pos h1];exact⟨s.labs.length,by simp[oneB]⟩
  · rw[if_neg h1]
    by_cases h2:(nAt ps p).f0=2
    · rw[if_pos h2];exact rowS_first (hk (h2l (.inl h2))) _ (h2l (.inl h2))
    · rw[if_neg h2]
      by_cases h3:(nAt ps p).f0=3
      · rw[if_pos h3];exact altS_first (hk (h2l (.inr h3))) _ (h2l (.inr h3))
      · rw[if_neg h3]
        obtain⟨hl1,_⟩:=pieceB_one hx h1 h2 h3
        exact hk (by omega) s
theorem reachL_nodup (n:Nat) (p:Nat→Bool):(reachL n p).Nodup:=by
 unfold reachL
 refine List.Pairwise.map _ (fun a b h=>?_) ((List.nodup_range).filter _)
 intro e
 exact h (by omega)
theorem rowA_nodup (labs:List UInt8) (s:Nat) (p:Nat→Bool):(rowA labs s p).Nodup:=by
 unfold rowA
 refine(List.pairwise_map).2 ((reachL_nodup labs.length p).imp_of_mem fun {a b} ha hb h e=>h ?_)
 obtain⟨j,rfl,_⟩:=mem_reachL.1 ha
 obtain⟨i,rfl,_⟩:=mem_reachL.1 hb
 have:=congrArg EdgeR.f2 e
 simp only[arcE]at this
 omega
theorem arcL_nodup (labs:List UInt8) (P:Nat→Nat→Bool): ∀ m,(arcL labs P m).Nodup
 |0=>List.Pairwise.nil
 |m+1=>by
  rw[arcL]
  refine List.nodup_append.2 ⟨arcL_nodup labs P m,rowA_nodup _ _ _,fun x hx y hy e=>?_⟩
  subst e
  obtain⟨s,j,h1,_,_,rfl⟩:=mem_arcL.1 hx
  obtain⟨i,_,_,e⟩:=mem_rowA.1 hy
  have:=congrArg EdgeR.f0 e
  simp only[arcE]at this
  omega
theorem arcL_len (labs:List UInt8) (P:Nat→Nat→Bool): ∀ m,(arcL labs P m).length≤m*labs.length
 |0=>by simp[arcL]
 |m+1=>by
  rw[arcL,List.length_append,rowA_len]
  have:=arcL_len labs P m
  have:=reachL_len labs.length (P m)
  rw[Nat.add_mul]
  omega
theorem arcL_one (labs:List UInt8) (P:Nat→Nat→Bool):arcL labs P 1=[]++rowA labs 0 (P 0):=rfl
/-- The arcs laid and sorted are those of the automaton. -/
theorem arcL_sorted {labs:List UInt8} {P:Nat→Nat→Bool} {ys:List EdgeR} (hs:Srt ys) (hm: ∀ x,x∈ys↔x∈arcL labs P (labs.length+1)):ys=arcC labs P:=
 srt_eq hs (srt_arcC _ _) fun x=>by rw[hm x,mem_arcL,mem_arcC]
theorem owns_up {w:World} {lo lo':Nat} {e:TypeId} {sz:Nat} {v:Value} {n:Nat} {xs:List Value} (h:w.ownsRow lo e sz v n xs) (hg: ∀ g,v.ownBlock=some g→lo'≤g):w.ownsRow lo' e sz v n xs:=by
 obtain⟨h1,h2|⟨g,cap,cur,hv,hg',r⟩⟩:=h
 · exact⟨h1,.inl h2⟩
 · exact⟨h1,.inr ⟨g,cap,cur,hv,hg g (by rw[hv];rfl),r⟩⟩
theorem arcs_any2 {wq w:World} (b c lo q:Nat) (n:Int) (pv lv fv av ev:Value) (s:StD) (p:Nat→Bool) (xs:List EdgeR) (bs:List Bool) (hlo:lo≤wq.heap.size) (hP:PosSt wq b lo pv lv fv s) (hF:Fr wq w) (hA:NfaSt w c wq.heap.size n av ev xs bs) (hc:wq.heap.size≤c) (hp: ∀ j,p j=true→j<s.labs.length) (hs:s.labs.length≤24) (hx:xs.length≤100000) (hq:q≤1000):
  Calls Tryz.prog 223 #[.int .i64 (q:Int),.int .u32 (bN p:Int),.pointer (some ⟨c,0,none⟩),.pointer (some ⟨b,0,none⟩)] w fun e w'=>e= .returned (.tuple #[])∧ ∃ av',NfaSt w' c wq.heap.size n av' ev (xs++rowA s.labs q p) bs∧Fr wq w':=by
 have hA0:NfaSt w c lo n av ev xs bs:=⟨hA.box,owns_lo hA.arcs hlo,owns_lo hA.ends hlo,hA.ap,hA.na,hA.ne⟩
 have hAB: ∀ i,AB c av i→wq.heap.size≤i:=by
  rintro i (e|e)
  · omega
  · exact(World.ownsRow.lt hA.arcs i e).1
 have hPB: ∀ i,PB b lv fv i→i<wq.heap.size:=by
  rintro i (e|e|e)
  · have:=hP.box.lt;omega
  · exact owns_old hP.labs i e
  · exact owns_old hP.fol i e
 refine(arcs_any b c lo q n pv lv fv av ev s p xs bs w (hP.fr hF) hA0 (fun i h1 h2=>by have:=hAB i h2;have:=hPB i h1;omega) hp hs hx hq).mono ?_
 rintro e w' ⟨rfl,av',hN,hT,hM⟩
 refine⟨rfl,av',⟨hN.box,owns_up hN.arcs ?_,owns_up hN.ends (fun g e=>(World.ownsRow.lt hA.ends g e).1),hN.ap,hN.na,hN.ne⟩,hT.old hF (fun i hi h=>by have:=hAB i h;omega)⟩
 intro g hg
 rcases hM with e|⟨g',e,h⟩
 · rw[e]at hg;exact(World.ownsRow.lt hA.arcs g hg).1
 · rw[e]at hg
   cases hg
   have:=hF.size
   omega
open Go.Shelf
def sh_sortArc_ren:Go.Shelf.Ren:=⟨fun|6=>224|15=>156|14=>241|28=>203|29=>204|20=>244|21=>245|22=>246|23=>247|24=>248|25=>249|26=>250|27=>251|46=>252|47=>227|48=>228|49=>253|50=>254|57=>255|n=>n,fun|22=>130|24=>195|25=>276|3=>3|39=>179|0=>0|53=>112|55=>250|4=>4|46=>243|45=>242|50=>200|5=>5|9=>9|66=>277|70=>281|76=>292|77=>293|n=>n,fun|n=>n⟩
theorem sh_sortArc:Go.Proofs.SlLaysF0.n6 Tryz.prog sh_sortArc_ren:= {
 mixed:=by kernel_rfl
 f6:=⟨Tryz.f224.name,by decide,Tryz.func224.trans (congrArg some (by kernel_rfl))⟩
 f14:=⟨Tryz.f241.name,by decide,Tryz.func241.trans (congrArg some (by kernel_rfl))⟩
 f15:=Tryz.func156.trans (congrArg some (by kernel_rfl))
 f20:=⟨Tryz.f244.name,by decide,Tryz.func244.trans (congrArg some (by kernel_rfl))⟩
 f21:=⟨Tryz.f245.name,by decide,Tryz.func245.trans (congrArg some (by kernel_rfl))⟩
 f22:=⟨Tryz.f246.name,by decide,Tryz.func246.trans (congrArg some (by kernel_rfl))⟩
 f23:=⟨Tryz.f247.name,by decide,Tryz.func247.trans (congrArg some (by kernel_rfl))⟩
 f24:=⟨Tryz.f248.name,by decide,Tryz.func248.trans (congrArg some (by kernel_rfl))⟩
 f25:=⟨Tryz.f249.name,by decide,Tryz.func249.trans (congrArg some (by kernel_rfl))⟩
 f26:=⟨Tryz.f250.name,by decide,Tryz.func250.trans (congrArg some (by kernel_rfl))⟩
 f27:=⟨Tryz.f251.name,by decide,Tryz.func251.trans (congrArg some (by kernel_rfl))⟩
 f28:=Tryz.func203.trans (congrArg some (by kernel_rfl))
 f29:=Tryz.func204.trans (congrArg some (by kernel_rfl))
 f46:=⟨Tryz.f252.name,by decide,Tryz.func252.trans (congrArg some (by kernel_rfl))⟩
 f47:=Tryz.func227.trans (congrArg some (by kernel_rfl))
 f48:=Tryz.func228.trans (congrArg some (by kernel_rfl))
 f49:=⟨Tryz.f253.name,by decide,Tryz.func253.trans (congrArg some (by kernel_rfl))⟩
 f50:=⟨Tryz.f254.name,by decide,Tryz.func254.trans (congrArg some (by kernel_rfl))⟩
 f57:=⟨Tryz.f255.name,by decide,Tryz.func255.trans (congrArg some (by kernel_rfl))⟩
 t0:=Tryz.underlying0
 a0:=Tryz.isAgg0
 z0:=Tryz.sizeOf0
 v0:=Tryz.zeroValue0
 t3:=Tryz.underlying3
 a3:=Tryz.isAgg3
 z3:=Tryz.sizeOf3
 v3:=Tryz.zeroValue3
 t4:=Tryz.underlying4
 a4:=Tryz.isAgg4
 z4:=Tryz.sizeOf4
 v4:=Tryz.zeroValue4
 t5:=Tryz.underlying5
 a5:=Tryz.isAgg5
 z5:=Tryz.sizeOf5
 v5:=Tryz.zeroValue5
 t9:=Tryz.underlying9
 a9:=Tryz.isAgg9
 z9:=Tryz.sizeOf9
 v9:=Tryz.zeroValue9
 t22:=Tryz.underlying130
 a22:=Tryz.isAgg130
 z22:=Tryz.sizeOf130
 v22:=Tryz.zeroValue130
 t25:=Tryz.underlying276
 a25:=Tryz.isAgg276
 z25:=Tryz.sizeOf276
 v25:=Tryz.zeroValue276
 t39:=Tryz.underlying179
 a39:=Tryz.isAgg179
 z39:=Tryz.sizeOf179
 v39:=Tryz.zeroValue179
 t45:=Tryz.underlying242
 a45:=Tryz.isAgg242
 z45:=Tryz.sizeOf242
 v45:=Tryz.zeroValue242
 t46:=Tryz.underlying243
 a46:=Tryz.isAgg243
 z46:=Tryz.sizeOf243
 v46:=Tryz.zeroValue243
 t50:=Tryz.underlying200
 a50:=Tryz.isAgg200
 z50:=Tryz.sizeOf200
 v50:=Tryz.zeroValue200
 t53:=Tryz.underlying112
 a53:=Tryz.isAgg112
 z53:=Tryz.sizeOf112
 v53:=Tryz.zeroValue112
 t55:=Tryz.underlying250
 a55:=Tryz.isAgg250
 z55:=Tryz.sizeOf250
 v55:=Tryz.zeroValue250
 t66:=Tryz.underlying277
 a66:=Tryz.isAgg277
 z66:=Tryz.sizeOf277
 v66:=Tryz.zeroValue277
 t70:=Tryz.underlying281
 a70:=Tryz.isAgg281
 z70:=Tryz.sizeOf281
 v70:=Tryz.zeroValue281
 t76:=Tryz.underlying292
 a76:=Tryz.isAgg292
 z76:=Tryz.sizeOf292
 v76:=Tryz.zeroValue292
 t77:=Tryz.underlying293
 a77:=Tryz.isAgg293
 z77:=Tryz.sizeOf293
 v77:=Tryz.zeroValue293}
end Go.Proofs.YtjnahjgncmcmdaaGreat