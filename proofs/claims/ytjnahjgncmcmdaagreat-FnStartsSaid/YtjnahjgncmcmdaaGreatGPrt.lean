/- Texts in one: PutE, Glu, Ptg, Own, Spn, Prt. -/
import Derived.Test.YtjnahjgncmcmdaaGreatGGrOk
import Derived.Test.YtjnahjgncmcmdaaGreatGSWalk
import Derived.Deep.RegionLaw
import Derived.Deep.RegionHeld3
import Derived.Deep.Cut
import Derived.Test.YtjnahjgncmcmdaaGreatGNfp
import Derived.Test.YtjnahjgncmcmdaaGreatGParP
import Derived.Test.YtjnahjgncmcmdaaGreatGRow
namespace Go.Proofs.YtjnahjgncmcmdaaGreat
open Go.RowKit
set_option linter.unusedVariables false
set_option linter.unusedSimpArgs false
def selE (p:EdgeR→Bool) (xs:List EdgeR) (k:Nat):List EdgeR:=(xs.take k).filter p
theorem selE_yes {p:EdgeR→Bool} {xs:List EdgeR} {k:Nat} {x:EdgeR} (hk:k<xs.length) (hx:edgeAt xs k=x) (h:p x=true):selE p xs (k+1)=selE p xs k++[x]:=by
 have e:xs[k]=x:=by rw[← hx];simp[edgeAt,List.getD,List.getElem?_eq_getElem hk]
 unfold selE
 rw[List.take_succ_eq_append_getElem hk,List.filter_append,e]
 simp[h]
theorem selE_no {p:EdgeR→Bool} {xs:List EdgeR} {k:Nat} {x:EdgeR} (hk:k<xs.length) (hx:edgeAt xs k=x) (h:p x=false):selE p xs (k+1)=selE p xs k:=by
 have e:xs[k]=x:=by rw[← hx];simp[edgeAt,List.getD,List.getElem?_eq_getElem hk]
 unfold selE
 rw[List.take_succ_eq_append_getElem hk,List.filter_append,e]
 simp[h]
theorem selE_all (p:EdgeR→Bool) (xs:List EdgeR):selE p xs xs.length=xs.filter p:=by unfold selE;rw[List.take_length]
theorem selE_le (p:EdgeR→Bool) (xs:List EdgeR) (k:Nat):(selE p xs k).length≤xs.length:=by
 unfold selE
 have h1:=List.length_filter_le p (xs.take k)
 have h2:=List.length_take_le k xs
 have h3:(xs.take k).length≤xs.length:=by rw[List.length_take];omega
 omega
def putE (xs:List EdgeR) (f:EdgeR):List EdgeR:=xs.filter (fun x=>edgeLt x f)++[f]++xs.filter (edgeLt f)
def putEK (xs:List EdgeR) (f:EdgeR) (k:Nat):List EdgeR:=xs.filter (fun x=>edgeLt x f)++[f]++selE (edgeLt f) xs k
theorem putEK_zero (xs:List EdgeR) (f:EdgeR):putEK xs f 0=xs.filter (fun x=>edgeLt x f)++[f]:=by simp[putEK,selE]
theorem putEK_all (xs:List EdgeR) (f:EdgeR):putEK xs f xs.length=putE xs f:=by unfold putEK putE;rw[selE_all]
theorem putEK_yes {f:EdgeR} {xs:List EdgeR} {k:Nat} {x:EdgeR} (hk:k<xs.length) (hx:edgeAt xs k=x) (h:edgeLt f x=true):putEK xs f (k+1)=putEK xs f k++[x]:=by
 unfold putEK;rw[selE_yes hk hx h];simp only[List.append_assoc]
theorem putEK_no {f:EdgeR} {xs:List EdgeR} {k:Nat} {x:EdgeR} (hk:k<xs.length) (hx:edgeAt xs k=x) (h:edgeLt f x=false):putEK xs f (k+1)=putEK xs f k:=by
 unfold putEK;rw[selE_no hk hx h]
theorem putEK_le (xs:List EdgeR) (f:EdgeR) (k:Nat):(putEK xs f k).length≤2*xs.length+1:=by
 have h1:=selE_le (edgeLt f) xs k
 have h2:=List.length_filter_le (fun x=>edgeLt x f) xs
 unfold putEK
 simp only[List.length_append,List.length_singleton]
 omega
theorem edgeC_snoc (l:List EdgeR) (x:EdgeR):(l++[x]).flatMap EdgeR.cells=l.flatMap EdgeR.cells++[.int .i64 x.f0,.int .u8 (x.f1.toNat:Int),.int .i64 x.f2]:=by
 rw[List.flatMap_append];simp[EdgeR.cells]
set_option maxHeartbeats 8000000 in
set_option maxRecDepth 100000 in
theorem l04Put_any (v:Value) (xs:List EdgeR) (f:EdgeR) (w:World) (hv:EdgesR w v xs) (hn:xs.length≤1048576):
  Calls Tryz.prog 217 #[v,.agg #[.int .i64 f.f0,.int .u8 (f.f1.toNat:Int),.int .i64 f.f2]] w fun e w'=> ∃ ao cap,e= .returned (.slice ao (putE xs f).length cap)∧EdgesW w' w.heap.size w'.heap.size (.slice ao (putE xs f).length cap) (putE xs f)∧Fr w w':=by
 obtain⟨i0,hi,hz0,hz1,hz2⟩:=info_parts info_Edge
 obtain⟨a0,b0,o0,c0,rfl,hc0,hm0,f0⟩:=hv.one
 have F0:=Lib.hid f0
 have hfl:=f.f1.toNat_lt
 clear f0
 go_enter Tryz.func217,Tryz.ntmps217
 have BF0:Box (w.alloc (.cells #[.int .i64 f.f0,.int .u8 (f.f1.toNat:Int),.int .i64 f.f2] 79)) w.heap.size #[.int .i64 f.f0,.int .u8 (f.f1.toNat:Int),.int .i64 f.f2] 79:=Box.new _ _ _
 go_wp2_with fail
 go_loopw [5,6] (fun o i wr=> ∃ (k:Nat) (l:List EdgeR) (ao:Option Addr) (cap:Nat),k≤xs.length∧i= .int .i64 k∧o= .slice ao l.length cap∧Hid (l=selE (fun x=>edgeLt x f) xs k)∧Hid (EdgesW wr (w.heap.size+1) wr.heap.size (.slice ao l.length cap) l)∧Box wr w.heap.size #[.int .i64 f.f0,.int .u8 (f.f1.toNat:Int),.int .i64 f.f2] 79∧Fr w wr) (fun _ i _=>xs.length-(intOf i).toNat)
 case atStart=>exact⟨0,[],some ⟨w.heap.size+1,0,none⟩,0,Nat.zero_le _,rfl,rfl,Lib.hid rfl,Lib.hid ⟨made_empty (by simp) (by omega),RowIn.one (by omega) (by simp)⟩,BF0.alloc _,by exact Qf⟩
 case round=>
  clear BF0
  obtain⟨k,l,ao,cap,hk,rfl,rfl,hl2,HW,BF,hfr⟩:=hrel
  have FF:=BF.facts
  have hzo:=BF.lt
  by_cases hlt:k<xs.length
  · obtain⟨rfl,hb0,f0⟩:=F0.out (by omega)
    obtain⟨x,hx⟩: ∃ x,edgeAt xs k=x:=⟨_,rfl⟩
    have fk:=f0 k hlt
    rw[hx]at fk
    obtain⟨g0,g1,g2⟩:=fk
    have hxl:=x.f1.toNat_lt
    have hb0r:=Nat.lt_of_lt_of_le hb0 hfr.size
    have P0: ∀ w',Sf wr w'→w'.cell? _=_:=fun w' h=>((hfr.trans h.out).cell (p:=⟨b0,_,none⟩) hb0).trans g0
    have P1: ∀ w',Sf wr w'→w'.cell? _=_:=fun w' h=>((hfr.trans h.out).cell (p:=⟨b0,_,none⟩) hb0).trans g1
    have P2: ∀ w',Sf wr w'→w'.cell? _=_:=fun w' h=>((hfr.trans h.out).cell (p:=⟨b0,_,none⟩) hb0).trans g2
    have RF: ∀ w',Sf wr w'→ ∀ o,w'.cell? ⟨w.heap.size,o,none⟩=(#[.int .i64 f.f0,.int .u8 (f.f1.toNat:Int),.int .i64 f.f2]:Array Value)[o]? :=fun w' h o=>(BF.fr h.out).cell o
    clear f0
    cases hp:edgeLt x f
    · have CT:Hid (∀ w',Calls Tryz.prog 144 #[.agg #[.int .i64 x.f0,.int .u8 (x.f1.toNat:Int),.int .i64 x.f2],.agg #[.int .i64 f.f0,.int .u8 (f.f1.toNat:Int),.int .i64 f.f2]] w' fun e w''=>e= .returned (.bool false)∧Fr w' w''):=Lib.hid fun w'=>by rw[← hp];exact specEdgeLess_any x f w'
      have hs:Hid (l=_):=Lib.hid (hl2.out.trans (selE_no (p:=fun x=>edgeLt x f) hlt hx hp).symm)
      clear hp hx hl2
      go_wp2_with fail
      go_region_held3 (fun w'=>Sf wr w') ((refine Sf.mk ?_;repeat(first|(with_reducible exact Fr.refl _)|(with_reducible assumption)|(with_reducible refine Fr.drewN ?_ _)|(with_reducible refine Fr.drew ?_)|(with_reducible refine Fr.alloc ?_ _)|(with_reducible refine Fr.setCell ?_ (by exact Qz) _)|(with_reducible refine Fr.trans ?_ (by with_reducible assumption))))) (first|(go_at_call 144;refine(CT.out _).mono ?_;rintro e w5 ⟨rfl,hf5⟩))
      have z5:=hf5.size;(try simp only[World.size_drew,World.heap_drewN]at z5)
      go_wp2_with fail
      go_roundw
      case rel=>exact⟨k+1,l,ao,cap,by omega,by go_num,rfl,hs,Lib.hid (OwW.mono (OwW.fr HW.out (by exact Qf)) (Nat.le_refl _) (by exact Qz)),BF.fr (by exact Qf),by exact Qf⟩
      case measure=>(simp[intOf];omega)
    · have CT:Hid (∀ w',Calls Tryz.prog 144 #[.agg #[.int .i64 x.f0,.int .u8 (x.f1.toNat:Int),.int .i64 x.f2],.agg #[.int .i64 f.f0,.int .u8 (f.f1.toNat:Int),.int .i64 f.f2]] w' fun e w''=>e= .returned (.bool true)∧Fr w' w''):=Lib.hid fun w'=>by rw[← hp];exact specEdgeLess_any x f w'
      have hs:Hid (l++[x]=_):=Lib.hid (((selE_yes (p:=fun x=>edgeLt x f) hlt hx hp).trans (congrArg (· ++[x]) hl2.out.symm)).symm)
      have hml:l.length≤3000000:=by have h1:=selE_le (fun x=>edgeLt x f) xs k;have h2:=congrArg List.length hl2.out;omega
      have HC:=Lib.hid (edgeC_snoc l x)
      have HL:=Lib.hid (show(l++[x]).length=l.length+1 by simp)
      clear hp hx hl2
      go_wp2_with fail
      go_region_held3 (fun w'=>Sf wr w') ((refine Sf.mk ?_;repeat(first|(with_reducible exact Fr.refl _)|(with_reducible assumption)|(with_reducible refine Fr.drewN ?_ _)|(with_reducible refine Fr.drew ?_)|(with_reducible refine Fr.alloc ?_ _)|(with_reducible refine Fr.setCell ?_ (by exact Qz) _)|(with_reducible refine Fr.trans ?_ (by with_reducible assumption))))) (first|(go_at_call 144;refine(CT.out _).mono ?_;rintro e w5 ⟨rfl,hf5⟩))
      have z5:=hf5.size;(try simp only[World.size_drew,World.heap_drewN]at z5)
      have hfw:Fr wr w5:=by exact Qf
      have q0:=P0 w5 (Sf.mk hfw)
      have q1:=P1 w5 (Sf.mk hfw)
      have q2:=P2 w5 (Sf.mk hfw)
      have HW5:=Lib.hid (OwW.fr HW.out hfw)
      have BF5:=BF.fr hfw
      have hf05:Fr w w5:=by exact Qf
      clear P0 P1 P2 RF FF HW BF
      go_wp2_with(at_builtin;(refine wpList_append_rd rfl _ _ 24 rfl (w.heap.size+1) 79 i0 (.agg #[.int .i64 0,.int .u8 0,.int .i64 0]) 3 24 Tryz.underlying24 hi hz0 hz1 hz2 rfl (by decide) _ l.length (l.flatMap EdgeR.cells) rfl (World.ownsRow.alloc HW5.out.1 _) _ 1 [.int .i64 x.f0,.int .u8 (x.f1.toNat:Int),.int .i64 x.f2] rfl (RdS.new (by first|rfl|simp) rfl) (by simp[Value.oneCell']) (by unfold maxLen;omega) (by omega) (by exact Qz) ?_;intro ay2 cy2 w9 hown hgrow hat))
      have s9:Span (w.heap.size+1) wr.heap.size (w5.alloc (.cells #[.int .i64 x.f0,.int .u8 (x.f1.toNat:Int),.int .i64 x.f2] 79)) w9:=Span.of_gr hgrow (fun g hg=>HW5.out.2 g hg)
      have z9:=s9.size
      simp only[World.size_alloc]at z9
      have BF9:=(BF5.alloc (.cells #[.int .i64 x.f0,.int .u8 (x.f1.toNat:Int),.int .i64 x.f2] 79)).span s9 (.inl (by omega))
      have hf9:Fr w w9:=Span.fr (show Fr w _ by exact Qf) s9 (by omega)
      rw[← HC.out]at hown
      have hW9:EdgesW w9 (w.heap.size+1) w9.heap.size (.slice ay2 (l++[x]).length cy2) (l++[x]):=by
       have:=OwW.of_owns hown
       rw[← HL.out]at this
       exact this
      try go_wp2_with fail
      go_roundw
      case rel=>exact⟨k+1,l++[x],ay2,cy2,by omega,by go_num,by rw[HL.out],hs,Lib.hid hW9,BF9,hf9⟩
      case measure=>(simp[intOf];omega)
  · obtain rfl:k=xs.length:=by omega
    have hml:l.length≤3000000:=by have h1:=selE_le (fun x=>edgeLt x f) xs xs.length;have h2:=congrArg List.length hl2.out;omega
    have hs:Hid (l++[f]=putEK xs f 0):=Lib.hid (by have:=hl2.out;rw[selE_all]at this;rw[putEK_zero,this])
    have HC:=Lib.hid (edgeC_snoc l f)
    have HL:=Lib.hid (show(l++[f]).length=l.length+1 by simp)
    clear hl2 hlt hk
    go_wp2_with(at_builtin;(refine wpList_append_rd rfl _ _ 24 rfl (w.heap.size+1) 79 i0 (.agg #[.int .i64 0,.int .u8 0,.int .i64 0]) 3 24 Tryz.underlying24 hi hz0 hz1 hz2 rfl (by decide) _ l.length (l.flatMap EdgeR.cells) rfl (World.ownsRow.alloc HW.out.1 _) _ 1 [.int .i64 f.f0,.int .u8 (f.f1.toNat:Int),.int .i64 f.f2] rfl (RdS.new (by first|rfl|simp) rfl) (by simp[Value.oneCell']) (by unfold maxLen;omega) (by omega) (by exact Qz) ?_;intro ay2 cy2 w9 hown hgrow hat))
    have s9:Span (w.heap.size+1) wr.heap.size (wr.alloc (.cells #[.int .i64 f.f0,.int .u8 (f.f1.toNat:Int),.int .i64 f.f2] 79)) w9:=Span.of_gr hgrow (fun g hg=>HW.out.2 g hg)
    have z9:=s9.size
    simp only[World.size_alloc]at z9
    have BF9:=(BF.alloc (.cells #[.int .i64 f.f0,.int .u8 (f.f1.toNat:Int),.int .i64 f.f2] 79)).span s9 (.inl (by omega))
    have hf9:Fr w w9:=Span.fr (show Fr w _ by exact Qf) s9 (by omega)
    rw[← HC.out]at hown
    have hW9:EdgesW w9 (w.heap.size+1) w9.heap.size (.slice ay2 (l++[f]).length cy2) (l++[f]):=by
     have:=OwW.of_owns hown
     rw[← HL.out]at this
     exact this
    have HW9:=Lib.hid hW9
    clear FF HW hown hgrow hat BF hzo
    try go_wp2_with fail
    go_loopw [5,7] (fun o i wr=> ∃ (k:Nat) (l:List EdgeR) (ao:Option Addr) (cap:Nat),k≤xs.length∧i= .int .i64 k∧o= .slice ao l.length cap∧Hid (l=putEK xs f k)∧Hid (EdgesW wr (w.heap.size+1) wr.heap.size (.slice ao l.length cap) l)∧Box wr w.heap.size #[.int .i64 f.f0,.int .u8 (f.f1.toNat:Int),.int .i64 f.f2] 79∧Fr w wr) (fun _ i _=>xs.length-(intOf i).toNat)
    case atStart=>exact⟨0,l++[f],ay2,cy2,Nat.zero_le _,rfl,by rw[HL.out],hs,HW9,BF9,hf9⟩
    case round=>
     clear hW9 HW9 BF9 hf9 s9 z9 hs HC HL hml hfr
     obtain⟨k,l,ao,cap,hk,rfl,rfl,hl2,HW,BF,hfr⟩:=hrel
     have FF:=BF.facts
     have hzo:=BF.lt
     by_cases hlt:k<xs.length
     · obtain⟨rfl,hb0,f0⟩:=F0.out (by omega)
       obtain⟨x,hx⟩: ∃ x,edgeAt xs k=x:=⟨_,rfl⟩
       have fk:=f0 k hlt
       rw[hx]at fk
       obtain⟨g0,g1,g2⟩:=fk
       have hxl:=x.f1.toNat_lt
       have hb0r:=Nat.lt_of_lt_of_le hb0 hfr.size
       have P0: ∀ w',Sf wr w'→w'.cell? _=_:=fun w' h=>((hfr.trans h.out).cell (p:=⟨b0,_,none⟩) hb0).trans g0
       have P1: ∀ w',Sf wr w'→w'.cell? _=_:=fun w' h=>((hfr.trans h.out).cell (p:=⟨b0,_,none⟩) hb0).trans g1
       have P2: ∀ w',Sf wr w'→w'.cell? _=_:=fun w' h=>((hfr.trans h.out).cell (p:=⟨b0,_,none⟩) hb0).trans g2
       have RF: ∀ w',Sf wr w'→ ∀ o,w'.cell? ⟨w.heap.size,o,none⟩=(#[.int .i64 f.f0,.int .u8 (f.f1.toNat:Int),.int .i64 f.f2]:Array Value)[o]? :=fun w' h o=>(BF.fr h.out).cell o
       clear f0
       cases hp:edgeLt f x
       · have CT:Hid (∀ w',Calls Tryz.prog 144 #[.agg #[.int .i64 f.f0,.int .u8 (f.f1.toNat:Int),.int .i64 f.f2],.agg #[.int .i64 x.f0,.int .u8 (x.f1.toNat:Int),.int .i64 x.f2]] w' fun e w''=>e= .returned (.bool false)∧Fr w' w''):=Lib.hid fun w'=>by rw[← hp];exact specEdgeLess_any f x w'
         have hs:Hid (l=_):=Lib.hid (hl2.out.trans (putEK_no hlt hx hp).symm)
         clear hp hx hl2
         go_wp2_with fail
         go_region_held3 (fun w'=>Sf wr w') ((refine Sf.mk ?_;repeat(first|(with_reducible exact Fr.refl _)|(with_reducible assumption)|(with_reducible refine Fr.drewN ?_ _)|(with_reducible refine Fr.drew ?_)|(with_reducible refine Fr.alloc ?_ _)|(with_reducible refine Fr.setCell ?_ (by exact Qz) _)|(with_reducible refine Fr.trans ?_ (by with_reducible assumption))))) (first|(go_at_call 144;refine(CT.out _).mono ?_;rintro e w5 ⟨rfl,hf5⟩))
         have z5:=hf5.size;(try simp only[World.size_drew,World.heap_drewN]at z5)
         go_wp2_with fail
         go_roundw
         case rel=>exact⟨k+1,l,ao,cap,by omega,by go_num,rfl,hs,Lib.hid (OwW.mono (OwW.fr HW.out (by exact Qf)) (Nat.le_refl _) (by exact Qz)),BF.fr (by exact Qf),by exact Qf⟩
         case measure=>(simp[intOf];omega)
       · have CT:Hid (∀ w',Calls Tryz.prog 144 #[.agg #[.int .i64 f.f0,.int .u8 (f.f1.toNat:Int),.int .i64 f.f2],.agg #[.int .i64 x.f0,.int .u8 (x.f1.toNat:Int),.int .i64 x.f2]] w' fun e w''=>e= .returned (.bool true)∧Fr w' w''):=Lib.hid fun w'=>by rw[← hp];exact specEdgeLess_any f x w'
         have hs:Hid (l++[x]=_):=Lib.hid (((putEK_yes hlt hx hp).trans (congrArg (· ++[x]) hl2.out.symm)).symm)
         have hml:l.length≤3000000:=by have h1:=putEK_le xs f k;have h2:=congrArg List.length hl2.out;omega
         have HC:=Lib.hid (edgeC_snoc l x)
         have HL:=Lib.hid (show(l++[x]).length=l.length+1 by simp)
         clear hp hx hl2
         go_wp2_with fail
         go_region_held3 (fun w'=>Sf wr w') ((refine Sf.mk ?_;repeat(first|(with_reducible exact Fr.refl _)|(with_reducible assumption)|(with_reducible refine Fr.drewN ?_ _)|(with_reducible refine Fr.drew ?_)|(with_reducible refine Fr.alloc ?_ _)|(with_reducible refine Fr.setCell ?_ (by exact Qz) _)|(with_reducible refine Fr.trans ?_ (by with_reducible assumption))))) (first|(go_at_call 144;refine(CT.out _).mono ?_;rintro e w5 ⟨rfl,hf5⟩))
         have z5:=hf5.size;(try simp only[World.size_drew,World.heap_drewN]at z5)
         have hfw:Fr wr w5:=by exact Qf
         have q0:=P0 w5 (Sf.mk hfw)
         have q1:=P1 w5 (Sf.mk hfw)
         have q2:=P2 w5 (Sf.mk hfw)
         have HW5:=Lib.hid (OwW.fr HW.out hfw)
         have BF5:=BF.fr hfw
         have hf05:Fr w w5:=by exact Qf
         clear P0 P1 P2 RF FF HW BF
         go_wp2_with(at_builtin;(refine wpList_append_rd rfl _ _ 24 rfl (w.heap.size+1) 79 i0 (.agg #[.int .i64 0,.int .u8 0,.int .i64 0]) 3 24 Tryz.underlying24 hi hz0 hz1 hz2 rfl (by decide) _ l.length (l.flatMap EdgeR.cells) rfl (World.ownsRow.alloc HW5.out.1 _) _ 1 [.int .i64 x.f0,.int .u8 (x.f1.toNat:Int),.int .i64 x.f2] rfl (RdS.new (by first|rfl|simp) rfl) (by simp[Value.oneCell']) (by unfold maxLen;omega) (by omega) (by exact Qz) ?_;intro ay2 cy2 w9 hown hgrow hat))
         have s9:Span (w.heap.size+1) wr.heap.size (w5.alloc (.cells #[.int .i64 x.f0,.int .u8 (x.f1.toNat:Int),.int .i64 x.f2] 79)) w9:=Span.of_gr hgrow (fun g hg=>HW5.out.2 g hg)
         have z9:=s9.size
         simp only[World.size_alloc]at z9
         have BF9:=(BF5.alloc (.cells #[.int .i64 x.f0,.int .u8 (x.f1.toNat:Int),.int .i64 x.f2] 79)).span s9 (.inl (by omega))
         have hf9:Fr w w9:=Span.fr (show Fr w _ by exact Qf) s9 (by omega)
         rw[← HC.out]at hown
         have hW9:EdgesW w9 (w.heap.size+1) w9.heap.size (.slice ay2 (l++[x]).length cy2) (l++[x]):=by
          have:=OwW.of_owns hown
          rw[← HL.out]at this
          exact this
         try go_wp2_with fail
         go_roundw
         case rel=>exact⟨k+1,l++[x],ay2,cy2,by omega,by go_num,by rw[HL.out],hs,Lib.hid hW9,BF9,hf9⟩
         case measure=>(simp[intOf];omega)
     · obtain rfl:k=xs.length:=by omega
       have hs:=hl2.out
       rw[putEK_all]at hs
       have HS:=Lib.hid hs
       clear hs hl2
       go_wp2_with fail
       go_ret
       rw[← HS.out]
       exact⟨ao,cap,rfl,OwW.mono HW.out (by omega) (Nat.le_refl _),by exact Qf⟩
/-! ### what a piece adds -/
structure GluOk (s:StD) (r:StD×SpD) (n:Nat):Prop where
 labs: ∃ more,r.1.labs=s.labs++more∧more.length=n
 first: ∀ j,r.2.first j=true→s.labs.length≤j∧j<r.1.labs.length
 last: ∀ j,r.2.last j=true→s.labs.length≤j∧j<r.1.labs.length
 fol: ∀ i j,r.1.fol i j=true→s.fol i j=true∨(s.labs.length≤i∧i<r.1.labs.length∧s.labs.length≤j∧j<r.1.labs.length)
theorem GluOk.len {s:StD} {r:StD×SpD} {n:Nat} (h:GluOk s r n):r.1.labs.length=s.labs.length+n:=by
 obtain⟨m,h1,h2⟩:=h.labs
 rw[h1,List.length_append,h2]
theorem orB_iff {a b:Nat→Bool} {j:Nat}:orB a b j=true↔a j=true∨b j=true:=by simp[orB]
theorem ifB_iff {c:Bool} {b:Nat→Bool} {j:Nat}:ifB c b j=true↔c=true∧b j=true:=by simp[ifB]
theorem folJ_iff {fol:Nat→Nat→Bool} {l f:Nat→Bool} {i j:Nat}:folJ fol l f i j=true↔fol i j=true∨(l i=true∧f j=true):=by simp[folJ]
theorem GluOk.zero (s:StD) (b:Bool):GluOk s (s,sp0 b) 0:=⟨⟨[],by simp,rfl⟩,fun j h=>Bool.noConfusion h,fun j h=>Bool.noConfusion h,fun i j h=>Or.inl h⟩
theorem GluOk.row {s a1:StD} {a2:SpD} {r:StD×SpD} {n m:Nat} (h:GluOk s (a1,a2) n) (k:GluOk a1 r m):GluOk s (⟨r.1.labs,folJ r.1.fol a2.last r.2.first⟩,spRow a2 r.2) (n+m):=by
 have l1:=h.len
 have l2:=k.len
 obtain⟨m1,e1,e2⟩:=h.labs
 obtain⟨m2,e3,e4⟩:=k.labs
 simp only[]at l1 l2 e1
 refine⟨⟨m1++m2,by simp only[e3,e1,List.append_assoc],by rw[List.length_append];omega⟩,fun j hj=>?_,fun j hj=>?_,fun i j hj=>?_⟩
 · rcases orB_iff.1 hj with hj|hj
   · have:=h.first j hj;simp only[]at this ⊢;omega
   · have:=k.first j (ifB_iff.1 hj).2;simp only[]at this ⊢;omega
 · rcases orB_iff.1 hj with hj|hj
   · have:=h.last j (ifB_iff.1 hj).2;simp only[]at this ⊢;omega
   · have:=k.last j hj;simp only[]at this ⊢;omega
 · rcases folJ_iff.1 hj with hj|⟨h1,h2⟩
   · rcases k.fol i j hj with hj|hj
     · rcases h.fol i j hj with hj|hj
       · exact .inl hj
       · right;simp only[]at hj ⊢;omega
     · right;simp only[]at hj ⊢;omega
   · have p1:=h.last i h1
     have p2:=k.first j h2
     right;simp only[]at p1 p2 ⊢;omega
theorem GluOk.alt {s a1:StD} {a2:SpD} {r:StD×SpD} {n m:Nat} (h:GluOk s (a1,a2) n) (k:GluOk a1 r m):GluOk s (r.1,spAlt a2 r.2) (n+m):=by
 have l1:=h.len
 have l2:=k.len
 obtain⟨m1,e1,e2⟩:=h.labs
 obtain⟨m2,e3,e4⟩:=k.labs
 simp only[]at l1 l2 e1
 refine⟨⟨m1++m2,by simp only[e3,e1,List.append_assoc],by rw[List.length_append];omega⟩,fun j hj=>?_,fun j hj=>?_,fun i j hj=>?_⟩
 · rcases orB_iff.1 hj with hj|hj
   · have:=h.first j hj;simp only[]at this ⊢;omega
   · have:=k.first j hj;simp only[]at this ⊢;omega
 · rcases orB_iff.1 hj with hj|hj
   · have:=h.last j hj;simp only[]at this ⊢;omega
   · have:=k.last j hj;simp only[]at this ⊢;omega
 · rcases k.fol i j hj with hj|hj
   · rcases h.fol i j hj with hj|hj
     · exact .inl hj
     · right;simp only[]at hj ⊢;omega
   · right;simp only[]at hj ⊢;omega
theorem GluOk.post {s:StD} {r:StD×SpD} {n:Nat} (h:GluOk s r n) (b c:Bool):GluOk s (⟨r.1.labs,if b=true then r.1.fol else folJ r.1.fol r.2.last r.2.first⟩,⟨r.2.first,r.2.last,c⟩) n:=by
 refine⟨h.labs,h.first,h.last,fun i j hj=>?_⟩
 simp only[]at hj
 split at hj
 · exact h.fol i j hj
 · rcases folJ_iff.1 hj with hj|⟨h1,h2⟩
   · exact h.fol i j hj
   · have p1:=h.last i h1
     have p2:=h.first j h2
     right;simp only[];omega
/-- A right piece's kids lie ahead of it. -/
theorem pieceB_kids {x:PieceD} {n:Nat} (h:pieceB x n=true): ∀ j,j<x.f2.length→0≤iAt x.f2 j∧iAt x.f2 j<(n:Int):=by
 intro j hj
 have hall:kidsB n x.f2=true∨x.f2.length=0:=by
  unfold pieceB at h
  split at h
  · simp at h;right;simp[h.2]
  · split at h
    · simp at h;exact .inl h.2.1
    · split at h
      · simp at h;exact .inl h.2.1
      · cases h
 rcases hall with hall|h0
 · unfold kidsB at hall
   rw[List.all_eq_true]at hall
   have:=hall x.f2[j] (List.getElem_mem hj)
   rw[decide_eq_true_eq]at this
   rwa [show iAt x.f2 j=x.f2[j] by simp[iAt,List.getD,List.getElem?_eq_getElem hj]]
 · omega
theorem pieceB_one {x:PieceD} {n:Nat} (h:pieceB x n=true) (h1:x.f0≠1) (h2:x.f0≠2) (h3:x.f0≠3):x.f2.length=1∧(x.f0=4∨x.f0=5∨x.f0=6):=by
 unfold pieceB at h
 rw[if_neg h1,if_neg (by omega)]at h
 split at h
 · rename_i hc
   simp at h
   exact⟨by rw[h.1],hc⟩
 · cases h
theorem pieceB_step {x:PieceD} {n:Nat} (h:pieceB x n=true) (h1:x.f0=1):x.f2=[]:=by
 unfold pieceB at h
 rw[if_pos h1]at h
 simp at h
 exact h.2
theorem kAt_lt {ps:List PieceD} (hp:pathB ps=true) {p:Nat} (hl:p<ps.length) {j:Nat} (hj:j<(nAt ps p).f2.length):kAt (nAt ps p).f2 j<p:=by
 have:=pieceB_kids ((pathB_out hp).2 p hl) j hj
 unfold kAt
 omega
theorem rowS_ok {go:Nat→StD→StD×SpD} {acc:List Nat} {ks:List Int} (s:StD): ∀ m,(∀ j,j<m→ ∀ s,GluOk s (go (kAt ks j) s) (nAt acc (kAt ks j)))→GluOk s (rowS go ks s m) (occK acc ks m)
 |0,_=>GluOk.zero s true
 |m+1,h=>(rowS_ok s m (fun j hj=>h j (by omega))).row (h m (by omega) _)
theorem altS_ok {go:Nat→StD→StD×SpD} {acc:List Nat} {ks:List Int} (s:StD): ∀ m,(∀ j,j<m→ ∀ s,GluOk s (go (kAt ks j) s) (nAt acc (kAt ks j)))→GluOk s (altS go ks s m) (occK acc ks m)
 |0,_=>GluOk.zero s false
 |m+1,h=>(altS_ok s m (fun j hj=>h j (by omega))).alt (h m (by omega) _)
theorem glu_ok {ps:List PieceD} (hp:pathB ps=true): ∀ f p,p<f→p<ps.length→ ∀ s,GluOk s (glu ps f p s) (occA ps p):=by
 intro f
 induction f with
 |zero=>intro p h;omega
 |succ f ih=>
  intro p hf hl s
  have hx:=(pathB_out hp).2 p hl
  have hk: ∀ j,j<(nAt ps p).f2.length→ ∀ s,GluOk s (glu ps f (kAt (nAt ps p).f2 j) s) (nAt (occL ps p) (kAt (nAt ps p).f2 j)):=fun j hj s=>by
   have h1:=kAt_lt hp hl hj
   have h2:=ih (kAt (nAt ps p).f2 j) (by omega) (by omega) s
   unfold occA at h2
   rwa [occL_same ps (m:=p) (by omega) h1]at h2
  have ho:occA ps p=occS (occL ps p) (nAt ps p):=occL_at ps hl
  rw[glu]
  simp only[]
  rw[ho]
  unfold occS
  by_cases h1:(nAt ps p).f0=1
  · rw[if_pos h1,if_pos h1,pieceB_step hx h1]
    refine⟨⟨[(nAt ps p).f1],rfl,rfl⟩,fun j hj=>?_,fun j hj=>?_,fun i j hj=> .inl hj⟩
    · simp only[oneB,decide_eq_true_eq]at hj
      simp only[List.length_append,List.length_singleton];omega
    · simp only[oneB,decide_eq_true_eq]at hj
      simp only[List.length_append,List.length_singleton];omega
  · rw[if_neg h1,if_neg h1,Nat.zero_add]
    by_cases h2:(nAt ps p).f0=2
    · rw[if_pos h2]
      exact rowS_ok s _ hk
    · rw[if_neg h2]
      by_cases h3:(nAt ps p).f0=3
      · rw[if_pos h3]
        exact altS_ok s _ hk
      · rw[if_neg h3]
        obtain⟨hl1,_⟩:=pieceB_one hx h1 h2 h3
        have hg:=hk 0 (by omega) s
        rw[hl1]
        show GluOk s _ (0+nAt (occL ps p) (kAt (nAt ps p).f2 0))
        rw[Nat.zero_add]
        have:=hg.post (decide ((nAt ps p).f0=6)) ((glu ps f (kAt (nAt ps p).f2 0) s).2.null||decide ((nAt ps p).f0≠5))
        simpa only[decide_eq_true_eq]using this
/-! ### sorted arcs -/
theorem edgeLt_irr (x:EdgeR):edgeLt x x=false:=by simp[edgeLt]
theorem edgeLt_iff (x y:EdgeR):edgeLt x y=true↔x.f0<y.f0∨(x.f0=y.f0∧(x.f1.toNat<y.f1.toNat∨(x.f1=y.f1∧x.f2<y.f2))):=by
 unfold edgeLt
 by_cases h0:x.f0=y.f0
 · rw[if_neg (by simpa using h0)]
   by_cases h1:x.f1=y.f1
   · rw[if_neg (by simpa using h1),decide_eq_true_eq,h0,h1]
     constructor
     · intro h;exact .inr ⟨rfl,.inr ⟨rfl,h⟩⟩
     · rintro(h|⟨_,h|⟨_,h⟩⟩)
       · omega
       · omega
       · exact h
   · rw[if_pos h1,decide_eq_true_eq]
     constructor
     · intro h;exact .inr ⟨h0,.inl h⟩
     · rintro(h|⟨_,h|⟨h,_⟩⟩)
       · omega
       · exact h
       · exact absurd h h1
 · rw[if_pos h0,decide_eq_true_eq]
   constructor
   · intro h;exact .inl h
   · rintro(h|⟨h,_⟩)
     · exact h
     · exact absurd h h0
theorem edgeLt_trans {x y z:EdgeR} (h:edgeLt x y=true) (k:edgeLt y z=true):edgeLt x z=true:=by
 rw[edgeLt_iff]at*
 rcases h with h|⟨h0,h|⟨h1,h⟩⟩
 · left;rcases k with k|⟨k0,k⟩<;>omega
 · rcases k with k|⟨k0,k|⟨k1,k⟩⟩
   · left;omega
   · exact .inr ⟨by omega,.inl (by omega)⟩
   · exact .inr ⟨by omega,.inl (by rw[← k1];exact h)⟩
 · rcases k with k|⟨k0,k|⟨k1,k⟩⟩
   · left;omega
   · exact .inr ⟨by omega,.inl (by rw[h1];exact k)⟩
   · exact .inr ⟨by omega,.inr ⟨h1.trans k1,by omega⟩⟩
theorem edgeLt_tri (x y:EdgeR):edgeLt x y=true∨x=y∨edgeLt y x=true:=by
 rw[edgeLt_iff,edgeLt_iff]
 rcases Int.lt_trichotomy x.f0 y.f0 with h|h|h
 · exact .inl (.inl h)
 · rcases Nat.lt_trichotomy x.f1.toNat y.f1.toNat with h1|h1|h1
   · exact .inl (.inr ⟨h,.inl h1⟩)
   · have h1':=UInt8.toNat_inj.1 h1
     rcases Int.lt_trichotomy x.f2 y.f2 with h2|h2|h2
     · exact .inl (.inr ⟨h,.inr ⟨h1',h2⟩⟩)
     · exact .inr (.inl (EdgeR.ext' h h1' h2))
     · exact .inr (.inr (.inr ⟨h.symm,.inr ⟨h1'.symm,h2⟩⟩))
   · exact .inr (.inr (.inr ⟨h.symm,.inl h1⟩))
 · exact .inr (.inr (.inl h))
theorem edgeLt_asym {x y:EdgeR} (h:edgeLt x y=true):edgeLt y x=false:=by
 cases hk:edgeLt y x
 · rfl
 · have:=edgeLt_trans h hk;rw[edgeLt_irr]at this;cases this
def Srt (xs:List EdgeR):Prop:=xs.Pairwise fun x y=>edgeLt x y=true
theorem mem_putE {xs:List EdgeR} {f x:EdgeR}:x∈putE xs f↔x∈xs∨x=f:=by
 unfold putE
 simp only[List.mem_append,List.mem_filter,List.mem_singleton]
 constructor
 · rintro((⟨h,_⟩|h)|⟨h,_⟩)
   · exact .inl h
   · exact .inr h
   · exact .inl h
 · rintro(h|h)
   · rcases edgeLt_tri x f with k|k|k
     · exact .inl (.inl ⟨h,k⟩)
     · exact .inl (.inr k)
     · exact .inr ⟨h,k⟩
   · exact .inl (.inr h)
theorem srt_putE {xs:List EdgeR} (h:Srt xs) (f:EdgeR):Srt (putE xs f):=by
 unfold putE Srt
 rw[List.pairwise_append,List.pairwise_append]
 refine⟨⟨List.Pairwise.filter _ h,List.pairwise_singleton _ _,fun a ha b hb=>?_⟩,List.Pairwise.filter _ h,fun a ha b hb=>?_⟩
 · rw[List.mem_singleton]at hb;subst hb
   exact(List.mem_filter.1 ha).2
 · have hb:=(List.mem_filter.1 hb).2
   rw[List.mem_append]at ha
   rcases ha with ha|ha
   · exact edgeLt_trans (List.mem_filter.1 ha).2 hb
   · rw[List.mem_singleton]at ha;subst ha;exact hb
theorem srt_eq: ∀ {xs ys:List EdgeR},Srt xs→Srt ys→(∀ x,x∈xs↔x∈ys)→xs=ys
 |[],[],_,_,_=>rfl
 |[],y::ys,_,_,h=>absurd ((h y).2 (by simp)) (by simp)
 |x::xs,[],_,_,h=>absurd ((h x).1 (by simp)) (by simp)
 |x::xs,y::ys,hx,hy,h=>by
  obtain⟨hx1,hx2⟩:=List.pairwise_cons.1 hx
  obtain⟨hy1,hy2⟩:=List.pairwise_cons.1 hy
  have e:x=y:=by
   have a:=(h x).1 (by simp)
   have b:=(h y).2 (by simp)
   rw[List.mem_cons]at a b
   rcases a with a|a
   · exact a
   · rcases b with b|b
     · exact b.symm
     · have p:=hy1 x a
       have q:=hx1 y b
       rw[edgeLt_asym p]at q;cases q
  subst e
  congr 1
  refine srt_eq hx2 hy2 fun z=>?_
  have hz:=h z
  rw[List.mem_cons,List.mem_cons]at hz
  constructor
  · intro k
    rcases hz.1 (.inr k)with e|e
    · subst e;have:=hx1 z k;rw[edgeLt_irr]at this;cases this
    · exact e
  · intro k
    rcases hz.2 (.inr k)with e|e
    · subst e;have:=hy1 z k;rw[edgeLt_irr]at this;cases this
    · exact e
/-- A sorted list with small numbers is short. -/
theorem up_len: ∀ (l:List Nat) (a b:Nat),(∀ x∈l,a≤x∧x<b)→l.Pairwise (· < ·)→l.length≤b-a
 |[],_,_,_,_=>Nat.zero_le _
 |x::l,a,b,h,hp=>by
  obtain⟨h1,h2⟩:=List.pairwise_cons.1 hp
  have hx:=h x (by simp)
  have:=up_len l (x+1) b (fun y hy=>⟨h1 y hy,(h y (by simp[hy])).2⟩) h2
  simp only[List.length_cons]
  omega
def keyE (x:EdgeR):Nat:=x.f0.toNat*8192+x.f1.toNat*32+x.f2.toNat
theorem keyE_lt {x y:EdgeR} (h:edgeLt x y=true) (hx:0≤x.f0∧x.f0<32∧0≤x.f2∧x.f2<32) (hy:0≤y.f0∧y.f0<32∧0≤y.f2∧y.f2<32):keyE x<keyE y:=by
 have:=x.f1.toNat_lt
 have:=y.f1.toNat_lt
 rw[edgeLt_iff]at h
 unfold keyE
 rcases h with h|⟨h0,h|⟨h1,h⟩⟩
 · omega
 · omega
 · rw[h1];omega
theorem srt_len {xs:List EdgeR} (h:Srt xs) (hb: ∀ x∈xs,0≤x.f0∧x.f0<32∧0≤x.f2∧x.f2<32):xs.length≤262144:=by
 have:=up_len (xs.map keyE) 0 262144 (fun k hk=>by
  obtain⟨x,hx,rfl⟩:=List.mem_map.1 hk
  have:=hb x hx
  have:=x.f1.toNat_lt
  unfold keyE;omega) (by
  rw[List.pairwise_map]
  exact List.Pairwise.imp_of_mem (fun ha hb' hab=>keyE_lt hab (hb _ ha) (hb _ hb')) h)
 simpa using this
/-! ### the automaton -/
def arcE (labs:List UInt8) (s j:Nat):EdgeR:=⟨(s:Int),nAt labs j,(j:Int)+1⟩
def rowA (labs:List UInt8) (s:Nat) (p:Nat→Bool):List EdgeR:=(reachL labs.length p).map fun j=>arcE labs s j.toNat
def arcL (labs:List UInt8) (P:Nat→Nat→Bool):Nat→List EdgeR
 |0=>[]
 |s+1=>arcL labs P s++rowA labs s (P s)
theorem mem_reachL {n:Nat} {p:Nat→Bool} {x:Int}:x∈reachL n p↔ ∃ j:Nat,x=j∧j<n∧p j=true:=by
 unfold reachL
 simp only[List.mem_map,List.mem_filter,List.mem_range]
 constructor
 · rintro⟨j,⟨h1,h2⟩,rfl⟩;exact⟨j,rfl,h1,h2⟩
 · rintro⟨j,rfl,h1,h2⟩;exact⟨j,⟨h1,h2⟩,rfl⟩
theorem mem_rowA {labs:List UInt8} {s:Nat} {p:Nat→Bool} {x:EdgeR}:x∈rowA labs s p↔ ∃ j,j<labs.length∧p j=true∧x=arcE labs s j:=by
 unfold rowA
 rw[List.mem_map]
 constructor
 · rintro⟨y,hy,rfl⟩
   obtain⟨j,rfl,h1,h2⟩:=mem_reachL.1 hy
   exact⟨j,h1,h2,by simp⟩
 · rintro⟨j,h1,h2,rfl⟩
   exact⟨(j:Int),mem_reachL.2 ⟨j,rfl,h1,h2⟩,by simp⟩
theorem mem_arcL {labs:List UInt8} {P:Nat→Nat→Bool} {x:EdgeR}: ∀ {m:Nat},x∈arcL labs P m↔ ∃ s j,s<m∧j<labs.length∧P s j=true∧x=arcE labs s j
 |0=>by simp[arcL]
 |m+1=>by
  rw[arcL,List.mem_append,mem_arcL (m:=m),mem_rowA]
  constructor
  · rintro(⟨s,j,h1,h2⟩|⟨j,h1,h2⟩)
    · exact⟨s,j,by omega,h2⟩
    · exact⟨m,j,by omega,h1,h2⟩
  · rintro⟨s,j,h1,h2⟩
    rcases Nat.lt_or_ge s m with h|h
    · exact .inl ⟨s,j,h,h2⟩
    · obtain rfl:s=m:=by omega
      exact .inr ⟨j,h2⟩
def putsE (xs fs:List EdgeR):List EdgeR:=fs.foldl putE xs
theorem mem_putsE {x:EdgeR}: ∀ {fs xs:List EdgeR},x∈putsE xs fs↔x∈xs∨x∈fs
 |[],xs=>by simp[putsE]
 |f::fs,xs=>by
  show x∈putsE (putE xs f) fs↔_
  rw[mem_putsE,mem_putE,List.mem_cons]
  constructor
  · rintro((h|h)|h)
    · exact .inl h
    · exact .inr (.inl h)
    · exact .inr (.inr h)
  · rintro(h|h|h)
    · exact .inl (.inl h)
    · exact .inl (.inr h)
    · exact .inr h
theorem srt_putsE: ∀ {fs xs:List EdgeR},Srt xs→Srt (putsE xs fs)
 |[],xs,h=>h
 |f::fs,xs,h=>srt_putsE (fs:=fs) (srt_putE h f)
def arcC (labs:List UInt8) (P:Nat→Nat→Bool):List EdgeR:=putsE [] (arcL labs P (labs.length+1))
theorem srt_arcC (labs:List UInt8) (P:Nat→Nat→Bool):Srt (arcC labs P):=srt_putsE List.Pairwise.nil
theorem mem_arcC {labs:List UInt8} {P:Nat→Nat→Bool} {x:EdgeR}:x∈arcC labs P↔ ∃ s j,s<labs.length+1∧j<labs.length∧P s j=true∧x=arcE labs s j:=by
 unfold arcC
 rw[mem_putsE,mem_arcL]
 simp
/-- From state s (0: the beginning) to occurrence j. -/
def goP (r:StD×SpD):Nat→Nat→Bool
 |0=>r.2.first
 |s+1=>r.1.fol s
structure NfaD where
 f0:Int
 f1:List EdgeR
 f2:List Bool
def gluA (ps:List PieceD):StD×SpD:=glu ps ps.length (ps.length-1) ⟨[],fun _ _=>false⟩
def endsB (r:StD×SpD):List Bool:=r.2.null::(List.range r.1.labs.length).map r.2.last
def nfaR (r:StD×SpD):NfaD:=⟨(r.1.labs.length:Int)+1,arcC r.1.labs (goP r),endsB r⟩
def nfaM (ps:List PieceD):NfaD:=nfaR (gluA ps)
example:(nfaM [⟨1,97,[]⟩,⟨1,98,[]⟩,⟨4,0,[1]⟩,⟨2,0,[0,2]⟩]).f1.map (fun x=>(x.f0,x.f1,x.f2))=[(0,97,1),(1,98,2),(2,98,2)]:=by decide
example:(nfaM [⟨1,97,[]⟩,⟨1,98,[]⟩,⟨4,0,[1]⟩,⟨2,0,[0,2]⟩]).f2=[false,true,true]:=by decide
theorem edge_get {xs:List EdgeR} {k:Nat} (h:k<xs.length):edgeAt xs k=xs[k]:=by simp[edgeAt,List.getD,h]
theorem graphB_iff {g:GraphD}:graphB g=true↔(1≤g.f0∧g.f0≤12)∧g.f1.length≤40∧(∀ x∈g.f1,edgB g.f0 x=true)∧Srt g.f1:=by
 constructor
 · intro h
   obtain⟨h1,h2,h3⟩:=graphB_out h
   have h4: ∀ j,j<g.f1.length→edgB g.f0 (edgeAt g.f1 j)=true∧(j=0∨edgeLt (edgeAt g.f1 (j-1)) (edgeAt g.f1 j)=true):=fun j hj=>by
    have:=h3 j hj
    unfold edgK at this
    simpa using this
   refine⟨h1,h2,fun x hx=>?_,?_⟩
   · obtain⟨j,hj,rfl⟩:=List.getElem_of_mem hx
     rw[← edge_get hj]
     exact(h4 j hj).1
   · have hup: ∀ d i,i+(d+1)<g.f1.length→edgeLt (edgeAt g.f1 i) (edgeAt g.f1 (i+(d+1)))=true:=by
      intro d
      induction d with
      |zero=>
       intro i hi
       rcases(h4 (i+1) hi).2 with h|h
       · omega
       · exact h
      |succ d ih=>
       intro i hi
       have h5:=ih i (by omega)
       rcases(h4 (i+(d+1+1)) hi).2 with h|h
       · omega
       · exact edgeLt_trans h5 h
     refine List.pairwise_iff_getElem.2 fun i j hi hj hij=>?_
     rw[← edge_get hi, ← edge_get hj]
     obtain⟨d,rfl⟩: ∃ d,j=i+(d+1):=⟨j-i-1,by omega⟩
     exact hup d i hj
 · rintro⟨h1,h2,h3,h4⟩
   refine graphB_ok h1 h2 fun j hj=>?_
   unfold edgK
   have e1:edgB g.f0 (edgeAt g.f1 j)=true:=by rw[edge_get hj];exact h3 _ (List.getElem_mem hj)
   rw[e1]
   by_cases h0:j=0
   · simp[h0]
   · have:=List.pairwise_iff_getElem.1 h4 (j-1) j (by omega) hj (by omega)
     rw[← edge_get, ← edge_get]at this
     simp[this]
def partL (g:GraphD) (k n:Int):List EdgeR:=if graphB g=true then g.f1.filter (fun e=>owR e.f0 n==k)else []
def partG (g:GraphD) (k n:Int):GraphD:=⟨g.f0,partL g k n⟩
theorem partG_ok {g:GraphD} (h:graphB g=true) (k n:Int):graphB (partG g k n)=true:=by
 obtain⟨h1,h2,h3,h4⟩:=graphB_iff.1 h
 unfold partG partL
 rw[if_pos h]
 exact graphB_iff.2 ⟨h1,Nat.le_trans (List.length_filter_le _ _) h2,fun x hx=>h3 x (List.mem_filter.1 hx).1,List.Pairwise.filter _ h4⟩
theorem partL_len {g:GraphD} (k n:Int):(partL g k n).length≤g.f1.length:=by
 unfold partL
 split
 · exact List.length_filter_le _ _
 · simp
theorem implOwnerOf_any (v n:Int) (w:World):
  Calls Tryz.prog 86 #[.int .i64 v,.int .i64 n] w fun e w'=>e= .returned (.int .i64 (owR v n))∧Fr w w':=by
 by_cases h1:n<1
 · go_enter Tryz.func86,Tryz.ntmps86
   go_wp2
   go_ret
   exact⟨ret_int (by unfold owR;rw[if_neg (by omega)]),by exact Qf⟩
 by_cases h2:8<n
 · go_enter Tryz.func86,Tryz.ntmps86
   go_wp2
   go_ret
   exact⟨ret_int (by unfold owR;rw[if_neg (by omega)]),by exact Qf⟩
 by_cases h3:v<0
 · go_enter Tryz.func86,Tryz.ntmps86
   go_wp2
   go_ret
   exact⟨ret_int (by unfold owR;rw[if_neg (by omega)]),by exact Qf⟩
 by_cases h4:12≤v
 · go_enter Tryz.func86,Tryz.ntmps86
   go_wp2
   go_ret
   exact⟨ret_int (by unfold owR;rw[if_neg (by omega)]),by exact Qf⟩
 have hs:=sumOf_lt (vText v)
 have hz:(vText v).size≤maxLen:=by rw[vText_size];have:=varL_len40 v.toNat (by omega);unfold maxLen;omega
 have ho:owR v n=(sumOf (vText v):Int)%n:=by unfold owR;rw[if_pos (by omega)]
 have hm0:0≤(sumOf (vText v):Int)%n:=Int.emod_nonneg _ (by omega)
 have hm1:(sumOf (vText v):Int)%n<n:=Int.emod_lt_of_pos _ (by omega)
 go_enter Tryz.func86,Tryz.ntmps86
 go_wp2_with(first|(go_at_call 153;refine(varText_any v _ (by omega) (by omega)).mono ?_;rintro e w1 ⟨rfl,hf1⟩)|(go_at_call 152;refine(implSumOf_any (vText v) _ hz).mono ?_;rintro e w2 ⟨rfl,rfl⟩))
 go_ret
 exact⟨ret_int (by rw[ho]),by exact Qf⟩
theorem specOwnerOf_any (v n:Int) (w:World):
  Calls Tryz.prog 17 #[.int .i64 v,.int .i64 n] w fun e w'=>e= .returned (.int .i64 (owR v n))∧Fr w w':=by
 by_cases h1:1≤n∧n≤8
 · by_cases h2:0≤v∧v≤11
   · have hs:=sumOf_lt (vText v)
     have hz:(vText v).size≤maxLen:=by rw[vText_size];have:=varL_len40 v.toNat (by omega);unfold maxLen;omega
     have ho:owR v n=(sumOf (vText v):Int)%n:=by unfold owR;rw[if_pos (by omega)]
     have hm0:0≤(sumOf (vText v):Int)%n:=Int.emod_nonneg _ (by omega)
     have hm1:(sumOf (vText v):Int)%n<n:=Int.emod_lt_of_pos _ (by omega)
     have g1:decide (1≤n∧n≤8)=true:=by simp[h1]
     have g2:decide (0≤v∧v≤11)=true:=by simp[h2]
     go_enter Tryz.func17,Tryz.ntmps17
     go_wp2_with(first|(go_at_call 69;refine(l01In_any _ _ _ _).mono ?_;rintro e w1 ⟨rfl,rfl⟩)|(go_at_call 73;refine(l01Var_any v _ (by omega) (by omega)).mono ?_;rintro e w1 ⟨rfl,hf1⟩)|(go_at_call 72;refine(specSumOf_any (vText v) _ hz).mono ?_;rintro e w2 ⟨rfl,rfl⟩))
     go_ret
     exact⟨ret_int (by rw[ho]),by exact Qf⟩
   · have g1:decide (1≤n∧n≤8)=true:=by simp[h1]
     have g2:decide (0≤v∧v≤11)=false:=by simpa using h2
     go_enter Tryz.func17,Tryz.ntmps17
     go_wp2_with(go_at_call 69;refine(l01In_any _ _ _ _).mono ?_;rintro e w1 ⟨rfl,rfl⟩)
     go_ret
     exact⟨ret_int (by unfold owR;rw[if_neg (by omega)]),by exact Qf⟩
 · have g1:decide (1≤n∧n≤8)=false:=by simpa using h1
   go_enter Tryz.func17,Tryz.ntmps17
   go_wp2_with(go_at_call 69;refine(l01In_any _ _ _ _).mono ?_;rintro e w1 ⟨rfl,rfl⟩)
   go_ret
   exact⟨ret_int (by unfold owR;rw[if_neg (by omega)]),by exact Qf⟩
theorem Span.setc {b i:Nat} {a w:World} {v:Value} (h:Span b (b+1) a w):Span b (b+1) a (w.setCell ⟨b,i,none⟩ v):=h.trans (by
 refine⟨rfl,rfl,rfl,by simp,fun k hk ho=>?_⟩
 exact heap_setCell_other w ⟨b,i,none⟩ k v (by show k≠b;omega))
theorem Span.drewN' {b c n:Nat} {a w:World} (h:Span b c a w):Span b c a (w.drewN n):=h.then_fr ((Fr.refl _).drewN _)
theorem Span.drew' {b c:Nat} {a w:World} (h:Span b c a w):Span b c a w.drew:=h.then_fr (Fr.refl _).drew
theorem Span.set2 {b i:Nat} {w:World} {v:Value}:Span b (b+1) w (w.setCell ⟨b,i,none⟩ v):=by
 refine⟨rfl,rfl,rfl,by simp,fun k hk ho=>?_⟩
 exact heap_setCell_other w ⟨b,i,none⟩ k v (by show k≠b;omega)
theorem cell_first {w:World} {u:Value} {T:TypeId} {b:Nat} (hb:b=w.heap.size): ∀ (j:Nat) (v:Value),[u][j]? =some v→(w.alloc (.cells #[u] T)).cell? ((⟨b,0,none⟩:Addr).add j)=some v:=cell_new hb
theorem Span.above {b:Nat} {a w w':World} {v:Value} (s:Span b (b+1) a w) (hg:w.grownBy w' v.ownBlock) (hv: ∀ g,v.ownBlock=some g→a.heap.size≤g):Span b (b+1) a w':=
 s.app hg (fun k hk=> .inr (hv k hk))
theorem Span.alloc' {b c:Nat} {a w:World} (h:Span b c a w) (o:Obj):Span b c a (w.alloc o):=h.then_fr ((Fr.refl _).alloc _)
theorem Span.above' {lo hi L M:Nat} {a w w':World} (h:Span lo hi a w) (k:Span L M w w') (hL:a.heap.size≤L):Span lo hi a w':=
 ⟨k.os.trans h.os,k.tape.trans h.tape,k.output.trans h.output,Nat.le_trans h.size k.size,fun i hi ho=>(k.block i (Nat.lt_of_lt_of_le hi h.size) (.inl (by omega))).trans (h.block i hi ho)⟩
theorem Span.setb {lo hi q i:Nat} {a w:World} {v:Value} (h:Span lo hi a w) (h1:lo≤q) (h2:q<hi):Span lo hi a (w.setCell ⟨q,i,none⟩ v):=h.trans (by
 refine⟨rfl,rfl,rfl,by simp,fun k hk ho=>?_⟩
 exact heap_setCell_other w ⟨q,i,none⟩ k v (by show k≠q;omega))
theorem Box.far' {w:World} {b q i:Nat} {X:Array Value} {T:TypeId} (h:Box w b X T) (hp:b≠q) (v:Value):Box (w.setCell ⟨q,i,none⟩ v) b X T:=h.other (p:=⟨q,i,none⟩) hp v
def PrtPost (w:World) (g:GraphD) (k n:Int) (e:Ending) (w':World):Prop:= ∃ ao cap,e= .returned (.agg #[.int .i64 g.f0,.slice ao (partL g k n).length cap])∧EdgesW w' w.heap.size w'.heap.size (.slice ao (partL g k n).length cap) (partL g k n)∧Fr w w'
theorem part_next {g:GraphD} {k n:Int} {j:Nat} (h:j<g.f1.length):(g.f1.take (j+1)).filter (fun e=>owR e.f0 n==k)=(g.f1.take j).filter (fun e=>owR e.f0 n==k)++(if(owR (edgeAt g.f1 j).f0 n==k)=true then [edgeAt g.f1 j]else []):=by
 rw[List.take_succ_eq_append_getElem h,List.filter_append,edge_get h]
 congr 1
 by_cases hc:(owR g.f1[j].f0 n==k)=true
 · rw[if_pos hc];simp[hc]
 · rw[if_neg hc];simp[hc]
set_option maxHeartbeats 4000000 in
set_option maxRecDepth 100000 in
theorem implPartOf_any (g:GraphD) (ev:Value) (k n:Int) (w:World) (he:EdgesR w ev g.f1):
  Calls Tryz.prog 80 #[.agg #[.int .i64 g.f0,ev],.int .i64 k,.int .i64 n] w fun e w'=>PrtPost w g k n e w':=by
 obtain⟨gb,hgb⟩: ∃ gb,graphB g=gb:=⟨_,rfl⟩;have HG:=Lib.hid he;obtain⟨i0,hi,hz0,hz1,hz2⟩:=info_parts info_Edge
 have CG:Hid (∀ w',Fr w w'→Calls Tryz.prog 62 #[.agg #[.int .i64 g.f0,ev]] w' fun e w''=>e= .returned (.bool gb)∧Fr w' w''):=Lib.hid fun w' h=>by rw[← hgb];exact implGraphOk_any ev g.f0 g.f1 w' (HG.out.fr h)
 obtain⟨ae,be,oe,ce,rfl,hce,hme,fe⟩:=he.one
 have FE:=Lib.hid fe
 have HNO:Hid (gb=false→partL g k n=[]):=Lib.hid fun h=>by unfold partL;rw[hgb,h];rfl
 have HYES:Hid (gb=true→g.f1.length≤40∧partL g k n=g.f1.filter fun e=>owR e.f0 n==k):=Lib.hid fun h=>⟨(graphB_out (hgb.trans h)).2.1,by unfold partL;rw[hgb,h];rfl⟩
 obtain⟨r,hr⟩: ∃ r,partL g k n=r:=⟨_,rfl⟩
 unfold PrtPost
 rw[hr]at HNO HYES ⊢
 have HPN:Hid (∀ j,j<g.f1.length→(g.f1.take (j+1)).filter (fun e=>owR e.f0 n==k)=(g.f1.take j).filter (fun e=>owR e.f0 n==k)++(if(owR (edgeAt g.f1 j).f0 n==k)=true then [edgeAt g.f1 j]else [])):=Lib.hid fun j h=>part_next h
 obtain⟨g0,es⟩:=g
 simp only[]at hce hme FE HNO HYES HPN CG ⊢
 clear he fe HG hgb hr
 go_enter Tryz.func80,Tryz.ntmps80
 go_wp2_with fail
 refine(CG.out _ (by exact Qf)).mono ?_
 rintro e w1 ⟨rfl,hf1⟩
 have z1:=hf1.size
 (try simp only[World.size_alloc]at z1)
 have BR1:Box w1 (w.heap.size+1) #[.int .i64 0,.slice none 0 0] 26:=Box.fr (Box.alloc (Box.new' (by simp)) _) hf1
 have BO1:Box w1 (w.heap.size+1+1) #[.int .i64 g0,.slice none 0 0] 26:=Box.fr (Box.new' (by simp)) hf1
 have BG1:Box w1 w.heap.size #[.int .i64 g0,.slice ae es.length ce] 26:=Box.fr (Box.alloc (Box.alloc (Box.new' rfl) _) _) hf1
 have FR1:=BR1.facts
 have FO1:=BO1.facts
 have FG1:=BG1.facts
 cases gb
 · have HR:=Lib.hid (HNO.out rfl)
   go_wp2_with fail
   rw[HR.out]
   refine bodyPost_ret (v:= .agg #[.int .i64 g0,.slice none 0 0]) (by simp[results,Tryz.results80,go_sem, *]) rfl ?_
   exact⟨none,0,rfl,OwW.nil _ _ _ _ _,by exact Qf⟩
 obtain⟨hl40,hR⟩:=HYES.out rfl
 have HR:=Lib.hid hR
 clear hR HYES HNO CG
 go_wp2_with fail
 clear FR1 FO1 FG1 BG1
 go_loopw [20] (fun i wr=> ∃ (j:Nat) (a:Option Addr) (c:Nat) (l:List EdgeR),j≤es.length∧i= .int .i64 j∧l.length≤j∧Hid (l=(es.take j).filter fun e=>owR e.f0 n==k)∧Hid (EdgesW wr (w.heap.size+1+1+1) wr.heap.size (.slice a l.length c) l)∧Box wr (w.heap.size+1) #[.int .i64 0,.slice none 0 0] 26∧Box wr (w.heap.size+1+1) #[.int .i64 g0,.slice a l.length c] 26∧Fr w wr) (fun i _=>es.length-(intOf i).toNat)
 case atStart=>exact⟨0,none,0,[],Nat.zero_le _,rfl,Nat.le_refl _,Lib.hid rfl,Lib.hid (OwW.nil _ _ _ _ _),BR1,BO1,by exact Qf⟩
 case round=>
  clear BR1 BO1
  obtain⟨j,a,c,l,hj,rfl,hlj,HL,HO,BR,BO,hfr⟩:=hrel
  have zr:=hfr.size
  have FB:=BR.facts
  have FO:=BO.facts
  by_cases hlt:j<es.length
  · obtain⟨rfl,hbe,fe⟩:=FE.out (by omega)
    obtain⟨c0,c1,c2⟩:=fe j hlt
    have hpn:=HPN.out j hlt
    obtain⟨x,hx⟩: ∃ x,edgeAt es j=x:=⟨_,rfl⟩
    rw[hx]at c0 c1 c2 hpn
    obtain⟨x0,x1,x2⟩:=x
    simp only[]at c0 c1 c2 hpn
    have q0:=(hfr.cell (p:=⟨be,_,none⟩) hbe).trans c0
    have q1:=(hfr.cell (p:=⟨be,_,none⟩) hbe).trans c1
    have q2:=(hfr.cell (p:=⟨be,_,none⟩) hbe).trans c2
    have hx1:=x1.toNat_lt
    have HPJ:=Lib.hid hpn
    clear fe c0 c1 c2 hx hpn
    obtain⟨ob,hob⟩: ∃ ob,(owR x0 n==k)=ob:=⟨_,rfl⟩
    rw[hob]at HPJ
    cases ob
    · have HS:Hid (l=(es.take (j+1)).filter fun e=>owR e.f0 n==k):=Lib.hid (by rw[HPJ.out, ← HL.out];simp)
      go_wp2_with fail
      refine(implOwnerOf_any x0 n _).mono ?_
      rintro e w3 ⟨rfl,hf3⟩
      have z3:=hf3.size
      (try simp only[World.size_alloc]at z3)
      go_wp2_with fail
      go_roundw
      case rel=>exact⟨j+1,a,c,l,by omega,by go_num,by omega,HS,Lib.hid (OwW.mono (HO.out.fr (by exact Qf)) (Nat.le_refl _) (by exact Qz)),BR.fr (by exact Qf),BO.fr (by exact Qf),by exact Qf⟩
      case measure=>(simp[intOf];omega)
    · have HS:Hid (l++[⟨x0,x1,x2⟩]=(es.take (j+1)).filter fun e=>owR e.f0 n==k):=Lib.hid (by rw[HPJ.out, ← HL.out];simp)
      have HLN:=Lib.hid (show(l++[(⟨x0,x1,x2⟩:EdgeR)]).length=l.length+1 by simp)
      go_wp2_with fail
      refine(implOwnerOf_any x0 n _).mono ?_
      rintro e w3 ⟨rfl,hf3⟩
      have z3:=hf3.size
      (try simp only[World.size_alloc]at z3)
      have BX3:Box w3 wr.heap.size #[.int .i64 x0,.int .u8 (x1.toNat:Int),.int .i64 x2] 79:=(Box.new _ _ _).fr hf3
      have FX3:=BX3.facts
      have hfr3:Fr wr w3:=by exact Qf
      have BR3:=BR.fr hfr3
      have BO3:=BO.fr hfr3
      have FO3:=BO3.facts
      have HO3:Hid (EdgesW w3 (w.heap.size+1+1+1) w3.heap.size (.slice a l.length c) l):=Lib.hid (OwW.mono (HO.out.fr hfr3) (Nat.le_refl _) (by omega))
      clear FB FO HO HL HPJ
      go_wp2_with(at_builtin;(refine wpList_append_rd rfl _ _ 24 rfl (w.heap.size+1+1+1) 79 i0 (.agg #[.int .i64 0,.int .u8 0,.int .i64 0]) 3 24 Tryz.underlying24 hi hz0 hz1 hz2 rfl (by decide) (.slice a l.length c) l.length (l.flatMap EdgeR.cells) rfl (World.ownsRow.alloc HO3.out.1 _) _ 1 [.int .i64 x0,.int .u8 (x1.toNat:Int),.int .i64 x2] rfl (RdS.new (by first|rfl|(simp;done)) rfl) (by simp[Value.oneCell']) (by unfold maxLen;omega) (by omega) (by exact Qz) ?_;intro a4 c4 w4 hown hgrow hat;have BO4:Box w4 (w.heap.size+1+1) _ _:=Box.row (Box.alloc BO3 _) hgrow HO3.out.2 (.inl (by omega));have FO4:=BO4.facts))
      have BO4:Box w4 (w.heap.size+1+1) _ _:=Box.row (Box.alloc BO3 _) hgrow HO3.out.2 (.inl (by omega))
      have BR4:Box w4 (w.heap.size+1) _ _:=Box.row (Box.alloc BR3 _) hgrow HO3.out.2 (.inl (by omega))
      have hf4:Fr w w4:=Fr.app (w:=w3.alloc (.cells #[.int .i64 x0,.int .u8 (x1.toNat:Int),.int .i64 x2] 79)) (by exact Qf) hgrow HO3.out.2 (by omega)
      have z4:=hgrow.size
      (try simp only[World.size_alloc]at z4)
      have HO4:Hid (EdgesW w4 (w.heap.size+1+1+1) w4.heap.size (.slice a4 (l++[(⟨x0,x1,x2⟩:EdgeR)]).length c4) (l++[⟨x0,x1,x2⟩])):=Lib.hid (by unfold EdgesW;rw[HLN.out];have:=OwW.of_owns hown;simpa [EdgeR.cells]using this)
      clear hown hgrow hat
      go_roundw
      case rel=>exact⟨j+1,a4,c4,_,by omega,by go_num,by rw[HLN.out];omega,HS,Lib.hid (OwW.mono (OwW.set HO4.out (p:=⟨w.heap.size+1+1,1,none⟩) (.inl (by show w.heap.size+1+1<w.heap.size+1+1+1;omega)) _) (Nat.le_refl _) (by simp)),BR4.far' (by omega) _,by rw[HLN.out];exact BO4.set_to rfl,Fr.setCell hf4 (by show w.heap.size≤w.heap.size+1+1;omega) _⟩
      case measure=>(simp[intOf];omega)
  · obtain rfl:j=es.length:=by omega
    have HRL:Hid (r=l):=Lib.hid (by rw[HR.out,HL.out,List.take_length])
    clear HL HR
    go_wp2_with fail
    rw[HRL.out]
    refine bodyPost_ret (v:= .agg #[.int .i64 g0,.slice a l.length c]) (by simp[results,Tryz.results80,go_sem, *]) rfl ?_
    exact⟨a,c,rfl,OwW.mono (OwW.set (OwW.set HO.out (p:=⟨w.heap.size+1,0,none⟩) (.inl (by show w.heap.size+1<w.heap.size+1+1+1;omega)) _) (p:=⟨w.heap.size+1,1,none⟩) (.inl (by show w.heap.size+1<w.heap.size+1+1+1;omega)) _) (by omega) (by simp),by exact Qf⟩
set_option maxHeartbeats 4000000 in
set_option maxRecDepth 100000 in
theorem specPartOf_any (g:GraphD) (ev:Value) (k n:Int) (w:World) (he:EdgesR w ev g.f1):
  Calls Tryz.prog 28 #[.agg #[.int .i64 g.f0,ev],.int .i64 k,.int .i64 n] w fun e w'=>PrtPost w g k n e w':=by
 obtain⟨gb,hgb⟩: ∃ gb,graphB g=gb:=⟨_,rfl⟩;have HG:=Lib.hid he;obtain⟨i0,hi,hz0,hz1,hz2⟩:=info_parts info_Edge
 have CG:Hid (∀ w',Fr w w'→Calls Tryz.prog 67 #[.agg #[.int .i64 g.f0,ev]] w' fun e w''=>e= .returned (.bool gb)∧Fr w' w''):=Lib.hid fun w' h=>by rw[← hgb];exact specGraphOk_any ev g.f0 g.f1 w' (HG.out.fr h)
 obtain⟨ae,be,oe,ce,rfl,hce,hme,fe⟩:=he.one
 have FE:=Lib.hid fe
 have HNO:Hid (gb=false→partL g k n=[]):=Lib.hid fun h=>by unfold partL;rw[hgb,h];rfl
 have HYES:Hid (gb=true→g.f1.length≤40∧partL g k n=g.f1.filter fun e=>owR e.f0 n==k):=Lib.hid fun h=>⟨(graphB_out (hgb.trans h)).2.1,by unfold partL;rw[hgb,h];rfl⟩
 obtain⟨r,hr⟩: ∃ r,partL g k n=r:=⟨_,rfl⟩
 unfold PrtPost
 rw[hr]at HNO HYES ⊢
 have HPN:Hid (∀ j,j<g.f1.length→(g.f1.take (j+1)).filter (fun e=>owR e.f0 n==k)=(g.f1.take j).filter (fun e=>owR e.f0 n==k)++(if(owR (edgeAt g.f1 j).f0 n==k)=true then [edgeAt g.f1 j]else [])):=Lib.hid fun j h=>part_next h
 obtain⟨g0,es⟩:=g
 simp only[]at hce hme FE HNO HYES HPN CG ⊢
 clear he fe HG hgb hr
 go_enter Tryz.func28,Tryz.ntmps28
 go_wp2_with fail
 refine(CG.out _ (by exact Qf)).mono ?_
 rintro e w1 ⟨rfl,hf1⟩
 have z1:=hf1.size
 (try simp only[World.size_alloc]at z1)
 have BR1:Box w1 (w.heap.size+1) #[.int .i64 0,.slice none 0 0] 26:=Box.fr (Box.alloc (Box.new' (by simp)) _) hf1
 have BO1:Box w1 (w.heap.size+1+1) #[.int .i64 g0,.slice none 0 0] 26:=Box.fr (Box.new' (by simp)) hf1
 have BG1:Box w1 w.heap.size #[.int .i64 g0,.slice ae es.length ce] 26:=Box.fr (Box.alloc (Box.alloc (Box.new' rfl) _) _) hf1
 have FR1:=BR1.facts
 have FO1:=BO1.facts
 have FG1:=BG1.facts
 cases gb
 · have HR:=Lib.hid (HNO.out rfl)
   go_wp2_with fail
   rw[HR.out]
   refine bodyPost_ret (v:= .agg #[.int .i64 g0,.slice none 0 0]) (by simp[results,Tryz.results28,go_sem, *]) rfl ?_
   exact⟨none,0,rfl,OwW.nil _ _ _ _ _,by exact Qf⟩
 obtain⟨hl40,hR⟩:=HYES.out rfl
 have HR:=Lib.hid hR
 clear hR HYES HNO CG
 go_wp2_with fail
 clear FR1 FO1 FG1
 go_loopw [8] (fun i wr=> ∃ (j:Nat) (a:Option Addr) (c:Nat) (l:List EdgeR),j≤es.length∧i= .int .i64 j∧l.length≤j∧Hid (l=(es.take j).filter fun e=>owR e.f0 n==k)∧Hid (EdgesW wr (w.heap.size+1+1+1) wr.heap.size (.slice a l.length c) l)∧Box wr w.heap.size #[.int .i64 g0,.slice ae es.length ce] 26∧Box wr (w.heap.size+1) #[.int .i64 0,.slice none 0 0] 26∧Box wr (w.heap.size+1+1) #[.int .i64 g0,.slice a l.length c] 26∧Fr w wr) (fun i _=>es.length-(intOf i).toNat)
 case atStart=>exact⟨0,none,0,[],Nat.zero_le _,rfl,Nat.le_refl _,Lib.hid rfl,Lib.hid (OwW.nil _ _ _ _ _),BG1,BR1,BO1,by exact Qf⟩
 case round=>
  clear BR1 BO1 BG1
  obtain⟨j,a,c,l,hj,rfl,hlj,HL,HO,BG,BR,BO,hfr⟩:=hrel
  have zr:=hfr.size
  have FB:=BR.facts
  have FO:=BO.facts
  have FG:=BG.facts
  by_cases hlt:j<es.length
  · obtain⟨rfl,hbe,fe⟩:=FE.out (by omega)
    obtain⟨c0,c1,c2⟩:=fe j hlt
    have hpn:=HPN.out j hlt
    obtain⟨x,hx⟩: ∃ x,edgeAt es j=x:=⟨_,rfl⟩
    rw[hx]at c0 c1 c2 hpn
    obtain⟨x0,x1,x2⟩:=x
    simp only[]at c0 c1 c2 hpn
    have q0:=(hfr.cell (p:=⟨be,_,none⟩) hbe).trans c0
    have q1:=(hfr.cell (p:=⟨be,_,none⟩) hbe).trans c1
    have q2:=(hfr.cell (p:=⟨be,_,none⟩) hbe).trans c2
    have hx1:=x1.toNat_lt
    have HPJ:=Lib.hid hpn
    clear fe c0 c1 c2 hx hpn
    obtain⟨ob,hob⟩: ∃ ob,(owR x0 n==k)=ob:=⟨_,rfl⟩
    rw[hob]at HPJ
    cases ob
    · have HS:Hid (l=(es.take (j+1)).filter fun e=>owR e.f0 n==k):=Lib.hid (by rw[HPJ.out, ← HL.out];simp)
      go_wp2_with fail
      refine(specOwnerOf_any x0 n _).mono ?_
      rintro e w3 ⟨rfl,hf3⟩
      have z3:=hf3.size
      (try simp only[World.size_alloc]at z3)
      go_wp2_with fail
      go_roundw
      case rel=>exact⟨j+1,a,c,l,by omega,by go_num,by omega,HS,Lib.hid (OwW.mono (HO.out.fr (by exact Qf)) (Nat.le_refl _) (by exact Qz)),BG.fr (by exact Qf),BR.fr (by exact Qf),BO.fr (by exact Qf),by exact Qf⟩
      case measure=>(simp[intOf];omega)
    · have HS:Hid (l++[⟨x0,x1,x2⟩]=(es.take (j+1)).filter fun e=>owR e.f0 n==k):=Lib.hid (by rw[HPJ.out, ← HL.out];simp)
      have HLN:=Lib.hid (show(l++[(⟨x0,x1,x2⟩:EdgeR)]).length=l.length+1 by simp)
      go_wp2_with fail
      refine(specOwnerOf_any x0 n _).mono ?_
      rintro e w3 ⟨rfl,hf3⟩
      have z3:=hf3.size
      (try simp only[World.size_alloc]at z3)
      have hfr3:Fr wr w3:=by exact Qf
      have hfw3:Fr w w3:=by exact Qf
      have BR3:=BR.fr hfr3
      have BO3:=BO.fr hfr3
      have BG3:=BG.fr hfr3
      have FO3:=BO3.facts
      have FG3:=BG3.facts
      have p0:=(hf3.cell (p:=⟨be,_,none⟩) (Nat.lt_of_lt_of_le hbe hfr.size)).trans q0
      have p1:=(hf3.cell (p:=⟨be,_,none⟩) (Nat.lt_of_lt_of_le hbe hfr.size)).trans q1
      have p2:=(hf3.cell (p:=⟨be,_,none⟩) (Nat.lt_of_lt_of_le hbe hfr.size)).trans q2
      have HO3:Hid (EdgesW w3 (w.heap.size+1+1+1) w3.heap.size (.slice a l.length c) l):=Lib.hid (OwW.mono (HO.out.fr hfr3) (Nat.le_refl _) (by omega))
      clear FB FO FG HO HL HPJ q0 q1 q2
      go_wp2_with fail
      go_region_law((refine step_append_rd (by rfl) _ _ 24 (by rfl) (w.heap.size+1+1+1) 79 i0 (.agg #[.int .i64 0,.int .u8 0,.int .i64 0]) 3 24 Tryz.underlying24 hi hz0 hz1 hz2 rfl (by decide) (.slice a l.length c) l.length (l.flatMap EdgeR.cells) (by rfl) (by exact owns_lo (owns_ab HO3.out.1 (by exact Qa)) (by exact Qz)) _ 1 [.int .i64 x0,.int .u8 (x1.toNat:Int),.int .i64 x2] (by rfl) (RdS.new (by first|rfl|(simp;done)) rfl) (by simp[Value.oneCell']) (by unfold maxLen;omega) (by omega) (by exact Qz) ?_;intro a4 c4 w4 hown hgrow hat;have BO4:Box w4 (w.heap.size+1+1) _ _:=Box.row (Box.fr BO3 (by exact Qf)) hgrow HO3.out.2 (.inl (by omega));have BR4:Box w4 (w.heap.size+1) _ _:=Box.row (Box.fr BR3 (by exact Qf)) hgrow HO3.out.2 (.inl (by omega));have BG4:Box w4 w.heap.size _ _:=Box.row (Box.fr BG3 (by exact Qf)) hgrow HO3.out.2 (.inl (by omega));have FO4:=BO4.facts;have hf4:Fr w w4:=Fr.app (a:=w) (by exact Qf) hgrow HO3.out.2 (by omega)))
      all_goals
       have HO4:Hid (EdgesW w4 (w.heap.size+1+1+1) w4.heap.size (.slice a4 (l++[(⟨x0,x1,x2⟩:EdgeR)]).length c4) (l++[⟨x0,x1,x2⟩])):=Lib.hid (by unfold EdgesW;rw[HLN.out];have:=OwW.of_owns hown;simpa [EdgeR.cells]using this)
       clear hown hgrow hat
       go_wp2_with fail
       go_roundw
       case rel=>exact⟨j+1,a4,c4,_,by omega,by go_num,by rw[HLN.out];omega,HS,Lib.hid (OwW.mono (OwW.set HO4.out (p:=⟨w.heap.size+1+1,1,none⟩) (.inl (by show w.heap.size+1+1<w.heap.size+1+1+1;omega)) _) (Nat.le_refl _) (by simp)),BG4.far' (by omega) _,BR4.far' (by omega) _,by rw[HLN.out];exact BO4.set_to rfl,Fr.setCell hf4 (by show w.heap.size≤w.heap.size+1+1;omega) _⟩
       case measure=>(simp[intOf];omega)
  · obtain rfl:j=es.length:=by omega
    have HRL:Hid (r=l):=Lib.hid (by rw[HR.out,HL.out,List.take_length])
    clear HL HR
    go_wp2_with fail
    rw[HRL.out]
    refine bodyPost_ret (v:= .agg #[.int .i64 g0,.slice a l.length c]) (by simp[results,Tryz.results28,go_sem, *]) rfl ?_
    exact⟨a,c,rfl,OwW.mono (OwW.set (OwW.set HO.out (p:=⟨w.heap.size+1,0,none⟩) (.inl (by show w.heap.size+1<w.heap.size+1+1+1;omega)) _) (p:=⟨w.heap.size+1,1,none⟩) (.inl (by show w.heap.size+1<w.heap.size+1+1+1;omega)) _) (by omega) (by simp),by exact Qf⟩
end Go.Proofs.YtjnahjgncmcmdaaGreat