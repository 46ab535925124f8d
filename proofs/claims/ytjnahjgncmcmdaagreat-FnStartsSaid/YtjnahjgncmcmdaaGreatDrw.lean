/- A drawn query, right (spec.l08Query). No condition but the reading of the cursor. -/
import Derived.Test.YtjnahjgncmcmdaaGreatDqp
import Derived.Test.YtjnahjgncmcmdaaGreatGDrg
import Derived.Test.YtjnahjgncmcmdaaGreatGNfl
import Derived.Test.YtjnahjgncmcmdaaGreatWe
import Derived.Test.YtjnahjgncmcmdaaGreatGParP
import Derived.BigRegion
import Derived.Deep.RegionHeld3
namespace Go.Proofs.YtjnahjgncmcmdaaGreat
open Go.RowKit
set_option linter.unusedVariables false
set_option linter.unusedSimpArgs false
theorem atm_snoc {xs:List AtomR} {x:AtomR} (h: ∀ y∈xs,atmG y) (hx:atmG x): ∀ y∈xs++[x],atmG y:=fun y hy=>by
 rw[List.mem_append,List.mem_singleton]at hy
 rcases hy with hy|hy
 · exact h y hy
 · rw[hy];exact hx
theorem Span.setn {lo hi q i:Nat} {a w:World} {v:Value} (h:Span lo hi a w) (hq:a.heap.size≤q):Span lo hi a (w.setCell ⟨q,i,none⟩ v):=h.above' Span.set2 hq
theorem qNm_cell {w:World} {b x:Nat} {T:TypeId} (h:Box w b #[.string ⟨#[120]⟩,.string ⟨#[121]⟩,.string ⟨#[122]⟩] T) (hx:x<3):w.cell? ⟨b,x,none⟩=some (.string (sAt qNm x)):=by
 rw[h.cell]
 rcases(show x=0∨x=1∨x=2 by omega)with rfl|rfl|rfl<;>rfl
theorem atom_cells (xs:List AtomR): ∀ u∈xs.flatMap AtomR.cells,u.oneCell'=true:=by
 intro u hu
 obtain⟨x,_,h⟩:=List.mem_flatMap.1 hu
 simp only[AtomR.cells,List.mem_cons,List.not_mem_nil,or_false]at h
 rcases h with rfl|rfl|rfl<;>rfl
/-- What stands while a query is drawn. -/
structure Dq (w:World) (b B lo1 lo2 hi:Nat) (c:Array Value) (vo:Value) (O:List Nat) (va:Value) (xs:List AtomR) (vn:Value) (NL:List ByteArray) (wx:World):Prop where
 R:Box wx w.heap.size #[.bool false,.slice none 0 0,.slice none 0 0,.slice none 0 0] 31
 Q:Box wx B c 31
 o:StrsO wx lo1 vo (O.map (sAt qNm))
 a:AtomsO wx (B+1) va xs
 n:StrsO wx lo2 vn NL
 cu:Cu wx b
 sp:Span b (b+1) w wx
 ord:b<w.heap.size∧w.heap.size<B∧B<lo2∧lo2≤lo1
 top:B<hi∧(∀ g,vo.ownBlock=some g→g<hi)∧(∀ g,va.ownBlock=some g→g<hi)∧ ∀ g,vn.ownBlock=some g→g<hi
section
variable {w wx wy:World} {b B lo1 lo2 hi:Nat} {c:Array Value} {vo va vn:Value} {O:List Nat} {xs:List AtomR} {NL:List ByteArray}
theorem Dq.span (h:Dq w b B lo1 lo2 hi c vo O va xs vn NL wx) (s:Span b (b+1) wx wy) (hc:Cu wy b):Dq w b B lo1 lo2 hi c vo O va xs vn NL wy:=by
 have:=h.ord
 exact⟨h.R.span s (.inr (by omega)),h.Q.span s (.inr (by omega)),s.owns h.o (fun g hg=> .inr (by have:=(h.o.lt g hg).1;omega)),s.owns h.a (fun g hg=> .inr (by have:=(h.a.lt g hg).1;omega)),s.owns h.n (fun g hg=> .inr (by have:=(h.n.lt g hg).1;omega)),hc,h.sp.trans s,h.ord,h.top⟩
theorem Dq.fr (h:Dq w b B lo1 lo2 hi c vo O va xs vn NL wx) (f:Fr wx wy):Dq w b B lo1 lo2 hi c vo O va xs vn NL wy:=⟨h.R.fr f,h.Q.fr f,owns_fr h.o f,owns_fr h.a f,owns_fr h.n f,h.cu.fr f,h.sp.then_fr f,h.ord,h.top⟩
theorem Dq.fin (h:Dq w b B lo1 lo2 hi c vo O va xs vn NL wx) (u0 u1 u2 u3:Value): ∃ W,W=((((wx.setCell ⟨w.heap.size,0,none⟩ u0).setCell ⟨w.heap.size,1,none⟩ u1).setCell ⟨w.heap.size,2,none⟩ u2).setCell ⟨w.heap.size,3,none⟩ u3)∧Cu W b∧Span b (b+1) w W∧W.heap.size=wx.heap.size∧(∀ w'',Ab w.heap.size W w''→StrsR w'' vo (O.map (sAt qNm))∧AtomsR w'' va xs)∧ ∀ {lo:Nat} {e:TypeId} {sz:Nat} {v:Value} {n:Nat} {ys:List Value},w.heap.size<lo→wx.ownsRow lo e sz v n ys→ ∀ w'',Ab w.heap.size W w''→RdS w'' sz v n ys:=by
 obtain⟨o1,o2,o3,o4⟩:=h.ord
 have key: ∀ {lo:Nat} {e:TypeId} {sz:Nat} {v:Value} {n:Nat} {ys:List Value},w.heap.size<lo→wx.ownsRow lo e sz v n ys→ ∀ w'',Ab w.heap.size ((((wx.setCell ⟨w.heap.size,0,none⟩ u0).setCell ⟨w.heap.size,1,none⟩ u1).setCell ⟨w.heap.size,2,none⟩ u2).setCell ⟨w.heap.size,3,none⟩ u3) w''→RdS w'' sz v n ys:=fun hl ho w'' hab=>RdS.of_owns (owns_ab (owns_set (owns_set (owns_set (owns_set ho (p:=⟨w.heap.size,0,none⟩) hl _) (p:=⟨w.heap.size,1,none⟩) hl _) (p:=⟨w.heap.size,2,none⟩) hl _) (p:=⟨w.heap.size,3,none⟩) hl _) (hab.mono' (by omega)))
 refine⟨_,rfl,?_,?_,by simp,fun w'' hab=>⟨key (by omega) h.o w'' hab,key (by omega) h.a w'' hab⟩,key⟩
 · exact(((h.cu.span (Span.set2 (b:=w.heap.size)) (by omega)).span (Span.set2 (b:=w.heap.size)) (by omega)).span (Span.set2 (b:=w.heap.size)) (by omega)).span (Span.set2 (b:=w.heap.size)) (by omega)
 · exact(((h.sp.setn (by omega)).setn (by omega)).setn (by omega)).setn (by omega)
theorem Dq.tch (h:Dq w b B lo1 lo2 hi c vo O va xs vn NL wx) (t:Tch (fun j=>j=b) wx wy) (hc:Cu wy b):Dq w b B lo1 lo2 hi c vo O va xs vn NL wy:=
 h.span ⟨t.os,t.tape,t.output,t.size,fun i hi hne=>t.block i hi (by intro e;subst e;omega)⟩ hc
theorem Dq.setq (h:Dq w b B lo1 lo2 hi c vo O va xs vn NL wx) (i:Nat) (u:Value):Dq w b B lo1 lo2 hi (c.setIfInBounds i u) vo O va xs vn NL (wx.setCell ⟨B,i,none⟩ u):=by
 obtain⟨o1,o2,o3,o4⟩:=h.ord
 exact⟨h.R.far' (by omega) _,h.Q.set i u,owns_set h.o (p:=⟨B,i,none⟩) (by show B<lo1;omega) _,owns_set h.a (p:=⟨B,i,none⟩) (by show B<B+1;omega) _,owns_set h.n (p:=⟨B,i,none⟩) (by show B<lo2;omega) _,h.cu.span (Span.set2 (b:=B)) (by omega),h.sp.setn (by omega),h.ord,h.top⟩
theorem Dq.off (h:Dq w b B lo1 lo2 hi c vo O va xs vn NL wx) {F:Nat} (hF:hi≤F) (i:Nat) (u:Value):Dq w b B lo1 lo2 hi c vo O va xs vn NL (wx.setCell ⟨F,i,none⟩ u):=by
 obtain⟨o1,o2,o3,o4⟩:=h.ord
 obtain⟨t1,t2,t3,t4⟩:=h.top
 have s:Span F (F+1) wx (wx.setCell ⟨F,i,none⟩ u):=Span.set2
 exact⟨h.R.far' (by omega) _,h.Q.far' (by omega) _,s.owns h.o (fun g hg=> .inl (by have:=t2 g hg;omega)),s.owns h.a (fun g hg=> .inl (by have:=t3 g hg;omega)),s.owns h.n (fun g hg=> .inl (by have:=t4 g hg;omega)),h.cu.span s (by omega),h.sp.setn (by omega),h.ord,h.top⟩
theorem Dq.far (h:Dq w b B lo1 lo2 hi c vo O va xs vn NL wx) {F:Nat} (hF:wx.heap.size≤F) (i:Nat) (u:Value):Dq w b B lo1 lo2 hi c vo O va xs vn NL (wx.setCell ⟨F,i,none⟩ u):=h.fr ((Fr.refl _).setCell hF u)
end
set_option maxHeartbeats 16000000 in
set_option maxRecDepth 100000 in
theorem l08Query_any (b:Nat) (w:World) (hc:Cu w b):
  Calls Tryz.prog 131 #[.pointer (some ⟨b,0,none⟩)] w fun e w'=> ∃ (q:QueryD) (v:Value),e= .returned v∧QryG q∧(∀ w'',Ab w.heap.size w' w''→QueryRd w'' v q)∧Cu w' b∧Span b (b+1) w w':=by
 obtain⟨i0,hi,hz0,hz1,hz2⟩:=info_parts info_Atom
 obtain⟨s0,hs,hs0,hs1,hs2⟩:=info_parts info_string
 obtain⟨f0,hf,hf0,hf1,hf2⟩:=info_parts info_Filter
 have hbl:=hc.lt
 go_enter Tryz.func131,Tryz.ntmps131
 go_wp2_with fail
 refine(l01Once_any b _ _ (hc.fr (by exact Qf)) (by omega)).mono ?_
 rintro e w1 ⟨e0,rfl,hc1,sp1⟩
 have z1:=sp1.size;(try simp only[World.size_alloc]at z1)
 have BR1:Box w1 w.heap.size #[.bool false,.slice none 0 0,.slice none 0 0,.slice none 0 0] 31:=Box.span (Box.alloc (Box.new _ _ _) _) sp1 (.inr (by omega))
 have BN1:Box w1 (w.heap.size+1) #[.string ⟨#[120]⟩,.string ⟨#[121]⟩,.string ⟨#[122]⟩] 9:=Box.span (Box.new' (by simp)) sp1 (.inr (by omega))
 have hsp1:Span b (b+1) w w1:=(((Span.refl b (b+1) w).alloc' _).alloc' _).trans sp1
 clear sp1
 go_wp2_with fail
 refine(l01Below_any b 3 _ (hc1.fr (by exact Qf)) (by omega)).mono ?_
 rintro e w2 ⟨m,hm,_,rfl,hc2,sp2⟩
 have hm:=hm (by omega)
 have z2:=sp2.size;(try simp only[World.size_alloc]at z2)
 obtain⟨B,hB⟩: ∃ B,w1.heap.size=B:=⟨_,rfl⟩
 have BR2:=(BR1.alloc (.cells #[.bool e0,.slice none 0 0,.slice none 0 0,.slice none 0 0] 31)).span sp2 (.inr (by omega))
 have BN2:=(BN1.alloc (.cells #[.bool e0,.slice none 0 0,.slice none 0 0,.slice none 0 0] 31)).span sp2 (.inr (by omega))
 have BQ2:Box w2 B #[.bool e0,.slice none 0 0,.slice none 0 0,.slice none 0 0] 31:=by rw[← hB];exact Box.span (Box.new' rfl) sp2 (.inr (by omega))
 have hsp2:Span b (b+1) w w2:=(hsp1.alloc' _).trans sp2
 have wn:IntKind.i64.wrap (1+(m:Int))=1+(m:Int):=IntWalk.i64_in _ (by omega)
 have hBw:w.heap.size+2≤B∧B+1≤w2.heap.size:=by omega
 rw[hB]
 clear sp2 BR1 BN1 hsp1 hc1 hB
 go_wp2_with fail
 go_loopw [6] (fun i wr=> ∃ (xs:List AtomR) (aa:Option Addr) (ca:Nat),xs.length≤m+1∧i= .int .i64 xs.length∧Hid (∀ x∈xs,atmG x)∧Cu wr b∧Box wr w.heap.size #[.bool false,.slice none 0 0,.slice none 0 0,.slice none 0 0] 31∧Box wr (w.heap.size+1) #[.string ⟨#[120]⟩,.string ⟨#[121]⟩,.string ⟨#[122]⟩] 9∧Box wr B #[.bool e0,.slice none 0 0,.slice aa xs.length ca,.slice none 0 0] 31∧Hid (AtomsO wr (B+1) (.slice aa xs.length ca) xs)∧Span b (b+1) w wr) (fun i _=>m+1-(intOf i).toNat)
 case atStart=>exact⟨[],none,0,by simp,rfl,Lib.hid (by simp),hc2,BR2,BN2,BQ2,Lib.hid (World.ownsRow_nil _ _ _ _),hsp2⟩
 case round=>
  clear hc2 BR2 BN2 BQ2 hsp2
  obtain⟨xs,aa,ca,hxl,rfl,HX,hcu,BR,BN,BQ,HA,hsp⟩:=hrel
  have zr:=hsp.size
  by_cases hlt:xs.length<m+1
  · have hlt1:(xs.length:Int)<1+(m:Int):=by omega
    have hbr:=hcu.lt
    have zq:=BQ.lt
    have hown:=HA.out
    have hBg: ∀ g,(Value.slice aa xs.length ca).ownBlock=some g→B+1≤g:=fun g hg=>(hown.lt g hg).1
    have RQ: ∀ w',Tch (fun j=>j=b∨(Value.slice aa xs.length ca).ownBlock=some j) wr w'→ ∀ o,w'.cell? ⟨B,o,none⟩=(#[.bool e0,.slice none 0 0,.slice aa xs.length ca,.slice none 0 0]:Array Value)[o]? :=fun w' h o=>(h.box BQ (fun e=>by rcases e with e|e;omega;have:=hBg _ e;omega)).cell o
    have RN: ∀ w',Tch (fun j=>j=b∨(Value.slice aa xs.length ca).ownBlock=some j) wr w'→Box w' (w.heap.size+1) #[.string ⟨#[120]⟩,.string ⟨#[121]⟩,.string ⟨#[122]⟩] 9:=fun w' h=>h.box BN (fun e=>by rcases e with e|e;omega;have:=hBg _ e;omega)
    have HRN:=Lib.hid RN
    clear RN hown
    go_wp2_with fail
    refine wp_region_last_drew (fun w'=>Tch (fun j=>j=b∨(Value.slice aa xs.length ca).ownBlock=some j) wr w') 18 (by kernel_rfl) (Tch.of_fr (by exact Qf)) (fun hHeld=>?_)
    refine wpAnyE_take (i:=0) (r:=[18]) (v:=?_) rfl (by kernel_rfl) (by kernel_rfl) (by kernel_rfl) (by kernel_rfl) (fun _ _ _ h=>h) (Or.inl ⟨by rfl,?_⟩) (by assumption) ?_;rotate_left;(focus(intro w hSw;(try dsimp only at hSw);go_simp;all_goals (try with_reducible rfl)));(try simp only[Act.put,List.setIfInBounds_toArray,List.set_cons_zero,List.set_cons_succ])
    refine wpAnyE_take (i:=1) (r:=[18]) (v:=?_) rfl (by kernel_rfl) (by kernel_rfl) (by kernel_rfl) (by kernel_rfl) (fun _ _ _ h=>h) (Or.inl ⟨by rfl,?_⟩) (by assumption) ?_;rotate_left;(focus(intro w hSw;(try dsimp only at hSw);go_simp;all_goals (try with_reducible rfl)));(try simp only[Act.put,List.setIfInBounds_toArray,List.set_cons_zero,List.set_cons_succ])
    refine wpAnyE_take (i:=2) (r:=[18]) (v:=?_) rfl (by kernel_rfl) (by kernel_rfl) (by kernel_rfl) (by kernel_rfl) (fun _ _ _ h=>h) (Or.inl ⟨by rfl,?_⟩) (by assumption) ?_;rotate_left;(focus(intro w hSw;(try dsimp only at hSw);go_simp;all_goals (try with_reducible rfl)));(try simp only[Act.put,List.setIfInBounds_toArray,List.set_cons_zero,List.set_cons_succ])
    refine wpAnyE_take (i:=3) (r:=[18]) (v:=?_) rfl (by kernel_rfl) (by kernel_rfl) (by kernel_rfl) (by kernel_rfl) (fun _ _ _ h=>h) (Or.inl ⟨by rfl,?_⟩) (by assumption) ?_;rotate_left;(focus(intro w hSw;(try dsimp only at hSw);go_simp;all_goals (try with_reducible rfl)));(try simp only[Act.put,List.setIfInBounds_toArray,List.set_cons_zero,List.set_cons_succ])
    refine wpAnyE_take (i:=7) (r:=[18]) (v:=?_) rfl (by kernel_rfl) (by kernel_rfl) (by kernel_rfl) (by kernel_rfl) (fun _ _ _ h=>h) (Or.inl ⟨by rfl,?_⟩) (by assumption) ?_;rotate_left;(focus(intro w hSw;(try dsimp only at hSw);go_simp;all_goals (try with_reducible rfl)));(try simp only[Act.put,List.setIfInBounds_toArray,List.set_cons_zero,List.set_cons_succ])
    refine wpAnyE_take (i:=9) (r:=[18]) (v:=?_) rfl (by kernel_rfl) (by kernel_rfl) (by kernel_rfl) (by kernel_rfl) (fun _ _ _ h=>h) (Or.inl ⟨by rfl,?_⟩) (by assumption) ?_;rotate_left;(focus(intro w hSw;(try dsimp only at hSw);go_simp;all_goals (try with_reducible rfl)));(try simp only[Act.put,List.setIfInBounds_toArray,List.set_cons_zero,List.set_cons_succ])
    refine wpAnyE_take (i:=10) (r:=[18]) (v:=?_) rfl (by kernel_rfl) (by kernel_rfl) (by kernel_rfl) (by kernel_rfl) (fun _ _ _ h=>h) (Or.inl ⟨by rfl,?_⟩) (by assumption) ?_;rotate_left;(focus(intro w hSw;(try dsimp only at hSw);go_simp;all_goals (try with_reducible rfl)));(try simp only[Act.put,List.setIfInBounds_toArray,List.set_cons_zero,List.set_cons_succ])
    refine wpAnyE_ready (rs:=[4]) (by kernel_rfl) (by simp) ?_;refine AllReadyE.cons rfl (fun K hK=>?_) AllReadyE.nil
    go_simp;go_at_call 60;refine(l01Below_any b 3 _ (hcu.fr (by exact Qf)) (by omega)).mono ?_;rintro e w3 ⟨x1,hx1,_,rfl,hc3,sp3⟩;have hx1:=hx1 (by omega);have hT3:Tch (fun j=>j=b∨(Value.slice aa xs.length ca).ownBlock=some j) wr w3:=(Tch.of_fr (show Fr wr _ by exact Qf)).trans (Tch.of_span sp3 (fun g h1 h2=> .inl (by omega)));have hs3:Span b (b+1) wr w3:=(Span.of_fr (show Fr wr _ by exact Qf)).trans sp3;have z3:=hs3.size
    have C1: ∀ w',Tch (fun j=>j=b∨(Value.slice aa xs.length ca).ownBlock=some j) wr w'→w'.cell? ⟨w.heap.size+1,x1,none⟩=some (.string (sAt qNm x1)):=fun w' h=>qNm_cell (HRN.out w' h) (by omega)
    refine hK.out _ _ (by first|assumption|(focus((refine Tch.fr (by assumption) ?_;repeat(first|(with_reducible exact Fr.refl _)|(with_reducible assumption)|(with_reducible refine Fr.drewN ?_ _)|(with_reducible refine Fr.drew ?_)|(with_reducible refine Fr.alloc ?_ _)|(with_reducible refine Fr.setCell ?_ (by exact Qz) _)|(with_reducible refine Fr.trans ?_ (by with_reducible assumption))));done))|(focus((refine Tch.of_fr ?_;repeat(first|(with_reducible exact Fr.refl _)|(with_reducible assumption)|(with_reducible refine Fr.drewN ?_ _)|(with_reducible refine Fr.drew ?_)|(with_reducible refine Fr.alloc ?_ _)|(with_reducible refine Fr.setCell ?_ (by exact Qz) _)|(with_reducible refine Fr.trans ?_ (by with_reducible assumption))));done))) (fun hHeld2=>?_);clear hK K hHeld;have hHeld:=hHeld2;clear hHeld2;(try simp only[Act.put,List.setIfInBounds_toArray,List.set_cons_zero,List.set_cons_succ])
    refine wpAnyE_take (i:=5) (r:=[18]) (v:=?_) rfl (by kernel_rfl) (by kernel_rfl) (by kernel_rfl) (by kernel_rfl) (fun _ _ _ h=>h) (Or.inl ⟨by rfl,?_⟩) (by assumption) ?_;rotate_left;(focus(intro w hSw;(try dsimp only at hSw);go_simp;all_goals (try with_reducible rfl)));(try simp only[Act.put,List.setIfInBounds_toArray,List.set_cons_zero,List.set_cons_succ])
    refine wpAnyE_take (i:=6) (r:=[18]) (v:=?_) rfl (by kernel_rfl) (by kernel_rfl) (by kernel_rfl) (by kernel_rfl) (fun _ _ _ h=>h) (Or.inl ⟨by rfl,?_⟩) (by assumption) ?_;rotate_left;(focus(intro w hSw;(try dsimp only at hSw);go_simp;all_goals (try with_reducible rfl)));(try simp only[Act.put,List.setIfInBounds_toArray,List.set_cons_zero,List.set_cons_succ])
    refine wpAnyE_ready (rs:=[8]) (by kernel_rfl) (by simp) ?_;refine AllReadyE.cons rfl (fun K hK=>?_) AllReadyE.nil
    go_simp;go_at_call 180;refine(l06Text_any b _ hc3).mono ?_;rintro e w4 ⟨k4,hk4,rfl,hc4,sp4⟩;have hT4:Tch (fun j=>j=b∨(Value.slice aa xs.length ca).ownBlock=some j) wr w4:=hT3.trans (Tch.of_span sp4 (fun g h1 h2=> .inl (by omega)));have hs4:=hs3.trans sp4;have z4:=sp4.size;obtain⟨t4,ht4⟩: ∃ t,sAt paTexts k4=t:=⟨_,rfl⟩;rw[ht4]
    refine hK.out _ _ (by first|assumption|(focus((refine Tch.fr (by assumption) ?_;repeat(first|(with_reducible exact Fr.refl _)|(with_reducible assumption)|(with_reducible refine Fr.drewN ?_ _)|(with_reducible refine Fr.drew ?_)|(with_reducible refine Fr.alloc ?_ _)|(with_reducible refine Fr.setCell ?_ (by exact Qz) _)|(with_reducible refine Fr.trans ?_ (by with_reducible assumption))));done))|(focus((refine Tch.of_fr ?_;repeat(first|(with_reducible exact Fr.refl _)|(with_reducible assumption)|(with_reducible refine Fr.drewN ?_ _)|(with_reducible refine Fr.drew ?_)|(with_reducible refine Fr.alloc ?_ _)|(with_reducible refine Fr.setCell ?_ (by exact Qz) _)|(with_reducible refine Fr.trans ?_ (by with_reducible assumption))));done))) (fun hHeld2=>?_);clear hK K hHeld;have hHeld:=hHeld2;clear hHeld2;(try simp only[Act.put,List.setIfInBounds_toArray,List.set_cons_zero,List.set_cons_succ])
    refine wpAnyE_ready (rs:=[11]) (by kernel_rfl) (by simp) ?_;refine AllReadyE.cons rfl (fun K hK=>?_) AllReadyE.nil
    go_simp;go_at_call 60;refine(l01Below_any b 3 _ hc4 (by omega)).mono ?_;rintro e w5 ⟨x2,hx2,_,rfl,hc5,sp5⟩;have hx2:=hx2 (by omega);have hT5:Tch (fun j=>j=b∨(Value.slice aa xs.length ca).ownBlock=some j) wr w5:=hT4.trans (Tch.of_span sp5 (fun g h1 h2=> .inl (by omega)));have hs5:=hs4.trans sp5;have z5:=sp5.size
    have C2: ∀ w',Tch (fun j=>j=b∨(Value.slice aa xs.length ca).ownBlock=some j) wr w'→w'.cell? ⟨w.heap.size+1,x2,none⟩=some (.string (sAt qNm x2)):=fun w' h=>qNm_cell (HRN.out w' h) (by omega)
    refine hK.out _ _ (by first|assumption|(focus((refine Tch.fr (by assumption) ?_;repeat(first|(with_reducible exact Fr.refl _)|(with_reducible assumption)|(with_reducible refine Fr.drewN ?_ _)|(with_reducible refine Fr.drew ?_)|(with_reducible refine Fr.alloc ?_ _)|(with_reducible refine Fr.setCell ?_ (by exact Qz) _)|(with_reducible refine Fr.trans ?_ (by with_reducible assumption))));done))|(focus((refine Tch.of_fr ?_;repeat(first|(with_reducible exact Fr.refl _)|(with_reducible assumption)|(with_reducible refine Fr.drewN ?_ _)|(with_reducible refine Fr.drew ?_)|(with_reducible refine Fr.alloc ?_ _)|(with_reducible refine Fr.setCell ?_ (by exact Qz) _)|(with_reducible refine Fr.trans ?_ (by with_reducible assumption))));done))) (fun hHeld2=>?_);clear hK K hHeld;have hHeld:=hHeld2;clear hHeld2;(try simp only[Act.put,List.setIfInBounds_toArray,List.set_cons_zero,List.set_cons_succ])
    refine wpAnyE_take (i:=12) (r:=[18]) (v:=?_) rfl (by kernel_rfl) (by kernel_rfl) (by kernel_rfl) (by kernel_rfl) (fun _ _ _ h=>h) (Or.inl ⟨by rfl,?_⟩) (by assumption) ?_;rotate_left;(focus(intro w hSw;(try dsimp only at hSw);go_simp;all_goals (try with_reducible rfl)));(try simp only[Act.put,List.setIfInBounds_toArray,List.set_cons_zero,List.set_cons_succ])
    refine wpAnyE_take (i:=13) (r:=[18]) (v:=?_) rfl (by kernel_rfl) (by kernel_rfl) (by kernel_rfl) (by kernel_rfl) (fun _ _ _ h=>h) (Or.inl ⟨by rfl,?_⟩) (by assumption) ?_;rotate_left;(focus(intro w hSw;(try dsimp only at hSw);go_simp;all_goals (try with_reducible rfl)));(try simp only[Act.put,List.setIfInBounds_toArray,List.set_cons_zero,List.set_cons_succ])
    refine wpAnyE_take (i:=14) (r:=[18]) (v:=?_) rfl (by kernel_rfl) (by kernel_rfl) (by kernel_rfl) (by kernel_rfl) (fun _ _ _ h=>h) (Or.inl ⟨by rfl,?_⟩) (by assumption) ?_;rotate_left;(focus(intro w hSw;(try dsimp only at hSw);go_simp;all_goals (try with_reducible rfl)));(try simp only[Act.put,List.setIfInBounds_toArray,List.set_cons_zero,List.set_cons_succ])
    refine wpAnyE_ready (rs:=[15]) (by kernel_rfl) (by simp) ?_;refine AllReadyE.cons rfl (fun K hK=>?_) AllReadyE.nil
    go_simp
    refine hK.out _ _ (by first|assumption|(focus((refine Tch.fr (by assumption) ?_;repeat(first|(with_reducible exact Fr.refl _)|(with_reducible assumption)|(with_reducible refine Fr.drewN ?_ _)|(with_reducible refine Fr.drew ?_)|(with_reducible refine Fr.alloc ?_ _)|(with_reducible refine Fr.setCell ?_ (by exact Qz) _)|(with_reducible refine Fr.trans ?_ (by with_reducible assumption))));done))|(focus((refine Tch.of_fr ?_;repeat(first|(with_reducible exact Fr.refl _)|(with_reducible assumption)|(with_reducible refine Fr.drewN ?_ _)|(with_reducible refine Fr.drew ?_)|(with_reducible refine Fr.alloc ?_ _)|(with_reducible refine Fr.setCell ?_ (by exact Qz) _)|(with_reducible refine Fr.trans ?_ (by with_reducible assumption))));done))) (fun hHeld2=>?_);clear hK K hHeld;have hHeld:=hHeld2;clear hHeld2;(try simp only[Act.put,List.setIfInBounds_toArray,List.set_cons_zero,List.set_cons_succ])
    refine wpAnyE_ready (rs:=[16]) (by kernel_rfl) (by simp) ?_;refine AllReadyE.cons rfl (fun K hK=>?_) AllReadyE.nil
    have hown5:w5.ownsRow (B+1) 144 3 (.slice aa xs.length ca) xs.length (xs.flatMap AtomR.cells):=hs5.owns HA.out (fun g hg=> .inr (by have:=hBg g hg;omega))
    refine step_append_rd (by rfl) _ _ 28 (by rfl) (B+1) 144 i0 (.agg #[.string ⟨#[]⟩,.string ⟨#[]⟩,.string ⟨#[]⟩]) 3 48 Tryz.underlying28 hi hz0 hz1 hz2 rfl (by decide) (.slice aa xs.length ca) xs.length (xs.flatMap AtomR.cells) (by rfl) (World.ownsRow.alloc hown5 _) _ 1 [.string (sAt qNm x1),.string t4,.string (sAt qNm x2)] (by rfl) (RdS.new (by first|rfl|(simp;done)) rfl) (by simp[Value.oneCell']) (by unfold maxLen;omega) (by omega) (by exact Qz) ?_;intro a6 c6 w6 hown hgrow hat
    have hf6:Tch (fun j=>j=b∨(Value.slice aa xs.length ca).ownBlock=some j) wr w6:=(hT5.fr (show Fr w5 _ by exact Qf)).trans (Tch.of_gr hgrow (fun i hi=> .inr hi))
    have hri:=RowIn.of_owns hown5
    have z6:=hgrow.size;(try simp only[World.size_alloc]at z6)
    obtain⟨ys,hys⟩: ∃ ys,xs++[(⟨sAt qNm x1,t4,sAt qNm x2⟩:AtomR)]=ys:=⟨_,rfl⟩
    have hyl:ys.length=xs.length+1:=by rw[← hys];simp
    have hyc:xs.flatMap AtomR.cells++[.string (sAt qNm x1),.string t4,.string (sAt qNm x2)]=ys.flatMap AtomR.cells:=by rw[← hys];simp[AtomR.cells]
    rw[hyc]at hown
    have HX7:Hid (∀ x∈ys,atmG x):=Lib.hid (by rw[← hys];exact atm_snoc HX.out ⟨x1,x2,k4,by omega,by omega,hk4,by rw[ht4]⟩)
    have BR6:=((BR.span hs5 (.inr (by omega))).alloc (.cells #[.string (sAt qNm x1),.string t4,.string (sAt qNm x2)] 144)).row hgrow hri (.inl (by omega))
    have BN6:=((BN.span hs5 (.inr (by omega))).alloc (.cells #[.string (sAt qNm x1),.string t4,.string (sAt qNm x2)] 144)).row hgrow hri (.inl (by omega))
    have BQ6:=((BQ.span hs5 (.inr (by omega))).alloc (.cells #[.string (sAt qNm x1),.string t4,.string (sAt qNm x2)] 144)).row hgrow hri (.inl (by omega))
    have FQ6:=BQ6.facts
    refine hK.out _ _ (by first|assumption|(focus((refine Tch.fr (by assumption) ?_;repeat(first|(with_reducible exact Fr.refl _)|(with_reducible assumption)|(with_reducible refine Fr.drewN ?_ _)|(with_reducible refine Fr.drew ?_)|(with_reducible refine Fr.alloc ?_ _)|(with_reducible refine Fr.setCell ?_ (by exact Qz) _)|(with_reducible refine Fr.trans ?_ (by with_reducible assumption))));done))|(focus((refine Tch.of_fr ?_;repeat(first|(with_reducible exact Fr.refl _)|(with_reducible assumption)|(with_reducible refine Fr.drewN ?_ _)|(with_reducible refine Fr.drew ?_)|(with_reducible refine Fr.alloc ?_ _)|(with_reducible refine Fr.setCell ?_ (by exact Qz) _)|(with_reducible refine Fr.trans ?_ (by with_reducible assumption))));done))) (fun hHeld2=>?_);clear hK K hHeld;have hHeld:=hHeld2;clear hHeld2;(try simp only[Act.put,List.setIfInBounds_toArray,List.set_cons_zero,List.set_cons_succ])
    refine wpAnyE_take (i:=17) (r:=[18]) (v:=?_) rfl (by kernel_rfl) (by kernel_rfl) (by kernel_rfl) (by kernel_rfl) (fun _ _ _ h=>h) (Or.inl ⟨by rfl,?_⟩) (by assumption) ?_;rotate_left;(focus(intro w hSw;(try dsimp only at hSw);go_simp;all_goals (try with_reducible rfl)));(try simp only[Act.put,List.setIfInBounds_toArray,List.set_cons_zero,List.set_cons_succ])
    refine wpAnyE_ready (rs:=[18]) (by kernel_rfl) (by simp) ?_;refine AllReadyE.last rfl rfl (fun K hK=>?_);go_simp;refine hK.out _ _ ?_;clear hK K hHeld;(try simp only[Act.put,List.setIfInBounds_toArray,List.set_cons_zero,List.set_cons_succ]);refine wpAnyE_done (by kernel_rfl) ?_ _
    clear FQ6
    have hsp6:Span b (b+1) w w6:=((hsp.trans hs5).alloc' _).above hgrow (fun g hg=>by have:=hBg g hg;omega)
    have hc6:Cu w6 b:=(hc5.fr (show Fr w5 _ by exact Qf)).gr hgrow (fun g hg=>by have:=hBg g hg;omega)
    have HA7:Hid (AtomsO (w6.setCell ⟨B,2,none⟩ (.slice a6 (xs.length+1) c6)) (B+1) (.slice a6 (xs.length+1) c6) ys):=Lib.hid (by unfold AtomsO;rw[hyl];exact owns_set hown (p:=⟨B,2,none⟩) (by show B<B+1;omega) _)
    have HB7:Box (w6.setCell ⟨B,2,none⟩ (.slice a6 (xs.length+1) c6)) B #[.bool e0,.slice none 0 0,.slice a6 (xs.length+1) c6,.slice none 0 0] 31:=BQ6.set_to (i:=2) (by simp)
    clear hown5 hown hgrow hat hys hyc hs3 hs4 hs5 hT3 hT4 hT5 hf6 C1 C2 RQ HRN hc3 hc4 hc5 sp3 sp4 sp5 BR BN BQ hsp
    go_wp2_with fail
    go_roundw
    case rel=>exact⟨ys,a6,c6,by omega,by rw[hyl];go_num,HX7,hc6.span (Span.set2 (b:=B)) (by omega),BR6.far' (by omega) _,BN6.far' (by omega) _,by rw[hyl];exact HB7,by rw[hyl];exact HA7,hsp6.setn (by omega)⟩
    case measure=>(simp[intOf];omega)
  · obtain⟨wo,rfl⟩: ∃ wo:World,wo=wr:=⟨_,rfl⟩
    have hge:m+1≤xs.length:=by omega
    have hx3:xs.length≤3:=by omega
    have hnl: ¬ (xs.length:Int)<1+(m:Int):=by omega
    have zq:=BQ.lt
    have HAlt:=Lib.hid HA.out.lt
    have FQ:=BQ.facts
    have hbr:=hcu.lt
    obtain⟨L,hL,hL0⟩:=nmK_G HX.out xs.length (Nat.le_refl _)
    obtain⟨NL,hNL⟩: ∃ l,nmK xs xs.length=l:=⟨_,rfl⟩
    have HAR:Hid (AtomsR wo (.slice aa xs.length ca) xs):=Lib.hid HA.out.rd
    have CN:Hid (∀ w',Fr wo w'→Calls Tryz.prog 146 #[.agg #[.bool e0,.slice none 0 0,.slice aa xs.length ca,.slice none 0 0]] w' fun e w''=> ∃ v,e= .returned v∧StrsO w'' w'.heap.size v NL∧Fr w' w''):=Lib.hid fun w' h=>by rw[← hNL];exact specNamesOf_any e0 none none 0 0 0 0 _ xs w' (HAR.out.fr h) (by omega)
    have HL:=Lib.hid (hNL▸hL)
    have hl1:NL.length≤3∧1≤NL.length:=by have h1:=hL.few;have h2:=hL0 (by omega);rw[hNL]at h1;omega
    have HNX:Hid (nmK xs xs.length=NL):=Lib.hid hNL
    clear hL hL0 hNL HAR
    go_wp2_with fail
    refine(CN.out _ (by exact Qf)).mono ?_
    rintro e w3 ⟨nv,rfl,hn3,hf3⟩
    obtain⟨an,cn,rfl⟩:=owns_val hn3
    have z3:=hf3.size
    have BQ3:=BQ.fr hf3
    have BR3:=BR.fr hf3
    have hsp3:Span b (b+1) w w3:=hsp.then_fr hf3
    have hc3:=hcu.fr hf3
    have HA3:Hid (AtomsO w3 (B+1) (.slice aa xs.length ca) xs):=Lib.hid (HA.out.fr hf3)
    clear FQ CN
    go_wp2_with fail
    refine(l01Below_any b _ _ hc3 (by omega)).mono ?_
    rintro e w4 ⟨x,hx,_,rfl,hc4,sp4⟩
    have hx:=hx (by omega)
    have z4:=sp4.size
    have hn4:StrsO w4 wo.heap.size (.slice an NL.length cn) NL:=sp4.owns hn3 (fun g hg=> .inr (by have:=(hn3.lt g hg).1;omega))
    obtain⟨an',bn,on,cn',hvn,hcn1,hcn2,fn4⟩:=StrsR.one hn4.rd
    cases hvn
    obtain⟨rfl,hbn,fn⟩:=fn4 (by omega)
    have c4:=fn x (by omega)
    obtain⟨ip,hip,hipL⟩:=HL.out.at_ (show x<NL.length by omega)
    rw[hip]at c4
    have BQ4:=BQ3.span sp4 (.inr (by omega))
    have BR4:=BR3.span sp4 (.inr (by omega))
    have hsp4:Span b (b+1) w w4:=hsp3.trans sp4
    have HA4:Hid (AtomsO w4 (B+1) (.slice aa xs.length ca) xs):=Lib.hid (sp4.owns HA3.out (fun g hg=> .inr (by have:=(HA3.out.lt g hg).1;omega)))
    have HN4:=Lib.hid hn4
    have FQ4:=BQ4.facts
    clear fn fn4 hn3 hn4 hip sp4 BQ3 BR3 HA3 hsp3 hc3 HA hcu BR BN BQ hsp
    go_upto_region 10 with fail
    clear FQ4
    have hw9:Box ((w4.setCell ⟨B,1,none⟩ (.slice (some ⟨w4.heap.size,0,none⟩) 1 1)).alloc (.cells #[.string (sAt qNm ip)] 9)) B #[.bool e0,.slice (some ⟨w4.heap.size,0,none⟩) 1 1,.slice aa xs.length ca,.slice none 0 0] 31:=(BQ4.set_to (i:=1) (by simp)).alloc _
    have hr9:Box ((w4.setCell ⟨B,1,none⟩ (.slice (some ⟨w4.heap.size,0,none⟩) 1 1)).alloc (.cells #[.string (sAt qNm ip)] 9)) w.heap.size #[.bool false,.slice none 0 0,.slice none 0 0,.slice none 0 0] 31:=(BR4.far' (by omega) _).alloc _
    have hb4:B<w4.heap.size:=BQ4.lt
    have ho9:Hid (StrsO ((w4.setCell ⟨B,1,none⟩ (.slice (some ⟨w4.heap.size,0,none⟩) 1 1)).alloc (.cells #[.string (sAt qNm ip)] 9)) w4.heap.size (.slice (some ⟨w4.heap.size,0,none⟩) 1 1) [sAt qNm ip]):=Lib.hid (by have h:=World.ownsRow_lit (base:=w4.heap.size) (e:=9) (size:=1) (w4.setCell ⟨B,1,none⟩ (.slice (some ⟨w4.heap.size,0,none⟩) 1 1)) #[.string (sAt qNm ip)] 1 (by simp) (by unfold maxLen;omega) rfl;rw[World.size_setCell]at h;exact h)
    have ha9:Hid (AtomsO ((w4.setCell ⟨B,1,none⟩ (.slice (some ⟨w4.heap.size,0,none⟩) 1 1)).alloc (.cells #[.string (sAt qNm ip)] 9)) (B+1) (.slice aa xs.length ca) xs):=Lib.hid (World.ownsRow.alloc (owns_set HA4.out (p:=⟨B,1,none⟩) (by show B<B+1;omega) _) _)
    have hn9:Hid (StrsO ((w4.setCell ⟨B,1,none⟩ (.slice (some ⟨w4.heap.size,0,none⟩) 1 1)).alloc (.cells #[.string (sAt qNm ip)] 9)) wo.heap.size (.slice (some ⟨bn,on,none⟩) NL.length cn) NL):=Lib.hid (World.ownsRow.alloc (owns_set HN4.out (p:=⟨B,1,none⟩) zq _) _)
    have hc9:Cu ((w4.setCell ⟨B,1,none⟩ (.slice (some ⟨w4.heap.size,0,none⟩) 1 1)).alloc (.cells #[.string (sAt qNm ip)] 9)) b:=(hc4.span (Span.set2 (b:=B)) (by omega)).fr ((Fr.refl _).alloc _)
    have hs9:Span b (b+1) w ((w4.setCell ⟨B,1,none⟩ (.slice (some ⟨w4.heap.size,0,none⟩) 1 1)).alloc (.cells #[.string (sAt qNm ip)] 9)):=(hsp4.setn (by omega)).alloc' _
    have hz9:w4.heap.size<((w4.setCell ⟨B,1,none⟩ (.slice (some ⟨w4.heap.size,0,none⟩) 1 1)).alloc (.cells #[.string (sAt qNm ip)] 9)).heap.size:=by simp
    generalize (w4.setCell ⟨B,1,none⟩ (.slice (some ⟨w4.heap.size,0,none⟩) 1 1)).alloc (.cells #[.string (sAt qNm ip)] 9)=w9 at hw9 hr9 ho9 ha9 hn9 hc9 hs9 hz9 ⊢
    clear BQ4 BR4 HA4 HN4 hsp4 hc4
    go_cut [57]from 51 to 57 (fun t wx=> ∃ tb:Bool,t= .bool tb∧w4.heap.size<wx.heap.size∧Box wx w.heap.size #[.bool false,.slice none 0 0,.slice none 0 0,.slice none 0 0] 31∧Box wx B #[.bool e0,.slice (some ⟨w4.heap.size,0,none⟩) 1 1,.slice aa xs.length ca,.slice none 0 0] 31∧Hid (StrsO wx w4.heap.size (.slice (some ⟨w4.heap.size,0,none⟩) 1 1) [sAt qNm ip])∧Hid (AtomsO wx (B+1) (.slice aa xs.length ca) xs)∧Hid (StrsO wx wo.heap.size (.slice (some ⟨bn,on,none⟩) NL.length cn) NL)∧Cu wx b∧Span b (b+1) w wx)
    case first=>
     by_cases hL1:1<NL.length
     · have hL2:decide ((1:Int)<(NL.length:Int))=true:=decide_eq_true (by omega)
       go_wp2_with fail
       refine(l01Once_any b 2 _ hc9 (by omega)).mono ?_
       rintro e wx ⟨tb,rfl,hcx,spx⟩
       have zx:=spx.size
       go_wp2_with fail
       go_meet
       case rel=>exact⟨tb,rfl,by omega,hr9.span spx (.inr (by omega)),hw9.span spx (.inr (by omega)),Lib.hid (spx.owns ho9.out (fun g hg=> .inr (by have:=(ho9.out.lt g hg).1;omega))),Lib.hid (spx.owns ha9.out (fun g hg=> .inr (by have:=(ha9.out.lt g hg).1;omega))),Lib.hid (spx.owns hn9.out (fun g hg=> .inr (by have:=(hn9.out.lt g hg).1;omega))),hcx,hs9.trans spx⟩
     · have hL2:decide ((1:Int)<(NL.length:Int))=false:=decide_eq_false (by omega)
       go_wp2_with fail
       go_meet
       case rel=>exact⟨false,rfl,hz9,hr9,hw9,ho9,ha9,hn9,hc9,hs9⟩
    case rest=>
     obtain⟨tb,rfl,hzc,hr1,hw1,ho1,ha1,hn1,hc1',hs1⟩:=hcut
     clear hw9 hr9 ho9 ha9 hn9 hc9 hs9 hz9
     go_upto_if 57 with fail
     go_cut [8]from 58 to 87 (fun t wx=> ∃ (O:List Nat) (oo:Option Addr) (oc:Nat),Hid ((∃ i∈L,O=[i])∨ ∃ i∈L,∃ j∈L,i≠j∧O=[i,j])∧w4.heap.size<wx.heap.size∧Box wx w.heap.size #[.bool false,.slice none 0 0,.slice none 0 0,.slice none 0 0] 31∧Box wx B #[.bool e0,.slice oo O.length oc,.slice aa xs.length ca,.slice none 0 0] 31∧Hid (StrsO wx w4.heap.size (.slice oo O.length oc) (O.map (sAt qNm)))∧Hid (AtomsO wx (B+1) (.slice aa xs.length ca) xs)∧Hid (StrsO wx wo.heap.size (.slice (some ⟨bn,on,none⟩) NL.length cn) NL)∧Cu wx b∧Span b (b+1) w wx)
     case first=>
      cases tb
      · go_wp2_with fail
        go_meet
        case rel=>exact⟨[ip],_,_,Lib.hid (.inl ⟨ip,hipL,rfl⟩),hzc,hr1,hw1,ho1,ha1,hn1,hc1',hs1⟩
      · go_wp2_with fail
        go_loopw [8] (fun i wr=> ∃ (k:Nat) (O:List Nat) (oo:Option Addr) (oc:Nat),k≤NL.length∧i= .int .i64 k∧Hid (O=[ip]∨ ∃ j∈L,ip≠j∧O=[ip,j])∧w4.heap.size<wr.heap.size∧Box wr w.heap.size #[.bool false,.slice none 0 0,.slice none 0 0,.slice none 0 0] 31∧Box wr B #[.bool e0,.slice oo O.length oc,.slice aa xs.length ca,.slice none 0 0] 31∧Hid (StrsO wr w4.heap.size (.slice oo O.length oc) (O.map (sAt qNm)))∧Hid (AtomsO wr (B+1) (.slice aa xs.length ca) xs)∧Hid (StrsO wr wo.heap.size (.slice (some ⟨bn,on,none⟩) NL.length cn) NL)∧Cu wr b∧Span b (b+1) w wr) (fun i _=>NL.length-(intOf i).toNat)
        case atStart=>exact⟨0,[ip],_,_,Nat.zero_le _,rfl,Lib.hid (.inl rfl),hzc,hr1,hw1,ho1,ha1,hn1,hc1',hs1⟩
        case round=>
         clear hzc hr1 hw1 ho1 ha1 hn1 hc1' hs1
         obtain⟨k,O,oo,oc,hk,rfl,HO,hzr,BR,BQ,OW,HA,HN,hcu,hsp⟩:=hrel
         by_cases hlt:k<NL.length
         · obtain⟨ik,hik,hikL⟩:=HL.out.at_ hlt
           obtain⟨an',bn',on',cn',hvn,_,_,fn4⟩:=StrsR.one HN.out.rd
           cases hvn
           obtain⟨hbe,hbn2,fk⟩:=fn4 (by omega)
           cases hbe
           have ck:=fk k hlt
           rw[hik]at ck
           have hip3:=HL.out.lt ip hipL
           have hik3:=HL.out.lt ik hikL
           clear hik fn4 fk
           obtain⟨hO0,hO1,hO2⟩:sAt (O.map (sAt qNm)) 0=sAt qNm ip∧1≤O.length∧O.length≤2:=by rcases HO.out with rfl|⟨j,_,_,rfl⟩<;>simp[sAt]
           obtain⟨ao',bo',oo',co',hvo,hco1,hco2,fo⟩:=StrsR.one OW.out.rd
           rw[List.length_map]at hvo fo hco1
           cases hvo
           obtain⟨rfl,hbo,fo⟩:=fo (by omega)
           have c0:=fo 0 (by omega)
           rw[hO0,Nat.add_zero]at c0
           have hzo:=OW.out.lt
           clear fo hO0
           obtain⟨ol,hol⟩: ∃ ol,O.length=ol:=⟨_,rfl⟩
           have HOL:=Lib.hid hol
           rw[hol]at hO1 hO2 BQ hzo hco1
           clear hol
           have FQ:=BQ.facts
           by_cases e:ik=ip
           · subst e
             have gq:((sAt qNm ik).toList==(sAt qNm ik).toList)=true:=by simp
             go_wp2_with fail
             go_quiet (fail)
             go_wp2_with fail
             go_roundw
             case rel=>exact⟨k+1,O,_,_,by omega,by go_num,HO,by simpa using hzr,BR.drewN _,by rw[HOL.out];exact BQ.drewN _,Lib.hid (OW.out.fr ((Fr.refl _).drewN _)),Lib.hid (HA.out.fr ((Fr.refl _).drewN _)),Lib.hid (HN.out.fr ((Fr.refl _).drewN _)),hcu.fr ((Fr.refl _).drewN _),hsp.drewN'⟩
             case measure=>(simp[intOf];omega)
           · have gq:((sAt qNm ik).toList==(sAt qNm ip).toList)=false:=by rw[qNm_eq ik hik3 ip hip3];exact decide_eq_false e
             by_cases h2:ol<2
             · have g2:decide ((ol:Int)<2)=true:=decide_eq_true (by omega)
               have hO:O=[ip]:=by rcases HO.out with h|⟨j,_,_,h⟩;exact h;(have:=HOL.out;rw[h]at this;simp at this;omega)
               go_wp2_with fail
               go_quiet (fail)
               go_wp2_with fail
               have hbo2: ∀ g,(Value.slice (some ⟨bo',oo',none⟩) ol oc).ownBlock=some g→w4.heap.size≤g∧g<wr.heap.size:=fun g hg=>hzo g hg
               have RQ: ∀ w',Tch (fun j=>(Value.slice (some ⟨bo',oo',none⟩) ol oc).ownBlock=some j) wr w'→ ∀ o,w'.cell? ⟨B,o,none⟩=(#[.bool e0,.slice (some ⟨bo',oo',none⟩) ol oc,.slice aa xs.length ca,.slice none 0 0]:Array Value)[o]? :=fun w' h=>(h.box BQ (fun e=>by have:=hbo2 _ e;omega)).cell
               have RK: ∀ w',Tch (fun j=>(Value.slice (some ⟨bo',oo',none⟩) ol oc).ownBlock=some j) wr w'→w'.cell? ⟨bn,on+k,none⟩=some (.string (sAt qNm ik)):=fun w' h=>by
                have h1:=h.block bn hbn2 (fun e=>by have:=hbo2 _ e;omega)
                exact(by unfold World.cell?;rw[h1]:w'.cell? ⟨bn,on+k,none⟩=wr.cell? ⟨bn,on+k,none⟩).trans ck
               refine wp_region_last_drew (fun w'=>Tch (fun j=>(Value.slice (some ⟨bo',oo',none⟩) ol oc).ownBlock=some j) wr w') 9 (by kernel_rfl) (Tch.of_fr (by exact Qf)) (fun hHeld=>?_)
               refine wpAnyE_take (i:=0) (r:=[9]) (v:=?_) rfl (by kernel_rfl) (by kernel_rfl) (by kernel_rfl) (by kernel_rfl) (fun _ _ _ h=>h) (Or.inl ⟨by rfl,?_⟩) (by assumption) ?_;rotate_left;(focus(intro w hSw;(try dsimp only at hSw);go_simp;all_goals (try with_reducible rfl)));(try simp only[Act.put,List.setIfInBounds_toArray,List.set_cons_zero,List.set_cons_succ])
               refine wpAnyE_take (i:=1) (r:=[9]) (v:=?_) rfl (by kernel_rfl) (by kernel_rfl) (by kernel_rfl) (by kernel_rfl) (fun _ _ _ h=>h) (Or.inl ⟨by rfl,?_⟩) (by assumption) ?_;rotate_left;(focus(intro w hSw;(try dsimp only at hSw);go_simp;all_goals (try with_reducible rfl)));(try simp only[Act.put,List.setIfInBounds_toArray,List.set_cons_zero,List.set_cons_succ])
               refine wpAnyE_take (i:=2) (r:=[9]) (v:=?_) rfl (by kernel_rfl) (by kernel_rfl) (by kernel_rfl) (by kernel_rfl) (fun _ _ _ h=>h) (Or.inl ⟨by rfl,?_⟩) (by assumption) ?_;rotate_left;(focus(intro w hSw;(try dsimp only at hSw);go_simp;all_goals (try with_reducible rfl)));(try simp only[Act.put,List.setIfInBounds_toArray,List.set_cons_zero,List.set_cons_succ])
               refine wpAnyE_take (i:=3) (r:=[9]) (v:=?_) rfl (by kernel_rfl) (by kernel_rfl) (by kernel_rfl) (by kernel_rfl) (fun _ _ _ h=>h) (Or.inl ⟨by rfl,?_⟩) (by assumption) ?_;rotate_left;(focus(intro w hSw;(try dsimp only at hSw);go_simp;all_goals (try with_reducible rfl)));(try simp only[Act.put,List.setIfInBounds_toArray,List.set_cons_zero,List.set_cons_succ])
               refine wpAnyE_take (i:=4) (r:=[9]) (v:=?_) rfl (by kernel_rfl) (by kernel_rfl) (by kernel_rfl) (by kernel_rfl) (fun _ _ _ h=>h) (Or.inl ⟨by rfl,?_⟩) (by assumption) ?_;rotate_left;(focus(intro w hSw;(try dsimp only at hSw);go_simp;all_goals (try with_reducible rfl)));(try simp only[Act.put,List.setIfInBounds_toArray,List.set_cons_zero,List.set_cons_succ])
               refine wpAnyE_take (i:=5) (r:=[9]) (v:=?_) rfl (by kernel_rfl) (by kernel_rfl) (by kernel_rfl) (by kernel_rfl) (fun _ _ _ h=>h) (Or.inl ⟨by rfl,?_⟩) (by assumption) ?_;rotate_left;(focus(intro w hSw;(try dsimp only at hSw);go_simp;all_goals (try with_reducible rfl)));(try simp only[Act.put,List.setIfInBounds_toArray,List.set_cons_zero,List.set_cons_succ])
               refine wpAnyE_ready (rs:=[6]) (by kernel_rfl) (by simp) ?_;refine AllReadyE.cons rfl (fun K hK=>?_) AllReadyE.nil
               go_simp
               have hT0:Tch (fun j=>(Value.slice (some ⟨bo',oo',none⟩) ol oc).ownBlock=some j) wr wr:=Tch.refl _ _
               refine hK.out _ _ (by first|assumption|(focus((refine Tch.fr (by assumption) ?_;repeat(first|(with_reducible exact Fr.refl _)|(with_reducible assumption)|(with_reducible refine Fr.drewN ?_ _)|(with_reducible refine Fr.drew ?_)|(with_reducible refine Fr.alloc ?_ _)|(with_reducible refine Fr.setCell ?_ (by exact Qz) _)|(with_reducible refine Fr.trans ?_ (by with_reducible assumption))));done))|(focus((refine Tch.of_fr ?_;repeat(first|(with_reducible exact Fr.refl _)|(with_reducible assumption)|(with_reducible refine Fr.drewN ?_ _)|(with_reducible refine Fr.drew ?_)|(with_reducible refine Fr.alloc ?_ _)|(with_reducible refine Fr.setCell ?_ (by exact Qz) _)|(with_reducible refine Fr.trans ?_ (by with_reducible assumption))));done))) (fun hHeld2=>?_);clear hK K hHeld;have hHeld:=hHeld2;clear hHeld2;(try simp only[Act.put,List.setIfInBounds_toArray,List.set_cons_zero,List.set_cons_succ])
               refine wpAnyE_ready (rs:=[7]) (by kernel_rfl) (by simp) ?_;refine AllReadyE.cons rfl (fun K hK=>?_) AllReadyE.nil
               have hown5:wr.ownsRow w4.heap.size 9 1 (.slice (some ⟨bo',oo',none⟩) ol oc) ol ((O.map (sAt qNm)).map Value.string):=by have h:=OW.out;unfold StrsO at h;rw[List.length_map,HOL.out]at h;exact h
               refine step_append_rd (by rfl) _ _ 27 (by rfl) w4.heap.size 9 s0 (.string ⟨#[]⟩) 1 16 Tryz.underlying27 hs hs0 hs1 hs2 rfl (by decide) (.slice (some ⟨bo',oo',none⟩) ol oc) ol ((O.map (sAt qNm)).map Value.string) (by rfl) (owns_fr hown5 (by exact Qf)) _ 1 [.string (sAt qNm ik)] (by rfl) (RdS.new (by first|rfl|(simp;done)) rfl) (by simp[Value.oneCell']) (by unfold maxLen;omega) (by omega) (by exact Qz) ?_;intro a6 c6 w6 hown hgrow hat
               have hf6:Tch (fun j=>(Value.slice (some ⟨bo',oo',none⟩) ol oc).ownBlock=some j) wr w6:=(Tch.of_fr (show Fr wr (_:World) by exact Qf)).trans (Tch.of_gr hgrow (fun i hi=>hi))
               have hri:RowIn w4.heap.size wr.heap.size (Value.slice (some ⟨bo',oo',none⟩) ol oc):=hbo2
               have z6:=hf6.size
               have BQ6:Box w6 B #[.bool e0,.slice (some ⟨bo',oo',none⟩) ol oc,.slice aa xs.length ca,.slice none 0 0] 31:=hf6.box BQ (fun e=>by have:=hbo2 _ e;omega)
               have BR6:=hf6.box BR (fun e=>by have:=hbo2 _ e;omega)
               have hsp6:Span b (b+1) w w6:=(hsp.then_fr (show Fr wr (_:World) by exact Qf)).above hgrow (fun g hg=>by have:=hbo2 g hg;omega)
               have hc6:Cu w6 b:=(hcu.fr (show Fr wr (_:World) by exact Qf)).gr hgrow (fun g hg=>by have:=hbo2 g hg;omega)
               have hn6:StrsO w6 wo.heap.size (.slice (some ⟨bn,on,none⟩) NL.length cn) NL:=hf6.owns HN.out (fun g hg e=>by have:=hbo2 g e;have e2:bn=g:=Option.some.inj hg;omega)
               have ha6:AtomsO w6 (B+1) (.slice aa xs.length ca) xs:=hf6.owns HA.out (fun g hg e=>by have:=hbo2 g e;have:=HAlt.out g hg;omega)
               have FQ6:=BQ6.facts
               refine hK.out _ _ (by first|assumption|(focus((refine Tch.fr (by assumption) ?_;repeat(first|(with_reducible exact Fr.refl _)|(with_reducible assumption)|(with_reducible refine Fr.drewN ?_ _)|(with_reducible refine Fr.drew ?_)|(with_reducible refine Fr.alloc ?_ _)|(with_reducible refine Fr.setCell ?_ (by exact Qz) _)|(with_reducible refine Fr.trans ?_ (by with_reducible assumption))));done))|(focus((refine Tch.of_fr ?_;repeat(first|(with_reducible exact Fr.refl _)|(with_reducible assumption)|(with_reducible refine Fr.drewN ?_ _)|(with_reducible refine Fr.drew ?_)|(with_reducible refine Fr.alloc ?_ _)|(with_reducible refine Fr.setCell ?_ (by exact Qz) _)|(with_reducible refine Fr.trans ?_ (by with_reducible assumption))));done))) (fun hHeld2=>?_);clear hK K hHeld;have hHeld:=hHeld2;clear hHeld2;(try simp only[Act.put,List.setIfInBounds_toArray,List.set_cons_zero,List.set_cons_succ])
               refine wpAnyE_take (i:=8) (r:=[9]) (v:=?_) rfl (by kernel_rfl) (by kernel_rfl) (by kernel_rfl) (by kernel_rfl) (fun _ _ _ h=>h) (Or.inl ⟨by rfl,?_⟩) (by assumption) ?_;rotate_left;(focus(intro w hSw;(try dsimp only at hSw);go_simp;all_goals (try with_reducible rfl)));(try simp only[Act.put,List.setIfInBounds_toArray,List.set_cons_zero,List.set_cons_succ])
               refine wpAnyE_ready (rs:=[9]) (by kernel_rfl) (by simp) ?_;refine AllReadyE.last rfl rfl (fun K hK=>?_);go_simp;refine hK.out _ _ ?_;clear hK K hHeld;(try simp only[Act.put,List.setIfInBounds_toArray,List.set_cons_zero,List.set_cons_succ]);refine wpAnyE_done (by kernel_rfl) ?_ _
               have hOm:(O.map (sAt qNm)).map Value.string++[.string (sAt qNm ik)]=([ip,ik].map (sAt qNm)).map Value.string:=by rw[hO];rfl
               rw[hOm]at hown
               have ho1:ol=1:=by have:=HOL.out;rw[hO]at this;exact this.symm
               subst ho1
               have HB7:Box (w6.setCell ⟨B,1,none⟩ (.slice a6 (1+1) c6)) B #[.bool e0,.slice a6 (1+1) c6,.slice aa xs.length ca,.slice none 0 0] 31:=BQ6.set_to (i:=1) (by simp)
               clear FQ6 FQ RQ RK hf6 hgrow hat c0 ck hO hOm
               go_wp2_with fail
               go_roundw
               case rel=>exact⟨k+1,[ip,ik],a6,c6,by omega,by go_num,Lib.hid (.inr ⟨ik,hikL,fun h=>e h.symm,rfl⟩),by simp;omega,BR6.far' (by omega) _,HB7,Lib.hid (owns_set hown (p:=⟨B,1,none⟩) hb4 _),Lib.hid (owns_set ha6 (p:=⟨B,1,none⟩) (by show B<B+1;omega) _),Lib.hid (owns_set hn6 (p:=⟨B,1,none⟩) zq _),hc6.span (Span.set2 (b:=B)) (by omega),hsp6.setn (by omega)⟩
               case measure=>(simp[intOf];omega)
             · have g2:decide ((ol:Int)<2)=false:=decide_eq_false (by omega)
               go_wp2_with fail
               go_quiet (fail)
               go_wp2_with fail
               go_roundw
               case rel=>exact⟨k+1,O,_,_,by omega,by go_num,HO,by simpa using hzr,BR.drewN _,by rw[HOL.out];exact BQ.drewN _,Lib.hid (OW.out.fr ((Fr.refl _).drewN _)),Lib.hid (HA.out.fr ((Fr.refl _).drewN _)),Lib.hid (HN.out.fr ((Fr.refl _).drewN _)),hcu.fr ((Fr.refl _).drewN _),hsp.drewN'⟩
               case measure=>(simp[intOf];omega)
         · obtain rfl:k=NL.length:=by omega
           go_wp2_with fail
           go_meet
           case rel=>exact⟨O,oo,oc,Lib.hid (by rcases HO.out with rfl|⟨j,hj,hij,rfl⟩;exact .inl ⟨ip,hipL,rfl⟩;exact .inr ⟨ip,hipL,j,hj,hij,rfl⟩),hzr,BR,BQ,OW,HA,HN,hcu,hsp⟩
     case rest=>
      obtain⟨O,oo,oc,HO,hzd,BR,BQ,OW,HA,HN,hcu,hsp⟩:=hcut
      clear hzc hr1 hw1 ho1 ha1 hn1 hc1' hs1
      obtain⟨hd,hhd⟩: ∃ x,wc.heap.size=x:=⟨_,rfl⟩
      have D0:Dq w b B w4.heap.size wo.heap.size hd #[.bool e0,.slice oo O.length oc,.slice aa xs.length ca,.slice none 0 0] (.slice oo O.length oc) O (.slice aa xs.length ca) xs (.slice (some ⟨bn,on,none⟩) NL.length cn) NL wc:=⟨BR,BQ,OW.out,HA.out,HN.out,hcu,hsp,by omega,hhd▸BQ.lt,fun g hg=>hhd▸(OW.out.lt g hg).2,fun g hg=>hhd▸(HA.out.lt g hg).2,fun g hg=>hhd▸(HN.out.lt g hg).2⟩
      have hhd2:hd≤wc.heap.size:=by omega
      clear hhd
      clear BR BQ OW HA HN hsp
      go_wp2_with fail
      refine(l01Once_any b 3 _ hcu (by omega)).mono ?_
      rintro e wd ⟨fb,rfl,hcd,spd⟩
      have zd:=spd.size
      have D1:=D0.span spd hcd
      clear D0 spd hcu hcd
      have HD1:=Lib.hid D1
      have FQ:=D1.Q.facts
      have FR1:=D1.R.facts
      clear D1
      cases fb
      · go_wp2_with fail
        refine bodyPost_ret (v:= .agg #[.bool e0,.slice oo O.length oc,.slice aa xs.length ca,.slice none 0 0]) (by simp[results,Tryz.results131,go_sem, *]) rfl ⟨⟨e0,O.map (sAt qNm),xs,[]⟩,_,rfl,QryG.mk' ⟨by omega,by omega⟩ HX.out (HNX.out▸HL.out) HO.out (.inl rfl),?_,?_,?_⟩
        · obtain⟨W,rfl,e1,e2,e3,e4,e5⟩:=HD1.out.fin (.bool e0) (.slice oo O.length oc) (.slice aa xs.length ca) (.slice none 0 0)
          exact fun w'' hab=>⟨_,_,_,rfl,(e4 w'' hab).1,(e4 w'' hab).2,(OwW.nil w'' 0 0 187 4).rd⟩
        · obtain⟨W,rfl,e1,e2,e3,e4,e5⟩:=HD1.out.fin (.bool e0) (.slice oo O.length oc) (.slice aa xs.length ca) (.slice none 0 0)
          exact e1
        · obtain⟨W,rfl,e1,e2,e3,e4,e5⟩:=HD1.out.fin (.bool e0) (.slice oo O.length oc) (.slice aa xs.length ca) (.slice none 0 0)
          exact e2
      · clear FQ FR1
        have hNLr: ∀ w',Tch (fun j=>j=b) wd w'→ ∀ i,i<NL.length→w'.cell? ⟨bn,on+i,none⟩=some (.string (sAt NL i)):=fun w' h i hi=>by
         have h1:StrsO w' wo.heap.size (.slice (some ⟨bn,on,none⟩) NL.length cn) NL:=h.owns HD1.out.n (fun g hg e=>by have:=(HD1.out.n.lt g hg).1;omega)
         obtain⟨_,b1,o1,c1,e1,_,_,e4⟩:=StrsR.one (StrsO.rd h1)
         cases e1
         obtain⟨e5,_,e6⟩:=e4 (by omega)
         cases e5
         exact e6 i hi
        have HNR:=Lib.hid hNLr
        clear hNLr
        have hcd:=HD1.out.cu
        go_upto_region 17 with fail
        go_cut [9]from 90 to 102 (fun p wx=> ∃ (F:Nat) (ia:Nat) (op nn:Int),p= .pointer (some ⟨F,0,none⟩)∧ia∈L∧(op=1∨op=2)∧(0≤nn∧nn<4)∧wd.heap.size≤F∧Box wx F #[.string (sAt qNm ia),.int .i64 op,.string ⟨#[]⟩,.int .i64 nn] 187∧Hid (Dq w b B w4.heap.size wo.heap.size hd #[.bool e0,.slice oo O.length oc,.slice aa xs.length ca,.slice none 0 0] (.slice oo O.length oc) O (.slice aa xs.length ca) xs (.slice (some ⟨bn,on,none⟩) NL.length cn) NL wx))
        case first=>
         go_region_held3 (fun w'=>Tch (fun j=>j=b) wd w') (first|assumption|(focus((repeat(refine Tch.set ?_ (.inr (by first|(show wd.heap.size≤wB.heap.size;omega)|(show wd.heap.size≤wA.heap.size;omega)|exact Nat.le_refl _)) _));first|exact hTC|(refine Tch.fr hTC ?_;repeat(first|(with_reducible exact Fr.refl _)|(with_reducible assumption)|(with_reducible refine Fr.drewN ?_ _)|(with_reducible refine Fr.drew ?_)|(with_reducible refine Fr.alloc ?_ _)|(with_reducible refine Fr.setCell ?_ (by exact Qz) _)|(with_reducible refine Fr.trans ?_ (by with_reducible assumption))));done))|(focus((refine Tch.fr hTC ?_;repeat(first|(with_reducible exact Fr.refl _)|(with_reducible assumption)|(with_reducible refine Fr.drewN ?_ _)|(with_reducible refine Fr.drew ?_)|(with_reducible refine Fr.alloc ?_ _)|(with_reducible refine Fr.setCell ?_ (by exact Qz) _)|(with_reducible refine Fr.trans ?_ (by with_reducible assumption))));done))|(focus((refine Tch.fr hTB ?_;repeat(first|(with_reducible exact Fr.refl _)|(with_reducible assumption)|(with_reducible refine Fr.drewN ?_ _)|(with_reducible refine Fr.drew ?_)|(with_reducible refine Fr.alloc ?_ _)|(with_reducible refine Fr.setCell ?_ (by exact Qz) _)|(with_reducible refine Fr.trans ?_ (by with_reducible assumption))));done))|(focus((refine Tch.fr hTA ?_;repeat(first|(with_reducible exact Fr.refl _)|(with_reducible assumption)|(with_reducible refine Fr.drewN ?_ _)|(with_reducible refine Fr.drew ?_)|(with_reducible refine Fr.alloc ?_ _)|(with_reducible refine Fr.setCell ?_ (by exact Qz) _)|(with_reducible refine Fr.trans ?_ (by with_reducible assumption))));done))|(focus((refine Tch.of_fr ?_;repeat(first|(with_reducible exact Fr.refl _)|(with_reducible assumption)|(with_reducible refine Fr.drewN ?_ _)|(with_reducible refine Fr.drew ?_)|(with_reducible refine Fr.alloc ?_ _)|(with_reducible refine Fr.setCell ?_ (by exact Qz) _)|(with_reducible refine Fr.trans ?_ (by with_reducible assumption))));done))) (first|(go_at_call 60;with_reducible refine(l01Below_any b (NL.length:Int) _ (hcd.fr (by exact Qf)) (by omega)).mono ?_;rintro e wA ⟨xA,hxA,_,rfl,hcA,spA⟩;have zA:=spA.size;(try simp only[World.size_alloc,World.size_drew,World.heap_drewN]at zA);(try have kA:=spA.blk wd.heap.size (by exact Qz) (.inr (by omega)));have hxA:=hxA (by omega);have hTA:Tch (fun j=>j=b) wd wA:=(Tch.of_fr (show Fr wd _ by exact Qf)).trans (Tch.of_span spA (fun g h1 h2=>by omega));obtain⟨iA,hiA,hiAL⟩:=HL.out.at_ (show xA<NL.length by omega);have cA: ∀ w',Tch (fun j=>j=b) wd w'→w'.cell? ⟨bn,on+xA,none⟩=some (.string (sAt qNm iA)):=(fun w' h=>by rw[← hiA];exact HNR.out w' h xA (by omega)))|(go_at_call 60;with_reducible refine(l01Below_any b 2 _ (hcA.fr (by exact Qf)) (by omega)).mono ?_;rintro e wB ⟨xB,hxB,_,rfl,hcB,spB⟩;have zB:=spB.size;(try simp only[World.size_alloc,World.size_drew,World.heap_drewN]at zB);(try have kB:=spB.blk wd.heap.size (by exact Qz) (.inr (by omega)));(try have kB2:=spB.blk wA.heap.size (by exact Qz) (.inr (by omega)));have hxB:=hxB (by omega);have hwB:IntKind.i64.wrap (1+(xB:Int))=1+(xB:Int):=IntWalk.i64_in _ (by omega);have hTB:Tch (fun j=>j=b) wd wB:=(hTA.fr (by exact Qf)).trans (Tch.of_span spB (fun g h1 h2=>by omega)))|(go_at_call 60;with_reducible refine(l01Below_any b 4 _ (hcB.fr (by exact Qf)) (by omega)).mono ?_;rintro e wC ⟨xC,hxC,_,rfl,hcC,spC⟩;have zC:=spC.size;(try simp only[World.size_alloc,World.size_drew,World.heap_drewN]at zC);(try have kC:=spC.blk wd.heap.size (by exact Qz) (.inr (by omega)));(try have kC2:=spC.blk wA.heap.size (by exact Qz) (.inr (by omega)));(try have kC3:=spC.blk wB.heap.size (by exact Qz) (.inr (by omega)));have hxC:=hxC (by omega);have hTC:Tch (fun j=>j=b) wd wC:=(hTB.fr (by exact Qf)).trans (Tch.of_span spC (fun g h1 h2=>by omega))))
         · go_wp2_with fail
           go_meet
           case rel=>exact⟨_,iA,1+(xB:Int),(xC:Int),rfl,hiAL,by omega,by omega,by omega,Box.new' rfl,Lib.hid (HD1.out.tch (hTC.fr ((Fr.refl _).alloc _)) (hcC.fr ((Fr.refl _).alloc _)))⟩
         · have BZ:Box wC wB.heap.size #[.string ⟨#[]⟩,.int .i64 0,.string ⟨#[]⟩,.int .i64 0] 187:=Box.span (Box.new' rfl) spC (.inr (by omega))
           go_wp2_with fail
           go_meet
           case rel=>
            refine⟨_,iA,1+(xB:Int),(xC:Int),rfl,hiAL,by omega,by omega,by omega,Box.set_to (((BZ.set 0 _).set 1 _).set 2 _) (by simp),Lib.hid (HD1.out.tch ((((hTC.set (.inr ?_) _).set (.inr ?_) _).set (.inr ?_) _).set (.inr ?_) _) ((((hcC.span (Span.set2 (b:=wB.heap.size)) (by omega)).span (Span.set2 (b:=wB.heap.size)) (by omega)).span (Span.set2 (b:=wB.heap.size)) (by omega)).span (Span.set2 (b:=wB.heap.size)) (by omega)))⟩
            all_goals (show wd.heap.size≤wB.heap.size;omega)
         · have BZ:Box wC wA.heap.size #[.string ⟨#[]⟩,.int .i64 0,.string ⟨#[]⟩,.int .i64 0] 187:=Box.span (Box.span (Box.new' rfl) spB (.inr (by omega))) spC (.inr (by omega))
           go_wp2_with fail
           go_meet
           case rel=>
            refine⟨_,iA,1+(xB:Int),(xC:Int),rfl,hiAL,by omega,by omega,by omega,Box.set_to (((BZ.set 0 _).set 1 _).set 2 _) (by simp),Lib.hid (HD1.out.tch ((((hTC.set (.inr ?_) _).set (.inr ?_) _).set (.inr ?_) _).set (.inr ?_) _) ((((hcC.span (Span.set2 (b:=wA.heap.size)) (by omega)).span (Span.set2 (b:=wA.heap.size)) (by omega)).span (Span.set2 (b:=wA.heap.size)) (by omega)).span (Span.set2 (b:=wA.heap.size)) (by omega)))⟩
            all_goals (show wd.heap.size≤wA.heap.size;omega)
         · have BZ:Box wC wd.heap.size #[.string ⟨#[]⟩,.int .i64 0,.string ⟨#[]⟩,.int .i64 0] 187:=Box.span (Box.span (Box.span (Box.drew (Box.new' rfl)) spA (.inr (by omega))) spB (.inr (by omega))) spC (.inr (by omega))
           go_wp2_with fail
           go_meet
           case rel=>
            refine⟨_,iA,1+(xB:Int),(xC:Int),rfl,hiAL,by omega,by omega,by omega,Box.set_to (((BZ.set 0 _).set 1 _).set 2 _) (by simp),Lib.hid (HD1.out.tch ((((hTC.set (.inr ?_) _).set (.inr ?_) _).set (.inr ?_) _).set (.inr ?_) _) ((((hcC.span (Span.set2 (b:=wd.heap.size)) (by omega)).span (Span.set2 (b:=wd.heap.size)) (by omega)).span (Span.set2 (b:=wd.heap.size)) (by omega)).span (Span.set2 (b:=wd.heap.size)) (by omega)))⟩
            all_goals (show wd.heap.size≤wd.heap.size;omega)
        case rest=>
         obtain⟨F,ia,op,nn,rfl,hia,hop,hnn,hF,BF,HD2⟩:=hcut
         have hcx:=HD2.out.cu
         clear HD1 HNR hcd
         go_wp2_with fail
         refine(l01Once_any b 2 _ hcx (by omega)).mono ?_
         rintro e we ⟨gb,rfl,hce,spe⟩
         have BFe:=BF.span spe (.inr (by omega))
         have HD3:=Lib.hid (HD2.out.span spe hce)
         have ze:=spe.size
         clear BF HD2 spe hcx
         cases gb
         · have HFL:Hid (FltG L [⟨sAt qNm ia,op,⟨#[]⟩,nn⟩]):=Lib.hid (.inr ⟨ia,op,⟨#[]⟩,nn,rfl,hia,hop,.inl ⟨rfl,hnn⟩⟩)
           have hBz:=HD3.out.Q.lt
           have FQ:=HD3.out.Q.facts
           have FF:=BFe.facts
           have FR2:=HD3.out.R.facts
           go_wp2_with(at_builtin;refine wpList_append_rd rfl _ _ 29 rfl (we).heap.size 187 f0 (.agg #[.string ⟨#[]⟩,.int .i64 0,.string ⟨#[]⟩,.int .i64 0]) 4 48 Tryz.underlying29 hf hf0 hf1 hf2 rfl (by decide) (.slice none 0 0) 0 [] rfl (World.ownsRow_nil _ _ _ _) _ 1 [.string (sAt qNm ia),.int .i64 op,.string ⟨#[]⟩,.int .i64 nn] rfl (RdS.new (by first|rfl|(simp;done)) rfl) (by simp[Value.oneCell']) (by unfold maxLen;omega) (by omega) (by exact Qz) ?_;intro a6 c6 w6 hown hgrow hat;have hf6:=Fr.grown (Fr.refl _) hgrow (fun k e=>by cases e);have HD6:=Lib.hid ((HD3.out.fr ((Fr.refl _).alloc _)).fr hf6);have FQ6:=HD6.out.Q.facts;have FR6:=HD6.out.R.facts;have z6:=hf6.size;(try simp only[World.size_alloc,World.size_setCell]at z6);clear FQ FF FR2 hgrow hat hf6)
           obtain⟨W,hW,e1,e2,e3,e4,e5⟩:=(HD6.out.setq 3 (.slice a6 (0+1) c6)).fin (.bool e0) (.slice oo O.length oc) (.slice aa xs.length ca) (.slice a6 (0+1) c6)
           refine bodyPost_ret (v:= .agg #[.bool e0,.slice oo O.length oc,.slice aa xs.length ca,.slice a6 (0+1) c6]) (by simp[results,Tryz.results131,go_sem, *]) rfl ⟨⟨e0,O.map (sAt qNm),xs,[⟨sAt qNm ia,op,⟨#[]⟩,nn⟩]⟩,_,rfl,QryG.mk' ⟨by omega,by omega⟩ HX.out (HNX.out▸HL.out) HO.out HFL.out,?_,?_,?_⟩
           · rw[← hW]
             exact fun w'' hab=>⟨_,_,_,rfl,(e4 w'' hab).1,(e4 w'' hab).2,e5 (by omega) (owns_set hown (p:=⟨B,3,none⟩) (by show B<we.heap.size;omega) _) w'' hab⟩
           · rw[← hW];exact e1
           · rw[← hW];exact e2
         · go_wp2_with fail
           refine(l01Below_any b (NL.length:Int) _ hce (by omega)).mono ?_
           rintro e wf ⟨xf,hxf,_,rfl,hcf,spf⟩
           have hxf:=hxf (by omega)
           have BFf:=BFe.span spf (.inr (by omega))
           have HD4:=Lib.hid (HD3.out.span spf hcf)
           have zf:=spf.size
           obtain⟨jf,hjf,hjfL⟩:=HL.out.at_ (show xf<NL.length by omega)
           obtain⟨_,b1,o1,c1,e1,_,_,e4⟩:=StrsR.one (StrsO.rd (show StrsO wf wo.heap.size (.slice (some ⟨bn,on,none⟩) NL.length cn) NL from HD4.out.n))
           cases e1
           obtain⟨e5,_,e6⟩:=e4 (by omega)
           cases e5
           have cf:=e6 xf (by omega)
           rw[hjf]at cf
           have FF:=BFf.facts
           have hBz:=HD4.out.Q.lt
           have FQ:=HD4.out.Q.facts
           have FR2:=HD4.out.R.facts
           clear e4 e6 hjf HD3 BFe spf
           have HFL:Hid (FltG L [⟨sAt qNm ia,op,sAt qNm jf,0⟩]):=Lib.hid (.inr ⟨ia,op,sAt qNm jf,0,rfl,hia,hop,.inr ⟨jf,hjfL,rfl,rfl⟩⟩)
           go_wp2_with(at_builtin;refine wpList_append_rd rfl _ _ 29 rfl (wf).heap.size 187 f0 (.agg #[.string ⟨#[]⟩,.int .i64 0,.string ⟨#[]⟩,.int .i64 0]) 4 48 Tryz.underlying29 hf hf0 hf1 hf2 rfl (by decide) (.slice none 0 0) 0 [] rfl (World.ownsRow_nil _ _ _ _) _ 1 [.string (sAt qNm ia),.int .i64 op,.string (sAt qNm jf),.int .i64 0] rfl (RdS.new (by first|rfl|(simp;done)) rfl) (by simp[Value.oneCell']) (by unfold maxLen;omega) (by omega) (by exact Qz) ?_;intro a6 c6 w6 hown hgrow hat;have hf6:=Fr.grown (Fr.refl _) hgrow (fun k e=>by cases e);have HD6:=Lib.hid ((((HD4.out.off (F:=F) (by omega) 2 _).off (F:=F) (by omega) 3 _).fr ((Fr.refl _).alloc _)).fr hf6);have FQ6:=HD6.out.Q.facts;have FR6:=HD6.out.R.facts;have z6:=hf6.size;(try simp only[World.size_alloc,World.size_setCell]at z6);clear FQ FF FR2 hgrow hat hf6)
           obtain⟨W,hW,e1,e2,e3,e4,e5⟩:=(HD6.out.setq 3 (.slice a6 (0+1) c6)).fin (.bool e0) (.slice oo O.length oc) (.slice aa xs.length ca) (.slice a6 (0+1) c6)
           refine bodyPost_ret (v:= .agg #[.bool e0,.slice oo O.length oc,.slice aa xs.length ca,.slice a6 (0+1) c6]) (by simp[results,Tryz.results131,go_sem, *]) rfl ⟨⟨e0,O.map (sAt qNm),xs,[⟨sAt qNm ia,op,sAt qNm jf,0⟩]⟩,_,rfl,QryG.mk' ⟨by omega,by omega⟩ HX.out (HNX.out▸HL.out) HO.out HFL.out,?_,?_,?_⟩
           · rw[← hW]
             exact fun w'' hab=>⟨_,_,_,rfl,(e4 w'' hab).1,(e4 w'' hab).2,e5 (by omega) (owns_set hown (p:=⟨B,3,none⟩) (by show B<wf.heap.size;omega) _) w'' hab⟩
           · rw[← hW];exact e1
           · rw[← hW];exact e2
end Go.Proofs.YtjnahjgncmcmdaaGreat
