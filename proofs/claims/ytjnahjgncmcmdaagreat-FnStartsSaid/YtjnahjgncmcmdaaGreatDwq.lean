/- Drawn graphs with drawn queries (spec.l09Pair, DrawCase). No condition but the reading of the cursor. -/
import Derived.Test.YtjnahjgncmcmdaaGreatDrw
import Derived.Test.YtjnahjgncmcmdaaGreatGDrg
import Derived.Deep.RegionHeld3
import Derived.Deep.RegionLaw
import Derived.BigRegion
namespace Go.Proofs.YtjnahjgncmcmdaaGreat
open Go.RowKit
set_option linter.unusedVariables false
set_option linter.unusedSimpArgs false
/-- Values that read as a graph and a query as long as nothing from block lo on turns. -/
def PairG (w:World) (lo:Nat) (g:GraphD) (q:QueryD) (gv qv:Value):Prop:= ∀ w',Ab lo w w'→GraphRd w' gv g∧QueryRd w' qv q
theorem PairG.val {w:World} {lo:Nat} {g:GraphD} {q:QueryD} {gv qv:Value} (h:PairG w lo g q gv qv): ∃ ae ce ao co ax cx af cf,gv= .agg #[.int .i64 g.f0,.slice ae g.f1.length ce]∧qv= .agg #[.bool q.f0,.slice ao q.f1.length co,.slice ax q.f2.length cx,.slice af q.f3.length cf]:=by
 obtain⟨⟨u,hu,he⟩,u1,u2,u3,hq,r1,r2,r3⟩:=h w (Ab.refl _ _)
 obtain⟨ae,ce,rfl,_⟩:=RdS.val he
 obtain⟨ao,co,rfl,_⟩:=RdS.val r1
 obtain⟨ax,cx,rfl,_⟩:=RdS.val r2
 obtain⟨af,cf,rfl,_⟩:=RdS.val r3
 exact⟨ae,ce,ao,co,ax,cx,af,cf,hu,hq⟩
theorem PairG.ab {w w':World} {lo:Nat} {g:GraphD} {q:QueryD} {gv qv:Value} (h:PairG w lo g q gv qv) (k:Ab lo w w'):PairG w' lo g q gv qv:=fun w'' h2=>h w'' (k.trans h2)
theorem Ab.of_sp {lo b:Nat} {w w':World} (s:Span b (b+1) w w') (h:b<lo):Ab lo w w':=⟨s.size,fun k hk hs=>s.block k hs (.inr (by omega))⟩
theorem Ab.set1 {lo b i:Nat} {w:World} (h:b<lo) (v:Value):Ab lo w (w.setCell ⟨b,i,none⟩ v):=(Ab.refl lo w).setCell h v
/-- The results laid into their boxes. -/
theorem pair_sets {w w3:World} {T S:TypeId} {a0 a1 b0 b1 b2 b3:Value} (u0 u1 v0 v1 v2 v3:Value) (hG:Box w3 w.heap.size #[a0,a1] T) (hZ:Box w3 (w.heap.size+1) #[b0,b1,b2,b3] S): ∃ W,W=((((((w3.setCell ⟨w.heap.size,0,none⟩ u0).setCell ⟨w.heap.size,1,none⟩ u1).setCell ⟨w.heap.size+1,0,none⟩ v0).setCell ⟨w.heap.size+1,1,none⟩ v1).setCell ⟨w.heap.size+1,2,none⟩ v2).setCell ⟨w.heap.size+1,3,none⟩ v3)∧Ab (w.heap.size+2) w3 W∧(∀ b,b<w.heap.size→Cu w3 b→Cu W b)∧(∀ b,Span b (b+1) w w3→Span b (b+1) w W)∧(Fr w w3→Fr w W)∧W.heap.size=w3.heap.size∧Box W w.heap.size #[u0,u1] T∧Box W (w.heap.size+1) #[v0,v1,v2,v3] S:=by
 refine⟨_,rfl,?_,fun b hb hc=>?_,fun b hs=>?_,fun hf=>?_,by simp,?_,?_⟩
 · exact((((((Ab.refl (w.heap.size+2) w3).setCell (p:=⟨w.heap.size,0,none⟩) (by show w.heap.size<_;omega) _).setCell (p:=⟨w.heap.size,1,none⟩) (by show w.heap.size<_;omega) _).setCell (p:=⟨w.heap.size+1,0,none⟩) (by show w.heap.size+1<_;omega) _).setCell (p:=⟨w.heap.size+1,1,none⟩) (by show w.heap.size+1<_;omega) _).setCell (p:=⟨w.heap.size+1,2,none⟩) (by show w.heap.size+1<_;omega) _).setCell (p:=⟨w.heap.size+1,3,none⟩) (by show w.heap.size+1<_;omega) _
 · exact(((((hc.span (Span.set2 (b:=w.heap.size)) hb).span (Span.set2 (b:=w.heap.size)) hb).span (Span.set2 (b:=w.heap.size+1)) (by omega)).span (Span.set2 (b:=w.heap.size+1)) (by omega)).span (Span.set2 (b:=w.heap.size+1)) (by omega)).span (Span.set2 (b:=w.heap.size+1)) (by omega)
 · exact(((((hs.setn (by omega)).setn (by omega)).setn (by omega)).setn (by omega)).setn (by omega)).setn (by omega)
 · exact(((((hf.setCell (p:=⟨w.heap.size,0,none⟩) (Nat.le_refl _) _).setCell (p:=⟨w.heap.size,1,none⟩) (Nat.le_refl _) _).setCell (p:=⟨w.heap.size+1,0,none⟩) (Nat.le_succ _) _).setCell (p:=⟨w.heap.size+1,1,none⟩) (Nat.le_succ _) _).setCell (p:=⟨w.heap.size+1,2,none⟩) (Nat.le_succ _) _).setCell (p:=⟨w.heap.size+1,3,none⟩) (Nat.le_succ _) _
 · exact(((((hG.set 0 u0).set_to (i:=1) (v:=u1) (X:= #[u0,u1]) (by simp)).far' (by omega) _).far' (by omega) _).far' (by omega) _).far' (by omega) _
 · exact((((hZ.far' (by omega) _).far' (by omega) _).set 0 v0).set 1 v1).set 2 v2 |>.set_to (i:=3) (by simp)
set_option maxHeartbeats 4000000 in
set_option maxRecDepth 100000 in
theorem l09Pair_any (b:Nat) (w:World) (hc:Cu w b):
  Calls Tryz.prog 57 #[.pointer (some ⟨b,0,none⟩)] w fun e w'=> ∃ g q gv qv,e= .returned (.tuple #[gv,qv])∧graphB g=true∧2≤g.f0∧QryG q∧PairG w' w.heap.size g q gv qv∧Cu w' b∧Span b (b+1) w w':=by
 have hbl:=hc.lt
 go_enter Tryz.func57,Tryz.ntmps57
 go_wp2_with fail
 refine(l08Query_any b _ (hc.fr (by exact Qf))).mono ?_
 rintro e w1 ⟨q,v,rfl,hq,hrd,hc1,sp1⟩
 obtain⟨u1,u2,u3,rfl,r1,r2,r3⟩:=hrd w1 (Ab.refl _ _)
 obtain⟨ao,co,rfl,_⟩:=RdS.val r1
 obtain⟨ax,cx,rfl,_⟩:=RdS.val r2
 obtain⟨af,cf,rfl,_⟩:=RdS.val r3
 clear r1 r2 r3
 have z1:=sp1.size;(try simp only[World.size_alloc]at z1)
 have BG1:Box w1 w.heap.size #[.int .i64 0,.slice none 0 0] 26:=Box.span (Box.alloc (Box.new _ _ _) _) sp1 (.inr (by omega))
 have BZ1:Box w1 (w.heap.size+1) #[.bool false,.slice none 0 0,.slice none 0 0,.slice none 0 0] 31:=Box.span (Box.new' (by simp)) sp1 (.inr (by omega))
 have HRD:=Lib.hid hrd
 have HQ:=Lib.hid hq
 have hsp1:Span b (b+1) w w1:=(((Span.refl b (b+1) w).alloc' _).alloc' _).trans sp1
 clear hrd hq sp1
 have hbw1:w.heap.size+2≤w1.heap.size:=by omega
 have R1:Box (w1.alloc (.cells #[.bool q.f0,.slice ao q.f1.length co,.slice ax q.f2.length cx,.slice af q.f3.length cf] 31)) w1.heap.size #[.bool q.f0,.slice ao q.f1.length co,.slice ax q.f2.length cx,.slice af q.f3.length cf] 31:=Box.new _ _ _
 have BG2:=BG1.alloc (.cells #[.bool q.f0,.slice ao q.f1.length co,.slice ax q.f2.length cx,.slice af q.f3.length cf] 31)
 have BZ2:=BZ1.alloc (.cells #[.bool q.f0,.slice ao q.f1.length co,.slice ax q.f2.length cx,.slice af q.f3.length cf] 31)
 have hc2:=hc1.fr ((Fr.refl w1).alloc (.cells #[.bool q.f0,.slice ao q.f1.length co,.slice ax q.f2.length cx,.slice af q.f3.length cf] 31))
 have hsp2:=hsp1.alloc' (.cells #[.bool q.f0,.slice ao q.f1.length co,.slice ax q.f2.length cx,.slice af q.f3.length cf] 31)
 have hab2:=(Ab.refl (w.heap.size+2) w1).alloc (.cells #[.bool q.f0,.slice ao q.f1.length co,.slice ax q.f2.length cx,.slice af q.f3.length cf] 31)
 have z2:w1.heap.size<(w1.alloc (.cells #[.bool q.f0,.slice ao q.f1.length co,.slice ax q.f2.length cx,.slice af q.f3.length cf] 31)).heap.size:=by simp
 obtain⟨H,hH⟩: ∃ H,w1.heap.size=H:=⟨_,rfl⟩
 rw[hH]at R1 z2 hbw1
 go_wp2_with fail
 (try rw[hH])
 generalize w1.alloc (.cells #[.bool q.f0,.slice ao q.f1.length co,.slice ax q.f2.length cx,.slice af q.f3.length cf] 31)=w2 at R1 BG2 BZ2 hc2 hsp2 hab2 z2 ⊢
 clear BG1 BZ1 hc1 hsp1
 have FQ:=R1.facts
 have FG:=BG2.facts
 have FZ:=BZ2.facts
 go_region_law(go_simp;go_at_call 132;refine(l04Graph_any b _ (hc2.fr (by exact Qf))).mono ?_;rintro e w3 ⟨n,es,ae,ce,hn2,hn5,hgr,rfl,hes,hc3,sp3⟩;have hs3:Span b (b+1) w2 w3:=(Span.of_fr (show Fr w2 _ by exact Qf)).trans sp3;have kH:=sp3.blk H (by exact Qz) (.inr (by omega));have kG:=sp3.blk w.heap.size (by exact Qz) (.inr (by omega));have kZ:=sp3.blk (w.heap.size+1) (by exact Qz) (.inr (by omega)))
 all_goals
  have zd:w2.drew.heap.size=w2.heap.size:=rfl
  have hG3:=BG2.span hs3 (.inr (by omega))
  have hZ3:=BZ2.span hs3 (.inr (by omega))
  obtain⟨W,hW,h1,h2,h3,h4,h5,h6,h7⟩:=pair_sets (w:=w) (w3:=w3) (.int .i64 n) (.slice ae es.length ce) (.bool q.f0) (.slice ao q.f1.length co) (.slice ax q.f2.length cx) (.slice af q.f3.length cf) hG3 hZ3
  have F6:=h6.facts
  have F7:=h7.facts
  have hab3:=Ab.of_sp hs3 (lo:=w.heap.size+2) (by omega)
  have hE:=hes.ab (h1.mono' (by omega))
  clear kH kG kZ FQ FG FZ
  clear zd
  rw[← hW]
  clear hW
  go_wp2_with fail
  refine bodyPost_ret (v:= .tuple #[.agg #[.int .i64 n,.slice ae es.length ce],.agg #[.bool q.f0,.slice ao q.f1.length co,.slice ax q.f2.length cx,.slice af q.f3.length cf]]) (by simp[results,Tryz.results57,go_sem, *]) rfl ⟨⟨n,es⟩,q,_,_,rfl,hgr,hn2,HQ.out,?_,h2 b hbl hc3,h3 b (hsp2.trans hs3)⟩
  refine fun w'' hab=>⟨⟨_,rfl,(hE.ab (hab.mono' (by simp;omega))).rd⟩,HRD.out w'' (((hab2.trans hab3).trans h1).trans (hab.mono' (by omega)) |>.mono' (by simp))⟩
set_option maxHeartbeats 4000000 in
set_option maxRecDepth 100000 in
theorem DrawCase_any (ao:Option Addr) (n cap:Nat) (w:World) (hy:ByR w w.heap.size ao n cap):
  Calls Tryz.prog 10 #[.slice ao n cap] w fun e w'=> ∃ g q gv qv,e= .returned (.tuple #[gv,qv])∧graphB g=true∧2≤g.f0∧QryG q∧PairG w' w.heap.size g q gv qv∧Fr w w':=by
 have HY:=Lib.hid hy
 clear hy
 go_enter Tryz.func10,Tryz.ntmps10
 go_wp2_with fail
 refine(l01New_any ao n cap _ (HY.out.here (by exact Qf))).mono ?_
 rintro e w1 ⟨b,rfl,hb,hc1,hf1⟩
 (try simp only[World.size_alloc]at hb)
 have BG1:Box w1 w.heap.size #[.int .i64 0,.slice none 0 0] 26:=Box.fr (Box.alloc (Box.new _ _ _) _) hf1
 have BZ1:Box w1 (w.heap.size+1) #[.bool false,.slice none 0 0,.slice none 0 0,.slice none 0 0] 31:=Box.fr (Box.new' (by simp)) hf1
 have hfw1:Fr w w1:=by exact Qf
 have hcl:=hc1.lt
 go_wp2_with fail
 refine(l09Pair_any b _ hc1).mono ?_
 rintro e w2 ⟨g,q,gv,qv,rfl,hg,hg2,hq,hp,hc2,sp2⟩
 obtain⟨ae,ce,ao',co,ax,cx,af,cf,rfl,rfl⟩:=hp.val
 have HQ:=Lib.hid hq;have HP:=Lib.hid hp;have HG:=Lib.hid hg
 have hG2:=BG1.span sp2 (.inl (by omega))
 have hZ2:=BZ1.span sp2 (.inl (by omega))
 have hfw2:Fr w w2:=sp2.fr hfw1 (by omega)
 have FG:=hG2.facts
 have FZ:=hZ2.facts
 clear hq hp hg BG1 BZ1
 obtain⟨W,hW,h1,h2,h3,h4,h5,h6,h7⟩:=pair_sets (w:=w) (w3:=w2) (.int .i64 g.f0) (.slice ae g.f1.length ce) (.bool q.f0) (.slice ao' q.f1.length co) (.slice ax q.f2.length cx) (.slice af q.f3.length cf) hG2 hZ2
 go_wp2_with fail
 refine bodyPost_ret (v:= .tuple #[.agg #[.int .i64 g.f0,.slice ae g.f1.length ce],.agg #[.bool q.f0,.slice ao' q.f1.length co,.slice ax q.f2.length cx,.slice af q.f3.length cf]]) (by simp[results,Tryz.results10,go_sem, *]) rfl ⟨g,q,_,_,rfl,HG.out,hg2,HQ.out,?_,?_⟩
 · rw[← hW]
   have hz:=hfw1.size
   exact fun w'' hab=>HP.out w'' ((h1.mono' (by omega)).trans (hab.mono' (by omega)))
 · rw[← hW];exact h4 hfw2
end Go.Proofs.YtjnahjgncmcmdaaGreat
