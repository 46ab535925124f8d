/- Drawn graphs with drawn queries, right or not (spec.l09Any, DrawStartWalks). No condition but the reading of the cursor. -/
import Derived.Test.YtjnahjgncmcmdaaGreatDwa
import Derived.Test.YtjnahjgncmcmdaaGreatGDrg
namespace Go.Proofs.YtjnahjgncmcmdaaGreat
open Go.RowKit
set_option linter.unusedVariables false
set_option linter.unusedSimpArgs false
theorem PairG.of {w w':World} {lo lo1 lo2:Nat} {g g2:GraphD} {q q2:QueryD} {gv qv gv2 qv2:Value} (h:PairG w lo1 g q2 gv qv2) (k:PairG w' lo2 g2 q gv2 qv) {W:World} (h1:Ab lo1 w W) (k1:Ab lo2 w' W) (hl:lo≤lo1) (kl:lo≤lo2):PairG W lo g q gv qv:=
 fun w'' hab=>⟨(h w'' (h1.trans (hab.mono' hl))).1,(k w'' (k1.trans (hab.mono' kl))).2⟩
theorem Ab.setHi {lo q i:Nat} {a w:World} (h:Ab lo a w) (hp:a.heap.size≤q) (u:Value):Ab lo a (w.setCell ⟨q,i,none⟩ u):=⟨by simpa using h.1,fun k hk hs=>(heap_setCell_other w ⟨q,i,none⟩ k u (by show k≠q;omega)).trans (h.2 k hk hs)⟩
theorem QueryRd.val {w:World} {v:Value} {q:QueryD} (h:QueryRd w v q): ∃ ao co ax cx af cf,v= .agg #[.bool q.f0,.slice ao q.f1.length co,.slice ax q.f2.length cx,.slice af q.f3.length cf]:=by
 obtain⟨u1,u2,u3,hq,r1,r2,r3⟩:=h
 obtain⟨ao,co,rfl,_⟩:=RdS.val r1
 obtain⟨ax,cx,rfl,_⟩:=RdS.val r2
 obtain⟨af,cf,rfl,_⟩:=RdS.val r3
 exact⟨ao,co,ax,cx,af,cf,hq⟩
set_option maxHeartbeats 8000000 in
set_option maxRecDepth 100000 in
theorem l09Any_any (b:Nat) (w:World) (hc:Cu w b):
  Calls Tryz.prog 75 #[.pointer (some ⟨b,0,none⟩)] w fun e w'=> ∃ g q gv qv,e= .returned (.tuple #[gv,qv])∧q.bulk≤5000∧g.f1.length≤50∧PairG w' w.heap.size g q gv qv∧Cu w' b∧Span b (b+1) w w':=by
 have hbl:=hc.lt
 go_enter Tryz.func75,Tryz.ntmps75
 go_wp2_with fail
 refine(l01Below_any b 8 _ (hc.fr (by exact Qf)) (by omega)).mono ?_
 rintro e w1 ⟨k,hk,_,rfl,hc1,sp1⟩
 have z1:=sp1.size;(try simp only[World.size_alloc]at z1)
 have BG1:Box w1 w.heap.size #[.int .i64 0,.slice none 0 0] 26:=Box.span (Box.alloc (Box.new _ _ _) _) sp1 (.inr (by omega))
 have BZ1:Box w1 (w.heap.size+1) #[.bool false,.slice none 0 0,.slice none 0 0,.slice none 0 0] 31:=Box.span (Box.new' (by simp)) sp1 (.inr (by omega))
 have hsp1:Span b (b+1) w w1:=(((Span.refl b (b+1) w).alloc' _).alloc' _).trans sp1
 clear sp1
 go_wp2_with fail
 refine(l09Pair_any b _ hc1).mono ?_
 rintro e w2 ⟨g,q,gv,qv,rfl,hg,hg2,hq,hp,hc2,sp2⟩
 obtain⟨ae,ce,ao,co,ax,cx,af,cf,rfl,rfl⟩:=hp.val
 have z2:=sp2.size
 have BG2:=BG1.span sp2 (.inr (by omega))
 have BZ2:=BZ1.span sp2 (.inr (by omega))
 have hsp2:=hsp1.trans sp2
 have HP:=Lib.hid hp
 have hgl:g.f1.length≤50:=by have:=(graphB_out hg).2.1;omega
 have hqb:q.bulk≤5000:=by have:=hq.few;omega
 clear BG1 BZ1 hsp1 hc1 hp hg hq hg2 sp2
 obtain⟨U,hU⟩: ∃ U,U=((w2.alloc (.cells #[.int .i64 g.f0,.slice ae g.f1.length ce] 26)).alloc (.cells #[.bool q.f0,.slice ao q.f1.length co,.slice ax q.f2.length cx,.slice af q.f3.length cf] 31)):=⟨_,rfl⟩
 have BL:Box U w2.heap.size #[.int .i64 g.f0,.slice ae g.f1.length ce] 26:=by rw[hU];exact Box.alloc (Box.new _ _ _) _
 have BQ:Box U (w2.heap.size+1) #[.bool q.f0,.slice ao q.f1.length co,.slice ax q.f2.length cx,.slice af q.f3.length cf] 31:=by rw[hU];exact Box.new' (by simp)
 have hfU:Fr w2 U:=by rw[hU];repeat(first|(with_reducible exact Fr.refl _)|(with_reducible assumption)|(with_reducible refine Fr.drewN ?_ _)|(with_reducible refine Fr.drew ?_)|(with_reducible refine Fr.alloc ?_ _)|(with_reducible refine Fr.setCell ?_ (by exact Qz) _)|(with_reducible refine Fr.trans ?_ (by with_reducible assumption)))
 have zU:U.heap.size=w2.heap.size+1+1:=by rw[hU];simp
 have hcU:=hc2.fr hfU
 have BGU:=BG2.fr hfU
 have BZU:=BZ2.fr hfU
 have hspU:=hsp2.then_fr hfU
 obtain⟨H,hH⟩: ∃ H,w2.heap.size=H:=⟨_,rfl⟩
 have zw:w.heap.size+2≤H∧w1.heap.size≤H∧w.heap.size+2≤w1.heap.size:=by omega
 have zU1:H+2≤U.heap.size∧U.heap.size≤H+2:=by omega
 rw[hH]at BL BQ
 clear zU BG2 BZ2 hsp2 hc2
 have hcase:k=0∨k=1∨2≤k:=by omega
 rcases hcase with hk|hk|hk
 · subst hk
   go_wp2_with fail
   (try rw[← hU])
   (try rw[hH])
   clear hU
   refine(l04Any_any b _ hcU).mono ?_
   rintro e w3 ⟨g2,ae2,ce2,hgl2,rfl,ho2,hc3,sp3⟩
   have HO2:=Lib.hid ho2
   have z3:=sp3.size
   have BL3:=BL.span sp3 (.inr (by omega))
   have BQ3:=BQ.span sp3 (.inr (by omega))
   have BG3:=BGU.span sp3 (.inr (by omega))
   have BZ3:=BZU.span sp3 (.inr (by omega))
   have hsp3:=hspU.trans sp3
   obtain⟨V,hV⟩: ∃ V,V=((w3.setCell ⟨H,0,none⟩ (.int .i64 g2.f0)).setCell ⟨H,1,none⟩ (.slice ae2 g2.f1.length ce2)):=⟨_,rfl⟩
   have FL3:=BL3.facts
   have BLV:Box V H #[.int .i64 g2.f0,.slice ae2 g2.f1.length ce2] 26:=by rw[hV];exact Box.set_to (Y:= #[.int .i64 g2.f0,.slice ae g.f1.length ce]) (Box.set_to BL3 rfl) rfl
   have BQV:Box V (H+1) #[.bool q.f0,.slice ao q.f1.length co,.slice ax q.f2.length cx,.slice af q.f3.length cf] 31:=by rw[hV];exact(BQ3.far' (by omega) _).far' (by omega) _
   have hG3:Box V w.heap.size #[.int .i64 0,.slice none 0 0] 26:=by rw[hV];exact(BG3.far' (by omega) _).far' (by omega) _
   have hZ3:Box V (w.heap.size+1) #[.bool false,.slice none 0 0,.slice none 0 0,.slice none 0 0] 31:=by rw[hV];exact(BZ3.far' (by omega) _).far' (by omega) _
   have hcV:Cu V b:=by rw[hV];exact(hc3.span (Span.set2 (b:=H)) (by omega)).span (Span.set2 (b:=H)) (by omega)
   have hspV:Span b (b+1) w V:=by rw[hV];exact(hsp3.setn (by omega)).setn (by omega)
   have abq:Ab w1.heap.size w2 V:=by rw[hV];exact((((Ab.of_fr hfU).trans (Ab.of_sp sp3 (by omega))).setHi (by omega) _).setHi (by omega) _)
   have abg:Ab U.heap.size w3 V:=by rw[hV];exact((Ab.refl U.heap.size w3).setCell (p:=⟨H,0,none⟩) (by show H<_;omega) _).setCell (p:=⟨H,1,none⟩) (by show H<_;omega) _
   have FLV:=BLV.facts
   have FQV:=BQV.facts
   rw[hV]at FLV FQV
   clear BL3 BQ3 BG3 BZ3 hsp3 hc3
   go_wp2_with fail
   (try rw[← hV])
   rw[← hV]at FLV FQV
   clear hV FL3
   obtain⟨W,hW,h1,h2,h3,h4,h5,h6,h7⟩:=pair_sets (w:=w) (w3:=V) (.int .i64 g2.f0) (.slice ae2 g2.f1.length ce2) (.bool q.f0) (.slice ao q.f1.length co) (.slice ax q.f2.length cx) (.slice af q.f3.length cf) hG3 hZ3
   have F6:=h6.facts
   have F7:=h7.facts
   have FG3:=hG3.facts;have FZ3:=hZ3.facts
   go_region_law fail
   all_goals
    (try rw[← hW])
    clear hW FG3 FZ3
    go_wp2_with fail
    refine bodyPost_ret (v:= .tuple #[.agg #[.int .i64 g2.f0,.slice ae2 g2.f1.length ce2],.agg #[.bool q.f0,.slice ao q.f1.length co,.slice ax q.f2.length cx,.slice af q.f3.length cf]]) (by simp[results,Tryz.results75,go_sem, *]) rfl ⟨g2,q,_,_,rfl,hqb,hgl2,fun w'' hab=>⟨⟨_,rfl,RdS.of_owns (owns_ab HO2.out.1 ((abg.trans (h1.mono' (by omega))).trans (hab.mono' (by omega))))⟩,(HP.out w'' ((abq.trans (h1.mono' (by omega))).trans (hab.mono' (by omega)))).2⟩,h2 b hbl hcV,by first|exact h3 b hspV|exact(h3 b hspV).drew'⟩
 · subst hk
   go_wp2_with fail
   (try rw[← hU])
   (try rw[hH])
   clear hU
   refine(l08Any_any b _ hcU).mono ?_
   rintro e w3 ⟨q2,v2,rfl,hrd2,hqb2,hc3,sp3⟩
   obtain⟨ao2,co2,ax2,cx2,af2,cf2,rfl⟩:=(hrd2 w3 (Ab.refl _ _)).val
   have HO2:=Lib.hid hrd2
   have z3:=sp3.size
   have BL3:=BL.span sp3 (.inr (by omega))
   have BQ3:=BQ.span sp3 (.inr (by omega))
   have BG3:=BGU.span sp3 (.inr (by omega))
   have BZ3:=BZU.span sp3 (.inr (by omega))
   have hsp3:=hspU.trans sp3
   obtain⟨V,hV⟩: ∃ V,V=((((w3.setCell ⟨H+1,0,none⟩ (.bool q2.f0)).setCell ⟨H+1,1,none⟩ (.slice ao2 q2.f1.length co2)).setCell ⟨H+1,2,none⟩ (.slice ax2 q2.f2.length cx2)).setCell ⟨H+1,3,none⟩ (.slice af2 q2.f3.length cf2)):=⟨_,rfl⟩
   have FQ3:=BQ3.facts
   have BLV:Box V H #[.int .i64 g.f0,.slice ae g.f1.length ce] 26:=by rw[hV];exact(((BL3.far' (by omega) _).far' (by omega) _).far' (by omega) _).far' (by omega) _
   have BQV:Box V (H+1) #[.bool q2.f0,.slice ao2 q2.f1.length co2,.slice ax2 q2.f2.length cx2,.slice af2 q2.f3.length cf2] 31:=by rw[hV];exact Box.set_to (Box.set (Box.set (Box.set BQ3 0 _) 1 _) 2 _) (by simp)
   have hG3:Box V w.heap.size #[.int .i64 0,.slice none 0 0] 26:=by rw[hV];exact(((BG3.far' (by omega) _).far' (by omega) _).far' (by omega) _).far' (by omega) _
   have hZ3:Box V (w.heap.size+1) #[.bool false,.slice none 0 0,.slice none 0 0,.slice none 0 0] 31:=by rw[hV];exact(((BZ3.far' (by omega) _).far' (by omega) _).far' (by omega) _).far' (by omega) _
   have hcV:Cu V b:=by rw[hV];exact(((hc3.span (Span.set2 (b:=H+1)) (by omega)).span (Span.set2 (b:=H+1)) (by omega)).span (Span.set2 (b:=H+1)) (by omega)).span (Span.set2 (b:=H+1)) (by omega)
   have hspV:Span b (b+1) w V:=by rw[hV];exact(((hsp3.setn (by omega)).setn (by omega)).setn (by omega)).setn (by omega)
   have abq:Ab w1.heap.size w2 V:=by rw[hV];exact((((((Ab.of_fr hfU).trans (Ab.of_sp sp3 (by omega))).setHi (by omega) _).setHi (by omega) _).setHi (by omega) _).setHi (by omega) _)
   have abg:Ab U.heap.size w3 V:=by rw[hV];exact((((Ab.refl U.heap.size w3).setCell (p:=⟨H+1,0,none⟩) (by show H+1<_;omega) _).setCell (p:=⟨H+1,1,none⟩) (by show H+1<_;omega) _).setCell (p:=⟨H+1,2,none⟩) (by show H+1<_;omega) _).setCell (p:=⟨H+1,3,none⟩) (by show H+1<_;omega) _
   have FLV:=BLV.facts
   have FQV:=BQV.facts
   rw[hV]at FLV FQV
   clear BL3 BQ3 BG3 BZ3 hsp3 hc3
   go_wp2_with fail
   (try rw[← hV])
   rw[← hV]at FLV FQV
   clear hV FQ3
   obtain⟨W,hW,h1,h2,h3,h4,h5,h6,h7⟩:=pair_sets (w:=w) (w3:=V) (.int .i64 g.f0) (.slice ae g.f1.length ce) (.bool q2.f0) (.slice ao2 q2.f1.length co2) (.slice ax2 q2.f2.length cx2) (.slice af2 q2.f3.length cf2) hG3 hZ3
   have F6:=h6.facts
   have F7:=h7.facts
   have FG3:=hG3.facts;have FZ3:=hZ3.facts
   go_region_law fail
   all_goals
    (try rw[← hW])
    clear hW FG3 FZ3
    go_wp2_with fail
    refine bodyPost_ret (v:= .tuple #[.agg #[.int .i64 g.f0,.slice ae g.f1.length ce],.agg #[.bool q2.f0,.slice ao2 q2.f1.length co2,.slice ax2 q2.f2.length cx2,.slice af2 q2.f3.length cf2]]) (by simp[results,Tryz.results75,go_sem, *]) rfl ⟨g,q2,_,_,rfl,hqb2,hgl,fun w'' hab=>⟨(HP.out w'' ((abq.trans (h1.mono' (by omega))).trans (hab.mono' (by omega)))).1,HO2.out w'' ((abg.trans (h1.mono' (by omega))).trans (hab.mono' (by omega)))⟩,h2 b hbl hcV,by first|exact h3 b hspV|exact(h3 b hspV).drew'⟩
 · have e0: ¬ (k:Int)=0:=by omega
   have e1: ¬ (k:Int)=1:=by omega
   have FLU:=BL.facts
   have FQU:=BQ.facts
   have hG3:=BGU
   have hZ3:=BZU
   have hcV:=hcU
   have hspV:=hspU
   have abq:Ab w1.heap.size w2 U:=Ab.of_fr hfU
   go_wp2_with fail
   (try rw[← hU])
   (try rw[hH])
   clear hU
   obtain⟨W,hW,h1,h2,h3,h4,h5,h6,h7⟩:=pair_sets (w:=w) (w3:=U) (.int .i64 g.f0) (.slice ae g.f1.length ce) (.bool q.f0) (.slice ao q.f1.length co) (.slice ax q.f2.length cx) (.slice af q.f3.length cf) hG3 hZ3
   have F6:=h6.facts
   have F7:=h7.facts
   have FG3:=hG3.facts;have FZ3:=hZ3.facts
   go_region_law fail
   all_goals
    (try rw[← hW])
    clear hW FG3 FZ3
    go_wp2_with fail
    refine bodyPost_ret (v:= .tuple #[.agg #[.int .i64 g.f0,.slice ae g.f1.length ce],.agg #[.bool q.f0,.slice ao q.f1.length co,.slice ax q.f2.length cx,.slice af q.f3.length cf]]) (by simp[results,Tryz.results75,go_sem, *]) rfl ⟨g,q,_,_,rfl,hqb,hgl,fun w'' hab=>HP.out w'' ((abq.trans (h1.mono' (by omega))).trans (hab.mono' (by omega))),h2 b hbl hcV,by first|exact h3 b hspV|exact(h3 b hspV).drew'⟩
end Go.Proofs.YtjnahjgncmcmdaaGreat
