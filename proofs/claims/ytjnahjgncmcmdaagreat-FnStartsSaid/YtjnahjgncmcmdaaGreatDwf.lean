/- Drawn graphs, queries, workers (spec.DrawStartWalks). No condition but the reading of the draw. -/
import Derived.Test.YtjnahjgncmcmdaaGreatDwb
namespace Go.Proofs.YtjnahjgncmcmdaaGreat
open Go.RowKit
set_option linter.unusedVariables false
set_option linter.unusedSimpArgs false
set_option maxHeartbeats 4000000 in
set_option maxRecDepth 100000 in
theorem DrawStartWalks_any (ao:Option Addr) (n cap:Nat) (w:World) (hy:ByR w w.heap.size ao n cap):
  Calls Tryz.prog 18 #[.slice ao n cap] w fun e w'=> ∃ g q gv qv,∃ k m:Int,e= .returned (.tuple #[gv,qv,.int .i64 k,.int .i64 m])∧q.bulk≤5000∧PairG w' w.heap.size g q gv qv∧Fr w w':=by
 have HY:=Lib.hid hy
 clear hy
 go_enter Tryz.func18,Tryz.ntmps18
 go_wp2_with fail
 refine(l01New_any ao n cap _ (HY.out.here (by exact Qf))).mono ?_
 rintro e w1 ⟨b,rfl,hb,hc1,hf1⟩
 (try simp only[World.size_alloc]at hb)
 have BG1:Box w1 w.heap.size #[.int .i64 0,.slice none 0 0] 26:=Box.fr (Box.alloc (Box.new _ _ _) _) hf1
 have BZ1:Box w1 (w.heap.size+1) #[.bool false,.slice none 0 0,.slice none 0 0,.slice none 0 0] 31:=Box.fr (Box.new' (by simp)) hf1
 have hfw1:Fr w w1:=by exact Qf
 have hcl:=hc1.lt
 go_wp2_with fail
 refine(l01Place_any b 3 _ hc1 (by omega) (by omega)).mono ?_
 rintro e w2 ⟨k,rfl,hc2,sp2⟩
 have BG2:=BG1.span sp2 (.inl (by omega))
 have BZ2:=BZ1.span sp2 (.inl (by omega))
 have hfw2:Fr w w2:=sp2.fr hfw1 (by omega)
 have z2:=sp2.size
 go_wp2_with fail
 refine(l01Place_any b 4 _ hc2 (by omega) (by omega)).mono ?_
 rintro e w3 ⟨m,rfl,hc3,sp3⟩
 have BG3:=BG2.span sp3 (.inl (by omega))
 have BZ3:=BZ2.span sp3 (.inl (by omega))
 have hfw3:Fr w w3:=sp3.fr hfw2 (by omega)
 have z3:=sp3.size
 clear BG1 BZ1 BG2 BZ2 hc1 hc2
 go_wp2_with fail
 refine(l09Any_any b _ hc3).mono ?_
 rintro e w4 ⟨g,q,gv,qv,rfl,hqb,hgl,hp,hc4,sp4⟩
 obtain⟨ae,ce,ao',co,ax,cx,af,cf,rfl,rfl⟩:=hp.val
 have HP:=Lib.hid hp
 have z4:=sp4.size
 have BG4:=BG3.span sp4 (.inl (by omega))
 have BZ4:=BZ3.span sp4 (.inl (by omega))
 have hfw4:Fr w w4:=sp4.fr hfw3 (by omega)
 clear hp BG3 BZ3
 obtain⟨U,hU⟩: ∃ U,U=((w4.alloc (.cells #[.int .i64 g.f0,.slice ae g.f1.length ce] 26)).alloc (.cells #[.bool q.f0,.slice ao' q.f1.length co,.slice ax q.f2.length cx,.slice af q.f3.length cf] 31)):=⟨_,rfl⟩
 obtain⟨H,hH⟩: ∃ H,w4.heap.size=H:=⟨_,rfl⟩
 have BL:Box U H #[.int .i64 g.f0,.slice ae g.f1.length ce] 26:=by rw[hU, ← hH];exact Box.alloc (Box.new _ _ _) _
 have BQ:Box U (H+1) #[.bool q.f0,.slice ao' q.f1.length co,.slice ax q.f2.length cx,.slice af q.f3.length cf] 31:=by rw[hU, ← hH];exact Box.new' (by simp)
 have hfU:Fr w4 U:=by rw[hU];repeat(first|(with_reducible exact Fr.refl _)|(with_reducible assumption)|(with_reducible refine Fr.drewN ?_ _)|(with_reducible refine Fr.drew ?_)|(with_reducible refine Fr.alloc ?_ _)|(with_reducible refine Fr.setCell ?_ (by exact Qz) _)|(with_reducible refine Fr.trans ?_ (by with_reducible assumption)))
 have hG3:=BG4.fr hfU
 have hZ3:=BZ4.fr hfU
 have FL:=BL.facts
 have FQ:=BQ.facts
 have zw:w.heap.size+2≤H∧w.heap.size+2≤w3.heap.size:=by have:=hZ3.lt;have:=BZ4.lt;omega
 obtain⟨W,hW,h1,h2,h3,h4,h5,h6,h7⟩:=pair_sets (w:=w) (w3:=U) (.int .i64 g.f0) (.slice ae g.f1.length ce) (.bool q.f0) (.slice ao' q.f1.length co) (.slice ax q.f2.length cx) (.slice af q.f3.length cf) hG3 hZ3
 have F6:=h6.facts
 have F7:=h7.facts
 have hfWU:=h4 (hfw4.trans hfU)
 go_wp2_with fail
 (try rw[← hU])
 (try rw[hH])
 clear hU BG4 BZ4
 have FG3:=hG3.facts;have FZ3:=hZ3.facts
 go_region_law fail
 all_goals
  (try rw[← hW])
  clear hW FG3 FZ3
  go_wp2_with fail
  refine bodyPost_ret (v:= .tuple #[.agg #[.int .i64 g.f0,.slice ae g.f1.length ce],.agg #[.bool q.f0,.slice ao' q.f1.length co,.slice ax q.f2.length cx,.slice af q.f3.length cf],.int .i64 k,.int .i64 m]) (by simp[results,Tryz.results18,go_sem, *]) rfl ⟨g,q,_,_,k,m,rfl,hqb,fun w'' hab=>HP.out w'' (((Ab.of_fr hfU).trans (h1.mono' (by omega))).trans (hab.mono' (by omega))),by first|exact hfWU|exact hfWU.drew⟩
end Go.Proofs.YtjnahjgncmcmdaaGreat
