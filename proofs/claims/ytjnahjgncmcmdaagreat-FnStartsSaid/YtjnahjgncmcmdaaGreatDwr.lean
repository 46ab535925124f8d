/- Drawn queries, right or not (spec.l08Copy, l08Any, l09Any, DrawStartWalks). No condition but the reading of the cursor. -/
import Derived.Test.YtjnahjgncmcmdaaGreatDwq
import Derived.Test.YtjnahjgncmcmdaaGreatGSFilter
import Derived.Test.YtjnahjgncmcmdaaGreatGPrw
namespace Go.Proofs.YtjnahjgncmcmdaaGreat
open Go.RowKit
set_option linter.unusedVariables false
set_option linter.unusedSimpArgs false
theorem flt_cells (xs:List FilterR): ∀ u∈xs.flatMap FilterR.cells,u.oneCell'=true:=by
 intro u hu
 obtain⟨x,_,h⟩:=List.mem_flatMap.1 hu
 simp only[FilterR.cells,List.mem_cons,List.not_mem_nil,or_false]at h
 rcases h with rfl|rfl|rfl|rfl<;>rfl
/-- Rows of two kinds lie in two blocks. -/
theorem owns_apart {w:World} {lo lo':Nat} {e e':TypeId} {sz sz' n n':Nat} {v v':Value} {xs xs':List Value} (h:w.ownsRow lo e sz v n xs) (h':w.ownsRow lo' e' sz' v' n' xs') (he:e≠e'): ∀ g,v.ownBlock=some g→v'.ownBlock≠some g:=fun g h1 h2=>by
 obtain⟨_,⟨rfl,_⟩|⟨g1,c1,k1,rfl,_,b1,_⟩⟩:=h
 · cases h1
 · obtain⟨_,⟨rfl,_⟩|⟨g2,c2,k2,rfl,_,b2,_⟩⟩:=h'
   · cases h2
   · cases h1
     cases h2
     rw[b1]at b2
     exact he (by injection b2 with b3;injection b3)
/-- append onto an empty slice of no room: nothing is owned ahead of it. -/
theorem run_append_z {P:Program} (w:World) (t ty e:TypeId) (i:TypeInfo) (z:Value) (size bytes:Nat) (ht:P.underlying t=some (.slice e)) (hi:P.info? e=some i) (hz:i.zero=some z)
  (hsize:i.size=size) (hby:i.bytes=bytes) (hzs:z.cells.size=size) (a0:Addr)
  (vx:Value) (m:Nat) (news:List Value) (hr:RdS w size vx m news) (h63:m≤maxLen) (hbytes:m*bytes≤140737488355328):
  ∃ ao cap w',(Builtin.append_ #[t,t] ty #[.slice (some a0) 0 0,vx]).run P w= .ok (.slice ao m cap) w'∧(m=0∧cap=0∨w'.ownsRow w.heap.size e size (.slice ao m cap) m news)∧Fr w w':=by
 subst hsize
 subst hby
 obtain⟨hl,ao,c,rfl,hc1,hc2,hc3⟩:=hr
 rcases Nat.eq_zero_or_pos m with rfl|hm
 · refine⟨some a0,0,w,?_,.inl ⟨rfl,rfl⟩,Fr.refl w⟩
   cases ao<;>simp[Builtin.append_,run_underlying ht,sizeOf,typeInfo,hi,Builtin.lenOf,Builtin.firstCells,storeCells,loadCells,loadCellsFrom]
 · obtain⟨b,o,rfl,hb,hcell⟩:=hc3 hm
   have hr:=run_append_grow (P:=P) w t ty e i z ht hi hz a0 0 0 [] (by simp) (fun j u h=>by simp at h) ⟨b,o,none⟩ m c news hl (fun j u hj=>by rw[Addr.add_lit,hcell j (by rw[← hl];exact(List.getElem?_eq_some_iff.1 hj).1)];exact hj) (by omega) (by simp only[maxLen]at h63;omega) (growslice_fits (by omega) (by rw[Nat.zero_add];exact hbytes))
   have hge:=grownCap_ge w m 0 e
   have hcm:=grownCap_le_maxLen w m 0 e h63
   simp only[Nat.zero_add,Array.empty_append]at hr
   refine⟨_,_,_,hr,.inr ⟨hl,.inr ⟨w.heap.size,_,_,rfl,Nat.le_refl _,heap_alloc_new w.drew _,hge,hcm,?_,?_⟩⟩,?_⟩
   · simp only[Array.size_append,List.size_toArray,size_zeroCells,hzs,hl, ← Nat.add_mul]
     congr 1
     omega
   · rw[Array.toList_append, ← hl]
     exact List.take_left
   · exact((Fr.refl w).drew).alloc _
theorem step_append_z {P:Program} {w:World} {ops:Array Oper} {o:Oper} {a:Act} {K:Act→World→Prop} {Q:Exit→Act→World→Prop} {E:Prop} (hgd:o.guard=none) (s x:Operand) (t:TypeId)
  (ho:o.op= .call {callee:= .builtin .append,args:= #[s,x],argTypes:= #[t,t]})
  (e:TypeId) (i:TypeInfo) (z:Value) (size bytes:Nat) (ht:P.underlying t=some (.slice e)) (hi:P.info? e=some i) (hz:i.zero=some z)
  (hsize:i.size=size) (hby:i.bytes=bytes) (hzs:z.cells.size=size) (a0:Addr) (hs:a.eval s= .slice (some a0) 0 0)
  (vx:Value) (m:Nat) (news:List Value) (hx:a.eval x=vx) (hr:RdS w size vx m news) (h63:m≤maxLen) (hbytes:m*bytes≤140737488355328)
  (h: ∀ ao cap w',(m=0∧cap=0∨w'.ownsRow w.heap.size e size (.slice ao m cap) m news)→Fr w w'→K (a.put o.dst (.slice ao m cap)) w'):
  if Region.wanted o (yielded ops a.tmps)=true then Oper.wp P o a w K Q else E:=by
 have hw:Region.wanted o (yielded ops a.tmps)=true:=by simp[Region.wanted,hgd]
 rw[if_pos hw]
 obtain⟨ao,cap,w',hrun,h2,h3⟩:=run_append_z (P:=P) w t o.type e i z size bytes ht hi hz hsize hby hzs a0 vx m news hr h63 hbytes
 unfold Oper.wp execOp
 simp only[ho,resolve,invoke,builtin,Sem.run_bind,Sem.run_pure,Result.andThen_ok,List.map_toArray,List.map_cons,List.map_nil,hs,hx,hrun]
 exact h ao cap w' h2 h3
/-- A row of its own, or none. -/
def ZRow (w:World) (lo:Nat) (e:TypeId) (sz:Nat) (v:Value) (n:Nat) (xs:List Value):Prop:=(n=0∧ ∃ a,v= .slice a 0 0)∨w.ownsRow lo e sz v n xs
theorem ZRow.up {w0 w w':World} {b lo:Nat} {e:TypeId} {sz:Nat} {ao:Option Addr} {n cap:Nat} {xs:List Value} (h:n=0∧cap=0∨w.ownsRow lo e sz (.slice ao n cap) n xs) (t:Tch (fun j=>j=b) w w') (hb:b<lo) (h0:w0.heap.size≤lo):ZRow w' w0.heap.size e sz (.slice ao n cap) n xs:=h.imp (fun⟨h1,h2⟩=>⟨h1,ao,by rw[h1,h2]⟩) fun h=>t.owns (owns_lo h h0) fun g hg e=>by have:=(h.lt g hg).1;omega
/-- Nothing has turned but block b, a box of four. -/
structure Cz (a:World) (b:Nat) (w:World):Prop where
 t:Tch (fun j=>j=b) a w
 ex: ∃ X T,X.size=4∧Box w b X T
def czAt (w:World) (b i:Nat):Value:=(w.cell? ⟨b,i,none⟩).getD undef
theorem Cz.of {a:World} {b:Nat} {X:Array Value} {T:TypeId} (h:Box a b X T) (hX:X.size=4):Cz a b a:=⟨Tch.refl _ a,X,T,hX,h⟩
theorem Cz.fr {a w w':World} {b:Nat} (h:Cz a b w) (hf:Fr w w'):Cz a b w':=by
 obtain⟨h1,X,T,h2,h3⟩:=h
 exact⟨h1.fr hf,X,T,h2,h3.fr hf⟩
theorem Cz.alloc {a w:World} {b:Nat} (h:Cz a b w) (o:Obj):Cz a b (w.alloc o):=h.fr ((Fr.refl w).alloc o)
theorem Cz.drew {a w:World} {b:Nat} (h:Cz a b w):Cz a b w.drew:=h.fr (Fr.refl w).drew
theorem Cz.set {a w:World} {b:Nat} (h:Cz a b w) (i:Nat) (v:Value):Cz a b (w.setCell ⟨b,i,none⟩ v):=by
 obtain⟨h1,X,T,h2,h3⟩:=h
 exact⟨h1.set (p:=⟨b,i,none⟩) (.inl rfl) v,_,T,by simpa using h2,h3.set i v⟩
theorem Cz.cell {a w:World} {b:Nat} (h:Cz a b w):(w.cell? ⟨b,0,none⟩=some (czAt w b 0)∧w.cell? ⟨b,1,none⟩=some (czAt w b 1)∧w.cell? ⟨b,2,none⟩=some (czAt w b 2)∧w.cell? ⟨b,3,none⟩=some (czAt w b 3))∧(∀ o,w.frozen? ⟨b,o,none⟩=false)∧b<w.heap.size:=by
 obtain⟨h1,X,T,h2,h3⟩:=h
 have e: ∀ i,i<4→w.cell? ⟨b,i,none⟩=some (czAt w b i):=fun i hi=>by unfold czAt;rw[h3.cell i,Array.getElem?_eq_getElem (by omega)];rfl
 exact⟨⟨e 0 (by omega),e 1 (by omega),e 2 (by omega),e 3 (by omega)⟩,h3.frozen,h3.lt⟩
theorem Tch.four {a w:World} {b:Nat} (h:Tch (fun j=>j=b) a w) (v0 v1 v2 v3:Value):Tch (fun j=>j=b) a ((((w.setCell ⟨b,0,none⟩ v0).setCell ⟨b,1,none⟩ v1).setCell ⟨b,2,none⟩ v2).setCell ⟨b,3,none⟩ v3):=
 Tch.set (p:=⟨b,3,none⟩) (Tch.set (p:=⟨b,2,none⟩) (Tch.set (p:=⟨b,1,none⟩) (Tch.set (p:=⟨b,0,none⟩) h (.inl rfl) v0) (.inl rfl) v1) (.inl rfl) v2) (.inl rfl) v3
theorem Fr.four {a w:World} {b:Nat} (h:Fr a w) (hb:a.heap.size≤b) (v0 v1 v2 v3:Value):Fr a ((((w.setCell ⟨b,0,none⟩ v0).setCell ⟨b,1,none⟩ v1).setCell ⟨b,2,none⟩ v2).setCell ⟨b,3,none⟩ v3):=
 (((h.setCell (p:=⟨b,0,none⟩) hb v0).setCell (p:=⟨b,1,none⟩) hb v1).setCell (p:=⟨b,2,none⟩) hb v2).setCell (p:=⟨b,3,none⟩) hb v3
theorem Cz.full {a w:World} {b:Nat} (h:Cz a b w) (v0 v1 v2 v3:Value): ∃ T,Box ((((w.setCell ⟨b,0,none⟩ v0).setCell ⟨b,1,none⟩ v1).setCell ⟨b,2,none⟩ v2).setCell ⟨b,3,none⟩ v3) b #[v0,v1,v2,v3] T:=by
 obtain⟨h1,X,T,h2,h3⟩:=h
 refine⟨T,Box.set_to (((h3.set 0 v0).set 1 v1).set 2 v2) ?_⟩
 obtain⟨L⟩:=X
 match L,h2 with
 |[_,_,_,_],_=>rfl
set_option maxHeartbeats 8000000 in
set_option maxRecDepth 100000 in
theorem l08Copy_any (v:Value) (q:QueryD) (w:World) (hq:QueryRd w v q) (h1:q.f1.length≤1048576∧q.f2.length≤1048576∧q.f3.length≤1048576):
  Calls Tryz.prog 187 #[v] w fun e w'=> ∃ a1 c1 a2 c2 a3 c3,e= .returned (.agg #[.bool q.f0,.slice a1 q.f1.length c1,.slice a2 q.f2.length c2,.slice a3 q.f3.length c3])∧ZRow w' w.heap.size 9 1 (.slice a1 q.f1.length c1) q.f1.length (q.f1.map Value.string)∧ZRow w' w.heap.size 144 3 (.slice a2 q.f2.length c2) q.f2.length (q.f2.flatMap AtomR.cells)∧ZRow w' w.heap.size 187 4 (.slice a3 q.f3.length c3) q.f3.length (q.f3.flatMap FilterR.cells)∧Fr w w':=by
 obtain⟨i0,hi,hz0,hz1,hz2⟩:=info_parts info_Atom
 obtain⟨s0,hs,hs0,hs1,hs2⟩:=info_parts info_string
 obtain⟨f0,hf,hf0,hf1,hf2⟩:=info_parts info_Filter
 obtain⟨u1,u2,u3,rfl,r1,r2,r3⟩:=hq
 obtain⟨ao,co,rfl,_⟩:=RdS.val r1
 obtain⟨ax,cx,rfl,_⟩:=RdS.val r2
 obtain⟨af,cf,rfl,_⟩:=RdS.val r3
 have R1:=Lib.hid r1;have R2:=Lib.hid r2;have R3:=Lib.hid r3
 clear r1 r2 r3
 go_enter Tryz.func187,Tryz.ntmps187
 have B1:Box ((w.alloc (.cells #[.bool q.f0,.slice ao q.f1.length co,.slice ax q.f2.length cx,.slice af q.f3.length cf] 31)).alloc (.cells #[.bool false,.slice none 0 0,.slice none 0 0,.slice none 0 0] 31)) w.heap.size #[.bool q.f0,.slice ao q.f1.length co,.slice ax q.f2.length cx,.slice af q.f3.length cf] 31:=Box.alloc (Box.new _ _ _) _
 have B2:Box ((w.alloc (.cells #[.bool q.f0,.slice ao q.f1.length co,.slice ax q.f2.length cx,.slice af q.f3.length cf] 31)).alloc (.cells #[.bool false,.slice none 0 0,.slice none 0 0,.slice none 0 0] 31)) (w.heap.size+1) #[.bool false,.slice none 0 0,.slice none 0 0,.slice none 0 0] 31:=Box.new' (by simp)
 obtain⟨wI,hwI⟩: ∃ x,((w.alloc (.cells #[.bool q.f0,.slice ao q.f1.length co,.slice ax q.f2.length cx,.slice af q.f3.length cf] 31)).alloc (.cells #[.bool false,.slice none 0 0,.slice none 0 0,.slice none 0 0] 31))=x:=⟨_,rfl⟩
 have C0:Cz wI (w.heap.size+1) wI:=by rw[← hwI];exact Cz.of B2 rfl
 have hfI:Fr w wI:=by rw[← hwI];repeat(first|(with_reducible exact Fr.refl _)|(with_reducible assumption)|(with_reducible refine Fr.drewN ?_ _)|(with_reducible refine Fr.drew ?_)|(with_reducible refine Fr.alloc ?_ _)|(with_reducible refine Fr.setCell ?_ (by exact Qz) _)|(with_reducible refine Fr.trans ?_ (by with_reducible assumption)))
 have zI:w.heap.size+2≤wI.heap.size:=by rw[← hwI];simp
 have RI: ∀ w',Cz wI (w.heap.size+1) w'→ ∀ o,w'.cell? ⟨w.heap.size,o,none⟩=(#[.bool q.f0,.slice ao q.f1.length co,.slice ax q.f2.length cx,.slice af q.f3.length cf]:Array Value)[o]? :=fun w' h o=>(h.t.box (by rw[← hwI];exact B1) (by omega)).cell o
 have RZ: ∀ w',Cz wI (w.heap.size+1) w'→(w'.cell? ⟨w.heap.size+1,0,none⟩=some (czAt w' (w.heap.size+1) 0)∧w'.cell? ⟨w.heap.size+1,1,none⟩=some (czAt w' (w.heap.size+1) 1)∧w'.cell? ⟨w.heap.size+1,2,none⟩=some (czAt w' (w.heap.size+1) 2)∧w'.cell? ⟨w.heap.size+1,3,none⟩=some (czAt w' (w.heap.size+1) 3))∧(∀ o,w'.frozen? ⟨w.heap.size+1,o,none⟩=false)∧w.heap.size+1<w'.heap.size:=fun w' h=>h.cell
 clear B1 B2
 go_wp2_with fail
 (try rw[hwI])
 clear hwI
 go_region_held3 (fun w'=>Cz wI (w.heap.size+1) w') (focus((repeat(first|assumption|(with_reducible refine Cz.alloc ?_ _)|(with_reducible refine Cz.drew ?_)|(with_reducible refine Cz.set ?_ _ _)|(with_reducible refine Cz.fr ?_ (by with_reducible assumption))));done)) (first|(refine step_append_z (by rfl) _ _ 27 (by rfl) 9 s0 (.string ⟨#[]⟩) 1 16 Tryz.underlying27 hs hs0 hs1 hs2 rfl ⟨_,0,none⟩ (by rfl) _ q.f1.length (q.f1.map Value.string) (by rfl) (RdS.fr R1.out (by exact Qf)) (by unfold maxLen;omega) (by omega) ?_;intro a5 c5 w5 P5 hf5)|(refine step_append_z (by rfl) _ _ 28 (by rfl) 144 i0 (.agg #[.string ⟨#[]⟩,.string ⟨#[]⟩,.string ⟨#[]⟩]) 3 48 Tryz.underlying28 hi hz0 hz1 hz2 rfl ⟨_,0,none⟩ (by rfl) _ q.f2.length (q.f2.flatMap AtomR.cells) (by rfl) (RdS.fr R2.out (by exact Qf)) (by unfold maxLen;omega) (by omega) ?_;intro a6 c6 w6 P6 hf6)|(refine step_append_z (by rfl) _ _ 29 (by rfl) 187 f0 (.agg #[.string ⟨#[]⟩,.int .i64 0,.string ⟨#[]⟩,.int .i64 0]) 4 48 Tryz.underlying29 hf hf0 hf1 hf2 rfl ⟨_,0,none⟩ (by rfl) _ q.f3.length (q.f3.flatMap FilterR.cells) (by rfl) (RdS.fr R3.out (by exact Qf)) (by unfold maxLen;omega) (by omega) ?_;intro a7 c7 w7 P7 hf7))
 all_goals
  have z5:=hf5.size
  have z6:=hf6.size
  have z7:=hf7.size
  (try simp only[World.size_alloc,World.size_drew]at z5 z6 z7)
  have C7:Cz wI (w.heap.size+1) w7:=by repeat(first|assumption|(with_reducible refine Cz.alloc ?_ _)|(with_reducible refine Cz.drew ?_)|(with_reducible refine Cz.fr ?_ (by with_reducible assumption)))
  obtain⟨T7,B7⟩:=C7.full (.bool q.f0) (.slice a5 q.f1.length c5) (.slice a6 q.f2.length c6) (.slice a7 q.f3.length c7)
  have F7:=B7.facts
  have T5:Tch (fun j=>j=w.heap.size+1) w5 w7:=Tch.of_fr (by exact Qf)
  have T6:Tch (fun j=>j=w.heap.size+1) w6 w7:=Tch.of_fr (by exact Qf)
  have hw7:Fr w w7:=by exact Qf
  clear RI RZ C0 C7
  go_wp2_with fail
  refine bodyPost_ret (v:= .agg #[.bool q.f0,.slice a5 q.f1.length c5,.slice a6 q.f2.length c6,.slice a7 q.f3.length c7]) (by simp[results,Tryz.results187,go_sem, *]) rfl ?_
  refine⟨a5,c5,a6,c6,a7,c7,rfl,ZRow.up P5 (T5.four _ _ _ _) ?_ ?_,ZRow.up P6 (T6.four _ _ _ _) ?_ ?_,ZRow.up P7 ((Tch.refl _ w7).four _ _ _ _) ?_ ?_,hw7.four ?_ _ _ _ _⟩
  all_goals ((try simp only[World.size_alloc,World.size_drew]);omega)
end Go.Proofs.YtjnahjgncmcmdaaGreat
