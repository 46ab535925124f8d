/- Texts in one: TEdge, OGraph, Gr, GrOk. -/
import Derived.Test.YtjnahjgncmcmdaaGreatGSEdge
import Derived.Test.YtjnahjgncmcmdaaGreatGSWalk
import Derived.Deep.RegionHeld3
namespace Go.Proofs.YtjnahjgncmcmdaaGreat
open Go.RowKit
set_option linter.unusedVariables false
set_option linter.unusedSimpArgs false
theorem num_u8 (x:Int) (h:0≤x):((UInt8.ofNat x.toNat).toNat:Int)=x%256:=by simp;omega
def mkEdge (k:Int):EdgeR:=⟨k,UInt8.ofNat (k+1).toNat,(k+1+1)⟩
def mkEdges (k:Int) (n:Nat):List EdgeR:=(List.range n).map fun i:Nat=>mkEdge (k+3*i)
theorem mkEdges_length (k:Int) (n:Nat):(mkEdges k n).length=n:=by simp[mkEdges]
theorem mkEdges_at (k:Int) (n j:Nat) (h:j<n):edgeAt (mkEdges k n) j=mkEdge (k+3*j):=by simp[mkEdges,edgeAt,List.getD,h]
theorem edge_oneCells (xs:List EdgeR): ∀ u∈xs.flatMap EdgeR.cells,u.oneCell'=true:=by
 intro u hu
 obtain⟨x,_,h⟩:=List.mem_flatMap.1 hu
 simp only[EdgeR.cells,List.mem_cons,List.not_mem_nil,or_false]at h
 rcases h with rfl|rfl|rfl<;>rfl
def EdgesW (w:World) (lo hi:Nat) (v:Value) (xs:List EdgeR):Prop:=OwW w lo hi 79 3 v xs.length (xs.flatMap EdgeR.cells)
theorem EdgesW.rd {w:World} {lo hi:Nat} {v:Value} {xs:List EdgeR} (h:EdgesW w lo hi v xs):EdgesR w v xs:=OwW.rd h
theorem EdgesW.val {w:World} {lo hi:Nat} {v:Value} {xs:List EdgeR} (h:EdgesW w lo hi v xs): ∃ ao cap,v= .slice ao xs.length cap:=OwW.val h
theorem EdgesW.fr {w w':World} {lo hi:Nat} {v:Value} {xs:List EdgeR} (h:EdgesW w lo hi v xs) (hf:Fr w w'):EdgesW w' lo hi v xs:=OwW.fr h hf
theorem EdgesW.span {w w':World} {lo hi:Nat} {v:Value} {xs:List EdgeR} (h:EdgesW w lo hi v xs) {a b:Nat} (s:Span a b w w') (hd:hi≤a∨b≤lo):EdgesW w' lo hi v xs:=OwW.span h s hd
theorem EdgesW.nil (w:World) (lo hi:Nat):EdgesW w lo hi (.slice none 0 0) []:=OwW.nil _ _ _ _ _
theorem toEdgeS_w (a:Value) (xs:List EdgeR) (w:World) (ha:EdgesR w a xs) (hn:xs.length≤1048576):
  Calls Tryz.prog 113 #[a] w fun e w'=> ∃ ao cap,e= .returned (.slice ao xs.length cap)∧EdgesW w' w.heap.size w'.heap.size (.slice ao xs.length cap) xs∧Fr w w':=
 (toEdgeS_any a xs w ha hn).mono fun e w' h=>by
  obtain⟨v,rfl,ho,hf⟩:=h
  obtain⟨ao,cap,rfl⟩:=ho.val
  exact⟨ao,cap,rfl,OwW.of_owns ho,hf⟩
theorem edge_part (new old:List EdgeR) (m:Nat) (hm:m<old.length) (hl:new.length=old.length):((((partR new old EdgeR.cells m).set (m*3) (Value.int .i64 (edgeAt new m).f0)).set (m*3+1) (Value.int .u8 ((edgeAt new m).f1.toNat:Int))).set (m*3+2) (Value.int .i64 (edgeAt new m).f2))=partR new old EdgeR.cells (m+1):=by
 rw[partR_split new old EdgeR.cells m hm]
 have ha:((new.take m).flatMap EdgeR.cells).length=m*3:=flat_len new EdgeR.cells 3 EdgeR.cells_length m (by omega)
 rw[set_mid _ _ _ 0 _ (by rw[ha];rfl) (by rw[EdgeR.cells_length];omega)]
 rw[set_mid _ _ _ 1 _ (by rw[ha]) (by simp only[List.length_set];rw[EdgeR.cells_length];omega)]
 rw[set_mid _ _ _ 2 _ (by rw[ha]) (by simp only[List.length_set];rw[EdgeR.cells_length];omega)]
 rw[partR_next new old EdgeR.cells m (by omega)]
 rfl
set_option maxHeartbeats 1000000 in
set_option maxRecDepth 100000 in
theorem markEdgeS_any (g n cap:Nat) (xs:List EdgeR) (k:Int) (lo:Nat) (w:World) (ha:w.ownsRow lo 79 3 (.slice (some ⟨g,0,none⟩) n cap) n (xs.flatMap EdgeR.cells)) (hn:xs.length=n) (h0:0<k) (h1:k+3*n≤1073741824):
  Calls Tryz.prog 123 #[.slice (some ⟨g,0,none⟩) n cap,.int .i64 k] w fun e w'=>e= .returned (.int .i64 (k+3*n))∧w'.ownsRow lo 79 3 (.slice (some ⟨g,0,none⟩) n cap) n ((mkEdges k n).flatMap EdgeR.cells)∧w.grownBy w' (some g):=by
 have hg0:g<w.heap.size:=(ha.lt g rfl).2
 go_enter Tryz.func123,Tryz.ntmps123
 go_wp2
 go_loopw [1,5] (fun l i wr=> ∃ m:Nat,m≤n∧i= .int .i64 m∧l= .int .i64 (k+3*m)∧wr.ownsRow lo 79 3 (.slice (some ⟨g,0,none⟩) n cap) n (partR (mkEdges k n) xs EdgeR.cells m)∧w.grownBy wr (some g)) (fun _ i _=>n-(intOf i).toNat)
 case atStart=>exact⟨0,Nat.zero_le _,rfl,by simp,by rw[partR_zero];exact ha,World.grownBy.refl _ _⟩
 case round=>
  clear ha
  obtain⟨m,hm,rfl,rfl,ho,hfr⟩:=hrel
  by_cases hlt:m<n
  · have hp:=edge_part (mkEdges k n) xs m (by omega) (by rw[mkEdges_length,hn])
    rw[mkEdges_at k n m hlt]at hp
    simp only[mkEdge]at hp
    rw[num_u8 _ (by omega)]at hp
    have HP:=Lib.hid hp
    clear hp
    have f0:=ho.frozenAt (m*3);obtain⟨u0,c0⟩:=owns_cell ho (m*3) (by omega);have s0:=ho.stored (m*3) (.int .i64 (k+3*m))
    have f1:=s0.1.frozenAt (m*3+1);obtain⟨u1,c1⟩:=owns_cell s0.1 (m*3+1) (by omega);have s1:=s0.1.stored (m*3+1) (.int .u8 ((k+3*m+1)%256))
    have f2:=s1.1.frozenAt (m*3+2);obtain⟨u2,c2⟩:=owns_cell s1.1 (m*3+2) (by omega);have s2:=s1.1.stored (m*3+2) (.int .i64 (k+3*m+1+1))
    go_wp2_with fail
    go_roundw
    case rel=>exact⟨m+1,by omega,by go_num,by go_num,HP.out▸s2.1,gr_trans (gr_trans (gr_trans hfr (s0.2)) (s1.2)) (s2.2)⟩
    case measure=>(simp[intOf];omega)
  · obtain rfl:m=n:=by omega
    rw[partR_all _ _ _ m (by rw[mkEdges_length]) hn]at ho
    go_wp2
    go_ret
    exact⟨rfl,ho,hfr⟩
theorem markEdgeS_w (v:Value) (xs:List EdgeR) (k:Int) (lo hi:Nat) (w:World) (ha:EdgesW w lo hi v xs) (h0:0<k) (h1:k+3*xs.length≤1073741824):
  Calls Tryz.prog 123 #[v,.int .i64 k] w fun e w'=>e= .returned (.int .i64 (k+3*xs.length))∧EdgesW w' lo hi v (mkEdges k xs.length)∧Span lo hi w w':=by
 rcases owns_shape ha.1 with⟨rfl,hn,hx⟩|⟨g,cap,rfl,_⟩
 · have h3:xs=[]:=List.eq_nil_of_length_eq_zero hn
   subst h3
   clear ha hn hx
   go_enter Tryz.func123,Tryz.ntmps123
   go_wp2
   go_loopw [1,5] (fun l i wr=>i= .int .i64 0∧l= .int .i64 k∧wr=w) (fun _ i _=>0)
   case atStart=>exact⟨rfl,rfl,rfl⟩
   case round=>
    obtain⟨rfl,rfl,rfl⟩:=hrel
    go_wp2
    go_ret
    exact⟨by simp,by simpa [EdgesW,mkEdges]using OwW.nil _ _ _ _ _,Span.refl _ _ _⟩
 · refine(markEdgeS_any g xs.length cap xs k lo w ha.1 rfl h0 h1).mono fun e w' h=>⟨h.1,⟨?_,ha.2⟩,Span.of_gr h.2.2 ha.2⟩
   rw[mkEdges_length]
   exact h.2.1
structure GraphD where
 f0:Int
 f1:List EdgeR
def GraphRd (w:World) (v:Value) (d:GraphD):Prop:= ∃ u,v= .agg #[.int .i64 d.f0,u]∧EdgesR w u d.f1
def GraphW (w:World) (lo hi:Nat) (v:Value) (d:GraphD):Prop:= ∃ ao cap,v= .agg #[.int .i64 d.f0,.slice ao d.f1.length cap]∧EdgesW w lo hi (.slice ao d.f1.length cap) d.f1
theorem GraphRd.fr {w w':World} {v:Value} {d:GraphD} (h:GraphRd w v d) (hf:Fr w w'):GraphRd w' v d:=by obtain⟨u,h1,h2⟩:=h;exact⟨u,h1,h2.fr hf⟩
theorem GraphW.fr {w w':World} {lo hi:Nat} {v:Value} {d:GraphD} (h:GraphW w lo hi v d) (hf:Fr w w'):GraphW w' lo hi v d:=by obtain⟨a,c,h1,h2⟩:=h;exact⟨a,c,h1,h2.fr hf⟩
theorem GraphW.rd {w:World} {lo hi:Nat} {v:Value} {d:GraphD} (h:GraphW w lo hi v d):GraphRd w v d:=by obtain⟨a,c,h1,h2⟩:=h;exact⟨_,h1,h2.rd⟩
theorem GraphW.span {w w':World} {lo hi:Nat} {v:Value} {d:GraphD} (h:GraphW w lo hi v d) {a b:Nat} (s:Span a b w w') (hd:hi≤a∨b≤lo):GraphW w' lo hi v d:=by obtain⟨x,c,h1,h2⟩:=h;exact⟨x,c,h1,h2.span s hd⟩
theorem GraphW.val {w:World} {lo hi:Nat} {v:Value} {d:GraphD} (h:GraphW w lo hi v d): ∃ ao cap,v= .agg #[.int .i64 d.f0,.slice ao d.f1.length cap]:=by obtain⟨a,c,h1,h2⟩:=h;exact⟨a,c,h1⟩
set_option maxHeartbeats 1000000 in
theorem toGraph_w (v:Value) (d:GraphD) (w:World) (hv:GraphRd w v d) (hn:d.f1.length≤1048576):
  Calls Tryz.prog 45 #[v] w fun e w'=> ∃ ao cap,e= .returned (.agg #[.int .i64 d.f0,.slice ao d.f1.length cap])∧GraphW w' w.heap.size w'.heap.size (.agg #[.int .i64 d.f0,.slice ao d.f1.length cap]) d∧Fr w w':=by
 obtain⟨u,rfl,hu⟩:=hv
 go_enter Tryz.func45,Tryz.ntmps45
 go_wp2_with fail
 refine(toEdgeS_w _ d.f1 _ (hu.fr (by exact Qf)) hn).mono ?_
 rintro e w1 ⟨ao,ca,rfl,ho,hf⟩
 have k0:=hf.blk w.heap.size (by exact Qz);have k1:=hf.blk (w.heap.size+1) (by exact Qz);have k2:=hf.blk (w.heap.size+1+1) (by exact Qz);have z1:=hf.size;(try simp only[World.size_alloc,World.size_setCell,World.size_drew]at z1)
 go_wp2_with fail
 refine bodyPost_ret (v:= .agg #[.int .i64 d.f0,.slice ao d.f1.length ca]) (by simp[results,Tryz.results45,go_sem, *]) rfl ⟨_,_,rfl,?_,by exact Qf⟩
 exact⟨ao,ca,rfl,OwW.mono (OwW.ab ho (by exact Qa)) (by exact Qz) (by exact Qz)⟩
set_option maxHeartbeats 1000000 in
theorem eqGraph_same (a b:Value) (d:GraphD) (w:World) (ha:GraphRd w a d) (hb:GraphRd w b d):
  Calls Tryz.prog 49 #[a,b] w fun e w'=>e= .returned (.bool true)∧Fr w w':=by
 obtain⟨u,rfl,hu⟩:=ha
 obtain⟨v,rfl,hv⟩:=hb
 go_enter Tryz.func49,Tryz.ntmps49
 go_wp2_with(go_at_call 119;refine(eqEdgeS_same _ _ d.f1 _ (hu.fr (by exact Qf)) (hv.fr (by exact Qf))).mono ?_;rintro e w1 ⟨rfl,hf⟩;have z1:=hf.size;(try simp only[World.size_alloc,World.size_setCell,World.size_drew]at z1);have k0:=hf.blk w.heap.size (by exact Qz);have k1:=hf.blk (w.heap.size+1) (by exact Qz))
 go_ret
 exact⟨rfl,by exact Qf⟩
def GraphD.bulk (d:GraphD):Nat:=(d.f1.length)
def GraphD.okSize (d:GraphD):Prop:=True
def GraphD.cnt (d:GraphD):Nat:=3*d.f1.length
set_option maxHeartbeats 1000000 in
set_option maxRecDepth 100000 in
theorem szGraph_w (v:Value) (d:GraphD) (left:Int) (w:World) (hv:GraphRd w v d) (hs:d.okSize) (h0:0≤left) (h1:left≤1048576):
  Calls Tryz.prog 42 #[v,.int .i64 left] w fun e w'=>e= .returned (.int .i64 (szR left d.bulk))∧Fr w w':=by
 obtain⟨u,rfl,hu⟩:=hv
 unfold GraphD.okSize at hs
 by_cases hl:(d.bulk:Int)≤left
 · have hr:=szR_ok hl
   go_enter Tryz.func42,Tryz.ntmps42
   go_wp2_with(go_at_call 108;refine(szEdgeS_any _ d.f1 _ _ (hu.fr (by exact Qf)) (by omega) (by omega)).mono ?_;rintro e w1 ⟨rfl,hf⟩;subst hf)
   all_goals go_ret
   all_goals exact⟨ret_int (by first|rfl|exact hr.symm|(rw[hr];omega)|(exfalso;unfold GraphD.bulk at *; omega)),by exact Qf⟩
 · have hr:=szR_no hl
   go_enter Tryz.func42,Tryz.ntmps42
   go_wp2_with(go_at_call 108;refine(szEdgeS_any _ d.f1 _ _ (hu.fr (by exact Qf)) (by omega) (by omega)).mono ?_;rintro e w1 ⟨rfl,hf⟩;subst hf)
   all_goals go_ret
   all_goals exact⟨ret_int (by first|rfl|exact hr.symm|(rw[hr];omega)|(exfalso;unfold GraphD.bulk at *; omega)),by exact Qf⟩
def GraphD.mkd (d:GraphD) (k:Int):GraphD:= {d with f1:=mkEdges k d.f1.length}
theorem GraphD.mkd_cnt (d:GraphD) (k:Int):(d.mkd k).cnt=d.cnt:=by simp[GraphD.cnt,GraphD.mkd,mkEdges_length]
set_option maxHeartbeats 1000000 in
theorem markGraph_w (v:Value) (d:GraphD) (k:Int) (lo hi:Nat) (w:World) (ha:GraphW w lo hi v d) (hh:hi≤w.heap.size) (h0:0<k) (h1:k+d.cnt≤1073741824):
  Calls Tryz.prog 52 #[v,.int .i64 k] w fun e w'=>e= .returned (.int .i64 (k+d.cnt))∧GraphW w' lo hi v (d.mkd k)∧Span lo hi w w':=by
 unfold GraphD.cnt at h1 ⊢
 obtain⟨ao,cap,rfl,hu⟩:=ha
 go_enter Tryz.func52,Tryz.ntmps52
 go_wp2_with fail
 refine(markEdgeS_w _ d.f1 k lo hi _ (hu.fr (by exact Qf)) h0 (by omega)).mono ?_
 rintro e w1 ⟨rfl,ho,sp⟩
 have B:=(Box.new w _ _).span sp (.inr hh)
 have F:=B.facts
 go_wp2_with fail
 go_ret
 exact⟨ret_int (by simp),⟨ao,cap,by simp[GraphD.mkd,mkEdges_length],by simpa [GraphD.mkd,mkEdges_length]using ho⟩,(Span.of_fr (by exact Qf)).trans sp⟩
def edgeLt (x y:EdgeR):Bool:=if x.f0≠y.f0 then decide (x.f0<y.f0)else if x.f1≠y.f1 then decide (x.f1.toNat<y.f1.toNat)else decide (x.f2<y.f2)
def edgeC (x y:EdgeR):Int:=if x.f1≠y.f1∧x.f0=y.f0 then(x.f1.toNat:Int)-y.f1.toNat else cmpL [x.f0,x.f2] [y.f0,y.f2]
theorem edgeC_lt (x y:EdgeR):decide (edgeC x y<0)=edgeLt x y:=by
 rw[Bool.eq_iff_iff,decide_eq_true_eq]
 unfold edgeC edgeLt
 by_cases h0:x.f0=y.f0
 · by_cases h1:x.f1=y.f1
   · rw[if_neg (by simp[h1]),if_neg (by simp[h0]),if_neg (by simp[h1]),decide_eq_true_eq]
     simp only[cmpL]
     repeat' split
     all_goals omega
   · rw[if_pos ⟨h1,h0⟩,if_neg (by simp[h0]),if_pos h1,decide_eq_true_eq]
     omega
 · rw[if_neg (fun h=>h0 h.2),if_pos h0,decide_eq_true_eq]
   simp only[cmpL]
   repeat' split
   all_goals omega
def edgB (n:Int) (x:EdgeR):Bool:=decide (0≤x.f0∧x.f0<n)&&(decide (0≤x.f2∧x.f2<n)&&decide (97≤x.f1.toNat∧x.f1.toNat≤100))
def edgK (n:Int) (xs:List EdgeR) (k:Nat):Bool:=edgB n (edgeAt xs k)&&(decide (k=0)||edgeLt (edgeAt xs (k-1)) (edgeAt xs k))
def graphB (g:GraphD):Bool:=decide (1≤g.f0∧g.f0≤12)&&(decide (g.f1.length≤40)&&(List.range g.f1.length).all (edgK g.f0 g.f1))
theorem graphB_size {g:GraphD} (h: ¬ (1≤g.f0∧g.f0≤12)):graphB g=false:=by unfold graphB;rw[decide_eq_false h,Bool.false_and]
theorem graphB_long {g:GraphD} (h: ¬ g.f1.length≤40):graphB g=false:=by unfold graphB;rw[decide_eq_false h,Bool.false_and,Bool.and_false]
theorem graphB_no {g:GraphD} {k:Nat} (hk:k<g.f1.length) (h:edgK g.f0 g.f1 k=false):graphB g=false:=by unfold graphB;rw[rng_not_all hk h,Bool.and_false,Bool.and_false]
theorem graphB_ok {g:GraphD} (h1:1≤g.f0∧g.f0≤12) (h2:g.f1.length≤40) (h: ∀ j,j<g.f1.length→edgK g.f0 g.f1 j=true):graphB g=true:=by unfold graphB;rw[rng_all h,decide_eq_true h1,decide_eq_true h2];rfl
theorem graphB_out {g:GraphD} (h:graphB g=true):(1≤g.f0∧g.f0≤12)∧g.f1.length≤40∧ ∀ j,j<g.f1.length→edgK g.f0 g.f1 j=true:=by
 unfold graphB at h
 simp only[Bool.and_eq_true,decide_eq_true_eq,List.all_eq_true]at h
 exact⟨h.1,h.2.1,fun j hj=>h.2.2 j (List.mem_range.2 hj)⟩
theorem edgK_from {n:Int} {xs:List EdgeR} {k:Nat} {x:EdgeR} (hx:edgeAt xs k=x) (h: ¬ (0≤x.f0∧x.f0<n)):edgK n xs k=false:=by
 unfold edgK edgB;rw[hx,decide_eq_false h];rfl
theorem edgK_to {n:Int} {xs:List EdgeR} {k:Nat} {x:EdgeR} (hx:edgeAt xs k=x) (h: ¬ (0≤x.f2∧x.f2<n)):edgK n xs k=false:=by
 unfold edgK edgB;rw[hx,decide_eq_false h,Bool.false_and,Bool.and_false];rfl
theorem edgK_label {n:Int} {xs:List EdgeR} {k:Nat} {x:EdgeR} (hx:edgeAt xs k=x) (h: ¬ (97≤x.f1.toNat∧x.f1.toNat≤100)):edgK n xs k=false:=by
 unfold edgK edgB;rw[hx,decide_eq_false h,Bool.and_false,Bool.and_false];rfl
theorem edgK_less {n:Int} {xs:List EdgeR} {k:Nat} {x y:EdgeR} (hx:edgeAt xs k=x) (hy:edgeAt xs (k-1)=y) (hk:0<k) (h:edgeLt y x=false):edgK n xs k=false:=by
 unfold edgK;rw[hx,hy,h,decide_eq_false (by omega: ¬ k=0)];simp
theorem edgK_ok {n:Int} {xs:List EdgeR} {k:Nat} {x y:EdgeR} (hx:edgeAt xs k=x) (hy:edgeAt xs (k-1)=y) (h0:0≤x.f0∧x.f0<n) (h2:0≤x.f2∧x.f2<n) (h1:97≤x.f1.toNat∧x.f1.toNat≤100) (h:k=0∨edgeLt y x=true):edgK n xs k=true:=by
 unfold edgK edgB;rw[hx,hy,decide_eq_true h0,decide_eq_true h1,decide_eq_true h2]
 rcases h with h|h
 · rw[decide_eq_true h];rfl
 · rw[h];simp
theorem byte_eq {x y:UInt8}:((x.toNat:Int)=y.toNat)↔x=y:=⟨fun h=>UInt8.toNat_inj.1 (by omega),fun h=>by rw[h]⟩
theorem specEdgeLess_any (x y:EdgeR) (w:World):
  Calls Tryz.prog 144 #[.agg #[.int .i64 x.f0,.int .u8 (x.f1.toNat:Int),.int .i64 x.f2],.agg #[.int .i64 y.f0,.int .u8 (y.f1.toNat:Int),.int .i64 y.f2]] w fun e w'=>e= .returned (.bool (edgeLt x y))∧Fr w w':=by
 obtain⟨p,hp⟩: ∃ p,edgeLt x y=p:=⟨_,rfl⟩
 rw[hp]
 have HP:=Lib.hid hp
 clear hp
 obtain⟨a,l,t⟩:=x
 obtain⟨b,m,u⟩:=y
 have hl:=l.toNat_lt
 have hm:=m.toNat_lt
 by_cases h0:a=b
 · have q0:(a !=b)=false:=by simpa using h0
   have H0:=Lib.hid h0
   clear h0
   by_cases h1:l=m
   · have q1:((l.toNat:Int) !=(m.toNat:Int))=false:=by rw[bne_eq_false_iff_eq,byte_eq];exact h1
     have HQ:Hid (decide (t<u)=p):=Lib.hid (by rw[← HP.out];unfold edgeLt;rw[if_neg (by simp[H0.out]),if_neg (by simp[h1])])
     clear h1
     go_enter Tryz.func144,Tryz.ntmps144
     go_wp2
     go_ret
     exact⟨ret_bool HQ.out,by exact Qf⟩
   · have q1:((l.toNat:Int) !=(m.toNat:Int))=true:=by rw[bne_iff_ne];exact fun h=>h1 (byte_eq.1 h)
     have HQ:Hid (decide ((l.toNat:Int)<(m.toNat:Int))=p):=Lib.hid (by rw[← HP.out];unfold edgeLt;rw[if_neg (by simp[H0.out]),if_pos h1,Bool.eq_iff_iff,decide_eq_true_eq,decide_eq_true_eq];simp only[];omega)
     clear h1
     go_enter Tryz.func144,Tryz.ntmps144
     go_wp2
     go_ret
     exact⟨ret_bool (by first|exact HQ.out|(rw[← HQ.out];simp)),by exact Qf⟩
 · have q0:(a !=b)=true:=by simpa using h0
   have HQ:Hid (decide (a<b)=p):=Lib.hid (by rw[← HP.out];unfold edgeLt;rw[if_pos h0])
   clear h0
   go_enter Tryz.func144,Tryz.ntmps144
   go_wp2
   go_ret
   exact⟨ret_bool HQ.out,by exact Qf⟩
theorem ints2 {w:World} {b:Nat} {x y:Int} {T:TypeId} (h:Box w b #[.int .i64 x,.int .i64 y] T):IntsR w (.slice (some ⟨b,0,none⟩) 2 2) [x,y]:=by
 refine⟨rfl,_,_,rfl,Nat.le_refl _,by unfold maxLen;omega,fun _=>⟨b,0,rfl,h.lt,fun j hj=>?_⟩⟩
 rw[Nat.zero_add,h.cell]
 match j,hj with
 |0,_=>rfl
 |1,_=>rfl
theorem compareEdges_any (x y:EdgeR) (w:World):
  Calls Tryz.prog 183 #[.agg #[.int .i64 x.f0,.int .u8 (x.f1.toNat:Int),.int .i64 x.f2],.agg #[.int .i64 y.f0,.int .u8 (y.f1.toNat:Int),.int .i64 y.f2]] w fun e w'=>e= .returned (.int .i64 (edgeC x y))∧Fr w w':=by
 obtain⟨p,hp⟩: ∃ p,edgeC x y=p:=⟨_,rfl⟩
 rw[hp]
 have HP:=Lib.hid hp
 clear hp
 obtain⟨a,l,t⟩:=x
 obtain⟨b,m,u⟩:=y
 have hl:=l.toNat_lt
 have hm:=m.toNat_lt
 by_cases h1:l=m
 · have q1:((l.toNat:Int) !=(m.toNat:Int))=false:=by rw[bne_eq_false_iff_eq,byte_eq];exact h1
   have HQ:Hid (cmpL [a,t] [b,u]=p):=Lib.hid (by rw[← HP.out];unfold edgeC;rw[if_neg (by simp[h1])])
   clear h1
   go_enter Tryz.func183,Tryz.ntmps183
   go_wp2_with fail
   refine(slicesCompare_any _ _ [a,t] [b,u] _ (ints2 (Box.alloc (Box.new' (by simp)) _)) (ints2 (Box.new' (by simp)))).mono ?_
   rintro e w1 ⟨rfl,rfl⟩
   go_wp2_with fail
   go_ret
   exact⟨ret_int HQ.out,by exact Qf⟩
 · have q1:((l.toNat:Int) !=(m.toNat:Int))=true:=by rw[bne_iff_ne];exact fun h=>h1 (byte_eq.1 h)
   by_cases h0:a=b
   · have q0:(a==b)=true:=by simpa using h0
     have HQ:Hid ((l.toNat:Int)-m.toNat=p):=Lib.hid (by rw[← HP.out];unfold edgeC;rw[if_pos ⟨h1,h0⟩])
     clear h1 h0
     go_enter Tryz.func183,Tryz.ntmps183
     go_wp2_with fail
     go_ret
     exact⟨ret_int HQ.out,by exact Qf⟩
   · have q0:(a==b)=false:=by simpa using h0
     have HQ:Hid (cmpL [a,t] [b,u]=p):=Lib.hid (by rw[← HP.out];unfold edgeC;rw[if_neg (fun h=>h0 h.2)])
     clear h1 h0
     go_enter Tryz.func183,Tryz.ntmps183
     go_wp2_with fail
     refine(slicesCompare_any _ _ [a,t] [b,u] _ (ints2 (Box.alloc (Box.new' (by simp)) _)) (ints2 (Box.new' (by simp)))).mono ?_
     rintro e w1 ⟨rfl,rfl⟩
     go_wp2_with fail
     go_ret
     exact⟨ret_int HQ.out,by exact Qf⟩
theorem implEdgeLess_any (x y:EdgeR) (w:World):
  Calls Tryz.prog 135 #[.agg #[.int .i64 x.f0,.int .u8 (x.f1.toNat:Int),.int .i64 x.f2],.agg #[.int .i64 y.f0,.int .u8 (y.f1.toNat:Int),.int .i64 y.f2]] w fun e w'=>e= .returned (.bool (edgeLt x y))∧Fr w w':=by
 obtain⟨c,hc⟩: ∃ c,edgeC x y=c:=⟨_,rfl⟩
 have CT:Hid (∀ w',Calls Tryz.prog 183 #[.agg #[.int .i64 x.f0,.int .u8 (x.f1.toNat:Int),.int .i64 x.f2],.agg #[.int .i64 y.f0,.int .u8 (y.f1.toNat:Int),.int .i64 y.f2]] w' fun e w''=>e= .returned (.int .i64 c)∧Fr w' w''):=Lib.hid fun w'=>by rw[← hc];exact compareEdges_any x y w'
 have HR:Hid (edgeLt x y=decide (c<0)):=Lib.hid (by rw[← edgeC_lt,hc])
 clear hc
 go_enter Tryz.func135,Tryz.ntmps135
 go_wp2_with(go_at_call 183;refine(CT.out _).mono ?_;rintro e w1 ⟨rfl,hf1⟩)
 go_ret
 exact⟨ret_bool HR.out.symm,by exact Qf⟩
theorem isVertex_any (n:Int) (u:Value) (v:Int) (w:World):
  Calls Tryz.prog 133 #[.agg #[.int .i64 n,u],.int .i64 v] w fun e w'=>e= .returned (.bool (decide (0≤v∧v<n)))∧Fr w w':=by
 by_cases h0:0≤v
 · go_enter Tryz.func133,Tryz.ntmps133
   go_wp2
   go_ret
   exact⟨ret_bool (by simp[h0]),by exact Qf⟩
 · go_enter Tryz.func133,Tryz.ntmps133
   go_wp2
   go_ret
   exact⟨ret_bool (by first|(simp;done)|(simp;omega)),by exact Qf⟩
theorem isLabel_any (c:UInt8) (w:World):
  Calls Tryz.prog 134 #[.int .u8 (c.toNat:Int)] w fun e w'=>e= .returned (.bool (decide (97≤c.toNat∧c.toNat≤100)))∧w'=w:=by
 by_cases h0:97≤c.toNat
 · go_enter Tryz.func134,Tryz.ntmps134
   go_wp2
   go_ret
   exact⟨ret_bool (by first|(simp[h0];done)|(simp[h0];omega)),rfl⟩
 · go_enter Tryz.func134,Tryz.ntmps134
   go_wp2
   go_ret
   exact⟨ret_bool (by first|(simp;done)|(simp;omega)),rfl⟩
set_option maxHeartbeats 4000000 in
set_option maxRecDepth 100000 in
theorem specGraphOk_any (v:Value) (n:Int) (xs:List EdgeR) (w:World) (hv:EdgesR w v xs):
  Calls Tryz.prog 67 #[.agg #[.int .i64 n,v]] w fun e w'=>e= .returned (.bool (graphB ⟨n,xs⟩))∧Fr w w':=by
 obtain⟨ao,ba,oa,ca,rfl,hca,hma,fa⟩:=hv.one
 have FA:=Lib.hid fa
 clear hv fa
 by_cases hn:1≤n∧n≤12
 · have gN:decide (1≤n∧n≤12)=true:=by simp[hn]
   by_cases hl:xs.length≤40
   · have hN:Hid (∀ k,k<xs.length→edgK n xs k=false→graphB ⟨n,xs⟩=false):=Lib.hid fun k hk h=>graphB_no (g:=⟨n,xs⟩) hk h
     have hY:Hid ((∀ j,j<xs.length→edgK n xs j=true)→graphB ⟨n,xs⟩=true):=Lib.hid fun h=>graphB_ok (g:=⟨n,xs⟩) hn hl h
     have hn1:=hn.1
     have hn2:=hn.2
     clear hn
     go_enter Tryz.func67,Tryz.ntmps67
     go_wp2_with(go_at_call 69;refine(l01In_any _ _ _ _).mono ?_;rintro e w1 ⟨rfl,rfl⟩)
     go_loopw [3,4] (fun i _ wr=> ∃ k:Nat,k≤xs.length∧i= .int .i64 k∧Fr w wr∧Hid (∀ j,j<k→edgK n xs j=true)∧Box wr w.heap.size #[.int .i64 n,.slice ao xs.length ca] 26) (fun i _ _=>xs.length-(intOf i).toNat)
     case atStart=>exact⟨0,Nat.zero_le _,rfl,by exact Qf,Lib.hid (fun j hj=>absurd hj (by omega)),Box.new _ _ _⟩
     case round=>
      obtain⟨k,hk,rfl,hfr,hj,BX⟩:=hrel
      have FX:=BX.facts
      have zr:=BX.lt
      by_cases hlt:k<xs.length
      · obtain⟨rfl,hba,fa⟩:=FA.out (by omega);obtain⟨x,hx⟩: ∃ x,edgeAt xs k=x:=⟨_,rfl⟩;obtain⟨y,hy⟩: ∃ y,edgeAt xs (k-1)=y:=⟨_,rfl⟩;obtain⟨g0,g1,g2⟩:=fa k hlt;obtain⟨e0,e1,e2⟩:=fa (k-1) (by omega);rw[hx]at g0 g1 g2;rw[hy]at e0 e1 e2;have c0:=(hfr.cell (p:=⟨ba,_,none⟩) hba).trans g0;have c1:=(hfr.cell (p:=⟨ba,_,none⟩) hba).trans g1;have c2:=(hfr.cell (p:=⟨ba,_,none⟩) hba).trans g2;have E0:=Lib.hid e0;have E1:=Lib.hid e1;have E2:=Lib.hid e2;have hbw:ba<wr.heap.size:=Nat.lt_of_lt_of_le hba hfr.size;have hl:=x.f1.toNat_lt;have HX:=Lib.hid hx;have HY:=Lib.hid hy;clear g0 g1 g2 e0 e1 e2 fa hx hy
        have hwn:IntKind.i64.wrap (n-1)=n-1:=IntWalk.i64_in _ (by omega)
        by_cases hf:0≤x.f0∧x.f0<n
        · have gF:decide (0≤x.f0∧x.f0≤n-1)=true:=by simp;omega
          by_cases ht:0≤x.f2∧x.f2<n
          · have gT:decide (0≤x.f2∧x.f2≤n-1)=true:=by simp;omega
            by_cases hl1:97≤x.f1.toNat
            · have gA:decide ((x.f1.toNat:Int)<97)=false:=by simp;omega
              by_cases hl2:x.f1.toNat≤100
              · have gB:decide (100<(x.f1.toNat:Int))=false:=by simp;omega
                have HK:=Lib.hid (fun h=>edgK_ok (n:=n) HX.out HY.out hf ht ⟨hl1,hl2⟩ h)
                clear hf ht
                by_cases hz:k=0
                · have hF:Hid (edgK n xs k=true):=Lib.hid (HK.out (.inl hz))
                  subst hz
                  simp only[Nat.zero_mul,Nat.add_zero]at c0 c1 c2
                  go_wp2
                  go_quiet (first|(go_at_call 69;exact Calls.quiet_of_same ((l01In_any _ _ _ _).mono fun _ _ h=>⟨h.1,h.2.symm⟩)))
                  go_wp2
                  go_roundw
                  case rel=>exact⟨1,by omega,by go_num,by exact Qf,Lib.hid (fun j h=>by obtain rfl:j=0:=(by omega);exact hF.out),BX.fr (by exact Qf)⟩
                  case measure=>(simp[intOf];omega)
                · have hk0:0<k:=by omega
                  have gk:decide (0<(k:Int))=true:=by simp;omega
                  have hk2:((k-1:Nat):Int)<xs.length:=by omega
                  have hwk:IntKind.i64.wrap ((k:Int)-1)=((k-1:Nat):Int):=by rw[IntWalk.i64_in _ (by omega)];omega
                  have RG: ∀ w',Sf (wr.alloc (.cells #[.int .i64 x.f0,.int .u8 (x.f1.toNat:Int),.int .i64 x.f2] 79)) w'→ ∀ o,w'.cell? ⟨w.heap.size,o,none⟩= #[Value.int .i64 n,.slice (some ⟨ba,oa,none⟩) xs.length ca][o]? :=fun w' h o=>((BX.alloc _).fr h.out).cell o
                  have RX: ∀ w',Sf (wr.alloc (.cells #[.int .i64 x.f0,.int .u8 (x.f1.toNat:Int),.int .i64 x.f2] 79)) w'→ ∀ o,w'.cell? ⟨wr.heap.size,o,none⟩= #[Value.int .i64 x.f0,.int .u8 (x.f1.toNat:Int),.int .i64 x.f2][o]? :=fun w' h o=>((Box.new _ _ _).fr h.out).cell o
                  have P0: ∀ w',Sf (wr.alloc (.cells #[.int .i64 x.f0,.int .u8 (x.f1.toNat:Int),.int .i64 x.f2] 79)) w'→w'.cell? _=_:=fun w' h=>((hfr.trans (((Fr.refl _).alloc _).trans h.out)).cell (p:=⟨ba,_,none⟩) hba).trans E0.out
                  have P1: ∀ w',Sf (wr.alloc (.cells #[.int .i64 x.f0,.int .u8 (x.f1.toNat:Int),.int .i64 x.f2] 79)) w'→w'.cell? _=_:=fun w' h=>((hfr.trans (((Fr.refl _).alloc _).trans h.out)).cell (p:=⟨ba,_,none⟩) hba).trans E1.out
                  have P2: ∀ w',Sf (wr.alloc (.cells #[.int .i64 x.f0,.int .u8 (x.f1.toNat:Int),.int .i64 x.f2] 79)) w'→w'.cell? _=_:=fun w' h=>((hfr.trans (((Fr.refl _).alloc _).trans h.out)).cell (p:=⟨ba,_,none⟩) hba).trans E2.out
                  cases hL:edgeLt y x
                  · have hF:=Lib.hid (hN.out k hlt (edgK_less HX.out HY.out hk0 hL))
                    have CT:Hid (∀ w',Calls Tryz.prog 144 #[.agg #[.int .i64 y.f0,.int .u8 (y.f1.toNat:Int),.int .i64 y.f2],.agg #[.int .i64 x.f0,.int .u8 (x.f1.toNat:Int),.int .i64 x.f2]] w' fun e w''=>e= .returned (.bool false)∧Fr w' w''):=Lib.hid fun w'=>by rw[← hL];exact specEdgeLess_any y x w'
                    clear hL
                    go_wp2_with fail
                    go_region_held3 (fun w'=>Sf (wr.alloc (.cells #[.int .i64 x.f0,.int .u8 (x.f1.toNat:Int),.int .i64 x.f2] 79)) w') ((refine Sf.mk ?_;repeat(first|(with_reducible exact Fr.refl _)|(with_reducible assumption)|(with_reducible refine Fr.drewN ?_ _)|(with_reducible refine Fr.drew ?_)|(with_reducible refine Fr.alloc ?_ _)|(with_reducible refine Fr.setCell ?_ (by exact Qz) _)|(with_reducible refine Fr.trans ?_ (by with_reducible assumption))))) (first|(go_at_call 69;refine(l01In_any _ _ _ _).mono ?_;rintro e w1 ⟨rfl,rfl⟩)|(go_at_call 144;refine(CT.out _).mono ?_;rintro e w5 ⟨rfl,hf5⟩))
                    all_goals
                     go_wp2_with fail
                     go_ret
                     (exact⟨ret_bool hF.out.symm,by exact Qf⟩)
                  · have hF:Hid (edgK n xs k=true):=Lib.hid (HK.out (.inr hL))
                    have CT:Hid (∀ w',Calls Tryz.prog 144 #[.agg #[.int .i64 y.f0,.int .u8 (y.f1.toNat:Int),.int .i64 y.f2],.agg #[.int .i64 x.f0,.int .u8 (x.f1.toNat:Int),.int .i64 x.f2]] w' fun e w''=>e= .returned (.bool true)∧Fr w' w''):=Lib.hid fun w'=>by rw[← hL];exact specEdgeLess_any y x w'
                    clear hL
                    go_wp2_with fail
                    go_region_held3 (fun w'=>Sf (wr.alloc (.cells #[.int .i64 x.f0,.int .u8 (x.f1.toNat:Int),.int .i64 x.f2] 79)) w') ((refine Sf.mk ?_;repeat(first|(with_reducible exact Fr.refl _)|(with_reducible assumption)|(with_reducible refine Fr.drewN ?_ _)|(with_reducible refine Fr.drew ?_)|(with_reducible refine Fr.alloc ?_ _)|(with_reducible refine Fr.setCell ?_ (by exact Qz) _)|(with_reducible refine Fr.trans ?_ (by with_reducible assumption))))) (first|(go_at_call 69;refine(l01In_any _ _ _ _).mono ?_;rintro e w1 ⟨rfl,rfl⟩)|(go_at_call 144;refine(CT.out _).mono ?_;rintro e w5 ⟨rfl,hf5⟩))
                    all_goals
                     clear hwk
                     go_wp2_with fail
                     go_roundw
                     (case rel=>exact⟨k+1,by omega,by go_num,by exact Qf,Lib.hid (fun j h=>(by rcases Nat.lt_succ_iff_lt_or_eq.1 h with h|rfl;exact hj.out j h;exact hF.out)),BX.fr (by exact Qf)⟩);(case measure=>(simp[intOf];omega))
              · have gB:decide (100<(x.f1.toNat:Int))=true:=by simp;omega
                have hF:=Lib.hid (hN.out k hlt (edgK_label HX.out (by omega)))
                clear hf ht
                go_wp2
                go_quiet (first|(go_at_call 69;exact Calls.quiet_of_same ((l01In_any _ _ _ _).mono fun _ _ h=>⟨h.1,h.2.symm⟩)))
                go_wp2
                go_ret
                (exact⟨ret_bool hF.out.symm,by exact Qf⟩)
            · have gA:decide ((x.f1.toNat:Int)<97)=true:=by simp;omega
              have hF:=Lib.hid (hN.out k hlt (edgK_label HX.out (by omega)))
              clear hf ht
              go_wp2
              go_quiet (first|(go_at_call 69;exact Calls.quiet_of_same ((l01In_any _ _ _ _).mono fun _ _ h=>⟨h.1,h.2.symm⟩)))
              go_wp2
              go_ret
              (exact⟨ret_bool hF.out.symm,by exact Qf⟩)
          · have gT:decide (0≤x.f2∧x.f2≤n-1)=false:=by rw[decide_eq_false_iff_not];omega
            have hF:=Lib.hid (hN.out k hlt (edgK_to HX.out ht))
            clear hf ht
            go_wp2
            go_quiet (first|(go_at_call 69;exact Calls.quiet_of_same ((l01In_any _ _ _ _).mono fun _ _ h=>⟨h.1,h.2.symm⟩)))
            go_wp2
            go_ret
            (exact⟨ret_bool hF.out.symm,by exact Qf⟩)
        · have gF:decide (0≤x.f0∧x.f0≤n-1)=false:=by rw[decide_eq_false_iff_not];omega
          have hF:=Lib.hid (hN.out k hlt (edgK_from HX.out hf))
          clear hf
          go_wp2
          go_quiet (first|(go_at_call 69;exact Calls.quiet_of_same ((l01In_any _ _ _ _).mono fun _ _ h=>⟨h.1,h.2.symm⟩)))
          go_wp2
          go_ret
          (exact⟨ret_bool hF.out.symm,by exact Qf⟩)
      · have hF:Hid (graphB ⟨n,xs⟩=true):=Lib.hid (hY.out (fun j h=>hj.out j (by omega)))
        go_wp2
        go_ret
        (exact⟨ret_bool hF.out.symm,by exact Qf⟩)
   · have hF:Hid (graphB ⟨n,xs⟩=false):=Lib.hid (graphB_long (g:=⟨n,xs⟩) hl)
     clear hn
     go_enter Tryz.func67,Tryz.ntmps67
     go_wp2_with(go_at_call 69;refine(l01In_any _ _ _ _).mono ?_;rintro e w1 ⟨rfl,rfl⟩)
     go_ret
     (exact⟨ret_bool hF.out.symm,by exact Qf⟩)
 · have gN:decide (1≤n∧n≤12)=false:=by simpa using hn
   have hF:Hid (graphB ⟨n,xs⟩=false):=Lib.hid (graphB_size (g:=⟨n,xs⟩) hn)
   clear hn
   go_enter Tryz.func67,Tryz.ntmps67
   go_wp2_with(go_at_call 69;refine(l01In_any _ _ _ _).mono ?_;rintro e w1 ⟨rfl,rfl⟩)
   go_ret
   (exact⟨ret_bool hF.out.symm,by exact Qf⟩)
set_option maxHeartbeats 4000000 in
set_option maxRecDepth 100000 in
theorem implGraphOk_any (v:Value) (n:Int) (xs:List EdgeR) (w:World) (hv:EdgesR w v xs):
  Calls Tryz.prog 62 #[.agg #[.int .i64 n,v]] w fun e w'=>e= .returned (.bool (graphB ⟨n,xs⟩))∧Fr w w':=by
 obtain⟨ao,ba,oa,ca,rfl,hca,hma,fa⟩:=hv.one
 have FA:=Lib.hid fa
 clear hv fa
 by_cases hn1:1≤n
 · by_cases hn2:n≤12
   · by_cases hl:xs.length≤40
     · have hN:Hid (∀ k,k<xs.length→edgK n xs k=false→graphB ⟨n,xs⟩=false):=Lib.hid fun k hk h=>graphB_no (g:=⟨n,xs⟩) hk h
       have hY:Hid ((∀ j,j<xs.length→edgK n xs j=true)→graphB ⟨n,xs⟩=true):=Lib.hid fun h=>graphB_ok (g:=⟨n,xs⟩) ⟨hn1,hn2⟩ hl h
       have CV:Hid (∀ (x:Int) w',Calls Tryz.prog 133 #[.agg #[.int .i64 n,.slice ao xs.length ca],.int .i64 x] w' fun e w''=>e= .returned (.bool (decide (0≤x∧x<n)))∧Fr w' w''):=Lib.hid fun x w'=>isVertex_any n _ x w'
       go_enter Tryz.func62,Tryz.ntmps62
       go_wp2
       go_loopw [3,4,22] (fun _ _ i wr=> ∃ k:Nat,k≤xs.length∧i= .int .i64 k∧Fr w wr∧Hid (∀ j,j<k→edgK n xs j=true)∧Box wr w.heap.size #[.int .i64 n,.slice ao xs.length ca] 26) (fun _ _ i _=>xs.length-(intOf i).toNat)
       case atStart=>exact⟨0,Nat.zero_le _,rfl,by exact Qf,Lib.hid (fun j hj=>absurd hj (by omega)),Box.new _ _ _⟩
       case round=>
        obtain⟨k,hk,rfl,hfr,hj,BX⟩:=hrel
        have FX:=BX.facts
        have zr:=BX.lt
        by_cases hlt:k<xs.length
        · obtain⟨rfl,hba,fa⟩:=FA.out (by omega);obtain⟨x,hx⟩: ∃ x,edgeAt xs k=x:=⟨_,rfl⟩;obtain⟨y,hy⟩: ∃ y,edgeAt xs (k-1)=y:=⟨_,rfl⟩;obtain⟨g0,g1,g2⟩:=fa k hlt;obtain⟨e0,e1,e2⟩:=fa (k-1) (by omega);rw[hx]at g0 g1 g2;rw[hy]at e0 e1 e2;have c0:=(hfr.cell (p:=⟨ba,_,none⟩) hba).trans g0;have c1:=(hfr.cell (p:=⟨ba,_,none⟩) hba).trans g1;have c2:=(hfr.cell (p:=⟨ba,_,none⟩) hba).trans g2;have E0:=Lib.hid e0;have E1:=Lib.hid e1;have E2:=Lib.hid e2;have hbw:ba<wr.heap.size:=Nat.lt_of_lt_of_le hba hfr.size;have hl:=x.f1.toNat_lt;have HX:=Lib.hid hx;have HY:=Lib.hid hy;clear g0 g1 g2 e0 e1 e2 fa hx hy
          by_cases hf:0≤x.f0∧x.f0<n
          · have gF:decide (0≤x.f0∧x.f0<n)=true:=by simp[hf]
            by_cases ht:0≤x.f2∧x.f2<n
            · have gT:decide (0≤x.f2∧x.f2<n)=true:=by simp[ht]
              by_cases hl1:97≤x.f1.toNat∧x.f1.toNat≤100
              · have gA:decide (97≤x.f1.toNat∧x.f1.toNat≤100)=true:=by simp[hl1]
                have HK:=Lib.hid (fun h=>edgK_ok (n:=n) HX.out HY.out hf ht hl1 h)
                clear hf ht hl1
                go_wp2_with fail
                refine(CV.out _ _).mono ?_
                rintro e w2 ⟨rfl,hf2⟩
                have BG2:=((BX.alloc (.cells #[.int .i64 x.f0,.int .u8 (x.f1.toNat:Int),.int .i64 x.f2] 79)).fr hf2)
                have BE2:Box w2 wr.heap.size #[.int .i64 x.f0,.int .u8 (x.f1.toNat:Int),.int .i64 x.f2] 79:=(Box.new _ _ _).fr hf2
                have FG2:=BG2.facts
                have FE2:=BE2.facts
                rw[gF]
                go_wp2_with fail
                refine(CV.out _ _).mono ?_
                rintro e w3 ⟨rfl,hf3⟩
                have BG3:=BG2.fr hf3
                have BE3:=BE2.fr hf3
                clear FG2 FE2 FX
                have FG3:=BG3.facts
                have FE3:=BE3.facts
                rw[gT]
                go_wp2_with fail
                refine(isLabel_any x.f1 _).mono ?_
                rintro e w4 ⟨rfl,rfl⟩
                rw[gA]
                by_cases hz:k=0
                · have hF:Hid (edgK n xs k=true):=Lib.hid (HK.out (.inl hz))
                  subst hz
                  go_wp2
                  go_quiet (fail)
                  go_wp2
                  go_roundw
                  case rel=>exact⟨1,by omega,by go_num,by exact Qf,Lib.hid (fun j h=>by obtain rfl:j=0:=(by omega);exact hF.out),BX.fr (by exact Qf)⟩
                  case measure=>(simp[intOf];omega)
                · have hk0:0<k:=by omega
                  have gk:decide (0<(k:Int))=true:=by simp;omega
                  have hk2:((k-1:Nat):Int)<xs.length:=by omega
                  have hwk:IntKind.i64.wrap ((k:Int)-1)=((k-1:Nat):Int):=by rw[IntWalk.i64_in _ (by omega)];omega
                  have hfw:Hid (Fr w w4):=Lib.hid (by exact Qf)
                  have RG: ∀ w',Sf w4 w'→ ∀ o,w'.cell? ⟨w.heap.size,o,none⟩= #[Value.int .i64 n,.slice (some ⟨ba,oa,none⟩) xs.length ca][o]? :=fun w' h o=>(BG3.fr h.out).cell o
                  have RX: ∀ w',Sf w4 w'→ ∀ o,w'.cell? ⟨wr.heap.size,o,none⟩= #[Value.int .i64 x.f0,.int .u8 (x.f1.toNat:Int),.int .i64 x.f2][o]? :=fun w' h o=>(BE3.fr h.out).cell o
                  have P0: ∀ w',Sf w4 w'→w'.cell? _=_:=fun w' h=>((hfw.out.trans h.out).cell (p:=⟨ba,_,none⟩) hba).trans E0.out
                  have P1: ∀ w',Sf w4 w'→w'.cell? _=_:=fun w' h=>((hfw.out.trans h.out).cell (p:=⟨ba,_,none⟩) hba).trans E1.out
                  have P2: ∀ w',Sf w4 w'→w'.cell? _=_:=fun w' h=>((hfw.out.trans h.out).cell (p:=⟨ba,_,none⟩) hba).trans E2.out
                  cases hL:edgeLt y x
                  · have hF:=Lib.hid (hN.out k hlt (edgK_less HX.out HY.out hk0 hL))
                    have CT:Hid (∀ w',Calls Tryz.prog 135 #[.agg #[.int .i64 y.f0,.int .u8 (y.f1.toNat:Int),.int .i64 y.f2],.agg #[.int .i64 x.f0,.int .u8 (x.f1.toNat:Int),.int .i64 x.f2]] w' fun e w''=>e= .returned (.bool false)∧Fr w' w''):=Lib.hid fun w'=>by rw[← hL];exact implEdgeLess_any y x w'
                    clear hL
                    go_wp2_with fail
                    go_region_held3 (fun w'=>Sf w4 w') ((refine Sf.mk ?_;repeat(first|(with_reducible exact Fr.refl _)|(with_reducible assumption)|(with_reducible refine Fr.drewN ?_ _)|(with_reducible refine Fr.drew ?_)|(with_reducible refine Fr.alloc ?_ _)|(with_reducible refine Fr.setCell ?_ (by exact Qz) _)|(with_reducible refine Fr.trans ?_ (by with_reducible assumption))))) (first|(go_at_call 135;refine(CT.out _).mono ?_;rintro e w5 ⟨rfl,hf5⟩))
                    all_goals
                     go_wp2_with fail
                     go_ret
                     (exact⟨ret_bool hF.out.symm,by exact Qf⟩)
                  · have hF:Hid (edgK n xs k=true):=Lib.hid (HK.out (.inr hL))
                    have CT:Hid (∀ w',Calls Tryz.prog 135 #[.agg #[.int .i64 y.f0,.int .u8 (y.f1.toNat:Int),.int .i64 y.f2],.agg #[.int .i64 x.f0,.int .u8 (x.f1.toNat:Int),.int .i64 x.f2]] w' fun e w''=>e= .returned (.bool true)∧Fr w' w''):=Lib.hid fun w'=>by rw[← hL];exact implEdgeLess_any y x w'
                    clear hL
                    go_wp2_with fail
                    go_region_held3 (fun w'=>Sf w4 w') ((refine Sf.mk ?_;repeat(first|(with_reducible exact Fr.refl _)|(with_reducible assumption)|(with_reducible refine Fr.drewN ?_ _)|(with_reducible refine Fr.drew ?_)|(with_reducible refine Fr.alloc ?_ _)|(with_reducible refine Fr.setCell ?_ (by exact Qz) _)|(with_reducible refine Fr.trans ?_ (by with_reducible assumption))))) (first|(go_at_call 135;refine(CT.out _).mono ?_;rintro e w5 ⟨rfl,hf5⟩))
                    all_goals
                     clear hwk
                     go_wp2_with fail
                     go_roundw
                     (case rel=>exact⟨k+1,by omega,by go_num,by exact Qf,Lib.hid (fun j h=>(by rcases Nat.lt_succ_iff_lt_or_eq.1 h with h|rfl;exact hj.out j h;exact hF.out)),BX.fr (by exact Qf)⟩);(case measure=>(simp[intOf];omega))
              · have gA:decide (97≤x.f1.toNat∧x.f1.toNat≤100)=false:=by simpa using hl1
                have hF:=Lib.hid (hN.out k hlt (edgK_label HX.out hl1))
                clear hf ht hl1
                go_wp2_with fail
                refine(CV.out _ _).mono ?_
                rintro e w2 ⟨rfl,hf2⟩
                have BG2:=((BX.alloc (.cells #[.int .i64 x.f0,.int .u8 (x.f1.toNat:Int),.int .i64 x.f2] 79)).fr hf2)
                have BE2:Box w2 wr.heap.size #[.int .i64 x.f0,.int .u8 (x.f1.toNat:Int),.int .i64 x.f2] 79:=(Box.new _ _ _).fr hf2
                have FG2:=BG2.facts
                have FE2:=BE2.facts
                rw[gF]
                go_wp2_with fail
                refine(CV.out _ _).mono ?_
                rintro e w3 ⟨rfl,hf3⟩
                have BG3:=BG2.fr hf3
                have BE3:=BE2.fr hf3
                clear FG2 FE2 FX
                have FG3:=BG3.facts
                have FE3:=BE3.facts
                rw[gT]
                go_wp2_with fail
                refine(isLabel_any x.f1 _).mono ?_
                rintro e w4 ⟨rfl,rfl⟩
                rw[gA]
                go_wp2
                go_ret
                (exact⟨ret_bool hF.out.symm,by exact Qf⟩)
            · have gT:decide (0≤x.f2∧x.f2<n)=false:=by simpa using ht
              have hF:=Lib.hid (hN.out k hlt (edgK_to HX.out ht))
              clear hf ht
              go_wp2_with fail
              refine(CV.out _ _).mono ?_
              rintro e w2 ⟨rfl,hf2⟩
              have BG2:=((BX.alloc (.cells #[.int .i64 x.f0,.int .u8 (x.f1.toNat:Int),.int .i64 x.f2] 79)).fr hf2)
              have BE2:Box w2 wr.heap.size #[.int .i64 x.f0,.int .u8 (x.f1.toNat:Int),.int .i64 x.f2] 79:=(Box.new _ _ _).fr hf2
              have FG2:=BG2.facts
              have FE2:=BE2.facts
              rw[gF]
              go_wp2_with fail
              refine(CV.out _ _).mono ?_
              rintro e w3 ⟨rfl,hf3⟩
              rw[gT]
              go_wp2
              go_ret
              (exact⟨ret_bool hF.out.symm,by exact Qf⟩)
          · have gF:decide (0≤x.f0∧x.f0<n)=false:=by simpa using hf
            have hF:=Lib.hid (hN.out k hlt (edgK_from HX.out hf))
            clear hf
            go_wp2_with fail
            refine(CV.out _ _).mono ?_
            rintro e w2 ⟨rfl,hf2⟩
            rw[gF]
            go_wp2
            go_ret
            (exact⟨ret_bool hF.out.symm,by exact Qf⟩)
        · have hF:Hid (graphB ⟨n,xs⟩=true):=Lib.hid (hY.out (fun j h=>hj.out j (by omega)))
          go_wp2
          go_ret
          (exact⟨ret_bool hF.out.symm,by exact Qf⟩)
     · have hF:Hid (graphB ⟨n,xs⟩=false):=Lib.hid (graphB_long (g:=⟨n,xs⟩) hl)
       go_enter Tryz.func62,Tryz.ntmps62
       go_wp2
       go_ret
       (exact⟨ret_bool hF.out.symm,by exact Qf⟩)
   · have hF:Hid (graphB ⟨n,xs⟩=false):=Lib.hid (graphB_size (g:=⟨n,xs⟩) (by show ¬ (1≤n∧n≤12);omega))
     go_enter Tryz.func62,Tryz.ntmps62
     go_wp2
     go_ret
     (exact⟨ret_bool hF.out.symm,by exact Qf⟩)
 · have hF:Hid (graphB ⟨n,xs⟩=false):=Lib.hid (graphB_size (g:=⟨n,xs⟩) (by show ¬ (1≤n∧n≤12);omega))
   go_enter Tryz.func62,Tryz.ntmps62
   go_wp2
   go_ret
   (exact⟨ret_bool hF.out.symm,by exact Qf⟩)
end Go.Proofs.YtjnahjgncmcmdaaGreat