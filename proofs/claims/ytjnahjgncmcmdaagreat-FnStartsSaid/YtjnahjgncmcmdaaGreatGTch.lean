/- Texts in one: TWalk, NWalkSS, OParcel, Nest2, NParcelS, Tch. -/
import Derived.Test.YtjnahjgncmcmdaaGreatGSWalk
import Derived.Deep.QuietTactic
import Derived.BigQuiet
import Derived.Deep.RegionHeld3
namespace Go.Proofs.YtjnahjgncmcmdaaGreat
open Go.RowKit
set_option linter.unusedVariables false
set_option linter.unusedSimpArgs false
def mkWalk (k:Int):WalkR:=⟨k,(k+1),(k+1+1),(k+1+1+1)⟩
def mkWalks (k:Int) (n:Nat):List WalkR:=(List.range n).map fun i:Nat=>mkWalk (k+4*i)
theorem mkWalks_length (k:Int) (n:Nat):(mkWalks k n).length=n:=by simp[mkWalks]
theorem mkWalks_at (k:Int) (n j:Nat) (h:j<n):walkAt (mkWalks k n) j=mkWalk (k+4*j):=by simp[mkWalks,walkAt,List.getD,h]
theorem walk_oneCells (xs:List WalkR): ∀ u∈xs.flatMap WalkR.cells,u.oneCell'=true:=by
 intro u hu
 obtain⟨x,_,h⟩:=List.mem_flatMap.1 hu
 simp only[WalkR.cells,List.mem_cons,List.not_mem_nil,or_false]at h
 rcases h with rfl|rfl|rfl|rfl<;>rfl
def WalksW (w:World) (lo hi:Nat) (v:Value) (xs:List WalkR):Prop:=OwW w lo hi 48 4 v xs.length (xs.flatMap WalkR.cells)
theorem WalksW.rd {w:World} {lo hi:Nat} {v:Value} {xs:List WalkR} (h:WalksW w lo hi v xs):WalksR w v xs:=OwW.rd h
theorem WalksW.val {w:World} {lo hi:Nat} {v:Value} {xs:List WalkR} (h:WalksW w lo hi v xs): ∃ ao cap,v= .slice ao xs.length cap:=OwW.val h
theorem WalksW.fr {w w':World} {lo hi:Nat} {v:Value} {xs:List WalkR} (h:WalksW w lo hi v xs) (hf:Fr w w'):WalksW w' lo hi v xs:=OwW.fr h hf
theorem WalksW.span {w w':World} {lo hi:Nat} {v:Value} {xs:List WalkR} (h:WalksW w lo hi v xs) {a b:Nat} (s:Span a b w w') (hd:hi≤a∨b≤lo):WalksW w' lo hi v xs:=OwW.span h s hd
theorem WalksW.nil (w:World) (lo hi:Nat):WalksW w lo hi (.slice none 0 0) []:=OwW.nil _ _ _ _ _
theorem walk_part (new old:List WalkR) (m:Nat) (hm:m<old.length) (hl:new.length=old.length):(((((partR new old WalkR.cells m).set (m*4) (Value.int .i64 (walkAt new m).f0)).set (m*4+1) (Value.int .i64 (walkAt new m).f1)).set (m*4+2) (Value.int .i64 (walkAt new m).f2)).set (m*4+3) (Value.int .i64 (walkAt new m).f3))=partR new old WalkR.cells (m+1):=by
 rw[partR_split new old WalkR.cells m hm]
 have ha:((new.take m).flatMap WalkR.cells).length=m*4:=flat_len new WalkR.cells 4 WalkR.cells_length m (by omega)
 rw[set_mid _ _ _ 0 _ (by rw[ha];rfl) (by rw[WalkR.cells_length];omega)]
 rw[set_mid _ _ _ 1 _ (by rw[ha]) (by simp only[List.length_set];rw[WalkR.cells_length];omega)]
 rw[set_mid _ _ _ 2 _ (by rw[ha]) (by simp only[List.length_set];rw[WalkR.cells_length];omega)]
 rw[set_mid _ _ _ 3 _ (by rw[ha]) (by simp only[List.length_set];rw[WalkR.cells_length];omega)]
 rw[partR_next new old WalkR.cells m (by omega)]
 rfl
set_option maxHeartbeats 1000000 in
set_option maxRecDepth 100000 in
theorem markWalkS_any (g n cap:Nat) (xs:List WalkR) (k:Int) (lo:Nat) (w:World) (ha:w.ownsRow lo 48 4 (.slice (some ⟨g,0,none⟩) n cap) n (xs.flatMap WalkR.cells)) (hn:xs.length=n) (h0:0<k) (h1:k+4*n≤4611686018427387904):
  Calls Tryz.prog 178 #[.slice (some ⟨g,0,none⟩) n cap,.int .i64 k] w fun e w'=>e= .returned (.int .i64 (k+4*n))∧w'.ownsRow lo 48 4 (.slice (some ⟨g,0,none⟩) n cap) n ((mkWalks k n).flatMap WalkR.cells)∧w.grownBy w' (some g):=by
 have hg0:g<w.heap.size:=(ha.lt g rfl).2
 go_enter Tryz.func178,Tryz.ntmps178
 go_wp2
 go_loopw [1,5] (fun l i wr=> ∃ m:Nat,m≤n∧i= .int .i64 m∧l= .int .i64 (k+4*m)∧wr.ownsRow lo 48 4 (.slice (some ⟨g,0,none⟩) n cap) n (partR (mkWalks k n) xs WalkR.cells m)∧w.grownBy wr (some g)) (fun _ i _=>n-(intOf i).toNat)
 case atStart=>exact⟨0,Nat.zero_le _,rfl,by simp,by rw[partR_zero];exact ha,World.grownBy.refl _ _⟩
 case round=>
  clear ha
  obtain⟨m,hm,rfl,rfl,ho,hfr⟩:=hrel
  by_cases hlt:m<n
  · have hp:=walk_part (mkWalks k n) xs m (by omega) (by rw[mkWalks_length,hn])
    rw[mkWalks_at k n m hlt]at hp
    have HP:=Lib.hid hp
    clear hp
    have f0:=ho.frozenAt (m*4);obtain⟨u0,c0⟩:=owns_cell ho (m*4) (by omega);have s0:=ho.stored (m*4) (.int .i64 (k+4*m))
    have f1:=s0.1.frozenAt (m*4+1);obtain⟨u1,c1⟩:=owns_cell s0.1 (m*4+1) (by omega);have s1:=s0.1.stored (m*4+1) (.int .i64 (k+4*m+1))
    have f2:=s1.1.frozenAt (m*4+2);obtain⟨u2,c2⟩:=owns_cell s1.1 (m*4+2) (by omega);have s2:=s1.1.stored (m*4+2) (.int .i64 (k+4*m+1+1))
    have f3:=s2.1.frozenAt (m*4+3);obtain⟨u3,c3⟩:=owns_cell s2.1 (m*4+3) (by omega);have s3:=s2.1.stored (m*4+3) (.int .i64 (k+4*m+1+1+1))
    go_wp2_with fail
    go_roundw
    case rel=>exact⟨m+1,by omega,by go_num,by go_num,HP.out▸s3.1,gr_trans (gr_trans (gr_trans (gr_trans hfr (s0.2)) (s1.2)) (s2.2)) (s3.2)⟩
    case measure=>(simp[intOf];omega)
  · obtain rfl:m=n:=by omega
    rw[partR_all _ _ _ m (by rw[mkWalks_length]) hn]at ho
    go_wp2
    go_ret
    exact⟨rfl,ho,hfr⟩
theorem markWalkS_w (v:Value) (xs:List WalkR) (k:Int) (lo hi:Nat) (w:World) (ha:WalksW w lo hi v xs) (h0:0<k) (h1:k+4*xs.length≤4611686018427387904):
  Calls Tryz.prog 178 #[v,.int .i64 k] w fun e w'=>e= .returned (.int .i64 (k+4*xs.length))∧WalksW w' lo hi v (mkWalks k xs.length)∧Span lo hi w w':=by
 rcases owns_shape ha.1 with⟨rfl,hn,hx⟩|⟨g,cap,rfl,_⟩
 · have h3:xs=[]:=List.eq_nil_of_length_eq_zero hn
   subst h3
   clear ha hn hx
   go_enter Tryz.func178,Tryz.ntmps178
   go_wp2
   go_loopw [1,5] (fun l i wr=>i= .int .i64 0∧l= .int .i64 k∧wr=w) (fun _ i _=>0)
   case atStart=>exact⟨rfl,rfl,rfl⟩
   case round=>
    obtain⟨rfl,rfl,rfl⟩:=hrel
    go_wp2
    go_ret
    exact⟨by simp,by simpa [WalksW,mkWalks]using OwW.nil _ _ _ _ _,Span.refl _ _ _⟩
 · refine(markWalkS_any g xs.length cap xs k lo w ha.1 rfl h0 h1).mono fun e w' h=>⟨h.1,⟨?_,ha.2⟩,Span.of_gr h.2.2 ha.2⟩
   rw[mkWalks_length]
   exact h.2.1
set_option maxHeartbeats 1000000 in
set_option maxRecDepth 100000 in
theorem heldWalkS_any (a:Value) (k:Int) (n:Nat) (w:World) (ha:WalksR w a (mkWalks k n)) (h0:0<k) (h1:k+4*n≤4611686018427387904):
  Calls Tryz.prog 179 #[a,.int .i64 k] w fun e w'=>e= .returned (.int .i64 (k+4*n))∧Fr w w':=by
 obtain⟨ao,ba,oa,ca,rfl,hca,hma,fa⟩:=ha.one
 clear ha
 rw[mkWalks_length]at hca fa ⊢
 go_enter Tryz.func179,Tryz.ntmps179
 go_wp2
 go_loopw [1,5] (fun l i wr=> ∃ m:Nat,m≤n∧i= .int .i64 m∧l= .int .i64 (k+4*m)∧Fr w wr) (fun _ i _=>n-(intOf i).toNat)
 case atStart=>exact⟨0,Nat.zero_le _,rfl,by simp,Fr.refl _⟩
 case round=>
  obtain⟨m,hm,rfl,rfl,hfr⟩:=hrel
  by_cases hlt:m<n
  · obtain⟨rfl,hba,fa⟩:=fa (by omega)
    have c0: ∀ w',Fr wr w'→w'.cell? ⟨ba,oa+m*4,none⟩=some (.int .i64 (k+4*m)):=fun w' hf=>((hfr.trans hf).cell (p:=⟨ba,_,none⟩) hba).trans ((fa m hlt).1.trans (by rw[mkWalks_at k n m hlt];rfl))
    have c1: ∀ w',Fr wr w'→w'.cell? ⟨ba,oa+m*4+1,none⟩=some (.int .i64 (k+4*m+1)):=fun w' hf=>((hfr.trans hf).cell (p:=⟨ba,_,none⟩) hba).trans ((fa m hlt).2.1.trans (by rw[mkWalks_at k n m hlt];rfl))
    have c2: ∀ w',Fr wr w'→w'.cell? ⟨ba,oa+m*4+2,none⟩=some (.int .i64 (k+4*m+1+1)):=fun w' hf=>((hfr.trans hf).cell (p:=⟨ba,_,none⟩) hba).trans ((fa m hlt).2.2.1.trans (by rw[mkWalks_at k n m hlt];rfl))
    have c3: ∀ w',Fr wr w'→w'.cell? ⟨ba,oa+m*4+3,none⟩=some (.int .i64 (k+4*m+1+1+1)):=fun w' hf=>((hfr.trans hf).cell (p:=⟨ba,_,none⟩) hba).trans ((fa m hlt).2.2.2.trans (by rw[mkWalks_at k n m hlt];rfl))
    clear fa
    have d0:=c0 wr (by exact Qf)
    have d1:=c1 wr (by exact Qf)
    have d2:=c2 wr (by exact Qf)
    have d3:=c3 wr (by exact Qf)
    go_wp2_with fail
    try go_quiet (fail)
    try go_wp2_with fail
    try go_wp2_with fail
    go_roundw
    case rel=>exact⟨m+1,by omega,by go_num,by go_num,by exact Qf⟩
    case measure=>(simp[intOf];omega)
  · clear fa
    obtain rfl:m=n:=by omega
    go_wp2
    go_ret
    exact⟨rfl,hfr⟩
theorem heldWalkS_w (a:Value) (k:Int) (n:Nat) (w:World) (ha:WalksR w a (mkWalks k n)) (h0:0<k) (h1:k+4*n≤4611686018427387904):
  Calls Tryz.prog 179 #[a,.int .i64 k] w fun e w'=>e= .returned (.int .i64 (k+4*n))∧Fr w w':=heldWalkS_any a k n w ha h0 h1
set_option maxHeartbeats 1000000 in
set_option maxRecDepth 100000 in
theorem cloneWalk_w (v:Value) (xs:List WalkR) (w:World) (hv:WalksR w v xs) (hn:xs.length≤1048576):
  Calls Tryz.prog 87 #[v] w fun e w'=> ∃ ao cap,e= .returned (.slice ao xs.length cap)∧WalksW w' w.heap.size w'.heap.size (.slice ao xs.length cap) xs∧Fr w w':=by
 obtain⟨ao,cap,rfl,hnil⟩:=RdS.val hv
 obtain⟨i0,hi,hz0,hz1,hz2⟩:=info_parts info_Walk
 have q: ∀ (w:World) (a:Option Addr) (n c n' c':Nat),(binOp .eql 43 (.slice a n c) (.slice none n' c')).run Tryz.prog w= .ok (.bool a.isNone) w:=fun w a n c n' c'=>Lib.run_eql_slice_nil w _ _ a n c n' c' Tryz.underlying43
 cases ao with
 |none=>
  have h3:xs=[]:=List.eq_nil_of_length_eq_zero (hnil rfl)
  subst h3
  clear hnil hv
  go_enter Tryz.func87,Tryz.ntmps87
  go_wp2
  go_ret
  exact⟨none,0,rfl,WalksW.nil _ _ _,by exact Qf⟩
 |some a=>
  clear hnil
  have HV:=Lib.hid hv
  clear hv
  go_enter Tryz.func87,Tryz.ntmps87
  go_wp2_with(at_builtin;refine wpList_append_rd rfl _ _ 43 rfl w.heap.size 48 i0 (.agg #[.int .i64 0,.int .i64 0,.int .i64 0,.int .i64 0]) 4 32 Tryz.underlying43 hi hz0 hz1 hz2 rfl (by decide) (.slice (some ⟨w.heap.size,0,none⟩) 0 0) 0 [] rfl (World.ownsRow_made w #[] 0 (Nat.le_refl _) (Nat.zero_le _) rfl) _ xs.length (xs.flatMap WalkR.cells) rfl (RdS.fr HV.out (by exact Qf)) (walk_oneCells _) (by unfold maxLen;omega) (by omega) (by exact Qz) ?_;intro ao' cap' w1 hown hgrow hat)
  go_ret
  simp only[Nat.zero_add]at hown ⊢
  exact⟨ao',cap',rfl,OwW.of_owns (by simpa using hown),((Fr.refl _).alloc _).grown hgrow (by intro k hk;simp[Value.ownBlock]at hk;omega)⟩
def WalkssE (w:World) (u:List Value) (d:List WalkR):Prop:= ∃ a,u=[a]∧WalksR w a d
def WalkssEW (w:World) (lo hi:Nat) (u:List Value) (d:List WalkR):Prop:= ∃ ao cap,u=[.slice ao d.length cap]∧WalksW w lo hi (.slice ao d.length cap) d
theorem WalkssE.fr {w w':World} {u:List Value} {d:List WalkR} (h:WalkssE w u d) (hf:Fr w w'):WalkssE w' u d:=by obtain⟨a,h1,h2⟩:=h;exact⟨a,h1,h2.fr hf⟩
theorem WalkssEW.span {w w':World} {lo hi:Nat} {u:List Value} {d:List WalkR} {a b:Nat} (h:WalkssEW w lo hi u d) (s:Span a b w w') (hd:hi≤a∨b≤lo):WalkssEW w' lo hi u d:=by obtain⟨x,y,h1,h2⟩:=h;exact⟨x,y,h1,h2.span s hd⟩
theorem WalkssEW.ab {w w':World} {lo hi:Nat} {u:List Value} {d:List WalkR} (h:WalkssEW w lo hi u d) (s:Ab lo w w'):WalkssEW w' lo hi u d:=by obtain⟨x,y,h1,h2⟩:=h;exact⟨x,y,h1,OwW.ab h2 s⟩
theorem WalkssEW.rd {w:World} {lo hi:Nat} {u:List Value} {d:List WalkR} (h:WalkssEW w lo hi u d):WalkssE w u d:=by obtain⟨x,y,h1,h2⟩:=h;exact⟨_,h1,h2.rd⟩
def WalkSSR (w:World) (v:Value) (xs:List (List WalkR)):Prop:=NestR WalkssE 1 w v xs
def WalkSSW (w:World) (lo hi:Nat) (v:Value) (xs:List (List WalkR)):Prop:=NestW WalkssEW 43 1 w lo hi v xs
theorem WalkSSR.fr {w w':World} {v:Value} {xs:List (List WalkR)} (h:WalkSSR w v xs) (hf:Fr w w'):WalkSSR w' v xs:=NestR.fr (E:=WalkssE) (fun a b=>WalkssE.fr a b) h hf
theorem WalkSSW.fr {w w':World} {lo hi:Nat} {v:Value} {xs:List (List WalkR)} (h:WalkSSW w lo hi v xs) (hf:Fr w w'):WalkSSW w' lo hi v xs:=NestP.fr (E:=WalkssEW) (fun a b c=>WalkssEW.span a b c) h hf
theorem WalkSSW.span {w w':World} {lo hi:Nat} {v:Value} {xs:List (List WalkR)} (h:WalkSSW w lo hi v xs) {a b:Nat} (s:Span a b w w') (hd:hi≤a∨b≤lo):WalkSSW w' lo hi v xs:=NestP.span (E:=WalkssEW) (fun a b c=>WalkssEW.span a b c) h s hd
theorem WalkSSW.ab {w w':World} {lo hi:Nat} {v:Value} {xs:List (List WalkR)} (h:WalkSSW w lo hi v xs) (s:Ab lo w w'):WalkSSW w' lo hi v xs:=NestP.ab (E:=WalkssEW) (fun a b=>WalkssEW.ab a b) h s
theorem WalkSSW.rd {w:World} {lo hi:Nat} {v:Value} {xs:List (List WalkR)} (h:WalkSSW w lo hi v xs):WalkSSR w v xs:=NestP.rd (E:=WalkssEW) (E':=WalkssE) (fun a=>WalkssEW.rd a) h
theorem WalkSSW.val {w:World} {lo hi:Nat} {v:Value} {xs:List (List WalkR)} (h:WalkSSW w lo hi v xs): ∃ ao cap,v= .slice ao xs.length cap:=NestW.val h
theorem WalkSSR.one {w:World} {v:Value} {xs:List (List WalkR)} (h:WalkSSR w v xs):
  ∃ ao b o cap,v= .slice ao xs.length cap∧xs.length≤cap∧cap≤9223372036854775807∧(0<xs.length→ao=some ⟨b,o,none⟩∧b<w.heap.size∧ ∀ k,k<xs.length→ ∃ a,WalksR w a (nAt xs k)∧w.cell? ⟨b,o+k,none⟩=some (a)):=by
 obtain⟨ao,b,o,cap,h1,h2,h3,h4⟩:=NestR.one h
 refine⟨ao,b,o,cap,h1,h2,h3,fun hn=>⟨(h4 hn).1,(h4 hn).2.1,fun k hk=>?_⟩⟩
 obtain⟨u,_,⟨a,hu,ha⟩,hc⟩:=(h4 hn).2.2 k hk
 rw[hu]at hc
 exact⟨a,ha,by simpa using hc 0 _ (by omega) rfl⟩
theorem info_Walkss:(Tryz.prog.info? 43).map (fun i=>(i.zero,i.size,i.bytes))=some (some (.slice none 0 0),1,24):=by kernel_rfl
def WalkSSBulk (xs:List (List WalkR)):Nat:=nBulk List.length xs
def WalkSSOk (xs:List (List WalkR)):Prop:= ∀ x∈xs,(fun _=>True) x
set_option maxHeartbeats 1000000 in
theorem eqWalkSS_same (a b:Value) (xs:List (List WalkR)) (w:World) (ha:WalkSSR w a xs) (hb:WalkSSR w b xs):
  Calls Tryz.prog 117 #[a,b] w fun e w'=>e= .returned (.bool true)∧Fr w w':=by
 obtain⟨ao,ba,oa,ca,rfl,hca,hma,fa⟩:=ha.one
 obtain⟨bo,bb,ob,cb,rfl,hcb,hmb,fb⟩:=hb.one
 clear ha hb
 go_enter Tryz.func117,Tryz.ntmps117
 go_wp2
 go_loopw [5] (fun i wr=> ∃ k:Nat,k≤xs.length∧i= .int .i64 k∧Fr w wr) (fun i _=>xs.length-(intOf i).toNat)
 case atStart=>exact⟨0,Nat.zero_le _,rfl,Fr.refl _⟩
 case round=>
  obtain⟨k,hk,rfl,hfr⟩:=hrel
  by_cases hlt:k<xs.length
  · obtain⟨rfl,hba,fa⟩:=fa (by omega)
    obtain⟨rfl,hbb,fb⟩:=fb (by omega)
    obtain⟨ac,ra,ga⟩:=fa k hlt
    obtain⟨ae,rb,gb⟩:=fb k hlt
    obtain⟨x,hx⟩: ∃ x,nAt xs k=x:=⟨_,rfl⟩
    have c0: ∀ w',Sf wr w'→w'.cell? ⟨ba,oa+k,none⟩=some (ac):=fun w' hf=>((hfr.trans hf.out).cell (p:=⟨ba,_,none⟩) hba).trans (by first|exact ga|(rw[← hx];exact ga))
    have e0: ∀ w',Sf wr w'→w'.cell? ⟨bb,ob+k,none⟩=some (ae):=fun w' hf=>((hfr.trans hf.out).cell (p:=⟨bb,_,none⟩) hbb).trans (by first|exact gb|(rw[← hx];exact gb))
    rw[hx]at ra rb
    have RA:=Lib.hid (RdS.fr ra hfr)
    have RB:=Lib.hid (RdS.fr rb hfr)
    obtain⟨aoc,capc,rfl,_⟩:=RdS.val ra
    obtain⟨aoe,cape,rfl,_⟩:=RdS.val rb
    clear fa fb hx ga gb ra rb
    go_wp2_with fail
    go_region_held3 (fun w'=>Sf wr w') ((refine Sf.mk ?_;repeat(first|(with_reducible exact Fr.refl _)|(with_reducible assumption)|(with_reducible refine Fr.drewN ?_ _)|(with_reducible refine Fr.drew ?_)|(with_reducible refine Fr.alloc ?_ _)|(with_reducible refine Fr.setCell ?_ (by exact Qz) _)|(with_reducible refine Fr.trans ?_ (by with_reducible assumption))))) (first|(go_at_call 172;refine(eqWalkS_same _ _ x _ (RdS.fr RA.out (by exact Qf)) (RdS.fr RB.out (by exact Qf))).mono ?_;rintro e w2 ⟨rfl,hf1⟩))
    go_wp2_with fail
    go_roundw
    case rel=>exact⟨k+1,by omega,by go_num,by exact Qf⟩
    case measure=>(simp[intOf];omega)
  · clear fa fb
    go_wp2
    go_ret
    exact⟨rfl,hfr⟩
structure ParcelD where
 f0:Int
 f1:List WalkR
def ParcelRd (w:World) (v:Value) (d:ParcelD):Prop:= ∃ u,v= .agg #[.int .i64 d.f0,u]∧WalksR w u d.f1
def ParcelW (w:World) (lo hi:Nat) (v:Value) (d:ParcelD):Prop:= ∃ ao cap,v= .agg #[.int .i64 d.f0,.slice ao d.f1.length cap]∧WalksW w lo hi (.slice ao d.f1.length cap) d.f1
theorem ParcelRd.fr {w w':World} {v:Value} {d:ParcelD} (h:ParcelRd w v d) (hf:Fr w w'):ParcelRd w' v d:=by obtain⟨u,h1,h2⟩:=h;exact⟨u,h1,h2.fr hf⟩
theorem ParcelW.fr {w w':World} {lo hi:Nat} {v:Value} {d:ParcelD} (h:ParcelW w lo hi v d) (hf:Fr w w'):ParcelW w' lo hi v d:=by obtain⟨a,c,h1,h2⟩:=h;exact⟨a,c,h1,h2.fr hf⟩
theorem ParcelW.rd {w:World} {lo hi:Nat} {v:Value} {d:ParcelD} (h:ParcelW w lo hi v d):ParcelRd w v d:=by obtain⟨a,c,h1,h2⟩:=h;exact⟨_,h1,h2.rd⟩
theorem ParcelW.span {w w':World} {lo hi:Nat} {v:Value} {d:ParcelD} (h:ParcelW w lo hi v d) {a b:Nat} (s:Span a b w w') (hd:hi≤a∨b≤lo):ParcelW w' lo hi v d:=by obtain⟨x,c,h1,h2⟩:=h;exact⟨x,c,h1,h2.span s hd⟩
theorem ParcelW.val {w:World} {lo hi:Nat} {v:Value} {d:ParcelD} (h:ParcelW w lo hi v d): ∃ ao cap,v= .agg #[.int .i64 d.f0,.slice ao d.f1.length cap]:=by obtain⟨a,c,h1,h2⟩:=h;exact⟨a,c,h1⟩
set_option maxHeartbeats 1000000 in
theorem eqParcel_same (a b:Value) (d:ParcelD) (w:World) (ha:ParcelRd w a d) (hb:ParcelRd w b d):
  Calls Tryz.prog 173 #[a,b] w fun e w'=>e= .returned (.bool true)∧Fr w w':=by
 obtain⟨u,rfl,hu⟩:=ha
 obtain⟨v,rfl,hv⟩:=hb
 go_enter Tryz.func173,Tryz.ntmps173
 go_wp2_with(go_at_call 172;refine(eqWalkS_same _ _ d.f1 _ (hu.fr (by exact Qf)) (hv.fr (by exact Qf))).mono ?_;rintro e w1 ⟨rfl,hf⟩;have z1:=hf.size;(try simp only[World.size_alloc,World.size_setCell,World.size_drew]at z1);have k0:=hf.blk w.heap.size (by exact Qz);have k1:=hf.blk (w.heap.size+1) (by exact Qz))
 go_ret
 exact⟨rfl,by exact Qf⟩
def ParcelD.bulk (d:ParcelD):Nat:=(d.f1.length)
def ParcelD.okSize (d:ParcelD):Prop:=True
def ParcelD.cnt (d:ParcelD):Nat:=4*d.f1.length
theorem flatten_set {sz:Nat}: ∀ {us:List (List Value)},(∀ u∈us,u.length=sz)→ ∀ (k j:Nat) u c,us[k]? =some u→j<sz→us.flatten.set (k*sz+j) c=(us.set k (u.set j c)).flatten
 |[],_,k,j,u,c,h,_=>by simp at h
 |a::us,hl,k,j,u,c,h,hj=>by
  have ha:a.length=sz:=hl a (by simp)
  rw[List.flatten_cons]
  cases k with
  |zero=>
   simp at h
   subst h
   rw[Nat.zero_mul,Nat.zero_add,List.set_append_left _ _ (by omega)]
   simp
  |succ k=>
   rw[List.set_append_right _ _ (by rw[ha,Nat.add_mul];omega),ha,show(k+1)*sz+j-sz=k*sz+j by rw[Nat.add_mul];omega]
   rw[flatten_set (fun u hu=>hl u (by simp[hu])) k j u c (by simpa using h) hj]
   simp
theorem set_mid' {α:Type} (A B:List α) (k:Nat) (x y:α) (hA:A.length=k):(A++y::B).set k x=(A++[x])++B:=by
 subst hA
 rw[List.set_append_right _ _ (Nat.le_refl _),Nat.sub_self]
 simp
theorem mid_at {α:Type} [Inhabited α] (A B:List α) (k:Nat) (y:α) (hA:A.length=k):nAt (A++y::B) k=y:=by
 subst hA
 simp[nAt,List.getD]
theorem grown_cell {w w':World} {row:Option Nat} (hg:w.grownBy w' row) {b:Nat} (hb:b<w.heap.size) (hne:row≠some b): ∀ o,w'.cell? ⟨b,o,none⟩=w.cell? ⟨b,o,none⟩:=by
 cases row with
 |none=>exact((Span.of_gr (lo:=0) (hi:=0) hg (fun k hk=>by cases hk)).blk b hb (.inr (Nat.zero_le _))).1
 |some g=>exact((Span.of_gr (lo:=g) (hi:=g+1) hg (fun k hk=>by cases hk;omega)).blk b hb (by have:b≠g:=fun e=>hne (by rw[e]);omega)).1
theorem RdS.move {w w':World} {ao:Option Addr} {sz n cap b:Nat} {xs:List Value} (h:RdS w sz (.slice ao n cap) n xs) (hb:0<n→ ∃ o,ao=some ⟨b,o,none⟩) (hs:w.heap.size≤w'.heap.size) (hc:0<n→ ∀ o,w'.cell? ⟨b,o,none⟩=w.cell? ⟨b,o,none⟩):RdS w' sz (.slice ao n cap) n xs:=by
 obtain⟨h1,ao',cap',hv,h2,h3,h4⟩:=h
 cases hv
 refine⟨h1,ao,cap,rfl,h2,h3,fun hn=>?_⟩
 obtain⟨b',o,he,hb',hcl⟩:=h4 hn
 obtain⟨o2,he2⟩:=hb hn
 rw[he]at he2
 cases he2
 exact⟨b,o,he,by omega,fun j hj=>(hc hn _).trans (hcl j hj)⟩
section
variable {α:Type} {E:World→Nat→Nat→List Value→α→Prop} {T:TypeId} {sz:Nat} {w:World} {lo hi:Nat} {v:Value} {xs:List α}
/-- An element more: behind an append of its cells. -/
theorem NestW.app (hE: ∀ {w w' l h u x a b},E w l h u x→Span a b w w'→(h≤a∨b≤l)→E w' l h u x) (h:NestW E T sz w lo hi v xs):
  ∃ ys:List Value,OwW w lo hi T sz v xs.length ys∧ ∀ (v':Value) (w' w'':World) (u:List Value) (x:α) (l1 h1 hi' H:Nat),Fr w w'→w''.ownsRow lo T sz v' (xs.length+1) (ys++u)→w'.grownBy w'' v.ownBlock→(v'.ownBlock=v.ownBlock∨v'.ownBlock=some H)→
   RowIn lo hi' v'→h1≤H→h1≤hi'→u.length=sz→E w' l1 h1 u x→lo≤l1→hi≤l1→l1≤h1→NestW E T sz w'' lo hi' v' (xs++[x]):=by
 obtain⟨us,los,his,b1,b2,b3,b4⟩:=h
 rw[List.append_nil]at b2
 refine⟨us.flatten,b2,fun v' w' w'' u x l1 h1 hi' H hf ho hg hat c2 c1 c3' hu he d1 d2 d3=>?_⟩
 have hin:=b2.2
 have sp: ∀ l h,(∀ g,v.ownBlock=some g→g<l∨h≤g)→ ∀ u x,E w' l h u x→E w'' l h u x:=by
  intro l h hd u x he
  cases hv:v.ownBlock with
  |none=>rw[hv]at hg;exact hE he (Span.of_gr (lo:=h) (hi:=h) hg (fun k hk=>by cases hk)) (.inl (Nat.le_refl _))
  |some g=>
   rw[hv]at hg
   exact hE he (Span.of_gr (lo:=g) (hi:=g+1) hg (fun k hk=>by cases hk;omega)) (by have:=hd g hv;omega)
 refine⟨us++[u],fun k=>if k=xs.length then l1 else los k,fun k=>if k=xs.length then h1 else his k,by simp[b1],⟨?_,?_⟩,fun k u' x' hu' hx'=>?_,fun j k hjk hk=>?_⟩
 · simpa [b1]using ho
 · exact c2
 · by_cases hk:k=xs.length
   · subst hk
     rw[List.getElem?_append_right (by omega),b1,Nat.sub_self]at hu'
     rw[List.getElem?_append_right (by omega),Nat.sub_self]at hx'
     simp at hu' hx'
     subst hu' hx'
     simp only[if_true]
     refine⟨hu,sp _ _ (fun g hg=>by have:=hin g hg;omega) _ _ he,d1,d3,by omega,fun g hg=>?_⟩
     rcases hat with e|e
     · rw[e]at hg;have:=hin g hg;omega
     · rw[e]at hg;cases hg;omega
   · have hk2:k<xs.length:=by
      have:=(List.getElem?_eq_some_iff.1 hx').1
      simp at this
      omega
     rw[List.getElem?_append_left (by omega)]at hu' hx'
     simp only[if_neg hk]
     obtain⟨c1',c2',c3,c4,c5,c6⟩:=b3 k u' x' hu' hx'
     refine⟨c1',sp _ _ c6 _ _ (hE c2' (Span.of_fr (lo:=his k) (hi:=his k) hf) (.inl (Nat.le_refl _))),c3,c4,by omega,fun g hg=>?_⟩
     rcases hat with e|e
     · rw[e]at hg;exact c6 g hg
     · rw[e]at hg;cases hg;omega
 · simp at hk
   simp only[if_neg (show ¬ j=xs.length by omega)]
   split
   · have huj:us[j]? =some (us[j]'(by omega)):=List.getElem?_eq_getElem _
     obtain⟨e1,e2,e3,e4,e5,e6⟩:=b3 j _ _ huj (List.getElem?_eq_getElem (by omega))
     omega
   · exact b4 j k hjk (by omega)
theorem NestW.rowIn (h:NestW E T sz w lo hi v xs):RowIn lo hi v:=by obtain⟨us,los,his,h1,h2,h3,h4⟩:=h;exact h2.2
/-- One element of an owned row: its cells, and what is left when they or its blocks turn. -/
theorem NestW.turn [Inhabited α] (hE: ∀ {w w' l h u x a b},E w l h u x→Span a b w w'→(h≤a∨b≤l)→E w' l h u x) (h:NestW E T sz w lo hi v xs) {k:Nat} (hk:k<xs.length) (hs:0<sz):
  ∃ g cap,v= .slice (some ⟨g,0,none⟩) xs.length cap∧lo≤g∧g<hi∧g<w.heap.size∧ ∃ u l1 h1,u.length=sz∧E w l1 h1 u (nAt xs k)∧lo≤l1∧h1≤hi∧(g<l1∨h1≤g)∧
   (∀ j c,j<sz→u[j]? =some c→w.cell? ⟨g,k*sz+j,none⟩=some c∧w.frozen? ⟨g,k*sz+j,none⟩=false)∧
   (∀ j c x',j<sz→E w l1 h1 (u.set j c) x'→NestW E T sz (w.setCell ⟨g,k*sz+j,none⟩ c) lo hi v (xs.set k x'))∧
   (∀ w' x',Span l1 h1 w w'→E w' l1 h1 u x'→NestW E T sz w' lo hi v (xs.set k x')):=by
 obtain⟨us,los,his,b1,b2,b3,b4⟩:=h
 rw[List.append_nil]at b2
 have hu:us[k]? =some us[k]:=List.getElem?_eq_getElem (by omega)
 have hx:=nAt_get hk
 obtain⟨c1,c2,c3,c4,c5,c6⟩:=b3 k _ _ hu hx
 have hlen:=NestP.lens b1 b3
 rcases owns_shape b2.1 with⟨rfl,hn,_⟩|⟨g,cap,rfl,hgr⟩
 · omega
 have hg:=b2.2 g rfl
 have hkk: ∀ j,j<sz→k*sz+j<xs.length*sz:=fun j hj=>by
  have:=Nat.mul_le_mul_right sz (show k+1≤xs.length by omega)
  rw[Nat.add_mul]at this
  omega
 refine⟨g,cap,rfl,hg.1,hg.2,(b2.1.lt g rfl).2,us[k],los k,his k,c1,c2,c3,c5,c6 g rfl,fun j c hj hc=>⟨?_,b2.1.frozenAt _⟩,fun j c x' hj he=>?_,fun w' x' sp he=>?_⟩
 · have:=b2.1.cellAt (k*sz+j) (hkk j hj)
   rw[this,flatten_at hlen k _ hu j hj]
   exact hc
 · have hst:=b2.1.stored (k*sz+j) c
   have sp:Span g (g+1) w (w.setCell ⟨g,k*sz+j,none⟩ c):=Span.of_gr hst.2 (fun k hk=>by cases hk;omega)
   rw[flatten_set hlen k j _ c hu hj]at hst
   refine⟨us.set k (us[k].set j c),los,his,by simp[b1],⟨?_,b2.2⟩,fun i u' x1 hu' hx'=>?_,fun i j hij hj=>b4 i j hij (by simpa using hj)⟩
   · simpa using hst.1
   · by_cases hik:k=i
     · subst hik
       rw[List.getElem?_set_self (by omega)]at hu' hx'
       cases hu';cases hx'
       exact⟨by simpa using c1,hE he sp (by have:=c6 g rfl;omega),c3,c4,c5,c6⟩
     · rw[List.getElem?_set_ne hik]at hu' hx'
       obtain⟨e1,e2,e3,e4,e5,e6⟩:=b3 i _ _ hu' hx'
       exact⟨e1,hE e2 sp (by have:=e6 g rfl;omega),e3,e4,e5,e6⟩
 · refine⟨us,los,his,by simp[b1],?_,fun i u' x1 hu' hx'=>?_,fun i j hij hj=>b4 i j hij (by simpa using hj)⟩
   · have h1:=sp.owns b2.1 (fun g' hg'=>by cases hg';have:=c6 g rfl;omega)
     refine⟨by simpa using h1,by simpa using b2.2⟩
   · by_cases hik:k=i
     · subst hik
       rw[List.getElem?_set_self (by omega)]at hx'
       cases hx'
       rw[hu]at hu';cases hu'
       exact⟨c1,he,c3,c4,c5,c6⟩
     · rw[List.getElem?_set_ne hik]at hx'
       obtain⟨e1,e2,e3,e4,e5,e6⟩:=b3 i _ _ hu' hx'
       refine⟨e1,hE e2 sp ?_,e3,e4,e5,e6⟩
       have hil:i<xs.length:=(List.getElem?_eq_some_iff.1 hx').1
       rcases Nat.lt_or_gt_of_ne hik with h|h
       · have:=b4 k i h hil;omega
       · have:=b4 i k h hk;omega
end
instance:Inhabited ParcelD:=⟨⟨0,[]⟩⟩
def ParcelE (w:World) (u:List Value) (d:ParcelD):Prop:= ∃ a,u=[.int .i64 d.f0,a]∧WalksR w a d.f1
def ParcelEW (w:World) (lo hi:Nat) (u:List Value) (d:ParcelD):Prop:= ∃ ao cap,u=[.int .i64 d.f0,.slice ao d.f1.length cap]∧WalksW w lo hi (.slice ao d.f1.length cap) d.f1
theorem ParcelE.fr {w w':World} {u:List Value} {d:ParcelD} (h:ParcelE w u d) (hf:Fr w w'):ParcelE w' u d:=by obtain⟨a,h1,h2⟩:=h;exact⟨a,h1,h2.fr hf⟩
theorem ParcelEW.span {w w':World} {lo hi:Nat} {u:List Value} {d:ParcelD} {a b:Nat} (h:ParcelEW w lo hi u d) (s:Span a b w w') (hd:hi≤a∨b≤lo):ParcelEW w' lo hi u d:=by obtain⟨x,y,h1,h2⟩:=h;exact⟨x,y,h1,h2.span s hd⟩
theorem ParcelEW.ab {w w':World} {lo hi:Nat} {u:List Value} {d:ParcelD} (h:ParcelEW w lo hi u d) (s:Ab lo w w'):ParcelEW w' lo hi u d:=by obtain⟨x,y,h1,h2⟩:=h;exact⟨x,y,h1,OwW.ab h2 s⟩
theorem ParcelEW.rd {w:World} {lo hi:Nat} {u:List Value} {d:ParcelD} (h:ParcelEW w lo hi u d):ParcelE w u d:=by obtain⟨x,y,h1,h2⟩:=h;exact⟨_,h1,h2.rd⟩
def ParcelSR (w:World) (v:Value) (xs:List (ParcelD)):Prop:=NestR ParcelE 2 w v xs
def ParcelSW (w:World) (lo hi:Nat) (v:Value) (xs:List (ParcelD)):Prop:=NestW ParcelEW 60 2 w lo hi v xs
theorem ParcelSR.fr {w w':World} {v:Value} {xs:List (ParcelD)} (h:ParcelSR w v xs) (hf:Fr w w'):ParcelSR w' v xs:=NestR.fr (E:=ParcelE) (fun a b=>ParcelE.fr a b) h hf
theorem ParcelSW.fr {w w':World} {lo hi:Nat} {v:Value} {xs:List (ParcelD)} (h:ParcelSW w lo hi v xs) (hf:Fr w w'):ParcelSW w' lo hi v xs:=NestP.fr (E:=ParcelEW) (fun a b c=>ParcelEW.span a b c) h hf
theorem ParcelSW.span {w w':World} {lo hi:Nat} {v:Value} {xs:List (ParcelD)} (h:ParcelSW w lo hi v xs) {a b:Nat} (s:Span a b w w') (hd:hi≤a∨b≤lo):ParcelSW w' lo hi v xs:=NestP.span (E:=ParcelEW) (fun a b c=>ParcelEW.span a b c) h s hd
theorem ParcelSW.ab {w w':World} {lo hi:Nat} {v:Value} {xs:List (ParcelD)} (h:ParcelSW w lo hi v xs) (s:Ab lo w w'):ParcelSW w' lo hi v xs:=NestP.ab (E:=ParcelEW) (fun a b=>ParcelEW.ab a b) h s
theorem ParcelSW.rd {w:World} {lo hi:Nat} {v:Value} {xs:List (ParcelD)} (h:ParcelSW w lo hi v xs):ParcelSR w v xs:=NestP.rd (E:=ParcelEW) (E':=ParcelE) (fun a=>ParcelEW.rd a) h
theorem ParcelSW.val {w:World} {lo hi:Nat} {v:Value} {xs:List (ParcelD)} (h:ParcelSW w lo hi v xs): ∃ ao cap,v= .slice ao xs.length cap:=NestW.val h
theorem ParcelSR.one {w:World} {v:Value} {xs:List (ParcelD)} (h:ParcelSR w v xs):
  ∃ ao b o cap,v= .slice ao xs.length cap∧xs.length≤cap∧cap≤9223372036854775807∧(0<xs.length→ao=some ⟨b,o,none⟩∧b<w.heap.size∧ ∀ k,k<xs.length→ ∃ a,WalksR w a (nAt xs k).f1∧w.cell? ⟨b,o+k*2,none⟩=some (.int .i64 (nAt xs k).f0)∧w.cell? ⟨b,o+k*2+1,none⟩=some (a)):=by
 obtain⟨ao,b,o,cap,h1,h2,h3,h4⟩:=NestR.one h
 refine⟨ao,b,o,cap,h1,h2,h3,fun hn=>⟨(h4 hn).1,(h4 hn).2.1,fun k hk=>?_⟩⟩
 obtain⟨u,_,⟨a,hu,ha⟩,hc⟩:=(h4 hn).2.2 k hk
 rw[hu]at hc
 exact⟨a,ha,by simpa using hc 0 _ (by omega) rfl,by simpa using hc 1 _ (by omega) rfl⟩
theorem info_Parcel:(Tryz.prog.info? 60).map (fun i=>(i.zero,i.size,i.bytes))=some (some (.agg #[.int .i64 0,.slice none 0 0]),2,32):=by kernel_rfl
def ParcelSBulk (xs:List (ParcelD)):Nat:=nBulk ParcelD.bulk xs
def ParcelSOk (xs:List (ParcelD)):Prop:= ∀ x∈xs,ParcelD.okSize x
set_option maxHeartbeats 1000000 in
theorem eqParcelS_same (a b:Value) (xs:List (ParcelD)) (w:World) (ha:ParcelSR w a xs) (hb:ParcelSR w b xs):
  Calls Tryz.prog 118 #[a,b] w fun e w'=>e= .returned (.bool true)∧Fr w w':=by
 obtain⟨ao,ba,oa,ca,rfl,hca,hma,fa⟩:=ha.one
 obtain⟨bo,bb,ob,cb,rfl,hcb,hmb,fb⟩:=hb.one
 clear ha hb
 go_enter Tryz.func118,Tryz.ntmps118
 go_wp2
 go_loopw [5] (fun i wr=> ∃ k:Nat,k≤xs.length∧i= .int .i64 k∧Fr w wr) (fun i _=>xs.length-(intOf i).toNat)
 case atStart=>exact⟨0,Nat.zero_le _,rfl,Fr.refl _⟩
 case round=>
  obtain⟨k,hk,rfl,hfr⟩:=hrel
  by_cases hlt:k<xs.length
  · obtain⟨rfl,hba,fa⟩:=fa (by omega)
    obtain⟨rfl,hbb,fb⟩:=fb (by omega)
    obtain⟨ac,ra,ga⟩:=fa k hlt
    obtain⟨ae,rb,gb⟩:=fb k hlt
    obtain⟨x,hx⟩: ∃ x,nAt xs k=x:=⟨_,rfl⟩
    have c0: ∀ w',Sf wr w'→w'.cell? ⟨ba,oa+k*2,none⟩=some (.int .i64 x.f0):=fun w' hf=>((hfr.trans hf.out).cell (p:=⟨ba,_,none⟩) hba).trans (by first|exact ga.1|(rw[← hx];exact ga.1))
    have c1: ∀ w',Sf wr w'→w'.cell? ⟨ba,oa+k*2+1,none⟩=some (ac):=fun w' hf=>((hfr.trans hf.out).cell (p:=⟨ba,_,none⟩) hba).trans (by first|exact ga.2|(rw[← hx];exact ga.2))
    have e0: ∀ w',Sf wr w'→w'.cell? ⟨bb,ob+k*2,none⟩=some (.int .i64 x.f0):=fun w' hf=>((hfr.trans hf.out).cell (p:=⟨bb,_,none⟩) hbb).trans (by first|exact gb.1|(rw[← hx];exact gb.1))
    have e1: ∀ w',Sf wr w'→w'.cell? ⟨bb,ob+k*2+1,none⟩=some (ae):=fun w' hf=>((hfr.trans hf.out).cell (p:=⟨bb,_,none⟩) hbb).trans (by first|exact gb.2|(rw[← hx];exact gb.2))
    rw[hx]at ra rb
    have RA:=Lib.hid (RdS.fr ra hfr)
    have RB:=Lib.hid (RdS.fr rb hfr)
    obtain⟨aoc,capc,rfl,_⟩:=RdS.val ra
    obtain⟨aoe,cape,rfl,_⟩:=RdS.val rb
    clear fa fb hx ga gb ra rb
    go_wp2_with fail
    go_region_held3 (fun w'=>Sf wr w') ((refine Sf.mk ?_;repeat(first|(with_reducible exact Fr.refl _)|(with_reducible assumption)|(with_reducible refine Fr.drewN ?_ _)|(with_reducible refine Fr.drew ?_)|(with_reducible refine Fr.alloc ?_ _)|(with_reducible refine Fr.setCell ?_ (by exact Qz) _)|(with_reducible refine Fr.trans ?_ (by with_reducible assumption))))) (first|(go_at_call 173;refine(eqParcel_same _ _ x _ ⟨_,rfl,(RdS.fr RA.out (by exact Qf))⟩ ⟨_,rfl,(RdS.fr RB.out (by exact Qf))⟩).mono ?_;rintro e w2 ⟨rfl,hf1⟩))
    go_wp2_with fail
    go_roundw
    case rel=>exact⟨k+1,by omega,by go_num,by exact Qf⟩
    case measure=>(simp[intOf];omega)
  · clear fa fb
    go_wp2
    go_ret
    exact⟨rfl,hfr⟩
def mkParcel (k:Int) (d:ParcelD):ParcelD:=⟨(k),mkWalks (k+1) d.f1.length⟩
def ParcelCnt1 (d:ParcelD):Nat:=1+4*d.f1.length
def mkParcelSs:Int→List ParcelD→List ParcelD
 |_,[]=>[]
 |k,d::ds=>mkParcel k d::mkParcelSs (k+(ParcelCnt1 d:Int)) ds
theorem mkParcelSs_length: ∀ (k:Int) (ds:List ParcelD),(mkParcelSs k ds).length=ds.length
 |_,[]=>rfl
 |k,d::ds=>by rw[mkParcelSs,List.length_cons,List.length_cons,mkParcelSs_length]
def ParcelSCnt (ds:List ParcelD):Nat:=(ds.map ParcelCnt1).sum
theorem ParcelSCnt_cons (d:ParcelD) (ds:List ParcelD):ParcelSCnt (d::ds)=ParcelCnt1 d+ParcelSCnt ds:=by simp[ParcelSCnt]
theorem ParcelSCnt_ge (ds:List ParcelD):ds.length≤ParcelSCnt ds:=by
 induction ds with
 |nil=>simp[ParcelSCnt]
 |cons d ds ih=>rw[ParcelSCnt_cons,List.length_cons];unfold ParcelCnt1;omega
theorem Parcel_drop {xs:List ParcelD} {k:Nat} (h:k<xs.length):xs.drop k=nAt xs k::xs.drop (k+1):=by
 rw[List.drop_eq_getElem_cons h]
 simp[nAt,List.getD,List.getElem?_eq_getElem h]
theorem set_mid'' {α:Type} (A B:List α) (k:Nat) (x y:α) (hA:A.length=k):(A++y::B).set k x=A++x::B:=by
 rw[set_mid' A B k x y hA];simp
theorem Span.setb' {lo hi q i:Nat} {a w:World} {v:Value} (h:Span lo hi a w) (h1:lo≤q) (h2:q<hi):Span lo hi a (w.setCell ⟨q,i,none⟩ v):=h.trans (by
 refine⟨rfl,rfl,rfl,by simp,fun k hk ho=>?_⟩
 exact heap_setCell_other w ⟨q,i,none⟩ k v (by show k≠q;omega))
theorem Span.wide {lo hi a b:Nat} {w w':World} (h:Span a b w w') (h1:lo≤a) (h2:b≤hi):Span lo hi w w':=⟨h.os,h.tape,h.output,h.size,fun k hk ho=>h.block k hk (by omega)⟩
set_option maxHeartbeats 2000000 in
set_option maxRecDepth 100000 in
theorem heldParcelS_w (v:Value) (xs:List ParcelD) (k:Int) (w:World) (ha:ParcelSR w v (mkParcelSs k xs)) (h0:0<k) (h1:k+(ParcelSCnt xs:Int)≤4611686018427387904):
  Calls Tryz.prog 130 #[v,.int .i64 k] w fun e w'=>e= .returned (.int .i64 (k+(ParcelSCnt xs:Int)))∧Fr w w':=by
 have hxl:xs.length≤4611686018427387904:=by have:=ParcelSCnt_ge xs;omega
 obtain⟨ao,ba,oa,ca,rfl,hca,hma,fa⟩:=ha.one
 clear ha
 rw[mkParcelSs_length]at hca fa ⊢
 have FA:=Lib.hid fa
 clear fa
 go_enter Tryz.func130,Tryz.ntmps130
 go_wp2
 go_loopw [1,5] (fun l i wr=> ∃ (m:Nat) (kk:Int),m≤xs.length∧i= .int .i64 m∧l= .int .i64 kk∧Hid ((mkParcelSs k xs).drop m=mkParcelSs kk (xs.drop m))∧kk+(ParcelSCnt (xs.drop m):Int)=k+(ParcelSCnt xs:Int)∧0<kk∧Fr w wr) (fun _ i _=>xs.length-(intOf i).toNat)
 case atStart=>exact⟨0,k,Nat.zero_le _,rfl,rfl,Lib.hid rfl,rfl,h0,Fr.refl _⟩
 case round=>
  obtain⟨m,kk,hm,rfl,rfl,hd,hcn,hk0,hfr⟩:=hrel
  by_cases hlt:m<xs.length
  · obtain⟨rfl,hba,fa⟩:=FA.out (by omega)
    obtain⟨a,ra,c0,c1⟩:=fa m hlt
    have hml:m<(mkParcelSs k xs).length:=by rw[mkParcelSs_length];exact hlt
    have hd2:=hd.out
    rw[Parcel_drop hml,Parcel_drop hlt,mkParcelSs]at hd2
    injection hd2 with hd3 hd4
    simp only[hd3]at ra c0 c1
    rw[Parcel_drop hlt,ParcelSCnt_cons]at hcn
    clear fa hd hd3
    have hd:=Lib.hid hd4
    clear hd4
    generalize nAt xs m=x at ra hd hcn c0 c1
    have hc1:ParcelCnt1 x=1+4*x.f1.length:=rfl
    rw[hc1]at hcn
    simp only[mkParcel]at ra c0 c1
    have HR:=Lib.hid (RdS.fr ra hfr)
    obtain⟨aor,capr,rfl,_⟩:=RdS.val ra
    clear ra
    have d0:=(hfr.cell (p:=⟨ba,_,none⟩) hba).trans c0
    have d1:=(hfr.cell (p:=⟨ba,_,none⟩) hba).trans c1
    clear c0 c1
    go_wp2_with(go_at_call 179;refine(heldWalkS_w _ (kk+1) x.f1.length _ (RdS.fr HR.out (by exact Qf)) (by omega) (by omega)).mono ?_;rintro e w1 ⟨rfl,hf1⟩)
    go_roundw
    case rel=>exact⟨m+1,kk+(ParcelCnt1 x:Int),by omega,by go_num,by rw[hc1];go_num,hd,by rw[hc1];omega,by rw[hc1];omega,by exact Qf⟩
    case measure=>(simp[intOf];omega)
  · obtain rfl:m=xs.length:=by omega
    rw[List.drop_length]at hcn
    simp only[ParcelSCnt,List.map_nil,List.sum_nil]at hcn
    go_wp2
    go_ret
    exact⟨ret_int (by unfold ParcelSCnt;omega),hfr⟩
/-- Nothing old has turned but one box and one row. -/
structure Two (b:Nat) (r:Option Nat) (w w':World):Prop where
 os:w'.os=w.os
 tape:w'.tape=w.tape
 output:w'.output=w.output
 size:w.heap.size≤w'.heap.size
 block: ∀ k,k<w.heap.size→k≠b→some k≠r→w'.heap[k]? =w.heap[k]?
theorem Two.box {b:Nat} {r:Option Nat} {w w':World} {c:Nat} {X:Array Value} {T:TypeId} (h:Two b r w w') (k:Box w c X T) (h1:c≠b) (h2:some c≠r):Box w' c X T:=(h.block c k.lt h1 h2).trans k
theorem Two.fr {b:Nat} {r:Option Nat} {a w w':World} (h:Two b r w w') (k:Fr a w) (h1:a.heap.size≤b) (h2: ∀ g,r=some g→a.heap.size≤g):Fr a w':=
 Below.trans k.out (show Below a.heap.size w w' from⟨h.os,h.tape,h.output,h.size,fun c hc=>h.block c (Nat.lt_of_lt_of_le hc k.size) (by omega) (fun e=>by have:=h2 c e.symm;omega)⟩)
theorem Two.of_gr {b:Nat} {r:Option Nat} {w w':World} (h:w.grownBy w' r):Two b r w w':=⟨h.os,h.tape,h.output,h.size,fun k hk _ hr=>h.block k hk hr⟩
theorem Two.of_fr {b:Nat} {r:Option Nat} {w w':World} (h:Fr w w'):Two b r w w':=⟨h.out.os,h.out.tape,h.out.output,h.size,fun k hk _ _=>h.out.block k hk⟩
theorem Two.trans {b:Nat} {r:Option Nat} {w w' w'':World} (h:Two b r w w') (k:Two b r w' w''):Two b r w w'':=
 ⟨k.os.trans h.os,k.tape.trans h.tape,k.output.trans h.output,Nat.le_trans h.size k.size,fun c hc h1 h2=>(k.block c (Nat.lt_of_lt_of_le hc h.size) h1 h2).trans (h.block c hc h1 h2)⟩
theorem Two.set {b:Nat} {r:Option Nat} {w w':World} (h:Two b r w w') (i:Nat) (v:Value):Two b r w (w'.setCell ⟨b,i,none⟩ v):=
 h.trans ⟨rfl,rfl,rfl,by simp,fun k _ h1 _=>heap_setCell_other w' ⟨b,i,none⟩ k v h1⟩
/-- Of the blocks that stood, only those in B have turned. -/
structure Tch (B:Nat→Prop) (w w':World):Prop where
 os:w'.os=w.os
 tape:w'.tape=w.tape
 output:w'.output=w.output
 size:w.heap.size≤w'.heap.size
 block: ∀ i,i<w.heap.size→ ¬ B i→w'.heap[i]? =w.heap[i]?
theorem Tch.of_fr {B:Nat→Prop} {w w':World} (h:Fr w w'):Tch B w w':=⟨h.out.os,h.out.tape,h.out.output,h.size,fun i hi _=>h.out.block i hi⟩
theorem Tch.refl (B:Nat→Prop) (w:World):Tch B w w:=Tch.of_fr (Fr.refl w)
theorem Tch.then {B C:Nat→Prop} {w w' w'':World} (h:Tch B w w') (k:Tch C w' w'') (hs: ∀ i,i<w.heap.size→C i→B i):Tch B w w'':=
 ⟨k.os.trans h.os,k.tape.trans h.tape,k.output.trans h.output,Nat.le_trans h.size k.size,fun i hi hb=>(k.block i (Nat.lt_of_lt_of_le hi h.size) (fun c=>hb (hs i hi c))).trans (h.block i hi hb)⟩
theorem Tch.trans {B:Nat→Prop} {w w' w'':World} (h:Tch B w w') (k:Tch B w' w''):Tch B w w'':=h.then k fun _ _ c=>c
theorem Tch.fr {B:Nat→Prop} {w w' w'':World} (h:Tch B w w') (k:Fr w' w''):Tch B w w'':=h.trans (Tch.of_fr k)
theorem Tch.sub {B C:Nat→Prop} {w w':World} (h:Tch B w w') (hs: ∀ i,i<w.heap.size→B i→C i):Tch C w w':=⟨h.os,h.tape,h.output,h.size,fun i hi hb=>h.block i hi fun c=>hb (hs i hi c)⟩
theorem Tch.of_gr {B:Nat→Prop} {w w':World} {row:Option Nat} (h:w.grownBy w' row) (hr: ∀ i,row=some i→B i):Tch B w w':=⟨h.os,h.tape,h.output,h.size,fun i hi hb=>h.block i hi fun e=>hb (hr i e.symm)⟩
theorem Tch.set {B:Nat→Prop} {w w':World} (h:Tch B w w') {p:Addr} (hp:B p.block∨w.heap.size≤p.block) (v:Value):Tch B w (w'.setCell p v):=
 ⟨h.os,h.tape,h.output,Nat.le_trans h.size (by simp),fun i hi hb=>(heap_setCell_other w' p i v (fun e=>by rcases hp with hp|hp;exact hb (e▸hp);omega)).trans (h.block i hi hb)⟩
theorem Tch.set3 {B:Nat→Prop} {w w':World} (h:Tch B w w') {c:Nat} (hp:B c∨w.heap.size≤c) (u v x:Value):Tch B w (((w'.setCell ⟨c,0,none⟩ u).setCell ⟨c,1,none⟩ v).setCell ⟨c,2,none⟩ x):=
 ((h.set (p:=⟨c,0,none⟩) hp u).set (p:=⟨c,1,none⟩) hp v).set (p:=⟨c,2,none⟩) hp x
theorem Tch.box {B:Nat→Prop} {w w':World} {c:Nat} {X:Array Value} {T:TypeId} (h:Tch B w w') (k:Box w c X T) (hb: ¬ B c):Box w' c X T:=(h.block c k.lt hb).trans k
theorem Tch.owns {B:Nat→Prop} {w w':World} {lo:Nat} {e:TypeId} {sz:Nat} {v:Value} {n:Nat} {xs:List Value} (h:Tch B w w') (k:w.ownsRow lo e sz v n xs) (hb: ∀ g,v.ownBlock=some g→ ¬ B g):w'.ownsRow lo e sz v n xs:=by
 obtain⟨h1,h2|⟨g,cap,cur,hv,hg,hh,hr⟩⟩:=k
 · exact⟨h1,.inl h2⟩
 · exact⟨h1,.inr ⟨g,cap,cur,hv,hg,(h.block g (Array.getElem?_eq_some_iff.1 hh).1 (hb g (by rw[hv];rfl))).trans hh,hr⟩⟩
theorem Tch.old {B:Nat→Prop} {a w w':World} (h:Tch B w w') (k:Fr a w) (hb: ∀ i,i<a.heap.size→ ¬ B i):Fr a w':=
 Below.trans k.out (show Below a.heap.size w w' from⟨h.os,h.tape,h.output,h.size,fun c hc=>h.block c (Nat.lt_of_lt_of_le hc k.size) (hb c hc)⟩)
/-- A row that may have moved to a block from n on. -/
def Mvd (n:Nat) (v v':Value):Prop:=v'.ownBlock=v.ownBlock∨ ∃ g,v'.ownBlock=some g∧n≤g
theorem Mvd.refl (n:Nat) (v:Value):Mvd n v v:= .inl rfl
theorem Mvd.mono {n m:Nat} {v v':Value} (h:Mvd n v v') (hm:m≤n):Mvd m v v':=by
 rcases h with r|⟨g,r,hg⟩
 · exact .inl r
 · exact .inr ⟨g,r,by omega⟩
theorem Mvd.trans {n m:Nat} {v v' v'':Value} (h:Mvd n v v') (k:Mvd m v' v'') (hs:n≤m):Mvd n v v'':=by
 rcases k with r|⟨g,r,hg⟩
 · unfold Mvd;rw[r];exact h
 · exact .inr ⟨g,r,by omega⟩
/-- What a row's block was, if it stood. -/
theorem Mvd.old {n:Nat} {v v':Value} {i:Nat} (h:Mvd n v v') (e:v'.ownBlock=some i) (hi:i<n):v.ownBlock=some i:=by
 rcases h with r|⟨g,r,hg⟩
 · exact r▸e
 · rw[r]at e;cases e;omega
theorem Mvd.ne {n:Nat} {v v':Value} {i:Nat} (h:Mvd n v v') (e:v.ownBlock≠some i) (hi:i<n):v'.ownBlock≠some i:=fun k=>e (h.old k hi)
theorem Mvd.apart {n:Nat} {v v' u:Value} (h:Mvd n v v') (ha:Apart v u) (hu: ∀ g,u.ownBlock=some g→g<n):Apart v' u:=fun g h1 h2=>ha g (h.old h1 (hu g h2)) h2
theorem Mvd.of_app {n:Nat} {v v':Value} {H:Nat} (h:v'.ownBlock=v.ownBlock∨v'.ownBlock=some H) (hn:n≤H):Mvd n v v':=by
 rcases h with r|r
 · exact .inl r
 · exact .inr ⟨H,r,hn⟩
theorem Apart.symm' {v u:Value} (h:Apart v u):Apart u v:=fun g h1 h2=>h g h2 h1
theorem owns_old {w:World} {lo:Nat} {e:TypeId} {sz:Nat} {v:Value} {n:Nat} {xs:List Value} (h:w.ownsRow lo e sz v n xs): ∀ g,v.ownBlock=some g→g<w.heap.size:=fun g hg=>(World.ownsRow.lt h g hg).2
end Go.Proofs.YtjnahjgncmcmdaaGreat