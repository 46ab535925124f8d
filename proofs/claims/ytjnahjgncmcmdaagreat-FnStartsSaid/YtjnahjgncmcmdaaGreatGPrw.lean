/- Texts in one: TFilter, MQuery, Prs, Prw. -/
import Derived.Test.YtjnahjgncmcmdaaGreatGSFilter
import Derived.Test.YtjnahjgncmcmdaaGreatGSWalk
import Derived.Test.YtjnahjgncmcmdaaGreatGUnf
import Derived.Test.YtjnahjgncmcmdaaGreatGNfp
import Derived.Test.YtjnahjgncmcmdaaGreatGTch
import Derived.Deep.RegionLaw
import Derived.BigQuiet
namespace Go.Proofs.YtjnahjgncmcmdaaGreat
open Go.RowKit
set_option linter.unusedVariables false
set_option linter.unusedSimpArgs false
def mkFilter (k:Int):FilterR:=⟨mTextI k,(k+1),mTextI (k+1+1),(k+1+1+1)⟩
def mkFilters (k:Int) (n:Nat):List FilterR:=(List.range n).map fun i:Nat=>mkFilter (k+4*i)
theorem mkFilters_length (k:Int) (n:Nat):(mkFilters k n).length=n:=by simp[mkFilters]
theorem mkFilters_at (k:Int) (n j:Nat) (h:j<n):filterAt (mkFilters k n) j=mkFilter (k+4*j):=by simp[mkFilters,filterAt,List.getD,h]
theorem filter_oneCells (xs:List FilterR): ∀ u∈xs.flatMap FilterR.cells,u.oneCell'=true:=by
 intro u hu
 obtain⟨x,_,h⟩:=List.mem_flatMap.1 hu
 simp only[FilterR.cells,List.mem_cons,List.not_mem_nil,or_false]at h
 rcases h with rfl|rfl|rfl|rfl<;>rfl
def FiltersW (w:World) (lo hi:Nat) (v:Value) (xs:List FilterR):Prop:=OwW w lo hi 187 4 v xs.length (xs.flatMap FilterR.cells)
theorem FiltersW.rd {w:World} {lo hi:Nat} {v:Value} {xs:List FilterR} (h:FiltersW w lo hi v xs):FiltersR w v xs:=OwW.rd h
theorem FiltersW.val {w:World} {lo hi:Nat} {v:Value} {xs:List FilterR} (h:FiltersW w lo hi v xs): ∃ ao cap,v= .slice ao xs.length cap:=OwW.val h
theorem FiltersW.fr {w w':World} {lo hi:Nat} {v:Value} {xs:List FilterR} (h:FiltersW w lo hi v xs) (hf:Fr w w'):FiltersW w' lo hi v xs:=OwW.fr h hf
theorem FiltersW.span {w w':World} {lo hi:Nat} {v:Value} {xs:List FilterR} (h:FiltersW w lo hi v xs) {a b:Nat} (s:Span a b w w') (hd:hi≤a∨b≤lo):FiltersW w' lo hi v xs:=OwW.span h s hd
theorem FiltersW.nil (w:World) (lo hi:Nat):FiltersW w lo hi (.slice none 0 0) []:=OwW.nil _ _ _ _ _
theorem toFilterS_w (a:Value) (xs:List FilterR) (w:World) (ha:FiltersR w a xs) (hn:xs.length≤1048576):
  Calls Tryz.prog 116 #[a] w fun e w'=> ∃ ao cap,e= .returned (.slice ao xs.length cap)∧FiltersW w' w.heap.size w'.heap.size (.slice ao xs.length cap) xs∧Fr w w':=
 (toFilterS_any a xs w ha hn).mono fun e w' h=>by
  obtain⟨v,rfl,ho,hf⟩:=h
  obtain⟨ao,cap,rfl⟩:=ho.val
  exact⟨ao,cap,rfl,OwW.of_owns ho,hf⟩
theorem filter_part (new old:List FilterR) (m:Nat) (hm:m<old.length) (hl:new.length=old.length):(((((partR new old FilterR.cells m).set (m*4) (Value.string (filterAt new m).f0)).set (m*4+1) (Value.int .i64 (filterAt new m).f1)).set (m*4+2) (Value.string (filterAt new m).f2)).set (m*4+3) (Value.int .i64 (filterAt new m).f3))=partR new old FilterR.cells (m+1):=by
 rw[partR_split new old FilterR.cells m hm]
 have ha:((new.take m).flatMap FilterR.cells).length=m*4:=flat_len new FilterR.cells 4 FilterR.cells_length m (by omega)
 rw[set_mid _ _ _ 0 _ (by rw[ha];rfl) (by rw[FilterR.cells_length];omega)]
 rw[set_mid _ _ _ 1 _ (by rw[ha]) (by simp only[List.length_set];rw[FilterR.cells_length];omega)]
 rw[set_mid _ _ _ 2 _ (by rw[ha]) (by simp only[List.length_set];rw[FilterR.cells_length];omega)]
 rw[set_mid _ _ _ 3 _ (by rw[ha]) (by simp only[List.length_set];rw[FilterR.cells_length];omega)]
 rw[partR_next new old FilterR.cells m (by omega)]
 rfl
set_option maxHeartbeats 1000000 in
set_option maxRecDepth 100000 in
theorem markFilterS_any (g n cap:Nat) (xs:List FilterR) (k:Int) (lo:Nat) (w:World) (ha:w.ownsRow lo 187 4 (.slice (some ⟨g,0,none⟩) n cap) n (xs.flatMap FilterR.cells)) (hn:xs.length=n) (h0:0<k) (h1:k+4*n≤1073741824):
  Calls Tryz.prog 126 #[.slice (some ⟨g,0,none⟩) n cap,.int .i64 k] w fun e w'=>e= .returned (.int .i64 (k+4*n))∧w'.ownsRow lo 187 4 (.slice (some ⟨g,0,none⟩) n cap) n ((mkFilters k n).flatMap FilterR.cells)∧w.grownBy w' (some g):=by
 have hg0:g<w.heap.size:=(ha.lt g rfl).2
 go_enter Tryz.func126,Tryz.ntmps126
 go_wp2
 go_loopw [1,5] (fun l i wr=> ∃ m:Nat,m≤n∧i= .int .i64 m∧l= .int .i64 (k+4*m)∧wr.ownsRow lo 187 4 (.slice (some ⟨g,0,none⟩) n cap) n (partR (mkFilters k n) xs FilterR.cells m)∧w.grownBy wr (some g)) (fun _ i _=>n-(intOf i).toNat)
 case atStart=>exact⟨0,Nat.zero_le _,rfl,by simp,by rw[partR_zero];exact ha,World.grownBy.refl _ _⟩
 case round=>
  clear ha
  obtain⟨m,hm,rfl,rfl,ho,hfr⟩:=hrel
  by_cases hlt:m<n
  · have hp:=filter_part (mkFilters k n) xs m (by omega) (by rw[mkFilters_length,hn])
    rw[mkFilters_at k n m hlt]at hp
    have HP:=Lib.hid hp
    clear hp
    go_wp2_with fail
    refine(markText_int (k+4*m) _ (by omega) (by omega)).mono ?_
    rintro e w0 ⟨rfl,hf0⟩
    have o0:=owns_fr ho hf0
    have f0:=o0.frozenAt (m*4);obtain⟨u0,c0⟩:=owns_cell o0 (m*4) (by omega);have s0:=o0.stored (m*4) (.string (mTextI (k+4*m)))
    have f1:=s0.1.frozenAt (m*4+1);obtain⟨u1,c1⟩:=owns_cell s0.1 (m*4+1) (by omega);have s1:=s0.1.stored (m*4+1) (.int .i64 (k+4*m+1))
    go_wp2_with fail
    refine(markText_int (k+4*m+1+1) _ (by omega) (by omega)).mono ?_
    rintro e w2 ⟨rfl,hf2⟩
    have o2:=owns_fr s1.1 hf2
    have f2:=o2.frozenAt (m*4+2);obtain⟨u2,c2⟩:=owns_cell o2 (m*4+2) (by omega);have s2:=o2.stored (m*4+2) (.string (mTextI (k+4*m+1+1)))
    have f3:=s2.1.frozenAt (m*4+3);obtain⟨u3,c3⟩:=owns_cell s2.1 (m*4+3) (by omega);have s3:=s2.1.stored (m*4+3) (.int .i64 (k+4*m+1+1+1))
    go_wp2_with fail
    go_roundw
    case rel=>exact⟨m+1,by omega,by go_num,by go_num,HP.out▸s3.1,gr_trans (gr_trans (gr_trans (gr_trans (gr_trans (gr_trans hfr (hf0.gr _)) (s0.2)) (s1.2)) (hf2.gr _)) (s2.2)) (s3.2)⟩
    case measure=>(simp[intOf];omega)
  · obtain rfl:m=n:=by omega
    rw[partR_all _ _ _ m (by rw[mkFilters_length]) hn]at ho
    go_wp2
    go_ret
    exact⟨rfl,ho,hfr⟩
theorem markFilterS_w (v:Value) (xs:List FilterR) (k:Int) (lo hi:Nat) (w:World) (ha:FiltersW w lo hi v xs) (h0:0<k) (h1:k+4*xs.length≤1073741824):
  Calls Tryz.prog 126 #[v,.int .i64 k] w fun e w'=>e= .returned (.int .i64 (k+4*xs.length))∧FiltersW w' lo hi v (mkFilters k xs.length)∧Span lo hi w w':=by
 rcases owns_shape ha.1 with⟨rfl,hn,hx⟩|⟨g,cap,rfl,_⟩
 · have h3:xs=[]:=List.eq_nil_of_length_eq_zero hn
   subst h3
   clear ha hn hx
   go_enter Tryz.func126,Tryz.ntmps126
   go_wp2
   go_loopw [1,5] (fun l i wr=>i= .int .i64 0∧l= .int .i64 k∧wr=w) (fun _ i _=>0)
   case atStart=>exact⟨rfl,rfl,rfl⟩
   case round=>
    obtain⟨rfl,rfl,rfl⟩:=hrel
    go_wp2
    go_ret
    exact⟨by simp,by simpa [FiltersW,mkFilters]using OwW.nil _ _ _ _ _,Span.refl _ _ _⟩
 · refine(markFilterS_any g xs.length cap xs k lo w ha.1 rfl h0 h1).mono fun e w' h=>⟨h.1,⟨?_,ha.2⟩,Span.of_gr h.2.2 ha.2⟩
   rw[mkFilters_length]
   exact h.2.1
structure QueryD where
 f0:Bool
 f1:List ByteArray
 f2:List AtomR
 f3:List FilterR
def QueryRd (w:World) (v:Value) (d:QueryD):Prop:= ∃ u1 u2 u3,v= .agg #[.bool d.f0,u1,u2,u3]∧StrsR w u1 d.f1∧AtomsR w u2 d.f2∧FiltersR w u3 d.f3
theorem QueryRd.fr {w w':World} {v:Value} {d:QueryD} (h:QueryRd w v d) (hf:Fr w w'):QueryRd w' v d:=by obtain⟨u1,u2,u3,hv,r1,r2,r3⟩:=h;exact⟨u1,u2,u3,hv,r1.fr hf,r2.fr hf,r3.fr hf⟩
def QueryD.bulk (d:QueryD):Nat:=(strsBulk d.f1)+(AtomsBulk d.f2)+(FiltersBulk d.f3)
def QueryD.okSize (d:QueryD):Prop:=(∀ s∈d.f1,s.size≤maxLen)∧(∀ x∈d.f2,x.okSize)∧(∀ x∈d.f3,x.okSize)
set_option maxHeartbeats 2000000 in
set_option maxRecDepth 100000 in
theorem eqQuery_same (a b:Value) (d:QueryD) (w:World) (ha:QueryRd w a d) (hb:QueryRd w b d):
  Calls Tryz.prog 50 #[a,b] w fun e w'=>e= .returned (.bool true)∧Fr w w':=by
 obtain⟨u1,u2,u3,rfl,r1,r2,r3⟩:=ha
 obtain⟨x1,x2,x3,rfl,s1,s2,s3⟩:=hb
 have R1:=Lib.hid r1;have S1:=Lib.hid s1
 have R2:=Lib.hid r2;have S2:=Lib.hid s2
 have R3:=Lib.hid r3;have S3:=Lib.hid s3
 clear r1 s1 r2 s2 r3 s3
 go_enter Tryz.func50,Tryz.ntmps50
 go_wp2_with(first|(go_at_call 120;refine(eqStringS_same _ _ d.f1 _ (R1.out.fr (by exact Qf)) (S1.out.fr (by exact Qf))).mono ?_;rintro e wq1 ⟨rfl,hf1⟩;have z1:=hf1.size;(try simp only[World.size_alloc,World.size_setCell,World.size_drew]at z1);have k0:=hf1.blk w.heap.size (by exact Qz);have k1:=hf1.blk (w.heap.size+1) (by exact Qz))|(go_at_call 121;refine(eqAtomS_same _ _ d.f2 _ (R2.out.fr (by exact Qf)) (S2.out.fr (by exact Qf))).mono ?_;rintro e wq2 ⟨rfl,hf2⟩;have z1:=hf2.size;(try simp only[World.size_alloc,World.size_setCell,World.size_drew]at z1);have k0:=hf2.blk w.heap.size (by exact Qz);have k1:=hf2.blk (w.heap.size+1) (by exact Qz))|(go_at_call 122;refine(eqFilterS_same _ _ d.f3 _ (R3.out.fr (by exact Qf)) (S3.out.fr (by exact Qf))).mono ?_;rintro e wq3 ⟨rfl,hf3⟩;have z1:=hf3.size;(try simp only[World.size_alloc,World.size_setCell,World.size_drew]at z1);have k0:=hf3.blk w.heap.size (by exact Qz);have k1:=hf3.blk (w.heap.size+1) (by exact Qz)))
 go_ret
 exact⟨rfl,by exact Qf⟩
set_option maxHeartbeats 2000000 in
set_option maxRecDepth 100000 in
theorem szQuery_w (v:Value) (d:QueryD) (left:Int) (w:World) (hv:QueryRd w v d) (hs:d.okSize) (h0:0≤left) (h1:left≤1048576):
  Calls Tryz.prog 43 #[v,.int .i64 left] w fun e w'=>e= .returned (.int .i64 (szR left d.bulk))∧Fr w w':=by
 obtain⟨u1,u2,u3,rfl,r1,r2,r3⟩:=hv
 unfold QueryD.okSize at hs
 obtain⟨o1,o2,o3⟩:=hs
 have R1:=Lib.hid r1;clear r1
 have O1:=Lib.hid o1;clear o1
 obtain⟨b1,hb1⟩: ∃ b,strsBulk d.f1=b:=⟨_,rfl⟩;have B1:=Lib.hid hb1;clear hb1
 have R2:=Lib.hid r2;clear r2
 have O2:=Lib.hid o2;clear o2
 obtain⟨b2,hb2⟩: ∃ b,AtomsBulk d.f2=b:=⟨_,rfl⟩;have B2:=Lib.hid hb2;clear hb2
 have R3:=Lib.hid r3;clear r3
 have O3:=Lib.hid o3;clear o3
 obtain⟨b3,hb3⟩: ∃ b,FiltersBulk d.f3=b:=⟨_,rfl⟩;have B3:=Lib.hid hb3;clear hb3
 have HB:Hid (d.bulk=b1+b2+b3):=by unfold QueryD.bulk;rw[B1.out,B2.out,B3.out];exact rfl
 by_cases q1:(b1:Int)≤left
 · have z1:szR left b1=(left-b1):=szR_ok q1
   by_cases q2:(b2:Int)≤(left-b1)
   · have z2:szR (left-b1) b2=(left-b1-b2):=szR_ok q2
     by_cases q3:(b3:Int)≤(left-b1-b2)
     · have z3:szR (left-b1-b2) b3=(left-b1-b2-b3):=szR_ok q3
       go_enter Tryz.func43,Tryz.ntmps43
       go_wp2_with(first|(go_at_call 109;refine(szStringS_any _ d.f1 left _ (R1.out.fr (by exact Qf)) O1.out (by omega) (by omega)).mono ?_;rintro e wz1 ⟨rfl,hf1⟩;subst hf1;rw[B1.out])|(go_at_call 110;refine(szAtomS_any _ d.f2 (left-b1) _ (R2.out.fr (by exact Qf)) O2.out (by omega) (by omega)).mono ?_;rintro e wz2 ⟨rfl,hf2⟩;have z1:=hf2.size;(try simp only[World.size_alloc,World.size_setCell,World.size_drew]at z1);have k0:=hf2.blk w.heap.size (by exact Qz);rw[B2.out])|(go_at_call 111;refine(szFilterS_any _ d.f3 (left-b1-b2) _ (R3.out.fr (by exact Qf)) O3.out (by omega) (by omega)).mono ?_;rintro e wz3 ⟨rfl,hf3⟩;have z1:=hf3.size;(try simp only[World.size_alloc,World.size_setCell,World.size_drew]at z1);have k0:=hf3.blk w.heap.size (by exact Qz);rw[B3.out]))
       go_ret
       exact⟨ret_int (by rw[HB.out,szR_ok (by omega)];omega),by exact Qf⟩
     · have z3:szR (left-b1-b2) b3= -1:=szR_no q3
       go_enter Tryz.func43,Tryz.ntmps43
       go_wp2_with(first|(go_at_call 109;refine(szStringS_any _ d.f1 left _ (R1.out.fr (by exact Qf)) O1.out (by omega) (by omega)).mono ?_;rintro e wz1 ⟨rfl,hf1⟩;subst hf1;rw[B1.out])|(go_at_call 110;refine(szAtomS_any _ d.f2 (left-b1) _ (R2.out.fr (by exact Qf)) O2.out (by omega) (by omega)).mono ?_;rintro e wz2 ⟨rfl,hf2⟩;have z1:=hf2.size;(try simp only[World.size_alloc,World.size_setCell,World.size_drew]at z1);have k0:=hf2.blk w.heap.size (by exact Qz);rw[B2.out])|(go_at_call 111;refine(szFilterS_any _ d.f3 (left-b1-b2) _ (R3.out.fr (by exact Qf)) O3.out (by omega) (by omega)).mono ?_;rintro e wz3 ⟨rfl,hf3⟩;have z1:=hf3.size;(try simp only[World.size_alloc,World.size_setCell,World.size_drew]at z1);have k0:=hf3.blk w.heap.size (by exact Qz);rw[B3.out]))
       go_ret
       exact⟨ret_int (by rw[HB.out,szR_no (by omega)]),by exact Qf⟩
   · have z2:szR (left-b1) b2= -1:=szR_no q2
     go_enter Tryz.func43,Tryz.ntmps43
     go_wp2_with(first|(go_at_call 109;refine(szStringS_any _ d.f1 left _ (R1.out.fr (by exact Qf)) O1.out (by omega) (by omega)).mono ?_;rintro e wz1 ⟨rfl,hf1⟩;subst hf1;rw[B1.out])|(go_at_call 110;refine(szAtomS_any _ d.f2 (left-b1) _ (R2.out.fr (by exact Qf)) O2.out (by omega) (by omega)).mono ?_;rintro e wz2 ⟨rfl,hf2⟩;have z1:=hf2.size;(try simp only[World.size_alloc,World.size_setCell,World.size_drew]at z1);have k0:=hf2.blk w.heap.size (by exact Qz);rw[B2.out]))
     go_ret
     exact⟨ret_int (by rw[HB.out,szR_no (by omega)]),by exact Qf⟩
 · have z1:szR left b1= -1:=szR_no q1
   go_enter Tryz.func43,Tryz.ntmps43
   go_wp2_with(first|(go_at_call 109;refine(szStringS_any _ d.f1 left _ (R1.out.fr (by exact Qf)) O1.out (by omega) (by omega)).mono ?_;rintro e wz1 ⟨rfl,hf1⟩;subst hf1;rw[B1.out]))
   go_ret
   exact⟨ret_int (by rw[HB.out,szR_no (by omega)]),by exact Qf⟩
def QueryW (w:World) (lo hi:Nat) (v:Value) (d:QueryD):Prop:= ∃ a1 c1 a2 c2 a3 c3 m1 m2,v= .agg #[.bool d.f0,.slice a1 d.f1.length c1,.slice a2 d.f2.length c2,.slice a3 d.f3.length c3]∧(lo≤m1∧m1≤m2∧m2≤hi)∧StrsW w lo m1 (.slice a1 d.f1.length c1) d.f1∧AtomsW w m1 m2 (.slice a2 d.f2.length c2) d.f2∧FiltersW w m2 hi (.slice a3 d.f3.length c3) d.f3
theorem QueryW.fr {w w':World} {lo hi:Nat} {v:Value} {d:QueryD} (h:QueryW w lo hi v d) (hf:Fr w w'):QueryW w' lo hi v d:=by obtain⟨a1,c1,a2,c2,a3,c3,m1,m2,h1,hm,o1,o2,o3⟩:=h;exact⟨a1,c1,a2,c2,a3,c3,m1,m2,h1,hm,o1.fr hf,o2.fr hf,o3.fr hf⟩
theorem QueryW.rd {w:World} {lo hi:Nat} {v:Value} {d:QueryD} (h:QueryW w lo hi v d):QueryRd w v d:=by obtain⟨a1,c1,a2,c2,a3,c3,m1,m2,h1,hm,o1,o2,o3⟩:=h;exact⟨_,_,_,h1,o1.rd,o2.rd,o3.rd⟩
theorem QueryW.span {w w':World} {lo hi:Nat} {v:Value} {d:QueryD} (h:QueryW w lo hi v d) {a b:Nat} (s:Span a b w w') (hd:hi≤a∨b≤lo):QueryW w' lo hi v d:=by obtain⟨a1,c1,a2,c2,a3,c3,m1,m2,h1,hm,o1,o2,o3⟩:=h;exact⟨a1,c1,a2,c2,a3,c3,m1,m2,h1,hm,o1.span s (by omega),o2.span s (by omega),o3.span s (by omega)⟩
def QueryD.cnt (d:QueryD):Nat:=1*d.f1.length+3*d.f2.length+4*d.f3.length
theorem QueryD.cnt_le (d:QueryD):d.cnt≤4*d.bulk:=by unfold QueryD.cnt QueryD.bulk strsBulk AtomsBulk FiltersBulk;omega
set_option maxHeartbeats 2000000 in
set_option maxRecDepth 100000 in
theorem toQuery_w (v:Value) (d:QueryD) (w:World) (hv:QueryRd w v d) (hn:d.bulk≤1048576):
  Calls Tryz.prog 46 #[v] w fun e w'=> ∃ a1 c1 a2 c2 a3 c3,e= .returned (.agg #[.bool d.f0,.slice a1 d.f1.length c1,.slice a2 d.f2.length c2,.slice a3 d.f3.length c3])∧QueryW w' w.heap.size w'.heap.size (.agg #[.bool d.f0,.slice a1 d.f1.length c1,.slice a2 d.f2.length c2,.slice a3 d.f3.length c3]) d∧Fr w w':=by
 obtain⟨u1,u2,u3,rfl,r1,r2,r3⟩:=hv
 unfold QueryD.bulk strsBulk AtomsBulk FiltersBulk at hn
 have HN:=Lib.hid hn
 clear hn
 have R1:=Lib.hid r1
 have R2:=Lib.hid r2
 have R3:=Lib.hid r3
 clear r1 r2 r3
 go_enter Tryz.func46,Tryz.ntmps46
 go_wp2_with fail
 refine(toStringS_w _ d.f1 _ (R1.out.fr (by exact Qf)) (by have:=HN.out;omega)).mono ?_
 rintro e w1 ⟨a1,c1,rfl,ho1,hf1⟩
 have k0:=hf1.blk w.heap.size (by exact Qz);have k1:=hf1.blk (w.heap.size+1) (by exact Qz);have k2:=hf1.blk (w.heap.size+1+1) (by exact Qz);have z1:=hf1.size;(try simp only[World.size_alloc,World.size_setCell,World.size_drew]at z1)
 have HO1:=Lib.hid ho1
 clear ho1
 go_wp2_with fail
 refine(toAtomS_w _ d.f2 _ (R2.out.fr (by exact Qf)) (by have:=HN.out;omega)).mono ?_
 rintro e w2 ⟨a2,c2,rfl,ho2,hf2⟩
 have k0:=hf2.blk w.heap.size (by exact Qz);have k1:=hf2.blk (w.heap.size+1) (by exact Qz);have k2:=hf2.blk (w.heap.size+1+1) (by exact Qz);have z2:=hf2.size;(try simp only[World.size_alloc,World.size_setCell,World.size_drew]at z2)
 have HO2:=Lib.hid ho2
 clear ho2
 go_wp2_with fail
 refine(toFilterS_w _ d.f3 _ (R3.out.fr (by exact Qf)) (by have:=HN.out;omega)).mono ?_
 rintro e w3 ⟨a3,c3,rfl,ho3,hf3⟩
 have k0:=hf3.blk w.heap.size (by exact Qz);have k1:=hf3.blk (w.heap.size+1) (by exact Qz);have k2:=hf3.blk (w.heap.size+1+1) (by exact Qz);have z3:=hf3.size;(try simp only[World.size_alloc,World.size_setCell,World.size_drew]at z3)
 have HO3:=Lib.hid ho3
 clear ho3
 go_wp2_with fail
 refine bodyPost_ret (v:= .agg #[.bool d.f0,.slice a1 d.f1.length c1,.slice a2 d.f2.length c2,.slice a3 d.f3.length c3]) (by simp[results,Tryz.results46,go_sem, *]) rfl ⟨_,_,_,_,_,_,rfl,⟨_,_,_,_,_,_,w1.heap.size,w2.heap.size,rfl,⟨?_,?_,?_⟩,OwW.mono (OwW.ab HO1.out (by exact Qa)) (by exact Qz) (by exact Qz),OwW.mono (OwW.ab HO2.out (by exact Qa)) (by exact Qz) (by exact Qz),OwW.mono (OwW.ab HO3.out (by exact Qa)) (by exact Qz) (by exact Qz)⟩,by exact Qf⟩
 all_goals first|(first|(with_reducible assumption)|omega|(simp only[World.size_alloc,World.size_setCell,World.size_drew,World.heap_drewN];omega)|(simp;done)|(simp;omega))|(simp only[World.size_alloc,World.size_setCell,World.size_drew];omega)
def QueryD.mkd (d:QueryD) (k:Int):QueryD:= {d with f1:=mkStrs k d.f1.length,f2:=mkAtoms (k+1*d.f1.length) d.f2.length,f3:=mkFilters ((k+1*d.f1.length)+3*d.f2.length) d.f3.length}
theorem QueryD.mkd_cnt (d:QueryD) (k:Int):(d.mkd k).cnt=d.cnt:=by simp[QueryD.cnt,QueryD.mkd,mkStrs_length,mkAtoms_length,mkFilters_length]
set_option maxHeartbeats 2000000 in
set_option maxRecDepth 100000 in
theorem markQuery_w (v:Value) (d:QueryD) (k:Int) (lo hi:Nat) (w:World) (ha:QueryW w lo hi v d) (hh:hi≤w.heap.size) (h0:0<k) (h1:k+d.cnt≤1073741824):
  Calls Tryz.prog 53 #[v,.int .i64 k] w fun e w'=>e= .returned (.int .i64 (k+d.cnt))∧QueryW w' lo hi v (d.mkd k)∧Span lo hi w w':=by
 unfold QueryD.cnt at h1 ⊢
 obtain⟨a1,c1,a2,c2,a3,c3,m1,m2,rfl,⟨hm0,hm1,hm2⟩,o1,o2,o3⟩:=ha
 have O1:=Lib.hid o1;clear o1
 have O2:=Lib.hid o2;clear o2
 have O3:=Lib.hid o3;clear o3
 obtain⟨k_1,hk1⟩: ∃ q:Int,k+1*(d.f1.length:Int)=q:=⟨_,rfl⟩
 have hp1:0<k_1:=by omega
 obtain⟨k_2,hk2⟩: ∃ q:Int,k_1+3*(d.f2.length:Int)=q:=⟨_,rfl⟩
 have hp2:0<k_2:=by omega
 have hb1:k_1+3*(d.f2.length:Int)≤1073741824:=by omega
 have hb2:k_2+4*(d.f3.length:Int)≤1073741824:=by omega
 have HK1:=Lib.hid hk1;clear hk1
 have HK2:=Lib.hid hk2;clear hk2
 go_enter Tryz.func53,Tryz.ntmps53
 go_wp2_with fail
 refine(markStringS_w _ d.f1 k lo m1 _ (O1.out.fr (by exact Qf)) (by omega) (by omega)).mono ?_
 rintro e w1 ⟨rfl,q1,sp1⟩
 rw[HK1.out]
 have zs1:=sp1.size;(try simp only[World.size_alloc]at zs1)
 have B1:=(Box.new w _ _).span sp1 (.inr (by exact Qz))
 have F1:=B1.facts
 have Q1_1:=Lib.hid q1;clear q1
 have p2:=OwW.span (O2.out.fr (show Fr w (w.alloc _) by exact Qf)) sp1 (by omega);have P2_1:=Lib.hid p2;clear p2
 have p3:=OwW.span (O3.out.fr (show Fr w (w.alloc _) by exact Qf)) sp1 (by omega);have P3_1:=Lib.hid p3;clear p3
 go_wp2_with fail
 refine(markAtomS_w _ d.f2 k_1 m1 m2 _ P2_1.out (by omega) (by omega)).mono ?_
 rintro e w2 ⟨rfl,q2,sp2⟩
 rw[HK2.out]
 have zs2:=sp2.size;(try simp only[World.size_alloc]at zs2)
 have B2:=(B1).span sp2 (.inr (by exact Qz))
 have F2:=B2.facts
 clear F1
 have Q2_2:=Lib.hid q2;clear q2
 have p1:=OwW.span Q1_1.out sp2 (by omega);have Q1_2:=Lib.hid p1;clear p1
 have p3:=OwW.span P3_1.out sp2 (by omega);have P3_2:=Lib.hid p3;clear p3
 go_wp2_with fail
 refine(markFilterS_w _ d.f3 k_2 m2 hi _ P3_2.out (by omega) (by omega)).mono ?_
 rintro e w3 ⟨rfl,q3,sp3⟩
 have zs3:=sp3.size;(try simp only[World.size_alloc]at zs3)
 have B3:=(B2).span sp3 (.inr (by exact Qz))
 have F3:=B3.facts
 clear F2
 have Q3_3:=Lib.hid q3;clear q3
 have p1:=OwW.span Q1_2.out sp3 (by omega);have Q1_3:=Lib.hid p1;clear p1
 have p2:=OwW.span Q2_2.out sp3 (by omega);have Q2_3:=Lib.hid p2;clear p2
 go_wp2_with fail
 go_ret
 refine⟨ret_int (by have:=HK1.out;have:=HK2.out;omega),⟨a1,c1,a2,c2,a3,c3,m1,m2,by simp[QueryD.mkd,mkStrs_length,mkAtoms_length,mkFilters_length],⟨hm0,hm1,hm2⟩,by have:=Q1_3.out;simpa [StrsW,QueryD.mkd,mkStrs_length,mkAtoms_length,mkFilters_length]using this,by have:=Q2_3.out;rw[← HK1.out]at this;simpa [AtomsW,QueryD.mkd,mkStrs_length,mkAtoms_length,mkFilters_length]using this,by have:=Q3_3.out;rw[← HK2.out, ← HK1.out]at this;simpa [FiltersW,QueryD.mkd,mkStrs_length,mkAtoms_length,mkFilters_length]using this⟩,((((Span.of_fr (show Fr w (w.alloc _) by exact Qf)).trans (sp1.mono (by omega) (by omega))).trans (sp2.mono (by omega) (by omega))).trans (sp3.mono (by omega) (by omega)))⟩
/-- The byte at a place, 0 at the end. -/
def nx (t:ByteArray) (a:Nat):Nat:=if h:a<t.size then(t[a]).toNat else 0
def isLab (n:Nat):Bool:=decide (97≤n∧n≤100)
def grp (op:Int) (ks:List Int) (ps:List PieceD):Int×List PieceD:=
 match ks with
 |[k]=>(k,ps)
 |_=>((ps.length:Int),ps++[⟨op,0,ks⟩])
inductive Job where
 |item
 |post (k:Int)
 |alt (ks:List Int)
 |expr (ks:List Int)
def prs (t:ByteArray):Nat→Job→Nat→List PieceD→Option (Int×Nat×List PieceD)
 |0,_,_,_=>none
 |f+1,.item,a,ps=>
  if nx t a=40 then
   match prs t f (.expr []) (a+1) ps with
   |none=>none
   |some (k,a1,ps1)=>if nx t a1=41 then prs t f (.post k) (a1+1) ps1 else none
  else prs t f (.post (ps.length:Int)) (a+1) (ps++[⟨1,UInt8.ofNat (nx t a),[]⟩])
 |f+1,.post k,a,ps=>
  if nx t a=42 then prs t f (.post (ps.length:Int)) (a+1) (ps++[⟨4,0,[k]⟩])
  else if nx t a=43 then prs t f (.post (ps.length:Int)) (a+1) (ps++[⟨5,0,[k]⟩])
  else if nx t a=63 then prs t f (.post (ps.length:Int)) (a+1) (ps++[⟨6,0,[k]⟩])
  else some (k,a,ps)
 |f+1,.alt ks,a,ps=>
  if isLab (nx t a)=true∨nx t a=40 then
   match prs t f .item a ps with
   |none=>none
   |some (k,a1,ps1)=>prs t f (.alt (ks++[k])) a1 ps1
  else if ks.length=0 then none else some ((grp 2 ks ps).1,a,(grp 2 ks ps).2)
 |f+1,.expr ks,a,ps=>
  match prs t f (.alt []) a ps with
  |none=>none
  |some (k,a1,ps1)=>
   if nx t a1=124 then prs t f (.expr (ks++[k])) (a1+1) ps1
   else some ((grp 3 (ks++[k]) ps1).1,a1,(grp 3 (ks++[k]) ps1).2)
def rpG (t:ByteArray) (r:Option (Int×Nat×List PieceD)):List PieceD×Bool:=
 match r with
 |none=>([],false)
 |some (_,a,ps)=>if a=t.size∧pathB ps=true then(ps,true)else([],false)
def rpM (t:ByteArray):List PieceD×Bool:=if 20<t.size then([],false)else rpG t (prs t 100 (.expr []) 0 [])
example:rpM ⟨#[97,98,42]⟩=([⟨1,97,[]⟩,⟨1,98,[]⟩,⟨4,0,[1]⟩,⟨2,0,[0,2]⟩],true):=by decide
example:rpM ⟨#[40,97,124,98,99,41,63]⟩=([⟨1,97,[]⟩,⟨1,98,[]⟩,⟨1,99,[]⟩,⟨2,0,[1,2]⟩,⟨3,0,[0,3]⟩,⟨6,0,[4]⟩],true):=by decide
example:(rpM ⟨#[97,124]⟩).2=false:=by decide
theorem nx_end {t:ByteArray} {a:Nat} (h:t.size≤a):nx t a=0:=by unfold nx;rw[dif_neg (by omega)]
theorem nx_in {t:ByteArray} {a:Nat} (h:nx t a≠0):a<t.size:=by
 rcases Nat.lt_or_ge a t.size with h1|h1
 · exact h1
 · exact absurd (nx_end h1) h
theorem nx_lt (t:ByteArray) (a:Nat):nx t a<256:=by
 unfold nx
 split
 · exact UInt8.toNat_lt _
 · omega
/-- Places only go on, pieces are only laid behind. -/
theorem prs_on (t:ByteArray): ∀ (f:Nat) (j:Job) (a:Nat) (ps:List PieceD) (k:Int) (a1:Nat) (ps1:List PieceD),prs t f j a ps=some (k,a1,ps1)→a≤a1∧(∃ more,ps1=ps++more)∧(j= .item→a+1≤a1):=by
 intro f
 induction f with
 |zero=>intro j a ps k a1 ps1 h;rw[prs]at h;cases h
 |succ f ih=>
  intro j a ps k a1 ps1 h
  cases j with
  |item=>
   rw[prs]at h
   split at h
   · cases hE:prs t f (.expr []) (a+1) ps with
     |none=>rw[hE]at h;cases h
     |some r=>
      obtain⟨k2,a2,ps2⟩:=r
      rw[hE]at h
      simp only[]at h
      split at h
      · obtain⟨b1,⟨m1,b2⟩,_⟩:=ih _ _ _ _ _ _ hE
        obtain⟨c1,⟨m2,c2⟩,_⟩:=ih _ _ _ _ _ _ h
        exact⟨by omega,⟨m1++m2,by rw[c2,b2,List.append_assoc]⟩,fun _=>by omega⟩
      · cases h
   · obtain⟨c1,⟨m2,c2⟩,_⟩:=ih _ _ _ _ _ _ h
     exact⟨by omega,⟨_,by rw[c2,List.append_assoc]⟩,fun _=>by omega⟩
  |post k0=>
   rw[prs]at h
   split at h
   · obtain⟨c1,⟨m2,c2⟩,_⟩:=ih _ _ _ _ _ _ h
     exact⟨by omega,⟨_,by rw[c2,List.append_assoc]⟩,fun h=>by cases h⟩
   · split at h
     · obtain⟨c1,⟨m2,c2⟩,_⟩:=ih _ _ _ _ _ _ h
       exact⟨by omega,⟨_,by rw[c2,List.append_assoc]⟩,fun h=>by cases h⟩
     · split at h
       · obtain⟨c1,⟨m2,c2⟩,_⟩:=ih _ _ _ _ _ _ h
         exact⟨by omega,⟨_,by rw[c2,List.append_assoc]⟩,fun h=>by cases h⟩
       · cases h
         exact⟨Nat.le_refl _,⟨[],by simp⟩,fun h=>by cases h⟩
  |alt ks=>
   rw[prs]at h
   split at h
   · cases hE:prs t f .item a ps with
     |none=>rw[hE]at h;cases h
     |some r=>
      obtain⟨k2,a2,ps2⟩:=r
      rw[hE]at h
      simp only[]at h
      obtain⟨b1,⟨m1,b2⟩,_⟩:=ih _ _ _ _ _ _ hE
      obtain⟨c1,⟨m2,c2⟩,_⟩:=ih _ _ _ _ _ _ h
      exact⟨by omega,⟨m1++m2,by rw[c2,b2,List.append_assoc]⟩,fun h=>by cases h⟩
   · split at h
     · cases h
     · cases h
       refine⟨Nat.le_refl _,?_,fun h=>by cases h⟩
       unfold grp
       split
       · exact⟨[],by simp⟩
       · exact⟨_,rfl⟩
  |expr ks=>
   rw[prs]at h
   cases hE:prs t f (.alt []) a ps with
   |none=>rw[hE]at h;cases h
   |some r=>
    obtain⟨k2,a2,ps2⟩:=r
    rw[hE]at h
    simp only[]at h
    obtain⟨b1,⟨m1,b2⟩,_⟩:=ih _ _ _ _ _ _ hE
    split at h
    · obtain⟨c1,⟨m2,c2⟩,_⟩:=ih _ _ _ _ _ _ h
      exact⟨by omega,⟨m1++m2,by rw[c2,b2,List.append_assoc]⟩,fun h=>by cases h⟩
    · cases h
      refine⟨b1,?_,fun h=>by cases h⟩
      unfold grp
      split
      · exact⟨m1,b2⟩
      · exact⟨_,by rw[b2,List.append_assoc]⟩
def pcells:List PieceD→List Value→List Value
 |d::ps,u::us=> .int .i64 d.f0:: .int .u8 (d.f1.toNat:Int)::u::pcells ps us
 |_,_=>[]
theorem pcells_snoc: ∀ {ps:List PieceD} {us:List Value} (x:PieceD) (u:Value),us.length=ps.length→pcells (ps++[x]) (us++[u])=pcells ps us++[.int .i64 x.f0,.int .u8 (x.f1.toNat:Int),u]
 |[],[],x,u,_=>rfl
 |[],_::_,_,_,h=>by simp at h
 |_::_,[],_,_,h=>by simp at h
 |d::ps,e::us,x,u,h=>by
  simp only[List.cons_append,pcells]
  rw[pcells_snoc x u (by simpa using h)]
/-- The pieces that a reader has laid down so far: the row is its own, and so is each piece's row of kids; the rows lie apart. -/
structure Prd (w:World) (lo:Nat) (v:Value) (ps:List PieceD) (us:List Value):Prop where
 len:us.length=ps.length
 own:w.ownsRow lo 255 3 v ps.length (pcells ps us)
 kid: ∀ k,k<ps.length→IntsO w lo (nAt us k) (nAt ps k).f2∧Apart (nAt us k) v
theorem Prd.none (w:World) (lo:Nat):Prd w lo (.slice none 0 0) [] []:=⟨rfl,World.ownsRow_nil _ _ _ _,fun k hk=>by simp at hk⟩
theorem Prd.fr {w w':World} {lo:Nat} {v:Value} {ps:List PieceD} {us:List Value} (h:Prd w lo v ps us) (hf:Fr w w'):Prd w' lo v ps us:=
 ⟨h.len,owns_fr h.own hf,fun k hk=>⟨owns_fr (h.kid k hk).1 hf,(h.kid k hk).2⟩⟩
theorem Prd.set {w:World} {lo:Nat} {v:Value} {ps:List PieceD} {us:List Value} (h:Prd w lo v ps us) {p:Addr} (hp:p.block<lo) (u:Value):Prd (w.setCell p u) lo v ps us:=
 ⟨h.len,owns_set h.own hp u,fun k hk=>⟨owns_set (h.kid k hk).1 hp u,(h.kid k hk).2⟩⟩
theorem Prd.val {w:World} {lo:Nat} {v:Value} {ps:List PieceD} {us:List Value} (h:Prd w lo v ps us): ∃ ao cap,v= .slice ao ps.length cap:=owns_val h.own
set_option maxHeartbeats 1000000 in
theorem next_any (b a:Nat) (t:ByteArray) (v:Value) (w:World) (hb:Box w b #[.string t,.int .i64 (a:Int),v] 199) (ht:t.size≤1000):
  Calls Tryz.prog 207 #[.pointer (some ⟨b,0,none⟩)] w fun e w'=>e= .returned (.int .u8 (nx t a:Int))∧Fr w w':=by
 have F:=hb.facts
 by_cases hlt:a<t.size
 · have HX:Hid (nx t a=(t[a]).toNat):=Lib.hid (dif_pos hlt)
   go_enter Tryz.func207,Tryz.ntmps207
   go_wp2_with fail
   go_quiet (fail)
   go_wp2_with fail
   go_quiet (fail)
   go_wp2_with fail
   go_ret
   exact⟨ret_u8 (by rw[HX.out]),by exact Qf⟩
 · have HX:Hid (nx t a=0):=Lib.hid (nx_end (by omega))
   go_enter Tryz.func207,Tryz.ntmps207
   go_wp2_with fail
   go_quiet (fail)
   go_wp2_with fail
   go_ret
   exact⟨ret_u8 (by rw[HX.out];rfl),by exact Qf⟩
theorem Prd.more {w w':World} {lo:Nat} {v v' u:Value} {ps:List PieceD} {us:List Value} {x:PieceD} {H:Nat} (h:Prd w lo v ps us) (hu:IntsO w lo u x.f2) (hau:Apart u v) (hH:H=w.heap.size)
  (ho:w'.ownsRow lo 255 3 v' (ps.length+1) (pcells ps us++[.int .i64 x.f0,.int .u8 (x.f1.toNat:Int),u])) (hg: ∀ (z:Value) (ks:List Int),IntsO w lo z ks→Apart z v→IntsO w' lo z ks) (hat:v'.ownBlock=v.ownBlock∨ ∃ g,v'.ownBlock=some g∧w.heap.size≤g):Prd w' lo v' (ps++[x]) (us++[u]):=by
 have ap: ∀ (z:Value) (ks:List Int),IntsO w lo z ks→Apart z v→Apart z v':=fun z ks hz haz g h1 h2=>by
  rcases hat with e|⟨g',e,hge⟩
  · exact haz g h1 (e▸h2)
  · rw[e]at h2
    cases h2
    have:=(World.ownsRow.lt hz g h1).2
    omega
 refine⟨by simp[h.len],?_,fun k hk=>?_⟩
 · rw[pcells_snoc x u h.len]
   simpa using ho
 · simp only[List.length_append,List.length_singleton]at hk
   by_cases hk2:k<ps.length
   · have e1:nAt (us++[u]) k=nAt us k:=by unfold nAt;simp[List.getD,List.getElem?_append_left (show k<us.length by rw[h.len];exact hk2)]
     have e2:nAt (ps++[x]) k=nAt ps k:=by unfold nAt;simp[List.getD,List.getElem?_append_left hk2]
     rw[e1,e2]
     obtain⟨h1,h2⟩:=h.kid k hk2
     exact⟨hg _ _ h1 h2,ap _ _ h1 h2⟩
   · obtain rfl:k=ps.length:=by omega
     have e1:nAt (us++[u]) ps.length=u:=by unfold nAt;rw[← h.len];simp[List.getD]
     have e2:nAt (ps++[x]) ps.length=x:=by unfold nAt;simp[List.getD]
     rw[e1,e2]
     exact⟨hg _ _ hu hau,ap _ _ hu hau⟩
set_option maxHeartbeats 8000000 in
set_option maxRecDepth 100000 in
theorem piece_any (b lo a:Nat) (t:ByteArray) (v u:Value) (ps:List PieceD) (us:List Value) (x:PieceD) (w:World) (hb:Box w b #[.string t,.int .i64 (a:Int),v] 199) (hlo:b<lo) (hlw:lo≤w.heap.size)
  (hp:Prd w lo v ps us) (hu:IntsO w lo u x.f2) (hau:Apart u v) (hn:ps.length≤1000):
  Calls Tryz.prog 232 #[.pointer (some ⟨b,0,none⟩),.agg #[.int .i64 x.f0,.int .u8 (x.f1.toNat:Int),u]] w fun e w'=> ∃ v',e= .returned (.int .i64 (ps.length:Int))∧Box w' b #[.string t,.int .i64 (a:Int),v'] 199∧Prd w' lo v' (ps++[x]) (us++[u])∧Two b v.ownBlock w w'∧(v'.ownBlock=v.ownBlock∨ ∃ g,v'.ownBlock=some g∧w.heap.size≤g):=by
 obtain⟨i0,hi,hz0,hz1,hz2⟩:=info_parts info_Piece
 obtain⟨ao,cap,rfl⟩:=hp.val
 obtain⟨au,cu,rfl⟩:=owns_val hu
 have hxl:=x.f1.toNat_lt
 have hbl:=hb.lt
 have HP:=Lib.hid hp
 have HU:=Lib.hid hu
 have HO:Hid (w.ownsRow lo 255 3 (.slice ao ps.length cap) ps.length (pcells ps us)):=Lib.hid hp.own
 have hwl:IntKind.i64.wrap ((ps.length:Int)+1-1)=(ps.length:Int):=by rw[show(ps.length:Int)+1-1=ps.length by omega];exact IntWalk.i64_in _ (by omega)
 clear hp hu
 have F:=hb.facts
 have hne1:b≠w.heap.size:=by omega
 have hne2:w.heap.size≠b:=by omega
 go_enter Tryz.func232,Tryz.ntmps232
 go_wp2_with fail
 go_region_law((refine step_append_rd (by rfl) _ _ 138 (by rfl) lo 255 i0 (.agg #[.int .i64 0,.int .u8 0,.slice none 0 0]) 3 40 Tryz.underlying138 hi hz0 hz1 hz2 rfl (by decide) (.slice ao ps.length cap) ps.length (pcells ps us) (by rfl) (by exact owns_lo (owns_ab HO.out (by exact Qa)) (by exact Qz)) _ 1 [.int .i64 x.f0,.int .u8 (x.f1.toNat:Int),.slice au x.f2.length cu] (by rfl) (RdS.drew (RdS.new (by first|rfl|(simp;done)) rfl)) (by simp[Value.oneCell']) (by unfold maxLen;omega) (by omega) (by exact Qz) ?_;intro ay cy w9 hown hgrow hat;have hB9:Box w9 b _ _:=Box.gr (Box.fr hb (by exact Qf)) hgrow (fun e=>by have:=(World.ownsRow.lt HO.out b e).1;omega);have F9:=hB9.facts;have z9:=hgrow.size;(try simp only[World.size_alloc,World.size_drew]at z9)))
 all_goals
  go_wp2_with fail
  go_ret
  have hat2:(Value.slice ay (ps.length+1) cy).ownBlock=(Value.slice ao ps.length cap).ownBlock∨ ∃ g,(Value.slice ay (ps.length+1) cy).ownBlock=some g∧w.heap.size≤g:=by
   rcases hat with h|h
   · exact .inl h
   · exact .inr ⟨_,h,by simp;try omega⟩
  have hP9:=Prd.more HP.out HU.out hau rfl hown (fun z ks hz haz=>World.ownsRow.kept (owns_fr hz (by exact Qf)) hgrow (haz.symm.symm |> fun q=>(Apart.ne q))) hat2
  refine⟨.slice ay (ps.length+1) cy,by first|rfl|(congr 1),?_,?_,?_,hat2⟩
  · first|exact hB9.set_to (by simp)|exact(hB9.set_to (by simp)).drew
  · exact Prd.set hP9 (by show b<lo;omega) _
  · exact Two.set (Two.trans (Two.of_fr (by exact Qf)) (Two.of_gr hgrow)) 2 _
/-- What a call of the reader may have turned: its box, the row of its pieces, nothing else that stood. -/
structure PGo (b:Nat) (v v':Value) (w w':World):Prop where
 two:Two b v.ownBlock w w'
 row:v'.ownBlock=v.ownBlock∨ ∃ g,v'.ownBlock=some g∧w.heap.size≤g
theorem PGo.size {b:Nat} {v v':Value} {w w':World} (h:PGo b v v' w w'):w.heap.size≤w'.heap.size:=h.two.size
theorem PGo.of_fr {b:Nat} {v:Value} {w w':World} (h:Fr w w'):PGo b v v w w':=⟨Two.of_fr h,.inl rfl⟩
theorem PGo.then {b:Nat} {v v':Value} {w w' w'':World} (h:PGo b v v' w w') (k:Two b v'.ownBlock w' w''):Two b v.ownBlock w w'':=
 ⟨k.os.trans h.two.os,k.tape.trans h.two.tape,k.output.trans h.two.output,Nat.le_trans h.two.size k.size,fun i hi h1 h2=>by
  rw[k.block i (Nat.lt_of_lt_of_le hi h.two.size) h1 (fun e=>by
   rcases h.row with r|⟨g,r,hg⟩
   · exact h2 (e.trans r)
   · rw[r]at e;cases e;omega)]
  exact h.two.block i hi h1 h2⟩
theorem PGo.trans {b:Nat} {v v' v'':Value} {w w' w'':World} (h:PGo b v v' w w') (k:PGo b v' v'' w' w''):PGo b v v'' w w'':=
 ⟨h.then k.two,by
  rcases k.row with r|⟨g,r,hg⟩
  · rw[r]
    exact h.row
  · exact .inr ⟨g,r,Nat.le_trans h.two.size hg⟩⟩
/-- A row of the caller's own, apart from the pieces, stays as it is. -/
theorem PGo.kids {b lo:Nat} {v v' z:Value} {w w':World} {ks:List Int} (h:PGo b v v' w w') (hz:IntsO w lo z ks) (ha:Apart z v) (hb:b<lo):IntsO w' lo z ks∧Apart z v':=by
 refine⟨?_,fun g h1 h2=>?_⟩
 · obtain⟨h1,h2|⟨g,cap,cur,hv,hg,hh,hr⟩⟩:=hz
   · exact⟨h1,.inl h2⟩
   · refine⟨h1,.inr ⟨g,cap,cur,hv,hg,(h.two.block g (Array.getElem?_eq_some_iff.1 hh).1 (by omega) (fun e=>?_)).trans hh,hr⟩⟩
     exact ha g (by rw[hv];rfl) e.symm
 · rcases h.row with r|⟨g',r,hg⟩
   · exact ha g h1 (r▸h2)
   · rw[r]at h2
     cases h2
     have:=(World.ownsRow.lt hz g h1).2
     omega
/-- A row of a caller's: none of the pieces' rows. -/
def Apt (v:Value) (us:List Value) (y:Value):Prop:=Apart y v∧ ∀ u,u∈us→Apart y u
def Old (w:World) (y:Value):Prop:= ∀ g,y.ownBlock=some g→g<w.heap.size
theorem Apt.snoc {v v' u y:Value} {us:List Value} {w:World} (h:Apt v us y) (ho:Old w y) (hu:Apart y u) (hr:v'.ownBlock=v.ownBlock∨ ∃ g,v'.ownBlock=some g∧w.heap.size≤g):Apt v' (us++[u]) y:=by
 refine⟨fun g h1 h2=>?_,fun x hx=>?_⟩
 · rcases hr with r|⟨g',r,hg⟩
   · exact h.1 g h1 (r▸h2)
   · rw[r]at h2
     cases h2
     have:=ho g h1
     omega
 · rcases List.mem_append.1 hx with hx|hx
   · exact h.2 x hx
   · simp only[List.mem_singleton]at hx
     rw[hx]
     exact hu
/-- The reader's state behind a call: z is a row that the call was handed. -/
def RdSt (b lo a:Nat) (t:ByteArray) (v z:Value) (us:List Value) (ps:List PieceD) (w w':World):Prop:= ∃ v' us',Box w' b #[.string t,.int .i64 (a:Int),v'] 199∧Prd w' lo v' ps us'∧PGo b v v' w w'∧ ∀ y,Old w y→Apt v us y→Apart y z→Apt v' us' y
set_option maxHeartbeats 4000000 in
theorem group_any (b lo a:Nat) (t:ByteArray) (v z:Value) (ps:List PieceD) (us:List Value) (op:Int) (ks:List Int) (w:World) (hb:Box w b #[.string t,.int .i64 (a:Int),v] 199) (hlo:b<lo) (hlw:lo≤w.heap.size)
  (hp:Prd w lo v ps us) (hu:IntsO w lo z ks) (hau:Apart z v) (hn:ps.length≤1000) (hk:0<ks.length):
  Calls Tryz.prog 208 #[.pointer (some ⟨b,0,none⟩),.int .i64 op,z] w fun e w'=>e= .returned (.int .i64 (grp op ks ps).1)∧RdSt b lo a t v z us (grp op ks ps).2 w w':=by
 have HB:=Lib.hid hb
 have HP:=Lib.hid hp
 have HU:=Lib.hid hu
 obtain⟨az,cz,rfl⟩:=owns_val hu
 obtain⟨az',bz,oz,cz',hv,hcz,hmz,fz⟩:=(IntsO.rd hu).one
 cases hv
 obtain⟨rfl,hbz,fz⟩:=fz hk
 by_cases h1:ks.length=1
 · obtain⟨k,rfl⟩: ∃ k,ks=[k]:=by
    match ks,h1 with
    |[k],_=>exact⟨k,rfl⟩
   have c0:w.cell? ⟨bz,oz,none⟩=some (.int .i64 k):=fz 0 (by simp)
   clear fz hb hp hu
   go_enter Tryz.func208,Tryz.ntmps208
   go_wp2_with fail
   go_ret
   exact⟨rfl,v,us,HB.out.fr (by exact Qf),HP.out.fr (by exact Qf),PGo.of_fr (by exact Qf),fun y _ h _=>h⟩
 · have hg:grp op ks ps=((ps.length:Int),ps++[⟨op,0,ks⟩]):=by
    unfold grp
    split
    · simp at h1
    · rfl
   have HG:=Lib.hid hg
   have q:((ks.length:Int)==1)=false:=by rw[beq_eq_false_iff_ne];omega
   have CP:Hid (∀ w',Fr w w'→Calls Tryz.prog 232 #[.pointer (some ⟨b,0,none⟩),.agg #[.int .i64 op,.int .u8 0,.slice (some ⟨bz,oz,none⟩) ks.length cz]] w' fun e w''=> ∃ v',e= .returned (.int .i64 (ps.length:Int))∧Box w'' b #[.string t,.int .i64 (a:Int),v'] 199∧Prd w'' lo v' (ps++[⟨op,0,ks⟩]) (us++[.slice (some ⟨bz,oz,none⟩) ks.length cz])∧Two b v.ownBlock w' w''∧(v'.ownBlock=v.ownBlock∨ ∃ g,v'.ownBlock=some g∧w'.heap.size≤g)):=Lib.hid fun w' h=>piece_any b lo a t v _ ps us ⟨op,0,ks⟩ w' (HB.out.fr h) hlo (by have:=h.size;omega) (HP.out.fr h) (owns_fr HU.out h) hau hn
   clear fz hb hp hu hg
   go_enter Tryz.func208,Tryz.ntmps208
   go_wp2_with fail
   refine(CP.out _ (by exact Qf)).mono ?_
   rintro e w1 ⟨v',rfl,hb1,hp1,ht1,hr1⟩
   have HB1:=Lib.hid hb1
   have HP1:=Lib.hid hp1
   clear hb1 hp1
   go_wp2_with fail
   go_ret
   rw[HG.out]
   have hr2:v'.ownBlock=v.ownBlock∨ ∃ g,v'.ownBlock=some g∧w.heap.size≤g:=hr1
   exact⟨rfl,v',_,HB1.out,HP1.out,⟨ht1,hr2⟩,fun y hy h hz=>h.snoc hy hz hr2⟩
end Go.Proofs.YtjnahjgncmcmdaaGreat