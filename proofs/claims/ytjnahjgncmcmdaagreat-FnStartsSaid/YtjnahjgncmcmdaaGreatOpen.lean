/- Arguments opened: from the form's reading of an argument to 'RdS', 'StrsR' and their kin. No condition. -/
import Derived.Test.YtjnahjgncmcmdaaGreatGStr
import Derived.Deep.Slices
import Derived.Deep.Fields
namespace Go.Proofs.YtjnahjgncmcmdaaGreat
open Go.RowKit Go.Deep Go.ChangeShapes Go.WideShapes
set_option linter.unusedVariables false

theorem mapM_some {α β:Type} {f:α→Option β}: ∀ {l:List α} {r:List β},l.mapM f=some r→r.length=l.length∧ ∀ (i:Nat) (x:α),l[i]? =some x→f x=r[i]?
 |[],r,h=>by simp at h;subst h;simp
 |a::l,r,h=>by
  simp only[List.mapM_cons,Option.bind_eq_bind,Option.bind_eq_some_iff,Option.pure_def,Option.some.injEq]at h
  obtain⟨b,hb,r',hr,rfl⟩:=h
  obtain⟨h1,h2⟩:=mapM_some hr
  refine⟨by simp[h1],fun i x hx=>?_⟩
  cases i with
  |zero=>simp at hx;subst hx;simpa using hb
  |succ i=>simp at hx;simpa using h2 i x hx

theorem cells_some {w:World} {base:Nat} {a:Addr} {n:Nat} {cs:List Value} (h:w.cells? base a n=some cs):cs.length=n∧ ∀ j,j<n→w.cell? (a.add j)=cs[j]? :=by
 unfold World.cells? at h
 split at h
 · obtain⟨h1,h2⟩:=mapM_some h
   refine⟨by simpa using h1,fun j hj=>h2 j j (by simp[hj])⟩
 · cases h

theorem flat_at {C:Nat→List Value} {sz:Nat}: ∀ {n:Nat},(∀ i,i<n→(C i).length=sz)→ ∀ i j,i<n→j<sz→((List.range n).flatMap C)[i*sz+j]? =(C i)[j]?
 |0,_,i,j,hi,_=>absurd hi (by omega)
 |n+1,h,i,j,hi,hj=>by
  have hl:((List.range n).flatMap C).length=n*sz:=by
   have: ∀ m,m≤n→((List.range m).flatMap C).length=m*sz:=by
    intro m
    induction m with
    |zero=>intro _;simp
    |succ m ih=>intro hm;rw[List.range_succ,List.flatMap_append,List.length_append,ih (by omega)];simp[h m (by omega),Nat.add_mul]
   exact this n (Nat.le_refl _)
  rw[List.range_succ,List.flatMap_append]
  by_cases hin:i<n
  · have:i*sz+j<n*sz:=by
     have:=Nat.mul_le_mul_right sz (show i+1≤n by omega)
     rw[Nat.add_mul]at this
     omega
    rw[List.getElem?_append_left (by omega)]
    exact flat_at (fun k hk=>h k (by omega)) i j hin hj
  · obtain rfl:i=n:=by omega
    rw[List.getElem?_append_right (by omega),hl,show i*sz+j-i*sz=j by omega]
    simp
theorem flat_length {C:Nat→List Value} {sz:Nat} {n:Nat} (h: ∀ i,i<n→(C i).length=sz):((List.range n).flatMap C).length=n*sz:=by
 induction n with
 |zero=>simp
 |succ n ih=>rw[List.range_succ,List.flatMap_append,List.length_append,ih (fun i hi=>h i (by omega))];simp[h n (by omega),Nat.add_mul]

section
variable {H:Type} {enc:TypeId×Value→H} {P:Program} {w:World} {spare:Nat→Bool} {held:Bool}
/-- A slice of whatever elements: its rows of cells, each with its own reading. -/
theorem open_rows {t e:TypeId} {sz fuel:Nat} {v:Value} {x:DataW H×List MemPlace} (ht:P.underlying t=some (.slice e)) (hc:P.cellsOf e=sz) (hsz:0<sz) (h:DataW.trod enc P w 0 spare held fuel t [v]=some x):
  ∃ (n:Nat) (C:Nat→List Value),RdS w sz v n ((List.range n).flatMap C)∧n≤maxLen∧ ∀ i,i<n→(C i).length=sz∧ ∃ m y,DataW.trod enc P w 0 spare held m e (C i)=some y:=by
 rcases open_slice ht h with⟨hcs,rfl⟩|⟨a,len,cap,m,k,D,Pl,hcs,_,hl,hm,hmm,_,hel⟩
 · obtain rfl:v= .slice none 0 0:=by simpa using hcs
   exact⟨0,fun _=>[],⟨by simp,none,0,rfl,Nat.le_refl _,by simp[maxLen],fun h=>absurd h (by omega)⟩,by simp[maxLen],fun i hi=>absurd hi (by omega)⟩
 · obtain rfl:v= .slice (some a) len cap:=by simpa using hcs
   have hlm:len≤m:=by rw[hmm];split<;>omega
   have hel': ∀ i,∃ cs:List Value,i<len→cs.length=sz∧(∀ j,j<sz→w.cell? ((a.add (i*sz)).add j)=cs[j]?)∧ ∃ y,DataW.trod enc P w 0 spare held k e cs=some y:=by
    intro i
    by_cases hi:i<len
    · obtain⟨cs',h1,h2⟩:=hel i (by omega)
      rw[hc]at h1
      obtain⟨h3,h4⟩:=cells_some h1
      exact⟨cs',fun _=>⟨h3,h4,_,h2⟩⟩
    · exact⟨[],fun h=>absurd h hi⟩
   have hC:=Classical.axiomOfChoice hel'
   obtain⟨C,hC⟩:=hC
   refine⟨len,C,⟨flat_length (fun i hi=>(hC i hi).1),some a,cap,rfl,hl,hm,fun hn=>?_⟩,by omega,fun i hi=>⟨(hC i hi).1,k,(hC i hi).2.2⟩⟩
   obtain⟨b,off,spot⟩:=a
   have h00:w.cell? ⟨b,off,spot⟩=some ((C 0)[0]'(by rw[(hC 0 hn).1];exact hsz)):=by
    have:=(hC 0 hn).2.1 0 hsz
    simpa [Addr.add,List.getElem?_eq_getElem (show 0<(C 0).length by rw[(hC 0 hn).1];exact hsz)]using this
   have hspot:spot=none:=World.cell?_spot h00
   subst hspot
   refine⟨b,off,rfl,World.block_lt_of_cell? w _ h00,fun j hj=>?_⟩
   have h1:j/sz<len:=Nat.div_lt_of_lt_mul (by rw[Nat.mul_comm];exact hj)
   have h2:j%sz<sz:=Nat.mod_lt _ hsz
   have h3:j/sz*sz+j%sz=j:=by rw[Nat.mul_comm];exact Nat.div_add_mod _ _
   have:=(hC (j/sz) h1).2.1 (j%sz) h2
   rw[WideShapes.add_plain,WideShapes.add_plain,Nat.add_assoc,h3]at this
   rw[this, ← flat_at (fun i hi=>(hC i hi).1) (j/sz) (j%sz) h1 h2,h3]

theorem flat_one {α:Type} {C:Nat→List Value} {f:α→Value} {n:Nat} {g:Nat→α} (h: ∀ i,i<n→C i=[f (g i)]):(List.range n).flatMap C=((List.range n).map g).map f:=by
 induction n with
 |zero=>simp
 |succ n ih=>rw[List.range_succ,List.flatMap_append,ih (fun i hi=>h i (by omega))];simp[h n (by omega)]

/-- A slice of one-cell elements that each read as some 'f x' with 'p x'. -/
theorem open_ones {α:Type} [Inhabited α] {f:α→Value} {p:α→Prop} {t e:TypeId} {fuel:Nat} {v:Value} {x:DataW H×List MemPlace} (ht:P.underlying t=some (.slice e)) (hc:P.cellsOf e=1) (h:DataW.trod enc P w 0 spare held fuel t [v]=some x)
  (hp: ∀ m (c:Value) (y:DataW H×List MemPlace),DataW.trod enc P w 0 spare held m e [c]=some y→ ∃ a,c=f a∧p a):
  ∃ l:List α,RdS w 1 v l.length (l.map f)∧ ∀ a∈l,p a:=by
 obtain⟨n,C,hr,_,hC⟩:=open_rows ht hc (by omega) h
 have: ∀ i,∃ a,i<n→C i=[f a]∧p a:=by
  intro i
  by_cases hi:i<n
  · obtain⟨h1,m,y,h2⟩:=hC i hi
    match hcs:C i,h1 with
    |[c],_=>
     rw[hcs]at h2
     obtain⟨a,rfl,ha⟩:=hp m c y h2
     exact⟨a,fun _=>⟨rfl,ha⟩⟩
  · exact⟨default,fun h=>absurd h hi⟩
 obtain⟨g,hg⟩:=Classical.axiomOfChoice this
 refine⟨(List.range n).map g,?_,?_⟩
 · rw[← flat_one (fun i hi=>(hg i hi).1)]
   simpa using hr
 · intro a ha
   obtain⟨i,hi,rfl⟩:=List.mem_map.1 ha
   exact(hg i (by simpa using hi)).2

theorem open_strsR {t e:TypeId} {fuel:Nat} {v:Value} {x:DataW H×List MemPlace} (ht:P.underlying t=some (.slice e)) (he:P.underlying e=some .string) (hc:P.cellsOf e=1) (h:DataW.trod enc P w 0 spare held fuel t [v]=some x):
  ∃ ss,StrsR w v ss∧ ∀ s∈ss,s.size≤maxLen:=
 open_ones (f:=Value.string) (p:=fun s=>s.size≤maxLen) ht hc h fun m c y hy=>by
  obtain⟨s,h1,_,h3⟩:=DataW.trod_string he hy
  exact⟨s,by simpa using h1,h3⟩
theorem open_intsR {t e:TypeId} {fuel:Nat} {v:Value} {x:DataW H×List MemPlace} (ht:P.underlying t=some (.slice e)) (he:P.underlying e=some (.int .i64)) (hc:P.cellsOf e=1) (h:DataW.trod enc P w 0 spare held fuel t [v]=some x):
  ∃ ss,IntsR w v ss∧ ∀ s∈ss,(Lit.int .i64 s).wf=true:=
 open_ones (f:=Value.int .i64) (p:=fun s=>(Lit.int .i64 s).wf=true) ht hc h fun m c y hy=>by
  obtain⟨s,h1,_,h3⟩:=DataW.trod_int he hy
  exact⟨s,by simpa using h1,h3⟩
theorem open_boolsR {t e:TypeId} {fuel:Nat} {v:Value} {x:DataW H×List MemPlace} (ht:P.underlying t=some (.slice e)) (he:P.underlying e=some .bool) (hc:P.cellsOf e=1) (h:DataW.trod enc P w 0 spare held fuel t [v]=some x):
  ∃ ss,BoolsR w v ss∧ ∀ s∈ss,True:=
 open_ones (f:=Value.bool) (p:=fun s=>True) ht hc h fun m c y hy=>by
  obtain⟨s,h1,_⟩:=DataW.trod_bool he hy
  exact⟨s,by simpa using h1,trivial⟩
/-- The cells of a struct of one-cell fields, each with its own reading. -/
theorem trod_fields {t:TypeId} {fs:Array Field} {fuel:Nat} {cs:List Value} {x:DataW H×List MemPlace} (ht:P.underlying t=some (.struct fs)) (hone:oneCellFields P fs=true) (hC:P.cellsOf t=fs.size) (h:DataW.trod enc P w 0 spare held fuel t cs=some x):
  cs.length=fs.size∧ ∃ n,∀ (j:Nat) (f:Field),fs[j]? =some f→ ∃ y,DataW.trod enc P w 0 spare held n f.type [cs.getD j undef]=some y:=by
 obtain⟨xs,n,_,_,hl,hxl,hg⟩:=DataW.trod_struct ht h
 rw[hC]at hl
 refine⟨hl,n,fun j f hj=>?_⟩
 obtain⟨ho,hk⟩:=hone_of hone j f hj
 have hj':j<fs.size:=(Array.getElem?_eq_some_iff.1 hj).1
 have:=hg j f hj
 rw[ho,hk,take1_drop _ _ undef (by omega),List.getElem?_eq_getElem (by omega)]at this
 exact⟨_,this⟩
/-- A struct of one-cell fields by value. -/
theorem open_struct {r:Reach} {b0:Nat} {t:TypeId} {fs:Array Field} {v:Value} {d:DataW H} {p:List MemPlace} (ht:P.underlying t=some (.struct fs)) (hone:oneCellFields P fs=true) (hC:P.cellsOf t=fs.size)
  (hv:Value.okWide P w r b0 t v) (h:DataW.Trod enc P w 0 spare held t v d p):
  ∃ cs:List Value,v= .agg cs.toArray∧cs.length=fs.size∧ ∃ n,∀ (j:Nat) (f:Field),fs[j]? =some f→ ∃ y,DataW.trod enc P w 0 spare held n f.type [cs.getD j undef]=some y:=by
 obtain⟨cs,rfl,hsz⟩:=okWide_struct ht hv
 obtain⟨fuel,hf⟩:=h
 obtain⟨h1,n,h2⟩:=trod_fields ht hone hC hf
 exact⟨cs.toList,by simp,h1,n,h2⟩
end
theorem list1 {l:List Value} (h:l.length=1): ∃ a,l=[a]:=by match l,h with|[a],_=>exact⟨a,rfl⟩
theorem list7 {l:List Value} (h:l.length=7): ∃ a b c d e f g,l=[a,b,c,d,e,f,g]:=by match l,h with|[a,b,c,d,e,f,g],_=>exact⟨a,b,c,d,e,f,g,rfl⟩
theorem list2 {l:List Value} (h:l.length=2): ∃ a b,l=[a,b]:=by match l,h with|[a,b],_=>exact⟨a,b,rfl⟩
theorem list3 {l:List Value} (h:l.length=3): ∃ a b c,l=[a,b,c]:=by match l,h with|[a,b,c],_=>exact⟨a,b,c,rfl⟩
theorem list4 {l:List Value} (h:l.length=4): ∃ a b c d,l=[a,b,c,d]:=by match l,h with|[a,b,c,d],_=>exact⟨a,b,c,d,rfl⟩
theorem list5 {l:List Value} (h:l.length=5): ∃ a b c d e,l=[a,b,c,d,e]:=by match l,h with|[a,b,c,d,e],_=>exact⟨a,b,c,d,e,rfl⟩
theorem list6 {l:List Value} (h:l.length=6): ∃ a b c d e f,l=[a,b,c,d,e,f]:=by match l,h with|[a,b,c,d,e,f],_=>exact⟨a,b,c,d,e,f,rfl⟩
theorem list8 {l:List Value} (h:l.length=8): ∃ a b c d e f g k,l=[a,b,c,d,e,f,g,k]:=by match l,h with|[a,b,c,d,e,f,g,k],_=>exact⟨a,b,c,d,e,f,g,k,rfl⟩
end Go.Proofs.YtjnahjgncmcmdaaGreat
