/- Rows of rows of walks, and parcels, opened: from the form's reading of an argument to WalkSSR, ParcelSR. No condition. -/
import Derived.Test.YtmdgdnkllclpcaaGreatGOSWalk
import Derived.Test.YtmdgdnkllclpcaaGreatGParP
namespace Go.Proofs.YtmdgdnkllclpcaaGreat
open Go.RowKit Go.Deep Go.ChangeShapes Go.WideShapes
set_option linter.unusedVariables false
theorem open_nestV {α:Type} [Inhabited α] {H:Type} {enc:TypeId×Value→H} {P:Program} {w:World} {spare:Nat→Bool} {held:Bool} {E:World→List Value→α→Prop} {t e:TypeId} {sz fuel:Nat} {v:Value} {x:DataW H×List MemPlace}
  (ht:P.underlying t=some (.slice e)) (hc:P.cellsOf e=sz) (hsz:0<sz) (h:DataW.trod enc P w 0 spare held fuel t [v]=some x)
  (hp: ∀ m (cs:List Value) (y:DataW H×List MemPlace),cs.length=sz→DataW.trod enc P w 0 spare held m e cs=some y→ ∃ a,E w cs a):
  ∃ l:List α,NestR E sz w v l:=by
 obtain⟨n,C,hr,_,hC⟩:=open_rows ht hc hsz h
 have: ∀ i,∃ a,i<n→E w (C i) a:=by
  intro i
  by_cases hi:i<n
  · obtain⟨h1,m,y,h2⟩:=hC i hi
    obtain⟨a,ha⟩:=hp m (C i) y h1 h2
    exact⟨a,fun _=>ha⟩
  · exact⟨default,fun h=>absurd h hi⟩
 obtain⟨g,hg⟩:=Classical.axiomOfChoice this
 refine⟨(List.range n).map g,(List.range n).map C,by simp,?_,?_⟩
 · rw[← List.flatMap_def]
   simpa using hr
 · intro k u a hu ha
   have hk:k<n:=by have:=(List.getElem?_eq_some_iff.1 hu).1;simpa using this
   simp[hk]at hu ha
   subst hu ha
   exact⟨(hC k hk).1,hg k hk⟩
theorem one_Walks:Tryz.prog.cellsOf 27=1:=by kernel_rfl
theorem cells_lawsParcel:Tryz.prog.cellsOf 211=2:=by kernel_rfl
theorem open_walkssR {H:Type} {enc:TypeId×Value→H} {w:World} {spare:Nat→Bool} {held:Bool} {fuel:Nat} {v:Value} {y:DataW H×List MemPlace} (h:DataW.trod enc Tryz.prog w 0 spare held fuel 78 [v]=some y):
  ∃ xs,WalkSSR w v xs:=by
 refine open_nestV (α:=List WalkR) Tryz.underlying78 one_Walks (by omega) h fun m cs y hl hy=>?_
 obtain⟨c,rfl⟩:=list1 hl
 obtain⟨ss,h1,h2⟩:=open_walksR hy
 exact⟨ss,c,rfl,h1⟩
theorem open_parcelsR {H:Type} {enc:TypeId×Value→H} {w:World} {spare:Nat→Bool} {held:Bool} {fuel:Nat} {v:Value} {y:DataW H×List MemPlace} (h:DataW.trod enc Tryz.prog w 0 spare held fuel 79 [v]=some y):
  ∃ xs,ParcelSR w v xs:=by
 refine open_nestV (α:=ParcelD) Tryz.underlying79 cells_lawsParcel (by omega) h fun m cs y hl hy=>?_
 obtain⟨_,k,h4⟩:=trod_fields Tryz.underlying211 (by kernel_rfl) cells_lawsParcel hy
 obtain⟨c0,c1,rfl⟩:=list2 hl
 obtain⟨y0,g0⟩:=h4 0 _ rfl
 obtain⟨a0,e0,_,w0⟩:=DataW.trod_int Tryz.underlying3 g0
 obtain⟨y1,g1⟩:=h4 1 _ rfl
 obtain⟨ss,h1,h2⟩:=open_walksR g1
 simp only[List.getD_cons_zero,List.getD_cons_succ,List.cons.injEq,and_true]at e0 h1
 subst e0
 exact⟨⟨a0,ss⟩,c1,rfl,h1⟩
end Go.Proofs.YtmdgdnkllclpcaaGreat
