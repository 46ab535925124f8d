/- A slice of Atom opened: from the form's reading of an argument to AtomsR. No condition. (Printed by mk_structs.py.) -/
import Derived.Test.YtmdgdnkllclpcaaGreatGSFilter
import Derived.Test.YtmdgdnkllclpcaaGreatGOSWalk
namespace Go.Proofs.YtmdgdnkllclpcaaGreat
open Go.RowKit Go.Deep Go.ChangeShapes Go.WideShapes
set_option linter.unusedVariables false

def AtomR.wf (x:AtomR):Prop:=x.f0.size≤maxLen∧x.f1.size≤maxLen∧x.f2.size≤maxLen
theorem cells_lawsAtom:Tryz.prog.cellsOf 162=3:=by kernel_rfl
theorem atom_flatC {C:Nat→List Value} {n:Nat} {g:Nat→AtomR} (h: ∀ i,i<n→C i=(g i).cells):(List.range n).flatMap C=((List.range n).map g).flatMap AtomR.cells:=by
 induction n with
 |zero=>simp
 |succ n ih=>rw[List.range_succ,List.flatMap_append,ih (fun i hi=>h i (by omega))];simp[h n (by omega),List.flatMap_append]
theorem open_atomsR {H:Type} {enc:TypeId×Value→H} {w:World} {spare:Nat→Bool} {held:Bool} {fuel:Nat} {v:Value} {y:DataW H×List MemPlace} (h:DataW.trod enc Tryz.prog w 0 spare held fuel 23 [v]=some y):
  ∃ xs:List AtomR,AtomsR w v xs∧ ∀ x∈xs,x.wf:=by
 obtain⟨n,C,hr,_,hC⟩:=open_rows Tryz.underlying23 cells_lawsAtom (by omega) h
 have: ∀ i,∃ a:AtomR,i<n→C i=a.cells∧a.wf:=by
  intro i
  by_cases hi:i<n
  · obtain⟨h1,m,y,h2⟩:=hC i hi
    obtain⟨h3,k,h4⟩:=trod_fields Tryz.underlying162 (by kernel_rfl) cells_lawsAtom h2
    obtain⟨c0,c1,c2,hc⟩:=list3 h1
    rw[hc]at h4
    obtain⟨y0,g0⟩:=h4 0 _ rfl
    obtain⟨a0,e0,_,w0⟩:=DataW.trod_string Tryz.underlying9 g0
    obtain⟨y1,g1⟩:=h4 1 _ rfl
    obtain⟨a1,e1,_,w1⟩:=DataW.trod_string Tryz.underlying9 g1
    obtain⟨y2,g2⟩:=h4 2 _ rfl
    obtain⟨a2,e2,_,w2⟩:=DataW.trod_string Tryz.underlying9 g2
    simp only[List.getD_cons_zero,List.getD_cons_succ,List.cons.injEq,and_true]at e0 e1 e2
    subst e0 e1 e2
    exact⟨⟨a0,a1,a2⟩,fun _=>⟨hc,w0,w1,w2⟩⟩
  · exact⟨default,fun h=>absurd h hi⟩
 obtain⟨g,hg⟩:=Classical.axiomOfChoice this
 refine⟨(List.range n).map g,?_,?_⟩
 · have hr':=hr
   rw[atom_flatC (fun i hi=>(hg i hi).1)]at hr'
   simpa [AtomsR]using hr'
 · intro a ha
   obtain⟨i,hi,rfl⟩:=List.mem_map.1 ha
   exact(hg i (by simpa using hi)).2
end Go.Proofs.YtmdgdnkllclpcaaGreat
