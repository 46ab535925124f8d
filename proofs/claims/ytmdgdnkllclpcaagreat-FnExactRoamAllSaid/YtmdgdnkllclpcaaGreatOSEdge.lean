/- A slice of Edge opened: from the form's reading of an argument to EdgesR. No condition. (Printed by mk_structs.py.) -/
import Derived.Test.YtmdgdnkllclpcaaGreatGSEdge
import Derived.Test.YtmdgdnkllclpcaaGreatGOSWalk
namespace Go.Proofs.YtmdgdnkllclpcaaGreat
open Go.RowKit Go.Deep Go.ChangeShapes Go.WideShapes
set_option linter.unusedVariables false

def EdgeR.wf (x:EdgeR):Prop:=(Lit.int .i64 x.f0).wf=true∧(Lit.int .i64 x.f2).wf=true
theorem u8_back {n:Int} (h:(Lit.int .u8 n).wf=true):((UInt8.ofNat n.toNat).toNat:Int)=n:=by
 have h3:0≤n∧n≤255:=by simp[Lit.wf,IntKind.min,IntKind.max,IntKind.signed,IntKind.bits]at h;omega
 rw[UInt8.toNat_ofNat_of_lt' (by show n.toNat<256;omega)];omega
theorem cells_lawsEdge:Tryz.prog.cellsOf 188=3:=by kernel_rfl
theorem edge_flatC {C:Nat→List Value} {n:Nat} {g:Nat→EdgeR} (h: ∀ i,i<n→C i=(g i).cells):(List.range n).flatMap C=((List.range n).map g).flatMap EdgeR.cells:=by
 induction n with
 |zero=>simp
 |succ n ih=>rw[List.range_succ,List.flatMap_append,ih (fun i hi=>h i (by omega))];simp[h n (by omega),List.flatMap_append]
theorem open_edgesR {H:Type} {enc:TypeId×Value→H} {w:World} {spare:Nat→Bool} {held:Bool} {fuel:Nat} {v:Value} {y:DataW H×List MemPlace} (h:DataW.trod enc Tryz.prog w 0 spare held fuel 46 [v]=some y):
  ∃ xs:List EdgeR,EdgesR w v xs∧ ∀ x∈xs,x.wf:=by
 obtain⟨n,C,hr,_,hC⟩:=open_rows Tryz.underlying46 cells_lawsEdge (by omega) h
 have: ∀ i,∃ a:EdgeR,i<n→C i=a.cells∧a.wf:=by
  intro i
  by_cases hi:i<n
  · obtain⟨h1,m,y,h2⟩:=hC i hi
    obtain⟨h3,k,h4⟩:=trod_fields Tryz.underlying188 (by kernel_rfl) cells_lawsEdge h2
    obtain⟨c0,c1,c2,hc⟩:=list3 h1
    rw[hc]at h4
    obtain⟨y0,g0⟩:=h4 0 _ rfl
    obtain⟨a0,e0,_,w0⟩:=DataW.trod_int Tryz.underlying3 g0
    obtain⟨y1,g1⟩:=h4 1 _ rfl
    obtain⟨a1,e1,_,w1⟩:=DataW.trod_int Tryz.underlying5 g1
    obtain⟨y2,g2⟩:=h4 2 _ rfl
    obtain⟨a2,e2,_,w2⟩:=DataW.trod_int Tryz.underlying3 g2
    simp only[List.getD_cons_zero,List.getD_cons_succ,List.cons.injEq,and_true]at e0 e1 e2
    subst e0 e1 e2
    exact⟨⟨a0,UInt8.ofNat a1.toNat,a2⟩,fun _=>⟨by rw[hc];simp only[EdgeR.cells,u8_back w1],w0,w2⟩⟩
  · exact⟨default,fun h=>absurd h hi⟩
 obtain⟨g,hg⟩:=Classical.axiomOfChoice this
 refine⟨(List.range n).map g,?_,?_⟩
 · have hr':=hr
   rw[edge_flatC (fun i hi=>(hg i hi).1)]at hr'
   simpa [EdgesR]using hr'
 · intro a ha
   obtain⟨i,hi,rfl⟩:=List.mem_map.1 ha
   exact(hg i (by simpa using hi)).2
end Go.Proofs.YtmdgdnkllclpcaaGreat
