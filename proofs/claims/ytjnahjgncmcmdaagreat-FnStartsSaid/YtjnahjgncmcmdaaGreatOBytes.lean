/- A slice of bytes opened. No condition. -/
import Derived.Test.YtjnahjgncmcmdaaGreatKDraw
import Derived.Test.YtjnahjgncmcmdaaGreatOpen
namespace Go.Proofs.YtjnahjgncmcmdaaGreat
open Go.RowKit Go.Deep Go.ChangeShapes Go.WideShapes
set_option linter.unusedVariables false
theorem one_Byte:Tryz.prog.cellsOf 5=1:=by kernel_rfl
theorem open_bytesR {H:Type} {enc:TypeId×Value→H} {w:World} {spare:Nat→Bool} {held:Bool} {fuel:Nat} {v:Value} {y:DataW H×List MemPlace} (h:DataW.trod enc Tryz.prog w 0 spare held fuel 22 [v]=some y):
  ∃ ao n cap,v= .slice ao n cap∧ByR w w.heap.size ao n cap:=by
 obtain⟨l,hr,hp⟩:=open_ones (f:=Value.int .u8) (p:=fun s=>0≤s∧s<256) Tryz.underlying22 one_Byte h fun m c y hy=>by
  obtain⟨s,h1,_,h3⟩:=DataW.trod_int Tryz.underlying5 hy
  refine⟨s,by simpa using h1,?_⟩
  have h4:IntKind.u8.min≤s∧s≤IntKind.u8.max:=by simpa [Lit.wf]using h3
  have e1:IntKind.u8.min=0:=by decide
  have e2:IntKind.u8.max=255:=by decide
  omega
 obtain⟨hl,ao,cap,rfl,h2,h3,h4⟩:=hr
 refine⟨ao,l.length,cap,rfl,h2,by unfold maxLen at h3;omega,fun hn=>?_⟩
 obtain⟨b,o,rfl,hb,hc⟩:=h4 hn
 refine⟨b,o,rfl,hb,hb,fun j hj=>?_⟩
 obtain⟨h5,h6⟩:=hp l[j] (List.getElem_mem hj)
 refine⟨(l[j]).toNat,by omega,?_⟩
 rw[hc j (by omega),List.getElem?_map,List.getElem?_eq_getElem hj]
 show some (Value.int .u8 l[j])=some (.int .u8 ((l[j]).toNat:Int))
 rw[show(((l[j]).toNat:Nat):Int)=l[j] by omega]
end Go.Proofs.YtjnahjgncmcmdaaGreat
