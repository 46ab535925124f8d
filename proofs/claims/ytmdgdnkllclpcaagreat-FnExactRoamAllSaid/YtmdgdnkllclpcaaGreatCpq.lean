/- Small lemmas of a drawn region that ends in a first append (out of XCps). -/
import Derived.Test.YtmdgdnkllclpcaaGreatCpr
import Derived.Test.YtmdgdnkllclpcaaGreatWe
namespace Go.Proofs.YtmdgdnkllclpcaaGreat
open Go.RowKit
set_option linter.unusedVariables false
set_option linter.unusedSimpArgs false
/-- Nothing old has turned but one box and one row (under a name of its own, for a drawn region). -/
def So (o:Nat) (v:Value) (a w:World):Prop:=Tch (fun g=>g=o∨v.ownBlock=some g) a w
theorem So.of {o:Nat} {v:Value} {a w:World} (h:Fr a w):So o v a w:=Tch.of_fr h
theorem So.gr {o:Nat} {v:Value} {a w w':World} (h:Fr a w) (hg:w.grownBy w' v.ownBlock):So o v a w':=(Tch.of_fr h).trans (Tch.of_gr hg fun i hi=> .inr hi)
theorem So.set {o:Nat} {v:Value} {a w:World} (h:So o v a w) (i:Nat) (u:Value):So o v a (w.setCell ⟨o,i,none⟩ u):=Tch.set h (p:=⟨o,i,none⟩) (.inl (.inl rfl)) u
theorem So.box {o:Nat} {v:Value} {a w:World} {b:Nat} {X:Array Value} {T:TypeId} (h:So o v a w) (k:Box a b X T) (h1:b≠o) (h2:v.ownBlock≠some b) (j:Nat):w.cell? ⟨b,j,none⟩=X[j]? :=(Tch.box h k (fun e=>by rcases e with e|e;exact h1 e;exact h2 e)).cell j
theorem So.cell {o:Nat} {v:Value} {a w:World} {b j:Nat} {u:Value} (h:So o v a w) (hb:b<a.heap.size) (h1:b≠o) (h2:v.ownBlock≠some b) (k:a.cell? ⟨b,j,none⟩=some u):w.cell? ⟨b,j,none⟩=some u:=by
 have:=h.block b hb (fun e=>by rcases e with e|e;exact h1 e;exact h2 e)
 rw[← k]
 simp[World.cell?,this]
theorem step_append_fst {P:Program} {w:World} {ops:Array Oper} {o:Oper} {a:Act} {K:Act→World→Prop} {Q:Exit→Act→World→Prop} {E:Prop} (hgd:o.guard=none) (s x:Operand) (t:TypeId)
  (ho:o.op= .call {callee:= .builtin .append,args:= #[s,x],argTypes:= #[t,t]})
  (base:Nat) (e:TypeId) (i:TypeInfo) (z:Value) (size bytes:Nat) (ht:P.underlying t=some (.slice e)) (hi:P.info? e=some i) (hz:i.zero=some z)
  (hsize:i.size=size) (hby:i.bytes=bytes) (hzs:z.cells.size=size) (hsz:0<size)
  (v:Value) (hs:a.eval s=v) (hown:w.ownsRow base e size v 0 [])
  (vx:Value) (m:Nat) (news:List Value) (hx:a.eval x=vx) (hr:RdS w size vx m news) (h1: ∀ u∈news,u.oneCell'=true)
  (h63:m≤maxLen) (hbytes:m*bytes≤140737488355328) (hbase:base≤w.heap.size)
  (h: ∀ ao cap w',w'.ownsRow base e size (.slice ao m cap) m news→w.grownBy w' v.ownBlock→((Value.slice ao m cap).ownBlock=v.ownBlock∨(Value.slice ao m cap).ownBlock=some w.heap.size)→K (a.put o.dst (.slice ao m cap)) w'):
  if Region.wanted o (yielded ops a.tmps)=true then Oper.wp P o a w K Q else E:=by
 refine step_append_rd hgd s x t ho base e i z size bytes ht hi hz hsize hby hzs hsz v 0 [] hs hown vx m news hx hr h1 (by omega) (by rw[Nat.zero_add];exact hbytes) hbase fun ao cap w' q1 q2 q3=>?_
 simp only[Nat.zero_add,List.nil_append]at q1 q3 ⊢
 exact h ao cap w' q1 q2 q3
end Go.Proofs.YtmdgdnkllclpcaaGreat
