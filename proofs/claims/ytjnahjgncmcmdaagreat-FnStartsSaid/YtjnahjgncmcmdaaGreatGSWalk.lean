/- Texts in one: App, Nest, Ok, SWalk. -/
import Derived.Test.YtjnahjgncmcmdaaGreatGRow
import Derived.Maps.AppendAt
import Derived.Lib.SliceRun
import Derived.Lib.Walk
import Derived.Test.YtjnahjgncmcmdaaGreatGStr
import Derived.Deep.QuietTactic
import Derived.BigQuiet
import Derived.Deep.RegionHeld3
namespace Go.Proofs.YtjnahjgncmcmdaaGreat
open Go.RowKit
set_option linter.unusedVariables false
set_option linter.unusedSimpArgs false
theorem run_append_none_any {P:Program} {w:World} (base:Nat) (t ty e:TypeId) (i:TypeInfo) (size:Nat) (ht:P.underlying t=some (.slice e)) (hi:P.info? e=some i)
  (v:Value) (n:Nat) (xs:List Value) (hown:w.ownsRow base e size v n xs) (c:Nat):
  (Builtin.append_ #[t,t] ty #[v,.slice none 0 c]).run P w= .ok v w:=by
 rcases hown.2 with⟨rfl,rfl⟩|⟨g,cap,cur,rfl,_,_,hnc,_⟩
 · simp[Builtin.append_,run_underlying ht,sizeOf,typeInfo,hi,Builtin.lenOf,Builtin.firstCells]
 · simp[Builtin.append_,run_underlying ht,sizeOf,typeInfo,hi,Builtin.lenOf,Builtin.firstCells,hnc,storeCells]
theorem run_append_rd {P:Program} (w:World) (base:Nat) (t ty e:TypeId) (i:TypeInfo) (z:Value) (size bytes:Nat) (ht:P.underlying t=some (.slice e)) (hi:P.info? e=some i) (hz:i.zero=some z)
  (hsize:i.size=size) (hby:i.bytes=bytes) (hzs:z.cells.size=size) (hsz:0<size)
  (v:Value) (n:Nat) (xs:List Value) (hown:w.ownsRow base e size v n xs)
  (vx:Value) (m:Nat) (news:List Value) (hr:RdS w size vx m news) (h1: ∀ u∈news,u.oneCell'=true)
  (h63:n+m≤maxLen) (hbytes:(n+m)*bytes≤140737488355328) (hbase:base≤w.heap.size):
  ∃ ao cap w',(Builtin.append_ #[t,t] ty #[v,vx]).run P w= .ok (.slice ao (n+m) cap) w'∧w'.ownsRow base e size (.slice ao (n+m) cap) (n+m) (xs++news)∧w.grownBy w' v.ownBlock∧
   ((Value.slice ao (n+m) cap).ownBlock=v.ownBlock∨(Value.slice ao (n+m) cap).ownBlock=some w.heap.size):=by
 obtain⟨hl,ao,c,rfl,hc1,hc2,hc3⟩:=hr
 cases ao with
 |none=>
  have hm:m=0:=by
   rcases Nat.eq_zero_or_pos m with h|h
   · exact h
   · obtain⟨b,o,h,_⟩:=hc3 h;cases h
  subst hm
  have hn:news=[]:=List.eq_nil_of_length_eq_zero (by simpa using hl)
  subst hn
  obtain⟨ao',cap',rfl⟩:=owns_val hown
  have hr:=run_append_none_any (P:=P) base t ty e i size ht hi _ n xs hown c
  refine⟨ao',cap',w,by simpa using hr,by simpa using hown,World.grownBy.refl _ _,Or.inl (by cases ao'<;>rfl)⟩
 |some ad=>
  have hnews: ∀ j u,news[j]? =some u→w.cell? (ad.add j)=some u:=by
   intro j u hj
   have hlt:=(List.getElem?_eq_some_iff.1 hj).1
   have hm:0<m:=by
    rcases Nat.eq_zero_or_pos m with h|h
    · subst h;omega
    · exact h
   obtain⟨b,o,h,hb,hcell⟩:=hc3 hm
   cases h
   rw[Addr.add_lit,hcell j (by omega)]
   exact hj
  obtain⟨v',w',hrun,h2,h3,h4,h5⟩:=run_append_own_at (P:=P) w base t ty e i z size bytes ht hi hz hsize hby hzs hsz v n xs hown ad m c news hl hnews h1 h63 hbytes hbase
  obtain⟨ao',cap',rfl⟩:=owns_val h2
  exact⟨ao',cap',w',hrun,h2,h3,h5⟩
theorem wp_append_rd {P:Program} {w:World} {o:Oper} {a:Act} {K:Act→World→Prop} {Q:Exit→Act→World→Prop} (s x:Operand) (t:TypeId)
  (ho:o.op= .call {callee:= .builtin .append,args:= #[s,x],argTypes:= #[t,t]})
  (base:Nat) (e:TypeId) (i:TypeInfo) (z:Value) (size bytes:Nat) (ht:P.underlying t=some (.slice e)) (hi:P.info? e=some i) (hz:i.zero=some z)
  (hsize:i.size=size) (hby:i.bytes=bytes) (hzs:z.cells.size=size) (hsz:0<size)
  (v:Value) (n:Nat) (xs:List Value) (hs:a.eval s=v) (hown:w.ownsRow base e size v n xs)
  (vx:Value) (m:Nat) (news:List Value) (hx:a.eval x=vx) (hr:RdS w size vx m news) (h1: ∀ u∈news,u.oneCell'=true)
  (h63:n+m≤maxLen) (hbytes:(n+m)*bytes≤140737488355328) (hbase:base≤w.heap.size)
  (h: ∀ ao cap w',w'.ownsRow base e size (.slice ao (n+m) cap) (n+m) (xs++news)→w.grownBy w' v.ownBlock→((Value.slice ao (n+m) cap).ownBlock=v.ownBlock∨(Value.slice ao (n+m) cap).ownBlock=some w.heap.size)→K (a.put o.dst (.slice ao (n+m) cap)) w'):o.wp P a w K Q:=by
 obtain⟨ao,cap,w',hrun,h2,h3,h4⟩:=run_append_rd (P:=P) w base t o.type e i z size bytes ht hi hz hsize hby hzs hsz v n xs hown vx m news hr h1 h63 hbytes hbase
 unfold Oper.wp execOp
 simp only[ho,resolve,invoke,builtin,Sem.run_bind,Sem.run_pure,Result.andThen_ok,List.map_toArray,List.map_cons,List.map_nil,hs,hx,hrun]
 exact h ao cap w' h2 h3 h4
theorem wpList_append_rd {P:Program} {w:World} {ops:Array Oper} {rest:List Oper} {o:Oper} {a:Act} {Q:Exit→Act→World→Prop} (hgd:o.guard=none) (s x:Operand) (t:TypeId)
  (ho:o.op= .call {callee:= .builtin .append,args:= #[s,x],argTypes:= #[t,t]})
  (base:Nat) (e:TypeId) (i:TypeInfo) (z:Value) (size bytes:Nat) (ht:P.underlying t=some (.slice e)) (hi:P.info? e=some i) (hz:i.zero=some z)
  (hsize:i.size=size) (hby:i.bytes=bytes) (hzs:z.cells.size=size) (hsz:0<size)
  (v:Value) (n:Nat) (xs:List Value) (hs:a.eval s=v) (hown:w.ownsRow base e size v n xs)
  (vx:Value) (m:Nat) (news:List Value) (hx:a.eval x=vx) (hr:RdS w size vx m news) (h1: ∀ u∈news,u.oneCell'=true)
  (h63:n+m≤maxLen) (hbytes:(n+m)*bytes≤140737488355328) (hbase:base≤w.heap.size)
  (h: ∀ ao cap w',w'.ownsRow base e size (.slice ao (n+m) cap) (n+m) (xs++news)→w.grownBy w' v.ownBlock→((Value.slice ao (n+m) cap).ownBlock=v.ownBlock∨(Value.slice ao (n+m) cap).ownBlock=some w.heap.size)→wpList P ops Q rest (a.put o.dst (.slice ao (n+m) cap)) w'):wpList P ops Q (o::rest) a w:=
 wpList_plain hgd fun _ hK=>wp_append_rd s x t ho base e i z size bytes ht hi hz hsize hby hzs hsz v n xs hs hown vx m news hx hr h1 h63 hbytes hbase fun ao cap w' h2 h3 h4=>hK _ _ (h ao cap w' h2 h3 h4)
theorem step_append_rd {P:Program} {w:World} {ops:Array Oper} {o:Oper} {a:Act} {K:Act→World→Prop} {Q:Exit→Act→World→Prop} {E:Prop} (hgd:o.guard=none) (s x:Operand) (t:TypeId)
  (ho:o.op= .call {callee:= .builtin .append,args:= #[s,x],argTypes:= #[t,t]})
  (base:Nat) (e:TypeId) (i:TypeInfo) (z:Value) (size bytes:Nat) (ht:P.underlying t=some (.slice e)) (hi:P.info? e=some i) (hz:i.zero=some z)
  (hsize:i.size=size) (hby:i.bytes=bytes) (hzs:z.cells.size=size) (hsz:0<size)
  (v:Value) (n:Nat) (xs:List Value) (hs:a.eval s=v) (hown:w.ownsRow base e size v n xs)
  (vx:Value) (m:Nat) (news:List Value) (hx:a.eval x=vx) (hr:RdS w size vx m news) (h1: ∀ u∈news,u.oneCell'=true)
  (h63:n+m≤maxLen) (hbytes:(n+m)*bytes≤140737488355328) (hbase:base≤w.heap.size)
  (h: ∀ ao cap w',w'.ownsRow base e size (.slice ao (n+m) cap) (n+m) (xs++news)→w.grownBy w' v.ownBlock→((Value.slice ao (n+m) cap).ownBlock=v.ownBlock∨(Value.slice ao (n+m) cap).ownBlock=some w.heap.size)→K (a.put o.dst (.slice ao (n+m) cap)) w'):
  if Region.wanted o (yielded ops a.tmps)=true then Oper.wp P o a w K Q else E:=by
 have hw:Region.wanted o (yielded ops a.tmps)=true:=by simp[Region.wanted,hgd]
 rw[if_pos hw]
 exact wp_append_rd s x t ho base e i z size bytes ht hi hz hsize hby hzs hsz v n xs hs hown vx m news hx hr h1 h63 hbytes hbase h
theorem RdS.val {w:World} {sz:Nat} {v:Value} {n:Nat} {xs:List Value} (h:RdS w sz v n xs): ∃ ao cap,v= .slice ao n cap∧(ao=none→n=0):=by
 obtain⟨_,ao,cap,rfl,_,_,h4⟩:=h
 refine⟨ao,cap,rfl,fun e=>?_⟩
 rcases Nat.eq_zero_or_pos n with h|h
 · exact h
 · obtain⟨b,o,h,_⟩:=h4 h;rw[e]at h;cases h
/-- One element that was just laid in a block of its own, as a slice of one. -/
theorem RdS.new {w:World} {X:Array Value} {T:TypeId} {sz b:Nat} (hb:b=w.heap.size) (hX:X.size=sz):RdS (w.alloc (.cells X T)) sz (.slice (some ⟨b,0,none⟩) 1 1) 1 X.toList:=by
 subst hb
 refine⟨by simp[hX],some ⟨w.heap.size,0,none⟩,1,rfl,Nat.le_refl _,by unfold maxLen;omega,fun _=>⟨w.heap.size,0,rfl,by simp,fun j hj=>?_⟩⟩
 rw[Nat.zero_add,World.cell?_alloc_at _ _ _ _ rfl]
 simp
theorem RdS.drew {w:World} {sz n:Nat} {v:Value} {xs:List Value} (h:RdS w sz v n xs):RdS w.drew sz v n xs:=h.fr (Fr.refl w).drew
theorem oneCells_str (l:List ByteArray): ∀ u∈l.map Value.string,u.oneCell'=true:=fun u hu=>by obtain⟨x,_,rfl⟩:=List.mem_map.1 hu;rfl
theorem oneCells_int (k:IntKind) (l:List Int): ∀ u∈l.map (Value.int k),u.oneCell'=true:=fun u hu=>by obtain⟨x,_,rfl⟩:=List.mem_map.1 hu;rfl
theorem oneCells_bool (l:List Bool): ∀ u∈l.map Value.bool,u.oneCell'=true:=fun u hu=>by obtain⟨x,_,rfl⟩:=List.mem_map.1 hu;rfl
/-- Where the row lies behind an append. -/
theorem RowIn.at {lo hi hi' H:Nat} {v v':Value} (h:RowIn lo hi v) (hat:v'.ownBlock=v.ownBlock∨v'.ownBlock=some H) (h1:lo≤H) (h2:H<hi') (h3:hi≤hi'):RowIn lo hi' v':=by
 intro k hk
 rcases hat with e|e
 · rw[e]at hk;have:=h k hk;omega
 · rw[e]at hk;cases hk;omega
theorem RowIn.nil (lo hi n c:Nat):RowIn lo hi (.slice none n c):=fun _ h=>by simp[Value.ownBlock]at h
theorem made_empty {w:World} {lo b sz:Nat} {e:TypeId} (hb:b=w.heap.size) (hl:lo≤b):(w.alloc (.cells #[] e)).ownsRow lo e sz (.slice (some ⟨b,0,none⟩) 0 0) 0 []:=by
 subst hb
 exact World.ownsRow_made w #[] 0 hl (Nat.zero_le _) (by simp)
/-- Behind an append to a row that lies above: nothing old has turned. -/
theorem Fr.app {a w w':World} {v:Value} (h:Fr a w) (hg:w.grownBy w' v.ownBlock) {lo hi:Nat} (hr:RowIn lo hi v) (hl:a.heap.size≤lo):Fr a w':=h.grown hg (fun k hk=>by have:=hr k hk;omega)
theorem RowIn.one {b lo hi n c:Nat} (h1:lo≤b) (h2:b<hi):RowIn lo hi (.slice (some ⟨b,0,none⟩) n c):=by
 intro k hk
 have:b=k:=by simpa [Value.ownBlock]using hk
 omega
theorem owns_far {w:World} {b:Nat} {e:TypeId} {sz:Nat} {v:Value} {n:Nat} {xs:List Value} (h:w.ownsRow b e sz v n xs) {p:Addr} (hp:v.ownBlock≠some p.block) (u:Value):(w.setCell p u).ownsRow b e sz v n xs:=by
 obtain⟨h1,h2|⟨g,cap,cur,hv,hg,hh,hr⟩⟩:=h
 · exact⟨h1,.inl h2⟩
 · refine⟨h1,.inr ⟨g,cap,cur,hv,hg,?_,hr⟩⟩
   rw[heap_setCell_other w p g u (by rintro rfl;exact hp (by rw[hv];rfl))]
   exact hh
/-- A row that lies in [lo, H) or in block H is in no block of [H', ..) but H. -/
theorem ne_block {lo hi H:Nat} {v v':Value} (h:RowIn lo hi v) (hat:v'.ownBlock=v.ownBlock∨v'.ownBlock=some H) (p:Nat) (hp:hi≤p∨p<lo) (hq:p≠H):v'.ownBlock≠some p:=by
 intro e
 rcases hat with h1|h1
 · rw[h1]at e;have:=h p e;omega
 · rw[h1]at e;cases e;exact hq rfl
/-- 'Fr' under a name of its own, for what a drawn region holds throughout: the search for 'Fr' then does not meet it. -/
def Sf (a w:World):Prop:=Fr a w
theorem Sf.out {a w:World} (h:Sf a w):Fr a w:=h
theorem Sf.mk {a w:World} (h:Fr a w):Sf a w:=h
theorem Span.app {lo hi:Nat} {a w w':World} {row:Option Nat} (h:Span lo hi a w) (hg:w.grownBy w' row) (hr: ∀ k,row=some k→(lo≤k∧k<hi)∨a.heap.size≤k):Span lo hi a w':=
 ⟨hg.os.trans h.os,hg.tape.trans h.tape,hg.output.trans h.output,Nat.le_trans h.size hg.size,fun k hk ho=>(hg.block k (Nat.lt_of_lt_of_le hk h.size) (fun e=>by have:=hr k e.symm;omega)).trans (h.block k hk ho)⟩
/-- 'Span' under a name of its own, for what a drawn region holds throughout. -/
def Ss (lo hi:Nat) (a w:World):Prop:=Span lo hi a w
theorem Ss.out {lo hi:Nat} {a w:World} (h:Ss lo hi a w):Span lo hi a w:=h
theorem Ss.mk {lo hi:Nat} {a w:World} (h:Span lo hi a w):Ss lo hi a w:=h
/-- A slice of the call's own whose row lies in [lo, hi). -/
def OwW (w:World) (lo hi:Nat) (e:TypeId) (sz:Nat) (v:Value) (n:Nat) (xs:List Value):Prop:=w.ownsRow lo e sz v n xs∧RowIn lo hi v
section
variable {w w':World} {lo hi n sz:Nat} {e:TypeId} {v:Value} {xs:List Value}
theorem OwW.fr (h:OwW w lo hi e sz v n xs) (hf:Fr w w'):OwW w' lo hi e sz v n xs:=⟨owns_fr h.1 hf,h.2⟩
theorem OwW.ab (h:OwW w lo hi e sz v n xs) (hf:Ab lo w w'):OwW w' lo hi e sz v n xs:=⟨owns_ab h.1 hf,h.2⟩
theorem OwW.span (h:OwW w lo hi e sz v n xs) {a b:Nat} (s:Span a b w w') (hd:hi≤a∨b≤lo):OwW w' lo hi e sz v n xs:=
 ⟨s.owns h.1 (fun g hg=>by have:=h.2 g hg;omega),h.2⟩
theorem OwW.set (h:OwW w lo hi e sz v n xs) {p:Addr} (hp:p.block<lo∨hi≤p.block) (u:Value):OwW (w.setCell p u) lo hi e sz v n xs:=
 ⟨owns_far h.1 (fun e=>by have:=h.2 _ e;omega) u,h.2⟩
theorem OwW.drew (h:OwW w lo hi e sz v n xs):OwW w.drew lo hi e sz v n xs:=⟨World.ownsRow.drew h.1,h.2⟩
theorem OwW.drewN (h:OwW w lo hi e sz v n xs) (m:Nat):OwW (w.drewN m) lo hi e sz v n xs:=h.fr ((Fr.refl _).drewN m)
theorem OwW.alloc (h:OwW w lo hi e sz v n xs) (o:Obj):OwW (w.alloc o) lo hi e sz v n xs:=h.fr ((Fr.refl _).alloc o)
theorem OwW.rd (h:OwW w lo hi e sz v n xs):RdS w sz v n xs:=RdS.of_owns h.1
theorem OwW.val (h:OwW w lo hi e sz v n xs): ∃ ao cap,v= .slice ao n cap:=owns_val h.1
theorem OwW.mono (h:OwW w lo hi e sz v n xs) {lo' hi':Nat} (h1:lo'≤lo) (h2:hi≤hi'):OwW w lo' hi' e sz v n xs:=⟨owns_lo h.1 h1,h.2.mono h1 h2⟩
theorem OwW.of_owns (h:w.ownsRow lo e sz v n xs):OwW w lo w.heap.size e sz v n xs:=⟨h,RowIn.of_owns h⟩
end
theorem OwW.nil (w:World) (lo hi:Nat) (e:TypeId) (sz:Nat):OwW w lo hi e sz (.slice none 0 0) 0 []:=⟨World.ownsRow_nil _ _ _ _,RowIn.nil _ _ _ _⟩
/-! ### a row of structs that is written over, element by element -/
def partR {α:Type} (new old:List α) (f:α→List Value) (m:Nat):List Value:=(new.take m).flatMap f++(old.drop m).flatMap f
theorem partR_zero {α:Type} (new old:List α) (f:α→List Value):partR new old f 0=old.flatMap f:=by simp[partR]
theorem partR_all {α:Type} (new old:List α) (f:α→List Value) (m:Nat) (h1:new.length=m) (h2:old.length=m):partR new old f m=new.flatMap f:=by
 unfold partR
 rw[List.take_of_length_le (by omega),List.drop_of_length_le (by omega)]
 simp
theorem partR_split {α:Type} [Inhabited α] (new old:List α) (f:α→List Value) (m:Nat) (hm:m<old.length):partR new old f m=(new.take m).flatMap f++f (old.getD m default)++(old.drop (m+1)).flatMap f:=by
 unfold partR
 rw[List.drop_eq_getElem_cons hm,List.flatMap_cons,List.append_assoc]
 simp[List.getD,List.getElem?_eq_getElem hm]
theorem partR_next {α:Type} [Inhabited α] (new old:List α) (f:α→List Value) (m:Nat) (hm:m<new.length):partR new old f (m+1)=(new.take m).flatMap f++f (new.getD m default)++(old.drop (m+1)).flatMap f:=by
 unfold partR
 rw[List.take_succ_eq_append_getElem hm,List.flatMap_append]
 simp[List.getD,List.getElem?_eq_getElem hm]
def nAt {α:Type} [Inhabited α] (xs:List α) (k:Nat):α:=xs.getD k default
theorem nAt_get {α:Type} [Inhabited α] {xs:List α} {k:Nat} (h:k<xs.length):xs[k]? =some (nAt xs k):=by simp[nAt,List.getD,List.getElem?_eq_getElem h]
theorem nAt_mem {α:Type} [Inhabited α] {xs:List α} {p:α→Prop} (h: ∀ x∈xs,p x) (k:Nat) (hk:k<xs.length):p (nAt xs k):=by
 have:=h xs[k] (List.getElem_mem hk)
 simpa [nAt,List.getD,List.getElem?_eq_getElem hk]using this
def nSum {α:Type} (f:α→Nat) (xs:List α) (k:Nat):Nat:=((xs.take k).map f).sum
theorem nSum_succ {α:Type} [Inhabited α] (f:α→Nat) (xs:List α) (k:Nat) (h:k<xs.length):nSum f xs (k+1)=nSum f xs k+f (nAt xs k):=by
 unfold nSum nAt
 rw[List.take_succ_eq_append_getElem h,List.map_append,List.sum_append]
 simp[List.getD,List.getElem?_eq_getElem h]
theorem nSum_le {α:Type} (f:α→Nat) (xs:List α) (k:Nat):nSum f xs k≤nSum f xs xs.length:=by
 unfold nSum
 rw[List.take_length]
 conv=>rhs;rw[← List.take_append_drop k xs]
 rw[List.map_append,List.sum_append]
 omega
def nBulk {α:Type} (f:α→Nat) (xs:List α):Nat:=xs.length+nSum f xs xs.length
theorem take_next {α:Type} [Inhabited α] (xs:List α) (k:Nat) (h:k<xs.length):xs.take (k+1)=xs.take k++[nAt xs k]:=by
 rw[List.take_succ_eq_append_getElem h]
 simp[nAt,List.getD,List.getElem?_eq_getElem h]
theorem flatten_at {sz:Nat}: ∀ {us:List (List Value)},(∀ u∈us,u.length=sz)→ ∀ (k:Nat) u,us[k]? =some u→ ∀ j,j<sz→us.flatten[k*sz+j]? =u[j]?
 |[],_,k,u,h,_,_=>by simp at h
 |a::us,hl,k,u,h,j,hj=>by
  have ha:a.length=sz:=hl a (by simp)
  rw[List.flatten_cons]
  cases k with
  |zero=>
   simp at h
   subst h
   rw[Nat.zero_mul,Nat.zero_add,List.getElem?_append_left (by omega)]
  |succ k=>
   rw[List.getElem?_append_right (by rw[ha,Nat.add_mul];omega),ha,show(k+1)*sz+j-sz=k*sz+j by rw[Nat.add_mul];omega]
   exact flatten_at (fun u hu=>hl u (by simp[hu])) k u (by simpa using h) j hj
theorem flatten_len {sz:Nat} {us:List (List Value)} (h: ∀ u∈us,u.length=sz):us.flatten.length=us.length*sz:=by
 induction us with
 |nil=>simp
 |cons a us ih=>rw[List.flatten_cons,List.length_append,ih (fun u hu=>h u (by simp[hu])),h a (by simp),List.length_cons,Nat.add_mul];omega
theorem mem_at {α:Type} {l:List α} {p:α→Prop} (h: ∀ (k:Nat) u,l[k]? =some u→p u): ∀ u∈l,p u:=by
 intro u hu
 obtain⟨k,hk,rfl⟩:=List.getElem_of_mem hu
 exact h k _ (List.getElem?_eq_getElem hk)
section
variable {α:Type}
/-- A slice whose elements, sz cells each, read as data. -/
def NestR (E:World→List Value→α→Prop) (sz:Nat) (w:World) (v:Value) (xs:List α):Prop:=
 ∃ us:List (List Value),us.length=xs.length∧RdS w sz v xs.length us.flatten∧ ∀ (k:Nat) u x,us[k]? =some u→xs[k]? =some x→u.length=sz∧E w u x
theorem NestR.fr {E:World→List Value→α→Prop} (hE: ∀ {w w' u x},E w u x→Fr w w'→E w' u x) {sz:Nat} {w w':World} {v:Value} {xs:List α} (h:NestR E sz w v xs) (hf:Fr w w'):NestR E sz w' v xs:=by
 obtain⟨us,h1,h2,h3⟩:=h
 exact⟨us,h1,h2.fr hf,fun k u x hu hx=>⟨(h3 k u x hu hx).1,hE (h3 k u x hu hx).2 hf⟩⟩
theorem NestR.le {E:World→List Value→α→Prop} {sz:Nat} {w:World} {v:Value} {xs:List α} (h:NestR E sz w v xs):xs.length≤9223372036854775807:=by
 obtain⟨us,h1,h2,h3⟩:=h;exact h2.le
theorem NestR.lens {E:World→List Value→α→Prop} {sz:Nat} {w:World} {xs:List α} {us:List (List Value)} (h1:us.length=xs.length) (h3: ∀ (k:Nat) u x,us[k]? =some u→xs[k]? =some x→u.length=sz∧E w u x): ∀ u∈us,u.length=sz:=
 mem_at fun k u hu=>by
  have hk:k<xs.length:=h1▸(List.getElem?_eq_some_iff.1 hu).1
  exact(h3 k u _ hu (List.getElem?_eq_getElem hk)).1
theorem NestR.one [Inhabited α] {E:World→List Value→α→Prop} {sz:Nat} {w:World} {v:Value} {xs:List α} (h:NestR E sz w v xs):
  ∃ ao b o cap,v= .slice ao xs.length cap∧xs.length≤cap∧cap≤9223372036854775807∧(0<xs.length→ao=some ⟨b,o,none⟩∧b<w.heap.size∧ ∀ k,k<xs.length→ ∃ u,u.length=sz∧E w u (nAt xs k)∧ ∀ j c,j<sz→u[j]? =some c→w.cell? ⟨b,o+k*sz+j,none⟩=some c):=by
 obtain⟨us,h1,h2,h3⟩:=h
 obtain⟨h4,ao,cap,rfl,h5,h6,h7⟩:=h2
 have hm:cap≤9223372036854775807:=by unfold maxLen at h6;omega
 rcases Nat.eq_zero_or_pos xs.length with h0|h0
 · exact⟨ao,0,0,cap,rfl,h5,hm,fun h=>absurd h (by omega)⟩
 · obtain⟨b,o,rfl,hb,hc⟩:=h7 h0
   refine⟨_,b,o,cap,rfl,h5,hm,fun _=>⟨rfl,hb,fun k hk=>?_⟩⟩
   have hu:us[k]? =some us[k]:=List.getElem?_eq_getElem (by omega)
   obtain⟨h8,h9⟩:=h3 k _ _ hu (nAt_get hk)
   refine⟨us[k],h8,h9,fun j c hj hc'=>?_⟩
   have hlt:k*sz+j<xs.length*sz:=by
    have:=Nat.mul_le_mul_right sz (show k+1≤xs.length by omega)
    rw[Nat.add_mul]at this
    omega
   rw[Nat.add_assoc,hc _ hlt,flatten_at (NestR.lens h1 h3) k _ hu j hj]
   exact hc'
/-- A row of the call's own of n elements: the first of them built, each with its own blocks; the cells zs stand for the rest. -/
def NestP (E:World→Nat→Nat→List Value→α→Prop) (T:TypeId) (sz:Nat) (w:World) (lo hi:Nat) (v:Value) (n:Nat) (zs:List Value) (xs:List α):Prop:=
 ∃ (us:List (List Value)) (los his:Nat→Nat),us.length=xs.length∧OwW w lo hi T sz v n (us.flatten++zs)∧
  (∀ (k:Nat) u x,us[k]? =some u→xs[k]? =some x→u.length=sz∧E w (los k) (his k) u x∧lo≤los k∧los k≤his k∧his k≤hi∧ ∀ g,v.ownBlock=some g→g<los k∨his k≤g)∧
  ∀ j k,j<k→k<xs.length→his j≤los k
def NestW (E:World→Nat→Nat→List Value→α→Prop) (T:TypeId) (sz:Nat) (w:World) (lo hi:Nat) (v:Value) (xs:List α):Prop:=NestP E T sz w lo hi v xs.length [] xs
section
variable {E:World→Nat→Nat→List Value→α→Prop} {T:TypeId} {sz:Nat} {w w':World} {lo hi n:Nat} {v:Value} {zs:List Value} {xs:List α}
theorem NestP.span (hE: ∀ {w w' l h u x a b},E w l h u x→Span a b w w'→(h≤a∨b≤l)→E w' l h u x) (h:NestP E T sz w lo hi v n zs xs) {a b:Nat} (s:Span a b w w') (hd:hi≤a∨b≤lo):NestP E T sz w' lo hi v n zs xs:=by
 obtain⟨us,los,his,h1,h2,h3,h4⟩:=h
 exact⟨us,los,his,h1,h2.span s hd,fun k u x hu hx=>by obtain⟨a1,a2,a3,a4,a5,a6⟩:=h3 k u x hu hx;exact⟨a1,hE a2 s (by omega),a3,a4,a5,a6⟩,h4⟩
theorem NestP.fr (hE: ∀ {w w' l h u x a b},E w l h u x→Span a b w w'→(h≤a∨b≤l)→E w' l h u x) (h:NestP E T sz w lo hi v n zs xs) (hf:Fr w w'):NestP E T sz w' lo hi v n zs xs:=by
 obtain⟨us,los,his,h1,h2,h3,h4⟩:=h
 exact⟨us,los,his,h1,h2.fr hf,fun k u x hu hx=>by obtain⟨a1,a2,a3,a4,a5,a6⟩:=h3 k u x hu hx;exact⟨a1,hE a2 (Span.of_fr (lo:=his k) (hi:=his k) hf) (.inl (Nat.le_refl _)),a3,a4,a5,a6⟩,h4⟩
theorem Ab.mono' {lo lo':Nat} {w w':World} (h:Ab lo w w') (hl:lo≤lo'):Ab lo' w w':=⟨h.1,fun k hk hs=>h.2 k (Nat.le_trans hl hk) hs⟩
theorem NestP.ab (hE: ∀ {w w' l h u x},E w l h u x→Ab l w w'→E w' l h u x) (h:NestP E T sz w lo hi v n zs xs) (hf:Ab lo w w'):NestP E T sz w' lo hi v n zs xs:=by
 obtain⟨us,los,his,h1,h2,h3,h4⟩:=h
 exact⟨us,los,his,h1,h2.ab hf,fun k u x hu hx=>by obtain⟨a1,a2,a3,a4,a5,a6⟩:=h3 k u x hu hx;exact⟨a1,hE a2 (hf.mono' a3),a3,a4,a5,a6⟩,h4⟩
theorem NestP.mono (h:NestP E T sz w lo hi v n zs xs) {lo' hi':Nat} (hl:lo'≤lo) (hh:hi≤hi'):NestP E T sz w lo' hi' v n zs xs:=by
 obtain⟨us,los,his,h1,h2,h3,h4⟩:=h
 exact⟨us,los,his,h1,h2.mono hl hh,fun k u x hu hx=>by obtain⟨a1,a2,a3,a4,a5,a6⟩:=h3 k u x hu hx;exact⟨a1,a2,by omega,a4,by omega,a6⟩,h4⟩
theorem NestP.none_yet (h:OwW w lo hi T sz v n zs):NestP E T sz w lo hi v n zs []:=
 ⟨[],fun _=>0,fun _=>0,rfl,by simpa using h,fun k u x hu=>by simp at hu,fun j k _ hk=>by simp at hk⟩
theorem NestP.lens {us:List (List Value)} {p:Nat→List Value→α→Prop} (h1:us.length=xs.length) (h3: ∀ (k:Nat) u x,us[k]? =some u→xs[k]? =some x→u.length=sz∧p k u x): ∀ u∈us,u.length=sz:=
 mem_at fun k u hu=>by
  have hk:k<xs.length:=h1▸(List.getElem?_eq_some_iff.1 hu).1
  exact(h3 k u _ hu (List.getElem?_eq_getElem hk)).1
theorem NestP.spot {g cap:Nat} (h:NestP E T sz w lo hi (.slice (some ⟨g,0,none⟩) n cap) n zs xs) (k:Nat) (hk:k<n*sz):w.frozen? ⟨g,k,none⟩=false∧ ∃ u,w.cell? ⟨g,k,none⟩=some u:=by
 obtain⟨us,los,his,h1,h2,h3,h4⟩:=h
 exact⟨h2.1.frozenAt k,owns_cell h2.1 k hk⟩
theorem NestP.block {g cap:Nat} (h:NestP E T sz w lo hi (.slice (some ⟨g,0,none⟩) n cap) n zs xs):lo≤g∧g<hi∧g<w.heap.size:=by
 obtain⟨us,los,his,h1,h2,h3,h4⟩:=h
 exact⟨(h2.2 g rfl).1,(h2.2 g rfl).2,(h2.1.lt g rfl).2⟩
theorem NestP.stored (hE: ∀ {w w' l h u x a b},E w l h u x→Span a b w w'→(h≤a∨b≤l)→E w' l h u x) {g cap:Nat} (h:NestP E T sz w lo hi (.slice (some ⟨g,0,none⟩) n cap) n zs xs) (j:Nat) (c:Value) (hj:j<zs.length) {i:Nat} (hi':i=xs.length*sz+j):
  NestP E T sz (w.setCell ⟨g,i,none⟩ c) lo hi (.slice (some ⟨g,0,none⟩) n cap) n (zs.set j c) xs:=by
 subst hi'
 obtain⟨us,los,his,h1,h2,h3,h4⟩:=h
 have hl:=flatten_len (NestP.lens h1 h3)
 have hs:=h2.1.stored (xs.length*sz+j) c
 rw[List.set_append_right _ _ (by rw[hl,h1];omega),hl,h1,Nat.add_sub_cancel_left]at hs
 have sp:Span g (g+1) w (w.setCell ⟨g,xs.length*sz+j,none⟩ c):=Span.of_gr hs.2 (fun k hk=>by cases hk;omega)
 refine⟨us,los,his,h1,⟨hs.1,h2.2⟩,fun k u x hu hx=>?_,h4⟩
 obtain⟨a1,a2,a3,a4,a5,a6⟩:=h3 k u x hu hx
 exact⟨a1,hE a2 sp (by have:=a6 g rfl;omega),a3,a4,a5,a6⟩
theorem NestP.grow {u:List Value} {x:α} {l1 h1 hi':Nat} (h:NestP E T sz w lo hi v n (u++zs) xs) (hu:u.length=sz) (he:E w l1 h1 u x) (hlo:lo≤l1) (a1:hi≤l1) (a2:l1≤h1) (a3:h1≤hi'):NestP E T sz w lo hi' v n zs (xs++[x]):=by
 obtain⟨us,los,his,b1,b2,b3,b4⟩:=h
 refine⟨us++[u],fun k=>if k=xs.length then l1 else los k,fun k=>if k=xs.length then h1 else his k,by simp[b1],by simpa using b2.mono (Nat.le_refl _) (by omega),fun k u' x' hu' hx'=>?_,fun j k hjk hk=>?_⟩
 · by_cases hk:k=xs.length
   · subst hk
     rw[List.getElem?_append_right (by omega),b1,Nat.sub_self]at hu'
     rw[List.getElem?_append_right (by omega),Nat.sub_self]at hx'
     simp at hu' hx'
     subst hu' hx'
     simp only[if_true]
     exact⟨hu,he,hlo,a2,a3,fun g hg=>by have:=b2.2 g hg;omega⟩
   · have hk2:k<xs.length:=by
      have:=(List.getElem?_eq_some_iff.1 hx').1
      simp at this
      omega
     rw[List.getElem?_append_left (by omega)]at hu' hx'
     simp only[if_neg hk]
     obtain⟨c1,c2,c3,c4,c5,c6⟩:=b3 k u' x' hu' hx'
     exact⟨c1,c2,c3,c4,by omega,c6⟩
 · simp at hk
   simp only[if_neg (show ¬ j=xs.length by omega)]
   split
   · rename_i hk2
     have huj:us[j]? =some (us[j]'(by omega)):=List.getElem?_eq_getElem _
     obtain⟨c1,c2,c3,c4,c5,c6⟩:=b3 j _ _ huj (List.getElem?_eq_getElem (by omega))
     omega
   · exact b4 j k hjk (by omega)
theorem NestP.rd {E':World→List Value→α→Prop} (hE: ∀ {w l h u x},E w l h u x→E' w u x) (h:NestW E T sz w lo hi v xs):NestR E' sz w v xs:=by
 obtain⟨us,los,his,h1,h2,h3,h4⟩:=h
 exact⟨us,h1,by simpa using h2.rd,fun k u x hu hx=>⟨(h3 k u x hu hx).1,hE (h3 k u x hu hx).2.1⟩⟩
theorem NestW.val (h:NestW E T sz w lo hi v xs): ∃ ao cap,v= .slice ao xs.length cap:=by
 obtain⟨us,los,his,h1,h2,h3,h4⟩:=h;exact h2.val
end
end
theorem l01In_any (n lo hi:Int) (w:World):
  Calls Tryz.prog 69 #[.int .i64 n,.int .i64 lo,.int .i64 hi] w fun e w'=>e= .returned (.bool (decide (lo≤n∧n≤hi)))∧w=w':=by
 go_enter Tryz.func69,Tryz.ntmps69
 go_wp2
 all_goals go_ret
 all_goals exact⟨ret_bool (by rw[Bool.eq_iff_iff];simp;omega),rfl⟩
structure WalkR where
 f0:Int
 f1:Int
 f2:Int
 f3:Int
instance:Inhabited WalkR:=⟨⟨default,default,default,default⟩⟩
def WalkR.cells (x:WalkR):List Value:=[.int .i64 x.f0,.int .i64 x.f1,.int .i64 x.f2,.int .i64 x.f3]
theorem WalkR.cells_length (x:WalkR):x.cells.length=4:=rfl
def walkAt (l:List WalkR) (k:Nat):WalkR:=l.getD k default
theorem WalkR.ext' {x y:WalkR} (h0:x.f0=y.f0) (h1:x.f1=y.f1) (h2:x.f2=y.f2) (h3:x.f3=y.f3):x=y:=by cases x;cases y;simp_all
def WalksR (w:World) (v:Value) (xs:List WalkR):Prop:=RdS w 4 v xs.length (xs.flatMap WalkR.cells)
theorem WalksR.fr {w w':World} {v:Value} {xs:List WalkR} (h:WalksR w v xs) (hf:Fr w w'):WalksR w' v xs:=RdS.fr h hf
theorem WalksR.le {w:World} {v:Value} {xs:List WalkR} (h:WalksR w v xs):xs.length≤9223372036854775807:=RdS.le h
theorem walk_flat (xs:List WalkR) (k j:Nat) (hk:k<xs.length) (hj:j<4) (d:Value):(xs.flatMap WalkR.cells).getD (k*4+j) d=(walkAt xs k).cells.getD j d:=by
 induction xs generalizing k with
 |nil=>simp at hk
 |cons x xs ih=>
  rw[List.flatMap_cons]
  cases k with
  |zero=>simp[List.getD,List.getElem?_append_left (show j<x.cells.length by rw[WalkR.cells_length];exact hj),walkAt]
  |succ k=>
   have:=ih k (by simpa using hk)
   simp only[List.getD]at this ⊢
   rw[List.getElem?_append_right (by rw[WalkR.cells_length];omega),show(k+1)*4+j-x.cells.length=k*4+j by rw[WalkR.cells_length];omega,this]
   simp[walkAt]
theorem WalksR.one {w:World} {v:Value} {xs:List WalkR} (h:WalksR w v xs):
  ∃ ao b o cap,v= .slice ao xs.length cap∧xs.length≤cap∧cap≤9223372036854775807∧(0<xs.length→ao=some ⟨b,o,none⟩∧b<w.heap.size∧ ∀ k,k<xs.length→w.cell? ⟨b,o+k*4,none⟩=some (.int .i64 (walkAt xs k).f0)∧w.cell? ⟨b,o+k*4+1,none⟩=some (.int .i64 (walkAt xs k).f1)∧w.cell? ⟨b,o+k*4+2,none⟩=some (.int .i64 (walkAt xs k).f2)∧w.cell? ⟨b,o+k*4+3,none⟩=some (.int .i64 (walkAt xs k).f3)):=by
 obtain⟨ao,b,o,cap,h1,h2,h3,h4⟩:=RdS.one h undef
 refine⟨ao,b,o,cap,h1,h2,h3,fun hn=>⟨(h4 hn).1,(h4 hn).2.1,fun k hk=>?_⟩⟩
 have hc:=(h4 hn).2.2
 exact⟨by have:=hc (k*4+0) (by omega);rw[walk_flat xs k 0 hk (by omega)]at this;exact this,by have:=hc (k*4+1) (by omega);rw[walk_flat xs k 1 hk (by omega)]at this;exact this,by have:=hc (k*4+2) (by omega);rw[walk_flat xs k 2 hk (by omega)]at this;exact this,by have:=hc (k*4+3) (by omega);rw[walk_flat xs k 3 hk (by omega)]at this;exact this⟩
theorem eqWalk_same (x:WalkR) (w:World):
  Calls Tryz.prog 215 #[.agg #[.int .i64 x.f0,.int .i64 x.f1,.int .i64 x.f2,.int .i64 x.f3],.agg #[.int .i64 x.f0,.int .i64 x.f1,.int .i64 x.f2,.int .i64 x.f3]] w fun e w'=>e= .returned (.bool true)∧Fr w w':=by
 go_enter Tryz.func215,Tryz.ntmps215
 go_wp2
 go_ret
 exact⟨rfl,by exact Qf⟩
def WalkR.bulk (x:WalkR):Nat:=0
def WalkR.okSize (x:WalkR):Prop:=True
theorem info_Walk:(Tryz.prog.info? 48).map (fun i=>(i.zero,i.size,i.bytes))=some (some (.agg #[.int .i64 0,.int .i64 0,.int .i64 0,.int .i64 0]),4,32):=by kernel_rfl
def WalksO (w:World) (lo:Nat) (v:Value) (xs:List WalkR):Prop:=w.ownsRow lo 48 4 v xs.length (xs.flatMap WalkR.cells)
theorem WalksO.rd {w:World} {lo:Nat} {v:Value} {xs:List WalkR} (h:WalksO w lo v xs):WalksR w v xs:=RdS.of_owns h
theorem WalksO.val {w:World} {lo:Nat} {v:Value} {xs:List WalkR} (h:WalksO w lo v xs): ∃ ao cap,v= .slice ao xs.length cap:=owns_val h
theorem WalksO.fr {w w':World} {lo:Nat} {v:Value} {xs:List WalkR} (h:WalksO w lo v xs) (hf:Fr w w'):WalksO w' lo v xs:=owns_fr h hf
def sumWalk (xs:List WalkR) (k:Nat):Nat:=((xs.take k).map WalkR.bulk).sum
theorem sumWalk_succ (xs:List WalkR) (k:Nat) (h:k<xs.length):sumWalk xs (k+1)=sumWalk xs k+(walkAt xs k).bulk:=by
 unfold sumWalk walkAt
 rw[List.take_succ_eq_append_getElem h,List.map_append,List.sum_append]
 simp[List.getD,List.getElem?_eq_getElem h]
theorem sumWalk_le (xs:List WalkR) (k:Nat):sumWalk xs k≤sumWalk xs xs.length:=by
 unfold sumWalk
 rw[List.take_length]
 conv=>rhs;rw[← List.take_append_drop k xs]
 rw[List.map_append,List.sum_append]
 omega
def WalksBulk (xs:List WalkR):Nat:=xs.length+sumWalk xs xs.length
theorem walk_mem {xs:List WalkR} {p:WalkR→Prop} (h: ∀ x∈xs,p x) (k:Nat) (hk:k<xs.length):p (walkAt xs k):=by
 have:=h xs[k] (List.getElem_mem hk)
 simpa [walkAt,List.getD,List.getElem?_eq_getElem hk]using this
theorem eqWalkS_same (a b:Value) (xs:List WalkR) (w:World) (ha:WalksR w a xs) (hb:WalksR w b xs):
  Calls Tryz.prog 172 #[a,b] w fun e w'=>e= .returned (.bool true)∧Fr w w':=by
 obtain⟨ao,ba,oa,ca,rfl,hca,hma,fa⟩:=ha.one
 obtain⟨bo,bb,ob,cb,rfl,hcb,hmb,fb⟩:=hb.one
 clear ha hb
 go_enter Tryz.func172,Tryz.ntmps172
 go_wp2
 go_loopw [5] (fun i wr=> ∃ k:Nat,k≤xs.length∧i= .int .i64 k∧Fr w wr) (fun i _=>xs.length-(intOf i).toNat)
 case atStart=>exact⟨0,Nat.zero_le _,rfl,Fr.refl _⟩
 case round=>
  obtain⟨k,hk,rfl,hfr⟩:=hrel
  by_cases hlt:k<xs.length
  · obtain⟨rfl,hba,fa⟩:=fa (by omega)
    obtain⟨rfl,hbb,fb⟩:=fb (by omega)
    obtain⟨x,hx⟩: ∃ x,walkAt xs k=x:=⟨_,rfl⟩
    have c0: ∀ w',Fr wr w'→w'.cell? ⟨ba,oa+k*4,none⟩=some (.int .i64 x.f0):=fun w' hf=>((hfr.trans hf).cell (p:=⟨ba,_,none⟩) hba).trans (hx▸(fa k hlt).1)
    have c1: ∀ w',Fr wr w'→w'.cell? ⟨ba,oa+k*4+1,none⟩=some (.int .i64 x.f1):=fun w' hf=>((hfr.trans hf).cell (p:=⟨ba,_,none⟩) hba).trans (hx▸(fa k hlt).2.1)
    have c2: ∀ w',Fr wr w'→w'.cell? ⟨ba,oa+k*4+2,none⟩=some (.int .i64 x.f2):=fun w' hf=>((hfr.trans hf).cell (p:=⟨ba,_,none⟩) hba).trans (hx▸(fa k hlt).2.2.1)
    have c3: ∀ w',Fr wr w'→w'.cell? ⟨ba,oa+k*4+3,none⟩=some (.int .i64 x.f3):=fun w' hf=>((hfr.trans hf).cell (p:=⟨ba,_,none⟩) hba).trans (hx▸(fa k hlt).2.2.2)
    have e0: ∀ w',Fr wr w'→w'.cell? ⟨bb,ob+k*4,none⟩=some (.int .i64 x.f0):=fun w' hf=>((hfr.trans hf).cell (p:=⟨bb,_,none⟩) hbb).trans (hx▸(fb k hlt).1)
    have e1: ∀ w',Fr wr w'→w'.cell? ⟨bb,ob+k*4+1,none⟩=some (.int .i64 x.f1):=fun w' hf=>((hfr.trans hf).cell (p:=⟨bb,_,none⟩) hbb).trans (hx▸(fb k hlt).2.1)
    have e2: ∀ w',Fr wr w'→w'.cell? ⟨bb,ob+k*4+2,none⟩=some (.int .i64 x.f2):=fun w' hf=>((hfr.trans hf).cell (p:=⟨bb,_,none⟩) hbb).trans (hx▸(fb k hlt).2.2.1)
    have e3: ∀ w',Fr wr w'→w'.cell? ⟨bb,ob+k*4+3,none⟩=some (.int .i64 x.f3):=fun w' hf=>((hfr.trans hf).cell (p:=⟨bb,_,none⟩) hbb).trans (hx▸(fb k hlt).2.2.2)
    clear fa fb hx
    go_wp2_with fail
    go_region_held3 (fun w'=>Fr wr w') (repeat(first|(with_reducible exact Fr.refl _)|(with_reducible assumption)|(with_reducible refine Fr.drewN ?_ _)|(with_reducible refine Fr.drew ?_)|(with_reducible refine Fr.alloc ?_ _)|(with_reducible refine Fr.setCell ?_ (by exact Qz) _)|(with_reducible refine Fr.trans ?_ (by with_reducible assumption)))) (first|(go_at_call 215;refine(eqWalk_same x _).mono ?_;rintro e w2 ⟨rfl,hf1⟩))
    go_wp2_with fail
    go_roundw
    case rel=>exact⟨k+1,by omega,by go_num,by exact Qf⟩
    case measure=>(simp[intOf];omega)
  · clear fa fb
    go_wp2
    go_ret
    exact⟨rfl,hfr⟩
end Go.Proofs.YtjnahjgncmcmdaaGreat