/- Texts in one: Base, Rd, Mark, Str. -/
import Derived.Test.YtjnahjgncmcmdaaGreatRows
import Derived.WalkKit
import Derived.ProofKit
import Derived.WalkLawsBesides
import Derived.WalkSpells
import Derived.Lib.Hide
import Derived.Lib.SmallJoins
import Derived.SizedLaws
import Derived.Deep.Draws
import Derived.Lib.Strings
import Derived.Deep.QuietTactic
import Derived.BigQuiet
import Derived.Deep.RegionHeld3
namespace Go.Proofs.YtjnahjgncmcmdaaGreat
open Go.RowKit Go.ChangeShapes Go.WideShapes Go.ChangeAt
/-- Below the first heap's size nothing has turned. -/
def Fr (w w':World):Prop:=Below w.heap.size w w'
theorem Fr.out {w w':World} (h:Fr w w'):Below w.heap.size w w':=h
theorem Fr.refl (w:World):Fr w w:=Below.refl _ _
theorem Fr.size {w w':World} (h:Fr w w'):w.heap.size≤w'.heap.size:=h.out.size
theorem Fr.trans {a b c:World} (h:Fr a b) (k:Fr b c):Fr a c:=Below.trans h.out (Below.mono k.out h.size)
theorem Fr.drew {a w:World} (h:Fr a w):Fr a w.drew:=Below.drew h.out
theorem Fr.drewN {a w:World} (h:Fr a w) (n:Nat):Fr a (w.drewN n):=⟨h.out.os,h.out.tape,h.out.output,h.out.size,h.out.block⟩
theorem Fr.grown {a w w':World} {row:Option Nat} (h:Fr a w) (hg:w.grownBy w' row) (hr: ∀ k,row=some k→a.heap.size≤k):Fr a w':=Below.grown h.out hg h.size hr
theorem Fr.alloc {a w:World} (h:Fr a w) (o:Obj):Fr a (w.alloc o):=Below.alloc h.out h.size o
theorem Fr.setCell {a w:World} (h:Fr a w) {p:Addr} (hp:a.heap.size≤p.block) (u:Value):Fr a (w.setCell p u):=Below.setCell h.out hp u
theorem Fr.cell {w w':World} (h:Fr w w') {p:Addr} (hp:p.block<w.heap.size):w'.cell? p=w.cell? p:=h.out.cell hp
theorem Fr.frozen {w w':World} (h:Fr w w') {p:Addr} (hp:p.block<w.heap.size):w'.frozen? p=w.frozen? p:=h.out.frozen hp
/-- What the walk wants behind a contract that ends in 'Fr': each old cell and each old mark reads as before. -/
theorem Fr.rules {W w1:World} (h:Fr W w1):(∀ b o,b<W.heap.size→w1.cell? ⟨b,o,none⟩=W.cell? ⟨b,o,none⟩)∧(∀ b o,b<W.heap.size→w1.frozen? ⟨b,o,none⟩=W.frozen? ⟨b,o,none⟩)∧W.heap.size≤w1.heap.size:=
 ⟨fun b o k=>h.cell (p:=⟨b,o,none⟩) k,fun b o k=>h.frozen (p:=⟨b,o,none⟩) k,h.size⟩
/-- One block that stood at the call: its cells and marks read as before (rules without a premise: the walk uses them by itself). -/
theorem Fr.blk {W w1:World} (h:Fr W w1) (b:Nat) (hb:b<W.heap.size):(∀ o,w1.cell? ⟨b,o,none⟩=W.cell? ⟨b,o,none⟩)∧(∀ o,w1.frozen? ⟨b,o,none⟩=W.frozen? ⟨b,o,none⟩):=
 ⟨fun o=>h.cell (p:=⟨b,o,none⟩) hb,fun o=>h.frozen (p:=⟨b,o,none⟩) hb⟩
theorem Fr.gr {w w':World} (h:Fr w w') (row:Option Nat):w.grownBy w' row:=⟨h.out.os,h.out.tape,h.out.output,h.out.size,fun k hk _=>h.out.block k hk⟩
theorem gr_trans {a b c:World} {row:Option Nat} (h:a.grownBy b row) (k:b.grownBy c row):a.grownBy c row:=
 ⟨k.os.trans h.os,k.tape.trans h.tape,k.output.trans h.output,Nat.le_trans h.size k.size,fun i hi hr=>(k.block i (Nat.lt_of_lt_of_le hi h.size) hr).trans (h.block i hi hr)⟩
theorem gr_drewN {a b:World} {row:Option Nat} (h:a.grownBy b row) (n:Nat):a.grownBy (b.drewN n) row:=⟨h.os,h.tape,h.output,h.size,h.block⟩
/-- What is owned stays owned while nothing old turns. -/
theorem owns_fr {w w':World} {lo:Nat} {e:TypeId} {sz:Nat} {v:Value} {n:Nat} {xs:List Value} (h:w.ownsRow lo e sz v n xs) (hf:Fr w w'):w'.ownsRow lo e sz v n xs:=
 h.kept (hf.gr none) (by cases v.ownBlock<;>simp)
theorem owns_cell {w:World} {lo:Nat} {e:TypeId} {sz g n cap:Nat} {xs:List Value} (h:w.ownsRow lo e sz (.slice (some ⟨g,0,none⟩) n cap) n xs) (j:Nat) (hj:j<n*sz): ∃ u,w.cell? ⟨g,j,none⟩=some u:=
 ⟨_,(h.cellAt j hj).trans (List.getElem?_eq_getElem (by have:=h.1;omega))⟩
theorem owns_lo {w:World} {lo lo':Nat} {e:TypeId} {sz:Nat} {v:Value} {n:Nat} {xs:List Value} (h:w.ownsRow lo e sz v n xs) (hl:lo'≤lo):w.ownsRow lo' e sz v n xs:=by
 obtain⟨h1,h2|⟨g,cap,cur,hv,hg,hr⟩⟩:=h
 · exact⟨h1,.inl h2⟩
 · exact⟨h1,.inr ⟨g,cap,cur,hv,Nat.le_trans hl hg,hr⟩⟩
/-- The two shapes of an owned slice. -/
theorem owns_shape {w:World} {lo:Nat} {e:TypeId} {sz:Nat} {v:Value} {n:Nat} {xs:List Value} (h:w.ownsRow lo e sz v n xs):(v= .slice none 0 0∧n=0∧xs=[])∨ ∃ g cap,v= .slice (some ⟨g,0,none⟩) n cap∧lo≤g∧g<w.heap.size∧n≤cap∧cap≤maxLen:=by
 obtain⟨h1,⟨h2,rfl⟩|⟨g,cap,cur,hv,hg,hh,hn,hc,_⟩⟩:=h
 · exact .inl ⟨h2,rfl,List.eq_nil_of_length_eq_zero (by simpa using h1)⟩
 · exact .inr ⟨g,cap,hv,hg,(Array.getElem?_eq_some_iff.1 hh).1,hn,hc⟩
/-- A box that was laid reads as it was laid. -/
theorem Fr.box {w w':World} {X:Array Value} {T:TypeId} (h:Fr (w.alloc (.cells X T)) w') (o:Nat):w'.cell? ⟨w.heap.size,o,none⟩=X[o]? :=
 (h.cell (p:=⟨w.heap.size,o,none⟩) (by simp)).trans (World.cell?_alloc_at _ _ _ _ rfl)
/-- From block lo on nothing has turned that stood. -/
def Ab (lo:Nat) (w w':World):Prop:=w.heap.size≤w'.heap.size∧ ∀ k,lo≤k→k<w.heap.size→w'.heap[k]? =w.heap[k]?
theorem Ab.refl (lo:Nat) (w:World):Ab lo w w:=⟨Nat.le_refl _,fun _ _ _=>rfl⟩
theorem Ab.trans {lo:Nat} {a b c:World} (h:Ab lo a b) (k:Ab lo b c):Ab lo a c:=⟨Nat.le_trans h.1 k.1,fun i hi hs=>(k.2 i hi (Nat.lt_of_lt_of_le hs h.1)).trans (h.2 i hi hs)⟩
theorem Ab.of_fr {lo:Nat} {w w':World} (h:Fr w w'):Ab lo w w':=⟨h.size,fun k _ hk=>h.out.block k hk⟩
theorem Ab.fr {lo:Nat} {a w w':World} (h:Ab lo a w) (hf:Fr w w'):Ab lo a w':=h.trans (Ab.of_fr hf)
theorem Ab.alloc {lo:Nat} {a w:World} (h:Ab lo a w) (o:Obj):Ab lo a (w.alloc o):=h.fr ((Fr.refl _).alloc o)
theorem Ab.drew {lo:Nat} {a w:World} (h:Ab lo a w):Ab lo a w.drew:=h.fr (Fr.refl _).drew
theorem Ab.drewN {lo:Nat} {a w:World} (h:Ab lo a w) (n:Nat):Ab lo a (w.drewN n):=h.fr ((Fr.refl _).drewN n)
theorem Ab.setCell {lo:Nat} {a w:World} (h:Ab lo a w) {p:Addr} (hp:p.block<lo) (u:Value):Ab lo a (w.setCell p u):=
 h.trans ⟨by simp[World.setCell],fun k hk _=>Below.heap_setCell _ _ _ _ (by omega)⟩
theorem Ab.gr {lo:Nat} {a w w':World} {row:Option Nat} (h:Ab lo a w) (hg:w.grownBy w' row) (hr: ∀ k,row=some k→k<lo):Ab lo a w':=
 h.trans ⟨hg.size,fun k hk hs=>hg.block k hs (fun e=>by have:=hr k e.symm;omega)⟩
theorem owns_ab {w w':World} {lo:Nat} {e:TypeId} {sz:Nat} {v:Value} {n:Nat} {xs:List Value} (h:w.ownsRow lo e sz v n xs) (hf:Ab lo w w'):w'.ownsRow lo e sz v n xs:=by
 obtain⟨h1,h2|⟨g,cap,cur,hv,hg,hh,hr⟩⟩:=h
 · exact⟨h1,.inl h2⟩
 · exact⟨h1,.inr ⟨g,cap,cur,hv,hg,(hf.2 g hg (Array.getElem?_eq_some_iff.1 hh).1).trans hh,hr⟩⟩
/-- Sizes, in one. -/
theorem szs:(∀ (w:World) (o:Obj),(w.alloc o).heap.size=w.heap.size+1)∧(∀ (w:World) (p:Addr) (v:Value),(w.setCell p v).heap.size=w.heap.size)∧(∀ w:World,w.drew.heap.size=w.heap.size)∧ ∀ (w:World) (n:Nat),(w.drewN n).heap=w.heap:=⟨World.size_alloc,World.size_setCell,World.size_drew,World.heap_drewN⟩
/-! Short words for the searches: a side goal on sizes (Qz), 'nothing old has turned' (Qf), 'nothing above has turned' (Qa). -/
theorem Qz {p:Prop} (h:p:=by first|(with_reducible assumption)|omega|(simp only[szs];omega)|(simp;done)|(simp;omega)):p:=h
theorem Qf {a w:World} (h:Fr a w:=by repeat(first|(with_reducible exact Fr.refl _)|(with_reducible assumption)|(with_reducible refine Fr.drewN ?_ _)|(with_reducible refine Fr.drew ?_)|(with_reducible refine Fr.alloc ?_ _)|(with_reducible refine Fr.setCell ?_ (by first|(with_reducible assumption)|omega|(simp only[szs];omega)|(simp;done)|(simp;omega)) _)|(with_reducible refine Fr.trans ?_ (by with_reducible assumption)))):Fr a w:=h
theorem Qa {lo:Nat} {a w:World} (h:Ab lo a w:=by repeat(first|(with_reducible exact Ab.refl _ _)|(with_reducible assumption)|(with_reducible refine Ab.drewN ?_ _)|(with_reducible refine Ab.drew ?_)|(with_reducible refine Ab.alloc ?_ _)|(with_reducible refine Ab.setCell ?_ (by first|(with_reducible assumption)|omega|(simp only[szs];omega)|(simp;done)|(simp;omega)) _)|(with_reducible refine Ab.fr ?_ (by with_reducible assumption)))):Ab lo a w:=h
theorem ret_bool {a b:Bool} (h:a=b):Ending.returned (.bool a)= .returned (.bool b):=by rw[h]
theorem ret_int {k:IntKind} {a b:Int} (h:a=b):Ending.returned (.int k a)= .returned (.int k b):=by rw[h]
theorem ret_str {a b:ByteArray} (h:a=b):Ending.returned (.string a)= .returned (.string b):=by rw[h]
theorem Try_own:ownKnob Tryz.prog.godebug=none:=by kernel_rfl
theorem Try_laidOut:laidOutB Tryz.prog=true:=by kernel_rfl
/-- The arguments read behind the call as they did: all of them, by induction on the list of types. -/
theorem trodAll_kept {H:Type} {enc:TypeId×Value→H} {P:Program} (hl:laidOutB P=true) {W W':World} (hb:Fr W W'):
  ∀ {ts:List TypeId} {vs:List Value} {ds:List (DataW H)} {ps:List MemPlace},(ts.all fun t=>P.readableRec t&&decide (t<P.types.size))=true→
   DataW.TrodAll enc P W 0 (fun _=>true) true ts vs ds ps→(∀ x∈ps,x.block<W.heap.size)→DataW.TrodAll enc P W' 0 (fun b=>decide (b<W.heap.size)) true ts vs ds ps
 |[],[],[],_,_,h,_=>h
 |t::ts,v::vs,d::ds,ps,ht,h,hlt=>by
  obtain⟨p,q,h0,hr,rfl⟩:=h
  simp only[List.all_cons,Bool.and_eq_true,decide_eq_true_eq]at ht
  exact⟨p,q,Below.trod hl ht.1.1 ht.1.2 h0 hb.out (fun x hx=>hlt x (List.mem_append_left _ hx)),trodAll_kept hl hb ht.2 hr (fun x hx=>hlt x (List.mem_append_right _ hx)),rfl⟩
 |[],_::_,_,_,_,h,_=>h.elim
 |[],[],_::_,_,_,h,_=>h.elim
 |_::_,[],_,_,_,h,_=>h.elim
 |_::_,_::_,[],_,_,h,_=>h.elim
/-- The step from the walk to the row's 'post', whatever the arguments are. -/
theorem law_post {H:Type} {enc:TypeId×Value→H} {P:Program} {f:Func} {s:ChangeSpec} (hl:laidOutB P=true) (hts:(f.params.toList.all fun t=>P.readableRec t&&decide (t<P.types.size))=true)
  (hr:f.resultTypes= #[4]) (hbool:P.underlying 4=some .bool) (hv:s.vars=[])
  {W W':World} {args:Array Value} {ds gs:List (DataW H)} {before:List MemPlace}
  (hfn:s.fn H (ds++gs)= {results:=[.lit (.bool true)],args:=ds})
  (hW:DataW.Whole enc P f.params.toList s.vars false W args.toList ds gs before) (hb:Fr W W'):s.post enc P f false true false false W args (.bool true) W':=by
 have hW':=hW
 obtain⟨p,q,hA,hV,rfl,_,_⟩:=hW
 rw[hv]at hV
 obtain⟨rfl,rfl⟩:=trodVars_none hV
 simp only[List.append_nil]at hW' hfn ⊢
 have hlt: ∀ x∈p,x.block<W.heap.size:=fun x hx=>by simpa using hW'.lt x hx
 refine⟨ds,[],p,[],p,[],hW',?_,?_,?_,hb.out.frame _,fun h=>by cases h⟩
 · rw[hr]
   simp only[List.append_nil,hfn]
   exact trodAll_mk1 (shut_bool hbool _)
 · simp only[List.append_nil,hfn]
   exact trodAll_kept hl hb hts hA hlt
 · simp only[List.append_nil,hfn]
   rw[hv]
   rfl
/-- A slice value whose n elements, sz cells each, read as the cells xs. -/
def RdS (w:World) (sz:Nat) (v:Value) (n:Nat) (xs:List Value):Prop:=
 xs.length=n*sz∧ ∃ ao cap,v= .slice ao n cap∧n≤cap∧cap≤maxLen∧
  (0<n→ ∃ b o,ao=some ⟨b,o,none⟩∧b<w.heap.size∧ ∀ j,j<n*sz→w.cell? ⟨b,o+j,none⟩=xs[j]?)
theorem RdS.fr {w w':World} {sz:Nat} {v:Value} {n:Nat} {xs:List Value} (h:RdS w sz v n xs) (hf:Fr w w'):RdS w' sz v n xs:=by
 obtain⟨h1,ao,cap,rfl,h2,h3,h4⟩:=h
 refine⟨h1,ao,cap,rfl,h2,h3,fun hn=>?_⟩
 obtain⟨b,o,rfl,hb,hc⟩:=h4 hn
 exact⟨b,o,rfl,Nat.lt_of_lt_of_le hb hf.size,fun j hj=>(hf.cell hb).trans (hc j hj)⟩
theorem RdS.le {w:World} {sz:Nat} {v:Value} {n:Nat} {xs:List Value} (h:RdS w sz v n xs):n≤9223372036854775807:=by
 obtain⟨_,ao,cap,_,h2,h3,_⟩:=h
 unfold maxLen at h3
 omega
theorem RdS.of_owns {w:World} {lo sz n:Nat} {e:TypeId} {v:Value} {xs:List Value} (h:w.ownsRow lo e sz v n xs):RdS w sz v n xs:=by
 have h0:=h
 obtain⟨h1,⟨rfl,rfl⟩|⟨g,cap,cur,rfl,hg,hh,hn,hcap,hsz,htake⟩⟩:=h
 · exact⟨h1,none,0,rfl,Nat.le_refl _,by simp[maxLen],fun h=>absurd h (by omega)⟩
 · refine⟨h1,_,cap,rfl,hn,hcap,fun _=>⟨g,0,rfl,(Array.getElem?_eq_some_iff.1 hh).1,fun j hj=>?_⟩⟩
   rw[Nat.zero_add]
   exact h0.cellAt j hj
theorem owns_val {w:World} {lo:Nat} {e:TypeId} {sz:Nat} {v:Value} {n:Nat} {xs:List Value} (h:w.ownsRow lo e sz v n xs): ∃ ao cap,v= .slice ao n cap:=by
 obtain⟨h1,⟨rfl,rfl⟩|⟨g,cap,cur,hv,_⟩⟩:=h
 · exact⟨_,_,rfl⟩
 · exact⟨_,_,hv⟩
def StrsR (w:World) (v:Value) (ss:List ByteArray):Prop:=RdS w 1 v ss.length (ss.map Value.string)
def IntsR (w:World) (v:Value) (xs:List Int):Prop:=RdS w 1 v xs.length (xs.map (Value.int .i64))
def BoolsR (w:World) (v:Value) (bs:List Bool):Prop:=RdS w 1 v bs.length (bs.map Value.bool)
theorem StrsR.fr {w w':World} {v:Value} {ss:List ByteArray} (h:StrsR w v ss) (hf:Fr w w'):StrsR w' v ss:=RdS.fr h hf
theorem IntsR.fr {w w':World} {v:Value} {ss:List Int} (h:IntsR w v ss) (hf:Fr w w'):IntsR w' v ss:=RdS.fr h hf
theorem BoolsR.fr {w w':World} {v:Value} {ss:List Bool} (h:BoolsR w v ss) (hf:Fr w w'):BoolsR w' v ss:=RdS.fr h hf
theorem StrsR.le {w:World} {v:Value} {ss:List ByteArray} (h:StrsR w v ss):ss.length≤9223372036854775807:=RdS.le h
theorem IntsR.le {w:World} {v:Value} {ss:List Int} (h:IntsR w v ss):ss.length≤9223372036854775807:=RdS.le h
theorem BoolsR.le {w:World} {v:Value} {ss:List Bool} (h:BoolsR w v ss):ss.length≤9223372036854775807:=RdS.le h
theorem getD_map_lt {α:Type} (f:α→Value) (l:List α) (j:Nat) (d:Value) (e:α) (h:j<l.length):(l.map f).getD j d=f (l.getD j e):=by
 simp[List.getD,List.getElem?_eq_getElem h]
/-- An element, under a name that the walk does not open. -/
def sAt (l:List ByteArray) (k:Nat):ByteArray:=l.getD k ByteArray.empty
def iAt (l:List Int) (k:Nat):Int:=l.getD k 0
def bAt (l:List Bool) (k:Nat):Bool:=l.getD k false
/-- A slice that reads as xs, in the one form that a walk takes: the address is looked at only where there is an element. -/
theorem RdS.one {w:World} {sz:Nat} {v:Value} {n:Nat} {xs:List Value} (h:RdS w sz v n xs) (d:Value):
  ∃ ao b o cap,v= .slice ao n cap∧n≤cap∧cap≤9223372036854775807∧(0<n→ao=some ⟨b,o,none⟩∧b<w.heap.size∧ ∀ j,j<n*sz→w.cell? ⟨b,o+j,none⟩=some (xs.getD j d)):=by
 have hm: ∀ cap,cap≤maxLen→cap≤9223372036854775807:=fun cap h=>by unfold maxLen at h;omega
 rcases Nat.eq_zero_or_pos n with rfl|hn
 · obtain⟨h1,ao,cap,rfl,h2,h3,h4⟩:=h
   exact⟨ao,0,0,cap,rfl,h2,hm _ h3,fun h=>absurd h (by omega)⟩
 · obtain⟨h1,ao,cap,rfl,h2,h3,h4⟩:=h
   obtain⟨b,o,rfl,hb,hc⟩:=h4 hn
   refine⟨_,b,o,cap,rfl,h2,hm _ h3,fun _=>⟨rfl,hb,fun j hj=>?_⟩⟩
   rw[hc j hj]
   have:j<xs.length:=by omega
   simp[List.getD,List.getElem?_eq_getElem this]
theorem StrsR.one {w:World} {v:Value} {ss:List ByteArray} (h:StrsR w v ss):
  ∃ ao b o cap,v= .slice ao ss.length cap∧ss.length≤cap∧cap≤9223372036854775807∧(0<ss.length→ao=some ⟨b,o,none⟩∧b<w.heap.size∧ ∀ j,j<ss.length→w.cell? ⟨b,o+j,none⟩=some (.string (sAt ss j))):=by
 obtain⟨ao,b,o,cap,h1,h2,h3,h4⟩:=RdS.one h undef
 exact⟨ao,b,o,cap,h1,h2,h3,fun hn=>⟨(h4 hn).1,(h4 hn).2.1,fun j hj=>by rw[(h4 hn).2.2 j (by omega),getD_map_lt _ _ _ _ ByteArray.empty hj];rfl⟩⟩
theorem IntsR.one {w:World} {v:Value} {ss:List Int} (h:IntsR w v ss):
  ∃ ao b o cap,v= .slice ao ss.length cap∧ss.length≤cap∧cap≤9223372036854775807∧(0<ss.length→ao=some ⟨b,o,none⟩∧b<w.heap.size∧ ∀ j,j<ss.length→w.cell? ⟨b,o+j,none⟩=some (.int .i64 (iAt ss j))):=by
 obtain⟨ao,b,o,cap,h1,h2,h3,h4⟩:=RdS.one h undef
 exact⟨ao,b,o,cap,h1,h2,h3,fun hn=>⟨(h4 hn).1,(h4 hn).2.1,fun j hj=>by rw[(h4 hn).2.2 j (by omega),getD_map_lt _ _ _ _ 0 hj];rfl⟩⟩
theorem BoolsR.one {w:World} {v:Value} {ss:List Bool} (h:BoolsR w v ss):
  ∃ ao b o cap,v= .slice ao ss.length cap∧ss.length≤cap∧cap≤9223372036854775807∧(0<ss.length→ao=some ⟨b,o,none⟩∧b<w.heap.size∧ ∀ j,j<ss.length→w.cell? ⟨b,o+j,none⟩=some (.bool (bAt ss j))):=by
 obtain⟨ao,b,o,cap,h1,h2,h3,h4⟩:=RdS.one h undef
 exact⟨ao,b,o,cap,h1,h2,h3,fun hn=>⟨(h4 hn).1,(h4 hn).2.1,fun j hj=>by rw[(h4 hn).2.2 j (by omega),getD_map_lt _ _ _ _ false hj];rfl⟩⟩
/-! ### strings -/
theorem bytes_eq_iff (x y:ByteArray):(x.toList==y.toList)=decide (x=y):=by
 rw[Bool.eq_iff_iff]
 simp only[beq_iff_eq,decide_eq_true_eq,Lib.toList_data]
 exact⟨fun h=>WideShapes.bytes_inj h,fun h=>by rw[h]⟩
theorem bytes_beq {x y:ByteArray} (h:x=y):(x.toList==y.toList)=true:=by rw[bytes_eq_iff];simpa using h
theorem bytes_bne {x y:ByteArray} (h: ¬ x=y):(x.toList==y.toList)=false:=by rw[bytes_eq_iff];simpa using h
theorem empty_iff (s:ByteArray):s.toList.isEmpty=decide (s.size=0):=by
 rw[Lib.toList_data,Bool.eq_iff_iff,decide_eq_true_eq,List.isEmpty_iff, ← List.length_eq_zero_iff,Array.length_toList]
 rfl
/-! ### sizes: what is left of a purse -/
def szR (left:Int) (t:Nat):Int:=if(t:Int)≤left then left-t else-1
theorem szR_ok {left:Int} {t:Nat} (h:(t:Int)≤left):szR left t=left-t:=if_pos h
theorem szR_no {left:Int} {t:Nat} (h: ¬ (t:Int)≤left):szR left t= -1:=if_neg h
def sumLen (ss:List ByteArray) (k:Nat):Nat:=((ss.take k).map ByteArray.size).sum
theorem sumLen_succ (ss:List ByteArray) (k:Nat) (h:k<ss.length):sumLen ss (k+1)=sumLen ss k+(sAt ss k).size:=by
 unfold sumLen sAt
 rw[List.take_succ_eq_append_getElem h,List.map_append,List.sum_append]
 simp[List.getD,List.getElem?_eq_getElem h]
def strsBulk (ss:List ByteArray):Nat:=ss.length+sumLen ss ss.length
theorem sumLen_le (ss:List ByteArray) (k:Nat):sumLen ss k≤sumLen ss ss.length:=by
 unfold sumLen
 rw[List.take_length]
 conv=>rhs;rw[← List.take_append_drop k ss]
 rw[List.map_append,List.sum_append]
 omega
/-! ### a row that is filled from its head -/
def fill (xs:List Value) (z:Value) (n k:Nat):List Value:=xs.take k++List.replicate (n-k) z
theorem fill_zero (xs:List Value) (z:Value) (n:Nat):fill xs z n 0=List.replicate n z:=by simp[fill]
theorem fill_all (xs:List Value) (z:Value) (n:Nat) (h:xs.length=n):fill xs z n n=xs:=by simp[fill, ← h]
theorem fill_set (xs:List Value) (z:Value) (n k:Nat) (u:Value) (hk:k<n) (hn:xs.length=n) (hu:xs[k]? =some u):(fill xs z n k).set k u=fill xs z n (k+1):=by
 have hl:(xs.take k).length=k:=by simp;omega
 unfold fill
 rw[List.set_append_right _ _ (by omega),hl,Nat.sub_self,show n-k=(n-(k+1))+1 from by omega,List.replicate_succ,List.set_cons_zero]
 obtain⟨hk',rfl⟩:=List.getElem?_eq_some_iff.1 hu
 rw[List.take_succ_eq_append_getElem hk',List.append_assoc]
 rfl
theorem fill_length (xs:List Value) (z:Value) (n k:Nat) (hk:k≤n) (hn:xs.length=n):(fill xs z n k).length=n:=by simp[fill];omega
/-! ### a row of structs that is filled from its head -/
def fillR {α:Type} (xs:List α) (f:α→List Value) (z:List Value) (k:Nat):List Value:=(xs.take k).flatMap f++(List.replicate (xs.length-k) z).flatten
theorem flat_len {α:Type} (xs:List α) (f:α→List Value) (n:Nat) (hf: ∀ x,(f x).length=n) (k:Nat) (hk:k≤xs.length):((xs.take k).flatMap f).length=k*n:=by
 rw[List.length_flatMap,List.map_congr_left (g:=fun _=>n) (fun x _=>hf x),List.map_const',List.sum_replicate_nat,List.length_take,Nat.min_eq_left hk]
theorem fillR_split {α:Type} (xs:List α) (f:α→List Value) (z:List Value) (k:Nat) (hk:k<xs.length):fillR xs f z k=(xs.take k).flatMap f++z++(List.replicate (xs.length-(k+1)) z).flatten:=by
 unfold fillR
 rw[show xs.length-k=(xs.length-(k+1))+1 from by omega,List.replicate_succ,List.flatten_cons,List.append_assoc]
theorem fillR_next {α:Type} [Inhabited α] (xs:List α) (f:α→List Value) (z:List Value) (k:Nat) (hk:k<xs.length):fillR xs f z (k+1)=(xs.take k).flatMap f++f (xs.getD k default)++(List.replicate (xs.length-(k+1)) z).flatten:=by
 unfold fillR
 rw[List.take_succ_eq_append_getElem hk,List.flatMap_append]
 simp[List.getD,List.getElem?_eq_getElem hk]
theorem fillR_all {α:Type} (xs:List α) (f:α→List Value) (z:List Value):fillR xs f z xs.length=xs.flatMap f:=by simp[fillR]
theorem set_mid (A B C:List Value) (j:Nat) (v:Value) {i:Nat} (hi:i=A.length+j) (hj:j<B.length):(A++B++C).set i v=A++B.set j v++C:=by
 subst hi
 rw[List.append_assoc,List.set_append_right _ _ (by omega),Nat.add_sub_cancel_left,List.set_append_left _ _ hj,List.append_assoc]
theorem made_fill {α:Type} (xs:List α) (f:α→List Value) (z:List Value) (n:Nat) (hz:z.length=n) (hn:0<n):(madeCells z.toArray (xs.length*n)).toList=fillR xs f z 0:=by
 unfold fillR
 simp only[List.take_zero,List.flatMap_nil,List.nil_append,Nat.sub_zero]
 generalize xs.length=m
 apply List.ext_getElem?
 intro j
 have hlen:(List.replicate m z).flatten.length=m*n:=by simp[hz]
 by_cases hj:j<m*n
 · have key: ∀ (m j:Nat),j<m*n→(List.replicate m z).flatten[j]? =z[j%n]? :=by
    intro m
    induction m with
    |zero=>intro j h;simp at h
    |succ m ih=>
     intro j h
     rw[List.replicate_succ,List.flatten_cons]
     by_cases hl:j<n
     · rw[List.getElem?_append_left (by omega),Nat.mod_eq_of_lt hl]
     · rw[List.getElem?_append_right (by omega),hz,ih (j-n) (by rw[Nat.add_mul]at h;omega), ← Nat.mod_eq_sub_mod (by omega)]
   rw[key m j hj]
   have hm:j%n<z.length:=by rw[hz];exact Nat.mod_lt _ hn
   simp[madeCells,hj,hz,List.getElem?_eq_getElem hm]
 · rw[List.getElem?_eq_none (l:=(madeCells z.toArray (m*n)).toList) (by rw[Array.length_toList,size_madeCells];omega),List.getElem?_eq_none (by omega)]
/-! ### lists, element by element -/
theorem ext_getD {α:Type} {l m:List α} (d:α) (h:l.length=m.length) (hh: ∀ j,j<l.length→l.getD j d=m.getD j d):l=m:=by
 apply List.ext_getElem h
 intro j h1 h2
 have:=hh j h1
 simpa [List.getD,List.getElem?_eq_getElem h1,List.getElem?_eq_getElem h2]using this
theorem all_getD {α:Type} {l:List α} {p:α→Bool} (d:α) (h: ∀ j,j<l.length→p (l.getD j d)=true):l.all p=true:=by
 rw[List.all_eq_true]
 intro x hx
 obtain⟨j,hj,rfl⟩:=List.getElem_of_mem hx
 have:=h j hj
 simpa [List.getD,List.getElem?_eq_getElem hj]using this
theorem not_all_getD {α:Type} {l:List α} {p:α→Bool} (d:α) (j:Nat) (hj:j<l.length) (h:p (l.getD j d)=false):l.all p=false:=by
 rw[List.all_eq_false]
 refine⟨l[j],List.getElem_mem hj,?_⟩
 simpa [List.getD,List.getElem?_eq_getElem hj]using h
theorem all_at_getD {α:Type} {l:List α} {p:α→Bool} (d:α) (h:l.all p=true) (j:Nat) (hj:j<l.length):p (l.getD j d)=true:=by
 rw[List.all_eq_true]at h
 have:=h l[j] (List.getElem_mem hj)
 simpa [List.getD,List.getElem?_eq_getElem hj]using this
set_option linter.unusedVariables false
set_option linter.unusedSimpArgs false
/-- 'string([]byte{..})', the bytes in a block that was just laid. -/
theorem conv_lit (xs:List Int) (w:World) (n:Nat) (hn:xs.length=n):
  (convert 22 9 (.slice (some ⟨w.heap.size,0,none⟩) n n)).run Tryz.prog (w.alloc (.cells (xs.map (Value.int .u8)).toArray 5))= .ok (.string (strOfNums xs)) (w.alloc (.cells (xs.map (Value.int .u8)).toArray 5)):=by
 refine run_convert_bytes_arg _ 22 5 Tryz.underlying22 Tryz.underlying5 w.heap.size 0 n n xs hn (fun i hi=>?_) 9 Tryz.underlying9
 rw[World.cell?_alloc_at _ _ _ _ rfl]
 have:i<xs.length:=by omega
 simp[List.getD,List.getElem?_eq_getElem this]
theorem conv_at2 (x y:Int) (b:Nat) (w:World) (h0:w.cell? ⟨b,0,none⟩=some (.int .u8 x)) (h1:w.cell? ⟨b,1,none⟩=some (.int .u8 y)):
  (convert 22 9 (.slice (some ⟨b,0,none⟩) 2 2)).run Tryz.prog w= .ok (.string (strOfNums [x,y])) w:=by
 refine run_convert_bytes_arg _ 22 5 Tryz.underlying22 Tryz.underlying5 b 0 2 2 [x,y] rfl (fun i hi=>?_) 9 Tryz.underlying9
 match i,hi with
 |0,_=>simpa using h0
 |1,_=>simpa using h1
def mDig (m:Nat):List UInt8:=if h:m=0 then []else mDig (m/10)++[UInt8.ofNat (48+m%10)]
theorem mDig_zero:mDig 0=[]:=by rw[mDig];simp
theorem mDig_pos {m:Nat} (h:0<m):mDig m=mDig (m/10)++[UInt8.ofNat (48+m%10)]:=by rw[mDig,dif_neg (by omega)]
theorem mDig_len (m:Nat):(mDig m).length≤m:=by
 induction m using Nat.strongRecOn with
 |ind m ih=>
  rcases Nat.eq_zero_or_pos m with rfl|h
  · simp[mDig_zero]
  · rw[mDig_pos h,List.length_append]
    have:=ih (m/10) (by omega)
    simp
    omega
def mText (m:Nat):ByteArray:=⟨(109::mDig m).toArray⟩
def mTextI (k:Int):ByteArray:=mText k.toNat
set_option maxRecDepth 100000 in
theorem markText_any (k:Nat) (w:World) (h0:0<k) (h1:k≤1099511627776):
  Calls Tryz.prog 177 #[.int .i64 k] w fun e w'=>e= .returned (.string (mText k))∧Fr w w':=by
 have hcv:=fun(x:Int) (w:World)=>conv_lit [x] w 1 rfl
 simp only[List.map_cons,List.map_nil]at hcv
 have hk0:decide (k=0)=false:=by simp;omega
 have hlen:=mDig_len k
 go_enter Tryz.func177,Tryz.ntmps177
 go_wp2
 go_loopw [0,3] (fun i o wr=> ∃ (m:Nat) (l:List UInt8),i= .int .i64 m∧o= .string ⟨l.toArray⟩∧m≤k∧Hid (mDig m++l=mDig k)∧Fr w wr) (fun i _ _=>(intOf i).toNat)
 case atStart=>exact⟨k,[],rfl,rfl,Nat.le_refl _,by simp[Hid],Fr.refl _⟩
 case round=>
  obtain⟨m,l,rfl,rfl,hm,hd,hfr⟩:=hrel
  have hll:l.length≤k:=by
   have:=congrArg List.length hd.out
   simp only[List.length_append]at this
   omega
  by_cases hlt:0<m
  · have hs1:(strOfNums [48+(m:Int)%10]).size=1:=by rw[strOfNums_size];rfl
    have hd':Hid (mDig (m/10)++(UInt8.ofNat (48+m%10)::l)=mDig k):=by
     have:=hd.out
     rw[mDig_pos hlt,List.append_assoc]at this
     exact this
    have hcat:strOfNums [48+(m:Int)%10]++(⟨l.toArray⟩:ByteArray)=⟨(UInt8.ofNat (48+m%10)::l).toArray⟩:=by
     apply WideShapes.bytes_inj
     have e1:((48+(m:Int)%10)).toNat=48+m%10:=by omega
     simp[strOfNums,e1]
    have HC:=Lib.hid hcat
    clear hcat hd hlen
    go_wp2
    go_roundw
    case rel=>exact⟨m/10,_,rfl,by rw[HC.out],by omega,hd',by exact Qf⟩
    case measure=>(simp[intOf];omega)
  · obtain rfl:m=0:=by omega
    have hd':=hd.out
    rw[mDig_zero,List.nil_append]at hd'
    have hfin:(⟨#[109]⟩:ByteArray)++(⟨l.toArray⟩:ByteArray)=mText k:=by
     apply WideShapes.bytes_inj
     simp[mText,hd']
    have HF:=Lib.hid hfin
    clear hfin hd' hd
    go_wp2
    go_ret
    exact⟨ret_str HF.out,hfr⟩
theorem markText_int (k:Int) (w:World) (h0:0<k) (h1:k≤1099511627776):
  Calls Tryz.prog 177 #[.int .i64 k] w fun e w'=>e= .returned (.string (mTextI k))∧Fr w w':=by
 obtain⟨n,rfl⟩:=Int.eq_ofNat_of_zero_le (show 0≤k by omega)
 exact markText_any n w (by omega) (by omega)
theorem info_string:(Tryz.prog.info? 9).map (fun i=>(i.zero,i.size,i.bytes))=some (some (.string ⟨#[]⟩),1,16):=by kernel_rfl
theorem eqStringS_any (a b:Value) (ss ts:List ByteArray) (w:World) (ha:StrsR w a ss) (hb:StrsR w b ts):
  Calls Tryz.prog 120 #[a,b] w fun e w'=>e= .returned (.bool (decide (ss=ts)))∧Fr w w':=by
 obtain⟨ao,ba,oa,ca,rfl,hca,hma,fa⟩:=ha.one
 obtain⟨bo,bb,ob,cb,rfl,hcb,hmb,fb⟩:=hb.one
 clear ha hb
 by_cases hl:ss.length=ts.length
 · have HL:Hid (ss.length=ts.length):=hl
   rw[← hl]at fb hcb ⊢
   clear hl
   go_enter Tryz.func120,Tryz.ntmps120
   go_wp2
   go_loopw [5] (fun i wr=> ∃ k:Nat,k≤ss.length∧i= .int .i64 k∧Fr w wr∧Hid (∀ j,j<k→sAt ss j=sAt ts j)) (fun i _=>ss.length-(intOf i).toNat)
   case atStart=>exact⟨0,Nat.zero_le _,rfl,Fr.refl _,fun j hj=>absurd hj (by omega)⟩
   case round=>
    obtain⟨k,hk,rfl,hfr,hj⟩:=hrel
    by_cases hlt:k<ss.length
    · obtain⟨rfl,hba,fa⟩:=fa (by omega)
      obtain⟨rfl,hbb,fb⟩:=fb (by omega)
      have c1:wr.cell? ⟨ba,oa+k,none⟩=some (.string (sAt ss k)):=(hfr.cell (p:=⟨ba,_,none⟩) hba).trans (fa k hlt)
      have c2:wr.cell? ⟨bb,ob+k,none⟩=some (.string (sAt ts k)):=(hfr.cell (p:=⟨bb,_,none⟩) hbb).trans (fb k hlt)
      clear fa fb
      by_cases he:sAt ss k=sAt ts k
      · have he':=bytes_beq he
        have HE:Hid (sAt ss k=sAt ts k):=he
        clear he
        go_wp2
        go_quiet (fail)
        go_wp2
        go_roundw
        case rel=>exact⟨k+1,by omega,by go_num,by exact Qf,fun j h=>by rcases Nat.lt_succ_iff_lt_or_eq.1 h with h|rfl;exact hj.out j h;exact HE.out⟩
        case measure=>(simp[intOf];omega)
      · have he':=bytes_bne he
        go_wp2
        go_quiet (fail)
        go_wp2
        go_ret
        exact⟨ret_bool (by symm;rw[decide_eq_false_iff_not];rintro rfl;exact he rfl),by exact Qf⟩
    · clear fa fb
      go_wp2
      go_ret
      exact⟨ret_bool (by symm;rw[decide_eq_true_eq];exact ext_getD ByteArray.empty HL.out (fun j h=>hj.out j (by omega))),by exact Qf⟩
 · go_enter Tryz.func120,Tryz.ntmps120
   go_wp2
   go_ret
   exact⟨ret_bool (by symm;rw[decide_eq_false_iff_not];rintro rfl;exact hl rfl),by exact Qf⟩
theorem szStringS_any (a : Value) (ss : List ByteArray) (left : Int) (w : World) (ha : StrsR w a ss) (hs : ∀ s ∈ ss, s.size ≤ maxLen) (h0 : 0 ≤ left) (h1 : left ≤ 1048576) :
  Calls Tryz.prog 109 #[a, .int .i64 left] w fun e w' => e = .returned (.int .i64 (szR left (strsBulk ss))) ∧ w = w' := by
 obtain ⟨ao, ba, oa, ca, rfl, hca, hma, fa⟩ := ha.one
 clear ha
 by_cases hl : (ss.length : Int) ≤ left
 · go_enter Tryz.func109, Tryz.ntmps109
   go_wp2
   go_loop [1, 5] (fun l i => ∃ k : Nat, k ≤ ss.length ∧ i = .int .i64 k ∧ l = .int .i64 (left - ss.length - sumLen ss k) ∧ (sumLen ss k : Int) ≤ left - ss.length) (fun _ i => ss.length - (intOf i).toNat)
   case atStart => exact ⟨0, Nat.zero_le _, rfl, by simp [sumLen], by simp [sumLen]; omega⟩
   case round =>
    obtain ⟨k, hk, rfl, rfl, hj⟩ := hrel
    by_cases hlt : k < ss.length
    · obtain ⟨rfl, hba, fa⟩ := fa (by omega)
      have c1 := fa k hlt
      have hsz : (sAt ss k).size ≤ 9223372036854775807 := by
       have := hs (sAt ss k) (by simp [sAt, List.getD, List.getElem?_eq_getElem hlt])
       unfold maxLen at this
       exact this
      have hsu := sumLen_succ ss k hlt
      have hle := sumLen_le ss (k + 1)
      have HSU := Lib.hid hsu
      clear hsu fa
      by_cases hr : ((sAt ss k).size : Int) ≤ left - ss.length - sumLen ss k
      · go_wp2
        go_round
        case rel => exact ⟨k + 1, by omega, by go_num, by rw [HSU.out]; go_num, by rw [HSU.out]; omega⟩
        case measure => (simp [intOf]; omega)
      · go_wp2
        go_ret
        exact ⟨ret_int (by rw [szR_no]; unfold strsBulk; have := HSU.out; omega), rfl⟩
    · clear fa
      obtain rfl : k = ss.length := by omega
      go_wp2
      go_ret
      exact ⟨ret_int (by rw [szR_ok]; · unfold strsBulk; omega
                         · unfold strsBulk; omega), rfl⟩
 · go_enter Tryz.func109, Tryz.ntmps109
   go_wp2
   go_ret
   exact ⟨ret_int (by rw [szR_no]; unfold strsBulk; omega), rfl⟩
/-- A slice of strings of the call's own, made from block lo on. -/
def StrsO (w:World) (lo:Nat) (v:Value) (ss:List ByteArray):Prop:=w.ownsRow lo 9 1 v ss.length (ss.map Value.string)
theorem StrsO.val {w:World} {lo:Nat} {v:Value} {ss:List ByteArray} (h:StrsO w lo v ss): ∃ ao cap,v= .slice ao ss.length cap:=owns_val h
theorem StrsO.fr {w w':World} {lo:Nat} {v:Value} {ss:List ByteArray} (h:StrsO w lo v ss) (hf:Fr w w'):StrsO w' lo v ss:=owns_fr h hf
theorem StrsO.rd {w:World} {lo:Nat} {v:Value} {ss:List ByteArray} (h:StrsO w lo v ss):StrsR w v ss:=RdS.of_owns h
theorem toStringS_any (a:Value) (ss:List ByteArray) (w:World) (ha:StrsR w a ss) (hn:ss.length≤1048576):
  Calls Tryz.prog 114 #[a] w fun e w'=> ∃ v,e= .returned v∧StrsO w' w.heap.size v ss∧Fr w w':=by
 obtain⟨ao,ba,oa,ca,rfl,hca,hma,fa⟩:=ha.one
 clear ha
 obtain⟨i0,hi,hz0,hz1,hz2⟩:=info_parts info_string
 go_enter Tryz.func114,Tryz.ntmps114
 go_wp2_with(at_make;refine wpList_make_full _ rfl _ _ 27 rfl w.heap.size 9 i0 (.string ⟨#[]⟩) 1 Tryz.underlying27 hi hz0 hz1 _ _ _ _ ss.length rfl rfl rfl rfl (by rw[hz2];omega) (by unfold maxLen;omega) (by omega) ?_;intro w1 hown hgrow)
 rw[show(madeCells (Value.string ⟨#[]⟩).cells (ss.length*1)).toList=fill (ss.map Value.string) (.string ⟨#[]⟩) ss.length 0 from by rw[fill_zero,Nat.mul_one];exact toList_madeCells_one _ _]at hown
 go_loopw [4] (fun i wr=> ∃ k:Nat,k≤ss.length∧i= .int .i64 k∧wr.ownsRow w.heap.size 9 1 (.slice (some ⟨w.heap.size,0,none⟩) ss.length ss.length) ss.length (fill (ss.map Value.string) (.string ⟨#[]⟩) ss.length k)∧Fr w wr) (fun i _=>ss.length-(intOf i).toNat)
 case atStart=>exact⟨0,Nat.zero_le _,rfl,hown,(Fr.refl w).grown hgrow (by simp)⟩
 case round=>
  clear hown hgrow
  obtain⟨k,hk,rfl,ho,hfr⟩:=hrel
  by_cases hlt:k<ss.length
  · obtain⟨rfl,hba,fa⟩:=fa (by omega)
    have c1:wr.cell? ⟨ba,oa+k,none⟩=some (.string (sAt ss k)):=(hfr.cell (p:=⟨ba,_,none⟩) hba).trans (fa k hlt)
    have f2:=ho.frozenAt k
    obtain⟨u,c2⟩: ∃ u,wr.cell? ⟨w.heap.size,k,none⟩=some u:=⟨_,(ho.cellAt k (by omega)).trans (List.getElem?_eq_getElem (by rw[fill_length _ _ _ _ hk (by simp)];exact hlt))⟩
    have hst:=ho.stored k (.string (sAt ss k))
    rw[fill_set _ _ _ _ _ hlt (by simp) (by simp[sAt,List.getElem?_eq_getElem hlt])]at hst
    clear fa ho
    go_wp2
    go_roundw
    case rel=>exact⟨k+1,by omega,by go_num,hst.1,hfr.setCell (Nat.le_refl _) _⟩
    case measure=>(simp[intOf];omega)
  · clear fa
    obtain rfl:k=ss.length:=by omega
    rw[fill_all _ _ _ (by simp)]at ho
    go_wp2
    go_ret
    exact⟨_,rfl,ho,hfr⟩
/-- The marks that a slice of n strings bears, the first of them k. -/
def marksS (k:Int) (n:Nat):List ByteArray:=(List.range n).map fun i:Nat=>mTextI (k+i)
theorem marksS_length (k:Int) (n:Nat):(marksS k n).length=n:=by simp[marksS]
theorem marksS_at (k:Int) (n j:Nat) (h:j<n):sAt (marksS k n) j=mTextI (k+j):=by simp[marksS,sAt,List.getD,h]
/-- A slice is written in place: its old cells up to k marked, the rest as it was. -/
def part (new old:List Value) (k:Nat):List Value:=new.take k++old.drop k
theorem part_zero (new old:List Value):part new old 0=old:=by simp[part]
theorem part_all (new old:List Value) (n:Nat) (h1:new.length=n) (h2:old.length=n):part new old n=new:=by simp[part, ← h1,List.drop_of_length_le (show old.length≤new.length by omega)]
theorem part_set (new old:List Value) (k n:Nat) (u:Value) (hk:k<n) (h1:new.length=n) (h2:old.length=n) (hu:new[k]? =some u):(part new old k).set k u=part new old (k+1):=by
 have hl:(new.take k).length=k:=by simp;omega
 unfold part
 rw[List.set_append_right _ _ (by omega),hl,Nat.sub_self,List.drop_eq_getElem_cons (show k<old.length by omega),List.set_cons_zero]
 obtain⟨hk',rfl⟩:=List.getElem?_eq_some_iff.1 hu
 rw[List.take_succ_eq_append_getElem hk',List.append_assoc]
 rfl
theorem part_length (new old:List Value) (k n:Nat) (h1:new.length=n) (h2:old.length=n) (hk:k≤n):(part new old k).length=n:=by simp[part];omega
theorem markStringS_any (g n cap:Nat) (ss:List ByteArray) (k:Int) (lo:Nat) (w:World) (ha:w.ownsRow lo 9 1 (.slice (some ⟨g,0,none⟩) n cap) n (ss.map Value.string)) (h0:0<k) (h1:k≤1073741824) (h2:n≤1073741824):
  Calls Tryz.prog 124 #[.slice (some ⟨g,0,none⟩) n cap,.int .i64 k] w fun e w'=>e= .returned (.int .i64 (k+n))∧w'.ownsRow lo 9 1 (.slice (some ⟨g,0,none⟩) n cap) n ((marksS k n).map Value.string)∧w.grownBy w' (some g):=by
 have hsl:(ss.map Value.string).length=n:=by have:=ha.1;simpa using this
 have hg0:g<w.heap.size:=(ha.lt g rfl).2
 go_enter Tryz.func124,Tryz.ntmps124
 go_wp2
 go_loopw [1,5] (fun l i wr=> ∃ m:Nat,m≤n∧i= .int .i64 m∧l= .int .i64 (k+m)∧wr.ownsRow lo 9 1 (.slice (some ⟨g,0,none⟩) n cap) n (part ((marksS k n).map Value.string) (ss.map Value.string) m)∧w.grownBy wr (some g)) (fun _ i _=>n-(intOf i).toNat)
 case atStart=>exact⟨0,Nat.zero_le _,rfl,by simp,by rw[part_zero];exact ha,World.grownBy.refl _ _⟩
 case round=>
  clear ha
  obtain⟨m,hm,rfl,rfl,ho,hfr⟩:=hrel
  by_cases hlt:m<n
  · go_wp2_with(go_at_call 177;refine(markText_int _ _ (by omega) (by omega)).mono ?_;rintro e w1 ⟨rfl,hf⟩;have ho':=owns_fr ho hf;have f2:=ho'.frozenAt m;obtain⟨u,c2⟩:=owns_cell ho' m (by omega))
    have ho':=owns_fr ho hf
    have hst:=ho'.stored m (.string (mTextI (k+m)))
    rw[part_set _ _ _ n _ hlt (by simp[marksS]) hsl (by simp[marksS,hlt])]at hst
    go_roundw
    case rel=>exact⟨m+1,by omega,by go_num,by go_num,hst.1,gr_trans (gr_trans hfr (hf.gr _)) hst.2⟩
    case measure=>(simp[intOf];omega)
  · obtain rfl:m=n:=by omega
    rw[part_all _ _ m (by simp[marksS]) hsl]at ho
    go_wp2
    go_ret
    exact⟨rfl,ho,hfr⟩
end Go.Proofs.YtjnahjgncmcmdaaGreat