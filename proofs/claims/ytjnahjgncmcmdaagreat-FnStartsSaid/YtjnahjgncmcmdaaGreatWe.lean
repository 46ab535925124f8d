/- A drawn region whose last operation alone breaks the held condition: loads from a cell that the region's own last store turns may be taken first. No condition. -/
import Derived.Test.YtjnahjgncmcmdaaGreatGTch
import Derived.Deep.RegionHeld
namespace Go.Proofs.YtjnahjgncmcmdaaGreat
open Go.RowKit
set_option linter.unusedVariables false
set_option linter.unusedSimpArgs false
section
variable {P:Program} {ops:Array Oper} {Q:Exit→Act→World→Prop} {md:Region.Mode} {S:World→Prop} {L:Nat}
/-- Operation j waits for operation c. -/
def waitsFor (md:Region.Mode) (ops:Array Oper) (j c:Nat):Bool:=match ops[j]? with
 |some o=>o.after.any fun e=>Region.binds md e&&e.on==c
 |none=>false
def chainOk (md:Region.Mode) (ops:Array Oper) (L:Nat) (listed:Array Bool):List Nat→Bool
 |[]=>false
 |[c]=>c==L&&!listed.getD c true
 |c::j::r=>waitsFor md ops j c&&!listed.getD c true&&chainOk md ops L listed (j::r)
def Chain (md:Region.Mode) (ops:Array Oper) (L:Nat) (listed:Array Bool) (ch:List Nat):Prop:=chainOk md ops L listed ch=true
theorem waits_ready {j c:Nat} {listed:Array Bool} (h:waitsFor md ops j c=true) (hc:listed.getD c true=false):j∉Region.ready md ops listed:=fun hj=>by
 obtain⟨_,o,ho,hall⟩:=mem_ready.1 hj
 unfold waitsFor at h
 rw[ho]at h
 simp only[Array.any_eq_true,Bool.and_eq_true,beq_iff_eq]at h
 obtain⟨k,hk,h1,h2⟩:=h
 have h3:=hall _ (Array.getElem_mem hk) h1
 rw[h2]at h3
 rcases Nat.lt_or_ge c listed.size with h'|h'
 · simp[h']at h3 hc;rw[hc]at h3;cases h3
 · simp[Array.getElem?_eq_none h']at h3
theorem chain_step: ∀ (ch:List Nat) (listed:Array Bool) (j:Nat),chainOk md ops L listed ch=true→j∈Region.ready md ops listed→ch.head? ≠some j→j≠L∧chainOk md ops L (listed.setIfInBounds j true) ch=true
 |[],_,_,h,_,_=>by cases h
 |[c],listed,j,h,hj,hne=>by
  simp only[chainOk,Bool.and_eq_true,beq_iff_eq,Bool.not_eq_true']at h ⊢
  have hcj:j≠c:=fun e=>hne (by rw[e];rfl)
  exact⟨fun e=>hcj (e.trans h.1.symm),h.1,by rw[getD_set_ne true hcj];exact h.2⟩
 |c::i::r,listed,j,h,hj,hne=>by
  simp only[chainOk,Bool.and_eq_true,Bool.not_eq_true']at h
  obtain⟨⟨h1,h2⟩,h3⟩:=h
  have hcj:j≠c:=fun e=>hne (by rw[e];rfl)
  have hji:j≠i:=fun e=>waits_ready h1 h2 (e▸hj)
  have h4:=chain_step (i::r) listed j h3 hj (fun e=>hji (Option.some.inj e).symm)
  refine⟨h4.1,?_⟩
  simp only[chainOk,Bool.and_eq_true,Bool.not_eq_true']
  exact⟨⟨h1,by rw[getD_set_ne true hcj];exact h2⟩,h4.2⟩
/-- Whatever order is picked; S is shown behind every operation but the last. -/
def wpAnyE (P:Program) (md:Region.Mode) (ops:Array Oper) (Q:Exit→Act→World→Prop) (S:World→Prop) (L:Nat):Nat→Array Bool→Act→World→Prop
 |0,listed,a,w=>Region.ready md ops listed=[]∧Q .normal a w
 |fuel+1,listed,a,w=>(Region.ready md ops listed=[]→Q .normal a w)∧ ∀ i∈Region.ready md ops listed,wpOp P ops Q i (fun a' w'=>(i≠L→S w')∧wpAnyE P md ops Q S L fuel (listed.setIfInBounds i true) a' w') a w
theorem wpAny_of_E: ∀ (fuel:Nat) (listed:Array Bool) (a:Act) (w:World),wpAnyE P md ops Q S L fuel listed a w→wpAny P md ops Q fuel listed a w
 |0,_,_,_,h=>h
 |fuel+1,_,_,_,h=>⟨h.1,fun i hi=>wpOp_mono (fun a' w' h'=>wpAny_of_E fuel _ a' w' h'.2) (h.2 i hi)⟩
theorem wpAnyE_first {i:Nat} {r:List Nat} {oi:Oper} {v:Value} (hi:ops[i]? =some oi) (hsel: ∀ (j:Nat) (o:Oper) cs b,ops[j]? =some o→o.op≠ .select cs b)
  (hQ: ∀ c a w,Q (.panic c) (a.put oi.dst v) w→Q (.panic c) a w):
  ∀ (fuel:Nat) (listed:Array Bool) (a:Act) (w:World),
   (∀ j oj,ops[j]? =some oj→j≠i→listed.getD j true=false→(∀ e∈oj.after,Region.binds md e=true→e.on≠i)→oi.apart ops oj=true)→
   i∈Region.ready md ops listed→chainOk md ops L listed (i::r)=true→YieldsIf P ops S oi v a→S w→
   wpAnyE P md ops Q S L fuel (listed.setIfInBounds i true) (a.put oi.dst v) w→wpAnyE P md ops Q S L (fuel+1) listed a w:=by
 intro fuel
 induction fuel with
 |zero=>
  intro listed a w _ hr _ hy hS H
  refine⟨fun h=>(by rw[h]at hr;cases hr),fun j hj=>?_⟩
  by_cases hji:j=i
  · subst hji;exact hy.wpOp hi hS ⟨fun _=>hS,H⟩
  · have:=ready_mono hj hji
    rw[H.1]at this
    cases this
 |succ fuel ih=>
  intro listed a w hfree hr hch hy hS H
  refine⟨fun h=>(by rw[h]at hr;cases hr),fun j hj=>?_⟩
  by_cases hji:j=i
  · subst hji;exact hy.wpOp hi hS ⟨fun _=>hS,H⟩
  · obtain⟨hjL,hch2⟩:=chain_step _ listed j hch hj (fun e=>hji (Option.some.inj e).symm)
    have h1:=H.2 j (ready_mono hj hji)
    obtain⟨hjun,oj,hoj,hall⟩:=mem_ready.1 hj
    have hnot: ∀ e∈oj.after,Region.binds md e=true→e.on≠i:=fun e he hb heq=>by
     have h1:=hall e he hb
     have h0:=(mem_ready.1 hr).1
     rw[heq]at h1
     rcases Nat.lt_or_ge i listed.size with h'|h'
     · simp[h']at h0 h1;rw[h0]at h1;cases h1
     · simp[Array.getElem?_eq_none h']at h1
    have h2:=wpOp_putIf hoj (hfree j oj hoj hji hjun hnot) (fun cs b=>hsel i oi cs b hi) (fun cs b=>hsel j oj cs b hoj) hQ hy h1
    have hfree': ∀ k ok,ops[k]? =some ok→k≠i→(listed.setIfInBounds j true).getD k true=false→(∀ e∈ok.after,Region.binds md e=true→e.on≠i)→oi.apart ops ok=true:=fun k ok hk hki hun hno=>by
     refine hfree k ok hk hki ?_ hno
     by_cases hjk:j=k
     · subst hjk;exact hjun
     · rw[getD_set_ne true hjk]at hun;exact hun
    refine wpOp_mono (fun a' w' h3=>⟨h3.2.1,ih (listed.setIfInBounds j true) a' w' hfree' (ready_mono hr (Ne.symm hji)) hch2 h3.1 (h3.2.1 hjL) ?_⟩) h2
    rw[Array.setIfInBounds_comm _ _ hji]
    exact h3.2.2
theorem wpAnyE_take {i:Nat} {r:List Nat} {oi:Oper} {v:Value} {fuel:Nat} {listed:Array Bool} {a:Act} {w:World} (hi:ops[i]? =some oi)
  (hs:Region.noSelect ops=true) (hf:Region.free md ops listed i=true) (hr:(Region.ready md ops listed).contains i=true) (hch:chainOk md ops L listed (i::r)=true)
  (hQ: ∀ c a w,Q (.panic c) (a.put oi.dst v) w→Q (.panic c) a w) (hy:YieldsIf P ops S oi v a) (hS:S w)
  (h:wpAnyE P md ops Q S L fuel (listed.setIfInBounds i true) (a.put oi.dst v) w):wpAnyE P md ops Q S L (fuel+1) listed a w:=
 wpAnyE_first hi (Region.noSelect_spec hs) hQ fuel listed a w (Region.free_spec hi hf) (by simpa using hr) hch hy hS h
theorem wpAnyE_done {listed:Array Bool} {a:Act} {w:World} (hr:Region.ready md ops listed=[]) (h:Q .normal a w): ∀ fuel,wpAnyE P md ops Q S L fuel listed a w
 |0=>⟨hr,h⟩
 |_+1=>⟨fun _=>h,by rw[hr];simp⟩
def AllReadyE (P:Program) (md:Region.Mode) (ops:Array Oper) (Q:Exit→Act→World→Prop) (S:World→Prop) (L:Nat) (fuel:Nat) (listed:Array Bool) (a:Act) (w:World) (rs:List Nat):Prop:=
 ∀ i∈rs,wpOp P ops Q i (fun a' w'=>(i≠L→S w')∧wpAnyE P md ops Q S L fuel (listed.setIfInBounds i true) a' w') a w
theorem AllReadyE.nil {fuel:Nat} {listed:Array Bool} {a:Act} {w:World}:AllReadyE P md ops Q S L fuel listed a w []:=fun _ h=>by cases h
theorem AllReadyE.cons {fuel:Nat} {listed:Array Bool} {a:Act} {w:World} {i:Nat} {o:Oper} {rs:List Nat} (ho:ops[i]? =some o)
  (h: ∀ K':Act→World→Prop,Shut (∀ a w,S w→(S w→wpAnyE P md ops Q S L fuel (listed.setIfInBounds i true) a w)→K' a w)→if Region.wanted o (yielded ops a.tmps)=true then Oper.wp P o a w K' Q else K' (a.put o.dst undef) w)
  (hs:AllReadyE P md ops Q S L fuel listed a w rs):AllReadyE P md ops Q S L fuel listed a w (i::rs):=fun j hj=>by
 rcases List.mem_cons.1 hj with rfl|hj
 · exact wpOp_step ho (fun K' hK=>h K' (fun a w hS hW=>hK a w ⟨fun _=>hS,hW hS⟩))
 · exact hs j hj
/-- The last operation: nothing is shown anew. -/
theorem AllReadyE.last {fuel:Nat} {listed:Array Bool} {a:Act} {w:World} {i:Nat} {o:Oper} (ho:ops[i]? =some o) (hl:i=L)
  (h: ∀ K':Act→World→Prop,Shut (∀ a w,wpAnyE P md ops Q S L fuel (listed.setIfInBounds i true) a w→K' a w)→if Region.wanted o (yielded ops a.tmps)=true then Oper.wp P o a w K' Q else K' (a.put o.dst undef) w):
  AllReadyE P md ops Q S L fuel listed a w [i]:=fun j hj=>by
 rw[List.mem_singleton]at hj
 subst hj
 exact wpOp_step ho (fun K' hK=>h K' (fun a w hW=>hK a w ⟨fun hne=>absurd hl hne,hW⟩))
theorem wpAnyE_ready {rs:List Nat} {fuel:Nat} {listed:Array Bool} {a:Act} {w:World} (hr:Region.ready md ops listed=rs) (hne:rs≠[])
  (h:AllReadyE P md ops Q S L fuel listed a w rs):wpAnyE P md ops Q S L (fuel+1) listed a w:=⟨fun h0=>absurd (hr▸h0) hne,hr▸h⟩
theorem wp_region_last_drew {id:Nat} {a:Act} {w:World} (S:World→Prop) (L:Nat) (hm:P.follows .mixedOrders=true) (hS:S w.drew)
  (h:S w.drew→wpAnyE P .any ops Q S L ops.size (Array.replicate ops.size false) a w.drew):(Code.region id ops true).wp P Q a w:=
 wp_region_any hm (wpAny_of_E _ _ _ _ (h hS))
end
end Go.Proofs.YtjnahjgncmcmdaaGreat
