/- Texts in one: Nsv, MRoam, Rvv, Sum, ParP. -/
import Derived.Test.YtjnahjgncmcmdaaGreatGTch
import Derived.Test.YtjnahjgncmcmdaaGreatGRow
import Derived.Test.YtjnahjgncmcmdaaGreatGSWalk
namespace Go.Proofs.YtjnahjgncmcmdaaGreat
open Go.RowKit
set_option linter.unusedVariables false
set_option linter.unusedSimpArgs false
/-- An element's cells, its blocks and its datum. -/
structure Itm (α:Type) where
 u:List Value
 l:Nat
 h:Nat
 x:α
def Itm.dis {α:Type} (a b:Itm α):Prop:=a.h≤a.l∨b.h≤b.l∨a.h≤b.l∨b.h≤a.l
section
variable {α:Type}
structure ElsV (E:World→Nat→Nat→List Value→α→Prop) (sz:Nat) (w:World) (C:Nat→Prop) (L:List (Itm α)):Prop where
 el: ∀ i∈L,i.u.length=sz∧E w i.l i.h i.u i.x∧i.l≤i.h∧ ∀ g,i.l≤g→g<i.h→C g
 dis:L.Pairwise Itm.dis
def Keeps (E:World→Nat→Nat→List Value→α→Prop):Prop:= ∀ ⦃w w':World⦄ ⦃l h:Nat⦄ ⦃u:List Value⦄ ⦃x:α⦄ ⦃C:Nat→Prop⦄,E w l h u x→Tch C w w'→(∀ g,l≤g→g<h→ ¬ C g)→E w' l h u x
section
variable {E:World→Nat→Nat→List Value→α→Prop} {sz:Nat} {w w':World} {C D:Nat→Prop} {L M:List (Itm α)}
theorem ElsV.tch (hE:Keeps E) (h:ElsV E sz w C L) (t:Tch D w w') (hd: ∀ g,C g→ ¬ D g):ElsV E sz w' C L:=
 ⟨fun i hi=>by obtain⟨a,b,c,d⟩:=h.el i hi;exact⟨a,hE b t (fun g h1 h2=>hd g (d g h1 h2)),c,d⟩,h.dis⟩
theorem ElsV.fr (hE:Keeps E) (h:ElsV E sz w C L) (hf:Fr w w'):ElsV E sz w' C L:=h.tch hE (Tch.of_fr (B:=fun _=>False) hf) fun _ _ k=>k
theorem ElsV.sub (h:ElsV E sz w C L) (hs: ∀ g,C g→D g):ElsV E sz w D L:=⟨fun i hi=>by obtain⟨a,b,c,d⟩:=h.el i hi;exact⟨a,b,c,fun g h1 h2=>hs g (d g h1 h2)⟩,h.dis⟩
theorem ElsV.nil:ElsV E sz w C []:=⟨fun i hi=>(by cases hi),List.Pairwise.nil⟩
theorem ElsV.lens (h:ElsV E sz w C L): ∀ u∈L.map Itm.u,u.length=sz:=fun u hu=>by obtain⟨i,hi,rfl⟩:=List.mem_map.1 hu;exact(h.el i hi).1
theorem Itm.disj {a b:Itm α} (ha:a.l≤a.h) (hb:b.l≤b.h) (hC: ∀ g,a.l≤g→g<a.h→C g) (hD: ∀ g,b.l≤g→g<b.h→D g) (hd: ∀ g,C g→ ¬ D g):Itm.dis a b:=by
 unfold Itm.dis
 by_cases h:a.h≤a.l∨b.h≤b.l∨a.h≤b.l∨b.h≤a.l
 · exact h
 · exact absurd (hD (max a.l b.l) (by omega) (by omega)) (hd _ (hC (max a.l b.l) (by omega) (by omega)))
theorem ElsV.append (h:ElsV E sz w C L) (k:ElsV E sz w D M) (hd: ∀ g,C g→ ¬ D g):ElsV E sz w (fun g=>C g∨D g) (L++M):=by
 refine⟨fun i hi=>?_,List.pairwise_append.2 ⟨h.dis,k.dis,fun a ha b hb=>?_⟩⟩
 · rcases List.mem_append.1 hi with hi|hi
   · obtain⟨a,b,c,d⟩:=h.el i hi;exact⟨a,b,c,fun g h1 h2=> .inl (d g h1 h2)⟩
   · obtain⟨a,b,c,d⟩:=k.el i hi;exact⟨a,b,c,fun g h1 h2=> .inr (d g h1 h2)⟩
 · exact Itm.disj (h.el a ha).2.2.1 (k.el b hb).2.2.1 (h.el a ha).2.2.2 (k.el b hb).2.2.2 hd
theorem ElsV.one {i:Itm α} (hu:i.u.length=sz) (he:E w i.l i.h i.u i.x) (hl:i.l≤i.h):ElsV E sz w (fun g=>i.l≤g∧g<i.h) [i]:=
 ⟨fun j hj=>by rw[List.mem_singleton]at hj;subst hj;exact⟨hu,he,hl,fun g h1 h2=>⟨h1,h2⟩⟩,by simp⟩
theorem ElsV.sublist (h:ElsV E sz w C L) (s:M.Sublist L):ElsV E sz w C M:=⟨fun i hi=>h.el i (s.subset hi),h.dis.sublist s⟩
/-- One element of a list: the others, and that the blocks of the others are other ones. -/
theorem ElsV.mid {A B:List (Itm α)} {i:Itm α} (h:ElsV E sz w C (A++i::B)):i.u.length=sz∧E w i.l i.h i.u i.x∧i.l≤i.h∧(∀ g,i.l≤g→g<i.h→C g)∧(∀ j∈A++B,Itm.dis j i):=by
 obtain⟨a,b,c,d⟩:=h.el i (by simp)
 refine⟨a,b,c,d,fun j hj=>?_⟩
 have hp:=h.dis
 rw[List.pairwise_append,List.pairwise_cons]at hp
 rcases List.mem_append.1 hj with hj|hj
 · exact hp.2.2 j hj i (by simp)
 · have:=hp.2.1.1 j hj
   unfold Itm.dis at this ⊢
   omega
/-- One element is another one, of the same blocks. -/
theorem ElsV.put {A B:List (Itm α)} {i:Itm α} (h:ElsV E sz w C (A++i::B)) {u':List Value} {x':α} (hu:u'.length=sz) (he:E w i.l i.h u' x'):ElsV E sz w C (A++⟨u',i.l,i.h,x'⟩::B):=by
 obtain⟨a,b,c,d,e⟩:=h.mid
 refine⟨fun j hj=>?_,?_⟩
 · rcases List.mem_append.1 hj with hj|hj
   · exact h.el j (by simp[hj])
   · rcases List.mem_cons.1 hj with hj|hj
     · subst hj;exact⟨hu,he,c,d⟩
     · exact h.el j (by simp[hj])
 · have hp:=h.dis
   rw[List.pairwise_append,List.pairwise_cons]at hp ⊢
   exact⟨hp.1,⟨hp.2.1.1,hp.2.1.2⟩,fun x hx y hy=>by
    rcases List.mem_cons.1 hy with hy|hy
    · subst hy;exact hp.2.2 x hx i (by simp)
    · exact hp.2.2 x hx y (by simp[hy])⟩
/-- The blocks of one element turn. -/
theorem ElsV.turn (hE:Keeps E) {A B:List (Itm α)} {i:Itm α} (h:ElsV E sz w C (A++i::B)) (t:Tch (fun g=>i.l≤g∧g<i.h) w w') {x':α} (he:E w' i.l i.h i.u x'):ElsV E sz w' C (A++⟨i.u,i.l,i.h,x'⟩::B):=by
 obtain⟨a,b,c,d,e⟩:=h.mid
 have hA: ∀ j∈A++B,j.u.length=sz∧E w' j.l j.h j.u j.x∧j.l≤j.h∧ ∀ g,j.l≤g→g<j.h→C g:=fun j hj=>by
  obtain⟨p,q,r,s⟩:=h.el j (by rcases List.mem_append.1 hj with hj|hj<;>simp[hj])
  exact⟨p,hE q t (fun g h1 h2 h3=>by have:=e j hj;unfold Itm.dis at this;omega),r,s⟩
 refine⟨fun j hj=>?_,?_⟩
 · rcases List.mem_append.1 hj with hj|hj
   · exact hA j (by simp[hj])
   · rcases List.mem_cons.1 hj with hj|hj
     · subst hj;exact⟨a,he,c,d⟩
     · exact hA j (by simp[hj])
 · have hp:=h.dis
   rw[List.pairwise_append,List.pairwise_cons]at hp ⊢
   exact⟨hp.1,⟨hp.2.1.1,hp.2.1.2⟩,fun x hx y hy=>by
    rcases List.mem_cons.1 hy with hy|hy
    · subst hy;exact hp.2.2 x hx i (by simp)
    · exact hp.2.2 x hx y (by simp[hy])⟩
/-- One element is replaced by one with blocks of its own. -/
theorem ElsV.swap {A B:List (Itm α)} {i j:Itm α} (h:ElsV E sz w C (A++i::B)) (hu:j.u.length=sz) (he:E w j.l j.h j.u j.x) (hl:j.l≤j.h) (hd: ∀ g,j.l≤g→g<j.h→ ¬ C g):ElsV E sz w (fun g=>C g∨(j.l≤g∧g<j.h)) (A++j::B):=by
 have hp:=h.dis
 rw[List.pairwise_append,List.pairwise_cons]at hp
 have hj: ∀ k∈A++B,Itm.dis k j:=fun k hk=>by
  obtain⟨p,q,r,s⟩:=h.el k (by rcases List.mem_append.1 hk with hk|hk<;>simp[hk])
  exact Itm.disj (C:=C) (D:=fun g=>j.l≤g∧g<j.h) r hl s (fun g h1 h2=>⟨h1,h2⟩) fun g h1 h2=>hd g h2.1 h2.2 h1
 refine⟨fun k hk=>?_,?_⟩
 · rcases List.mem_append.1 hk with hk|hk
   · obtain⟨p,q,r,s⟩:=h.el k (by simp[hk]);exact⟨p,q,r,fun g h1 h2=> .inl (s g h1 h2)⟩
   · rcases List.mem_cons.1 hk with hk|hk
     · subst hk;exact⟨hu,he,hl,fun g h1 h2=> .inr ⟨h1,h2⟩⟩
     · obtain⟨p,q,r,s⟩:=h.el k (by simp[hk]);exact⟨p,q,r,fun g h1 h2=> .inl (s g h1 h2)⟩
 · rw[List.pairwise_append,List.pairwise_cons]
   refine⟨hp.1,⟨fun k hk=>?_,hp.2.1.2⟩,fun x hx y hy=>?_⟩
   · have:=hj k (by simp[hk]);unfold Itm.dis at this ⊢;omega
   · rcases List.mem_cons.1 hy with hy|hy
     · subst hy;exact hj x (by simp[hx])
     · exact hp.2.2 x hx y (by simp[hy])
end
/-- A row of the call's own, all whose blocks and whose elements' blocks lie in B. -/
structure NestV (E:World→Nat→Nat→List Value→α→Prop) (T:TypeId) (sz:Nat) (w:World) (B:Nat→Prop) (v:Value) (L:List (Itm α)):Prop where
 own:w.ownsRow 0 T sz v L.length (L.map Itm.u).flatten
 blk: ∀ g,v.ownBlock=some g→B g
 els:ElsV E sz w (fun g=>B g∧v.ownBlock≠some g) L
def NestX (E:World→Nat→Nat→List Value→α→Prop) (T:TypeId) (sz:Nat) (w:World) (B:Nat→Prop) (v:Value) (xs:List α):Prop:= ∃ L:List (Itm α),L.map Itm.x=xs∧NestV E T sz w B v L
section
variable {E:World→Nat→Nat→List Value→α→Prop} {T:TypeId} {sz:Nat} {w w':World} {B D:Nat→Prop} {v:Value} {L:List (Itm α)} {xs ys:List α}
theorem NestV.tch (hE:Keeps E) (h:NestV E T sz w B v L) (t:Tch D w w') (hd: ∀ g,B g→ ¬ D g):NestV E T sz w' B v L:=
 ⟨t.owns h.own (fun g hg=>hd g (h.blk g hg)),h.blk,h.els.tch hE t fun g hg=>hd g hg.1⟩
theorem NestX.tch (hE:Keeps E) (h:NestX E T sz w B v xs) (t:Tch D w w') (hd: ∀ g,B g→ ¬ D g):NestX E T sz w' B v xs:=by obtain⟨L,h1,h2⟩:=h;exact⟨L,h1,h2.tch hE t hd⟩
theorem NestX.fr (hE:Keeps E) (h:NestX E T sz w B v xs) (hf:Fr w w'):NestX E T sz w' B v xs:=h.tch hE (Tch.of_fr (B:=fun _=>False) hf) fun _ _ k=>k
theorem NestV.sub (h:NestV E T sz w B v L) (hs: ∀ g,B g→D g):NestV E T sz w D v L:=⟨h.own,fun g hg=>hs g (h.blk g hg),h.els.sub fun g hg=>⟨hs g hg.1,hg.2⟩⟩
theorem NestX.sub (h:NestX E T sz w B v xs) (hs: ∀ g,B g→D g):NestX E T sz w D v xs:=by obtain⟨L,h1,h2⟩:=h;exact⟨L,h1,h2.sub hs⟩
theorem NestX.nil:NestX E T sz w B (.slice none 0 0) []:=⟨[],rfl,World.ownsRow_nil _ _ _ _,fun g hg=>by simp[Value.ownBlock]at hg,ElsV.nil⟩
theorem NestX.empty (h:w.ownsRow 0 T sz v 0 []) (hb: ∀ g,v.ownBlock=some g→B g):NestX E T sz w B v []:=⟨[],rfl,h,hb,ElsV.nil⟩
theorem NestX.val (h:NestX E T sz w B v xs): ∃ ao cap,v= .slice ao xs.length cap:=by
 obtain⟨L,rfl,h⟩:=h
 rw[List.length_map]
 exact owns_val h.own
theorem NestX.rd {E':World→List Value→α→Prop} (hE: ∀ {w l h u x},E w l h u x→E' w u x) (h:NestX E T sz w B v xs):NestR E' sz w v xs:=by
 obtain⟨L,rfl,h⟩:=h
 refine⟨L.map Itm.u,by simp,by rw[List.length_map];exact RdS.of_owns h.own,fun k u x hu hx=>?_⟩
 rw[List.getElem?_map]at hu hx
 cases hk:L[k]? with
 |none=>rw[hk]at hu;cases hu
 |some i=>
  rw[hk]at hu hx
  cases hu;cases hx
  obtain⟨a,b,_⟩:=h.els.el i (List.mem_of_getElem? hk)
  exact⟨a,hE b⟩
/-- Rows of ascending blocks are such rows. -/
theorem NestX.of_nest {lo hi:Nat} (h:NestW E T sz w lo hi v xs):NestX E T sz w (fun g=>lo≤g∧g<hi) v xs:=by
 obtain⟨us,los,his,h1,h2,h3,h4⟩:=h
 rw[List.append_nil]at h2
 have hgu: ∀ k,k<us.length→us[k]? =some (us.getD k []):=fun k hk=>by simp[List.getD,hk]
 have hgx: ∀ k (hk:k<xs.length),xs[k]? =some (xs[k]):=fun k hk=>List.getElem?_eq_getElem hk
 refine⟨(List.range us.length).attach.map fun k=>⟨us.getD k.1 [],los k.1,his k.1,xs[k.1]'(by have:=List.mem_range.1 k.2;omega)⟩,?_,?_,?_,?_,?_⟩
 · apply List.ext_getElem
   · simp[h1]
   · intro k hk1 hk2;simp
 · rw[List.map_map]
   have e:(List.map (Itm.u∘fun k: {x // x∈List.range us.length}=>(⟨us.getD k.1 [],los k.1,his k.1,xs[k.1]'(by have:=List.mem_range.1 k.2;omega)⟩:Itm α)) (List.range us.length).attach)=us:=by
    apply List.ext_getElem
    · simp
    · intro k hk1 hk2
      simp[List.getD,List.getElem?_eq_getElem hk2]
   rw[e]
   have:=owns_lo h2.1 (Nat.zero_le lo)
   simpa [h1]using this
 · exact fun g hg=>h2.2 g hg
 · intro i hi
   obtain⟨⟨k,hk⟩,_,rfl⟩:=List.mem_map.1 hi
   have hk':=List.mem_range.1 hk
   obtain⟨a1,a2,a3,a4,a5,a6⟩:=h3 k _ _ (hgu k hk') (hgx k (by omega))
   exact⟨a1,a2,a4,fun g g1 g2=>⟨⟨by have:los k≤g:=g1;omega,by have:g<his k:=g2;omega⟩,fun e=>by have:=a6 g e;have:los k≤g:=g1;have:g<his k:=g2;omega⟩⟩
 · rw[List.pairwise_iff_getElem]
   intro i j hi hj hij
   simp only[List.length_map,List.length_attach,List.length_range]at hi hj
   have:=h4 i j hij (by omega)
   right;right;left
   simpa using this
/-- Behind an append of the cells of further elements. -/
theorem NestV.join (hE:Keeps E) {M:List (Itm α)} {v':Value} (h:NestV E T sz w B v L) (k:ElsV E sz w D M) (hd: ∀ g,B g→ ¬ D g) (hown:w'.ownsRow 0 T sz v' (L.length+M.length) ((L.map Itm.u).flatten++(M.map Itm.u).flatten)) (hg:w.grownBy w' v.ownBlock) (hat: ∀ g,v'.ownBlock=some g→v.ownBlock=some g∨(¬ B g∧ ¬ D g)):
  NestV E T sz w' (fun g=>B g∨D g∨v'.ownBlock=some g) v' (L++M):=by
 have t:Tch (fun g=>v.ownBlock=some g) w w':=Tch.of_gr hg fun i hi=>hi
 have h1:=h.els.tch hE t (fun g hb=>hb.2)
 have h2:=k.tch hE t (fun g hb e=>hd g (h.blk g e) hb)
 refine⟨by simpa using hown,fun g e=> .inr (.inr e),?_⟩
 refine(h1.append h2 (fun g p=>hd g p.1)).sub fun g p=>⟨?_,fun e=>?_⟩
 · rcases p with p|p
   · exact .inl p.1
   · exact .inr (.inl p)
 · rcases hat g e with q|q
   · rcases p with p|p
     · exact p.2 q
     · exact hd g (h.blk g q) p
   · rcases p with p|p
     · exact q.1 p.1
     · exact q.2 p
/-- One element of such a row: its cells, and what is left when they or its blocks turn. -/
theorem NestX.turn [Inhabited α] (hE:Keeps E) (h:NestX E T sz w B v xs) {k:Nat} (hk:k<xs.length) (hs:0<sz):
  ∃ g cap,v= .slice (some ⟨g,0,none⟩) xs.length cap∧B g∧g<w.heap.size∧ ∃ u l1 h1,u.length=sz∧E w l1 h1 u (nAt xs k)∧l1≤h1∧(∀ i,l1≤i→i<h1→B i)∧(g<l1∨h1≤g)∧
   (∀ j c,j<sz→u[j]? =some c→w.cell? ⟨g,k*sz+j,none⟩=some c∧w.frozen? ⟨g,k*sz+j,none⟩=false)∧
   (∀ j c x',j<sz→E w l1 h1 (u.set j c) x'→NestX E T sz (w.setCell ⟨g,k*sz+j,none⟩ c) B v (xs.set k x'))∧
   (∀ w' x',Span l1 h1 w w'→E w' l1 h1 u x'→NestX E T sz w' B v (xs.set k x')):=by
 obtain⟨L,rfl,h⟩:=h
 have hkL:k<L.length:=by simpa using hk
 obtain⟨A,i,C,rfl,hA⟩: ∃ A i C,L=A++i::C∧A.length=k:=⟨L.take k,L[k],L.drop (k+1),by rw[← List.drop_eq_getElem_cons hkL,List.take_append_drop],by simp;omega⟩
 obtain⟨c1,c2,c3,c4,c5⟩:=h.els.mid
 rcases owns_shape h.own with⟨_,hn,_⟩|⟨g,cap,rfl,hgr⟩
 · simp at hn
 have hbg:=h.blk g rfl
 have hapart:g<i.l∨i.h≤g:=by
  by_cases hc:i.l≤g∧g<i.h
  · exact absurd rfl (c4 g hc.1 hc.2).2
  · omega
 have hlen:=h.els.lens
 have hu:((A++i::C).map Itm.u)[k]? =some i.u:=by simp[hA]
 have hset: ∀ (j:Itm α),((A++i::C).map Itm.x).set k j.x=(A++j::C).map Itm.x:=fun j=>by
  rw[List.map_append,List.map_cons,List.set_append_right _ _ (by simp[hA]),List.map_append,List.map_cons]
  simp[hA]
 have hx:nAt ((A++i::C).map Itm.x) k=i.x:=by simp[nAt,List.getD,hA]
 rw[hx]
 refine⟨g,cap,by simp,hbg,(h.own.lt g rfl).2,i.u,i.l,i.h,c1,c2,c3,fun q q1 q2=>(c4 q q1 q2).1,hapart,fun j c hj hc=>⟨?_,h.own.frozenAt _⟩,fun j c x' hj he=>?_,fun w' x' sp he=>?_⟩
 · have hlt:k*sz+j<(A++i::C).length*sz:=by
    have:=Nat.mul_le_mul_right sz (show k+1≤(A++i::C).length by simp[← hA])
    rw[Nat.add_mul]at this
    omega
   rw[h.own.cellAt (k*sz+j) hlt,flatten_at hlen k _ hu j hj]
   exact hc
 · have hst:=h.own.stored (k*sz+j) c
   rw[flatten_set hlen k j _ c hu hj]at hst
   have t:Tch (fun q=>q=g) w (w.setCell ⟨g,k*sz+j,none⟩ c):=Tch.set (B:=fun q=>q=g) (p:=⟨g,k*sz+j,none⟩) (Tch.refl _ w) (.inl rfl) c
   have e1:=h.els.tch hE t (fun q hq e=>hq.2 (by rw[e];rfl))
   have e2:=e1.put (u':=i.u.set j c) (x':=x') (by simpa using c1) (hE he t (fun q q1 q2 e=>by omega))
   rw[hset ⟨i.u.set j c,i.l,i.h,x'⟩]
   refine⟨_,rfl,?_,h.blk,e2⟩
   have e3:((A++i::C).map Itm.u).set k (i.u.set j c)=(A++(⟨i.u.set j c,i.l,i.h,x'⟩:Itm α)::C).map Itm.u:=by
    rw[List.map_append,List.map_cons,List.set_append_right _ _ (by simp[hA]),List.map_append,List.map_cons]
    simp[hA]
   have:=hst.1
   rw[e3]at this
   simpa using this
 · have t:Tch (fun q=>i.l≤q∧q<i.h) w w':=⟨sp.os,sp.tape,sp.output,sp.size,fun q hq hn=>sp.block q hq (by rcases Nat.lt_or_ge q i.l with h1|h1;exact .inl h1;rcases Nat.lt_or_ge q i.h with h2|h2;exact absurd ⟨h1,h2⟩ hn;exact .inr h2)⟩
   have e2:=h.els.turn hE t he
   rw[hset ⟨i.u,i.l,i.h,x'⟩]
   refine⟨_,rfl,?_,h.blk,e2⟩
   have:=t.owns h.own (fun q hq e=>by cases hq;have h3:i.l≤g∧g<i.h:=e;omega)
   simpa using this
end
end
theorem OwW.tch {w w':World} {lo hi:Nat} {e:TypeId} {sz:Nat} {v:Value} {n:Nat} {xs:List Value} {C:Nat→Prop} (h:OwW w lo hi e sz v n xs) (t:Tch C w w') (hb: ∀ g,lo≤g→g<hi→ ¬ C g):OwW w' lo hi e sz v n xs:=⟨t.owns h.1 (fun g hg=>by have:=h.2 g hg;exact hb g this.1 this.2),h.2⟩
theorem WalkssEW.keeps:Keeps WalkssEW:=fun _ _ _ _ _ _ _ h t hb=>by obtain⟨x,y,h1,h2⟩:=h;exact⟨x,y,h1,OwW.tch h2 t hb⟩
theorem ParcelEW.keeps:Keeps ParcelEW:=fun _ _ _ _ _ _ _ h t hb=>by obtain⟨x,y,h1,h2⟩:=h;exact⟨x,y,h1,OwW.tch h2 t hb⟩
def WalkSSX (w:World) (B:Nat→Prop) (v:Value) (xs:List (List WalkR)):Prop:=NestX WalkssEW 43 1 w B v xs
def ParcelSX (w:World) (B:Nat→Prop) (v:Value) (xs:List ParcelD):Prop:=NestX ParcelEW 60 2 w B v xs
theorem WalkSSX.tch {w w':World} {B D:Nat→Prop} {v:Value} {xs:List (List WalkR)} (h:WalkSSX w B v xs) (t:Tch D w w') (hd: ∀ g,B g→ ¬ D g):WalkSSX w' B v xs:=NestX.tch WalkssEW.keeps h t hd
theorem ParcelSX.tch {w w':World} {B D:Nat→Prop} {v:Value} {xs:List ParcelD} (h:ParcelSX w B v xs) (t:Tch D w w') (hd: ∀ g,B g→ ¬ D g):ParcelSX w' B v xs:=NestX.tch ParcelEW.keeps h t hd
theorem WalkSSX.fr {w w':World} {B:Nat→Prop} {v:Value} {xs:List (List WalkR)} (h:WalkSSX w B v xs) (hf:Fr w w'):WalkSSX w' B v xs:=NestX.fr WalkssEW.keeps h hf
theorem ParcelSX.fr {w w':World} {B:Nat→Prop} {v:Value} {xs:List ParcelD} (h:ParcelSX w B v xs) (hf:Fr w w'):ParcelSX w' B v xs:=NestX.fr ParcelEW.keeps h hf
theorem WalkSSX.rd {w:World} {B:Nat→Prop} {v:Value} {xs:List (List WalkR)} (h:WalkSSX w B v xs):WalkSSR w v xs:=NestX.rd (E':=WalkssE) (fun a=>WalkssEW.rd a) h
theorem ParcelSX.rd {w:World} {B:Nat→Prop} {v:Value} {xs:List ParcelD} (h:ParcelSX w B v xs):ParcelSR w v xs:=NestX.rd (E':=ParcelE) (fun a=>ParcelEW.rd a) h
theorem WalkSSX.val {w:World} {B:Nat→Prop} {v:Value} {xs:List (List WalkR)} (h:WalkSSX w B v xs): ∃ ao cap,v= .slice ao xs.length cap:=NestX.val h
theorem ParcelSX.val {w:World} {B:Nat→Prop} {v:Value} {xs:List ParcelD} (h:ParcelSX w B v xs): ∃ ao cap,v= .slice ao xs.length cap:=NestX.val h
theorem Tch.of_span {lo hi:Nat} {w w':World} {B:Nat→Prop} (h:Span lo hi w w') (hs: ∀ g,lo≤g→g<hi→B g):Tch B w w':=⟨h.os,h.tape,h.output,h.size,fun i hi' hn=>h.block i hi' (by
 rcases Nat.lt_or_ge i lo with h1|h1
 · exact .inl h1
 · rcases Nat.lt_or_ge i hi with h2|h2
   · exact absurd (hs i h1 h2) hn
   · exact .inr h2)⟩
def mkWalkSSs:Int→List (List WalkR)→List (List WalkR)
 |_,[]=>[]
 |k,d::ds=>mkWalks k d.length::mkWalkSSs (k+4*(d.length:Int)) ds
theorem mkWalkSSs_length: ∀ (k:Int) (ds:List (List WalkR)),(mkWalkSSs k ds).length=ds.length
 |_,[]=>rfl
 |k,d::ds=>by rw[mkWalkSSs,List.length_cons,List.length_cons,mkWalkSSs_length]
def WalkSSCnt (ds:List (List WalkR)):Nat:=(ds.map fun d=>4*d.length).sum
theorem WalkSSCnt_cons (d:List WalkR) (ds:List (List WalkR)):WalkSSCnt (d::ds)=4*d.length+WalkSSCnt ds:=by simp[WalkSSCnt]
theorem Walkss_drop {xs:List (List WalkR)} {k:Nat} (h:k<xs.length):xs.drop k=nAt xs k::xs.drop (k+1):=by
 rw[List.drop_eq_getElem_cons h]
 simp[nAt,List.getD,List.getElem?_eq_getElem h]
set_option maxHeartbeats 2000000 in
set_option maxRecDepth 100000 in
theorem markWalkSS_x (v:Value) (xs:List (List WalkR)) (k:Int) (B:Nat→Prop) (w:World) (ha:WalkSSX w B v xs) (h0:0<k) (h1:k+(WalkSSCnt xs:Int)≤4611686018427387904):
  Calls Tryz.prog 127 #[v,.int .i64 k] w fun e w'=>e= .returned (.int .i64 (k+(WalkSSCnt xs:Int)))∧WalkSSX w' B v (mkWalkSSs k xs)∧Tch B w w':=by
 obtain⟨ao,cap,rfl⟩:=ha.val
 have hxl:xs.length≤9223372036854775807:=(WalkSSX.rd ha).le
 have HA:=Lib.hid ha
 clear ha
 go_enter Tryz.func127,Tryz.ntmps127
 go_wp2
 go_loopw [1,5] (fun l i wr=> ∃ (m:Nat) (Dn:List (List WalkR)) (kk:Int),m≤xs.length∧i= .int .i64 m∧l= .int .i64 kk∧Dn.length=m∧Hid (Dn++mkWalkSSs kk (xs.drop m)=mkWalkSSs k xs)∧kk+(WalkSSCnt (xs.drop m):Int)=k+(WalkSSCnt xs:Int)∧0<kk∧Hid (WalkSSX wr B (.slice ao xs.length cap) (Dn++xs.drop m))∧Tch B w wr) (fun _ i _=>xs.length-(intOf i).toNat)
 case atStart=>exact⟨0,[],k,Nat.zero_le _,rfl,rfl,rfl,Lib.hid rfl,rfl,h0,Lib.hid HA.out,Tch.refl _ _⟩
 case round=>
  clear HA
  obtain⟨m,Dn,kk,hm,rfl,rfl,hdl,hd,hcn,hk0,HW,hsp⟩:=hrel
  by_cases hlt:m<xs.length
  · rw[Walkss_drop hlt]at hd hcn HW
    rw[mkWalkSSs]at hd
    rw[WalkSSCnt_cons]at hcn
    have hdr:(xs.drop (m+1)).length=xs.length-(m+1):=List.length_drop
    generalize nAt xs m=x at hd hcn HW
    have HW0:WalkSSX wr B (.slice ao xs.length cap) (Dn++x::xs.drop (m+1)):=HW.out
    obtain⟨g0,cp0,hv0,ga0,gc0,u0,l0,h0,ul0,ue0,ub0,uc0,ud0,uf0,ug0,uh0⟩:=NestX.turn WalkssEW.keeps HW0 (k:=m) (by simp;omega) (by omega)
    rw[show(Dn++x::xs.drop (m+1)).length=xs.length by simp;omega]at hv0
    cases hv0
    rw[mid_at _ _ m _ (by omega)]at ue0
    obtain⟨aow0,capw0,rfl,hr0⟩:=ue0
    have c1:wr.cell? ⟨g0,m,none⟩=some (.slice aow0 x.length capw0):=by have:=(uf0 0 _ (by omega) rfl).1;simpa using this
    have HU1:=Lib.hid uh0
    have HR1:=Lib.hid hr0
    have HC1:=Lib.hid uc0
    clear uf0 ug0 uh0 hr0 uc0
    go_wp2_with(go_at_call 178;refine(markWalkS_w _ x kk l0 h0 _ HR1.out (by omega) (by omega)).mono ?_;rintro e w1 ⟨rfl,om,spw⟩;have zw:=spw.size)
    have n1:=HU1.out w1 (mkWalks kk x.length) spw ⟨aow0,capw0,by simp[mkWalks_length],by simpa [mkWalks_length]using om⟩
    rw[set_mid'' _ _ m _ _ (by omega)]at n1
    have sp1:Tch B w w1:=hsp.trans (Tch.of_span spw HC1.out)
    have NQ1:=Lib.hid n1
    clear n1
    go_wp2_with fail
    go_roundw
    case rel=>exact⟨m+1,Dn++[mkWalks kk x.length],kk+4*(x.length:Int),by omega,by go_num,by go_num,by simp[hdl],by have:=hd.out;rw[List.append_assoc];exact this,by omega,by omega,by have:=NQ1.out;rw[List.append_assoc];exact this,sp1⟩
    case measure=>(simp[intOf];omega)
  · obtain rfl:m=xs.length:=by omega
    rw[List.drop_length]at hd hcn HW
    simp only[mkWalkSSs,List.append_nil,WalkSSCnt,List.map_nil,List.sum_nil]at hd hcn HW
    go_wp2
    go_ret
    exact⟨ret_int (by unfold WalkSSCnt;omega),by have h:=HW.out;rw[hd.out]at h;exact h,hsp⟩
set_option maxHeartbeats 2000000 in
set_option maxRecDepth 100000 in
theorem heldWalkSS_w (v:Value) (xs:List (List WalkR)) (k:Int) (w:World) (ha:WalkSSR w v (mkWalkSSs k xs)) (h0:0<k) (h1:k+(WalkSSCnt xs:Int)≤4611686018427387904):
  Calls Tryz.prog 129 #[v,.int .i64 k] w fun e w'=>e= .returned (.int .i64 (k+(WalkSSCnt xs:Int)))∧Fr w w':=by
 obtain⟨ao,ba,oa,ca,rfl,hca,hma,fa⟩:=ha.one
 clear ha
 rw[mkWalkSSs_length]at hca fa ⊢
 have FA:=Lib.hid fa
 clear fa
 go_enter Tryz.func129,Tryz.ntmps129
 go_wp2
 go_loopw [1,5] (fun l i wr=> ∃ (m:Nat) (kk:Int),m≤xs.length∧i= .int .i64 m∧l= .int .i64 kk∧Hid ((mkWalkSSs k xs).drop m=mkWalkSSs kk (xs.drop m))∧kk+(WalkSSCnt (xs.drop m):Int)=k+(WalkSSCnt xs:Int)∧0<kk∧Fr w wr) (fun _ i _=>xs.length-(intOf i).toNat)
 case atStart=>exact⟨0,k,Nat.zero_le _,rfl,rfl,Lib.hid rfl,rfl,h0,Fr.refl _⟩
 case round=>
  obtain⟨m,kk,hm,rfl,rfl,hd,hcn,hk0,hfr⟩:=hrel
  by_cases hlt:m<xs.length
  · obtain⟨rfl,hba,fa⟩:=FA.out (by omega)
    obtain⟨a,ra,c0⟩:=fa m hlt
    have hml:m<(mkWalkSSs k xs).length:=by rw[mkWalkSSs_length];exact hlt
    have hd2:=hd.out
    rw[Walkss_drop hml,Walkss_drop hlt,mkWalkSSs]at hd2
    injection hd2 with hd3 hd4
    simp only[hd3]at ra c0
    rw[Walkss_drop hlt,WalkSSCnt_cons]at hcn
    clear fa hd hd3
    have hd:=Lib.hid hd4
    clear hd4
    generalize nAt xs m=x at ra hd hcn
    have HR:=Lib.hid (RdS.fr ra hfr)
    obtain⟨aor,capr,rfl,_⟩:=RdS.val ra
    clear ra
    have d0:=(hfr.cell (p:=⟨ba,_,none⟩) hba).trans c0
    clear c0
    go_wp2_with(go_at_call 179;refine(heldWalkS_w _ kk x.length _ (RdS.fr HR.out (by exact Qf)) (by omega) (by omega)).mono ?_;rintro e w1 ⟨rfl,hf1⟩)
    go_roundw
    case rel=>exact⟨m+1,kk+4*(x.length:Int),by omega,by go_num,by go_num,hd,by omega,by omega,by exact Qf⟩
    case measure=>(simp[intOf];omega)
  · obtain rfl:m=xs.length:=by omega
    rw[List.drop_length]at hcn
    simp only[WalkSSCnt,List.map_nil,List.sum_nil]at hcn
    go_wp2
    go_ret
    exact⟨ret_int (by unfold WalkSSCnt;omega),hfr⟩
set_option maxHeartbeats 2000000 in
set_option maxRecDepth 100000 in
theorem markParcelS_x (v:Value) (xs:List ParcelD) (k:Int) (B:Nat→Prop) (w:World) (ha:ParcelSX w B v xs) (h0:0<k) (h1:k+(ParcelSCnt xs:Int)≤4611686018427387904):
  Calls Tryz.prog 128 #[v,.int .i64 k] w fun e w'=>e= .returned (.int .i64 (k+(ParcelSCnt xs:Int)))∧ParcelSX w' B v (mkParcelSs k xs)∧Tch B w w':=by
 obtain⟨ao,cap,rfl⟩:=ha.val
 have hxl:xs.length≤4611686018427387904:=by have:=ParcelSCnt_ge xs;omega
 have HA:=Lib.hid ha
 clear ha
 go_enter Tryz.func128,Tryz.ntmps128
 go_wp2
 go_loopw [1,5] (fun l i wr=> ∃ (m:Nat) (Dn:List ParcelD) (kk:Int),m≤xs.length∧i= .int .i64 m∧l= .int .i64 kk∧Dn.length=m∧Hid (Dn++mkParcelSs kk (xs.drop m)=mkParcelSs k xs)∧kk+(ParcelSCnt (xs.drop m):Int)=k+(ParcelSCnt xs:Int)∧0<kk∧Hid (ParcelSX wr B (.slice ao xs.length cap) (Dn++xs.drop m))∧Tch B w wr) (fun _ i _=>xs.length-(intOf i).toNat)
 case atStart=>exact⟨0,[],k,Nat.zero_le _,rfl,rfl,rfl,Lib.hid rfl,rfl,h0,Lib.hid HA.out,Tch.refl _ _⟩
 case round=>
  clear HA
  obtain⟨m,Dn,kk,hm,rfl,rfl,hdl,hd,hcn,hk0,HW,hsp⟩:=hrel
  by_cases hlt:m<xs.length
  · rw[Parcel_drop hlt]at hd hcn HW
    rw[mkParcelSs]at hd
    rw[ParcelSCnt_cons]at hcn
    have hdr:(xs.drop (m+1)).length=xs.length-(m+1):=List.length_drop
    generalize nAt xs m=x at hd hcn HW
    have hc1:ParcelCnt1 x=1+4*x.f1.length:=rfl
    rw[hc1]at hcn
    have HW0:ParcelSX wr B (.slice ao xs.length cap) (Dn++x::xs.drop (m+1)):=HW.out
    obtain⟨g0,cp0,hv0,ga0,gc0,u0,l0,h0,ul0,ue0,ub0,uc0,ud0,uf0,ug0,uh0⟩:=NestX.turn ParcelEW.keeps HW0 (k:=m) (by simp;omega) (by omega)
    rw[show(Dn++x::xs.drop (m+1)).length=xs.length by simp;omega]at hv0
    cases hv0
    have HG:=Lib.hid ga0
    rw[mid_at _ _ m _ (by omega)]at ue0
    obtain⟨aow0,capw0,rfl,hr0⟩:=ue0
    have c0:wr.cell? ⟨g0,m*2,none⟩=some (.int .i64 x.f0):=(uf0 0 _ (by omega) rfl).1
    have f0:wr.frozen? ⟨g0,m*2,none⟩=false:=(uf0 0 _ (by omega) rfl).2
    have n0:ParcelSX (wr.setCell ⟨g0,m*2,none⟩ (.int .i64 (kk))) B (.slice (some ⟨g0,0,none⟩) xs.length cap) ((Dn++⟨x.f0,x.f1⟩::xs.drop (m+1)).set m ⟨(kk),x.f1⟩):=ug0 0 (.int .i64 (kk)) ⟨(kk),x.f1⟩ (by omega) ⟨aow0,capw0,rfl,hr0⟩
    rw[set_mid'' _ _ m _ _ (by omega)]at n0
    have sp0:Tch B w (wr.setCell ⟨g0,m*2,none⟩ (.int .i64 (kk))):=hsp.set (p:=⟨g0,m*2,none⟩) (.inl HG.out) _
    have NQ0:=Lib.hid n0
    clear n0 uf0 ug0 uh0 hr0
    obtain⟨g1,cp1,hv1,ga1,gc1,u1,l1,h1,ul1,ue1,ub1,uc1,ud1,uf1,ug1,uh1⟩:=NestX.turn ParcelEW.keeps NQ0.out (k:=m) (by simp;omega) (by omega)
    rw[show(Dn++⟨(kk),x.f1⟩::xs.drop (m+1)).length=xs.length by simp;omega]at hv1
    cases hv1
    rw[mid_at _ _ m _ (by omega)]at ue1
    obtain⟨aow1,capw1,rfl,hr1⟩:=ue1
    have c1:(wr.setCell ⟨g0,m*2,none⟩ (.int .i64 (kk))).cell? ⟨g0,m*2+1,none⟩=some (.slice aow1 x.f1.length capw1):=(uf1 1 _ (by omega) rfl).1
    have HU1:=Lib.hid uh1
    have HR1:=Lib.hid hr1
    have HC1:=Lib.hid uc1
    clear uf1 ug1 uh1 hr1 uc1 uc0
    go_wp2_with(go_at_call 178;refine(markWalkS_w _ x.f1 (kk+1) l1 h1 _ HR1.out (by omega) (by omega)).mono ?_;rintro e w1 ⟨rfl,om,spw⟩;have zw:=spw.size;(try simp only[World.size_setCell]at zw))
    have n1:=HU1.out w1 ⟨(kk),mkWalks (kk+1) x.f1.length⟩ spw ⟨aow1,capw1,by simp[mkWalks_length],by simpa [mkWalks_length]using om⟩
    rw[set_mid'' _ _ m _ _ (by omega)]at n1
    have sp1:Tch B w w1:=sp0.trans (Tch.of_span spw HC1.out)
    have NQ1:=Lib.hid n1
    clear n1
    go_wp2_with fail
    go_roundw
    case rel=>exact⟨m+1,Dn++[⟨(kk),mkWalks (kk+1) x.f1.length⟩],kk+(ParcelCnt1 x:Int),by omega,by go_num,by rw[hc1];go_num,by simp[hdl],by have:=hd.out;rw[List.append_assoc];exact this,by rw[hc1];omega,by rw[hc1];omega,by have:=NQ1.out;rw[List.append_assoc];exact this,sp1⟩
    case measure=>(simp[intOf];omega)
  · obtain rfl:m=xs.length:=by omega
    rw[List.drop_length]at hd hcn HW
    simp only[mkParcelSs,List.append_nil,ParcelSCnt,List.map_nil,List.sum_nil]at hd hcn HW
    go_wp2
    go_ret
    exact⟨ret_int (by unfold ParcelSCnt;omega),by have h:=HW.out;rw[hd.out]at h;exact h,hsp⟩
structure RoamD where
 f0:List (List WalkR)
 f1:List ParcelD
def RoamRd (w:World) (v:Value) (d:RoamD):Prop:= ∃ u1 u2,v= .agg #[u1,u2]∧WalkSSR w u1 d.f0∧ParcelSR w u2 d.f1
theorem RoamRd.fr {w w':World} {v:Value} {d:RoamD} (h:RoamRd w v d) (hf:Fr w w'):RoamRd w' v d:=by obtain⟨u1,u2,hv,r1,r2⟩:=h;exact⟨u1,u2,hv,r1.fr hf,r2.fr hf⟩
def RoamD.bulk (d:RoamD):Nat:=WalkSSBulk d.f0+ParcelSBulk d.f1
def RoamD.okSize (d:RoamD):Prop:=WalkSSOk d.f0∧ParcelSOk d.f1
def RoamX (w:World) (lo hi:Nat) (u1 u2:Value) (d:RoamD):Prop:= ∃ B1 B2:Nat→Prop,WalkSSX w B1 u1 d.f0∧ParcelSX w B2 u2 d.f1∧(∀ g,B1 g→ ¬ B2 g)∧ ∀ g,B1 g∨B2 g→lo≤g∧g<hi
def RoamW (w:World) (lo hi:Nat) (v:Value) (d:RoamD):Prop:= ∃ a1 c1 a2 c2,v= .agg #[.slice a1 d.f0.length c1,.slice a2 d.f1.length c2]∧RoamX w lo hi (.slice a1 d.f0.length c1) (.slice a2 d.f1.length c2) d
theorem RoamX.tch {w w':World} {lo hi:Nat} {u1 u2:Value} {d:RoamD} {D:Nat→Prop} (h:RoamX w lo hi u1 u2 d) (t:Tch D w w') (hd: ∀ g,lo≤g→g<hi→ ¬ D g):RoamX w' lo hi u1 u2 d:=by
 obtain⟨B1,B2,h1,h2,h3,h4⟩:=h
 exact⟨B1,B2,h1.tch t fun g hg=>hd g (h4 g (.inl hg)).1 (h4 g (.inl hg)).2,h2.tch t fun g hg=>hd g (h4 g (.inr hg)).1 (h4 g (.inr hg)).2,h3,h4⟩
theorem RoamX.fr {w w':World} {lo hi:Nat} {u1 u2:Value} {d:RoamD} (h:RoamX w lo hi u1 u2 d) (hf:Fr w w'):RoamX w' lo hi u1 u2 d:=h.tch (Tch.of_fr (B:=fun _=>False) hf) fun _ _ _ k=>k
theorem RoamX.span {w w':World} {lo hi:Nat} {u1 u2:Value} {d:RoamD} (h:RoamX w lo hi u1 u2 d) {a b:Nat} (s:Span a b w w') (hd:hi≤a∨b≤lo):RoamX w' lo hi u1 u2 d:=h.tch (Tch.of_span (B:=fun g=>a≤g∧g<b) s fun g h1 h2=>⟨h1,h2⟩) fun g h1 h2 h3=>by omega
theorem RoamX.mono {w:World} {lo hi lo' hi':Nat} {u1 u2:Value} {d:RoamD} (h:RoamX w lo hi u1 u2 d) (h0:lo'≤lo) (h0':hi≤hi'):RoamX w lo' hi' u1 u2 d:=by
 obtain⟨B1,B2,h1,h2,h3,h4⟩:=h
 exact⟨B1,B2,h1,h2,h3,fun g hg=>by have:=h4 g hg;omega⟩
theorem RoamX.val {w:World} {lo hi:Nat} {u1 u2:Value} {d:RoamD} (h:RoamX w lo hi u1 u2 d): ∃ a1 c1 a2 c2,u1= .slice a1 d.f0.length c1∧u2= .slice a2 d.f1.length c2:=by
 obtain⟨B1,B2,h1,h2,h3,h4⟩:=h
 obtain⟨a1,c1,e1⟩:=h1.val
 obtain⟨a2,c2,e2⟩:=h2.val
 exact⟨a1,c1,a2,c2,e1,e2⟩
theorem RoamX.rds {w:World} {lo hi:Nat} {u1 u2:Value} {d:RoamD} (h:RoamX w lo hi u1 u2 d):WalkSSR w u1 d.f0∧ParcelSR w u2 d.f1:=by obtain⟨B1,B2,h1,h2,h3,h4⟩:=h;exact⟨h1.rd,h2.rd⟩
theorem RoamW.fr {w w':World} {lo hi:Nat} {v:Value} {d:RoamD} (h:RoamW w lo hi v d) (hf:Fr w w'):RoamW w' lo hi v d:=by obtain⟨a1,c1,a2,c2,h1,h2⟩:=h;exact⟨a1,c1,a2,c2,h1,h2.fr hf⟩
theorem RoamW.span {w w':World} {lo hi:Nat} {v:Value} {d:RoamD} (h:RoamW w lo hi v d) {a b:Nat} (s:Span a b w w') (hd:hi≤a∨b≤lo):RoamW w' lo hi v d:=by obtain⟨a1,c1,a2,c2,h1,h2⟩:=h;exact⟨a1,c1,a2,c2,h1,h2.span s hd⟩
theorem RoamW.set {w:World} {lo hi:Nat} {v:Value} {d:RoamD} (h:RoamW w lo hi v d) {p:Addr} (hp:p.block<lo∨hi≤p.block) (u:Value):RoamW (w.setCell p u) lo hi v d:=by
 obtain⟨a1,c1,a2,c2,h1,h2⟩:=h
 exact⟨a1,c1,a2,c2,h1,h2.tch (Tch.set (B:=fun g=>g=p.block) (Tch.refl _ w) (.inl rfl) u) fun g q1 q2 e=>by omega⟩
theorem RoamW.alloc {w:World} {lo hi:Nat} {v:Value} {d:RoamD} (h:RoamW w lo hi v d) (o:Obj):RoamW (w.alloc o) lo hi v d:=h.fr ((Fr.refl _).alloc o)
theorem RoamW.drew {w:World} {lo hi:Nat} {v:Value} {d:RoamD} (h:RoamW w lo hi v d):RoamW w.drew lo hi v d:=h.fr (Fr.refl _).drew
theorem RoamW.drewN {w:World} {lo hi:Nat} {v:Value} {d:RoamD} (h:RoamW w lo hi v d) (m:Nat):RoamW (w.drewN m) lo hi v d:=h.fr ((Fr.refl _).drewN m)
theorem RoamW.rd {w:World} {lo hi:Nat} {v:Value} {d:RoamD} (h:RoamW w lo hi v d):RoamRd w v d:=by obtain⟨a1,c1,a2,c2,h1,h2⟩:=h;exact⟨_,_,h1,h2.rds.1,h2.rds.2⟩
def RoamD.cnt (d:RoamD):Nat:=WalkSSCnt d.f0+ParcelSCnt d.f1
set_option maxHeartbeats 2000000 in
set_option maxRecDepth 100000 in
theorem eqRoam_same (a b:Value) (d:RoamD) (w:World) (ha:RoamRd w a d) (hb:RoamRd w b d):
  Calls Tryz.prog 48 #[a,b] w fun e w'=>e= .returned (.bool true)∧Fr w w':=by
 obtain⟨u1,u2,rfl,r1,r2⟩:=ha
 obtain⟨x1,x2,rfl,s1,s2⟩:=hb
 have R1:=Lib.hid r1;have S1:=Lib.hid s1
 have R2:=Lib.hid r2;have S2:=Lib.hid s2
 clear r1 s1 r2 s2
 go_enter Tryz.func48,Tryz.ntmps48
 go_wp2_with(first|(go_at_call 117;refine(eqWalkSS_same _ _ d.f0 _ (R1.out.fr (by exact Qf)) (S1.out.fr (by exact Qf))).mono ?_;rintro e wq1 ⟨rfl,hf1⟩;have z1:=hf1.size;(try simp only[World.size_alloc,World.size_setCell,World.size_drew]at z1);have k0:=hf1.blk w.heap.size (by exact Qz);have k1:=hf1.blk (w.heap.size+1) (by exact Qz))|(go_at_call 118;refine(eqParcelS_same _ _ d.f1 _ (R2.out.fr (by exact Qf)) (S2.out.fr (by exact Qf))).mono ?_;rintro e wq2 ⟨rfl,hf2⟩;have z1:=hf2.size;(try simp only[World.size_alloc,World.size_setCell,World.size_drew]at z1);have k0:=hf2.blk w.heap.size (by exact Qz);have k1:=hf2.blk (w.heap.size+1) (by exact Qz)))
 go_ret
 exact⟨rfl,by exact Qf⟩
def RoamD.mkd (d:RoamD) (k:Int):RoamD:=⟨mkWalkSSs k d.f0,mkParcelSs (k+(WalkSSCnt d.f0:Int)) d.f1⟩
theorem mkWalkSSs_cnt: ∀ (ds:List (List WalkR)) (k:Int),WalkSSCnt (mkWalkSSs k ds)=WalkSSCnt ds
 |[],k=>rfl
 |d::ds,k=>by rw[mkWalkSSs,WalkSSCnt_cons,WalkSSCnt_cons,mkWalkSSs_cnt ds,mkWalks_length]
theorem mkParcelSs_cnt: ∀ (ds:List ParcelD) (k:Int),ParcelSCnt (mkParcelSs k ds)=ParcelSCnt ds
 |[],k=>rfl
 |d::ds,k=>by rw[mkParcelSs,ParcelSCnt_cons,ParcelSCnt_cons,mkParcelSs_cnt ds];simp[ParcelCnt1,mkParcel,mkWalks_length]
theorem RoamD.mkd_cnt (d:RoamD) (k:Int):(d.mkd k).cnt=d.cnt:=by unfold RoamD.cnt RoamD.mkd;rw[mkWalkSSs_cnt,mkParcelSs_cnt]
set_option maxHeartbeats 2000000 in
set_option maxRecDepth 100000 in
theorem markRoam_w (v:Value) (d:RoamD) (k:Int) (lo hi:Nat) (w:World) (ha:RoamW w lo hi v d) (hh:hi≤w.heap.size) (h0:0<k) (h1:k+d.cnt≤4611686018427387904):
  Calls Tryz.prog 55 #[v,.int .i64 k] w fun e w'=>e= .returned (.int .i64 (k+d.cnt))∧RoamW w' lo hi v (d.mkd k)∧Span lo hi w w':=by
 unfold RoamD.cnt at h1 ⊢
 obtain⟨a1,c1,a2,c2,rfl,B1,B2,o1,o2,hd,hr⟩:=ha
 have O1:=Lib.hid o1;clear o1
 have O2:=Lib.hid o2;clear o2
 have HD:=Lib.hid hd
 have HR:=Lib.hid hr
 have hbw: ¬ B1 w.heap.size∧ ¬ B2 w.heap.size:=⟨fun e=>by have:=hr _ (.inl e);omega,fun e=>by have:=hr _ (.inr e);omega⟩
 have HBW:=Lib.hid hbw
 clear hd hr hbw
 obtain⟨k1,hk1⟩: ∃ q:Int,k+(WalkSSCnt d.f0:Int)=q:=⟨_,rfl⟩
 have hp1:0<k1:=by omega
 have hb1:k1+(ParcelSCnt d.f1:Int)≤4611686018427387904:=by omega
 have HK1:=Lib.hid hk1;clear hk1
 go_enter Tryz.func55,Tryz.ntmps55
 go_wp2_with fail
 refine(markWalkSS_x _ d.f0 k B1 _ (O1.out.fr (by exact Qf)) (by omega) (by omega)).mono ?_
 rintro e w1 ⟨rfl,q1,sp1⟩
 rw[HK1.out]
 have zs1:=sp1.size;(try simp only[World.size_alloc]at zs1)
 have B1':=sp1.box (Box.new w _ _) HBW.out.1
 have F1:=B1'.facts
 have Q1_1:=Lib.hid q1;clear q1
 have p2:=ParcelSX.tch (O2.out.fr (show Fr w (w.alloc _) by exact Qf)) sp1 (fun g h2 h1=>HD.out g h1 h2);have P2_1:=Lib.hid p2;clear p2
 go_wp2_with fail
 refine(markParcelS_x _ d.f1 k1 B2 _ P2_1.out (by omega) (by omega)).mono ?_
 rintro e w2 ⟨rfl,q2,sp2⟩
 have zs2:=sp2.size;(try simp only[World.size_alloc]at zs2)
 have B2':=sp2.box B1' HBW.out.2
 have F2:=B2'.facts
 clear F1
 have Q2_2:=Lib.hid q2;clear q2
 have p1:=WalkSSX.tch Q1_1.out sp2 HD.out;have Q1_2:=Lib.hid p1;clear p1
 go_wp2_with fail
 go_ret
 have e1:(d.mkd k).f0.length=d.f0.length:=by simp[RoamD.mkd,mkWalkSSs_length]
 have e2:(d.mkd k).f1.length=d.f1.length:=by simp[RoamD.mkd,mkParcelSs_length]
 have tt:Tch (fun g=>lo≤g∧g<hi) w w2:=((Tch.of_fr (show Fr w (w.alloc _) by exact Qf)).trans (sp1.sub fun g _ p=>HR.out g (.inl p))).trans (sp2.sub fun g _ p=>HR.out g (.inr p))
 refine⟨ret_int (by have:=HK1.out;omega),⟨a1,c1,a2,c2,by rw[e1,e2],B1,B2,?_,?_,HD.out,HR.out⟩,⟨tt.os,tt.tape,tt.output,tt.size,fun g hg hn=>tt.block g hg (by omega)⟩⟩
 · have:=Q1_2.out;rw[e1];exact this
 · have:=Q2_2.out;rw[e2];unfold RoamD.mkd;rw[HK1.out];exact this
set_option maxHeartbeats 1000000 in
theorem heldRoam_w (v:Value) (d:RoamD) (k:Int) (w:World) (ha:RoamRd w v (d.mkd k)) (h0:0<k) (h1:k+d.cnt≤4611686018427387904):
  Calls Tryz.prog 56 #[v,.int .i64 k] w fun e w'=>e= .returned (.int .i64 (k+d.cnt))∧Fr w w':=by
 unfold RoamD.cnt at h1 ⊢
 obtain⟨u1,u2,rfl,r1,r2⟩:=ha
 have R1:=Lib.hid r1;clear r1
 have R2:=Lib.hid r2;clear r2
 obtain⟨k1,hk1⟩: ∃ q:Int,k+(WalkSSCnt d.f0:Int)=q:=⟨_,rfl⟩
 have hp1:0<k1:=by omega
 have hb1:k1+(ParcelSCnt d.f1:Int)≤4611686018427387904:=by omega
 have HK1:=Lib.hid hk1;clear hk1
 go_enter Tryz.func56,Tryz.ntmps56
 go_wp2_with fail
 refine(heldWalkSS_w _ d.f0 k _ (R1.out.fr (by exact Qf)) (by omega) (by omega)).mono ?_
 rintro e w1 ⟨rfl,hf1⟩
 rw[HK1.out]
 have z1:=hf1.size;(try simp only[World.size_alloc,World.size_setCell,World.size_drew]at z1);have k0:=hf1.blk w.heap.size (by exact Qz)
 go_wp2_with fail
 refine(heldParcelS_w _ d.f1 k1 _ (by have h:=R2.out;unfold RoamD.mkd at h;rw[HK1.out]at h;exact h.fr (by exact Qf)) (by omega) (by omega)).mono ?_
 rintro e w2 ⟨rfl,hf2⟩
 have z1:=hf2.size;(try simp only[World.size_alloc,World.size_setCell,World.size_drew]at z1);have k0:=hf2.blk w.heap.size (by exact Qz)
 go_wp2_with fail
 go_ret
 exact⟨ret_int (by have:=HK1.out;omega),by exact Qf⟩
theorem info_WalkS:(Tryz.prog.info? 43).map (fun i=>(i.zero,i.size,i.bytes))=some (some (.slice none 0 0),1,24):=by kernel_rfl
structure RoamV (w:World) (lo hi:Nat) (u1 u2:Value) (L1:List (Itm (List WalkR))) (L2:List (Itm ParcelD)):Prop where
 ex: ∃ B1 B2:Nat→Prop,NestV WalkssEW 43 1 w B1 u1 L1∧NestV ParcelEW 60 2 w B2 u2 L2∧(∀ g,B1 g→ ¬ B2 g)∧ ∀ g,B1 g∨B2 g→lo≤g∧g<hi
section
variable {w w' w5:World} {lo hi:Nat} {u1 u2 v':Value} {L1:List (Itm (List WalkR))} {L2 M:List (Itm ParcelD)}
theorem RoamV.x (h:RoamV w lo hi u1 u2 L1 L2) {d:RoamD} (h1:L1.map Itm.x=d.f0) (h2:L2.map Itm.x=d.f1):RoamX w lo hi u1 u2 d:=by
 obtain⟨B1,B2,a,b,c,e⟩:=h.ex
 exact⟨B1,B2,⟨L1,h1,a⟩,⟨L2,h2,b⟩,c,e⟩
theorem RoamV.of {d:RoamD} (h:RoamX w lo hi u1 u2 d): ∃ L1 L2,L1.map Itm.x=d.f0∧L2.map Itm.x=d.f1∧RoamV w lo hi u1 u2 L1 L2:=by
 obtain⟨B1,B2,⟨L1,h1,a⟩,⟨L2,h2,b⟩,c,e⟩:=h
 exact⟨L1,L2,h1,h2,⟨B1,B2,a,b,c,e⟩⟩
theorem RoamV.tch {D:Nat→Prop} (h:RoamV w lo hi u1 u2 L1 L2) (t:Tch D w w') (hd: ∀ g,lo≤g→g<hi→ ¬ D g):RoamV w' lo hi u1 u2 L1 L2:=by
 obtain⟨B1,B2,a,b,c,e⟩:=h.ex
 exact⟨B1,B2,a.tch WalkssEW.keeps t fun g hg=>hd g (e g (.inl hg)).1 (e g (.inl hg)).2,b.tch ParcelEW.keeps t fun g hg=>hd g (e g (.inr hg)).1 (e g (.inr hg)).2,c,e⟩
theorem RoamV.fr (h:RoamV w lo hi u1 u2 L1 L2) (hf:Fr w w'):RoamV w' lo hi u1 u2 L1 L2:=h.tch (Tch.of_fr (B:=fun _=>False) hf) fun _ _ _ k=>k
theorem RoamV.set (h:RoamV w lo hi u1 u2 L1 L2) {p:Addr} (hp:p.block<lo∨hi≤p.block) (u:Value):RoamV (w.setCell p u) lo hi u1 u2 L1 L2:=
 h.tch (Tch.set (B:=fun g=>g=p.block) (Tch.refl _ w) (.inl rfl) u) fun g h1 h2 e=>by omega
theorem RoamV.mono (h:RoamV w lo hi u1 u2 L1 L2) {lo' hi':Nat} (h0:lo'≤lo) (h1:hi≤hi'):RoamV w lo' hi' u1 u2 L1 L2:=by
 obtain⟨B1,B2,a,b,c,e⟩:=h.ex
 exact⟨B1,B2,a,b,c,fun g hg=>by have:=e g hg;omega⟩
theorem RoamV.own1 (h:RoamV w lo hi u1 u2 L1 L2):w.ownsRow 0 43 1 u1 L1.length (L1.map Itm.u).flatten:=by obtain⟨B1,B2,a,b,c,e⟩:=h.ex;exact a.own
theorem RoamV.own2 (h:RoamV w lo hi u1 u2 L1 L2):w.ownsRow 0 60 2 u2 L2.length (L2.map Itm.u).flatten:=by obtain⟨B1,B2,a,b,c,e⟩:=h.ex;exact b.own
theorem RoamV.in1 (h:RoamV w lo hi u1 u2 L1 L2):RowIn lo hi u1:=by obtain⟨B1,B2,a,b,c,e⟩:=h.ex;exact fun g hg=>e g (.inl (a.blk g hg))
theorem RoamV.in2 (h:RoamV w lo hi u1 u2 L1 L2):RowIn lo hi u2:=by obtain⟨B1,B2,a,b,c,e⟩:=h.ex;exact fun g hg=>e g (.inr (b.blk g hg))
theorem RoamV.nil (w:World) (lo hi:Nat):RoamV w lo hi (.slice none 0 0) (.slice none 0 0) [] []:=
 ⟨fun _=>False,fun _=>False,⟨World.ownsRow_nil _ _ _ _,fun g e=>(by simp[Value.ownBlock]at e),ElsV.nil⟩,⟨World.ownsRow_nil _ _ _ _,fun g e=>(by simp[Value.ownBlock]at e),ElsV.nil⟩,fun g h=>h.elim,fun g h=>(by rcases h with h|h<;>exact h.elim)⟩
/-- A row of walks more. -/
theorem RoamV.add1 (h:RoamV w lo hi u1 u2 L1 L2) {i:Itm (List WalkR)} (hi1:i.u.length=1) (hi2:WalkssEW w i.l i.h i.u i.x) (hi3:hi≤i.l) (hi4:i.l≤i.h) (hi5:i.h≤w.heap.size) (hlo:lo≤hi)
  (hown:w5.ownsRow 0 43 1 v' (L1.length+1) ((L1.map Itm.u).flatten++i.u)) (hg:w.grownBy w5 u1.ownBlock) (hat:v'.ownBlock=u1.ownBlock∨v'.ownBlock=some w.heap.size):RoamV w5 lo w5.heap.size v' u2 (L1++[i]) L2:=by
 obtain⟨B1,B2,a,b,c,e⟩:=h.ex
 have hsz:=hg.size
 have hb1: ∀ g,B1 g→g<hi:=fun g k=>(e g (.inl k)).2
 have hb2: ∀ g,B2 g→g<hi:=fun g k=>(e g (.inr k)).2
 have hv: ∀ g,v'.ownBlock=some g→u1.ownBlock=some g∨g=w.heap.size:=fun g k=>by
  rcases hat with q|q
  · exact .inl (q▸k)
  · rw[q]at k;cases k;exact .inr rfl
 have hlt: ∀ g,v'.ownBlock=some g→g<w5.heap.size:=fun g k=>owns_old hown g k
 refine⟨_,B2,a.join WalkssEW.keeps (M:=[i]) (ElsV.one hi1 hi2 hi4) (fun g k1 k2=>by have:=hb1 g k1;omega) (by simpa using hown) hg (fun g k=>?_),b.tch ParcelEW.keeps (Tch.of_gr (B:=fun g=>u1.ownBlock=some g) hg fun i hi=>hi) (fun g k1 k2=>c g (a.blk g k2) k1),fun g k1 k2=>?_,fun g k=>?_⟩
 · rcases hv g k with q|q
   · exact .inl q
   · exact .inr ⟨fun k1=>by have:=hb1 g k1;omega,fun k1=>by omega⟩
 · have:=hb2 g k2
   rcases k1 with k1|k1|k1
   · exact c g k1 k2
   · omega
   · rcases hv g k1 with q|q
     · exact c g (a.blk g q) k2
     · omega
 · rcases k with(k|k|k)|k
   · have:=e g (.inl k);omega
   · omega
   · rcases hv g k with q|q
     · have:=e g (.inl (a.blk g q));omega
     · have:=hlt g k;omega
   · have:=e g (.inr k);omega
/-- Parcels more. -/
theorem RoamV.add2 (h:RoamV w lo hi u1 u2 L1 L2) {l0 h0:Nat} (hM:ElsV ParcelEW 2 w (fun g=>l0≤g∧g<h0) M) (hi3:hi≤l0) (hi5:h0≤w.heap.size) (hlo:lo≤hi) (hhw:hi≤w.heap.size)
  (hown:w5.ownsRow 0 60 2 v' (L2.length+M.length) ((L2.map Itm.u).flatten++(M.map Itm.u).flatten)) (hg:w.grownBy w5 u2.ownBlock) (hat:v'.ownBlock=u2.ownBlock∨v'.ownBlock=some w.heap.size):RoamV w5 lo w5.heap.size u1 v' L1 (L2++M):=by
 obtain⟨B1,B2,a,b,c,e⟩:=h.ex
 have hsz:=hg.size
 have hb1: ∀ g,B1 g→g<hi:=fun g k=>(e g (.inl k)).2
 have hb2: ∀ g,B2 g→g<hi:=fun g k=>(e g (.inr k)).2
 have hv: ∀ g,v'.ownBlock=some g→u2.ownBlock=some g∨g=w.heap.size:=fun g k=>by
  rcases hat with q|q
  · exact .inl (q▸k)
  · rw[q]at k;cases k;exact .inr rfl
 have hlt: ∀ g,v'.ownBlock=some g→g<w5.heap.size:=fun g k=>owns_old hown g k
 refine⟨B1,_,a.tch WalkssEW.keeps (Tch.of_gr (B:=fun g=>u2.ownBlock=some g) hg fun i hi=>hi) (fun g k1 k2=>c g k1 (b.blk g k2)),b.join ParcelEW.keeps hM (fun g k1 k2=>by have:=hb2 g k1;omega) hown hg (fun g k=>?_),fun g k2 k1=>?_,fun g k=>?_⟩
 · rcases hv g k with q|q
   · exact .inl q
   · exact .inr ⟨fun k1=>by have:=hb2 g k1;omega,fun k1=>by omega⟩
 · have:=hb1 g k2
   rcases k1 with k1|k1|k1
   · exact c g k2 k1
   · omega
   · rcases hv g k1 with q|q
     · exact c g k2 (b.blk g q)
     · omega
 · rcases k with k|(k|k|k)
   · have:=e g (.inl k);omega
   · have:=e g (.inr k);omega
   · omega
   · rcases hv g k with q|q
     · have:=e g (.inr (b.blk g q));omega
     · have:=hlt g k;omega
end
/-- Owned parcels, in parts. -/
theorem ParcelSW.parts {w:World} {lo hi:Nat} {v:Value} {xs:List ParcelD} (h:ParcelSW w lo hi v xs): ∃ M:List (Itm ParcelD),M.map Itm.x=xs∧M.length=xs.length∧RdS w 2 v M.length (M.map Itm.u).flatten∧(∀ u∈(M.map Itm.u).flatten,u.oneCell'=true)∧ElsV ParcelEW 2 w (fun g=>lo≤g∧g<hi) M:=by
 obtain⟨M,h1,h2⟩:=NestX.of_nest h
 refine⟨M,h1,by rw[← h1];simp,RdS.of_owns h2.own,fun u hu=>?_,h2.els.sub fun g hg=>hg.1⟩
 obtain⟨l,hl,hul⟩:=List.mem_flatten.1 hu
 obtain⟨i,hi',rfl⟩:=List.mem_map.1 hl
 obtain⟨_,⟨ao,cap,e,_⟩,_⟩:=h2.els.el i hi'
 rw[e]at hul
 simp at hul
 rcases hul with rfl|rfl<;>rfl
def poly:Nat:=3558460437
def step1 (x:Nat):Nat:=if x%2=1 then(x/2) ^^^ poly else x/2
def stepN:Nat→Nat→Nat
 |0,x=>x
 |j+1,x=>step1 (stepN j x)
def sumByte (x:Nat) (b:UInt8):Nat:=stepN 8 (x ^^^ b.toNat)
def sumL (x:Nat) (l:List UInt8):Nat:=l.foldl sumByte x
theorem step1_lt {x:Nat} (h:x<4294967296):step1 x<4294967296:=by
 unfold step1
 split
 · exact Nat.xor_lt_two_pow (n:=32) (by omega) (by unfold poly;omega)
 · omega
theorem stepN_lt {x:Nat} (h:x<4294967296) (j:Nat):stepN j x<4294967296:=by
 induction j with
 |zero=>exact h
 |succ j ih=>exact step1_lt ih
theorem xor_byte_lt {x:Nat} (h:x<4294967296) (b:UInt8):x ^^^ b.toNat<4294967296:=Nat.xor_lt_two_pow (n:=32) (by omega) (by have:=b.toNat_lt;omega)
theorem sumByte_lt {x:Nat} (h:x<4294967296) (b:UInt8):sumByte x b<4294967296:=stepN_lt (xor_byte_lt h b) 8
theorem sumL_lt {x:Nat} (h:x<4294967296) (l:List UInt8):sumL x l<4294967296:=by
 induction l generalizing x with
 |nil=>exact h
 |cons b l ih=>exact ih (sumByte_lt h b)
theorem sumL_snoc (x:Nat) (l:List UInt8) (b:UInt8):sumL x (l++[b])=sumByte (sumL x l) b:=by simp[sumL]
theorem take_snoc (s:ByteArray) (k:Nat) (h:k<s.size):s.data.toList.take (k+1)=s.data.toList.take k++[s[k]]:=by
 rw[List.take_succ_eq_append_getElem (by simpa using h)];rfl
theorem u32_and_one (x:Nat) (h:x<4294967296):bits .and .u32 (x:Int) 1=((x%2:Nat):Int):=by
 have:=u32_and_nat x 1 h (by omega)
 rw[Nat.and_one_is_mod]at this
 exact this
set_option maxRecDepth 100000 in
set_option maxHeartbeats 400000 in
theorem implSumMore_any (x:Nat) (s:ByteArray) (w:World) (hx:x<4294967296) (hs:s.size≤maxLen):
  Calls Tryz.prog 193 #[.int .u32 x,.string s] w fun e w'=>e= .returned (.int .u32 (sumL x s.data.toList))∧w=w':=by
 unfold maxLen at hs
 go_enter Tryz.func193,Tryz.ntmps193
 go_wp2
 go_loop [0,5] (fun v i=> ∃ k y:Nat,k≤s.size∧i= .int .i64 k∧v= .int .u32 y∧y<4294967296∧Hid (y=sumL x (s.data.toList.take k))) (fun _ i=>s.size-(intOf i).toNat)
 case atStart=>exact⟨0,x,Nat.zero_le _,rfl,rfl,hx,by simp[Hid,sumL]⟩
 case round=>
  obtain⟨k,y,hk,rfl,rfl,hy,hd⟩:=hrel
  by_cases hlt:k<s.size
  · obtain⟨z,hz⟩: ∃ z,z=y ^^^ s[k].toNat:=⟨_,rfl⟩
    have hb:bits .xor .u32 (y:Int) ((s[k].toNat:Int)%4294967296)=(z:Int):=by
     have hb0:=s[k].toNat_lt
     rw[show((s[k].toNat:Int)%4294967296)=((s[k].toNat:Nat):Int)from by omega,hz]
     exact u32_xor_nat y _ hy (by omega)
    have hzl:z<4294967296:=by rw[hz];exact xor_byte_lt hy _
    have HZ:=Lib.hid hz
    clear hz
    go_wp2
    go_loop [0,19] (fun v i=> ∃ j q:Nat,j≤8∧i= .int .i64 j∧v= .int .u32 q∧q<4294967296∧Hid (q=stepN j z)) (fun _ i=>8-(intOf i).toNat)
    case atStart=>exact⟨0,z,by omega,rfl,rfl,hzl,rfl⟩
    case round=>
     clear hb
     obtain⟨j,q,hj,rfl,rfl,hq,hdq⟩:=hrel
     by_cases hlj:j<8
     · have ha:=u32_and_one q hq
       by_cases hodd:q%2=1
       · obtain⟨r,hr⟩: ∃ r,r=(q/2) ^^^ poly:=⟨_,rfl⟩
         have hxr:bits .xor .u32 ((q:Int)/2) 3558460437=(r:Int):=by
          rw[hr,show((q:Int)/2)=((q/2:Nat):Int)from by omega]
          exact u32_xor_nat (q/2) poly (by omega) (by unfold poly;omega)
         have hrl:r<4294967296:=by rw[hr];exact Nat.xor_lt_two_pow (n:=32) (by omega) (by unfold poly;omega)
         have HR:Hid (r=stepN (j+1) z):=by show r=step1 (stepN j z);rw[← hdq.out,hr];unfold step1;rw[if_pos hodd]
         have ho:((q:Int)%2)=1:=by omega
         clear hr
         go_wp2
         go_round
         case rel=>exact⟨j+1,r,by omega,by go_num,rfl,hrl,HR⟩
         case measure=>(simp[intOf];omega)
       · have ho:((q:Int)%2==1)=false:=by simp;omega
         have HR:Hid (q/2=stepN (j+1) z):=by show q/2=step1 (stepN j z);rw[← hdq.out];unfold step1;rw[if_neg hodd]
         go_wp2
         go_round
         case rel=>exact⟨j+1,q/2,by omega,by go_num,by go_num,by omega,HR⟩
         case measure=>(simp[intOf];omega)
     · obtain rfl:j=8:=by omega
       have hts:=take_snoc s k hlt
       have HS:Hid (q=sumL x (s.data.toList.take (k+1))):=by rw[hts,sumL_snoc, ← hd.out,hdq.out,HZ.out];rfl
       clear hts
       go_wp2
       go_round
       case rel=>exact⟨k+1,q,by omega,by go_num,rfl,hq,HS⟩
       case measure=>(simp[intOf];omega)
  · have hfin:Hid (y=sumL x s.data.toList):=by have:=hd.out;rwa [List.take_of_length_le (by simp;omega)]at this
    go_wp2
    go_ret
    exact⟨ret_int (by rw[hfin.out]),rfl⟩
set_option maxRecDepth 100000 in
set_option maxHeartbeats 400000 in
theorem specSumMore_any (x:Nat) (s:ByteArray) (w:World) (hx:x<4294967296) (hs:s.size≤maxLen):
  Calls Tryz.prog 149 #[.int .u32 x,.string s] w fun e w'=>e= .returned (.int .u32 (sumL x s.data.toList))∧w=w':=by
 unfold maxLen at hs
 go_enter Tryz.func149,Tryz.ntmps149
 go_wp2
 go_loop [0,5] (fun v i=> ∃ k y:Nat,k≤s.size∧i= .int .i64 k∧v= .int .u32 y∧y<4294967296∧Hid (y=sumL x (s.data.toList.take k))) (fun _ i=>s.size-(intOf i).toNat)
 case atStart=>exact⟨0,x,Nat.zero_le _,rfl,rfl,hx,by simp[Hid,sumL]⟩
 case round=>
  obtain⟨k,y,hk,rfl,rfl,hy,hd⟩:=hrel
  by_cases hlt:k<s.size
  · obtain⟨z,hz⟩: ∃ z,z=y ^^^ s[k].toNat:=⟨_,rfl⟩
    have hb:bits .xor .u32 (y:Int) ((s[k].toNat:Int)%4294967296)=(z:Int):=by
     have hb0:=s[k].toNat_lt
     rw[show((s[k].toNat:Int)%4294967296)=((s[k].toNat:Nat):Int)from by omega,hz]
     exact u32_xor_nat y _ hy (by omega)
    have hzl:z<4294967296:=by rw[hz];exact xor_byte_lt hy _
    have HZ:=Lib.hid hz
    clear hz
    go_wp2
    go_loop [0,6] (fun v i=> ∃ j q:Nat,j≤8∧i= .int .i64 j∧v= .int .u32 q∧q<4294967296∧Hid (q=stepN j z)) (fun _ i=>8-(intOf i).toNat)
    case atStart=>exact⟨0,z,by omega,rfl,rfl,hzl,rfl⟩
    case round=>
     clear hb
     obtain⟨j,q,hj,rfl,rfl,hq,hdq⟩:=hrel
     by_cases hlj:j<8
     · have ha:=u32_and_one q hq
       by_cases hodd:q%2=1
       · obtain⟨r,hr⟩: ∃ r,r=(q/2) ^^^ poly:=⟨_,rfl⟩
         have hxr:bits .xor .u32 ((q:Int)/2) 3558460437=(r:Int):=by
          rw[hr,show((q:Int)/2)=((q/2:Nat):Int)from by omega]
          exact u32_xor_nat (q/2) poly (by omega) (by unfold poly;omega)
         have hrl:r<4294967296:=by rw[hr];exact Nat.xor_lt_two_pow (n:=32) (by omega) (by unfold poly;omega)
         have HR:Hid (r=stepN (j+1) z):=by show r=step1 (stepN j z);rw[← hdq.out,hr];unfold step1;rw[if_pos hodd]
         have ho:((q:Int)%2)=1:=by omega
         clear hr
         go_wp2
         go_round
         case rel=>exact⟨j+1,r,by omega,by go_num,rfl,hrl,HR⟩
         case measure=>(simp[intOf];omega)
       · have ho:((q:Int)%2==1)=false:=by simp;omega
         have HR:Hid (q/2=stepN (j+1) z):=by show q/2=step1 (stepN j z);rw[← hdq.out];unfold step1;rw[if_neg hodd]
         go_wp2
         go_round
         case rel=>exact⟨j+1,q/2,by omega,by go_num,by go_num,by omega,HR⟩
         case measure=>(simp[intOf];omega)
     · obtain rfl:j=8:=by omega
       have hts:=take_snoc s k hlt
       have HS:Hid (q=sumL x (s.data.toList.take (k+1))):=by rw[hts,sumL_snoc, ← hd.out,hdq.out,HZ.out];rfl
       clear hts
       go_wp2
       go_round
       case rel=>exact⟨k+1,q,by omega,by go_num,rfl,hq,HS⟩
       case measure=>(simp[intOf];omega)
  · have hfin:Hid (y=sumL x s.data.toList):=by have:=hd.out;rwa [List.take_of_length_le (by simp;omega)]at this
    go_wp2
    go_ret
    exact⟨ret_int (by rw[hfin.out]),rfl⟩
def sumOf (s:ByteArray):Nat:=sumL 4294967295 s.data.toList
theorem sumOf_lt (s:ByteArray):sumOf s<4294967296:=sumL_lt (by omega) _
/-- The check sum's four bytes. -/
def fourL (x:Nat):List UInt8:=[UInt8.ofNat (x/16777216),UInt8.ofNat (x/65536%256),UInt8.ofNat (x/256%256),UInt8.ofNat (x%256)]
def fourT (x:Nat):ByteArray:=⟨(fourL x).toArray⟩
theorem fourT_nums (x:Nat):strOfNums [(x:Int)/16777216,(x:Int)/65536%256,(x:Int)/256%256,(x:Int)%256]=fourT x:=by
 apply WideShapes.bytes_inj
 have e1:((x:Int)/16777216).toNat=x/16777216:=by omega
 have e2:((x:Int)/65536%256).toNat=x/65536%256:=by omega
 have e3:((x:Int)/256%256).toNat=x/256%256:=by omega
 have e4:((x:Int)%256).toNat=x%256:=by omega
 rw[strOfNums_data,List.map_cons,List.map_cons,List.map_cons,List.map_cons,List.map_nil,e1,e2,e3,e4]
 rfl
theorem implSumOf_any (s:ByteArray) (w:World) (hs:s.size≤maxLen):
  Calls Tryz.prog 152 #[.string s] w fun e w'=>e= .returned (.int .u32 (sumOf s))∧w=w':=by
 go_enter Tryz.func152,Tryz.ntmps152
 go_wp2_with(go_at_call 193;refine(implSumMore_any 4294967295 s _ (by omega) hs).mono ?_;rintro e w1 ⟨rfl,rfl⟩)
 go_ret
 exact⟨rfl,rfl⟩
theorem specSumOf_any (s:ByteArray) (w:World) (hs:s.size≤maxLen):
  Calls Tryz.prog 72 #[.string s] w fun e w'=>e= .returned (.int .u32 (sumOf s))∧w=w':=by
 go_enter Tryz.func72,Tryz.ntmps72
 go_wp2_with(go_at_call 149;refine(specSumMore_any 4294967295 s _ (by omega) hs).mono ?_;rintro e w1 ⟨rfl,rfl⟩)
 go_ret
 exact⟨rfl,rfl⟩
def frameT (s:ByteArray):ByteArray:=vText s.size++fourT (sumOf s)++s
def frameB (s:ByteArray):Bool:=decide (1≤s.size∧s.size≤9000)
def frameR (s:ByteArray):ByteArray:=if frameB s then frameT s else ByteArray.empty
theorem frameR_ok {s:ByteArray} (h:frameB s=true):frameR s=frameT s:=if_pos h
theorem frameR_no {s:ByteArray} (h:frameB s=false):frameR s=ByteArray.empty:=if_neg (by simp[h])
theorem ret_sb {a b:ByteArray} {c d:Bool} (h:a=b) (k:c=d):Ending.returned (.tuple #[.string a,.bool c])= .returned (.tuple #[.string b,.bool d]):=by rw[h,k]
/-- The owner of a vertex among n workers. -/
def owR (v n:Int):Int:=if(1≤n∧n≤8)∧0≤v∧v≤11 then(sumOf (vText v):Int)%n else 0
theorem owR_ge (v n:Int):0≤owR v n:=by
 unfold owR
 split
 · rename_i h;exact Int.emod_nonneg _ (by omega)
 · exact Int.le_refl _
theorem owR_lt (v n:Int):owR v n≤7:=by
 unfold owR
 split
 · rename_i h;have:=Int.emod_lt_of_pos (sumOf (vText v):Int) (show 0<n by omega);omega
 · omega
def chunk (l:List WalkR):List (List WalkR):=if h:l=[]then []else l.take 60::chunk (l.drop 60)
termination_by l.length
decreasing_by
 have:0<l.length:=List.length_pos_iff.2 h
 simp only[List.length_drop];omega
theorem chunk_nil:chunk []=[]:=by unfold chunk;simp
theorem chunk_step {l:List WalkR} (h:0<l.length):chunk l=l.take 60::chunk (l.drop 60):=by
 rw[chunk,dif_neg (List.length_pos_iff.1 h)]
theorem chunk_full {a r:List WalkR} (h:a.length=60):chunk (a++r)=a::chunk r:=by
 rw[chunk_step (by rw[List.length_append];omega),List.take_append_of_le_length (by omega),List.take_of_length_le (by omega),List.drop_append_of_le_length (by omega),List.drop_of_length_le (by omega),List.nil_append]
theorem chunk_small {a:List WalkR} (h:0<a.length) (h2:a.length≤60):chunk a=[a]:=by
 rw[chunk_step h,List.take_of_length_le h2,List.drop_of_length_le h2,chunk_nil]
theorem ParcelSCnt_append (a b:List ParcelD):ParcelSCnt (a++b)=ParcelSCnt a+ParcelSCnt b:=by simp[ParcelSCnt]
theorem chunk_cnt (t:Int): ∀ (n:Nat) (l:List WalkR),l.length≤n→(chunk l).length≤l.length∧ParcelSCnt ((chunk l).map (ParcelD.mk t))≤5*l.length:=by
 intro n
 induction n with
 |zero=>
  intro l h
  have:l=[]:=List.eq_nil_of_length_eq_zero (by omega)
  subst this
  rw[chunk_nil]
  simp[ParcelSCnt]
 |succ n ih=>
  intro l h
  rcases Nat.eq_zero_or_pos l.length with h0|h0
  · have:l=[]:=List.eq_nil_of_length_eq_zero h0
    subst this
    rw[chunk_nil]
    simp[ParcelSCnt]
  · rw[chunk_step h0]
    obtain⟨h1,h2⟩:=ih (l.drop 60) (by simp only[List.length_drop];omega)
    rw[List.map_cons,ParcelSCnt_cons]
    unfold ParcelCnt1
    simp only[List.length_cons,List.length_drop,List.length_take]at h1 h2 ⊢
    omega
def parW (l:List WalkR) (n t:Int):List WalkR:=l.filter fun w=>owR w.f2 n==t
theorem parW_len (l:List WalkR) (n t:Int):(parW l n t).length≤l.length:=List.length_filter_le _ _
def parO (l:List WalkR) (n t:Int):List ParcelD:=(chunk (parW l n t)).map (ParcelD.mk t)
def parL (l:List WalkR) (n:Int):Nat→List ParcelD
 |0=>[]
 |t+1=>parL l n t++parO l n t
def parAll (l:List WalkR) (n:Int):List ParcelD:=parL l n (max 0 (min n 8)).toNat
theorem parO_cnt (l:List WalkR) (n t:Int):(parO l n t).length≤l.length∧ParcelSCnt (parO l n t)≤5*l.length:=by
 have h:=chunk_cnt t _ (parW l n t) (Nat.le_refl _)
 have:=parW_len l n t
 unfold parO
 rw[List.length_map]
 omega
theorem parL_cnt (l:List WalkR) (n:Int): ∀ t,(parL l n t).length≤t*l.length∧ParcelSCnt (parL l n t)≤t*(5*l.length)
 |0=>by simp[parL,ParcelSCnt]
 |t+1=>by
  have h1:=parL_cnt l n t
  have h2:=parO_cnt l n t
  rw[parL,ParcelSCnt_append,List.length_append,Nat.add_mul,Nat.add_mul]
  omega
theorem parL_mono (l:List WalkR) (n:Int) (t:Nat) (ht:t≤8):(parL l n t).length≤8*l.length:=by
 have:=(parL_cnt l n t).1
 have h2:=Nat.mul_le_mul_right l.length ht
 omega
theorem parAll_cnt (l:List WalkR) (n:Int) (h:l.length≤1048576):ParcelSCnt (parAll l n)≤100000000:=by
 have:=(parL_cnt l n (max 0 (min n 8)).toNat).2
 have h2:=Nat.mul_le_mul_right (5*l.length) (show(max 0 (min n 8)).toNat≤8 by omega)
 unfold parAll
 omega
theorem walk_drop {l:List WalkR} {k:Nat} (h:k<l.length):l.drop k=walkAt l k::l.drop (k+1):=by
 rw[List.drop_eq_getElem_cons h]
 simp[walkAt,List.getD,List.getElem?_eq_getElem h]
theorem parW_skip {l:List WalkR} {k:Nat} {n t:Int} (h:k<l.length) (ht:owR (walkAt l k).f2 n≠t):parW (l.drop k) n t=parW (l.drop (k+1)) n t:=by
 rw[walk_drop h]
 unfold parW
 rw[List.filter_cons_of_neg (by simpa using ht)]
theorem parW_hit {l:List WalkR} {k:Nat} {n t:Int} (h:k<l.length) (ht:owR (walkAt l k).f2 n=t):parW (l.drop k) n t=walkAt l k::parW (l.drop (k+1)) n t:=by
 rw[walk_drop h]
 unfold parW
 rw[List.filter_cons_of_pos (by simpa using ht)]
theorem parW_end (l:List WalkR) (n t:Int):parW (l.drop l.length) n t=[]:=by simp[parW]
theorem walk_take (xs:List WalkR) (i:Nat):(xs.take i).flatMap WalkR.cells=(xs.flatMap WalkR.cells).take (i*4):=by
 induction xs generalizing i with
 |nil=>simp
 |cons x xs ih=>
  cases i with
  |zero=>simp
  |succ i=>
   rw[List.flatMap_cons,List.take_succ_cons,List.flatMap_cons,ih i]
   have hl:x.cells.length=4:=rfl
   rw[List.take_append,hl,show(i+1)*4-4=i*4 by omega,List.take_of_length_le (l:=x.cells) (by rw[hl];omega)]
theorem walk_dropc (xs:List WalkR) (i:Nat):(xs.drop i).flatMap WalkR.cells=(xs.flatMap WalkR.cells).drop (i*4):=by
 induction xs generalizing i with
 |nil=>simp
 |cons x xs ih=>
  cases i with
  |zero=>simp
  |succ i=>
   rw[List.drop_succ_cons,List.flatMap_cons,ih i]
   have hl:x.cells.length=4:=rfl
   rw[List.drop_append,hl,show(i+1)*4-4=i*4 by omega,List.drop_of_length_le (l:=x.cells) (by rw[hl];omega),List.nil_append]
theorem WalksR.take {w:World} {ao:Option Addr} {n cap:Nat} {ls:List WalkR} (h:WalksR w (.slice ao n cap) ls) (m c:Nat) (hm:m≤ls.length) (hc:m≤c) (hc2:c≤maxLen):WalksR w (.slice ao m c) (ls.take m):=by
 have hn:n=ls.length:=by obtain⟨_,_,_,hv,_⟩:=h;cases hv;rfl
 subst hn
 obtain⟨h1,ao',cap',hv,h2,h3,h4⟩:=h
 cases hv
 have hmz:m*4≤ls.length*4:=Nat.mul_le_mul_right 4 hm
 unfold WalksR
 rw[walk_take,show(ls.take m).length=m by simp;omega]
 refine⟨by rw[List.length_take];omega,ao,c,rfl,hc,hc2,fun hn=>?_⟩
 obtain⟨b,o,hb,hs,hcl⟩:=h4 (by omega)
 refine⟨b,o,hb,hs,fun j hj=>?_⟩
 rw[hcl j (by omega),List.getElem?_take_of_lt (by omega)]
theorem WalksR.drop {w:World} {b o:Nat} {n cap:Nat} {ls:List WalkR} (h:WalksR w (.slice (some ⟨b,o,none⟩) n cap) ls) (m c:Nat) (hm:m≤ls.length) (hc:ls.length-m≤c) (hc2:c≤maxLen):WalksR w (.slice (some ⟨b,o+m*4,none⟩) (ls.length-m) c) (ls.drop m):=by
 have hn:n=ls.length:=by obtain⟨_,_,_,hv,_⟩:=h;cases hv;rfl
 subst hn
 obtain⟨h1,ao',cap',hv,h2,h3,h4⟩:=h
 cases hv
 have hmz:m*4≤ls.length*4:=Nat.mul_le_mul_right 4 hm
 unfold WalksR
 rw[walk_dropc,show(ls.drop m).length=ls.length-m by simp]
 refine⟨by rw[List.length_drop,Nat.sub_mul];omega,_,c,rfl,hc,hc2,fun hn=>?_⟩
 obtain⟨b',o',hb,hs,hcl⟩:=h4 (by omega)
 cases hb
 refine⟨b,_,rfl,hs,fun j hj=>?_⟩
 rw[Nat.sub_mul]at hj
 rw[Nat.add_assoc,hcl (m*4+j) (by omega),List.getElem?_drop]
def lenVP:Value→Nat
 | .slice _ n _=>n
 |_=>0
end Go.Proofs.YtjnahjgncmcmdaaGreat