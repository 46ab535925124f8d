/- A roaming to its end, plain: what each step keeps, how long it goes on. No condition. -/
import Derived.Test.YtmdgdnkllclpcaaGreatRsp
namespace Go.Proofs.YtmdgdnkllclpcaaGreat
open Go.RowKit
set_option linter.unusedVariables false
set_option linter.unusedSimpArgs false
/-! ### walks in bounds -/
def wIn (x:WalkR):Prop:=(0≤x.f0∧x.f0<4)∧(0≤x.f1∧x.f1<12)∧(0≤x.f2∧x.f2<12)∧(0≤x.f3∧x.f3<24)
def potA:List WalkR:=(List.range 4).flatMap fun a:Nat=>(List.range 12).flatMap fun s:Nat=>(List.range 12).flatMap fun v:Nat=>(List.range 24).map fun t:Nat=>⟨(a:Int),(s:Int),(v:Int),(t:Int)⟩
theorem potA_len:potA.length≤13824:=by
 have h:=flat_le (fun a:Nat=>(List.range 12).flatMap fun s:Nat=>(List.range 12).flatMap fun v:Nat=>(List.range 24).map fun t:Nat=>(⟨(a:Int),(s:Int),(v:Int),(t:Int)⟩:WalkR)) 3456 (List.range 4) fun a _=>by
  have h:=flat_le (fun s:Nat=>(List.range 12).flatMap fun v:Nat=>(List.range 24).map fun t:Nat=>(⟨(a:Int),(s:Int),(v:Int),(t:Int)⟩:WalkR)) 288 (List.range 12) fun s _=>by
   have h:=flat_le (fun v:Nat=>(List.range 24).map fun t:Nat=>(⟨(a:Int),(s:Int),(v:Int),(t:Int)⟩:WalkR)) 24 (List.range 12) fun v _=>by simp
   rw[List.length_range]at h;exact h
  rw[List.length_range]at h;exact h
 rw[List.length_range]at h;exact h
theorem mem_potA {x:WalkR} (h:wIn x):x∈potA:=by
 obtain⟨h0,h1,h2,h3⟩:=h
 refine List.mem_flatMap.2 ⟨x.f0.toNat,List.mem_range.2 (by omega),List.mem_flatMap.2 ⟨x.f1.toNat,List.mem_range.2 (by omega),List.mem_flatMap.2 ⟨x.f2.toNat,List.mem_range.2 (by omega),List.mem_map.2 ⟨x.f3.toNat,List.mem_range.2 (by omega),?_⟩⟩⟩⟩
 exact WalkR.ext' (by simp only[];omega) (by simp only[];omega) (by simp only[];omega) (by simp only[];omega)
theorem wIn_few {l:List WalkR} (hn:l.Nodup) (h: ∀ x∈l,wIn x):l.length≤13824:=Nat.le_trans (nodup_len hn fun x hx=>mem_potA (h x hx)) potA_len
theorem nodup_snoc {l:List WalkR} {x:WalkR} (h:l.Nodup) (hx:inW l x=false):(l++[x]).Nodup:=List.nodup_append.2 ⟨h,by simp,fun a ha b hb=>by
 rw[List.mem_singleton]at hb
 rintro rfl
 exact inW_no hx (hb▸ha)⟩
theorem all_snoc {α:Type} {l:List α} {x:α} {P:α→Prop} (h: ∀ y∈l,P y) (hx:P x): ∀ y∈l++[x],P y:=fun y hy=>by
 rw[List.mem_append,List.mem_singleton]at hy
 rcases hy with hy|hy
 · exact h y hy
 · rw[hy];exact hx
/-! ### one taking -/
theorem Tk.keep {own:WalkR→Bool} {on:WalkR→List WalkR} {B:Nat} {P:WalkR→Prop} (hP: ∀ x,P x→ ∀ y∈on x,P y) (hB: ∀ x,(on x).length≤B) {rest out told:List WalkR} {r:List WalkR×List WalkR} (h:Tk own on rest out told r):
  (∀ x∈rest,P x)→out.Nodup→(∀ x∈out,P x∧own x=true)→told.Nodup→(∀ x∈told,P x∧own x=false)→
  (r.1.Nodup∧ ∀ x∈r.1,P x∧own x=true)∧(r.2.Nodup∧ ∀ x∈r.2,P x∧own x=false)∧out.length≤r.1.length∧r.2.length+out.length*B≤told.length+(rest.filter fun x=>!own x).length+r.1.length*B:=by
 induction h with
 |nil out told=>intro h1 h2 h3 h4 h5;exact⟨⟨h2,h3⟩,⟨h4,h5⟩,Nat.le_refl _,by simp⟩
 |far x rest out told r k1 k2 h ih=>
  intro h1 h2 h3 h4 h5
  obtain⟨a,b,c,d⟩:=ih (fun y hy=>h1 y (List.mem_cons_of_mem _ hy)) h2 h3 h4 h5
  refine⟨a,b,c,?_⟩
  rw[List.filter_cons_of_pos (by rw[k1];rfl),List.length_cons]
  omega
 |tell x rest out told r k1 k2 h ih=>
  intro h1 h2 h3 h4 h5
  obtain⟨a,b,c,d⟩:=ih (fun y hy=>h1 y (List.mem_cons_of_mem _ hy)) h2 h3 (nodup_snoc h4 k2) (all_snoc h5 ⟨h1 x (by simp),k1⟩)
  refine⟨a,b,c,?_⟩
  rw[List.filter_cons_of_pos (by rw[k1];rfl),List.length_cons]
  rw[List.length_append,List.length_singleton]at d
  omega
 |known x rest out told r k1 k2 h ih=>
  intro h1 h2 h3 h4 h5
  obtain⟨a,b,c,d⟩:=ih (fun y hy=>h1 y (List.mem_cons_of_mem _ hy)) h2 h3 h4 h5
  refine⟨a,b,c,?_⟩
  rw[List.filter_cons_of_neg (by rw[k1];decide)]
  exact d
 |new x rest out told r k1 k2 h ih=>
  intro h1 h2 h3 h4 h5
  obtain⟨a,b,c,d⟩:=ih (fun y hy=>by
   rw[List.mem_append]at hy
   rcases hy with hy|hy
   · exact h1 y (List.mem_cons_of_mem _ hy)
   · exact hP x (h1 x (by simp)) y hy) (nodup_snoc h2 k2) (all_snoc h3 ⟨h1 x (by simp),k1⟩) h4 h5
  rw[List.length_append,List.length_singleton]at c
  refine⟨a,b,by omega,?_⟩
  rw[List.filter_cons_of_neg (by rw[k1];decide)]
  rw[List.filter_append,List.length_append,List.length_append,List.length_singleton,Nat.add_mul]at d
  have h6:=List.length_filter_le (fun x=>!own x) (on x)
  have h7:=hB x
  omega
/-! ### parcels -/
theorem chunk_mem: ∀ (N:Nat) (l:List WalkR),l.length≤N→ ∀ c∈chunk l,c.length≤60∧ ∀ x∈c,x∈l
 |N,[],_,c,hc=>by rw[chunk_nil]at hc;cases hc
 |0,x::l,h,c,hc=>by simp at h
 |N+1,x::l,h,c,hc=>by
  rw[chunk_step (by simp),List.mem_cons]at hc
  rcases hc with rfl|hc
  · exact⟨by rw[List.length_take];omega,fun y hy=>List.mem_of_mem_take hy⟩
  · obtain⟨h1,h2⟩:=chunk_mem N ((x::l).drop 60) (by rw[List.length_drop,List.length_cons]at *; omega) c hc
    exact⟨h1,fun y hy=>List.mem_of_mem_drop (h2 y hy)⟩
theorem parL_mem {l:List WalkR} {n:Int} {p:ParcelD}: ∀ {t:Nat},p∈parL l n t→(0≤p.f0∧p.f0<(t:Int))∧p.f1.length≤60∧ ∀ x∈p.f1,x∈l∧owR x.f2 n=p.f0
 |0,h=>by cases h
 |t+1,h=>by
  rw[parL,List.mem_append]at h
  rcases h with h|h
  · obtain⟨h1,h2⟩:=parL_mem h
    exact⟨by omega,h2⟩
  · unfold parO at h
    obtain⟨c,hc,rfl⟩:=List.mem_map.1 h
    obtain⟨h1,h2⟩:=chunk_mem _ _ (Nat.le_refl _) c hc
    refine⟨by simp only[];omega,h1,fun x hx=>?_⟩
    have h3:=h2 x hx
    unfold parW at h3
    rw[List.mem_filter,beq_iff_eq]at h3
    exact h3
theorem parAll_mem {l:List WalkR} {n:Int} {p:ParcelD} (h:p∈parAll l n):(0≤p.f0∧p.f0<n)∧p.f1.length≤60∧ ∀ x∈p.f1,x∈l∧owR x.f2 n=p.f0:=by
 obtain⟨h1,h2⟩:=parL_mem h
 exact⟨by omega,h2⟩
/-! ### what is kept -/
structure RoamR (g:GraphD) (q:QueryD) (n:Int) (R:WalkR→Prop):Prop where
 win: ∀ x,R x→wIn x
 on: ∀ x,R x→ ∀ y∈onQ g.f1 (autL q) x,R y
 sta: ∀ k,∀ x∈staL g q k n,R x
structure RI (R:WalkR→Prop) (n:Int) (m:Nat) (r:RoamD):Prop where
 len:r.f0.length=m
 row: ∀ k,k<m→(nAt r.f0 k).Nodup∧ ∀ x∈nAt r.f0 k,R x∧owR x.f2 n=(k:Int)
 par: ∀ p∈r.f1,(0≤p.f0∧p.f0<n)∧p.f1.length≤60∧ ∀ x∈p.f1,R x∧owR x.f2 n=p.f0
def lackR (ds:List (List WalkR)):Nat:=(ds.map fun d=>13824-d.length).sum
def muR (r:RoamD):Nat:=7680*lackR r.f0+r.f1.length
theorem lack_set (x:List WalkR): ∀ (ds:List (List WalkR)) (k:Nat),k<ds.length→lackR (ds.set k x)+(13824-(nAt ds k).length)=lackR ds+(13824-x.length)
 |[],k,h=>by simp at h
 |d::ds,0,h=>by simp[lackR,nAt,List.getD];omega
 |d::ds,k+1,h=>by
  have h1:=lack_set x ds k (by simpa using h)
  have h2:nAt (d::ds) (k+1)=nAt ds k:=by simp[nAt,List.getD]
  rw[h2,List.set_cons_succ]
  simp only[lackR,List.map_cons,List.sum_cons]at h1 ⊢
  omega
theorem lack_le: ∀ ds:List (List WalkR),lackR ds≤ds.length*13824
 |[]=>by simp[lackR]
 |d::ds=>by
  have:=lack_le ds
  simp only[lackR,List.map_cons,List.sum_cons,List.length_cons]at this ⊢
  omega
theorem onQ_sub {es fs:List EdgeR} {nfs:List NfaD} {x y:WalkR} (hs: ∀ e∈es,e∈fs) (h:y∈onQ es nfs x):y∈onQ fs nfs x:=by
 unfold onQ at h ⊢
 split at h
 · rename_i hx
   rw[if_pos hx]
   unfold onL at h ⊢
   obtain⟨e,he,h⟩:=List.mem_flatMap.1 h
   exact List.mem_flatMap.2 ⟨e,hs e he,h⟩
 · cases h
theorem partG_sub (g:GraphD) (k n:Int): ∀ e∈(partG g k n).f1,e∈g.f1:=fun e he=>by
 unfold partG partL at he
 simp only[]at he
 split at he
 · exact(List.mem_filter.1 he).1
 · cases he
theorem mem_staK {ow:List Int} {x:WalkR}: ∀ {m:Nat},x∈staK ow m→ ∃ (j:Nat) (v:Int),j<m∧v∈ow∧x=⟨(j:Int),v,v,0⟩
 |0,h=>by cases h
 |m+1,h=>by
  rw[staK,List.mem_append]at h
  rcases h with h|h
  · obtain⟨j,v,h1,h2⟩:=mem_staK h
    exact⟨j,v,by omega,h2⟩
  · unfold staW at h
    obtain⟨v,hv,rfl⟩:=List.mem_map.1 h
    exact⟨m,v,by omega,hv,rfl⟩
theorem wIn_roam {g:GraphD} {q:QueryD} {n:Int} (hg:graphB g=true):RoamR g q n wIn:=by
 obtain⟨m,hn,hn0,hn1,hin⟩:=graph_nat hg
 refine⟨fun x h=>h,fun x hx y hy=>?_,fun k x hx=>?_⟩
 · obtain⟨e,he,c,hc,_,rfl⟩:=mem_onQ hy
   obtain⟨i,hi,rfl⟩:=List.getElem_of_mem he
   have:=(hin i hi).2
   rw[← edgeAt_get hi]at this
   exact⟨hx.1,hx.2.1,by simp only[];omega,hc⟩
 · unfold staL at hx
   split at hx
   · rename_i h
     have h5:=(qryB_atoms h.2).1
     obtain⟨j,v,hj,hv,rfl⟩:=mem_staK hx
     unfold ownL at hv
     rw[if_pos hg]at hv
     obtain⟨i,rfl,hi,_⟩:=mem_ownK.1 hv
     exact⟨by simp only[];omega,by simp only[];omega,by simp only[];omega,by simp⟩
   · cases hx
section
variable {g:GraphD} {q:QueryD} {n:Int} {R:WalkR→Prop} {m i:Nat} {r:RoamD}
theorem nAt_in {α:Type} [Inhabited α] {l:List α} {i:Nat} (h:i<l.length):nAt l i∈l:=by
 unfold nAt List.getD
 rw[List.getElem?_eq_getElem h]
 exact List.getElem_mem h
theorem nAt_set {α:Type} [Inhabited α] {l:List α} {i j:Nat} {x:α} (h:i<l.length):nAt (l.set i x) j=if i=j then x else nAt l j:=by
 unfold nAt List.getD
 rw[List.getElem?_set]
 by_cases e:i=j
 · subst e;simp[h]
 · simp[e]
theorem ownW_iff {k:Int} {x:WalkR}:ownW k n x=true↔owR x.f2 n=k:=by unfold ownW;exact beq_iff_eq
theorem ownW_no {k:Int} {x:WalkR}:ownW k n x=false↔ ¬ owR x.f2 n=k:=by unfold ownW;simp
theorem take_keep (hR:RoamR g q n R) (hg:graphB g=true) (hq:qryD q=true) {k:Int} {seen list:List WalkR} (hl: ∀ x∈list,R x) (hn:seen.Nodup) (hs: ∀ x∈seen,R x∧owR x.f2 n=k):
  ((takeQ (partG g k n) q k n seen list).1.Nodup∧ ∀ x∈(takeQ (partG g k n) q k n seen list).1,R x∧owR x.f2 n=k)∧((takeQ (partG g k n) q k n seen list).2.Nodup∧ ∀ x∈(takeQ (partG g k n) q k n seen list).2,R x∧ ¬ owR x.f2 n=k)∧seen.length≤(takeQ (partG g k n) q k n seen list).1.length∧
  (takeQ (partG g k n) q k n seen list).2.length+seen.length*960≤(list.filter fun x=>!ownW k n x).length+(takeQ (partG g k n) q k n seen list).1.length*960:=by
 have h:=Tk.keep (P:=R) (B:=960) (fun x hx y hy=>hR.on x hx y (onQ_sub (partG_sub g k n) hy)) (take_few (partG_ok hg k n)) (take_tk (partG_ok hg k n) hq k n seen list) hl hn (fun x hx=>⟨(hs x hx).1,ownW_iff.2 (hs x hx).2⟩) List.nodup_nil (by simp)
 obtain⟨⟨h1,h2⟩,⟨h3,h4⟩,h5,h6⟩:=h
 refine⟨⟨h1,fun x hx=>⟨(h2 x hx).1,ownW_iff.1 (h2 x hx).2⟩⟩,⟨h3,fun x hx=>⟨(h4 x hx).1,ownW_no.1 (h4 x hx).2⟩⟩,h5,?_⟩
 simpa using h6
theorem RI.step (hR:RoamR g q n R) (hg:graphB g=true) (hq:qryD q=true) (hm:(m:Int)=n) (h:RI R n m r) (hi:i<r.f1.length):RI R n m (rstR g q n r i)∧muR (rstR g q n r i)<muR r:=by
 obtain⟨⟨p0,p1⟩,p2,p3⟩:=h.par _ (nAt_in hi)
 unfold rstR takeP
 generalize nAt r.f1 i=p at p0 p1 p2 p3 ⊢
 obtain⟨k,hk⟩:=Int.eq_ofNat_of_zero_le p0
 have hkm:k<m:=by omega
 have hl:=h.len
 obtain⟨r1,r2⟩:=h.row k hkm
 obtain⟨⟨a1,a2⟩,⟨b1,b2⟩,c,d⟩:=take_keep hR hg hq (k:=p.f0) (list:=p.f1) (fun x hx=>(p3 x hx).1) r1 (by rw[hk];exact r2)
 have hf:(p.f1.filter fun x=>!ownW p.f0 n x)=[]:=by
  rw[List.filter_eq_nil_iff]
  intro x hx
  rw[ownW_iff.2 (p3 x hx).2];decide
 rw[hf]at d
 have hk2:p.f0.toNat=k:=by omega
 rw[hk2]at ⊢
 have h8:=(parAll_few (takeQ (partG g p.f0 n) q p.f0 n (nAt r.f0 k) p.f1).2 n).1
 have h9:=wIn_few a1 fun x hx=>hR.win x (a2 x hx).1
 have h10:=wIn_few r1 fun x hx=>hR.win x (r2 x hx).1
 have h11:=lack_set (takeQ (partG g p.f0 n) q p.f0 n (nAt r.f0 k) p.f1).1 r.f0 k (by omega)
 refine⟨⟨by simp only[List.length_set];exact hl,fun j hj=>?_,fun s hs=>?_⟩,?_⟩
 · simp only[]
   rw[nAt_set (by omega)]
   by_cases e:k=j
   · rw[if_pos e]
     subst e
     rw[hk]at a1 a2 ⊢
     exact⟨a1,a2⟩
   · rw[if_neg e]
     exact h.row j hj
 · simp only[List.mem_append]at hs
   rcases hs with hs|hs
   · exact h.par s (List.mem_of_mem_eraseIdx hs)
   · obtain⟨e1,e2,e3⟩:=parAll_mem hs
     exact⟨e1,e2,fun x hx=>⟨(b2 x (e3 x hx).1).1,(e3 x hx).2⟩⟩
 · unfold muR
   simp only[List.length_append,List.length_eraseIdx,if_pos hi,List.length_nil]at d ⊢
   omega
theorem newK_RI (hR:RoamR g q n R) (hg:graphB g=true) (hq:qryD q=true) (hn:1≤n∧n≤8): ∀ k:Nat,(k:Int)≤n→RI R n k (newK g q n k)∧(newK g q n k).f1.length≤k*110592
 |0,_=>⟨⟨rfl,fun k hk=>by omega,fun p hp=>by cases hp⟩,by simp[newK]⟩
 |k+1,hk=>by
  obtain⟨h,hc⟩:=newK_RI hR hg hq hn k (by omega)
  obtain⟨⟨a1,a2⟩,⟨b1,b2⟩,c,d⟩:=take_keep hR hg hq (k:=(k:Int)) (seen:=[]) (list:=staL g q (k:Int) n) (hR.sta k) List.nodup_nil (by simp)
  have h8:=(parAll_few (takeN g q n k).2 n).1
  have h9:=wIn_few b1 fun x hx=>hR.win x (b2 x hx).1
  have hl:=h.len
  refine⟨⟨by simp[newK,newK_len],fun j hj=>?_,fun s hs=>?_⟩,?_⟩
  · by_cases e:j<k
    · have:nAt (newK g q n (k+1)).f0 j=nAt (newK g q n k).f0 j:=by
       unfold nAt List.getD
       rw[newK]
       simp only[]
       rw[List.getElem?_append_left (by omega)]
      rw[this]
      exact h.row j e
    · obtain rfl:j=k:=by omega
      have:nAt (newK g q n (j+1)).f0 j=(takeN g q n j).1:=by
       unfold nAt List.getD
       rw[newK]
       simp only[]
       rw[List.getElem?_append_right (by omega),hl,Nat.sub_self];rfl
      rw[this]
      exact⟨a1,a2⟩
  · rw[newK]at hs
    simp only[List.mem_append]at hs
    rcases hs with hs|hs
    · exact h.par s hs
    · obtain⟨e1,e2,e3⟩:=parAll_mem hs
      exact⟨e1,e2,fun x hx=>⟨(b2 x (e3 x hx).1).1,(e3 x hx).2⟩⟩
  · rw[newK]
    simp only[List.length_append]
    have h10:(takeN g q n k).2.length≤13824:=h9
    omega
theorem newOk_out (h:newOk g q n=true):graphB g=true∧qryD q=true∧1≤n∧n≤8∧((n.toNat:Nat):Int)=n:=by
 unfold newOk at h
 simp only[Bool.and_eq_true,decide_eq_true_eq]at h
 exact⟨h.1,h.2.1,h.2.2.1,h.2.2.2,by omega⟩
theorem newD_RI (hR:RoamR g q n R) (h:newOk g q n=true):RI R n n.toNat (newD g q n)∧muR (newD g q n)≤850231296:=by
 obtain⟨h1,h2,h3,h4,h5⟩:=newOk_out h
 obtain⟨h6,h7⟩:=newK_RI hR h1 h2 ⟨h3,h4⟩ n.toNat (by omega)
 have e:newD g q n=newK g q n n.toNat:=if_pos h
 rw[e]
 refine⟨h6,?_⟩
 have:=lack_le (newK g q n n.toNat).f0
 rw[h6.len]at this
 unfold muR
 omega
theorem RI.ok (h:newOk g q n=true) (hI:RI R n n.toNat r) (k:Int):rstOk g q n r k=(decide (0<r.f1.length)&&decide (0≤k)):=by
 obtain⟨h1,h2,h3,h4,h5⟩:=newOk_out h
 have hl:=hI.len
 unfold rstOk
 rw[h]
 by_cases hp:0<r.f1.length
 · have:=(hI.par _ (nAt_in (Nat.mod_lt k.toNat hp))).1
   rw[decide_eq_true hp,decide_eq_true (show(r.f0.length:Int)=n by omega),decide_eq_true this]
   simp
 · rw[decide_eq_false hp];simp
theorem RI.stepD (hR:RoamR g q n R) (h:newOk g q n=true) (hI:RI R n n.toNat r) (k:Int):RI R n n.toNat (rstD g q n r k)∧muR (rstD g q n r k)≤muR r:=by
 obtain⟨h1,h2,h3,h4,h5⟩:=newOk_out h
 by_cases hs:rstOk g q n r k=true
 · rw[rstD_yes hs]
   rw[hI.ok h]at hs
   simp only[Bool.and_eq_true,decide_eq_true_eq]at hs
   have:=hI.step hR h1 h2 h5 (Nat.mod_lt k.toNat hs.1)
   exact⟨this.1,by omega⟩
 · rw[rstD_no (by simpa using hs)]
   exact⟨hI,Nat.le_refl _⟩
/-! ### to the end -/
def pickR (g:GraphD) (q:QueryD) (n:Int):List Int→RoamD→RoamD
 |[],r=>r
 |k::ks,r=>pickR g q n ks (rstD g q n r k)
def drainR (g:GraphD) (q:QueryD) (n:Int):Nat→RoamD→RoamD
 |0,r=>r
 |f+1,r=>if 0<r.f1.length then drainR g q n f (rstR g q n r 0)else r
def allOk (g:GraphD) (q:QueryD) (n:Int) (ps:List Int):Bool:=newOk g q n&&decide (ps.length≤200)
def allR (g:GraphD) (q:QueryD) (n:Int) (ps:List Int):RoamD:=drainR g q n (muR (pickR g q n ps (newD g q n))) (pickR g q n ps (newD g q n))
def allD (g:GraphD) (q:QueryD) (n:Int) (ps:List Int):RoamD:=if allOk g q n ps=true then allR g q n ps else⟨[],[]⟩
theorem pick_RI (hR:RoamR g q n R) (h:newOk g q n=true): ∀ (ps:List Int) (r:RoamD),RI R n n.toNat r→RI R n n.toNat (pickR g q n ps r)∧muR (pickR g q n ps r)≤muR r
 |[],r,hI=>⟨hI,Nat.le_refl _⟩
 |k::ks,r,hI=>by
  have h1:=hI.stepD hR h k
  have h2:=pick_RI hR h ks _ h1.1
  exact⟨h2.1,by rw[pickR];omega⟩
theorem pick_nil: ∀ (ps:List Int) (r:RoamD),r.f1.length=0→pickR g q n ps r=r
 |[],r,_=>rfl
 |k::ks,r,h=>by
  have:rstOk g q n r k=false:=by unfold rstOk;rw[h];rfl
  rw[pickR,rstD_no this]
  exact pick_nil ks r h
theorem drain_nil (f:Nat) (h:r.f1.length=0):drainR g q n f r=r:=by
 cases f
 · rfl
 · rw[drainR,if_neg (by omega)]
theorem drain_RI (hR:RoamR g q n R) (h:newOk g q n=true): ∀ (f:Nat) (r:RoamD),RI R n n.toNat r→muR r≤f→RI R n n.toNat (drainR g q n f r)∧(drainR g q n f r).f1.length=0
 |0,r,hI,hf=>⟨hI,by unfold muR at hf;rw[drainR];omega⟩
 |f+1,r,hI,hf=>by
  obtain⟨h1,h2,h3,h4,h5⟩:=newOk_out h
  rw[drainR]
  split
  · rename_i hp
    have:=hI.step hR h1 h2 h5 hp
    exact drain_RI hR h f _ this.1 (by omega)
  · exact⟨hI,by omega⟩
theorem all_RI (hR:RoamR g q n R) (h:newOk g q n=true) (ps:List Int):RI R n n.toNat (allR g q n ps)∧(allR g q n ps).f1.length=0:=by
 have h1:=newD_RI hR h
 have h2:=pick_RI hR h ps _ h1.1
 exact drain_RI hR h _ _ h2.1 (Nat.le_refl _)
theorem RI.lens (hR:RoamR g q n R) (hm:m≤8) (h:RI R n m r) (hu:muR r≤850231296):(r.f0.length≤8∧r.f1.length≤850231296)∧(∀ k,k<r.f0.length→(nAt r.f0 k).length≤13824)∧ ∀ k,k<r.f1.length→(nAt r.f1 k).f1.length≤60:=by
 have hl:=h.len
 unfold muR at hu
 refine⟨⟨by omega,by omega⟩,fun k hk=>?_,fun k hk=>(h.par _ (nAt_in hk)).2.1⟩
 obtain⟨h1,h2⟩:=h.row k (by omega)
 exact wIn_few h1 fun x hx=>hR.win x (h2 x hx).1
theorem rows_cnt {b:Nat}: ∀ ds:List (List WalkR),(∀ d∈ds,d.length≤b)→WalkSSCnt ds≤ds.length*(4*b)
 |[],_=>by simp[WalkSSCnt]
 |d::ds,h=>by
  have h1:=rows_cnt ds fun x hx=>h x (by simp[hx])
  have h2:=h d (by simp)
  rw[WalkSSCnt_cons,List.length_cons,Nat.add_mul]
  omega
theorem allD_cnt (g:GraphD) (q:QueryD) (n:Int) (ps:List Int):(allD g q n ps).cnt≤1000000000000:=by
 unfold allD
 split
 · rename_i h
   have h0:newOk g q n=true:=by unfold allOk at h;simp only[Bool.and_eq_true]at h;exact h.1
   obtain⟨h1,h2,h3,h4,h5⟩:=newOk_out h0
   obtain⟨h6,h7⟩:=all_RI (wIn_roam h1) h0 ps
   have hl:=h6.len
   have e:(allR g q n ps).f1=[]:=List.eq_nil_of_length_eq_zero h7
   have h8:=rows_cnt (b:=13824) (allR g q n ps).f0 fun d hd=>by
    obtain⟨k,hk,rfl⟩:=List.getElem_of_mem hd
    have h9:=h6.row k (by omega)
    have h10:nAt (allR g q n ps).f0 k=(allR g q n ps).f0[k]:=by unfold nAt List.getD;rw[List.getElem?_eq_getElem hk];rfl
    rw[h10]at h9
    exact wIn_few h9.1 fun x hx=>(h9.2 x hx).1
   unfold RoamD.cnt
   rw[e]
   have h11:ParcelSCnt []=0:=by simp[ParcelSCnt]
   rw[h11]
   omega
 · simp[RoamD.cnt,WalkSSCnt,ParcelSCnt]
end
end Go.Proofs.YtmdgdnkllclpcaaGreat
