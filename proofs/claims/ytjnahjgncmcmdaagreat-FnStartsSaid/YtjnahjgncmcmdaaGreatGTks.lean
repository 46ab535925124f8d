/- Texts in one: Tkp, Gnt, Owd, Onw, Ons, Tki, Tks. -/
import Derived.Test.YtjnahjgncmcmdaaGreatGNfl
import Derived.Test.YtjnahjgncmcmdaaGreatGGrOk
import Derived.Test.YtjnahjgncmcmdaaGreatGUnf
import Derived.Test.YtjnahjgncmcmdaaGreatGPrt
import Derived.Test.YtjnahjgncmcmdaaGreatGTch
import Derived.Deep.RegionHeld3
import Derived.Test.YtjnahjgncmcmdaaGreatGPri
namespace Go.Proofs.YtjnahjgncmcmdaaGreat
open Go.RowKit
set_option linter.unusedVariables false
set_option linter.unusedSimpArgs false
def eqW (x y:WalkR):Bool:=x.f0==y.f0&&(x.f1==y.f1&&(x.f2==y.f2&&x.f3==y.f3))
theorem eqW_iff {x y:WalkR}:eqW x y=true↔x=y:=by
 unfold eqW
 simp only[Bool.and_eq_true,beq_iff_eq]
 exact⟨fun h=>WalkR.ext' h.1 h.2.1 h.2.2.1 h.2.2.2,fun h=>by subst h;exact⟨rfl,rfl,rfl,rfl⟩⟩
def inW (l:List WalkR) (x:WalkR):Bool:=l.any fun y=>eqW y x
theorem inW_iff {l:List WalkR} {x:WalkR}:inW l x=true↔x∈l:=by
 unfold inW
 rw[List.any_eq_true]
 constructor
 · rintro⟨y,h1,h2⟩
   rwa [← eqW_iff.1 h2]
 · intro h
   exact⟨x,h,eqW_iff.2 rfl⟩
theorem inW_no {l:List WalkR} {x:WalkR} (h:inW l x=false): ¬ x∈l:=fun k=>by rw[inW_iff.2 k]at h;cases h
/-! ### one after the other -/
inductive Tk (own:WalkR→Bool) (on:WalkR→List WalkR):List WalkR→List WalkR→List WalkR→List WalkR×List WalkR→Prop
 |nil (out told:List WalkR):Tk own on [] out told (out,told)
 |far (x:WalkR) (rest out told:List WalkR) (r:List WalkR×List WalkR):own x=false→inW told x=true→Tk own on rest out told r→Tk own on (x::rest) out told r
 |tell (x:WalkR) (rest out told:List WalkR) (r:List WalkR×List WalkR):own x=false→inW told x=false→Tk own on rest out (told++[x]) r→Tk own on (x::rest) out told r
 |known (x:WalkR) (rest out told:List WalkR) (r:List WalkR×List WalkR):own x=true→inW out x=true→Tk own on rest out told r→Tk own on (x::rest) out told r
 |new (x:WalkR) (rest out told:List WalkR) (r:List WalkR×List WalkR):own x=true→inW out x=false→Tk own on (rest++on x) (out++[x]) told r→Tk own on (x::rest) out told r
section
variable {own:WalkR→Bool} {on:WalkR→List WalkR} {x:WalkR} {rest out told:List WalkR} {r:List WalkR×List WalkR}
theorem Tk.nil_inv (h:Tk own on [] out told r):r=(out,told):=by cases h;rfl
theorem Tk.far_inv (h:Tk own on (x::rest) out told r) (h1:own x=false) (h2:inW told x=true):Tk own on rest out told r:=by
 cases h with
 |far _ _ _ _ _ k1 k2 k=>exact k
 |tell _ _ _ _ _ k1 k2 k=>rw[h2]at k2;cases k2
 |known _ _ _ _ _ k1 k2 k=>rw[h1]at k1;cases k1
 |new _ _ _ _ _ k1 k2 k=>rw[h1]at k1;cases k1
theorem Tk.tell_inv (h:Tk own on (x::rest) out told r) (h1:own x=false) (h2:inW told x=false):Tk own on rest out (told++[x]) r:=by
 cases h with
 |far _ _ _ _ _ k1 k2 k=>rw[h2]at k2;cases k2
 |tell _ _ _ _ _ k1 k2 k=>exact k
 |known _ _ _ _ _ k1 k2 k=>rw[h1]at k1;cases k1
 |new _ _ _ _ _ k1 k2 k=>rw[h1]at k1;cases k1
theorem Tk.known_inv (h:Tk own on (x::rest) out told r) (h1:own x=true) (h2:inW out x=true):Tk own on rest out told r:=by
 cases h with
 |far _ _ _ _ _ k1 k2 k=>rw[h1]at k1;cases k1
 |tell _ _ _ _ _ k1 k2 k=>rw[h1]at k1;cases k1
 |known _ _ _ _ _ k1 k2 k=>exact k
 |new _ _ _ _ _ k1 k2 k=>rw[h2]at k2;cases k2
theorem Tk.new_inv (h:Tk own on (x::rest) out told r) (h1:own x=true) (h2:inW out x=false):Tk own on (rest++on x) (out++[x]) told r:=by
 cases h with
 |far _ _ _ _ _ k1 k2 k=>rw[h1]at k1;cases k1
 |tell _ _ _ _ _ k1 k2 k=>rw[h1]at k1;cases k1
 |known _ _ _ _ _ k1 k2 k=>rw[h2]at k2;cases k2
 |new _ _ _ _ _ k1 k2 k=>exact k
end
def tkF (own:WalkR→Bool) (on:WalkR→List WalkR):Nat→List WalkR→List WalkR→List WalkR→List WalkR×List WalkR
 |0,_,out,told=>(out,told)
 |_+1,[],out,told=>(out,told)
 |f+1,x::rest,out,told=>if own x=true then(if inW out x=true then tkF own on f rest out told else tkF own on f (rest++on x) (out++[x]) told)else(if inW told x=true then tkF own on f rest out told else tkF own on f rest out (told++[x]))
theorem nodup_len: ∀ {l p:List WalkR},l.Nodup→(∀ x∈l,x∈p)→l.length≤p.length
 |[],p,_,_=>Nat.zero_le _
 |x::l,p,h,hs=>by
  obtain⟨h1,h2⟩:=List.nodup_cons.1 h
  obtain⟨a,b,hp⟩:=List.append_of_mem (hs x (by simp))
  have:=nodup_len (l:=l) (p:=a++b) h2 fun y hy=>by
   have h3:=hs y (by simp[hy])
   rw[hp,List.mem_append,List.mem_cons]at h3
   rw[List.mem_append]
   rcases h3 with h3|h3|h3
   · exact .inl h3
   · subst h3;exact absurd hy h1
   · exact .inr h3
  rw[hp]
  simp only[List.length_append,List.length_cons]at this ⊢
  omega
/-- How far the taking has come. -/
structure TkI (pot seen:List WalkR) (B n0:Nat) (todo:List WalkR) (i:Nat) (out told:List WalkR):Prop where
 hi:i≤todo.length
 sub: ∀ x∈todo,x∈pot
 out: ∃ new,out=seen++new∧new.Nodup∧(∀ x∈new,x∈pot)∧todo.length≤n0+new.length*B
 told:told.Nodup∧ ∀ x∈told,x∈pot
section
variable {pot seen todo out told:List WalkR} {B n0 i:Nat}
theorem TkI.outLen (h:TkI pot seen B n0 todo i out told):out.length≤seen.length+pot.length:=by
 obtain⟨new,rfl,h1,h2,_⟩:=h.out
 have:=nodup_len h1 h2
 rw[List.length_append];omega
theorem TkI.toldLen (h:TkI pot seen B n0 todo i out told):told.length≤pot.length:=nodup_len h.told.1 h.told.2
theorem TkI.todoLen (h:TkI pot seen B n0 todo i out told):todo.length≤n0+pot.length*B:=by
 obtain⟨new,rfl,h1,h2,h3⟩:=h.out
 have:=Nat.mul_le_mul_right B (nodup_len h1 h2)
 omega
theorem TkI.start (list:List WalkR) (hs: ∀ x∈list,x∈pot):TkI pot seen B list.length list 0 seen []:=⟨Nat.zero_le _,hs,⟨[],by simp,List.nodup_nil,by simp,by simp⟩,List.nodup_nil,by simp⟩
theorem walkAt_mem {l:List WalkR} {i:Nat} (h:i<l.length):walkAt l i∈l:=by
 unfold walkAt List.getD
 rw[List.getElem?_eq_getElem h]
 exact List.getElem_mem h
theorem walk_dropAt {l:List WalkR} {i:Nat} (h:i<l.length):l.drop i=walkAt l i::l.drop (i+1):=by
 rw[List.drop_eq_getElem_cons h]
 congr 1
 unfold walkAt List.getD
 rw[List.getElem?_eq_getElem h];rfl
theorem TkI.next (h:TkI pot seen B n0 todo i out told) (hi:i<todo.length):TkI pot seen B n0 todo (i+1) out told:=⟨hi,h.sub,h.out,h.told⟩
theorem TkI.tell (h:TkI pot seen B n0 todo i out told) (hi:i<todo.length) (hn:inW told (walkAt todo i)=false):TkI pot seen B n0 todo (i+1) out (told++[walkAt todo i]):=by
 refine⟨hi,h.sub,h.out,List.nodup_append.2 ⟨h.told.1,(by simp),fun a ha b hb=>?_⟩,fun y hy=>?_⟩
 · rw[List.mem_singleton]at hb
   rintro rfl
   exact inW_no hn (hb▸ha)
 · rw[List.mem_append,List.mem_singleton]at hy
   rcases hy with hy|hy
   · exact h.told.2 y hy
   · rw[hy];exact h.sub _ (walkAt_mem hi)
theorem TkI.new {on:WalkR→List WalkR} (h:TkI pot seen B n0 todo i out told) (hi:i<todo.length) (hn:inW out (walkAt todo i)=false) (hon: ∀ x∈pot,∀ y∈on x,y∈pot) (hB: ∀ x∈pot,(on x).length≤B):TkI pot seen B n0 (todo++on (walkAt todo i)) (i+1) (out++[walkAt todo i]) told:=by
 have hx:=h.sub _ (walkAt_mem hi)
 refine⟨by rw[List.length_append];omega,fun y hy=>?_,?_,h.told⟩
 · rw[List.mem_append]at hy
   rcases hy with hy|hy
   · exact h.sub y hy
   · exact hon _ hx y hy
 · obtain⟨new,rfl,h1,h2,h3⟩:=h.out
   refine⟨new++[walkAt todo i],by rw[List.append_assoc],List.nodup_append.2 ⟨h1,(by simp),fun a ha b hb=>?_⟩,fun y hy=>?_,?_⟩
   · rw[List.mem_singleton]at hb
     rintro rfl
     exact inW_no hn (List.mem_append.2 (.inr (hb▸ha)))
   · rw[List.mem_append,List.mem_singleton]at hy
     rcases hy with hy|hy
     · exact h2 y hy
     · rw[hy];exact hx
   · have:=hB _ hx
     simp only[List.length_append,List.length_singleton,Nat.add_mul]
     omega
theorem tk_meas {N o t i b B:Nat} (ho:o+1≤N) (hi:i<t) (hb:b≤B):(N-(o+1))*(B+1)+(t+b-(i+1))<(N-o)*(B+1)+(t-i):=by
 have:N-o=(N-(o+1))+1:=by omega
 rw[this,Nat.add_mul (N-(o+1)) 1]
 omega
theorem tk_ends {own:WalkR→Bool} {on:WalkR→List WalkR} (hon: ∀ x∈pot,∀ y∈on x,y∈pot) (hB: ∀ x∈pot,(on x).length≤B): ∀ (f:Nat) (todo:List WalkR) (i:Nat) (out told:List WalkR),TkI pot seen B n0 todo i out told→(seen.length+pot.length-out.length)*(B+1)+(todo.length-i)≤f→Tk own on (todo.drop i) out told (tkF own on f (todo.drop i) out told)
 |0,todo,i,out,told,h,hf=>by
  have:=h.hi
  obtain rfl:i=todo.length:=by omega
  rw[List.drop_length,tkF]
  exact Tk.nil _ _
 |f+1,todo,i,out,told,h,hf=>by
  by_cases hi:i<todo.length
  · rw[walk_dropAt hi,tkF]
    cases ho:own (walkAt todo i)
    · rw[if_neg (by simp)]
      cases ht:inW told (walkAt todo i)
      · rw[if_neg (by simp)]
        exact Tk.tell _ _ _ _ _ ho ht (tk_ends hon hB f todo (i+1) out _ (h.tell hi ht) (by omega))
      · rw[if_pos rfl]
        exact Tk.far _ _ _ _ _ ho ht (tk_ends hon hB f todo (i+1) out _ (h.next hi) (by omega))
    · rw[if_pos rfl]
      cases ht:inW out (walkAt todo i)
      · rw[if_neg (by simp)]
        have hN:=h.new hi ht hon hB
        have h3:=hN.outLen
        have h4:=hB _ (h.sub _ (walkAt_mem hi))
        rw[List.length_append,List.length_singleton]at h3
        have h5:=tk_meas (N:=seen.length+pot.length) (B:=B) h3 hi h4
        have h6:(todo++on (walkAt todo i)).drop (i+1)=todo.drop (i+1)++on (walkAt todo i):=List.drop_append_of_le_length hi
        rw[← h6]
        refine Tk.new _ _ _ _ _ ho ht ?_
        rw[← h6]
        exact tk_ends hon hB f _ (i+1) _ _ hN (by rw[List.length_append,List.length_append,List.length_singleton];omega)
      · rw[if_pos rfl]
        exact Tk.known _ _ _ _ _ ho ht (tk_ends hon hB f todo (i+1) out _ (h.next hi) (by omega))
  · have:=h.hi
    obtain rfl:i=todo.length:=by omega
    rw[List.drop_length,tkF]
    exact Tk.nil _ _
theorem Tk.bnd {own:WalkR→Bool} {on:WalkR→List WalkR} (hon: ∀ x∈pot,∀ y∈on x,y∈pot) (hB: ∀ x∈pot,(on x).length≤B) {rest:List WalkR} {r:List WalkR×List WalkR} (h:Tk own on rest out told r): ∀ {todo:List WalkR} {i:Nat},todo.drop i=rest→TkI pot seen B n0 todo i out told→r.1.length≤seen.length+pot.length∧r.2.length≤pot.length:=by
 induction h with
 |nil out told=>intro todo i _ hI;exact⟨hI.outLen,hI.toldLen⟩
 |far x rest out told r h1 h2 h ih=>
  intro todo i he hI
  have hi:i<todo.length:=Nat.lt_of_not_le fun k=>by rw[List.drop_of_length_le k]at he;cases he
  rw[walk_dropAt hi]at he
  cases he
  exact ih rfl (hI.next hi)
 |tell x rest out told r h1 h2 h ih=>
  intro todo i he hI
  have hi:i<todo.length:=Nat.lt_of_not_le fun k=>by rw[List.drop_of_length_le k]at he;cases he
  rw[walk_dropAt hi]at he
  cases he
  exact ih rfl (hI.tell hi h2)
 |known x rest out told r h1 h2 h ih=>
  intro todo i he hI
  have hi:i<todo.length:=Nat.lt_of_not_le fun k=>by rw[List.drop_of_length_le k]at he;cases he
  rw[walk_dropAt hi]at he
  cases he
  exact ih rfl (hI.next hi)
 |new x rest out told r h1 h2 h ih=>
  intro todo i he hI
  have hi:i<todo.length:=Nat.lt_of_not_le fun k=>by rw[List.drop_of_length_le k]at he;cases he
  rw[walk_dropAt hi]at he
  cases he
  exact ih (List.drop_append_of_le_length hi) (hI.new hi h2 hon hB)
end
/-! ### the arcs of a text's automaton -/
theorem nfaT_arcs (t:ByteArray):Srt (nfaT t).f1∧ ∀ x∈(nfaT t).f1,0≤x.f0∧x.f0<24∧0≤x.f2∧x.f2<24:=by
 unfold nfaT
 by_cases h:(rpM t).2=true
 · rw[if_pos h]
   obtain⟨hp,ho⟩:=rpM_occ (show rpM t=((rpM t).1,true)from Prod.ext rfl h)
   have hl:=gluA_len hp
   refine⟨srt_arcC _ _,fun x hx=>?_⟩
   obtain⟨s,j,h1,h2,_,rfl⟩:=mem_arcC.1 hx
   unfold arcE
   simp only[]
   omega
 · rw[if_neg h]
   exact⟨List.Pairwise.nil,by simp⟩
theorem nfaT_len (t:ByteArray):(nfaT t).f1.length≤262144:=srt_len (nfaT_arcs t).1 fun x hx=>by have:=(nfaT_arcs t).2 x hx;omega
theorem arcs_few {cs:List EdgeR} (hs:Srt cs) (hb: ∀ x∈cs,0≤x.f0∧x.f0<24∧0≤x.f2∧x.f2<24) (w:WalkR) (e:EdgeR):(cs.flatMap (arcOn w e)).length≤24:=by
 have h1: ∀ l:List EdgeR,(l.flatMap (arcOn w e)).length=(l.filter fun c=>decide (c.f0=w.f3∧c.f1=e.f1)).length:=by
  intro l
  induction l with
  |nil=>rfl
  |cons c l ih=>
   rw[List.flatMap_cons,List.length_append,ih,List.filter_cons]
   unfold arcOn
   by_cases h:c.f0=w.f3∧c.f1=e.f1
   · rw[if_pos h,if_pos (decide_eq_true h)];simp;omega
   · rw[if_neg h,if_neg (by simpa using h)];simp
 rw[h1]
 have h2:=up_len ((cs.filter fun c=>decide (c.f0=w.f3∧c.f1=e.f1)).map fun c=>c.f2.toNat) 0 24 (fun k hk=>by
  obtain⟨x,hx,rfl⟩:=List.mem_map.1 hk
  have:=hb x (List.mem_filter.1 hx).1
  omega) (by
  rw[List.pairwise_map]
  refine List.Pairwise.imp_of_mem (fun ha hb' hab=>?_) (List.Pairwise.filter _ hs)
  obtain⟨ha1,ha2⟩:=List.mem_filter.1 ha
  obtain⟨hb1,hb2⟩:=List.mem_filter.1 hb'
  rw[decide_eq_true_eq]at ha2 hb2
  have b1:=hb _ ha1
  have b2:=hb _ hb1
  rw[edgeLt_iff]at hab
  rcases hab with h|⟨_,h|⟨_,h⟩⟩
  · omega
  · rw[ha2.2,hb2.2]at h;omega
  · omega)
 rw[List.length_map]at h2
 exact h2
theorem onL_few {es cs:List EdgeR} (he:es.length≤40) (hs:Srt cs) (hb: ∀ x∈cs,0≤x.f0∧x.f0<24∧0≤x.f2∧x.f2<24) (w:WalkR):(onL es cs w).length≤960:=by
 have:=flat_le (arcsOn cs w) 24 es fun e _=>by
  unfold arcsOn
  split
  · exact arcs_few hs hb w e
  · simp
 unfold onL
 omega
def potW (list:List WalkR):List WalkR:=list++list.flatMap fun x=>(List.range 12).flatMap fun v:Nat=>(List.range 24).map fun s:Nat=>⟨x.f0,x.f1,(v:Int),(s:Int)⟩
theorem potW_len (list:List WalkR):(potW list).length≤list.length*289:=by
 unfold potW
 rw[List.length_append]
 have:=flat_le (fun x:WalkR=>(List.range 12).flatMap fun v:Nat=>(List.range 24).map fun s:Nat=>(⟨x.f0,x.f1,(v:Int),(s:Int)⟩:WalkR)) 288 list fun x _=>by
  have:=flat_le (fun v:Nat=>(List.range 24).map fun s:Nat=>(⟨x.f0,x.f1,(v:Int),(s:Int)⟩:WalkR)) 24 (List.range 12) fun v _=>by simp
  rw[List.length_range]at this
  exact this
 omega
theorem mem_potW {list:List WalkR} {x y:WalkR} (hx:x∈potW list) (h0:y.f0=x.f0) (h1:y.f1=x.f1) (h2:0≤y.f2∧y.f2<12) (h3:0≤y.f3∧y.f3<24):y∈potW list:=by
 have: ∃ z∈list,z.f0=x.f0∧z.f1=x.f1:=by
  unfold potW at hx
  rw[List.mem_append]at hx
  rcases hx with hx|hx
  · exact⟨x,hx,rfl,rfl⟩
  · obtain⟨z,hz,hx⟩:=List.mem_flatMap.1 hx
    obtain⟨v,_,hx⟩:=List.mem_flatMap.1 hx
    obtain⟨s,_,rfl⟩:=List.mem_map.1 hx
    exact⟨z,hz,rfl,rfl⟩
 obtain⟨z,hz,e0,e1⟩:=this
 unfold potW
 rw[List.mem_append]
 right
 refine List.mem_flatMap.2 ⟨z,hz,List.mem_flatMap.2 ⟨y.f2.toNat,List.mem_range.2 (by omega),List.mem_map.2 ⟨y.f3.toNat,List.mem_range.2 (by omega),?_⟩⟩⟩
 exact WalkR.ext' (by simp only[];omega) (by simp only[];omega) (by simp only[];omega) (by simp only[];omega)
theorem info_ints:(Tryz.prog.info? 34).map (fun i=>(i.zero,i.size,i.bytes))=some (some (.slice none 0 0),1,24):=by kernel_rfl
def EdgesIn (n:Nat) (es:List EdgeR):Prop:= ∀ k,k<es.length→(0≤(edgeAt es k).f0∧(edgeAt es k).f0<(n:Int))∧(0≤(edgeAt es k).f2∧(edgeAt es k).f2<(n:Int))
theorem edgeAt_get {es:List EdgeR} {k:Nat} (h:k<es.length):es[k]=edgeAt es k:=by simp[edgeAt,List.getD,h]
theorem edges_in {g:GraphD} (h:graphB g=true):EdgesIn g.f0.toNat g.f1:=fun k hk=>by
 obtain⟨⟨h1,h2⟩,h3,h4⟩:=graphB_out h
 have:=h4 k hk
 by_cases e0:0≤(edgeAt g.f1 k).f0∧(edgeAt g.f1 k).f0<g.f0
 · by_cases e2:0≤(edgeAt g.f1 k).f2∧(edgeAt g.f1 k).f2<g.f0
   · omega
   · have q:=edgK_to (n:=g.f0) (xs:=g.f1) (k:=k) rfl e2
     rw[q]at this
     cases this
 · have q:=edgK_from (n:=g.f0) (xs:=g.f1) (k:=k) rfl e0
   rw[q]at this
   cases this
theorem graph_nat {g:GraphD} (h:graphB g=true): ∃ n:Nat,g.f0=(n:Int)∧0<n∧n≤12∧EdgesIn n g.f1:=by
 obtain⟨⟨h1,h2⟩,_⟩:=graphB_out h
 obtain⟨n,hn⟩:=Int.eq_ofNat_of_zero_le (show 0≤g.f0 by omega)
 have:=edges_in h
 rw[hn]at this
 exact⟨n,hn,by omega,by omega,by simpa using this⟩
theorem IntsO.get {w:World} {lo:Nat} {a:Option Addr} {c:Nat} {xs:List Int} (h:IntsO w lo (.slice a xs.length c) xs): ∃ bb,0<xs.length→a=some ⟨bb,0,none⟩∧lo≤bb∧bb<w.heap.size∧ ∀ q,q<xs.length→w.cell? ⟨bb,q,none⟩=some (.int .i64 (iAt xs q)):=by
 rcases owns_shape h with⟨_,h0,_⟩|⟨g,cap,e,h1,h2,_⟩
 · exact⟨0,fun h=>by omega⟩
 · cases e
   refine⟨g,fun _=>⟨rfl,h1,h2,fun q hq=>?_⟩⟩
   rw[World.ownsRow.cellAt h q (by omega)]
   simp[iAt,List.getD,hq]
/-- The row of v lies below lo or from hi on. -/
def Off (lo hi:Nat) (v:Value):Prop:= ∀ g,v.ownBlock=some g→g<lo∨hi≤g
theorem Off.app {lo hi H:Nat} {v v':Value} (h:Off lo hi v) (hat:v'.ownBlock=v.ownBlock∨v'.ownBlock=some H) (hh:hi≤H):Off lo hi v':=by
 intro g hg
 rcases hat with e|e
 · exact h g (e▸hg)
 · rw[e]at hg;cases hg;exact .inr hh
theorem Off.none (lo hi n c:Nat):Off lo hi (.slice none n c):=fun g h=>by cases h
theorem Off.below {lo hi l:Nat} {v:Value} (h:RowIn l lo v):Off lo hi v:=fun g hg=> .inl (h g hg).2
theorem Off.above {lo hi l h':Nat} {v:Value} (h:RowIn l h' v) (hl:hi≤l):Off lo hi v:=fun g hg=> .inr (Nat.le_trans hl (h g hg).1)
theorem Ab.gr2 {lo:Nat} {a w w':World} {v:Value} (h:Ab lo a w) (hg:w.grownBy w' v.ownBlock) (hr:Off lo a.heap.size v):Ab lo a w':=
 ⟨Nat.le_trans h.1 hg.size,fun k hk hs=>(hg.block k (Nat.lt_of_lt_of_le hs h.1) (fun e=>by have:=hr k e.symm;omega)).trans (h.2 k hk hs)⟩
theorem IntsO.ab {w w':World} {lo:Nat} {v:Value} {xs:List Int} (h:IntsO w lo v xs) (hf:Ab lo w w'):IntsO w' lo v xs:=owns_ab h hf
set_option maxHeartbeats 2000000 in
theorem implOwned_any (g:GraphD) (ev:Value) (k n:Int) (w:World) (he:EdgesR w ev g.f1):
  Calls Tryz.prog 71 #[.agg #[.int .i64 g.f0,ev],.int .i64 k,.int .i64 n] w fun e w'=> ∃ v,e= .returned v∧IntsO w' w.heap.size v (ownL g k n)∧Fr w w':=by
 obtain⟨gb,hgb⟩: ∃ gb,graphB g=gb:=⟨_,rfl⟩;have HG:=Lib.hid he;obtain⟨i0,hi,hz0,hz1,hz2⟩:=info_parts info_int
 have CG:Hid (∀ w',Fr w w'→Calls Tryz.prog 62 #[.agg #[.int .i64 g.f0,ev]] w' fun e w''=>e= .returned (.bool gb)∧Fr w' w''):=Lib.hid fun w' h=>by rw[← hgb];exact implGraphOk_any ev g.f0 g.f1 w' (HG.out.fr h)
 obtain⟨ae,be,oe,ce,rfl,hce,hme,fe⟩:=he.one
 clear he fe HG
 cases gb
 · have HL:Hid (ownL g k n=[]):=Lib.hid (by unfold ownL;rw[hgb];rfl)
   clear hgb
   go_enter Tryz.func71,Tryz.ntmps71
   go_wp2_with fail
   refine(CG.out _ (by exact Qf)).mono ?_
   rintro e w1 ⟨rfl,hf1⟩
   go_wp2_with fail
   go_ret
   exact⟨_,rfl,by rw[HL.out];exact World.ownsRow_nil _ _ _ _,by exact Qf⟩
 · obtain⟨m,hm,hm0,hm1,_⟩:=graph_nat hgb
   have HL:Hid (ownL g k n=ownK k n m):=Lib.hid (by unfold ownL;rw[hgb,hm];rfl)
   rw[hm]at CG ⊢
   clear hgb hm
   go_enter Tryz.func71,Tryz.ntmps71
   go_wp2_with fail
   refine(CG.out _ (by exact Qf)).mono ?_
   rintro e w1 ⟨rfl,hf1⟩
   have B1:Box w1 w.heap.size #[.int .i64 (m:Int),.slice ae g.f1.length ce] 26:=(Box.new _ _ _).fr hf1
   have F1:=B1.facts
   have z1:=hf1.size
   (try simp only[World.size_alloc]at z1)
   go_wp2_with fail
   go_loopw [7,14] (fun o i wr=> ∃ (j c:Nat) (a:Option Addr) (l:List Int),j≤m∧i= .int .i64 j∧o= .slice a l.length c∧Hid (l=ownK k n j)∧Hid (IntsO wr (w.heap.size+1) (.slice a l.length c) l)∧Fr w wr) (fun _ i _=>m-(intOf i).toNat)
   case atStart=>exact⟨0,0,none,[],Nat.zero_le _,rfl,rfl,Lib.hid rfl,Lib.hid (World.ownsRow_nil _ _ _ _),by exact Qf⟩
   case round=>
    obtain⟨j,c,a,l,hj,rfl,rfl,HE,HO,hfr⟩:=hrel
    have zr:=hfr.size
    by_cases hlt:j<m
    · have hll:=ownK_len k n j
      rw[← HE.out]at hll
      go_wp2_with fail
      refine(implOwnerOf_any (j:Int) n _).mono ?_
      rintro e w2 ⟨rfl,hf2⟩
      have HO2:=Lib.hid (IntsO.fr HO.out hf2)
      have z2:=hf2.size
      by_cases how:owR (j:Int) n=k
      · have q:(owR (j:Int) n==k)=true:=by simpa using how
        have HS:Hid (l++[(j:Int)]=ownK k n (j+1)):=Lib.hid (by rw[HE.out,ownK_yes how])
        have HLN:=Lib.hid (show(l++[(j:Int)]).length=l.length+1 by simp)
        clear how
        go_wp2_with(at_builtin;refine wpList_append_rd rfl _ _ 34 rfl (w.heap.size+1) 3 i0 (.int .i64 0) 1 8 Tryz.underlying34 hi hz0 hz1 hz2 rfl (by decide) (.slice a l.length c) l.length (l.map (Value.int .i64)) rfl (World.ownsRow.alloc HO2.out _) _ 1 [.int .i64 (j:Int)] rfl (RdS.new (by first|rfl|(simp;done)) rfl) (by simp[Value.oneCell']) (by unfold maxLen;omega) (by omega) (by exact Qz) ?_;intro a3 c3 w3 hown hgrow hat)
        have hf3:Fr w w3:=append_fr (by exact Qf) (owns_lo HO2.out (by omega)) hgrow
        have HO3:Hid (IntsO w3 (w.heap.size+1) (.slice a3 (l++[(j:Int)]).length c3) (l++[(j:Int)])):=Lib.hid (by unfold IntsO;rw[HLN.out];simpa using hown)
        rw[← HLN.out]
        go_roundw
        case rel=>exact⟨j+1,c3,a3,l++[(j:Int)],by omega,by go_num,rfl,HS,HO3,hf3⟩
        case measure=>(simp[intOf];omega)
      · have q:(owR (j:Int) n==k)=false:=by simpa using how
        have HS:Hid (l=ownK k n (j+1)):=Lib.hid (by rw[HE.out,ownK_no how])
        clear how
        go_wp2_with fail
        go_roundw
        case rel=>exact⟨j+1,c,a,l,by omega,by go_num,rfl,HS,HO2,by exact Qf⟩
        case measure=>(simp[intOf];omega)
    · obtain rfl:j=m:=by omega
      go_wp2_with fail
      go_ret
      exact⟨_,rfl,by rw[HL.out, ← HE.out];exact owns_lo HO.out (by omega),hfr⟩
set_option maxHeartbeats 2000000 in
theorem specOwned_any (g:GraphD) (ev:Value) (k n:Int) (w:World) (he:EdgesR w ev g.f1):
  Calls Tryz.prog 76 #[.agg #[.int .i64 g.f0,ev],.int .i64 k,.int .i64 n] w fun e w'=> ∃ v,e= .returned v∧IntsO w' w.heap.size v (ownL g k n)∧Fr w w':=by
 obtain⟨gb,hgb⟩: ∃ gb,graphB g=gb:=⟨_,rfl⟩;have HG:=Lib.hid he;obtain⟨i0,hi,hz0,hz1,hz2⟩:=info_parts info_int
 have CG:Hid (∀ w',Fr w w'→Calls Tryz.prog 67 #[.agg #[.int .i64 g.f0,ev]] w' fun e w''=>e= .returned (.bool gb)∧Fr w' w''):=Lib.hid fun w' h=>by rw[← hgb];exact specGraphOk_any ev g.f0 g.f1 w' (HG.out.fr h)
 obtain⟨ae,be,oe,ce,rfl,hce,hme,fe⟩:=he.one
 clear he fe HG
 cases gb
 · have HL:Hid (ownL g k n=[]):=Lib.hid (by unfold ownL;rw[hgb];rfl)
   clear hgb
   go_enter Tryz.func76,Tryz.ntmps76
   go_wp2_with fail
   refine(CG.out _ (by exact Qf)).mono ?_
   rintro e w1 ⟨rfl,hf1⟩
   have HM:Hid (IntsO (w1) w.heap.size (.slice (some ⟨w.heap.size+1,0,none⟩) 0 0) []):=Lib.hid (IntsO.fr (made_empty (w:=w.alloc (.cells #[.int .i64 g.f0,.slice ae g.f1.length ce] 26)) (by simp) (by omega)) hf1)
   go_wp2_with fail
   go_ret
   exact⟨_,rfl,by rw[HL.out];exact HM.out,by exact Qf⟩
 · obtain⟨m,hm,hm0,hm1,_⟩:=graph_nat hgb
   have HL:Hid (ownL g k n=ownK k n m):=Lib.hid (by unfold ownL;rw[hgb,hm];rfl)
   rw[hm]at CG ⊢
   clear hgb hm
   go_enter Tryz.func76,Tryz.ntmps76
   go_wp2_with fail
   refine(CG.out _ (by exact Qf)).mono ?_
   rintro e w1 ⟨rfl,hf1⟩
   have B1:Box w1 w.heap.size #[.int .i64 (m:Int),.slice ae g.f1.length ce] 26:=((Box.new _ _ _).alloc _).fr hf1
   have F1:=B1.facts
   have HM:Hid (IntsO (w1) (w.heap.size+1) (.slice (some ⟨w.heap.size+1,0,none⟩) 0 0) []):=Lib.hid (IntsO.fr (made_empty (w:=w.alloc (.cells #[.int .i64 (m:Int),.slice ae g.f1.length ce] 26)) (by simp) (by omega)) hf1)
   have z1:=hf1.size
   (try simp only[World.size_alloc]at z1)
   go_wp2_with fail
   go_loopw [7,8] (fun o i wr=> ∃ (j c:Nat) (a:Option Addr) (l:List Int),j≤m∧i= .int .i64 j∧o= .slice a l.length c∧Hid (l=ownK k n j)∧Hid (IntsO wr (w.heap.size+1) (.slice a l.length c) l)∧Box wr w.heap.size #[.int .i64 (m:Int),.slice ae g.f1.length ce] 26∧Fr w wr) (fun _ i _=>m-(intOf i).toNat)
   case atStart=>exact⟨0,0,_,[],Nat.zero_le _,rfl,rfl,Lib.hid rfl,HM,B1,by exact Qf⟩
   case round=>
    obtain⟨j,c,a,l,hj,rfl,rfl,HE,HO,hB,hfr⟩:=hrel
    have zr:=hfr.size
    have FB:=hB.facts
    by_cases hlt:j<m
    · have hll:=ownK_len k n j
      rw[← HE.out]at hll
      go_wp2_with fail
      refine(specOwnerOf_any (j:Int) n _).mono ?_
      rintro e w2 ⟨rfl,hf2⟩
      have HO2:=Lib.hid (IntsO.fr HO.out hf2)
      have z2:=hf2.size
      have B2:=hB.fr hf2
      by_cases how:owR (j:Int) n=k
      · have q:(owR (j:Int) n==k)=true:=by simpa using how
        have HS:Hid (l++[(j:Int)]=ownK k n (j+1)):=Lib.hid (by rw[HE.out,ownK_yes how])
        have HLN:=Lib.hid (show(l++[(j:Int)]).length=l.length+1 by simp)
        clear how
        go_wp2_with(at_builtin;refine wpList_append_rd rfl _ _ 34 rfl (w.heap.size+1) 3 i0 (.int .i64 0) 1 8 Tryz.underlying34 hi hz0 hz1 hz2 rfl (by decide) (.slice a l.length c) l.length (l.map (Value.int .i64)) rfl (World.ownsRow.alloc HO2.out _) _ 1 [.int .i64 (j:Int)] rfl (RdS.new (by first|rfl|(simp;done)) rfl) (by simp[Value.oneCell']) (by unfold maxLen;omega) (by omega) (by exact Qz) ?_;intro a3 c3 w3 hown hgrow hat)
        have hf3:Fr w w3:=append_fr (by exact Qf) (owns_lo HO2.out (by omega)) hgrow
        have B3:Box w3 w.heap.size #[.int .i64 (m:Int),.slice ae g.f1.length ce] 26:=Box.gr (B2.alloc _) hgrow (fun e=>by have:=(World.ownsRow.lt HO2.out _ e).1;omega)
        have HO3:Hid (IntsO w3 (w.heap.size+1) (.slice a3 (l++[(j:Int)]).length c3) (l++[(j:Int)])):=Lib.hid (by unfold IntsO;rw[HLN.out];simpa using hown)
        rw[← HLN.out]
        go_roundw
        case rel=>exact⟨j+1,c3,a3,l++[(j:Int)],by omega,by go_num,rfl,HS,HO3,B3,hf3⟩
        case measure=>(simp[intOf];omega)
      · have q:(owR (j:Int) n==k)=false:=by simpa using how
        have HS:Hid (l=ownK k n (j+1)):=Lib.hid (by rw[HE.out,ownK_no how])
        clear how
        go_wp2_with fail
        go_roundw
        case rel=>exact⟨j+1,c,a,l,by omega,by go_num,rfl,HS,HO2,B2,by exact Qf⟩
        case measure=>(simp[intOf];omega)
    · obtain rfl:j=m:=by omega
      go_wp2_with fail
      go_ret
      exact⟨_,rfl,by rw[HL.out, ← HE.out];exact owns_lo HO.out (by omega),hfr⟩
def RowB (v:Value):Nat→Prop:=fun i=>v.ownBlock=some i
theorem RowB.tch {w w1 w2:World} {v:Value} (h:Fr w w1) (hg:w1.grownBy w2 v.ownBlock):Tch (RowB v) w w2:=(Tch.of_fr h).trans (Tch.of_gr hg fun i e=>e)
theorem RowB.old {w0 w w':World} {v:Value} {lo hi:Nat} (h:Tch (RowB v) w w') (k:Fr w0 w) (hr:RowIn lo hi v) (hl:w0.heap.size≤lo):Fr w0 w':=h.old k fun i hi e=>by have:=hr i e;omega
set_option maxHeartbeats 8000000 in
set_option maxRecDepth 100000 in
theorem walksOn_any (ev av:Value) (n0:Int) (es:List EdgeR) (nfs:List NfaD) (k0:Nat) (x1 x2 x3:Int) (w:World) (he:EdgesR w ev es) (ha:NfasR w av nfs) (hk0:k0<nfs.length) (he40:es.length≤40) (hcs:(nAt nfs k0).f1.length≤262144):
  Calls Tryz.prog 91 #[.agg #[.int .i64 n0,ev],av,.agg #[.int .i64 (k0:Int),.int .i64 x1,.int .i64 x2,.int .i64 x3]] w fun e w'=> ∃ ao cap,e= .returned (.slice ao (onL es (nAt nfs k0).f1 ⟨k0,x1,x2,x3⟩).length cap)∧WalksW w' w.heap.size w'.heap.size (.slice ao (onL es (nAt nfs k0).f1 ⟨k0,x1,x2,x3⟩).length cap) (onL es (nAt nfs k0).f1 ⟨k0,x1,x2,x3⟩)∧Fr w w':=by
 obtain⟨i0,hi,hz0,hz1,hz2⟩:=info_parts info_Walk
 obtain⟨ae,be,oe,ce,rfl,hce,hme,fe⟩:=he.one
 have HE0:=Lib.hid fe
 obtain⟨aa,ba,oa,ca,rfl,hca,hma,fa⟩:=ha.one
 obtain⟨rfl,hba,fa2⟩:=fa (by omega)
 obtain⟨ua,ue,hua,hue,q0,q1,q2⟩:=fa2 k0 hk0
 obtain⟨cs,hcs'⟩: ∃ cs,(nAt nfs k0).f1=cs:=⟨_,rfl⟩
 rw[hcs']at hua hcs ⊢
 obtain⟨ac,bc,oc,cc,rfl,hcc,hmc,fc⟩:=hua.one
 have HC0:=Lib.hid fc
 have HQ1:Hid (∀ w',Fr w w'→w'.cell? ⟨ba,oa+k0*3+1,none⟩=some (.slice ac cs.length cc)):=Lib.hid fun w' h=>(h.cell (p:=⟨ba,_,none⟩) hba).trans q1
 clear he ha fe fa fa2 hua hue fc q0 q1 q2 hcs'
 obtain⟨W,hW⟩: ∃ W:WalkR,W=⟨(k0:Int),x1,x2,x3⟩:=⟨_,rfl⟩
 rw[← hW]
 have HW0:=Lib.hid hW
 clear hW
 have hmul:es.length*cs.length≤40*262144:=Nat.mul_le_mul he40 hcs
 go_enter Tryz.func91,Tryz.ntmps91
 go_wp2_with fail
 go_loopw [7,15] (fun o i wr=> ∃ (j c:Nat) (a:Option Addr) (l:List WalkR),j≤es.length∧i= .int .i64 j∧o= .slice a l.length c∧Hid (l=onL (es.take j) cs W)∧Hid (WalksW wr (w.heap.size+1+1) wr.heap.size (.slice a l.length c) l)∧Box wr (w.heap.size+1) #[.int .i64 (k0:Int),.int .i64 x1,.int .i64 x2,.int .i64 x3] 48∧Fr w wr) (fun _ i _=>es.length-(intOf i).toNat)
 case atStart=>exact⟨0,0,none,[],Nat.zero_le _,rfl,rfl,Lib.hid (by simp[onL]),Lib.hid (WalksW.nil _ _ _),Box.new' (by simp),by exact Qf⟩
 case round=>
  obtain⟨j,c,a,l,hj,rfl,rfl,HE,HO,hB,hfr⟩:=hrel
  have FB:=hB.facts
  have zr:=hfr.size
  by_cases hlt:j<es.length
  · obtain⟨rfl,hb,hf⟩:=HE0.out (by omega)
    obtain⟨g0,g1,g2⟩:=hf j hlt
    have hskip:=onL_skip (cs:=cs) (w:=W) hlt
    have hhit:=onL_hit (cs:=cs) (w:=W) hlt
    obtain⟨x,hx⟩: ∃ x,edgeAt es j=x:=⟨_,rfl⟩
    rw[hx]at g0 g1 g2 hskip hhit
    obtain⟨e0,e1,e2⟩:=x
    have he1:=e1.toNat_lt
    simp only[]at g0 g1 g2 hskip hhit
    have q0:=(hfr.cell (p:=⟨be,_,none⟩) hb).trans g0
    have q1:=(hfr.cell (p:=⟨be,_,none⟩) hb).trans g1
    have q2:=(hfr.cell (p:=⟨be,_,none⟩) hb).trans g2
    have HX:=Lib.hid hx
    rw[HW0.out]at hskip hhit
    simp only[]at hskip hhit
    rw[← HW0.out]at hskip hhit
    have HSK:=Lib.hid hskip
    have HHI:=Lib.hid hhit
    clear hf g0 g1 g2 hx hskip hhit
    by_cases hm:e0=x2
    · have qm:(e0 !=x2)=false:=by simpa using hm
      have HM:=Lib.hid (HHI.out hm)
      have p1:=HQ1.out _ (show Fr w wr from hfr)
      have hbaw:ba<wr.heap.size:=Nat.lt_of_lt_of_le hba zr
      clear HSK HHI
      have HM0:=Lib.hid hm
      clear hm
      go_wp2_with fail
      obtain⟨wo,rfl⟩: ∃ wo:World,wo=wr:=⟨_,rfl⟩
      go_loopw [7,31] (fun o i wr=> ∃ (k c:Nat) (a:Option Addr) (l:List WalkR),k≤cs.length∧i= .int .i64 k∧o= .slice a l.length c∧Hid (l=onTo es cs W j k)∧Hid (WalksW wr (w.heap.size+1+1) wr.heap.size (.slice a l.length c) l)∧Hid ((Value.slice a l.length c).ownBlock≠some wo.heap.size)∧wo.heap.size<wr.heap.size∧Box wr (w.heap.size+1) #[.int .i64 (k0:Int),.int .i64 x1,.int .i64 x2,.int .i64 x3] 48∧Box wr wo.heap.size #[.int .i64 e0,.int .u8 (e1.toNat:Int),.int .i64 e2] 79∧Fr w wr) (fun _ i _=>cs.length-(intOf i).toNat)
      case atStart=>exact⟨0,c,a,l,Nat.zero_le _,rfl,rfl,Lib.hid (by rw[onTo_0];exact HE.out),Lib.hid (OwW.mono (OwW.alloc HO.out _) (Nat.le_refl _) (by simp)),Lib.hid (fun e=>by have:=HO.out.2 _ e;omega),by simp,hB.alloc _,Box.new _ _ _,by exact Qf⟩
      case round=>
       clear HE HO hB FB zr hfr q0 q1 q2 p1
       obtain⟨k,c,a,l,hk,rfl,rfl,HE,HO,HNE,hwo,hB,hBE,hfr⟩:=hrel
       have FB:=hB.facts
       have FE:=hBE.facts
       have zr:=hfr.size
       have hll:l.length≤10485760:=by
        rw[HE.out]
        have:=onTo_len (es:=es) (cs:=cs) (w:=W) (k:=k) hlt
        omega
       by_cases hltk:k<cs.length
       · obtain⟨rfl,hbc,hfc⟩:=HC0.out (by omega)
         obtain⟨g0,g1,g2⟩:=hfc k hltk
         have hst:=onTo_step (es:=es) (w:=W) (i:=j) hltk
         obtain⟨y,hy⟩: ∃ y,edgeAt cs k=y:=⟨_,rfl⟩
         rw[hy,HX.out]at hst
         rw[hy]at g0 g1 g2
         obtain⟨c0,c1,c2⟩:=y
         have hc1:=c1.toNat_lt
         simp only[]at g0 g1 g2
         have q0:=(hfr.cell (p:=⟨bc,_,none⟩) hbc).trans g0
         have q1:=(hfr.cell (p:=⟨bc,_,none⟩) hbc).trans g1
         have q2:=(hfr.cell (p:=⟨bc,_,none⟩) hbc).trans g2
         have HST:=Lib.hid hst
         clear hfc g0 g1 g2 hy hst
         by_cases h3:c0=x3
         · have t3:(c0==x3)=true:=by simpa using h3
           by_cases h1:c1=e1
           · have t1:((c1.toNat:Int)==(e1.toNat:Int))=true:=by simpa using (byte_eq.2 h1)
             have HS:Hid (l++[⟨(k0:Int),x1,e2,c2⟩]=onTo es cs W j (k+1)):=Lib.hid (by rw[HST.out,HE.out,HW0.out];simp[arcOn,h3,h1])
             have HLN:=Lib.hid (show(l++[(⟨(k0:Int),x1,e2,c2⟩:WalkR)]).length=l.length+1 by simp)
             have HCA:=Lib.hid (wlk_snoc l ⟨(k0:Int),x1,e2,c2⟩)
             clear h3 h1
             go_wp2_with(at_builtin;refine wpList_append_rd rfl _ _ 43 rfl (w.heap.size+1+1) 48 i0 (.agg #[.int .i64 0,.int .i64 0,.int .i64 0,.int .i64 0]) 4 32 Tryz.underlying43 hi hz0 hz1 hz2 rfl (by decide) (.slice a l.length c) l.length (l.flatMap WalkR.cells) rfl (World.ownsRow.alloc (HO.out.1.alloc _) _) _ 1 [.int .i64 (k0:Int),.int .i64 x1,.int .i64 e2,.int .i64 c2] rfl (RdS.new (by first|rfl|(simp;done)) rfl) (by simp[Value.oneCell']) (by unfold maxLen;omega) (by omega) (by exact Qz) ?_;intro a6 c6 w6 hown hgrow hat)
             have z6:=hgrow.size
             (try simp only[World.size_alloc,World.size_drew]at z6)
             have hB6:=Box.gr ((hB.alloc _).alloc _) hgrow (fun e=>by have:=HO.out.2 _ e;omega)
             have hE6:=Box.gr ((hBE.alloc _).alloc _) hgrow HNE.out
             have hf6:Fr w w6:=Fr.app (by exact Qf) hgrow HO.out.2 (by omega)
             have HN6:Hid ((Value.slice a6 (l++[(⟨(k0:Int),x1,e2,c2⟩:WalkR)]).length c6).ownBlock≠some wo.heap.size):=Lib.hid (by
              rw[HLN.out]
              rcases hat with e|e
              · rw[e];exact HNE.out
              · rw[e];simp;omega)
             have HW6:Hid (WalksW w6 (w.heap.size+1+1) w6.heap.size (.slice a6 (l++[(⟨(k0:Int),x1,e2,c2⟩:WalkR)]).length c6) (l++[⟨(k0:Int),x1,e2,c2⟩])):=Lib.hid (by
              have:=OwW.of_owns hown
              rw[← HCA.out, ← HLN.out]at this
              exact this)
             go_wp2_with fail
             go_roundw
             case rel=>exact⟨k+1,c6,a6,l++[⟨(k0:Int),x1,e2,c2⟩],by omega,by go_num,by rw[HLN.out],HS,HW6,HN6,by omega,hB6,hE6,hf6⟩
             case measure=>(simp[intOf];omega)
           · have t1:((c1.toNat:Int)==(e1.toNat:Int))=false:=by simp;exact fun h=>h1 (byte_eq.1 (by omega))
             have HS:Hid (l=onTo es cs W j (k+1)):=Lib.hid (by rw[HST.out,HE.out];simp[arcOn,h1])
             clear h3 h1
             go_wp2_with fail
             go_roundw
             case rel=>exact⟨k+1,c,a,l,by omega,by go_num,rfl,HS,Lib.hid (OwW.mono (OwW.alloc HO.out _) (Nat.le_refl _) (by simp)),HNE,by simp;omega,hB.alloc _,hBE.alloc _,by exact Qf⟩
             case measure=>(simp[intOf];omega)
         · have t3:(c0==x3)=false:=by simpa using h3
           have HS:Hid (l=onTo es cs W j (k+1)):=Lib.hid (by rw[HST.out,HE.out,HW0.out];simp[arcOn,h3])
           clear h3
           go_wp2_with fail
           go_roundw
           case rel=>exact⟨k+1,c,a,l,by omega,by go_num,rfl,HS,Lib.hid (OwW.mono (OwW.alloc HO.out _) (Nat.le_refl _) (by simp)),HNE,by simp;omega,hB.alloc _,hBE.alloc _,by exact Qf⟩
           case measure=>(simp[intOf];omega)
       · obtain rfl:k=cs.length:=by omega
         go_wp2_with fail
         go_roundw
         case rel=>exact⟨j+1,c,a,l,by omega,by go_num,rfl,Lib.hid (by rw[HE.out,HM.out]),HO,hB,hfr⟩
         case measure=>(simp[intOf];omega)
    · have qm:(e0 !=x2)=true:=by simpa using hm
      have HS:=Lib.hid (HSK.out hm)
      clear hm HSK HHI
      go_wp2_with fail
      go_roundw
      case rel=>exact⟨j+1,c,a,l,by omega,by go_num,rfl,Lib.hid (by rw[HE.out,HS.out]),Lib.hid (OwW.mono (OwW.alloc HO.out _) (Nat.le_refl _) (by simp)),hB.alloc _,by exact Qf⟩
      case measure=>(simp[intOf];omega)
  · obtain rfl:j=es.length:=by omega
    have HS:Hid (onL es cs W=l):=Lib.hid (by rw[HE.out,List.take_length])
    go_wp2_with fail
    go_ret
    refine⟨_,_,by rw[HS.out];try rfl,?_,hfr⟩
    rw[HS.out]
    exact OwW.mono HO.out (by omega) (Nat.le_refl _)
def onQ (es:List EdgeR) (nfs:List NfaD) (x:WalkR):List WalkR:=if 0≤x.f0∧x.f0<(nfs.length:Int)then onL es (nAt nfs x.f0.toNat).f1 x else []
theorem onQ_in {es:List EdgeR} {nfs:List NfaD} {k0:Nat} {x1 x2 x3:Int} (h:k0<nfs.length):onQ es nfs ⟨k0,x1,x2,x3⟩=onL es (nAt nfs k0).f1 ⟨k0,x1,x2,x3⟩:=by unfold onQ;rw[if_pos (by simp;omega)];simp
theorem onQ_out {es:List EdgeR} {nfs:List NfaD} {x:WalkR} (h: ¬ (0≤x.f0∧x.f0<(nfs.length:Int))):onQ es nfs x=[]:=if_neg h
set_option maxHeartbeats 4000000 in
theorem l20On_no (ev av:Value) (n0:Int) (es:List EdgeR) (nfs:List NfaD) (x0 x1 x2 x3:Int) (w:World) (he:EdgesR w ev es) (ha:NfasR w av nfs) (hno: ¬ (0≤x0∧x0<(nfs.length:Int))):
  Calls Tryz.prog 104 #[.agg #[.int .i64 n0,ev],av,.agg #[.int .i64 x0,.int .i64 x1,.int .i64 x2,.int .i64 x3]] w fun e w'=> ∃ ao cap,e= .returned (.slice ao 0 cap)∧WalksW w' w.heap.size w'.heap.size (.slice ao 0 cap) []∧Fr w w':=by
 obtain⟨ae,be,oe,ce,rfl,hce,hme,fe⟩:=he.one
 obtain⟨aa,ba,oa,ca,rfl,hca,hma,fa⟩:=ha.one
 have g1:decide (0≤x0∧x0≤(nfs.length:Int)-1)=false:=by simp only[decide_eq_false_iff_not];omega
 have hal:=ha.le
 have HME:Hid (WalksW ((((w.alloc (.cells #[.int .i64 n0,.slice ae es.length ce] 26)).alloc (.cells #[.int .i64 x0,.int .i64 x1,.int .i64 x2,.int .i64 x3] 48)).alloc (.cells #[] 48))) w.heap.size (w.heap.size+1+1+1) (.slice (some ⟨w.heap.size+1+1,0,none⟩) 0 0) []):=Lib.hid ⟨made_empty (by simp) (by omega),RowIn.one (by omega) (by omega)⟩
 clear he ha fe fa hno
 go_enter Tryz.func104,Tryz.ntmps104
 go_wp2_with fail
 refine(l01In_any _ _ _ _).mono ?_
 rintro e w1 ⟨rfl,rfl⟩
 rw[g1]
 go_wp2_with fail
 go_ret
 exact⟨_,_,rfl,OwW.mono HME.out (Nat.le_refl _) (by simp),by exact Qf⟩
set_option maxHeartbeats 16000000 in
set_option maxRecDepth 100000 in
theorem l20On_in (ev av:Value) (n0:Int) (es:List EdgeR) (nfs:List NfaD) (k0:Nat) (x1 x2 x3:Int) (w:World) (he:EdgesR w ev es) (ha:NfasR w av nfs) (hk0:k0<nfs.length) (he40:es.length≤40) (hcs:(nAt nfs k0).f1.length≤262144):
  Calls Tryz.prog 104 #[.agg #[.int .i64 n0,ev],av,.agg #[.int .i64 (k0:Int),.int .i64 x1,.int .i64 x2,.int .i64 x3]] w fun e w'=> ∃ ao cap,e= .returned (.slice ao (onL es (nAt nfs k0).f1 ⟨k0,x1,x2,x3⟩).length cap)∧WalksW w' w.heap.size w'.heap.size (.slice ao (onL es (nAt nfs k0).f1 ⟨k0,x1,x2,x3⟩).length cap) (onL es (nAt nfs k0).f1 ⟨k0,x1,x2,x3⟩)∧Fr w w':=by
 obtain⟨i0,hi,hz0,hz1,hz2⟩:=info_parts info_Walk
 obtain⟨ae,be,oe,ce,rfl,hce,hme,fe⟩:=he.one
 have HE0:=Lib.hid fe
 have hal:=ha.le
 obtain⟨aa,ba,oa,ca,rfl,hca,hma,fa⟩:=ha.one
 obtain⟨rfl,hba,fa2⟩:=fa (by omega)
 obtain⟨ua,ue,hua,hue,q0,q1,q2⟩:=fa2 k0 hk0
 obtain⟨cs,hcs'⟩: ∃ cs,(nAt nfs k0).f1=cs:=⟨_,rfl⟩
 rw[hcs']at hua hcs ⊢
 obtain⟨n1,hn1⟩: ∃ n1,(nAt nfs k0).f0=n1:=⟨_,rfl⟩
 rw[hn1]at q0
 obtain⟨ac,bc,oc,cc,rfl,hcc,hmc,fc⟩:=hua.one
 obtain⟨au,cu,rfl,hau⟩:=RdS.val hue
 clear hau
 have HC0:=Lib.hid fc
 generalize (nAt nfs k0).f2.length=nu at*
 clear he ha fe fa fa2 hua hue fc hcs' hn1
 obtain⟨W,hW⟩: ∃ W:WalkR,W=⟨(k0:Int),x1,x2,x3⟩:=⟨_,rfl⟩
 rw[← hW]
 have HW0:=Lib.hid hW
 clear hW
 have hmul:es.length*cs.length≤40*262144:=Nat.mul_le_mul he40 hcs
 have g1:decide (0≤(k0:Int)∧(k0:Int)≤(nfs.length:Int)-1)=true:=by simp only[decide_eq_true_eq];omega
 go_enter Tryz.func104,Tryz.ntmps104
 go_wp2_with fail
 refine(l01In_any _ _ _ _).mono ?_
 rintro e w1 ⟨rfl,rfl⟩
 rw[g1]
 have hba1:ba<w.heap.size+1:=by omega
 have hba2:ba<w.heap.size+1+1:=by omega
 go_wp2_with fail
 clear q0 q1 q2
 go_loopw [7,9] (fun o i wr=> ∃ (j c:Nat) (a:Option Addr) (l:List WalkR),j≤es.length∧i= .int .i64 j∧o= .slice a l.length c∧Hid (l=onL (es.take j) cs W)∧Hid (WalksW wr (w.heap.size+1+1) wr.heap.size (.slice a l.length c) l)∧Hid ((Value.slice a l.length c).ownBlock≠some (w.heap.size+1+1+1))∧w.heap.size+1+1+1<wr.heap.size∧Box wr w.heap.size #[.int .i64 n0,.slice ae es.length ce] 26∧Box wr (w.heap.size+1) #[.int .i64 (k0:Int),.int .i64 x1,.int .i64 x2,.int .i64 x3] 48∧Box wr (w.heap.size+1+1+1) #[.int .i64 n1,.slice ac cs.length cc,.slice au nu cu] 133∧Fr w wr) (fun _ i _=>es.length-(intOf i).toNat)
 case atStart=>exact⟨0,0,some ⟨w.heap.size+1+1,0,none⟩,[],Nat.zero_le _,rfl,rfl,Lib.hid (by simp[onL]),Lib.hid (OwW.mono (OwW.alloc (OwW.of_owns (made_empty (by simp) (Nat.le_refl _))) _) (by simp) (by simp)),Lib.hid (by simp[Value.ownBlock]),by simp,((Box.new _ _ _).alloc _).alloc _ |>.alloc _,((Box.new' (by simp)).alloc _).alloc _,Box.new' (by simp),by exact Qf⟩
 case round=>
  obtain⟨j,c,a,l,hj,rfl,rfl,HE,HO,HNN,hnn,hG,hB,hN,hfr⟩:=hrel
  have FG:=hG.facts
  have FB:=hB.facts
  have FN:=hN.facts
  have zr:=hfr.size
  by_cases hlt:j<es.length
  · obtain⟨rfl,hb,hf⟩:=HE0.out (by omega)
    obtain⟨g0,g1,g2⟩:=hf j hlt
    have hskip:=onL_skip (cs:=cs) (w:=W) hlt
    have hhit:=onL_hit (cs:=cs) (w:=W) hlt
    obtain⟨x,hx⟩: ∃ x,edgeAt es j=x:=⟨_,rfl⟩
    rw[hx]at g0 g1 g2 hskip hhit
    obtain⟨e0,e1,e2⟩:=x
    have he1:=e1.toNat_lt
    simp only[]at g0 g1 g2 hskip hhit
    have q0:=(hfr.cell (p:=⟨be,_,none⟩) hb).trans g0
    have q1:=(hfr.cell (p:=⟨be,_,none⟩) hb).trans g1
    have q2:=(hfr.cell (p:=⟨be,_,none⟩) hb).trans g2
    have HX:=Lib.hid hx
    rw[HW0.out]at hskip hhit
    simp only[]at hskip hhit
    rw[← HW0.out]at hskip hhit
    have HSK:=Lib.hid hskip
    have HHI:=Lib.hid hhit
    clear hf g0 g1 g2 hx hskip hhit
    by_cases hm:e0=x2
    · have qm:(e0==x2)=true:=by simpa using hm
      have HM:=Lib.hid (HHI.out hm)
      clear HSK HHI hm
      go_wp2_with fail
      obtain⟨wo,rfl⟩: ∃ wo:World,wo=wr:=⟨_,rfl⟩
      go_loopw [7,11] (fun o i wr=> ∃ (k c:Nat) (a:Option Addr) (l:List WalkR),k≤cs.length∧i= .int .i64 k∧o= .slice a l.length c∧Hid (l=onTo es cs W j k)∧Hid (WalksW wr (w.heap.size+1+1) wr.heap.size (.slice a l.length c) l)∧Hid ((Value.slice a l.length c).ownBlock≠some (w.heap.size+1+1+1))∧Hid ((Value.slice a l.length c).ownBlock≠some wo.heap.size)∧w.heap.size+1+1+1<wr.heap.size∧wo.heap.size<wr.heap.size∧Box wr w.heap.size #[.int .i64 n0,.slice (some ⟨be,oe,none⟩) es.length ce] 26∧Box wr (w.heap.size+1) #[.int .i64 (k0:Int),.int .i64 x1,.int .i64 x2,.int .i64 x3] 48∧Box wr (w.heap.size+1+1+1) #[.int .i64 n1,.slice ac cs.length cc,.slice au nu cu] 133∧Box wr wo.heap.size #[.int .i64 e0,.int .u8 (e1.toNat:Int),.int .i64 e2] 79∧Fr w wr) (fun _ i _=>cs.length-(intOf i).toNat)
      case atStart=>exact⟨0,c,a,l,Nat.zero_le _,rfl,rfl,Lib.hid (by rw[onTo_0];exact HE.out),Lib.hid (OwW.mono (OwW.alloc HO.out _) (Nat.le_refl _) (by simp)),HNN,Lib.hid (fun e=>by have:=HO.out.2 _ e;omega),by simp;omega,by simp,hG.alloc _,hB.alloc _,hN.alloc _,Box.new _ _ _,by exact Qf⟩
      case round=>
       clear HE HO HNN hnn hG hB hN FG FB FN zr hfr q0 q1 q2
       obtain⟨k,c,a,l,hk,rfl,rfl,HE,HO,HNN,HNE,hnn,hwo,hG,hB,hN,hBE,hfr⟩:=hrel
       have FG:=hG.facts
       have FB:=hB.facts
       have FN:=hN.facts
       have FE:=hBE.facts
       have zr:=hfr.size
       have hll:l.length≤10485760:=by
        rw[HE.out]
        have:=onTo_len (es:=es) (cs:=cs) (w:=W) (k:=k) hlt
        omega
       by_cases hltk:k<cs.length
       · obtain⟨rfl,hbc,hfc⟩:=HC0.out (by omega)
         obtain⟨g0,g1,g2⟩:=hfc k hltk
         have hst:=onTo_step (es:=es) (w:=W) (i:=j) hltk
         obtain⟨y,hy⟩: ∃ y,edgeAt cs k=y:=⟨_,rfl⟩
         rw[hy,HX.out]at hst
         rw[hy]at g0 g1 g2
         obtain⟨c0,c1,c2⟩:=y
         have hc1:=c1.toNat_lt
         simp only[]at g0 g1 g2
         have q0:=(hfr.cell (p:=⟨bc,_,none⟩) hbc).trans g0
         have q1:=(hfr.cell (p:=⟨bc,_,none⟩) hbc).trans g1
         have q2:=(hfr.cell (p:=⟨bc,_,none⟩) hbc).trans g2
         have HST:=Lib.hid hst
         have HQ2:Hid (∀ w',Fr w w'→w'.cell? ⟨bc,oc+k*3+2,none⟩=some (.int .i64 c2)):=Lib.hid fun w' h=>(h.cell (p:=⟨bc,_,none⟩) hbc).trans g2
         clear hfc g0 g1 g2 hy hst
         by_cases h3:c0=x3
         · have t3:(c0==x3)=true:=by simpa using h3
           by_cases h1:c1=e1
           · have t1:((c1.toNat:Int)==(e1.toNat:Int))=true:=by simpa using (byte_eq.2 h1)
             have HS:Hid (l++[⟨(k0:Int),x1,e2,c2⟩]=onTo es cs W j (k+1)):=Lib.hid (by rw[HST.out,HE.out,HW0.out];simp[arcOn,h3,h1])
             have HLN:=Lib.hid (show(l++[(⟨(k0:Int),x1,e2,c2⟩:WalkR)]).length=l.length+1 by simp)
             have HCA:=Lib.hid (wlk_snoc l ⟨(k0:Int),x1,e2,c2⟩)
             clear h3 h1
             go_wp2_with fail
             go_quiet (fail)
             have hBd:=hB.drewN nq
             have hEd:=hBE.drewN nq
             have hNd:=hN.drewN nq
             have hGd:=hG.drewN nq
             have HOd:=Lib.hid (OwW.drewN HO.out nq)
             have hfd:=hfr.drewN nq
             have hzd:(wr.drewN nq).heap.size=wr.heap.size:=by simp
             go_wp2_with fail
             obtain⟨wd,hwd⟩: ∃ wd:World,wr.drewN nq=wd:=⟨_,rfl⟩
             rw[hwd]at hBd hEd hNd hGd HOd hfd hzd ⊢
             clear hwd hB hBE hN hG FG FB FN FE q0 q1 q2 HO hfr
             have hzd1:wr.heap.size≤wd.heap.size:=by omega
             clear hzd
             have RB: ∀ w',Tch (RowB (.slice a l.length c)) wd w'→ ∀ o,w'.cell? ⟨w.heap.size+1,o,none⟩=_:=fun w' h o=>(Tch.box h hBd (fun e=>by have:=HOd.out.2 _ e;omega)).cell o
             have RE: ∀ w',Tch (RowB (.slice a l.length c)) wd w'→ ∀ o,w'.cell? ⟨wo.heap.size,o,none⟩=_:=fun w' h o=>(Tch.box h hEd HNE.out).cell o
             have RN: ∀ w',Tch (RowB (.slice a l.length c)) wd w'→ ∀ o,w'.cell? ⟨w.heap.size+1+1+1,o,none⟩=_:=fun w' h o=>(Tch.box h hNd HNN.out).cell o
             have RC: ∀ w',Tch (RowB (.slice a l.length c)) wd w'→w'.cell? ⟨bc,oc+k*3+2,none⟩=some (.int .i64 c2):=fun w' h=>HQ2.out _ (RowB.old h hfd HOd.out.2 (by omega))
             go_region_held3 (fun w'=>Tch (RowB (.slice a l.length c)) wd w') (first|(focus((refine Tch.of_fr ?_;repeat(first|(with_reducible exact Fr.refl _)|(with_reducible assumption)|(with_reducible refine Fr.drewN ?_ _)|(with_reducible refine Fr.drew ?_)|(with_reducible refine Fr.alloc ?_ _)|(with_reducible refine Fr.setCell ?_ (by exact Qz) _)|(with_reducible refine Fr.trans ?_ (by with_reducible assumption))));done))|(with_reducible assumption)) ((refine step_append_rd (by rfl) _ _ 43 (by rfl) (w.heap.size+1+1) 48 i0 (.agg #[.int .i64 0,.int .i64 0,.int .i64 0,.int .i64 0]) 4 32 Tryz.underlying43 hi hz0 hz1 hz2 rfl (by decide) (.slice a l.length c) l.length (l.flatMap WalkR.cells) (by rfl) (by exact owns_lo (owns_ab HOd.out.1 (by exact Qa)) (by exact Qz)) _ 1 [.int .i64 (k0:Int),.int .i64 x1,.int .i64 e2,.int .i64 c2] (by rfl) (RdS.new (by first|rfl|(simp;done)) rfl) (by simp[Value.oneCell']) (by unfold maxLen;omega) (by omega) (by exact Qz) ?_;intro a6 c6 w6 hown hgrow hat;have T6:=RowB.tch (w:=wd) (by exact Qf) hgrow))
             have hB6:=Tch.box T6 hBd (fun e=>by have:=HOd.out.2 _ e;omega)
             have hG6:=Tch.box T6 hGd (fun e=>by have:=HOd.out.2 _ e;omega)
             have hE6:=Tch.box T6 hEd HNE.out
             have hN6:=Tch.box T6 hNd HNN.out
             have hf6:Fr w w6:=RowB.old T6 hfd HOd.out.2 (by omega)
             have z6:=T6.size
             clear RB RE RN RC
             have HN6:Hid ((Value.slice a6 (l++[(⟨(k0:Int),x1,e2,c2⟩:WalkR)]).length c6).ownBlock≠some wo.heap.size):=Lib.hid (by
              rw[HLN.out]
              rcases hat with e|e
              · rw[e];exact HNE.out
              · rw[e];simp;omega)
             have HM6:Hid ((Value.slice a6 (l++[(⟨(k0:Int),x1,e2,c2⟩:WalkR)]).length c6).ownBlock≠some (w.heap.size+1+1+1)):=Lib.hid (by
              rw[HLN.out]
              rcases hat with e|e
              · rw[e];exact HNN.out
              · rw[e];simp;omega)
             have HW6:Hid (WalksW w6 (w.heap.size+1+1) w6.heap.size (.slice a6 (l++[(⟨(k0:Int),x1,e2,c2⟩:WalkR)]).length c6) (l++[⟨(k0:Int),x1,e2,c2⟩])):=Lib.hid (by
              have:=OwW.of_owns hown
              rw[← HCA.out, ← HLN.out]at this
              exact this)
             clear hown hgrow hat T6
             go_wp2_with fail
             go_roundw
             case rel=>exact⟨k+1,c6,a6,l++[⟨(k0:Int),x1,e2,c2⟩],by omega,by go_num,by rw[HLN.out],HS,HW6,HM6,HN6,by omega,by omega,hG6,hB6,hN6,hE6,hf6⟩
             case measure=>(simp[intOf];omega)
           · have t1:((c1.toNat:Int)==(e1.toNat:Int))=false:=by simp;exact fun h=>h1 (byte_eq.1 (by omega))
             have HS:Hid (l=onTo es cs W j (k+1)):=Lib.hid (by rw[HST.out,HE.out];simp[arcOn,h1])
             clear h3 h1
             go_wp2_with fail
             go_quiet (fail)
             go_wp2_with fail
             go_roundw
             case rel=>exact⟨k+1,c,a,l,by omega,by go_num,rfl,HS,Lib.hid (OwW.drewN HO.out _),HNN,HNE,hnn,hwo,hG.drewN _,hB.drewN _,hN.drewN _,hBE.drewN _,by exact Qf⟩
             case measure=>(simp[intOf];omega)
         · have t3:(c0==x3)=false:=by simpa using h3
           have HS:Hid (l=onTo es cs W j (k+1)):=Lib.hid (by rw[HST.out,HE.out,HW0.out];simp[arcOn,h3])
           clear h3
           go_wp2_with fail
           go_quiet (fail)
           go_wp2_with fail
           go_roundw
           case rel=>exact⟨k+1,c,a,l,by omega,by go_num,rfl,HS,Lib.hid (OwW.drewN HO.out _),HNN,HNE,hnn,hwo,hG.drewN _,hB.drewN _,hN.drewN _,hBE.drewN _,by exact Qf⟩
           case measure=>(simp[intOf];omega)
       · obtain rfl:k=cs.length:=by omega
         go_wp2_with fail
         go_roundw
         case rel=>exact⟨j+1,c,a,l,by omega,by go_num,rfl,Lib.hid (by rw[HE.out,HM.out]),HO,HNN,hnn,hG,hB,hN,hfr⟩
         case measure=>(simp[intOf];omega)
    · have qm:(e0==x2)=false:=by simpa using hm
      have HS:=Lib.hid (HSK.out hm)
      clear hm HSK HHI
      go_wp2_with fail
      obtain⟨wo,rfl⟩: ∃ wo:World,wo=wr:=⟨_,rfl⟩
      have hB1:=hB.alloc (.cells #[.int .i64 e0,.int .u8 (e1.toNat:Int),.int .i64 e2] 79)
      have FB1:=hB1.facts
      have hN1:=hN.alloc (.cells #[.int .i64 e0,.int .u8 (e1.toNat:Int),.int .i64 e2] 79)
      have FN1:=hN1.facts
      go_loopw [7,11] (fun o i wr=>o= .slice a l.length c∧i= .int .i64 0∧wr=wo.alloc (.cells #[.int .i64 e0,.int .u8 (e1.toNat:Int),.int .i64 e2] 79)) (fun _ _ _=>0)
      case atStart=>exact⟨rfl,rfl,rfl⟩
      case round=>
       obtain⟨rfl,rfl,rfl⟩:=hrel
       by_cases hc0:0<cs.length
       all_goals
        go_wp2_with fail
        go_roundw
        case rel=>exact⟨j+1,c,a,l,by omega,by go_num,rfl,Lib.hid (by rw[HE.out,HS.out]),Lib.hid (OwW.mono (OwW.alloc HO.out _) (Nat.le_refl _) (by simp)),HNN,by simp;omega,hG.alloc _,hB.alloc _,hN.alloc _,by exact Qf⟩
        case measure=>(simp[intOf];omega)
  · obtain rfl:j=es.length:=by omega
    have HS:Hid (onL es cs W=l):=Lib.hid (by rw[HE.out,List.take_length])
    go_wp2_with fail
    go_ret
    refine⟨_,_,by rw[HS.out];try rfl,?_,hfr⟩
    rw[HS.out]
    exact OwW.mono HO.out (by omega) (Nat.le_refl _)
theorem apart_app {u v v':Value} {H:Nat} (h:Apart v u) (hat:v'.ownBlock=v.ownBlock∨v'.ownBlock=some H) (hu: ∀ g,u.ownBlock=some g→g<H):Apart v' u:=by
 intro g h1 h2
 rcases hat with e|e
 · exact h g (e▸h1) h2
 · rw[e]at h1;cases h1;exact absurd (hu _ h2) (Nat.lt_irrefl _)
theorem owns_gr {w w':World} {lo:Nat} {e:TypeId} {sz:Nat} {u v:Value} {n:Nat} {xs:List Value} (h:w.ownsRow lo e sz v n xs) (hg:w.grownBy w' u.ownBlock) (ha:Apart u v):w'.ownsRow lo e sz v n xs:=
 (Tch.of_gr (B:=RowB u) hg fun i e=>e).owns h fun g hv hb=>ha g hb hv
theorem owns_below {w:World} {lo:Nat} {e:TypeId} {sz:Nat} {v:Value} {n:Nat} {xs:List Value} (h:w.ownsRow lo e sz v n xs) {H:Nat} (hH:w.heap.size≤H): ∀ g,v.ownBlock=some g→g<H:=fun g hg=>Nat.lt_of_lt_of_le (h.lt g hg).2 hH
theorem inW_step {l:List WalkR} {x:WalkR} {k:Nat} (h:k<l.length) (hn: ¬ walkAt l k=x) (h0:inW (l.take k) x=false):inW (l.take (k+1)) x=false:=by
 have e:l.take (k+1)=l.take k++[walkAt l k]:=by
  rw[List.take_succ_eq_append_getElem h]
  simp[walkAt,List.getD,h]
 rw[e]
 unfold inW at h0 ⊢
 rw[List.any_append,h0]
 simp only[List.any_cons,List.any_nil,Bool.or_false,Bool.false_or]
 cases hq:eqW (walkAt l k) x
 · rfl
 · exact absurd (eqW_iff.1 hq) hn
theorem inW_yes {l:List WalkR} {x:WalkR} {k:Nat} (h:k<l.length) (hn:walkAt l k=x):inW l x=true:=inW_iff.2 (hn▸walkAt_mem h)
set_option maxHeartbeats 4000000 in
theorem l20In_any (v:Value) (l:List WalkR) (x0 x1 x2 x3:Int) (w:World) (hv:WalksR w v l):
  Calls Tryz.prog 162 #[v,.agg #[.int .i64 x0,.int .i64 x1,.int .i64 x2,.int .i64 x3]] w fun e w'=>e= .returned (.bool (inW l ⟨x0,x1,x2,x3⟩))∧Fr w w':=by
 obtain⟨ao,b,o,cap,rfl,hc,hm,hf⟩:=hv.one
 have HF:=Lib.hid hf
 obtain⟨X,hX⟩: ∃ X:WalkR,X=⟨x0,x1,x2,x3⟩:=⟨_,rfl⟩
 rw[← hX]
 have HX:=Lib.hid hX
 clear hf hv hX
 go_enter Tryz.func162,Tryz.ntmps162
 go_wp2_with fail
 go_loopw [5] (fun i wr=> ∃ k:Nat,k≤l.length∧i= .int .i64 k∧Hid (inW (l.take k) X=false)∧Box wr w.heap.size #[.int .i64 x0,.int .i64 x1,.int .i64 x2,.int .i64 x3] 48∧Fr w wr) (fun i _=>l.length-(intOf i).toNat)
 case atStart=>exact⟨0,Nat.zero_le _,rfl,Lib.hid rfl,Box.new _ _ _,by exact Qf⟩
 case round=>
  obtain⟨k,hk,rfl,HL,hB,hfr⟩:=hrel
  have FB:=hB.facts
  by_cases hlt:k<l.length
  · obtain⟨rfl,hb,hf⟩:=HF.out (by omega)
    obtain⟨g0,g1,g2,g3⟩:=hf k hlt
    have hst:=fun h=>inW_step (x:=X) hlt h HL.out
    have hye:=fun h=>inW_yes (x:=X) hlt h
    obtain⟨y,hy⟩: ∃ y,walkAt l k=y:=⟨_,rfl⟩
    rw[hy]at g0 g1 g2 g3 hst hye
    obtain⟨y0,y1,y2,y3⟩:=y
    simp only[]at g0 g1 g2 g3
    have q0:=(hfr.cell (p:=⟨b,_,none⟩) hb).trans g0
    have q1:=(hfr.cell (p:=⟨b,_,none⟩) hb).trans g1
    have q2:=(hfr.cell (p:=⟨b,_,none⟩) hb).trans g2
    have q3:=(hfr.cell (p:=⟨b,_,none⟩) hb).trans g3
    have HST:=Lib.hid hst
    have HYE:=Lib.hid hye
    clear hf g0 g1 g2 g3 hy hst hye
    by_cases h0:y0=x0
    · by_cases h1:y1=x1
      · by_cases h2:y2=x2
        · by_cases h3:y3=x3
          · have HY:=Lib.hid (HYE.out (by rw[HX.out,h0,h1,h2,h3]))
            subst h0 h1 h2 h3
            go_wp2_with fail
            go_quiet (fail)
            go_wp2_with fail
            go_ret
            exact⟨ret_bool (by rw[HY.out]),by exact Qf⟩
          · have HS:=Lib.hid (HST.out (by rw[HX.out];intro e;exact h3 (congrArg WalkR.f3 e)))
            subst h0 h1 h2
            go_wp2_with fail
            go_quiet (fail)
            go_wp2_with fail
            go_roundw
            case rel=>exact⟨k+1,by omega,by go_num,HS,hB.drewN _,by exact Qf⟩
            case measure=>(simp[intOf];omega)
        · have HS:=Lib.hid (HST.out (by rw[HX.out];intro e;exact h2 (congrArg WalkR.f2 e)))
          subst h0 h1
          go_wp2_with fail
          go_quiet (fail)
          go_wp2_with fail
          go_roundw
          case rel=>exact⟨k+1,by omega,by go_num,HS,hB.drewN _,by exact Qf⟩
          case measure=>(simp[intOf];omega)
      · have HS:=Lib.hid (HST.out (by rw[HX.out];intro e;exact h1 (congrArg WalkR.f1 e)))
        subst h0
        go_wp2_with fail
        go_quiet (fail)
        go_wp2_with fail
        go_roundw
        case rel=>exact⟨k+1,by omega,by go_num,HS,hB.drewN _,by exact Qf⟩
        case measure=>(simp[intOf];omega)
    · have HS:=Lib.hid (HST.out (by rw[HX.out];intro e;exact h0 (congrArg WalkR.f0 e)))
      go_wp2_with fail
      go_quiet (fail)
      go_wp2_with fail
      go_roundw
      case rel=>exact⟨k+1,by omega,by go_num,HS,hB.drewN _,by exact Qf⟩
      case measure=>(simp[intOf];omega)
  · obtain rfl:k=l.length:=by omega
    have HN:Hid (inW l X=false):=Lib.hid (by have:=HL.out;rwa [List.take_length]at this)
    go_wp2_with fail
    go_ret
    exact⟨ret_bool (by rw[HN.out]),by exact Qf⟩
def ownW (k n:Int) (x:WalkR):Bool:=owR x.f2 n==k
/-! ### three rows of walks that lie apart -/
structure Row3 (lo:Nat) (w:World) (T O U:List WalkR) (vt vo vu:Value):Prop where
 rt:WalksO w lo vt T
 ro:WalksO w lo vo O
 ru:WalksO w lo vu U
 ato:Apart vt vo
 atu:Apart vt vu
 aou:Apart vo vu
section
variable {lo:Nat} {w w1 w2:World} {T O U R:List WalkR} {vt vo vu v':Value}
theorem Row3.fr (h:Row3 lo w T O U vt vo vu) (hf:Fr w w1):Row3 lo w1 T O U vt vo vu:=⟨owns_fr h.rt hf,owns_fr h.ro hf,owns_fr h.ru hf,h.ato,h.atu,h.aou⟩
theorem Row3.addT (h:Row3 lo w T O U vt vo vu) (hf:Fr w w1) (ho:WalksO w2 lo v' (T++R)) (hg:w1.grownBy w2 vt.ownBlock) (hat:v'.ownBlock=vt.ownBlock∨v'.ownBlock=some w1.heap.size):Row3 lo w2 (T++R) O U v' vo vu:=by
 have k:=h.fr hf
 exact⟨ho,owns_gr k.ro hg k.ato,owns_gr k.ru hg k.atu,apart_app k.ato hat (owns_below k.ro (Nat.le_refl _)),apart_app k.atu hat (owns_below k.ru (Nat.le_refl _)),k.aou⟩
theorem Row3.addO (h:Row3 lo w T O U vt vo vu) (hf:Fr w w1) (ho:WalksO w2 lo v' (O++R)) (hg:w1.grownBy w2 vo.ownBlock) (hat:v'.ownBlock=vo.ownBlock∨v'.ownBlock=some w1.heap.size):Row3 lo w2 T (O++R) U vt v' vu:=by
 have k:=h.fr hf
 exact⟨owns_gr k.rt hg k.ato.symm,ho,owns_gr k.ru hg k.aou,(apart_app k.ato.symm hat (owns_below k.rt (Nat.le_refl _))).symm,k.atu,apart_app k.aou hat (owns_below k.ru (Nat.le_refl _))⟩
theorem Row3.addU (h:Row3 lo w T O U vt vo vu) (hf:Fr w w1) (ho:WalksO w2 lo v' (U++R)) (hg:w1.grownBy w2 vu.ownBlock) (hat:v'.ownBlock=vu.ownBlock∨v'.ownBlock=some w1.heap.size):Row3 lo w2 T O (U++R) vt vo v':=by
 have k:=h.fr hf
 exact⟨owns_gr k.rt hg k.atu.symm,owns_gr k.ro hg k.aou.symm,ho,k.ato,(apart_app k.atu.symm hat (owns_below k.rt (Nat.le_refl _))).symm,(apart_app k.aou.symm hat (owns_below k.ro (Nat.le_refl _))).symm⟩
end
/-- What a taking gives back: two rows in blocks of their own, apart. -/
def TkPost (w:World) (r:List WalkR×List WalkR) (e:Ending) (w':World):Prop:= ∃ a0 c0 a1 c1 l0 h0 l1 h1,e= .returned (.tuple #[.slice a0 r.1.length c0,.slice a1 r.2.length c1])∧WalksW w' l0 h0 (.slice a0 r.1.length c0) r.1∧WalksW w' l1 h1 (.slice a1 r.2.length c1) r.2∧(w.heap.size≤l0∧l0≤h0∧h0≤w'.heap.size∧w.heap.size≤l1∧l1≤h1∧h1≤w'.heap.size∧(h0≤l1∨h1≤l0))∧Fr w w'
theorem WalksO.tight {w:World} {lo:Nat} {v:Value} {xs:List WalkR} (h:WalksO w lo v xs) (hlo:lo≤w.heap.size): ∃ l h',WalksW w l h' v xs∧lo≤l∧l≤h'∧h'≤w.heap.size∧((v.ownBlock=none∧l=lo∧h'=lo)∨(v.ownBlock=some l∧h'=l+1)):=by
 obtain⟨h1,h2|⟨g,cap,cur,hv,hg,hh,hr⟩⟩:=h
 · refine⟨lo,lo,⟨⟨h1,.inl h2⟩,fun g e=>?_⟩,Nat.le_refl _,Nat.le_refl _,hlo,.inl ⟨?_,rfl,rfl⟩⟩
   · rw[h2.1]at e;cases e
   · rw[h2.1];rfl
 · have hlt:=(Array.getElem?_eq_some_iff.1 hh).1
   refine⟨g,g+1,⟨⟨h1,.inr ⟨g,cap,cur,hv,Nat.le_refl _,hh,hr⟩⟩,fun q e=>?_⟩,hg,by omega,by omega,.inr ⟨?_,rfl⟩⟩
   · rw[hv]at e;cases e;exact⟨Nat.le_refl _,Nat.lt_succ_self _⟩
   · rw[hv];rfl
theorem TkPost.mk' {w w':World} {r:List WalkR×List WalkR} {a0 a1:Option Addr} {c0 c1:Nat} (h0:WalksO w' w.heap.size (.slice a0 r.1.length c0) r.1) (h1:WalksO w' w.heap.size (.slice a1 r.2.length c1) r.2) (ha:Apart (.slice a0 r.1.length c0) (.slice a1 r.2.length c1)) (hf:Fr w w'):TkPost w r (.returned (.tuple #[.slice a0 r.1.length c0,.slice a1 r.2.length c1])) w':=by
 obtain⟨l0,k0,p0,q1,q2,q3,q4⟩:=h0.tight hf.size
 obtain⟨l1,k1,p1,s1,s2,s3,s4⟩:=h1.tight hf.size
 refine⟨a0,c0,a1,c1,l0,k0,l1,k1,rfl,p0,p1,⟨q1,q2,q3,s1,s2,s3,?_⟩,hf⟩
 rcases q4 with⟨e1,e2,e3⟩|⟨e1,e2⟩
 · left;omega
 · rcases s4 with⟨f1,f2,f3⟩|⟨f1,f2⟩
   · right;omega
   · have:l0≠l1:=fun e=>ha l0 e1 (e.symm▸f1)
     omega
theorem l20On_any (ev av:Value) (n0:Int) (es:List EdgeR) (nfs:List NfaD) (x:WalkR) (w:World) (he:EdgesR w ev es) (ha:NfasR w av nfs) (he40:es.length≤40) (hcs: ∀ j,j<nfs.length→(nAt nfs j).f1.length≤262144):
  Calls Tryz.prog 104 #[.agg #[.int .i64 n0,ev],av,.agg #[.int .i64 x.f0,.int .i64 x.f1,.int .i64 x.f2,.int .i64 x.f3]] w fun e w'=> ∃ ao cap,e= .returned (.slice ao (onQ es nfs x).length cap)∧WalksW w' w.heap.size w'.heap.size (.slice ao (onQ es nfs x).length cap) (onQ es nfs x)∧Fr w w':=by
 obtain⟨x0,x1,x2,x3⟩:=x
 by_cases h:0≤x0∧x0<(nfs.length:Int)
 · obtain⟨k0,rfl⟩:=Int.eq_ofNat_of_zero_le h.1
   have hk:k0<nfs.length:=by omega
   rw[onQ_in hk]
   exact l20On_in ev av n0 es nfs k0 x1 x2 x3 w he ha hk he40 (hcs k0 hk)
 · rw[onQ_out (x:=⟨x0,x1,x2,x3⟩) h]
   exact l20On_no ev av n0 es nfs x0 x1 x2 x3 w he ha h
theorem wpList_append_first {P:Program} {w:World} {ops:Array Oper} {rest:List Oper} {o:Oper} {a:Act} {Q:Exit→Act→World→Prop} (hgd:o.guard=none) (s x:Operand) (t:TypeId)
  (ho:o.op= .call {callee:= .builtin .append,args:= #[s,x],argTypes:= #[t,t]})
  (base:Nat) (e:TypeId) (i:TypeInfo) (z:Value) (size bytes:Nat) (ht:P.underlying t=some (.slice e)) (hi:P.info? e=some i) (hz:i.zero=some z)
  (hsize:i.size=size) (hby:i.bytes=bytes) (hzs:z.cells.size=size) (hsz:0<size)
  (v:Value) (hs:a.eval s=v) (hown:w.ownsRow base e size v 0 [])
  (vx:Value) (m:Nat) (news:List Value) (hx:a.eval x=vx) (hr:RdS w size vx m news) (h1: ∀ u∈news,u.oneCell'=true)
  (h63:m≤maxLen) (hbytes:m*bytes≤140737488355328) (hbase:base≤w.heap.size)
  (h: ∀ ao cap w',w'.ownsRow base e size (.slice ao m cap) m news→w.grownBy w' v.ownBlock→((Value.slice ao m cap).ownBlock=v.ownBlock∨(Value.slice ao m cap).ownBlock=some w.heap.size)→wpList P ops Q rest (a.put o.dst (.slice ao m cap)) w'):wpList P ops Q (o::rest) a w:=by
 refine wpList_append_rd hgd s x t ho base e i z size bytes ht hi hz hsize hby hzs hsz v 0 [] hs hown vx m news hx hr h1 (by omega) (by rw[Nat.zero_add];exact hbytes) hbase fun ao cap w' q1 q2 q3=>?_
 simp only[Nat.zero_add,List.nil_append]at q1 q3 ⊢
 exact h ao cap w' q1 q2 q3
set_option maxHeartbeats 16000000 in
set_option maxRecDepth 100000 in
theorem l20Take_any (ev av sv lv:Value) (n0 k n:Int) (es:List EdgeR) (nfs:List NfaD) (seen list:List WalkR) (r:List WalkR×List WalkR) (w:World) (he:EdgesR w ev es) (ha:NfasR w av nfs) (hs:WalksR w sv seen) (hl:WalksR w lv list)
  (he40:es.length≤40) (hcs: ∀ j,j<nfs.length→(nAt nfs j).f1.length≤262144) (hon: ∀ x∈potW list,∀ y∈onQ es nfs x,y∈potW list) (hB: ∀ x∈potW list,(onQ es nfs x).length≤960)
  (hss:seen.length≤1048576) (hll:list.length≤1048576) (hr:Tk (ownW k n) (onQ es nfs) list seen [] r):
  Calls Tryz.prog 102 #[.agg #[.int .i64 n0,ev],av,.int .i64 k,.int .i64 n,sv,lv] w fun e w'=>TkPost w r e w':=by
 obtain⟨i0,hi,hz0,hz1,hz2⟩:=info_parts info_Walk
 have HS:=Lib.hid hs;have HL:=Lib.hid hl;have HR:=Lib.hid hr;have HON:=Lib.hid hon;have HBB:=Lib.hid hB
 have hpl:=potW_len list
 obtain⟨pl,hple⟩: ∃ pl,(potW list).length=pl:=⟨_,rfl⟩
 rw[hple]at hpl
 have HPL:=Lib.hid hple
 have CO:Hid (∀ x w',Fr w w'→Calls Tryz.prog 104 #[.agg #[.int .i64 n0,ev],av,.agg #[.int .i64 x.f0,.int .i64 x.f1,.int .i64 x.f2,.int .i64 x.f3]] w' fun e w''=> ∃ ao cap,e= .returned (.slice ao (onQ es nfs x).length cap)∧WalksW w'' w'.heap.size w''.heap.size (.slice ao (onQ es nfs x).length cap) (onQ es nfs x)∧Fr w' w''):=Lib.hid fun x w' h=>l20On_any ev av n0 es nfs x w' (he.fr h) (ha.fr h) he40 hcs
 obtain⟨ae,be,oe,ce,rfl,hce,hme,fe⟩:=he.one
 obtain⟨aa,ba,oa,ca,rfl,hca,hma,fa⟩:=ha.one
 obtain⟨asv,csv,rfl,has⟩:=RdS.val hs
 obtain⟨al,cl,rfl,hal⟩:=RdS.val hl
 clear he ha hs hl fe fa has hal hr hon hB hcs hple
 go_enter Tryz.func102,Tryz.ntmps102
 go_wp2_with(first|(at_builtin;refine wpList_append_first rfl _ _ 43 rfl (w.heap.size+1) 48 i0 (.agg #[.int .i64 0,.int .i64 0,.int .i64 0,.int .i64 0]) 4 32 Tryz.underlying43 hi hz0 hz1 hz2 rfl (by decide) (.slice (some ⟨w.heap.size+1,0,none⟩) 0 0) rfl (made_empty (by simp) (by exact Qz)) _ list.length (list.flatMap WalkR.cells) rfl (HL.out.fr (by exact Qf)) (walk_oneCells _) (by unfold maxLen;omega) (by omega) (by exact Qz) ?_;intro a1 c1 w1 hown1 hgrow1 hat1;have hf1:Fr w w1:=Fr.app (by exact Qf) hgrow1 (RowIn.one (lo:=w.heap.size+1) (hi:=w.heap.size+2) (Nat.le_refl _) (by omega)) (by omega);have hB1:Box w1 w.heap.size #[.int .i64 n0,.slice ae es.length ce] 26:=Box.gr ((Box.new _ _ _).alloc _) hgrow1 (by simp[Value.ownBlock]);have z1:=hgrow1.size;(try simp only[World.size_alloc]at z1))|(at_builtin;refine wpList_append_first rfl _ _ 43 rfl (w.heap.size+1) 48 i0 (.agg #[.int .i64 0,.int .i64 0,.int .i64 0,.int .i64 0]) 4 32 Tryz.underlying43 hi hz0 hz1 hz2 rfl (by decide) (.slice (some ⟨w1.heap.size,0,none⟩) 0 0) rfl (made_empty (by simp) (by exact Qz)) _ seen.length (seen.flatMap WalkR.cells) rfl (HS.out.fr (by exact Qf)) (walk_oneCells _) (by unfold maxLen;omega) (by omega) (by exact Qz) ?_;intro a2 c2 w2 hown2 hgrow2 hat2))
 have hf2:Fr w w2:=Fr.app (by exact Qf) hgrow2 (RowIn.one (lo:=w1.heap.size) (hi:=w1.heap.size+1) (Nat.le_refl _) (by omega)) (by omega)
 have z2:=hgrow2.size
 (try simp only[World.size_alloc]at z2)
 have hB2:=Box.gr (hB1.alloc (.cells #[] 48)) hgrow2 (by simp[Value.ownBlock];omega)
 have H3:Hid (Row3 (w.heap.size+1) (w2.alloc (.cells #[] 48)) list seen [] (.slice a1 list.length c1) (.slice a2 seen.length c2) (.slice (some ⟨w2.heap.size,0,none⟩) 0 0)):=Lib.hid (by
  have hA:Apart (.slice a1 list.length c1) (.slice (some ⟨w1.heap.size,0,none⟩) 0 0):=fun g h1 h2=>by have:=(hown1.lt g h1).2;have e:w1.heap.size=g:=(by simpa [Value.ownBlock]using h2);omega
  have h1:=owns_gr (hown1.alloc (.cells #[] 48)) hgrow2 hA.symm
  have hA2:=apart_app hA.symm hat2 (fun g hg=>by have:=(hown1.lt g hg).2;simp;omega)
  refine⟨h1.alloc _,hown2.alloc _,made_empty rfl (by omega),hA2.symm,fun g q1 q2=>?_,fun g q1 q2=>?_⟩
  · have:=(h1.lt g q1).2;have e:w2.heap.size=g:=(by simpa [Value.ownBlock]using q2);omega
  · have:=(hown2.lt g q1).2;have e:w2.heap.size=g:=(by simpa [Value.ownBlock]using q2);omega)
 have HI:Hid (TkI (potW list) seen 960 list.length list 0 seen []):=Lib.hid (TkI.start list fun x hx=>List.mem_append.2 (.inl hx))
 clear hown1 hgrow1 hat1 hown2 hgrow2 hat2 hB1
 go_loopw [14,15,16,17] (fun t o u i wr=> ∃ (j ct co cu:Nat) (at_ ao au:Option Addr) (T O U:List WalkR),i= .int .i64 j∧t= .slice at_ T.length ct∧o= .slice ao O.length co∧u= .slice au U.length cu∧Hid (TkI (potW list) seen 960 list.length T j O U)∧Hid (Tk (ownW k n) (onQ es nfs) (T.drop j) O U r)∧Hid (Row3 (w.heap.size+1) wr T O U (.slice at_ T.length ct) (.slice ao O.length co) (.slice au U.length cu))∧Box wr w.heap.size #[.int .i64 n0,.slice ae es.length ce] 26∧Fr w wr) (fun t o _ i _=>(seen.length+pl-lenV o)*961+(lenV t-(intOf i).toNat))
 case atStart=>exact⟨0,c1,c2,0,a1,a2,some ⟨w2.heap.size,0,none⟩,list,seen,[],rfl,rfl,rfl,rfl,HI,Lib.hid (by rw[List.drop_zero];exact HR.out),H3,hB2.alloc _,by exact Qf⟩
 case round=>
  clear H3 HI hB2
  obtain⟨j,ct,co,cu,at_,ao,au,T,O,U,rfl,rfl,rfl,rfl,HI,HT,H3,hB,hfr⟩:=hrel
  have FB:=hB.facts
  have zr:=hfr.size
  have hjT:=HI.out.hi
  have hTl:=HI.out.todoLen
  have hOl:=HI.out.outLen
  have hUl:=HI.out.toldLen
  rw[HPL.out]at hTl hOl hUl
  by_cases hlt:j<T.length
  · obtain⟨ao',bT,oT,cT,heT,_,_,hfT⟩:=(WalksO.rd H3.out.rt).one
    cases heT
    obtain⟨rfl,hbT,hcT⟩:=hfT (by omega)
    obtain⟨q0,q1,q2,q3⟩:=hcT j hlt
    have hd:=walk_dropAt hlt
    obtain⟨x,hx⟩: ∃ x,walkAt T j=x:=⟨_,rfl⟩
    rw[hx]at q0 q1 q2 q3 hd
    have HD:=Lib.hid hd
    have HX:=Lib.hid hx
    obtain⟨x0,x1,x2,x3⟩:=x
    simp only[]at q0 q1 q2 q3
    clear hcT hfT hd hx
    go_wp2_with fail
    refine(specOwnerOf_any _ _ _).mono ?_
    rintro e w3 ⟨rfl,hf3⟩
    have BW3:Box w3 wr.heap.size #[.int .i64 x0,.int .i64 x1,.int .i64 x2,.int .i64 x3] 48:=(Box.new _ _ _).fr hf3
    have BG3:Box w3 w.heap.size #[.int .i64 n0,.slice ae es.length ce] 26:=(hB.alloc _).fr hf3
    have H33:=Lib.hid (H3.out.fr (show Fr wr w3 by exact Qf))
    have HNO:Hid (∀ g,(Value.slice ao O.length co).ownBlock=some g→g<wr.heap.size):=Lib.hid fun g hg=>(H3.out.ro.lt g hg).2
    have HNU:Hid (∀ g,(Value.slice au U.length cu).ownBlock=some g→g<wr.heap.size):=Lib.hid fun g hg=>(H3.out.ru.lt g hg).2
    have HNT:Hid (∀ g,(Value.slice (some ⟨bT,oT,none⟩) T.length ct).ownBlock=some g→g<wr.heap.size):=Lib.hid fun g hg=>(H3.out.rt.lt g hg).2
    have FW3:=BW3.facts
    have FG3:=BG3.facts
    have z3:=hf3.size
    (try simp only[World.size_alloc]at z3)
    clear q0 q1 q2 q3 H3 FB hB
    by_cases how:owR x2 n=k
    · have q:(owR x2 n !=k)=false:=by simpa using how
      have HOW:Hid (ownW k n ⟨x0,x1,x2,x3⟩=true):=Lib.hid (by unfold ownW;simpa using how)
      clear how
      go_wp2_with fail
      refine(l20In_any _ O x0 x1 x2 x3 _ ((WalksO.rd H33.out.ro).fr (by exact Qf))).mono ?_
      rintro e w4 ⟨rfl,hf4⟩
      have BW4:=BW3.fr hf4
      have BG4:=BG3.fr hf4
      have H34:=Lib.hid (H33.out.fr hf4)
      have FW4:=BW4.facts
      have FG4:=BG4.facts
      have z4:=hf4.size
      clear FW3 FG3 BW3 BG3 H33
      cases hin:inW O ⟨x0,x1,x2,x3⟩
      · have HIN:=Lib.hid (HI.out.new hlt (by rw[HX.out];exact hin) HON.out HBB.out)
        have HTN:=Lib.hid (by have:=HT.out;rw[HD.out]at this;exact this.new_inv HOW.out hin)
        rw[HX.out]at HIN
        have hol3:=HIN.out.outLen
        have hbb:=HBB.out _ (HI.out.sub _ (walkAt_mem hlt))
        rw[HX.out]at hbb
        rw[HPL.out,List.length_append,List.length_singleton]at hol3
        have hdr:Hid ((T++onQ es nfs ⟨x0,x1,x2,x3⟩).drop (j+1)=T.drop (j+1)++onQ es nfs ⟨x0,x1,x2,x3⟩):=Lib.hid (List.drop_append_of_le_length hlt)
        rw[← hdr.out]at HTN
        have HLN:=Lib.hid (show(O++[(⟨x0,x1,x2,x3⟩:WalkR)]).length=O.length+1 by simp)
        have HCA:=Lib.hid (wlk_snoc O ⟨x0,x1,x2,x3⟩)
        have CX:=CO.out ⟨x0,x1,x2,x3⟩
        obtain⟨R,hR⟩: ∃ R,onQ es nfs ⟨x0,x1,x2,x3⟩=R:=⟨_,rfl⟩
        rw[hR]at HIN HTN hbb CX hdr
        have CX:=Lib.hid CX
        clear hin hR HI HT
        go_wp2_with(at_builtin;refine wpList_append_rd rfl _ _ 43 rfl (w.heap.size+1) 48 i0 (.agg #[.int .i64 0,.int .i64 0,.int .i64 0,.int .i64 0]) 4 32 Tryz.underlying43 hi hz0 hz1 hz2 rfl (by decide) (.slice ao O.length co) O.length (O.flatMap WalkR.cells) rfl (World.ownsRow.alloc H34.out.ro _) _ 1 [.int .i64 x0,.int .i64 x1,.int .i64 x2,.int .i64 x3] rfl (RdS.new (by first|rfl|(simp;done)) rfl) (by simp[Value.oneCell']) (by unfold maxLen;omega) (by omega) (by exact Qz) ?_;intro a5 c5 w5 hown5 hgrow5 hat5;have H35:=Lib.hid (H34.out.addO (v':= .slice a5 (O.length+1) c5) (R:=[⟨x0,x1,x2,x3⟩]) (show Fr w4 _ by exact Qf) (by unfold WalksO;rw[HCA.out,HLN.out];exact hown5) hgrow5 hat5);have T5:=RowB.tch (w:=w4) (by exact Qf) hgrow5;have hOlo: ∀ g,(Value.slice ao O.length co).ownBlock=some g→w.heap.size+1≤g∧g<wr.heap.size:=(fun g hg=>⟨(H34.out.ro.lt g hg).1,HNO.out g hg⟩);have BW5:=Tch.box T5 BW4 (fun e=>by have:=hOlo _ e;omega);have BG5:=Tch.box T5 BG4 (fun e=>by have:=hOlo _ e;omega);have FW5:=BW5.facts;have FG5:=BG5.facts;have z5:=T5.size)
        have hf4w:Fr w w4:=by exact Qf
        have hf5:Fr w w5:=RowB.old T5 hf4w (lo:=w.heap.size+1) (hi:=wr.heap.size) (fun g hg=>hOlo g hg) (by omega)
        refine(CX.out _ hf5).mono ?_
        rintro e w6 ⟨a6,c6,rfl,h6,hf6⟩
        have H36:=Lib.hid (H35.out.fr hf6)
        have HR6:=Lib.hid (WalksW.rd h6)
        have BG6:=BG5.fr hf6
        have FG6:=BG6.facts
        have z6:=hf6.size
        have hf6w:Fr w w6:=hf5.trans hf6
        have HLT:=Lib.hid (show(T++R).length=T.length+R.length by simp)
        clear h6 H35 hown5 hgrow5 hat5 T5 hOlo BW5 BG5 FW5 FG5 FW4 FG4 BW4 BG4 H34
        go_wp2_with(at_builtin;refine wpList_append_rd rfl _ _ 43 rfl (w.heap.size+1) 48 i0 (.agg #[.int .i64 0,.int .i64 0,.int .i64 0,.int .i64 0]) 4 32 Tryz.underlying43 hi hz0 hz1 hz2 rfl (by decide) (.slice (some ⟨bT,oT,none⟩) T.length ct) T.length (T.flatMap WalkR.cells) rfl H36.out.rt _ R.length (R.flatMap WalkR.cells) rfl HR6.out (walk_oneCells R) (by unfold maxLen;omega) (by omega) (by exact Qz) ?_;intro a7 c7 w7 hown7 hgrow7 hat7)
        have T7:=RowB.tch (Fr.refl w6) hgrow7
        have H37:Hid (Row3 (w.heap.size+1) w7 (T++R) (O++[⟨x0,x1,x2,x3⟩]) U (.slice a7 (T++R).length c7) (.slice a5 (O++[(⟨x0,x1,x2,x3⟩:WalkR)]).length c5) (.slice au U.length cu)):=Lib.hid (by
         rw[HLT.out,HLN.out]
         exact H36.out.addT (v':= .slice a7 (T.length+R.length) c7) (R:=R) (Fr.refl w6) (by unfold WalksO;rw[HLT.out,List.flatMap_append];exact hown7) hgrow7 hat7)
        have BG7:=Tch.box T7 BG6 (fun e=>by have:=(H36.out.rt.lt _ e).1;omega)
        have hf7:Fr w w7:=RowB.old T7 hf6w (lo:=w.heap.size+1) (hi:=w6.heap.size) (fun g hg=>H36.out.rt.lt g hg) (by omega)
        clear hown7 hgrow7 hat7 T7
        go_wp2_with fail
        go_roundw
        case rel=>exact⟨j+1,c7,c5,cu,a7,a5,au,T++R,O++[⟨x0,x1,x2,x3⟩],U,by go_num,by rw[HLT.out],by rw[HLN.out],rfl,HIN,HTN,H37,BG7,hf7⟩
        case measure=>simp[lenV,intOf];omega
      · have HT4:=Lib.hid (by have:=HT.out;rw[HD.out]at this;exact this.known_inv HOW.out hin)
        have HI4:=Lib.hid (HI.out.next hlt)
        clear hin
        go_wp2_with fail
        go_roundw
        case rel=>exact⟨j+1,ct,co,cu,some ⟨bT,oT,none⟩,ao,au,T,O,U,by go_num,rfl,rfl,rfl,HI4,HT4,H34,BG4,by exact Qf⟩
        case measure=>simp[lenV,intOf];omega
    · have q:(owR x2 n !=k)=true:=by simpa using how
      have HOW:Hid (ownW k n ⟨x0,x1,x2,x3⟩=false):=Lib.hid (by unfold ownW;simpa using how)
      clear how
      go_wp2_with fail
      refine(l20In_any _ U x0 x1 x2 x3 _ ((WalksO.rd H33.out.ru).fr (by exact Qf))).mono ?_
      rintro e w4 ⟨rfl,hf4⟩
      have BW4:=BW3.fr hf4
      have BG4:=BG3.fr hf4
      have H34:=Lib.hid (H33.out.fr hf4)
      have FW4:=BW4.facts
      have FG4:=BG4.facts
      have z4:=hf4.size
      clear FW3 FG3 BW3 BG3 H33
      cases hin:inW U ⟨x0,x1,x2,x3⟩
      · have HIN:=Lib.hid (HI.out.tell hlt (by rw[HX.out];exact hin))
        have HTN:=Lib.hid (by have:=HT.out;rw[HD.out]at this;exact this.tell_inv HOW.out hin)
        rw[HX.out]at HIN
        have HLN:=Lib.hid (show(U++[(⟨x0,x1,x2,x3⟩:WalkR)]).length=U.length+1 by simp)
        have HCA:=Lib.hid (wlk_snoc U ⟨x0,x1,x2,x3⟩)
        clear hin HI HT
        go_wp2_with(at_builtin;refine wpList_append_rd rfl _ _ 43 rfl (w.heap.size+1) 48 i0 (.agg #[.int .i64 0,.int .i64 0,.int .i64 0,.int .i64 0]) 4 32 Tryz.underlying43 hi hz0 hz1 hz2 rfl (by decide) (.slice au U.length cu) U.length (U.flatMap WalkR.cells) rfl (World.ownsRow.alloc H34.out.ru _) _ 1 [.int .i64 x0,.int .i64 x1,.int .i64 x2,.int .i64 x3] rfl (RdS.new (by first|rfl|(simp;done)) rfl) (by simp[Value.oneCell']) (by unfold maxLen;omega) (by omega) (by exact Qz) ?_;intro a5 c5 w5 hown5 hgrow5 hat5)
        have T5:=RowB.tch (w:=w4) (by exact Qf) hgrow5
        have hUlo: ∀ g,(Value.slice au U.length cu).ownBlock=some g→w.heap.size+1≤g∧g<wr.heap.size:=fun g hg=>⟨(H34.out.ru.lt g hg).1,HNU.out g hg⟩
        have H35:Hid (Row3 (w.heap.size+1) w5 T O (U++[⟨x0,x1,x2,x3⟩]) (.slice (some ⟨bT,oT,none⟩) T.length ct) (.slice ao O.length co) (.slice a5 (U++[(⟨x0,x1,x2,x3⟩:WalkR)]).length c5)):=Lib.hid (by
         rw[HLN.out]
         exact H34.out.addU (v':= .slice a5 (U.length+1) c5) (R:=[⟨x0,x1,x2,x3⟩]) (show Fr w4 _ by exact Qf) (by unfold WalksO;rw[HCA.out,HLN.out];exact hown5) hgrow5 hat5)
        have BG5:=Tch.box T5 BG4 (fun e=>by have:=hUlo _ e;omega)
        have hf4w:Fr w w4:=by exact Qf
        have hf5:Fr w w5:=RowB.old T5 hf4w (lo:=w.heap.size+1) (hi:=wr.heap.size) (fun g hg=>hUlo g hg) (by omega)
        clear hown5 hgrow5 hat5 T5 hUlo
        go_wp2_with fail
        go_roundw
        case rel=>exact⟨j+1,ct,co,c5,some ⟨bT,oT,none⟩,ao,a5,T,O,U++[⟨x0,x1,x2,x3⟩],by go_num,rfl,rfl,by rw[HLN.out],HIN,HTN,H35,BG5,hf5⟩
        case measure=>simp[lenV,intOf];omega
      · have HT4:=Lib.hid (by have:=HT.out;rw[HD.out]at this;exact this.far_inv HOW.out hin)
        have HI4:=Lib.hid (HI.out.next hlt)
        clear hin
        go_wp2_with fail
        go_roundw
        case rel=>exact⟨j+1,ct,co,cu,some ⟨bT,oT,none⟩,ao,au,T,O,U,by go_num,rfl,rfl,rfl,HI4,HT4,H34,BG4,by exact Qf⟩
        case measure=>simp[lenV,intOf];omega
  · have hje:j=T.length:=by omega
    have HRE:Hid (r=(O,U)):=Lib.hid (by have:=HT.out;rw[hje,List.drop_length]at this;exact this.nil_inv)
    clear hje
    go_wp2_with fail
    go_ret2
    have:=TkPost.mk' (w:=w) (r:=(O,U)) (owns_lo H3.out.ro (by omega)) (owns_lo H3.out.ru (by omega)) H3.out.aou hfr
    rw[HRE.out]
    exact this
end Go.Proofs.YtjnahjgncmcmdaaGreat