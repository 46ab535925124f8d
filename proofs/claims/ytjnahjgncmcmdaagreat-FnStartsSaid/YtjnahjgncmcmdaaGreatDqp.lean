/- A drawn query, plain: it is right, and small. No condition. -/
import Derived.Test.YtjnahjgncmcmdaaGreatPax
import Derived.Test.YtjnahjgncmcmdaaGreatGNfl
namespace Go.Proofs.YtjnahjgncmcmdaaGreat
open Go.RowKit
set_option linter.unusedVariables false
set_option linter.unusedSimpArgs false
theorem ba_list_loop (b:ByteArray): ∀ (d i:Nat) (r:List UInt8),b.size-i=d→ByteArray.toList.loop b i r=r.reverse++b.data.toList.drop i:=by
 intro d
 induction d with
 |zero=>
  intro i r h
  unfold ByteArray.toList.loop
  have h2: ¬ i<b.size:=by omega
  rw[if_neg h2]
  have:b.data.toList.drop i=[]:=List.drop_of_length_le (by simp only[Array.length_toList];show b.size≤i;omega)
  rw[this,List.append_nil]
 |succ d ih=>
  intro i r h
  unfold ByteArray.toList.loop
  have h2:i<b.size:=by omega
  rw[if_pos h2,ih (i+1) _ (by omega)]
  have h3:i<b.data.toList.length:=by simp only[Array.length_toList];exact h2
  rw[List.drop_eq_getElem_cons h3,List.reverse_cons,List.append_assoc]
  congr 1
  have h4:b.get! i=b.data.toList[i]:=by
   show b.data[i]! =_
   rw[getElem!_pos b.data i h2];simp
  rw[h4];rfl
theorem ba_list (b:ByteArray):b.toList=b.data.toList:=by
 unfold ByteArray.toList
 rw[ba_list_loop b _ 0 [] rfl];rfl
theorem nodup_le {α:Type}: ∀ {l p:List α},l.Nodup→(∀ x∈l,x∈p)→l.length≤p.length
 |[],p,_,_=>Nat.zero_le _
 |x::l,p,h,hs=>by
  obtain⟨h1,h2⟩:=List.nodup_cons.1 h
  obtain⟨a,b,hp⟩:=List.append_of_mem (hs x (by simp))
  have:=nodup_le (l:=l) (p:=a++b) h2 fun y hy=>by
   have h3:=hs y (by simp[hy])
   rw[hp,List.mem_append,List.mem_cons]at h3
   rw[List.mem_append]
   rcases h3 with h3|h3|h3
   · exact .inl h3
   · subst h3;exact absurd hy h1
   · exact .inr h3
  rw[hp]
  simp only[List.length_append,List.length_cons]at this ⊢
  omega
def qNm:List ByteArray:=[⟨#[120]⟩,⟨#[121]⟩,⟨#[122]⟩]
theorem qNm_ok: ∀ k,k<3→qnB (sAt qNm k)=true∧(sAt qNm k).size=1∧(sAt qNm k).toList≠[]:=by
 unfold qnB eachB
 simp only[ba_list]
 decide
theorem qNm_eq: ∀ i,i<3→ ∀ j,j<3→((sAt qNm i).toList==(sAt qNm j).toList)=decide (i=j):=by
 simp only[ba_list]
 decide
/-- An atom of a drawn query. -/
def atmG (x:AtomR):Prop:= ∃ i j k,i<3∧j<3∧k<14∧x=⟨sAt qNm i,sAt paTexts k,sAt qNm j⟩
theorem inB_nm {L:List Nat} (hL: ∀ i∈L,i<3) {j:Nat} (hj:j<3):inB (L.map (sAt qNm)) (sAt qNm j)=decide (j∈L):=by
 unfold inB
 rw[List.any_map,Bool.eq_iff_iff,List.any_eq_true,decide_eq_true_iff]
 constructor
 · rintro⟨i,hi,h⟩
   simp only[Function.comp]at h
   rw[qNm_eq i (hL i hi) j hj,decide_eq_true_eq]at h
   exact h▸hi
 · intro h
   refine⟨j,h,?_⟩
   simp only[Function.comp]
   rw[qNm_eq j hj j hj];simp
/-- Names told by their places, each once. -/
structure NmG (l:List ByteArray) (L:List Nat):Prop where
 nd:L.Nodup
 lt: ∀ i∈L,i<3
 eq:l=L.map (sAt qNm)
theorem NmG.few {l:List ByteArray} {L:List Nat} (h:NmG l L):L.length≤3∧l.length=L.length:=by
 have:=nodup_le (p:=[0,1,2]) h.nd fun i hi=>by
  have:=h.lt i hi
  have h2:i=0∨i=1∨i=2:=by omega
  simpa using h2
 exact⟨this,by rw[h.eq,List.length_map]⟩
theorem NmG.at_ {l:List ByteArray} {L:List Nat} (h:NmG l L) {x:Nat} (hx:x<l.length): ∃ i,sAt l x=sAt qNm i∧i∈L:=by
 have hl:x<L.length:=by have:=h.few;omega
 refine⟨L[x],?_,List.getElem_mem hl⟩
 rw[h.eq]
 simp[sAt,List.getD,hl]
theorem NmG.add {l:List ByteArray} {L:List Nat} (h:NmG l L) {j:Nat} (hj:j<3): ∃ L',NmG (addN l (sAt qNm j)) L'∧L.length≤L'.length∧0<L'.length:=by
 have hi:=inB_nm h.lt hj
 rw[← h.eq]at hi
 by_cases hm:j∈L
 · rw[decide_eq_true hm]at hi
   rw[addN_yes hi]
   exact⟨L,h,Nat.le_refl _,List.length_pos_of_mem hm⟩
 · rw[decide_eq_false hm]at hi
   rw[addN_no hi]
   refine⟨L++[j],⟨List.nodup_append.2 ⟨h.nd,by simp,fun a ha b hb=>?_⟩,fun i hi=>?_,by rw[List.map_append, ← h.eq];rfl⟩,by simp,by simp⟩
   · rw[List.mem_singleton]at hb
     rintro rfl
     exact hm (hb▸ha)
   · rw[List.mem_append,List.mem_singleton]at hi
     rcases hi with hi|hi
     · exact h.lt i hi
     · omega
theorem nmK_G {xs:List AtomR} (h: ∀ x∈xs,atmG x): ∀ k,k≤xs.length→ ∃ L,NmG (nmK xs k) L∧(0<k→0<L.length)
 |0,_=>⟨[],⟨List.nodup_nil,by simp,rfl⟩,by simp⟩
 |k+1,hk=>by
  obtain⟨L,hL,_⟩:=nmK_G h k (by omega)
  obtain⟨i,j,m,hi,hj,hm,he⟩:=atom_mem h k (by omega)
  obtain⟨L1,h1,_⟩:=hL.add hi
  obtain⟨L2,h2,_,h3⟩:=h1.add hj
  refine⟨L2,?_,fun _=>h3⟩
  rw[nmK,he]
  exact h2
structure QryG (d:QueryD):Prop where
 n:1≤d.f2.length∧d.f2.length≤3
 at_: ∀ x∈d.f2,atmG x
 ok:qryD d=true
 few:d.bulk≤1000
def FltG (L:List Nat) (fs:List FilterR):Prop:=fs=[]∨ ∃ (a:Nat) (op:Int) (b:ByteArray) (n:Int),fs=[⟨sAt qNm a,op,b,n⟩]∧a∈L∧(op=1∨op=2)∧(b=⟨#[]⟩∧0≤n∧n<4∨ ∃ j∈L,b=sAt qNm j∧n=0)
theorem atmG_few {xs:List AtomR} (h: ∀ x∈xs,atmG x): ∀ k,k≤xs.length→sumAtom xs k≤k*22
 |0,_=>by simp[sumAtom]
 |k+1,hk=>by
  have h1:=atmG_few h k (by omega)
  rw[sumAtom_succ xs k (by omega)]
  obtain⟨i,j,m,hi,hj,hm,he⟩:=atom_mem h k (by omega)
  rw[he]
  have h2:=(qNm_ok i hi).2.1
  have h3:=(qNm_ok j hj).2.1
  have h4:=(pa_ok hm).2.2.2.2
  simp only[AtomR.bulk]
  omega
theorem out_few: ∀ i,i<3→ ∀ j,j<3→strsBulk [sAt qNm i]≤10∧strsBulk [sAt qNm i,sAt qNm j]≤10:=by decide
theorem QryG.mk' {e:Bool} {xs:List AtomR} {fs:List FilterR} {L O:List Nat} (hn:1≤xs.length∧xs.length≤3) (hat: ∀ x∈xs,atmG x) (hL:NmG (nmK xs xs.length) L) (hO:(∃ i∈L,O=[i])∨ ∃ i∈L,∃ j∈L,i≠j∧O=[i,j]) (hf:FltG L fs):QryG ⟨e,O.map (sAt qNm),xs,fs⟩:=by
 have hOL: ∀ i∈O,i∈L:=by
  rcases hO with⟨i,hi,rfl⟩|⟨i,hi,j,hj,_,rfl⟩
  · simpa using hi
  · simp[hi,hj]
 have hO3: ∀ i∈O,i<3:=fun i hi=>hL.lt i (hOL i hi)
 have hOn:1≤O.length∧O.length≤2:=by
  rcases hO with⟨i,hi,rfl⟩|⟨i,hi,j,hj,_,rfl⟩<;>simp
 have hall:allIn (nmK xs xs.length) (O.map (sAt qNm))=true:=by
  unfold allIn
  rw[List.all_eq_true]
  intro s hs
  obtain⟨i,hi,rfl⟩:=List.mem_map.1 hs
  rw[hL.eq,inB_nm hL.lt (hO3 i hi)]
  exact decide_eq_true (hOL i hi)
 have hdst:dstK (O.map (sAt qNm)) (O.map (sAt qNm)).length=true:=by
  rcases hO with⟨i,hi,rfl⟩|⟨i,hi,j,hj,hij,rfl⟩
  · rfl
  · unfold dstK
    have h1:=inB_nm (L:=[i]) (by simpa using hL.lt i hi) (hL.lt j hj)
    rw[decide_eq_false (show ¬ j∈[i] by simpa using fun h=>hij h.symm)]at h1
    rw[List.all_eq_true]
    intro k hk
    rw[List.mem_range]at hk
    simp only[List.map_cons,List.map_nil,List.length_cons,List.length_nil]at hk
    rcases(show k=0∨k=1 by omega)with rfl|rfl
    · rfl
    · show(!inB [sAt qNm i] (sAt qNm j))=true
      simp only[List.map_cons,List.map_nil]at h1
      rw[h1];rfl
 have hatk:atK xs xs.length=true:=by
  unfold atK
  rw[List.all_eq_true]
  intro k hk
  rw[List.mem_range]at hk
  obtain⟨i,j,m,hi,hj,hm,he⟩:=atom_mem hat k hk
  rw[he]
  unfold atomB
  simp only[]
  rw[(qNm_ok i hi).1,(qNm_ok j hj).1,(pa_ok hm).1];rfl
 have hfi:fs.length≤1∧fiK (nmK xs xs.length) fs fs.length=true∧FiltersBulk fs≤10:=by
  rcases hf with rfl|⟨a,op,b,n,rfl,ha,hop,hb⟩
  · exact⟨by simp,rfl,by simp[FiltersBulk,sumFilter]⟩
  · have hbs:b.size≤1:=by
     rcases hb with⟨rfl,_⟩|⟨j,hj,rfl,_⟩
     · decide
     · rw[(qNm_ok j (hL.lt j hj)).2.1];exact Nat.le_refl _
    refine⟨by simp,?_,?_⟩
    · unfold fiK
      rw[List.all_eq_true]
      intro k hk
      rw[List.mem_range]at hk
      simp only[List.length_cons,List.length_nil]at hk
      obtain rfl:k=0:=by omega
      show filB (nmK xs xs.length) (sAt qNm a) op b n=true
      unfold filB
      have e1:inB (nmK xs xs.length) (sAt qNm a)=true:=by rw[hL.eq,inB_nm hL.lt (hL.lt a ha)];exact decide_eq_true ha
      rw[e1,decide_eq_true hop]
      rcases hb with⟨rfl,h1,h2⟩|⟨j,hj,rfl,rfl⟩
      · rw[if_pos (by rw[ba_list];rfl)]
        simp;omega
      · rw[if_neg (by simpa using (qNm_ok j (hL.lt j hj)).2.2)]
        have e2:inB (nmK xs xs.length) (sAt qNm j)=true:=by rw[hL.eq,inB_nm hL.lt (hL.lt j hj)];exact decide_eq_true hj
        rw[e2];rfl
    · unfold FiltersBulk
      rw[List.length_singleton,sumFilter_succ _ 0 (by simp)]
      have h1:=(qNm_ok a (hL.lt a ha)).2.1
      have h2:sumFilter [(⟨sAt qNm a,op,b,n⟩:FilterR)] 0=0:=rfl
      have h3:(filterAt [(⟨sAt qNm a,op,b,n⟩:FilterR)] 0).bulk=(sAt qNm a).size+b.size:=rfl
      rw[h2,h3]
      omega
 refine⟨hn,hat,?_,?_⟩
 · unfold qryD qryB
   simp only[]
   have h4:=hL.few
   rw[hatk,hdst,hall,hfi.2.1,decide_eq_true (show 1≤xs.length∧xs.length≤4 by omega),decide_eq_true (show fs.length≤3 by omega),decide_eq_true (show(nmK xs xs.length).length≤4 by omega),decide_eq_true (show 1≤(O.map (sAt qNm)).length∧(O.map (sAt qNm)).length≤4 by rw[List.length_map];omega)]
   rfl
 · unfold QueryD.bulk AtomsBulk
   simp only[]
   have h5:=atmG_few hat xs.length (Nat.le_refl _)
   have h6:strsBulk (O.map (sAt qNm))≤10:=by
    rcases hO with⟨i,hi,rfl⟩|⟨i,hi,j,hj,hij,rfl⟩
    · exact(out_few i (hL.lt i hi) i (hL.lt i hi)).1
    · exact(out_few i (hL.lt i hi) j (hL.lt j hj)).2
   omega
end Go.Proofs.YtjnahjgncmcmdaaGreat
