/- Where walks begin: each vertex once for each atom, with its owner: plain. No condition. -/
import Derived.Test.YtjnahjgncmcmdaaGreatGNfl
namespace Go.Proofs.YtjnahjgncmcmdaaGreat
open Go.RowKit
set_option linter.unusedVariables false
set_option linter.unusedSimpArgs false
def ownC (n:Int) (m:Nat):Nat→Nat
 |0=>0
 |k+1=>ownC n m k+(ownK (k:Int) n m).length
theorem ownC_0 (n:Int): ∀ K,ownC n 0 K=0
 |0=>rfl
 |K+1=>by rw[ownC,ownC_0 n K];rfl
theorem ownC_succ (n:Int) (m:Nat): ∀ K:Nat,ownC n (m+1) K=ownC n m K+(if owR (m:Int) n<(K:Int)then 1 else 0)
 |0=>by
  have:=owR_ge (m:Int) n
  rw[if_neg (by omega)];rfl
 |K+1=>by
  rw[ownC,ownC,ownC_succ n m K]
  by_cases h:owR (m:Int) n=(K:Int)
  · rw[ownK_yes h,List.length_append,List.length_singleton,if_neg (by omega),if_pos (by omega)]
    omega
  · rw[ownK_no h]
    by_cases h2:owR (m:Int) n<(K:Int)
    · rw[if_pos h2,if_pos (by omega)];omega
    · rw[if_neg h2,if_neg (by omega)];omega
theorem owR_under {v n:Int} (hn:1≤n):owR v n<n:=by
 unfold owR
 split
 · exact Int.emod_lt_of_pos _ (by omega)
 · omega
theorem ownC_all {n:Int} {N:Nat} (hn:n=(N:Int)) (h1:1≤N): ∀ m,ownC n m N=m
 |0=>ownC_0 n N
 |m+1=>by
  rw[ownC_succ,ownC_all hn h1 m,if_pos (by have:=owR_under (v:=(m:Int)) (n:=n) (by omega);omega)]
/-- How many walks begin with the first K workers. -/
def staC (g:GraphD) (q:QueryD) (n:Int):Nat→Nat
 |0=>0
 |k+1=>staC g q n k+(staL g q (k:Int) n).length
theorem staL_lenK {g:GraphD} {q:QueryD} (hg:graphB g=true) (hq:qryD q=true) (k n:Int):(staL g q k n).length=q.f2.length*(ownK k n g.f0.toNat).length:=by
 unfold staL ownL
 rw[if_pos ⟨hg,hq⟩,if_pos hg,staK_len]
theorem staC_own {g:GraphD} {q:QueryD} (hg:graphB g=true) (hq:qryD q=true) (n:Int): ∀ K,staC g q n K=q.f2.length*ownC n g.f0.toNat K
 |0=>rfl
 |K+1=>by rw[staC,ownC,staC_own hg hq n K,staL_lenK hg hq,Nat.mul_add]
theorem staC_all {g:GraphD} {q:QueryD} (hg:graphB g=true) (hq:qryD q=true) {N:Nat} (h1:1≤N):staC g q (N:Int) N=q.f2.length*g.f0.toNat:=by
 rw[staC_own hg hq,ownC_all rfl h1]
theorem staC_le {g : GraphD} {q : QueryD} {n : Int} : ∀ {j k : Nat}, j ≤ k → staC g q n j ≤ staC g q n k
 | j, 0, h => by obtain rfl : j = 0 := by omega
                 exact Nat.le_refl _
 | j, k + 1, h => by
  by_cases e : j = k + 1
  · subst e; exact Nat.le_refl _
  · have := staC_le (g := g) (q := q) (n := n) (j := j) (k := k) (by omega)
    rw [staC]; omega
/-- Each walk that begins with a worker is its own. -/
theorem staL_at {g:GraphD} {q:QueryD} {k n:Int} {x:WalkR} (h:x∈staL g q k n):x.f1=x.f2∧x.f3=0∧owR x.f2 n=k∧0≤x.f2:=by
 unfold staL at h
 split at h
 · rename_i hgq
   have key: ∀ m,x∈staK (ownL g k n) m→ ∃ j:Int,x.f1=x.f2∧x.f3=0∧x.f2∈ownL g k n:=fun m=>by
    induction m with
    |zero=>intro h;cases h
    |succ m ih=>
     intro h
     rw[staK,List.mem_append]at h
     rcases h with h|h
     · exact ih h
     · obtain⟨v,hv,rfl⟩:=List.mem_map.1 h
       exact⟨0,rfl,rfl,hv⟩
   obtain⟨_,h1,h2,h3⟩:=key _ h
   unfold ownL at h3
   rw[if_pos hgq.1]at h3
   obtain⟨j,e1,e2,e3⟩:=mem_ownK.1 h3
   exact⟨h1,h2,by rw[e1];exact e3,by omega⟩
 · cases h
end Go.Proofs.YtjnahjgncmcmdaaGreat
