/- The fourteen texts of drawn paths: each is a right path. No condition. -/
import Derived.Test.YtjnahjgncmcmdaaGreatGPrw
namespace Go.Proofs.YtjnahjgncmcmdaaGreat
open Go.RowKit
set_option linter.unusedVariables false
set_option linter.unusedSimpArgs false
def paTexts:List ByteArray:=[⟨#[97]⟩,⟨#[98]⟩,⟨#[97]⟩,⟨#[99]⟩,⟨#[97,98]⟩,⟨#[97,124,98]⟩,⟨#[97,42]⟩,⟨#[40,97,124,98,41,42]⟩,⟨#[97,98,63]⟩,⟨#[97,43,98]⟩,⟨#[40,97,98,41,43]⟩,⟨#[40,97,124,98,99,41,63]⟩,⟨#[97,42,98,42]⟩,⟨#[40,40,97,124,98,41,99,41,42]⟩]
def paC (t:ByteArray):Bool:=(rpM t).2&&(decide (1≤(rpM t).1.length∧(rpM t).1.length≤60)&&((rpM t).1.all (fun x=>decide (x.f2.length≤60))&&decide (t.size≤20)))
theorem pa_all: ∀ k,k<14→paC (sAt paTexts k)=true:=by decide
theorem pa_ok {k:Nat} (h:k<14):(rpM (sAt paTexts k)).2=true∧1≤(rpM (sAt paTexts k)).1.length∧(rpM (sAt paTexts k)).1.length≤60∧(∀ j,j<(rpM (sAt paTexts k)).1.length→(nAt (rpM (sAt paTexts k)).1 j).f2.length≤60)∧(sAt paTexts k).size≤20:=by
 have:=pa_all k h
 unfold paC at this
 simp only[Bool.and_eq_true,decide_eq_true_eq,List.all_eq_true]at this
 obtain⟨h1,⟨h2,h3⟩,h4,h5⟩:=this
 exact⟨h1,h2,h3,fun j hj=>nAt_mem (p:=fun x:PieceD=>x.f2.length≤60) h4 j hj,h5⟩
end Go.Proofs.YtjnahjgncmcmdaaGreat
