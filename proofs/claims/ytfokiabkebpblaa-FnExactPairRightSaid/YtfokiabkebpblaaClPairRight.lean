/- laws.FnExactPairRight: for every input the law returns true and each argument reads as before. No condition. -/
import Derived.Test.YtfokiabkebpblaaLPairRight
import Derived.Test.YtfokiabkebpblaaONest
import Derived.Test.YtfokiabkebpblaaOpen
import Derived.Lib.SmallJoins
namespace Go.Proofs.Ytfokiabkebpblaa.fnExactPairRight
open Go.RowKit Go.ChangeShapes Go.WideShapes Go.ChangeAt Go.Joins
set_option linter.unusedVariables false
theorem kSt0 : Try.prog.cellsOf 79 = 4 := by kernel_rfl
theorem kInt : Try.prog.cellsOf 3 = 1 := by kernel_rfl

set_option maxRecDepth 100000 in
theorem contract (H : Type) (enc : TypeId × Value → H) (W : World) (base : Nat) (args : Array Value) (ds gs : List (DataW H)) (before : List MemPlace)
    (hval : ∀ (j : Nat) t v, Try.f9.params[j]? = some t → args[j]? = some v → Value.okWide Try.prog W .any base t v)
    (hW : DataW.Whole enc Try.prog Try.f9.params.toList Rows.fnExactPairRightSpec.vars false W args.toList ds gs before) :
    Calls Try.prog 9 args W fun e W' => ∃ v, e = .returned v ∧ Rows.fnExactPairRightSpec.post enc Try.prog Try.f9 false true false false W args v W' := by
  have hW' := hW
  obtain ⟨p, q, hA0, hV, rfl, hfz, hnd⟩ := hW
  have hA : DataW.TrodAll enc Try.prog W 0 (fun _ => true) true Try.f9.params.toList args.toList ds p := hA0
  rw [Try.params9] at hA hval
  obtain ⟨v0, vs0, d0, ds0, p0, q0, hargs, rfl, rfl, h0, r0⟩ := trodAll_cons hA
  obtain ⟨rfl, rfl, rfl⟩ := trodAll_nil r0
  obtain rfl : args = #[v0] := by cases args; simp_all
  obtain ⟨rfl, rfl⟩ := trodVars_none hV
  obtain ⟨cs0, rfl, hl0, m0, g0⟩ := open_struct Try.underlying79 (by kernel_rfl) kSt0 (hval 0 79 v0 rfl rfl) h0
  obtain ⟨x0, x1, x2, x3, rfl⟩ := list4 hl0
  obtain ⟨y0, e0⟩ := g0 0 _ rfl
  obtain ⟨l0, r0_, o0⟩ := open_linkSR e0
  obtain ⟨y1, e1⟩ := g0 1 _ rfl
  obtain ⟨l1, r1_, o1⟩ := open_strsR Try.underlying28 Try.underlying9 one_Str e1
  obtain ⟨y2, e2⟩ := g0 2 _ rfl
  obtain ⟨l2, r2_, o2⟩ := open_stringSSR e2
  obtain ⟨y3, e3⟩ := g0 3 _ rfl
  obtain ⟨l3, r3_, o3⟩ := open_intsR Try.underlying58 Try.underlying3 kInt e3
  refine (fnPairRight_of _ ⟨l0, l1, l2, l3⟩ ⟨o0, o1, o2⟩ W ⟨_, _, _, _, rfl, r0_, r1_, r2_, r3_⟩ (pairRightB ⟨l0, l1, l2, l3⟩) (fun _ v w hv => specPairRight_any v _ w hv) (fun _ v w hv => implPairRight_any v _ w hv)).mono fun e W' ⟨he, hb⟩ => ⟨_, he, law_post Try_laidOut (by kernel_rfl) (by kernel_rfl) Try.underlying4 rfl rfl hW' hb⟩

set_option maxRecDepth 100000 in
theorem lifted (os : Os) (started : os.Started) (H : Type) (enc : TypeId × Value → H) :
    ReturnsInHanded {} Try.checked os 9 .any (Rows.fnExactPairRightSpec.pre6 enc Try.prog Try.f9 Rows.fnExactPairRightRow.domain false) (Rows.fnExactPairRightSpec.post enc Try.prog Try.f9 false true false false) := by
  refine returnsInHanded_of_change (C := Try.checked) Try_own started (by kernel_rfl) Try.func9
    (ChangeSpec.witness6 (enc := enc) (C := Try.checked) false ⟨#[], #[.agg #[.slice none 0 0, .slice none 0 0, .slice none 0 0, .slice none 0 0]], []⟩ 8 (by kernel_rfl) (by kernel_rfl) (by kernel_rfl) (by kernel_rfl)) ?_
  intro W base args ds gs before hval hW _ _
  exact contract H enc W base args ds gs before hval hW

theorem proved : Rows.FnExactPairRightSaid :=
  OpenClaim.holds_of_wide 9 Try.f9 rfl rfl rfl rfl rfl rfl rfl ⟨rfl, rfl, rfl, rfl, rfl⟩ rfl rfl rfl rfl rfl (by kernel_rfl) Try.func9 (by kernel_rfl)
    (of_decide_eq_true (by kernel_rfl)) (by unfold Func.isWrapper; first | (rw [if_pos (by decide +kernel)]; kernel_rfl) | (rw [if_neg (by decide +kernel)]; exact ⟨rfl, rfl⟩))
    (fun os started H enc _ => lifted os started H enc)
#print axioms proved
end Go.Proofs.Ytfokiabkebpblaa.fnExactPairRight
