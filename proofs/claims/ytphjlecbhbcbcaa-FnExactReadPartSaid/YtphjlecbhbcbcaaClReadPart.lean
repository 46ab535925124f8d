/- laws.FnExactReadPart: for every input the law returns true and each argument reads as before. No condition. -/
import Derived.Test.YtphjlecbhbcbcaaLReadPart
import Derived.Test.YtphjlecbhbcbcaaOSFile
import Derived.Test.YtphjlecbhbcbcaaOpen
import Derived.Lib.SmallJoins
namespace Go.Proofs.Ytphjlecbhbcbcaa.fnExactReadPart
open Go.RowKit Go.ChangeShapes Go.WideShapes Go.ChangeAt Go.Joins
set_option linter.unusedVariables false
theorem kSt0 : Try.prog.cellsOf 66 = 1 := by kernel_rfl

set_option maxRecDepth 100000 in
theorem contract (H : Type) (enc : TypeId × Value → H) (W : World) (base : Nat) (args : Array Value) (ds gs : List (DataW H)) (before : List MemPlace)
    (hval : ∀ (j : Nat) t v, Try.f8.params[j]? = some t → args[j]? = some v → Value.okWide Try.prog W .any base t v)
    (hW : DataW.Whole enc Try.prog Try.f8.params.toList Rows.fnExactReadPartSpec.vars false W args.toList ds gs before) :
    Calls Try.prog 8 args W fun e W' => ∃ v, e = .returned v ∧ Rows.fnExactReadPartSpec.post enc Try.prog Try.f8 false true false false W args v W' := by
  have hW' := hW
  obtain ⟨p, q, hA0, hV, rfl, hfz, hnd⟩ := hW
  have hA : DataW.TrodAll enc Try.prog W 0 (fun _ => true) true Try.f8.params.toList args.toList ds p := hA0
  rw [Try.params8] at hA hval
  obtain ⟨v0, vs0, d0, ds0, p0, q0, hargs, rfl, rfl, h0, r0⟩ := trodAll_cons hA
  obtain ⟨rfl, rfl, rfl⟩ := trodAll_nil r0
  obtain rfl : args = #[v0] := by cases args; simp_all
  obtain ⟨rfl, rfl⟩ := trodVars_none hV
  obtain ⟨cs0, rfl, hl0, m0, g0⟩ := open_struct Try.underlying66 (by kernel_rfl) kSt0 (hval 0 66 v0 rfl rfl) h0
  obtain ⟨x0, rfl⟩ := list1 hl0
  obtain ⟨y0, g0⟩ := g0 0 _ rfl
  obtain ⟨l0, rd0, wd0⟩ := open_filesR g0
  refine (fnReadPart_of _ ⟨l0⟩ (fun x hx => ⟨(wd0 x hx).1, (wd0 x hx).2.1⟩) W ⟨_, rfl, rd0⟩ (paI l0).1 (fun _ => by have := paK_len (recsOf l0 partN) (recsOf l0 partN).length; unfold GraphD.cnt; show 3 * (paK _ _).1.f1.length ≤ _; omega) (paI l0).2 (fun _ v w hv => by obtain ⟨u, rfl, hu⟩ := hv; exact specReadPart_any u _ w hu) (fun _ v w hv => by obtain ⟨u, rfl, hu⟩ := hv; exact implReadPart_any u _ w hu)).mono fun e W' ⟨he, hb⟩ => ⟨_, he, law_post Try_laidOut (by kernel_rfl) (by kernel_rfl) Try.underlying4 rfl rfl hW' hb⟩

set_option maxRecDepth 100000 in
theorem lifted (os : Os) (started : os.Started) (H : Type) (enc : TypeId × Value → H) :
    ReturnsInHanded {} Try.checked os 8 .any (Rows.fnExactReadPartSpec.pre6 enc Try.prog Try.f8 Rows.fnExactReadPartRow.domain false) (Rows.fnExactReadPartSpec.post enc Try.prog Try.f8 false true false false) := by
  refine returnsInHanded_of_change (C := Try.checked) Try_own started (by kernel_rfl) Try.func8
    (ChangeSpec.witness6 (enc := enc) (C := Try.checked) false ⟨#[], #[.agg #[.slice none 0 0]], []⟩ 8 (by kernel_rfl) (by kernel_rfl) (by kernel_rfl) (by kernel_rfl)) ?_
  intro W base args ds gs before hval hW _ _
  exact contract H enc W base args ds gs before hval hW

theorem proved : Rows.FnExactReadPartSaid :=
  OpenClaim.holds_of_wide 8 Try.f8 rfl rfl rfl rfl rfl rfl rfl ⟨rfl, rfl, rfl, rfl, rfl⟩ rfl rfl rfl rfl rfl (by kernel_rfl) Try.func8 (by kernel_rfl)
    (of_decide_eq_true (by kernel_rfl)) (by unfold Func.isWrapper; first | (rw [if_pos (by decide +kernel)]; kernel_rfl) | (rw [if_neg (by decide +kernel)]; exact ⟨rfl, rfl⟩))
    (fun os started H enc _ => lifted os started H enc)
#print axioms proved
end Go.Proofs.Ytphjlecbhbcbcaa.fnExactReadPart
