/- laws.FnExactLetterText: for every input the law returns true and each argument reads as before. No condition. -/
import Derived.Test.YtphjlecbhbcbcaaLLetterText
import Derived.Test.YtphjlecbhbcbcaaOSWalk
import Derived.Test.YtphjlecbhbcbcaaOpen
import Derived.Lib.SmallJoins
namespace Go.Proofs.Ytphjlecbhbcbcaa.fnExactLetterText
open Go.RowKit Go.ChangeShapes Go.WideShapes Go.ChangeAt Go.Joins
set_option linter.unusedVariables false
theorem kSt0 : Try.prog.cellsOf 34 = 6 := by kernel_rfl
theorem lsz {d : LetterD} (h : d.bulk ≤ 1048576) : d.f5.size ≤ 1048576 := by unfold LetterD.bulk at h; omega

set_option maxRecDepth 100000 in
theorem contract (H : Type) (enc : TypeId × Value → H) (W : World) (base : Nat) (args : Array Value) (ds gs : List (DataW H)) (before : List MemPlace)
    (hval : ∀ (j : Nat) t v, Try.f6.params[j]? = some t → args[j]? = some v → Value.okWide Try.prog W .any base t v)
    (hW : DataW.Whole enc Try.prog Try.f6.params.toList Rows.fnExactLetterTextSpec.vars false W args.toList ds gs before) :
    Calls Try.prog 6 args W fun e W' => ∃ v, e = .returned v ∧ Rows.fnExactLetterTextSpec.post enc Try.prog Try.f6 false true false false W args v W' := by
  have hW' := hW
  obtain ⟨p, q, hA0, hV, rfl, hfz, hnd⟩ := hW
  have hA : DataW.TrodAll enc Try.prog W 0 (fun _ => true) true Try.f6.params.toList args.toList ds p := hA0
  rw [Try.params6] at hA hval
  obtain ⟨v0, vs0, d0, ds0, p0, q0, hargs, rfl, rfl, h0, r0⟩ := trodAll_cons hA
  obtain ⟨rfl, rfl, rfl⟩ := trodAll_nil r0
  obtain rfl : args = #[v0] := by cases args; simp_all
  obtain ⟨rfl, rfl⟩ := trodVars_none hV
  obtain ⟨cs0, rfl, hl0, m0, g0⟩ := open_struct Try.underlying34 (by kernel_rfl) kSt0 (hval 0 34 v0 rfl rfl) h0
  obtain ⟨x0_0, x0_1, x0_2, x0_3, x0_4, x0_5, rfl⟩ := list6 hl0
  obtain ⟨y0_0, g0_0⟩ := g0 0 _ rfl
  obtain ⟨a0_0, e0_0, _, w0_0⟩ := DataW.trod_int Try.underlying3 g0_0
  obtain ⟨y0_1, g0_1⟩ := g0 1 _ rfl
  obtain ⟨a0_1, e0_1, _, w0_1⟩ := DataW.trod_int Try.underlying3 g0_1
  obtain ⟨y0_2, g0_2⟩ := g0 2 _ rfl
  obtain ⟨a0_2, e0_2, _, w0_2⟩ := DataW.trod_int Try.underlying3 g0_2
  obtain ⟨y0_3, g0_3⟩ := g0 3 _ rfl
  obtain ⟨a0_3, e0_3, _⟩ := DataW.trod_bool Try.underlying4 g0_3
  obtain ⟨y0_4, g0_4⟩ := g0 4 _ rfl
  obtain ⟨l0_4, r0_4, w0_4⟩ := open_walksR g0_4
  obtain ⟨y0_5, g0_5⟩ := g0 5 _ rfl
  obtain ⟨a0_5, e0_5, _, w0_5⟩ := DataW.trod_string Try.underlying9 g0_5
  simp only [List.getD_cons_zero, List.getD_cons_succ, List.cons.injEq, and_true] at e0_0 e0_1 e0_2 e0_3 e0_5
  subst e0_0 e0_1 e0_2 e0_3 e0_5
  refine (fnLetterText_of _ ⟨a0_0, a0_1, a0_2, a0_3, l0_4, a0_5⟩ w0_5 W ⟨_, rfl, r0_4⟩ (letS ⟨a0_0, a0_1, a0_2, a0_3, l0_4, a0_5⟩) (letB ⟨a0_0, a0_1, a0_2, a0_3, l0_4, a0_5⟩) (fun _ hb v w hv => specLetterText_any v _ w hv (lsz hb)) (fun _ hb v w hv => implLetterText_any v _ w hv (lsz hb))).mono fun e W' ⟨he, hb⟩ => ⟨_, he, law_post Try_laidOut (by kernel_rfl) (by kernel_rfl) Try.underlying4 rfl rfl hW' hb⟩

set_option maxRecDepth 100000 in
theorem lifted (os : Os) (started : os.Started) (H : Type) (enc : TypeId × Value → H) :
    ReturnsInHanded {} Try.checked os 6 .any (Rows.fnExactLetterTextSpec.pre6 enc Try.prog Try.f6 Rows.fnExactLetterTextRow.domain false) (Rows.fnExactLetterTextSpec.post enc Try.prog Try.f6 false true false false) := by
  refine returnsInHanded_of_change (C := Try.checked) Try_own started (by kernel_rfl) Try.func6
    (ChangeSpec.witness6 (enc := enc) (C := Try.checked) false ⟨#[], #[.agg #[.int .i64 0, .int .i64 0, .int .i64 0, .bool false, .slice none 0 0, .string ⟨#[]⟩]], []⟩ 8 (by kernel_rfl) (by kernel_rfl) (by kernel_rfl) (by kernel_rfl)) ?_
  intro W base args ds gs before hval hW _ _
  exact contract H enc W base args ds gs before hval hW

theorem proved : Rows.FnExactLetterTextSaid :=
  OpenClaim.holds_of_wide 6 Try.f6 rfl rfl rfl rfl rfl rfl rfl ⟨rfl, rfl, rfl, rfl, rfl⟩ rfl rfl rfl rfl rfl (by kernel_rfl) Try.func6 (by kernel_rfl)
    (of_decide_eq_true (by kernel_rfl)) (by unfold Func.isWrapper; first | (rw [if_pos (by decide +kernel)]; kernel_rfl) | (rw [if_neg (by decide +kernel)]; exact ⟨rfl, rfl⟩))
    (fun os started H enc _ => lifted os started H enc)
#print axioms proved
end Go.Proofs.Ytphjlecbhbcbcaa.fnExactLetterText
