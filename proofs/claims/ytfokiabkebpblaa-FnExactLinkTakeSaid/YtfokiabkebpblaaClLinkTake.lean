/- laws.FnExactLinkTake: for every input the law returns true and each argument reads as before. No condition. -/
import Derived.Test.YtfokiabkebpblaaLLinkTake
import Derived.Test.YtfokiabkebpblaaOpen
import Derived.Lib.SmallJoins
namespace Go.Proofs.Ytfokiabkebpblaa.fnExactLinkTake
open Go.RowKit Go.ChangeShapes Go.WideShapes Go.ChangeAt Go.Joins
set_option linter.unusedVariables false
theorem kSt0 : Try.prog.cellsOf 30 = 3 := by kernel_rfl
theorem kSt1 : Try.prog.cellsOf 32 = 6 := by kernel_rfl
theorem kStr : Try.prog.cellsOf 9 = 1 := by kernel_rfl

set_option maxRecDepth 100000 in
theorem contract (H : Type) (enc : TypeId × Value → H) (W : World) (base : Nat) (args : Array Value) (ds gs : List (DataW H)) (before : List MemPlace)
    (hval : ∀ (j : Nat) t v, Try.f4.params[j]? = some t → args[j]? = some v → Value.okWide Try.prog W .any base t v)
    (hW : DataW.Whole enc Try.prog Try.f4.params.toList Rows.fnExactLinkTakeSpec.vars false W args.toList ds gs before) :
    Calls Try.prog 4 args W fun e W' => ∃ v, e = .returned v ∧ Rows.fnExactLinkTakeSpec.post enc Try.prog Try.f4 false true false false W args v W' := by
  have hW' := hW
  obtain ⟨p, q, hA0, hV, rfl, hfz, hnd⟩ := hW
  have hA : DataW.TrodAll enc Try.prog W 0 (fun _ => true) true Try.f4.params.toList args.toList ds p := hA0
  rw [Try.params4] at hA hval
  obtain ⟨v0, vs0, d0, ds0, p0, q0, hargs, rfl, rfl, h0, r0⟩ := trodAll_cons hA
  obtain ⟨v1, vs1, d1, ds1, p1, q1, rfl, rfl, rfl, h1, r1⟩ := trodAll_cons r0
  obtain ⟨rfl, rfl, rfl⟩ := trodAll_nil r1
  obtain rfl : args = #[v0, v1] := by cases args; simp_all
  obtain ⟨rfl, rfl⟩ := trodVars_none hV
  obtain ⟨cs0, rfl, hl0, m0, g0⟩ := open_struct Try.underlying30 (by kernel_rfl) kSt0 (hval 0 30 v0 rfl rfl) h0
  obtain ⟨x0_0, x0_1, x0_2, rfl⟩ := list3 hl0
  obtain ⟨y0_0, g0_0⟩ := g0 0 _ rfl
  obtain ⟨l0_0, r0_0, w0_0⟩ := open_strsR Try.underlying28 Try.underlying9 kStr g0_0
  obtain ⟨y0_1, g0_1⟩ := g0 1 _ rfl
  obtain ⟨a0_1, e0_1, _, w0_1⟩ := DataW.trod_int Try.underlying3 g0_1
  obtain ⟨y0_2, g0_2⟩ := g0 2 _ rfl
  obtain ⟨a0_2, e0_2, _, w0_2⟩ := DataW.trod_int Try.underlying3 g0_2
  simp only [List.getD_cons_zero, List.getD_cons_succ, List.cons.injEq, and_true] at e0_1 e0_2
  subst e0_1 e0_2
  obtain ⟨cs1, rfl, hl1, m1, g1⟩ := open_struct Try.underlying32 (by kernel_rfl) kSt1 (hval 1 32 v1 rfl rfl) h1
  obtain ⟨x1_0, x1_1, x1_2, x1_3, x1_4, x1_5, rfl⟩ := list6 hl1
  obtain ⟨y1_0, g1_0⟩ := g1 0 _ rfl
  obtain ⟨a1_0, e1_0, _, w1_0⟩ := DataW.trod_int Try.underlying3 g1_0
  obtain ⟨y1_1, g1_1⟩ := g1 1 _ rfl
  obtain ⟨a1_1, e1_1, _, w1_1⟩ := DataW.trod_int Try.underlying3 g1_1
  obtain ⟨y1_2, g1_2⟩ := g1 2 _ rfl
  obtain ⟨a1_2, e1_2, _, w1_2⟩ := DataW.trod_int Try.underlying3 g1_2
  obtain ⟨y1_3, g1_3⟩ := g1 3 _ rfl
  obtain ⟨a1_3, e1_3, _, w1_3⟩ := DataW.trod_int Try.underlying3 g1_3
  obtain ⟨y1_4, g1_4⟩ := g1 4 _ rfl
  obtain ⟨a1_4, e1_4, _, w1_4⟩ := DataW.trod_int Try.underlying3 g1_4
  obtain ⟨y1_5, g1_5⟩ := g1 5 _ rfl
  obtain ⟨a1_5, e1_5, _, w1_5⟩ := DataW.trod_string Try.underlying9 g1_5
  simp only [List.getD_cons_zero, List.getD_cons_succ, List.cons.injEq, and_true] at e1_0 e1_1 e1_2 e1_3 e1_4 e1_5
  subst e1_0 e1_1 e1_2 e1_3 e1_4 e1_5
  refine (fnLinkTake_of _ ⟨l0_0, a0_1, a0_2⟩ w0_0 ⟨a1_0, a1_1, a1_2, a1_3, a1_4, a1_5⟩ w1_5 W ⟨_, rfl, r0_0⟩ (takeD ⟨l0_0, a0_1, a0_2⟩ ⟨a1_0, a1_1, a1_2, a1_3, a1_4, a1_5⟩) (fun hn => takeD_cnt hn) (takeT ⟨l0_0, a0_1, a0_2⟩ ⟨a1_0, a1_1, a1_2, a1_3, a1_4, a1_5⟩) (fun hn v w hv => specLinkTake_any _ _ hn v w hv) (fun hn v w hv => implLinkTake_any _ _ hn v w hv)).mono fun e W' ⟨he, hb⟩ => ⟨_, he, law_post Try_laidOut (by kernel_rfl) (by kernel_rfl) Try.underlying4 rfl rfl hW' hb⟩

set_option maxRecDepth 100000 in
theorem lifted (os : Os) (started : os.Started) (H : Type) (enc : TypeId × Value → H) :
    ReturnsInHanded {} Try.checked os 4 .any (Rows.fnExactLinkTakeSpec.pre6 enc Try.prog Try.f4 Rows.fnExactLinkTakeRow.domain false) (Rows.fnExactLinkTakeSpec.post enc Try.prog Try.f4 false true false false) := by
  refine returnsInHanded_of_change (C := Try.checked) Try_own started (by kernel_rfl) Try.func4
    (ChangeSpec.witness6 (enc := enc) (C := Try.checked) false ⟨#[], #[.agg #[.slice none 0 0, .int .i64 0, .int .i64 0], .agg #[.int .i64 0, .int .i64 0, .int .i64 0, .int .i64 0, .int .i64 0, .string ⟨#[]⟩]], []⟩ 8 (by kernel_rfl) (by kernel_rfl) (by kernel_rfl) (by kernel_rfl)) ?_
  intro W base args ds gs before hval hW _ _
  exact contract H enc W base args ds gs before hval hW

theorem proved : Rows.FnExactLinkTakeSaid :=
  OpenClaim.holds_of_wide 4 Try.f4 rfl rfl rfl rfl rfl rfl rfl ⟨rfl, rfl, rfl, rfl, rfl⟩ rfl rfl rfl rfl rfl (by kernel_rfl) Try.func4 (by kernel_rfl)
    (of_decide_eq_true (by kernel_rfl)) (by unfold Func.isWrapper; first | (rw [if_pos (by decide +kernel)]; kernel_rfl) | (rw [if_neg (by decide +kernel)]; exact ⟨rfl, rfl⟩))
    (fun os started H enc _ => lifted os started H enc)
#print axioms proved
end Go.Proofs.Ytfokiabkebpblaa.fnExactLinkTake
