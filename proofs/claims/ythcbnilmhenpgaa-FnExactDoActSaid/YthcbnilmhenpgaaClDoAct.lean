/- laws.FnExactDoAct: for every input the law returns true and each argument reads as before. No condition. -/
import Derived.Test.YthcbnilmhenpgaaLDoAct
import Derived.Test.YthcbnilmhenpgaaOSFile
import Derived.Test.YthcbnilmhenpgaaOpen
import Derived.Lib.SmallJoins
namespace Go.Proofs.Ythcbnilmhenpgaa.fnExactDoAct
open Go.RowKit Go.ChangeShapes Go.WideShapes Go.ChangeAt Go.Joins
set_option linter.unusedVariables false
theorem kSt0 : Try.prog.cellsOf 24 = 1 := by kernel_rfl
theorem kSt1 : Try.prog.cellsOf 26 = 4 := by kernel_rfl

set_option maxRecDepth 100000 in
theorem contract (H : Type) (enc : TypeId × Value → H) (W : World) (base : Nat) (args : Array Value) (ds gs : List (DataW H)) (before : List MemPlace)
    (hval : ∀ (j : Nat) t v, Try.f3.params[j]? = some t → args[j]? = some v → Value.okWide Try.prog W .any base t v)
    (hW : DataW.Whole enc Try.prog Try.f3.params.toList Rows.fnExactDoActSpec.vars false W args.toList ds gs before) :
    Calls Try.prog 3 args W fun e W' => ∃ v, e = .returned v ∧ Rows.fnExactDoActSpec.post enc Try.prog Try.f3 false true false false W args v W' := by
  have hW' := hW
  obtain ⟨p, q, hA0, hV, rfl, hfz, hnd⟩ := hW
  have hA : DataW.TrodAll enc Try.prog W 0 (fun _ => true) true Try.f3.params.toList args.toList ds p := hA0
  rw [Try.params3] at hA hval
  obtain ⟨v0, vs0, d0, ds0, p0, q0, hargs, rfl, rfl, h0, r0⟩ := trodAll_cons hA
  obtain ⟨v1, vs1, d1, ds1, p1, q1, rfl, rfl, rfl, h1, r1⟩ := trodAll_cons r0
  obtain ⟨rfl, rfl, rfl⟩ := trodAll_nil r1
  obtain rfl : args = #[v0, v1] := by cases args; simp_all
  obtain ⟨rfl, rfl⟩ := trodVars_none hV
  obtain ⟨cs0, rfl, hl0, m0, g0⟩ := open_struct Try.underlying24 (by kernel_rfl) kSt0 (hval 0 24 v0 rfl rfl) h0
  obtain ⟨x0, rfl⟩ := list1 hl0
  obtain ⟨y0, g0⟩ := g0 0 _ rfl
  obtain ⟨l0, rd0, wd0⟩ := open_filesR g0
  obtain ⟨cs1, rfl, hl1, m1, g1⟩ := open_struct Try.underlying26 (by kernel_rfl) kSt1 (hval 1 26 v1 rfl rfl) h1
  obtain ⟨x1_0, x1_1, x1_2, x1_3, rfl⟩ := list4 hl1
  obtain ⟨y1_0, g1_0⟩ := g1 0 _ rfl
  obtain ⟨a1_0, e1_0, _, w1_0⟩ := DataW.trod_int Try.underlying3 g1_0
  obtain ⟨y1_1, g1_1⟩ := g1 1 _ rfl
  obtain ⟨a1_1, e1_1, _, w1_1⟩ := DataW.trod_string Try.underlying9 g1_1
  obtain ⟨y1_2, g1_2⟩ := g1 2 _ rfl
  obtain ⟨a1_2, e1_2, _, w1_2⟩ := DataW.trod_string Try.underlying9 g1_2
  obtain ⟨y1_3, g1_3⟩ := g1 3 _ rfl
  obtain ⟨a1_3, e1_3, _, w1_3⟩ := DataW.trod_string Try.underlying9 g1_3
  simp only [List.getD_cons_zero, List.getD_cons_succ, List.cons.injEq, and_true] at e1_0 e1_1 e1_2 e1_3
  subst e1_0 e1_1 e1_2 e1_3
  refine (fnDoAct_of _ ⟨l0⟩ (fun x hx => ⟨(wd0 x hx).1, (wd0 x hx).2.1⟩) ⟨a1_0, a1_1, a1_2, a1_3⟩ ⟨w1_1, w1_2, w1_3⟩ W ⟨_, rfl, rd0⟩ ⟨doL l0 ⟨a1_0, a1_1, a1_2, a1_3⟩⟩ (fun _ _ => doL_cnt _ _) (doB l0 ⟨a1_0, a1_1, a1_2, a1_3⟩) (fun hn hb v w hv => specDoAct_d ⟨l0⟩ _ hn hb v w hv) (fun hn hb v w hv => implDoAct_d ⟨l0⟩ _ hn hb v w hv)).mono fun e W' ⟨he, hb⟩ => ⟨_, he, law_post Try_laidOut (by kernel_rfl) (by kernel_rfl) Try.underlying4 rfl rfl hW' hb⟩

set_option maxRecDepth 100000 in
theorem lifted (os : Os) (started : os.Started) (H : Type) (enc : TypeId × Value → H) :
    ReturnsInHanded {} Try.checked os 3 .any (Rows.fnExactDoActSpec.pre6 enc Try.prog Try.f3 Rows.fnExactDoActRow.domain false) (Rows.fnExactDoActSpec.post enc Try.prog Try.f3 false true false false) := by
  refine returnsInHanded_of_change (C := Try.checked) Try_own started (by kernel_rfl) Try.func3
    (ChangeSpec.witness6 (enc := enc) (C := Try.checked) false ⟨#[], #[.agg #[.slice none 0 0], .agg #[.int .i64 0, .string ⟨#[]⟩, .string ⟨#[]⟩, .string ⟨#[]⟩]], []⟩ 8 (by kernel_rfl) (by kernel_rfl) (by kernel_rfl) (by kernel_rfl)) ?_
  intro W base args ds gs before hval hW _ _
  exact contract H enc W base args ds gs before hval hW

theorem proved : Rows.FnExactDoActSaid :=
  OpenClaim.holds_of_wide 3 Try.f3 rfl rfl rfl rfl rfl rfl rfl ⟨rfl, rfl, rfl, rfl, rfl⟩ rfl rfl rfl rfl rfl (by kernel_rfl) Try.func3 (by kernel_rfl)
    (of_decide_eq_true (by kernel_rfl)) (by unfold Func.isWrapper; first | (rw [if_pos (by decide +kernel)]; kernel_rfl) | (rw [if_neg (by decide +kernel)]; exact ⟨rfl, rfl⟩))
    (fun os started H enc _ => lifted os started H enc)
#print axioms proved
end Go.Proofs.Ythcbnilmhenpgaa.fnExactDoAct
