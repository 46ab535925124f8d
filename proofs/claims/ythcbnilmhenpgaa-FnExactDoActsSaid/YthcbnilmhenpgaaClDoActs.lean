/- laws.FnExactDoActs: for every input the law returns true and each argument reads as before. No condition. -/
import Derived.Test.YthcbnilmhenpgaaLDoActs
import Derived.Test.YthcbnilmhenpgaaOSFile
import Derived.Test.YthcbnilmhenpgaaOSAct
import Derived.Test.YthcbnilmhenpgaaOpen
import Derived.Lib.SmallJoins
namespace Go.Proofs.Ythcbnilmhenpgaa.fnExactDoActs
open Go.RowKit Go.ChangeShapes Go.WideShapes Go.ChangeAt Go.Joins
set_option linter.unusedVariables false
theorem kSt0 : Try.prog.cellsOf 24 = 1 := by kernel_rfl

set_option maxRecDepth 100000 in
theorem contract (H : Type) (enc : TypeId × Value → H) (W : World) (base : Nat) (args : Array Value) (ds gs : List (DataW H)) (before : List MemPlace)
    (hval : ∀ (j : Nat) t v, Try.f4.params[j]? = some t → args[j]? = some v → Value.okWide Try.prog W .any base t v)
    (hW : DataW.Whole enc Try.prog Try.f4.params.toList Rows.fnExactDoActsSpec.vars false W args.toList ds gs before) :
    Calls Try.prog 4 args W fun e W' => ∃ v, e = .returned v ∧ Rows.fnExactDoActsSpec.post enc Try.prog Try.f4 false true false false W args v W' := by
  have hW' := hW
  obtain ⟨p, q, hA0, hV, rfl, hfz, hnd⟩ := hW
  have hA : DataW.TrodAll enc Try.prog W 0 (fun _ => true) true Try.f4.params.toList args.toList ds p := hA0
  rw [Try.params4] at hA hval
  obtain ⟨v0, vs0, d0, ds0, p0, q0, hargs, rfl, rfl, h0, r0⟩ := trodAll_cons hA
  obtain ⟨v1, vs1, d1, ds1, p1, q1, rfl, rfl, rfl, h1, r1⟩ := trodAll_cons r0
  obtain ⟨rfl, rfl, rfl⟩ := trodAll_nil r1
  obtain rfl : args = #[v0, v1] := by cases args; simp_all
  obtain ⟨rfl, rfl⟩ := trodVars_none hV
  obtain ⟨cs0, rfl, hl0, m0, g0⟩ := open_struct Try.underlying24 (by kernel_rfl) kSt0 (hval 0 24 v0 rfl rfl) h0
  obtain ⟨x0, rfl⟩ := list1 hl0
  obtain ⟨y0, g0⟩ := g0 0 _ rfl
  obtain ⟨l0, rd0, wd0⟩ := open_filesR g0
  obtain ⟨sa1, sl1, sc1, rfl⟩ := okWide_slice Try.underlying40 (hval 1 40 v1 rfl rfl)
  obtain ⟨fu1, hf1⟩ := h1
  obtain ⟨l1, rd1, wd1⟩ := open_actsR hf1
  refine (fnDoActs_of _ ⟨l0⟩ (fun x hx => ⟨(wd0 x hx).1, (wd0 x hx).2.1⟩) _ l1 (fun x hx => ⟨(wd1 x hx).2.1, (wd1 x hx).2.2.1, (wd1 x hx).2.2.2⟩) W ⟨_, rfl, rd0⟩ rd1 ⟨(dosGo l1 l0 0).1⟩ (fun hn _ _ => dosGo_cnt hn) ((dosGo l1 l0 0).2 : Int) (fun hn _ hb v v1 w hv hv1 => specDoActs_d ⟨l0⟩ _ hn hb v v1 w hv hv1) (fun hn _ hb v v1 w hv hv1 => implDoActs_d ⟨l0⟩ _ hn hb v v1 w hv hv1)).mono fun e W' ⟨he, hb⟩ => ⟨_, he, law_post Try_laidOut (by kernel_rfl) (by kernel_rfl) Try.underlying4 rfl rfl hW' hb⟩

set_option maxRecDepth 100000 in
theorem lifted (os : Os) (started : os.Started) (H : Type) (enc : TypeId × Value → H) :
    ReturnsInHanded {} Try.checked os 4 .any (Rows.fnExactDoActsSpec.pre6 enc Try.prog Try.f4 Rows.fnExactDoActsRow.domain false) (Rows.fnExactDoActsSpec.post enc Try.prog Try.f4 false true false false) := by
  refine returnsInHanded_of_change (C := Try.checked) Try_own started (by kernel_rfl) Try.func4
    (ChangeSpec.witness6 (enc := enc) (C := Try.checked) false ⟨#[], #[.agg #[.slice none 0 0], .slice none 0 0], []⟩ 8 (by kernel_rfl) (by kernel_rfl) (by kernel_rfl) (by kernel_rfl)) ?_
  intro W base args ds gs before hval hW _ _
  exact contract H enc W base args ds gs before hval hW

theorem proved : Rows.FnExactDoActsSaid :=
  OpenClaim.holds_of_wide 4 Try.f4 rfl rfl rfl rfl rfl rfl rfl ⟨rfl, rfl, rfl, rfl, rfl⟩ rfl rfl rfl rfl rfl (by kernel_rfl) Try.func4 (by kernel_rfl)
    (of_decide_eq_true (by kernel_rfl)) (by unfold Func.isWrapper; first | (rw [if_pos (by decide +kernel)]; kernel_rfl) | (rw [if_neg (by decide +kernel)]; exact ⟨rfl, rfl⟩))
    (fun os started H enc _ => lifted os started H enc)
#print axioms proved
end Go.Proofs.Ythcbnilmhenpgaa.fnExactDoActs
