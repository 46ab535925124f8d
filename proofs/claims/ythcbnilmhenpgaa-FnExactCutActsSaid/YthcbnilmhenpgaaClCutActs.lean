/- laws.FnExactCutActs: for every input the law returns true and each argument reads as before. No condition. -/
import Derived.Test.YthcbnilmhenpgaaLCutActs
import Derived.Test.YthcbnilmhenpgaaOSFile
import Derived.Test.YthcbnilmhenpgaaOSAct
import Derived.Test.YthcbnilmhenpgaaOpen
import Derived.Lib.SmallJoins
namespace Go.Proofs.Ythcbnilmhenpgaa.fnExactCutActs
open Go.RowKit Go.ChangeShapes Go.WideShapes Go.ChangeAt Go.Joins
set_option linter.unusedVariables false
theorem kSt0 : Try.prog.cellsOf 24 = 1 := by kernel_rfl
theorem kInt : Try.prog.cellsOf 3 = 1 := by kernel_rfl

set_option maxRecDepth 100000 in
theorem contract (H : Type) (enc : TypeId × Value → H) (W : World) (base : Nat) (args : Array Value) (ds gs : List (DataW H)) (before : List MemPlace)
    (hval : ∀ (j : Nat) t v, Try.f5.params[j]? = some t → args[j]? = some v → Value.okWide Try.prog W .any base t v)
    (hW : DataW.Whole enc Try.prog Try.f5.params.toList Rows.fnExactCutActsSpec.vars false W args.toList ds gs before) :
    Calls Try.prog 5 args W fun e W' => ∃ v, e = .returned v ∧ Rows.fnExactCutActsSpec.post enc Try.prog Try.f5 false true false false W args v W' := by
  have hW' := hW
  obtain ⟨p, q, hA0, hV, rfl, hfz, hnd⟩ := hW
  have hA : DataW.TrodAll enc Try.prog W 0 (fun _ => true) true Try.f5.params.toList args.toList ds p := hA0
  rw [Try.params5] at hA hval
  obtain ⟨v0, vs0, d0, ds0, p0, q0, hargs, rfl, rfl, h0, r0⟩ := trodAll_cons hA
  obtain ⟨v1, vs1, d1, ds1, p1, q1, rfl, rfl, rfl, h1, r1⟩ := trodAll_cons r0
  obtain ⟨v2, vs2, d2, ds2, p2, q2, rfl, rfl, rfl, h2, r2⟩ := trodAll_cons r1
  obtain ⟨v3, vs3, d3, ds3, p3, q3, rfl, rfl, rfl, h3, r3⟩ := trodAll_cons r2
  obtain ⟨rfl, rfl, rfl⟩ := trodAll_nil r3
  obtain rfl : args = #[v0, v1, v2, v3] := by cases args; simp_all
  obtain ⟨rfl, rfl⟩ := trodVars_none hV
  obtain ⟨cs0, rfl, hl0, m0, g0⟩ := open_struct Try.underlying24 (by kernel_rfl) kSt0 (hval 0 24 v0 rfl rfl) h0
  obtain ⟨x0, rfl⟩ := list1 hl0
  obtain ⟨y0, g0⟩ := g0 0 _ rfl
  obtain ⟨l0, rd0, wd0⟩ := open_filesR g0
  obtain ⟨sa1, sl1, sc1, rfl⟩ := okWide_slice Try.underlying40 (hval 1 40 v1 rfl rfl)
  obtain ⟨fu1, hf1⟩ := h1
  obtain ⟨l1, rd1, wd1⟩ := open_actsR hf1
  obtain ⟨a2, rfl, rfl, rfl, w2⟩ := Go.ChangeShapes.open_int Try.underlying3 (hval 2 3 v2 rfl rfl) h2
  obtain ⟨sa3, sl3, sc3, rfl⟩ := okWide_slice Try.underlying49 (hval 3 49 v3 rfl rfl)
  obtain ⟨fu3, hf3⟩ := h3
  obtain ⟨l3, rd3, wd3⟩ := open_intsR Try.underlying49 Try.underlying3 kInt hf3
  refine (fnCutActs_of _ ⟨l0⟩ (fun x hx => ⟨(wd0 x hx).1, (wd0 x hx).2.1⟩) _ l1 (fun x hx => ⟨(wd1 x hx).2.1, (wd1 x hx).2.2.1, (wd1 x hx).2.2.2⟩) a2 _ l3 W ⟨_, rfl, rd0⟩ rd1 rd3 (cutD l0 l1 a2 l3) (fun hn _ _ _ => cutD_cnt hn) (cutB l0 l1 a2) (fun hn _ _ hb v v1 v3 w hv hv1 hv3 => specCutActs_any l0 l1 a2 l3 hn hb v v1 v3 w hv hv1 hv3) (fun hn _ _ hb v v1 v3 w hv hv1 hv3 => implCutActs_any l0 l1 a2 l3 hn hb v v1 v3 w hv hv1 hv3)).mono fun e W' ⟨he, hb⟩ => ⟨_, he, law_post Try_laidOut (by kernel_rfl) (by kernel_rfl) Try.underlying4 rfl rfl hW' hb⟩

set_option maxRecDepth 100000 in
theorem lifted (os : Os) (started : os.Started) (H : Type) (enc : TypeId × Value → H) :
    ReturnsInHanded {} Try.checked os 5 .any (Rows.fnExactCutActsSpec.pre6 enc Try.prog Try.f5 Rows.fnExactCutActsRow.domain false) (Rows.fnExactCutActsSpec.post enc Try.prog Try.f5 false true false false) := by
  refine returnsInHanded_of_change (C := Try.checked) Try_own started (by kernel_rfl) Try.func5
    (ChangeSpec.witness6 (enc := enc) (C := Try.checked) false ⟨#[], #[.agg #[.slice none 0 0], .slice none 0 0, .int .i64 0, .slice none 0 0], []⟩ 8 (by kernel_rfl) (by kernel_rfl) (by kernel_rfl) (by kernel_rfl)) ?_
  intro W base args ds gs before hval hW _ _
  exact contract H enc W base args ds gs before hval hW

theorem proved : Rows.FnExactCutActsSaid :=
  OpenClaim.holds_of_wide 5 Try.f5 rfl rfl rfl rfl rfl rfl rfl ⟨rfl, rfl, rfl, rfl, rfl⟩ rfl rfl rfl rfl rfl (by kernel_rfl) Try.func5 (by kernel_rfl)
    (of_decide_eq_true (by kernel_rfl)) (by unfold Func.isWrapper; first | (rw [if_pos (by decide +kernel)]; kernel_rfl) | (rw [if_neg (by decide +kernel)]; exact ⟨rfl, rfl⟩))
    (fun os started H enc _ => lifted os started H enc)
#print axioms proved
end Go.Proofs.Ythcbnilmhenpgaa.fnExactCutActs
