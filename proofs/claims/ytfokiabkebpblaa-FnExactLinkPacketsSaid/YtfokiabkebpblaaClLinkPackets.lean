/- laws.FnExactLinkPackets: for every input the law returns true and each argument reads as before. No condition. -/
import Derived.Test.YtfokiabkebpblaaLLinkPackets
import Derived.Test.YtfokiabkebpblaaOpen
import Derived.Lib.SmallJoins
namespace Go.Proofs.Ytfokiabkebpblaa.fnExactLinkPackets
open Go.RowKit Go.ChangeShapes Go.WideShapes Go.ChangeAt Go.Joins
set_option linter.unusedVariables false
theorem kSt0 : Try.prog.cellsOf 30 = 3 := by kernel_rfl
theorem kStr : Try.prog.cellsOf 9 = 1 := by kernel_rfl

set_option maxRecDepth 100000 in
theorem contract (H : Type) (enc : TypeId × Value → H) (W : World) (base : Nat) (args : Array Value) (ds gs : List (DataW H)) (before : List MemPlace)
    (hval : ∀ (j : Nat) t v, Try.f10.params[j]? = some t → args[j]? = some v → Value.okWide Try.prog W .any base t v)
    (hW : DataW.Whole enc Try.prog Try.f10.params.toList Rows.fnExactLinkPacketsSpec.vars false W args.toList ds gs before) :
    Calls Try.prog 10 args W fun e W' => ∃ v, e = .returned v ∧ Rows.fnExactLinkPacketsSpec.post enc Try.prog Try.f10 false true false false W args v W' := by
  have hW' := hW
  obtain ⟨p, q, hA0, hV, rfl, hfz, hnd⟩ := hW
  have hA : DataW.TrodAll enc Try.prog W 0 (fun _ => true) true Try.f10.params.toList args.toList ds p := hA0
  rw [Try.params10] at hA hval
  obtain ⟨v0, vs0, d0, ds0, p0, q0, hargs, rfl, rfl, h0, r0⟩ := trodAll_cons hA
  obtain ⟨v1, vs1, d1, ds1, p1, q1, rfl, rfl, rfl, h1, r1⟩ := trodAll_cons r0
  obtain ⟨v2, vs2, d2, ds2, p2, q2, rfl, rfl, rfl, h2, r2⟩ := trodAll_cons r1
  obtain ⟨v3, vs3, d3, ds3, p3, q3, rfl, rfl, rfl, h3, r3⟩ := trodAll_cons r2
  obtain ⟨rfl, rfl, rfl⟩ := trodAll_nil r3
  obtain rfl : args = #[v0, v1, v2, v3] := by cases args; simp_all
  obtain ⟨rfl, rfl⟩ := trodVars_none hV
  obtain ⟨cs0, rfl, hl0, m0, g0⟩ := open_struct Try.underlying30 (by kernel_rfl) kSt0 (hval 0 30 v0 rfl rfl) h0
  obtain ⟨x0_0, x0_1, x0_2, rfl⟩ := list3 hl0
  obtain ⟨y0_0, g0_0⟩ := g0 0 _ rfl
  obtain ⟨l0_0, r0_0, w0_0⟩ := open_strsR Try.underlying28 Try.underlying9 kStr g0_0
  obtain ⟨y0_1, g0_1⟩ := g0 1 _ rfl
  obtain ⟨a0_1, e0_1, _, w0_1⟩ := DataW.trod_int Try.underlying3 g0_1
  obtain ⟨y0_2, g0_2⟩ := g0 2 _ rfl
  obtain ⟨a0_2, e0_2, _, w0_2⟩ := DataW.trod_int Try.underlying3 g0_2
  simp only [List.getD_cons_zero, List.getD_cons_succ, List.cons.injEq, and_true] at e0_1 e0_2
  subst e0_1 e0_2
  obtain ⟨a1, rfl, rfl, rfl, w1⟩ := Go.ChangeShapes.open_int Try.underlying3 (hval 1 3 v1 rfl rfl) h1
  obtain ⟨a2, rfl, rfl, rfl, w2⟩ := Go.ChangeShapes.open_int Try.underlying3 (hval 2 3 v2 rfl rfl) h2
  obtain ⟨a3, rfl, rfl, rfl, w3⟩ := Go.ChangeShapes.open_int Try.underlying3 (hval 3 3 v3 rfl rfl) h3
  refine (fnLinkPackets_of _ ⟨l0_0, a0_1, a0_2⟩ w0_0 a1 a2 a3 W ⟨_, rfl, r0_0⟩ (pkL ⟨l0_0, a0_1, a0_2⟩ a1 a2 a3) (fun hn => pkL_cnt _ _ _ _) (fun hn v w hv => specLinkPackets_any _ _ _ _ hn v w hv) (fun hn v w hv => implLinkPackets_any _ _ _ _ hn v w hv)).mono fun e W' ⟨he, hb⟩ => ⟨_, he, law_post Try_laidOut (by kernel_rfl) (by kernel_rfl) Try.underlying4 rfl rfl hW' hb⟩

set_option maxRecDepth 100000 in
theorem lifted (os : Os) (started : os.Started) (H : Type) (enc : TypeId × Value → H) :
    ReturnsInHanded {} Try.checked os 10 .any (Rows.fnExactLinkPacketsSpec.pre6 enc Try.prog Try.f10 Rows.fnExactLinkPacketsRow.domain false) (Rows.fnExactLinkPacketsSpec.post enc Try.prog Try.f10 false true false false) := by
  refine returnsInHanded_of_change (C := Try.checked) Try_own started (by kernel_rfl) Try.func10
    (ChangeSpec.witness6 (enc := enc) (C := Try.checked) false ⟨#[], #[.agg #[.slice none 0 0, .int .i64 0, .int .i64 0], .int .i64 0, .int .i64 0, .int .i64 0], []⟩ 8 (by kernel_rfl) (by kernel_rfl) (by kernel_rfl) (by kernel_rfl)) ?_
  intro W base args ds gs before hval hW _ _
  exact contract H enc W base args ds gs before hval hW

theorem proved : Rows.FnExactLinkPacketsSaid :=
  OpenClaim.holds_of_wide 10 Try.f10 rfl rfl rfl rfl rfl rfl rfl ⟨rfl, rfl, rfl, rfl, rfl⟩ rfl rfl rfl rfl rfl (by kernel_rfl) Try.func10 (by kernel_rfl)
    (of_decide_eq_true (by kernel_rfl)) (by unfold Func.isWrapper; first | (rw [if_pos (by decide +kernel)]; kernel_rfl) | (rw [if_neg (by decide +kernel)]; exact ⟨rfl, rfl⟩))
    (fun os started H enc _ => lifted os started H enc)
#print axioms proved
end Go.Proofs.Ytfokiabkebpblaa.fnExactLinkPackets
