/- laws.FnExactRingOk: for every input the law returns true and each argument reads as before. No condition. -/
import Derived.Test.YtlomckhfdcdljaaRing4
import Derived.Test.YtlomckhfdcdljaaOpen
import Derived.Lib.SmallJoins
namespace Go.Proofs.Ytlomckhfdcdljaa.fnExactRingOk
open Go.RowKit Go.ChangeShapes Go.WideShapes Go.ChangeAt Go.Joins
set_option linter.unusedVariables false
theorem kSt0 : Try.prog.cellsOf 58 = 8 := by kernel_rfl
theorem kInt : Try.prog.cellsOf 3 = 1 := by kernel_rfl
theorem kBool : Try.prog.cellsOf 4 = 1 := by kernel_rfl

set_option maxRecDepth 100000 in
theorem contract (H : Type) (enc : TypeId × Value → H) (W : World) (base : Nat) (args : Array Value) (ds gs : List (DataW H)) (before : List MemPlace)
    (hval : ∀ (j : Nat) t v, Try.f12.params[j]? = some t → args[j]? = some v → Value.okWide Try.prog W .any base t v)
    (hW : DataW.Whole enc Try.prog Try.f12.params.toList Rows.fnExactRingOkSpec.vars false W args.toList ds gs before) :
    Calls Try.prog 12 args W fun e W' => ∃ v, e = .returned v ∧ Rows.fnExactRingOkSpec.post enc Try.prog Try.f12 false true false false W args v W' := by
  have hW' := hW
  obtain ⟨p, q, hA0, hV, rfl, hfz, hnd⟩ := hW
  have hA : DataW.TrodAll enc Try.prog W 0 (fun _ => true) true Try.f12.params.toList args.toList ds p := hA0
  rw [Try.params12] at hA hval
  obtain ⟨v0, vs0, d0, ds0, p0, q0, hargs, rfl, rfl, h0, r0⟩ := trodAll_cons hA
  obtain ⟨rfl, rfl, rfl⟩ := trodAll_nil r0
  obtain rfl : args = #[v0] := by cases args; simp_all
  obtain ⟨rfl, rfl⟩ := trodVars_none hV
  obtain ⟨cs0, rfl, hl0, m0, g0⟩ := open_struct Try.underlying58 (by kernel_rfl) kSt0 (hval 0 58 v0 rfl rfl) h0
  obtain ⟨x0_0, x0_1, x0_2, x0_3, x0_4, x0_5, x0_6, x0_7, rfl⟩ := list8 hl0
  obtain ⟨y0_0, g0_0⟩ := g0 0 _ rfl
  obtain ⟨l0_0, r0_0, w0_0⟩ := open_boolsR Try.underlying55 Try.underlying4 kBool g0_0
  obtain ⟨y0_1, g0_1⟩ := g0 1 _ rfl
  obtain ⟨l0_1, r0_1, w0_1⟩ := open_intsR Try.underlying56 Try.underlying3 kInt g0_1
  obtain ⟨y0_2, g0_2⟩ := g0 2 _ rfl
  obtain ⟨l0_2, r0_2, w0_2⟩ := open_boolsR Try.underlying55 Try.underlying4 kBool g0_2
  obtain ⟨y0_3, g0_3⟩ := g0 3 _ rfl
  obtain ⟨l0_3, r0_3, w0_3⟩ := open_intsR Try.underlying56 Try.underlying3 kInt g0_3
  obtain ⟨y0_4, g0_4⟩ := g0 4 _ rfl
  obtain ⟨a0_4, e0_4, _, w0_4⟩ := DataW.trod_int Try.underlying3 g0_4
  obtain ⟨y0_5, g0_5⟩ := g0 5 _ rfl
  obtain ⟨a0_5, e0_5, _, w0_5⟩ := DataW.trod_int Try.underlying3 g0_5
  obtain ⟨y0_6, g0_6⟩ := g0 6 _ rfl
  obtain ⟨a0_6, e0_6, _⟩ := DataW.trod_bool Try.underlying4 g0_6
  obtain ⟨y0_7, g0_7⟩ := g0 7 _ rfl
  obtain ⟨a0_7, e0_7, _⟩ := DataW.trod_bool Try.underlying4 g0_7
  simp only [List.getD_cons_zero, List.getD_cons_succ, List.cons.injEq, and_true] at e0_4 e0_5 e0_6 e0_7
  subst e0_4 e0_5 e0_6 e0_7
  refine (fnRingOk_any x0_0 x0_1 x0_2 x0_3 l0_0 l0_2 l0_1 l0_3 a0_4 a0_5 a0_6 a0_7 W r0_0 r0_1 r0_2 r0_3 (fun x hx => (List.mem_append.1 hx).elim (w0_1 x) (w0_3 x)) w0_4).mono fun e W' ⟨he, hb⟩ => ⟨_, he, law_post Try_laidOut (by kernel_rfl) (by kernel_rfl) Try.underlying4 rfl rfl hW' hb⟩

set_option maxRecDepth 100000 in
theorem lifted (os : Os) (started : os.Started) (H : Type) (enc : TypeId × Value → H) :
    ReturnsInHanded {} Try.checked os 12 .any (Rows.fnExactRingOkSpec.pre6 enc Try.prog Try.f12 Rows.fnExactRingOkRow.domain false) (Rows.fnExactRingOkSpec.post enc Try.prog Try.f12 false true false false) := by
  refine returnsInHanded_of_change (C := Try.checked) Try_own started (by kernel_rfl) Try.func12
    (ChangeSpec.witness6 (enc := enc) (C := Try.checked) false ⟨#[], #[.agg #[.slice none 0 0, .slice none 0 0, .slice none 0 0, .slice none 0 0, .int .i64 0, .int .i64 0, .bool false, .bool false]], []⟩ 8 (by kernel_rfl) (by kernel_rfl) (by kernel_rfl) (by kernel_rfl)) ?_
  intro W base args ds gs before hval hW _ _
  exact contract H enc W base args ds gs before hval hW

theorem proved : Rows.FnExactRingOkSaid :=
  OpenClaim.holds_of_wide 12 Try.f12 rfl rfl rfl rfl rfl rfl rfl ⟨rfl, rfl, rfl, rfl, rfl⟩ rfl rfl rfl rfl rfl (by kernel_rfl) Try.func12 (by kernel_rfl)
    (of_decide_eq_true (by kernel_rfl)) (by unfold Func.isWrapper; first | (rw [if_pos (by decide +kernel)]; kernel_rfl) | (rw [if_neg (by decide +kernel)]; exact ⟨rfl, rfl⟩))
    (fun os started H enc _ => lifted os started H enc)
#print axioms proved
end Go.Proofs.Ytlomckhfdcdljaa.fnExactRingOk
