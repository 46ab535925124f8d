/- laws.FnExactFreshDisk: for every input the law returns true and each argument reads as before. No condition. -/
import Derived.Test.YtjgghiniajmfjaaLFreshDisk
import Derived.Test.YtjgghiniajmfjaaOSEdge
import Derived.Test.YtjgghiniajmfjaaOpen
import Derived.Lib.SmallJoins
namespace Go.Proofs.Ytjgghiniajmfjaa.fnExactFreshDisk
open Go.RowKit Go.ChangeShapes Go.WideShapes Go.ChangeAt Go.Joins
set_option linter.unusedVariables false
set_option linter.unusedSimpArgs false
theorem kSt0 : Try.prog.cellsOf 61 = 2 := by kernel_rfl

set_option maxRecDepth 100000 in
theorem contract (H : Type) (enc : TypeId × Value → H) (W : World) (base : Nat) (args : Array Value) (ds gs : List (DataW H)) (before : List MemPlace)
    (hval : ∀ (j : Nat) t v, Try.f5.params[j]? = some t → args[j]? = some v → Value.okWide Try.prog W .any base t v)
    (hW : DataW.Whole enc Try.prog Try.f5.params.toList Rows.fnExactFreshDiskSpec.vars false W args.toList ds gs before) :
    Calls Try.prog 5 args W fun e W' => ∃ v, e = .returned v ∧ Rows.fnExactFreshDiskSpec.post enc Try.prog Try.f5 false true false false W args v W' := by
  have hW' := hW
  obtain ⟨p, q, hA0, hV, rfl, hfz, hnd⟩ := hW
  have hA : DataW.TrodAll enc Try.prog W 0 (fun _ => true) true Try.f5.params.toList args.toList ds p := hA0
  rw [Try.params5] at hA hval
  obtain ⟨v0, vs0, d0, ds0, p0, q0, hargs, rfl, rfl, h0, r0⟩ := trodAll_cons hA
  obtain ⟨rfl, rfl, rfl⟩ := trodAll_nil r0
  obtain rfl : args = #[v0] := by cases args; simp_all
  obtain ⟨rfl, rfl⟩ := trodVars_none hV
  obtain ⟨cs0, rfl, hl0, m0, g0⟩ := open_struct Try.underlying61 (by kernel_rfl) kSt0 (hval 0 61 v0 rfl rfl) h0
  obtain ⟨x0_0, x0_1, rfl⟩ := list2 hl0
  obtain ⟨y0_0, g0_0⟩ := g0 0 _ rfl
  obtain ⟨a0_0, e0_0, _, w0_0⟩ := DataW.trod_int Try.underlying3 g0_0
  obtain ⟨y0_1, g0_1⟩ := g0 1 _ rfl
  obtain ⟨l0_1, r0_1, w0_1⟩ := open_edgesR g0_1
  simp only [List.getD_cons_zero, List.getD_cons_succ, List.cons.injEq, and_true] at e0_0
  subst e0_0
  refine (fnFreshDisk_of _ ⟨a0_0, l0_1⟩ trivial W ⟨_, rfl, r0_1⟩ (freD ⟨a0_0, l0_1⟩) (fun _ => by have := freD_len ⟨a0_0, l0_1⟩; unfold DiskD.cnt; omega) (graphB ⟨a0_0, l0_1⟩) (fun _ v w hv => specFreshDisk_any v _ w hv) (fun _ v w hv => implFreshDisk_any v _ w hv)).mono fun e W' ⟨he, hb⟩ => ⟨_, he, law_post Try_laidOut (by kernel_rfl) (by kernel_rfl) Try.underlying4 rfl rfl hW' hb⟩

set_option maxRecDepth 100000 in
theorem lifted (os : Os) (started : os.Started) (H : Type) (enc : TypeId × Value → H) :
    ReturnsInHanded {} Try.checked os 5 .any (Rows.fnExactFreshDiskSpec.pre6 enc Try.prog Try.f5 Rows.fnExactFreshDiskRow.domain false) (Rows.fnExactFreshDiskSpec.post enc Try.prog Try.f5 false true false false) := by
  refine returnsInHanded_of_change (C := Try.checked) Try_own started (by kernel_rfl) Try.func5
    (ChangeSpec.witness6 (enc := enc) (C := Try.checked) false ⟨#[], #[.agg #[.int .i64 0, .slice none 0 0]], []⟩ 8 (by kernel_rfl) (by kernel_rfl) (by kernel_rfl) (by kernel_rfl)) ?_
  intro W base args ds gs before hval hW _ _
  exact contract H enc W base args ds gs before hval hW

theorem proved : Rows.FnExactFreshDiskSaid :=
  OpenClaim.holds_of_wide 5 Try.f5 rfl rfl rfl rfl rfl rfl rfl ⟨rfl, rfl, rfl, rfl, rfl⟩ rfl rfl rfl rfl rfl (by kernel_rfl) Try.func5 (by kernel_rfl)
    (of_decide_eq_true (by kernel_rfl)) (by unfold Func.isWrapper; first | (rw [if_pos (by decide +kernel)]; kernel_rfl) | (rw [if_neg (by decide +kernel)]; exact ⟨rfl, rfl⟩))
    (fun os started H enc _ => lifted os started H enc)
#print axioms proved
end Go.Proofs.Ytjgghiniajmfjaa.fnExactFreshDisk
