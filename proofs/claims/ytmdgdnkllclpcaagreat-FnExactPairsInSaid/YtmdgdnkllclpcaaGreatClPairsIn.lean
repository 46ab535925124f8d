/- laws.FnExactPairsIn: for every input the law returns true and each argument reads as before. No condition. -/
import Derived.Test.YtmdgdnkllclpcaaGreatLPairsIn
import Derived.Test.YtmdgdnkllclpcaaGreatGOSFilter
import Derived.Test.YtmdgdnkllclpcaaGreatOSWalk
import Derived.Lib.SmallJoins
namespace Go.Proofs.YtmdgdnkllclpcaaGreat.fnExactPairsIn
open Go.RowKit Go.ChangeShapes Go.WideShapes Go.ChangeAt Go.Joins
set_option linter.unusedVariables false
set_option linter.unusedSimpArgs false
theorem kSt0 : Tryz.prog.cellsOf 26 = 4 := by kernel_rfl
theorem kStr : Tryz.prog.cellsOf 9 = 1 := by kernel_rfl

set_option maxRecDepth 100000 in
theorem contract (H : Type) (enc : TypeId × Value → H) (W : World) (base : Nat) (args : Array Value) (ds gs : List (DataW H)) (before : List MemPlace)
    (hval : ∀ (j : Nat) t v, Tryz.f3.params[j]? = some t → args[j]? = some v → Value.okWide Tryz.prog W .any base t v)
    (hW : DataW.Whole enc Tryz.prog Tryz.f3.params.toList Rows.fnExactPairsInSpec.vars false W args.toList ds gs before) :
    Calls Tryz.prog 3 args W fun e W' => ∃ v, e = .returned v ∧ Rows.fnExactPairsInSpec.post enc Tryz.prog Tryz.f3 false true false false W args v W' := by
  have hW' := hW
  obtain ⟨p, q, hA0, hV, rfl, hfz, hnd⟩ := hW
  have hA : DataW.TrodAll enc Tryz.prog W 0 (fun _ => true) true Tryz.f3.params.toList args.toList ds p := hA0
  rw [Tryz.params3] at hA hval
  obtain ⟨v0, vs0, d0, ds0, p0, q0, hargs, rfl, rfl, h0, r0⟩ := trodAll_cons hA
  obtain ⟨v1, vs1, d1, ds1, p1, q1, rfl, rfl, rfl, h1, r1⟩ := trodAll_cons r0
  obtain ⟨v2, vs2, d2, ds2, p2, q2, rfl, rfl, rfl, h2, r2⟩ := trodAll_cons r1
  obtain ⟨rfl, rfl, rfl⟩ := trodAll_nil r2
  obtain rfl : args = #[v0, v1, v2] := by cases args; simp_all
  obtain ⟨rfl, rfl⟩ := trodVars_none hV
  obtain ⟨cs0, rfl, hl0, m0, g0⟩ := open_struct Tryz.underlying26 (by kernel_rfl) kSt0 (hval 0 26 v0 rfl rfl) h0
  obtain ⟨x0_0, x0_1, x0_2, x0_3, rfl⟩ := list4 hl0
  obtain ⟨y0_0, g0_0⟩ := g0 0 _ rfl
  obtain ⟨a0_0, e0_0, _⟩ := DataW.trod_bool Tryz.underlying4 g0_0
  obtain ⟨y0_1, g0_1⟩ := g0 1 _ rfl
  obtain ⟨l0_1, r0_1, w0_1⟩ := open_strsR Tryz.underlying22 Tryz.underlying9 kStr g0_1
  obtain ⟨y0_2, g0_2⟩ := g0 2 _ rfl
  obtain ⟨l0_2, r0_2, w0_2⟩ := open_atomsR g0_2
  obtain ⟨y0_3, g0_3⟩ := g0 3 _ rfl
  obtain ⟨l0_3, r0_3, w0_3⟩ := open_filtersR g0_3
  simp only [List.getD_cons_zero, List.getD_cons_succ, List.cons.injEq, and_true] at e0_0
  subst e0_0
  obtain ⟨sa1, sl1, sc1, rfl⟩ := okWide_slice Tryz.underlying27 (hval 1 27 v1 rfl rfl)
  obtain ⟨fu1, hf1⟩ := h1
  obtain ⟨l1, rd1, wd1⟩ := open_walksR hf1
  obtain ⟨a2, rfl, rfl, rfl, w2⟩ := Go.ChangeShapes.open_int Tryz.underlying3 (hval 2 3 v2 rfl rfl) h2
  refine (fnPairsIn_of _ ⟨a0_0, l0_1, l0_2, l0_3⟩ ⟨w0_1, fun x hx => ⟨(w0_2 x hx).1, (w0_2 x hx).2.1, (w0_2 x hx).2.2⟩, fun x hx => ⟨(w0_3 x hx).1, (w0_3 x hx).2.2.1⟩⟩ _ l1 a2 W ⟨_, _, _, rfl, r0_1, r0_2, r0_3⟩ rd1 (pinL ⟨a0_0, l0_1, l0_2, l0_3⟩ l1 a2) (fun _ _ => by rw [IntSSCnt_two (pinL_two ⟨a0_0, l0_1, l0_2, l0_3⟩ l1 a2)]; have := pinL_len ⟨a0_0, l0_1, l0_2, l0_3⟩ l1 a2; omega) (fun hn hs v0 v1 w hq hl => specPairsIn_any v0 v1 _ _ a2 w hq hl hn hs) (fun hn hs v0 v1 w hq hl => implPairsIn_any v0 v1 _ _ a2 w hq hl hn hs)).mono fun e W' ⟨he, hb⟩ => ⟨_, he, law_post Try_laidOut (by kernel_rfl) (by kernel_rfl) Tryz.underlying4 rfl rfl hW' hb⟩

set_option maxRecDepth 100000 in
theorem lifted (os : Os) (started : os.Started) (H : Type) (enc : TypeId × Value → H) :
    ReturnsInHanded {} Tryz.checked os 3 .any (Rows.fnExactPairsInSpec.pre6 enc Tryz.prog Tryz.f3 Rows.fnExactPairsInRow.domain false) (Rows.fnExactPairsInSpec.post enc Tryz.prog Tryz.f3 false true false false) := by
  refine returnsInHanded_of_change (C := Tryz.checked) Try_own started (by kernel_rfl) Tryz.func3
    (ChangeSpec.witness6 (enc := enc) (C := Tryz.checked) false ⟨#[], #[.agg #[.bool false, .slice none 0 0, .slice none 0 0, .slice none 0 0], .slice none 0 0, .int .i64 0], []⟩ 8 (by kernel_rfl) (by kernel_rfl) (by kernel_rfl) (by kernel_rfl)) ?_
  intro W base args ds gs before hval hW _ _
  exact contract H enc W base args ds gs before hval hW

theorem proved : Rows.FnExactPairsInSaid :=
  OpenClaim.holds_of_wide 3 Tryz.f3 rfl rfl rfl rfl rfl rfl rfl ⟨rfl, rfl, rfl, rfl, rfl⟩ rfl rfl rfl rfl rfl (by kernel_rfl) Tryz.func3 (by kernel_rfl)
    (of_decide_eq_true (by kernel_rfl)) (by unfold Func.isWrapper; first | (rw [if_pos (by decide +kernel)]; kernel_rfl) | (rw [if_neg (by decide +kernel)]; exact ⟨rfl, rfl⟩))
    (fun os started H enc _ => lifted os started H enc)
#print axioms proved
end Go.Proofs.YtmdgdnkllclpcaaGreat.fnExactPairsIn
