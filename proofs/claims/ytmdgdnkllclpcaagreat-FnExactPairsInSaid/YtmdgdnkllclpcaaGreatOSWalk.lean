/- A slice of Walk opened: from the form's reading of an argument to WalksR. No condition. (Printed by mk_structs.py.) -/
import Derived.Test.YtmdgdnkllclpcaaGreatGOParcel
import Derived.Test.YtmdgdnkllclpcaaGreatGOSFilter
namespace Go.Proofs.YtmdgdnkllclpcaaGreat
open Go.RowKit Go.Deep Go.ChangeShapes Go.WideShapes
set_option linter.unusedVariables false

def WalkR.wf (x : WalkR) : Prop := (Lit.int .i64 x.f0).wf = true ∧ (Lit.int .i64 x.f1).wf = true ∧ (Lit.int .i64 x.f2).wf = true ∧ (Lit.int .i64 x.f3).wf = true
theorem cells_lawsWalk : Tryz.prog.cellsOf 50 = 4 := by kernel_rfl
theorem walk_flatC {C : Nat → List Value} {n : Nat} {g : Nat → WalkR} (h : ∀ i, i < n → C i = (g i).cells) : (List.range n).flatMap C = ((List.range n).map g).flatMap WalkR.cells := by
  induction n with
  | zero => simp
  | succ n ih => rw [List.range_succ, List.flatMap_append, ih (fun i hi => h i (by omega))]; simp [h n (by omega), List.flatMap_append]
theorem open_walksR {H : Type} {enc : TypeId × Value → H} {w : World} {spare : Nat → Bool} {held : Bool} {fuel : Nat} {v : Value} {y : DataW H × List MemPlace} (h : DataW.trod enc Tryz.prog w 0 spare held fuel 27 [v] = some y) :
    ∃ xs : List WalkR, WalksR w v xs ∧ ∀ x ∈ xs, x.wf := by
  obtain ⟨n, C, hr, _, hC⟩ := open_rows Tryz.underlying27 cells_lawsWalk (by omega) h
  have : ∀ i, ∃ a : WalkR, i < n → C i = a.cells ∧ a.wf := by
    intro i
    by_cases hi : i < n
    · obtain ⟨h1, m, y, h2⟩ := hC i hi
      obtain ⟨h3, k, h4⟩ := trod_fields Tryz.underlying50 (by kernel_rfl) cells_lawsWalk h2
      obtain ⟨c0, c1, c2, c3, hc⟩ := list4 h1
      rw [hc] at h4
      obtain ⟨y0, g0⟩ := h4 0 _ rfl
      obtain ⟨a0, e0, _, w0⟩ := DataW.trod_int Tryz.underlying3 g0
      obtain ⟨y1, g1⟩ := h4 1 _ rfl
      obtain ⟨a1, e1, _, w1⟩ := DataW.trod_int Tryz.underlying3 g1
      obtain ⟨y2, g2⟩ := h4 2 _ rfl
      obtain ⟨a2, e2, _, w2⟩ := DataW.trod_int Tryz.underlying3 g2
      obtain ⟨y3, g3⟩ := h4 3 _ rfl
      obtain ⟨a3, e3, _, w3⟩ := DataW.trod_int Tryz.underlying3 g3
      simp only [List.getD_cons_zero, List.getD_cons_succ, List.cons.injEq, and_true] at e0 e1 e2 e3
      subst e0 e1 e2 e3
      exact ⟨⟨a0, a1, a2, a3⟩, fun _ => ⟨hc, w0, w1, w2, w3⟩⟩
    · exact ⟨default, fun h => absurd h hi⟩
  obtain ⟨g, hg⟩ := Classical.axiomOfChoice this
  refine ⟨(List.range n).map g, ?_, ?_⟩
  · have hr' := hr
    rw [walk_flatC (fun i hi => (hg i hi).1)] at hr'
    simpa [WalksR] using hr'
  · intro a ha
    obtain ⟨i, hi, rfl⟩ := List.mem_map.1 ha
    exact (hg i (by simpa using hi)).2
end Go.Proofs.YtmdgdnkllclpcaaGreat
