/- Rows of rows opened: from the form's reading of an argument to NestR, LinkSR, StringSSR. No condition. -/
import Derived.Test.YtfokiabkebpblaaNLinkS
import Derived.Test.YtfokiabkebpblaaNStringSS
import Derived.Test.YtfokiabkebpblaaOpen
namespace Go.Proofs.Ytfokiabkebpblaa
open Go.RowKit Go.Deep Go.ChangeShapes Go.WideShapes
set_option linter.unusedVariables false

theorem open_nest {α : Type} [Inhabited α] {H : Type} {enc : TypeId × Value → H} {P : Program} {w : World} {spare : Nat → Bool} {held : Bool} {E : World → List Value → α → Prop} {p : α → Prop} {t e : TypeId} {sz fuel : Nat} {v : Value} {x : DataW H × List MemPlace}
    (ht : P.underlying t = some (.slice e)) (hc : P.cellsOf e = sz) (hsz : 0 < sz) (h : DataW.trod enc P w 0 spare held fuel t [v] = some x)
    (hp : ∀ m (cs : List Value) (y : DataW H × List MemPlace), cs.length = sz → DataW.trod enc P w 0 spare held m e cs = some y → ∃ a, E w cs a ∧ p a) :
    ∃ l : List α, NestR E sz w v l ∧ ∀ a ∈ l, p a := by
  obtain ⟨n, C, hr, _, hC⟩ := open_rows ht hc hsz h
  have : ∀ i, ∃ a, i < n → E w (C i) a ∧ p a := by
    intro i
    by_cases hi : i < n
    · obtain ⟨h1, m, y, h2⟩ := hC i hi
      obtain ⟨a, ha⟩ := hp m (C i) y h1 h2
      exact ⟨a, fun _ => ha⟩
    · exact ⟨default, fun h => absurd h hi⟩
  obtain ⟨g, hg⟩ := Classical.axiomOfChoice this
  refine ⟨(List.range n).map g, ⟨(List.range n).map C, by simp, ?_, ?_⟩, ?_⟩
  · rw [← List.flatMap_def]
    simpa using hr
  · intro k u a hu ha
    have hk : k < n := by have := (List.getElem?_eq_some_iff.1 hu).1; simpa using this
    simp [hk] at hu ha
    subst hu ha
    exact ⟨(hC k hk).1, (hg k hk).1⟩
  · intro a ha
    obtain ⟨i, hi, rfl⟩ := List.mem_map.1 ha
    exact (hg i (by simpa using hi)).2
theorem one_Str : Try.prog.cellsOf 9 = 1 := by kernel_rfl
theorem one_Strs : Try.prog.cellsOf 28 = 1 := by kernel_rfl
theorem cells_lawsLink : Try.prog.cellsOf 30 = 3 := by kernel_rfl
theorem open_stringSSR {H : Type} {enc : TypeId × Value → H} {w : World} {spare : Nat → Bool} {held : Bool} {fuel : Nat} {v : Value} {y : DataW H × List MemPlace} (h : DataW.trod enc Try.prog w 0 spare held fuel 77 [v] = some y) :
    ∃ xs, StringSSR w v xs ∧ StringSSOk xs := by
  refine open_nest Try.underlying77 one_Strs (by omega) h fun m cs y hl hy => ?_
  obtain ⟨c, rfl⟩ := list1 hl
  obtain ⟨ss, h1, h2⟩ := open_strsR Try.underlying28 Try.underlying9 one_Str hy
  exact ⟨ss, ⟨c, rfl, h1⟩, h2⟩
theorem open_linkSR {H : Type} {enc : TypeId × Value → H} {w : World} {spare : Nat → Bool} {held : Bool} {fuel : Nat} {v : Value} {y : DataW H × List MemPlace} (h : DataW.trod enc Try.prog w 0 spare held fuel 76 [v] = some y) :
    ∃ xs, LinkSR w v xs ∧ LinkSOk xs := by
  refine open_nest Try.underlying76 cells_lawsLink (by omega) h fun m cs y hl hy => ?_
  obtain ⟨_, k, h4⟩ := trod_fields Try.underlying30 (by kernel_rfl) cells_lawsLink hy
  obtain ⟨c0, c1, c2, rfl⟩ := list3 hl
  obtain ⟨y0, g0⟩ := h4 0 _ rfl
  obtain ⟨ss, h1, h2⟩ := open_strsR Try.underlying28 Try.underlying9 one_Str g0
  obtain ⟨y1, g1⟩ := h4 1 _ rfl
  obtain ⟨a1, e1, _, w1⟩ := DataW.trod_int Try.underlying3 g1
  obtain ⟨y2, g2⟩ := h4 2 _ rfl
  obtain ⟨a2, e2, _, w2⟩ := DataW.trod_int Try.underlying3 g2
  simp only [List.getD_cons_zero, List.getD_cons_succ, List.cons.injEq, and_true] at e1 e2 h1
  subst e1 e2
  exact ⟨⟨ss, a1, a2⟩, ⟨c0, rfl, h1⟩, h2⟩
end Go.Proofs.Ytfokiabkebpblaa
