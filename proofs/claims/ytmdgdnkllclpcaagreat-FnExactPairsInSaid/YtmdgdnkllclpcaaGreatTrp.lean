/- Pairs chosen of owned pairs, plain and in the world. No condition. -/
import Derived.Test.YtmdgdnkllclpcaaGreatGPen
import Derived.Test.YtmdgdnkllclpcaaGreatGSta2
import Derived.Test.YtmdgdnkllclpcaaGreatNfl
namespace Go.Proofs.YtmdgdnkllclpcaaGreat
open Go.RowKit
set_option linter.unusedVariables false
set_option linter.unusedSimpArgs false
section
variable {f : List Int → Bool} {A : List (List Int)} {j : Nat}
def selIx (f : List Int → Bool) (A : List (List Int)) (j : Nat) : List Nat := (List.range j).filter fun i => f (nAt A i)
theorem selIx_yes (h : f (nAt A j) = true) : selIx f A (j + 1) = selIx f A j ++ [j] := by unfold selIx; rw [List.range_succ, List.filter_append]; simp [h]
theorem selIx_no (h : f (nAt A j) = false) : selIx f A (j + 1) = selIx f A j := by unfold selIx; rw [List.range_succ, List.filter_append]; simp [h]
theorem selIx_lt : ∀ i ∈ selIx f A j, i < j := fun i hi => List.mem_range.1 (List.mem_filter.1 hi).1
theorem selIx_len : (selIx f A j).length ≤ j := by
  have := List.length_filter_le (fun i => f (nAt A i)) (List.range j)
  rwa [List.length_range] at this
theorem selIx_up : (selIx f A j).Pairwise (· < ·) := List.Pairwise.filter _ List.pairwise_lt_range
theorem map_nAt {α : Type} [Inhabited α] (A : List α) : (List.range A.length).map (nAt A) = A := by
  refine List.ext_getElem (by simp) fun i h1 h2 => ?_
  simp [nAt, List.getD, List.getElem?_eq_getElem h2]
theorem selIx_all : (selIx f A A.length).map (nAt A) = A.filter f := by
  conv => rhs; rw [← map_nAt A]
  rw [List.filter_map]
  rfl
end
/-- Owned pairs, taken apart once. -/
structure Prs (wA : World) (lo hi : Nat) (av : Value) (A : List (List Int)) (us : List (List Value)) (los his : Nat → Nat) : Prop where
  len : us.length = A.length
  own : OwW wA lo hi 86 1 av A.length us.flatten
  el : ∀ (k : Nat) u x, us[k]? = some u → A[k]? = some x → u.length = 1 ∧ IntsEW wA (los k) (his k) u x ∧ lo ≤ los k ∧ los k ≤ his k ∧ his k ≤ hi
  ord : ∀ j k, j < k → k < A.length → his j ≤ los k
section
variable {wA wr : World} {lo hi : Nat} {av v : Value} {A : List (List Int)} {us : List (List Value)} {los his : Nat → Nat}
theorem Prs.of (h : IntSSW wA lo hi av A) : ∃ us los his, Prs wA lo hi av A us los his := by
  obtain ⟨us, los, his, h1, h2, h3, h4⟩ := h
  rw [List.append_nil] at h2
  exact ⟨us, los, his, h1, h2, fun k u x hu hx => by obtain ⟨a1, a2, a3, a4, a5, _⟩ := h3 k u x hu hx; exact ⟨a1, a2, a3, a4, a5⟩, h4⟩
theorem Prs.at (h : Prs wA lo hi av A us los his) {j : Nat} (hj : j < A.length) (h2 : (nAt A j).length = 2) : ∃ ga ca g c, av = .slice (some ⟨ga, 0, none⟩) A.length ca ∧ (lo ≤ ga ∧ ga < wA.heap.size) ∧ wA.cell? ⟨ga, j, none⟩ = some (.slice (some ⟨g, 0, none⟩) 2 c) ∧ (lo ≤ g ∧ g < wA.heap.size) ∧ wA.cell? ⟨g, 1, none⟩ = some (.int .i64 (iAt (nAt A j) 1)) ∧ us.getD j [] = [.slice (some ⟨g, 0, none⟩) 2 c] := by
  have hju : j < us.length := by rw [h.len]; exact hj
  have hu : us[j]? = some us[j] := List.getElem?_eq_getElem hju
  obtain ⟨a1, ⟨v, hv, ho⟩, a3, a4, a5⟩ := h.el j _ _ hu (nAt_get hj)
  rcases owns_shape h.own.1 with ⟨_, h0, _⟩ | ⟨ga, ca, hav, b1, b2, _⟩
  · omega
  · rcases owns_shape ho.1 with ⟨_, h0, _⟩ | ⟨g, c, rfl, c1, c2, _⟩
    · omega
    · subst hav
      have e1 : us.flatten[j]? = some (.slice (some ⟨g, 0, none⟩) (nAt A j).length c) := by
        have := flatten_at (sz := 1) (us := us) (mem_at fun k u hk => (h.el k u _ hk (nAt_get (show k < A.length by rw [← h.len]; exact (List.getElem?_eq_some_iff.1 hk).1))).1) j _ hu 0 (by omega)
        rw [hv] at this
        simpa using this
      refine ⟨ga, ca, g, c, rfl, ⟨b1, b2⟩, ?_, ⟨by omega, c2⟩, ?_, ?_⟩
      · rw [World.ownsRow.cellAt h.own.1 j (by omega), e1, h2]
      · rw [World.ownsRow.cellAt ho.1 1 (by omega)]
        simp [iAt, List.getD, h2]
      · rw [List.getD_eq_getElem?_getD, hu, ← h2]
        exact hv
theorem Prs.sel (h : Prs wA lo hi av A us los his) (hab : Ab lo wA wr) {L : Nat} {is : List Nat} (hup : is.Pairwise (· < ·)) (hlt : ∀ i ∈ is, i < A.length) (own : OwW wr L wr.heap.size 86 1 v is.length (is.flatMap fun i => us.getD i [])) (hL : L ≤ lo) (hh : hi ≤ wA.heap.size) (hoff : Off lo wA.heap.size v) : IntSSW wr L wr.heap.size v (is.map (nAt A)) := by
  have hsz := hab.1
  have key : ∀ k, k < is.length → is.getD k 0 < A.length := fun k hk => by
    rw [List.getD_eq_getElem?_getD, List.getElem?_eq_getElem hk]
    exact hlt _ (List.getElem_mem hk)
  refine ⟨is.map (fun i => us.getD i []), fun k => los (is.getD k 0), fun k => his (is.getD k 0), by simp, ?_, fun k u x hu hx => ?_, fun a b hab' hb => ?_⟩
  · rw [List.append_nil, List.length_map, ← List.flatMap_def]
    exact own
  · have hk : k < is.length := by have := (List.getElem?_eq_some_iff.1 hu).1; simpa using this
    have hi' := key k hk
    rw [List.getElem?_map, List.getElem?_eq_getElem hk] at hu hx
    simp only [Option.map_some, Option.some.injEq] at hu hx
    have e : is.getD k 0 = is[k] := by rw [List.getD_eq_getElem?_getD, List.getElem?_eq_getElem hk]; rfl
    rw [e] at hi'
    have hu' : us[is[k]]? = some u := by
      rw [← hu, List.getD_eq_getElem?_getD, List.getElem?_eq_getElem (by rw [h.len]; exact hi')]; rfl
    obtain ⟨a1, ⟨v', hv, ho⟩, a3, a4, a5⟩ := h.el _ u _ hu' (nAt_get hi')
    show u.length = 1 ∧ IntsEW wr (los (is.getD k 0)) (his (is.getD k 0)) u x ∧ L ≤ los (is.getD k 0) ∧ los (is.getD k 0) ≤ his (is.getD k 0) ∧ his (is.getD k 0) ≤ wr.heap.size ∧ ∀ g, v.ownBlock = some g → g < los (is.getD k 0) ∨ his (is.getD k 0) ≤ g
    rw [e, ← hx]
    refine ⟨a1, ⟨v', hv, ho.ab (hab.mono' a3)⟩, by omega, a4, by omega, fun g hg => ?_⟩
    rcases hoff g hg with k1 | k1
    · left; omega
    · right; omega
  · rw [List.length_map] at hb
    have ha : a < is.length := by omega
    have e1 : is.getD a 0 = is[a] := by rw [List.getD_eq_getElem?_getD, List.getElem?_eq_getElem ha]; rfl
    have e2 : is.getD b 0 = is[b] := by rw [List.getD_eq_getElem?_getD, List.getElem?_eq_getElem hb]; rfl
    have := List.pairwise_iff_getElem.1 hup a b ha hb hab'
    have hb' := key b hb
    show his _ ≤ los _
    rw [e2] at hb'
    rw [e1, e2]
    exact h.ord _ _ this hb'
theorem Ab.cell {lo : Nat} {w w' : World} (h : Ab lo w w') {b o : Nat} (h1 : lo ≤ b) (h2 : b < w.heap.size) : w'.cell? ⟨b, o, none⟩ = w.cell? ⟨b, o, none⟩ := by
  unfold World.cell?
  rw [h.2 b h1 h2]
end
theorem pairs_two {R : Nat → Nat → Bool} {m : Nat} : ∀ {v : Nat}, ∀ p ∈ pairsL R m v, p.length = 2
  | 0, p, h => by cases h
  | v + 1, p, h => by
    rw [pairsL, List.mem_append, List.mem_map] at h
    rcases h with h | ⟨x, _, rfl⟩
    · exact pairs_two p h
    · rfl
theorem pairsM_two (g : GraphD) (ps : List PieceD) : ∀ p ∈ pairsM g ps, p.length = 2 := by
  unfold pairsM
  split
  · exact pairs_two
  · simp
theorem pairsM_len (g : GraphD) (ps : List PieceD) : (pairsM g ps).length ≤ 144 := by
  unfold pairsM
  split
  · rename_i h
    obtain ⟨n, hn, _, hn2, _⟩ := graph_nat h.1
    have := pairsL_len (endR g.f0.toNat (stR g.f1) ps) g.f0.toNat g.f0.toNat
    have h2 : g.f0.toNat * g.f0.toNat ≤ 12 * 12 := Nat.mul_le_mul (by omega) (by omega)
    omega
  · simp
def truF (k n : Int) (p : List Int) : Bool := owR (iAt p 1) n == k
def truL (g : GraphD) (q : QueryD) (a k n : Int) : List (List Int) := if graphB g = true ∧ qryD q = true ∧ (0 ≤ a ∧ a < (q.f2.length : Int)) then (pairsM g (rpM (atomAt q.f2 a.toNat).f1).1).filter (truF k n) else []
theorem truL_len (g : GraphD) (q : QueryD) (a k n : Int) : (truL g q a k n).length ≤ 144 := by
  unfold truL
  split
  · exact Nat.le_trans (List.length_filter_le _ _) (pairsM_len _ _)
  · simp
theorem truL_two (g : GraphD) (q : QueryD) (a k n : Int) : ∀ p ∈ truL g q a k n, p.length = 2 := by
  unfold truL
  split
  · exact fun p hp => pairsM_two _ _ p (List.mem_filter.1 hp).1
  · simp
end Go.Proofs.YtmdgdnkllclpcaaGreat
