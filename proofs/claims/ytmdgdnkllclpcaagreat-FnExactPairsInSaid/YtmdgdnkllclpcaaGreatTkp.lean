/- Walks taken, plain: what is seen, what is told; bounds. No condition. -/
import Derived.Test.YtmdgdnkllclpcaaGreatNfl
namespace Go.Proofs.YtmdgdnkllclpcaaGreat
open Go.RowKit
set_option linter.unusedVariables false
set_option linter.unusedSimpArgs false
def eqW (x y : WalkR) : Bool := x.f0 == y.f0 && (x.f1 == y.f1 && (x.f2 == y.f2 && x.f3 == y.f3))
theorem eqW_iff {x y : WalkR} : eqW x y = true ↔ x = y := by
  unfold eqW
  simp only [Bool.and_eq_true, beq_iff_eq]
  exact ⟨fun h => WalkR.ext' h.1 h.2.1 h.2.2.1 h.2.2.2, fun h => by subst h; exact ⟨rfl, rfl, rfl, rfl⟩⟩
def inW (l : List WalkR) (x : WalkR) : Bool := l.any fun y => eqW y x
theorem inW_iff {l : List WalkR} {x : WalkR} : inW l x = true ↔ x ∈ l := by
  unfold inW
  rw [List.any_eq_true]
  constructor
  · rintro ⟨y, h1, h2⟩
    rwa [← eqW_iff.1 h2]
  · intro h
    exact ⟨x, h, eqW_iff.2 rfl⟩
theorem inW_no {l : List WalkR} {x : WalkR} (h : inW l x = false) : ¬ x ∈ l := fun k => by rw [inW_iff.2 k] at h; cases h
/-! ### one after the other -/
inductive Tk (own : WalkR → Bool) (on : WalkR → List WalkR) : List WalkR → List WalkR → List WalkR → List WalkR × List WalkR → Prop
  | nil (out told : List WalkR) : Tk own on [] out told (out, told)
  | far (x : WalkR) (rest out told : List WalkR) (r : List WalkR × List WalkR) : own x = false → inW told x = true → Tk own on rest out told r → Tk own on (x :: rest) out told r
  | tell (x : WalkR) (rest out told : List WalkR) (r : List WalkR × List WalkR) : own x = false → inW told x = false → Tk own on rest out (told ++ [x]) r → Tk own on (x :: rest) out told r
  | known (x : WalkR) (rest out told : List WalkR) (r : List WalkR × List WalkR) : own x = true → inW out x = true → Tk own on rest out told r → Tk own on (x :: rest) out told r
  | new (x : WalkR) (rest out told : List WalkR) (r : List WalkR × List WalkR) : own x = true → inW out x = false → Tk own on (rest ++ on x) (out ++ [x]) told r → Tk own on (x :: rest) out told r
section
variable {own : WalkR → Bool} {on : WalkR → List WalkR} {x : WalkR} {rest out told : List WalkR} {r : List WalkR × List WalkR}
theorem Tk.nil_inv (h : Tk own on [] out told r) : r = (out, told) := by cases h; rfl
theorem Tk.far_inv (h : Tk own on (x :: rest) out told r) (h1 : own x = false) (h2 : inW told x = true) : Tk own on rest out told r := by
  cases h with
  | far _ _ _ _ _ k1 k2 k => exact k
  | tell _ _ _ _ _ k1 k2 k => rw [h2] at k2; cases k2
  | known _ _ _ _ _ k1 k2 k => rw [h1] at k1; cases k1
  | new _ _ _ _ _ k1 k2 k => rw [h1] at k1; cases k1
theorem Tk.tell_inv (h : Tk own on (x :: rest) out told r) (h1 : own x = false) (h2 : inW told x = false) : Tk own on rest out (told ++ [x]) r := by
  cases h with
  | far _ _ _ _ _ k1 k2 k => rw [h2] at k2; cases k2
  | tell _ _ _ _ _ k1 k2 k => exact k
  | known _ _ _ _ _ k1 k2 k => rw [h1] at k1; cases k1
  | new _ _ _ _ _ k1 k2 k => rw [h1] at k1; cases k1
theorem Tk.known_inv (h : Tk own on (x :: rest) out told r) (h1 : own x = true) (h2 : inW out x = true) : Tk own on rest out told r := by
  cases h with
  | far _ _ _ _ _ k1 k2 k => rw [h1] at k1; cases k1
  | tell _ _ _ _ _ k1 k2 k => rw [h1] at k1; cases k1
  | known _ _ _ _ _ k1 k2 k => exact k
  | new _ _ _ _ _ k1 k2 k => rw [h2] at k2; cases k2
theorem Tk.new_inv (h : Tk own on (x :: rest) out told r) (h1 : own x = true) (h2 : inW out x = false) : Tk own on (rest ++ on x) (out ++ [x]) told r := by
  cases h with
  | far _ _ _ _ _ k1 k2 k => rw [h1] at k1; cases k1
  | tell _ _ _ _ _ k1 k2 k => rw [h1] at k1; cases k1
  | known _ _ _ _ _ k1 k2 k => rw [h2] at k2; cases k2
  | new _ _ _ _ _ k1 k2 k => exact k
end
def tkF (own : WalkR → Bool) (on : WalkR → List WalkR) : Nat → List WalkR → List WalkR → List WalkR → List WalkR × List WalkR
  | 0, _, out, told => (out, told)
  | _ + 1, [], out, told => (out, told)
  | f + 1, x :: rest, out, told => if own x = true then (if inW out x = true then tkF own on f rest out told else tkF own on f (rest ++ on x) (out ++ [x]) told) else (if inW told x = true then tkF own on f rest out told else tkF own on f rest out (told ++ [x]))
theorem nodup_len : ∀ {l p : List WalkR}, l.Nodup → (∀ x ∈ l, x ∈ p) → l.length ≤ p.length
  | [], p, _, _ => Nat.zero_le _
  | x :: l, p, h, hs => by
    obtain ⟨h1, h2⟩ := List.nodup_cons.1 h
    obtain ⟨a, b, hp⟩ := List.append_of_mem (hs x (by simp))
    have := nodup_len (l := l) (p := a ++ b) h2 fun y hy => by
      have h3 := hs y (by simp [hy])
      rw [hp, List.mem_append, List.mem_cons] at h3
      rw [List.mem_append]
      rcases h3 with h3 | h3 | h3
      · exact .inl h3
      · subst h3; exact absurd hy h1
      · exact .inr h3
    rw [hp]
    simp only [List.length_append, List.length_cons] at this ⊢
    omega
/-- How far the taking has come. -/
structure TkI (pot seen : List WalkR) (B n0 : Nat) (todo : List WalkR) (i : Nat) (out told : List WalkR) : Prop where
  hi : i ≤ todo.length
  sub : ∀ x ∈ todo, x ∈ pot
  out : ∃ new, out = seen ++ new ∧ new.Nodup ∧ (∀ x ∈ new, x ∈ pot) ∧ todo.length ≤ n0 + new.length * B
  told : told.Nodup ∧ ∀ x ∈ told, x ∈ pot
section
variable {pot seen todo out told : List WalkR} {B n0 i : Nat}
theorem TkI.outLen (h : TkI pot seen B n0 todo i out told) : out.length ≤ seen.length + pot.length := by
  obtain ⟨new, rfl, h1, h2, _⟩ := h.out
  have := nodup_len h1 h2
  rw [List.length_append]; omega
theorem TkI.toldLen (h : TkI pot seen B n0 todo i out told) : told.length ≤ pot.length := nodup_len h.told.1 h.told.2
theorem TkI.todoLen (h : TkI pot seen B n0 todo i out told) : todo.length ≤ n0 + pot.length * B := by
  obtain ⟨new, rfl, h1, h2, h3⟩ := h.out
  have := Nat.mul_le_mul_right B (nodup_len h1 h2)
  omega
theorem TkI.start (list : List WalkR) (hs : ∀ x ∈ list, x ∈ pot) : TkI pot seen B list.length list 0 seen [] := ⟨Nat.zero_le _, hs, ⟨[], by simp, List.nodup_nil, by simp, by simp⟩, List.nodup_nil, by simp⟩
theorem walkAt_mem {l : List WalkR} {i : Nat} (h : i < l.length) : walkAt l i ∈ l := by
  unfold walkAt List.getD
  rw [List.getElem?_eq_getElem h]
  exact List.getElem_mem h
theorem walk_dropAt {l : List WalkR} {i : Nat} (h : i < l.length) : l.drop i = walkAt l i :: l.drop (i + 1) := by
  rw [List.drop_eq_getElem_cons h]
  congr 1
  unfold walkAt List.getD
  rw [List.getElem?_eq_getElem h]; rfl
theorem TkI.next (h : TkI pot seen B n0 todo i out told) (hi : i < todo.length) : TkI pot seen B n0 todo (i + 1) out told := ⟨hi, h.sub, h.out, h.told⟩
theorem TkI.tell (h : TkI pot seen B n0 todo i out told) (hi : i < todo.length) (hn : inW told (walkAt todo i) = false) : TkI pot seen B n0 todo (i + 1) out (told ++ [walkAt todo i]) := by
  refine ⟨hi, h.sub, h.out, List.nodup_append.2 ⟨h.told.1, (by simp), fun a ha b hb => ?_⟩, fun y hy => ?_⟩
  · rw [List.mem_singleton] at hb
    rintro rfl
    exact inW_no hn (hb ▸ ha)
  · rw [List.mem_append, List.mem_singleton] at hy
    rcases hy with hy | hy
    · exact h.told.2 y hy
    · rw [hy]; exact h.sub _ (walkAt_mem hi)
theorem TkI.new {on : WalkR → List WalkR} (h : TkI pot seen B n0 todo i out told) (hi : i < todo.length) (hn : inW out (walkAt todo i) = false) (hon : ∀ x ∈ pot, ∀ y ∈ on x, y ∈ pot) (hB : ∀ x ∈ pot, (on x).length ≤ B) : TkI pot seen B n0 (todo ++ on (walkAt todo i)) (i + 1) (out ++ [walkAt todo i]) told := by
  have hx := h.sub _ (walkAt_mem hi)
  refine ⟨by rw [List.length_append]; omega, fun y hy => ?_, ?_, h.told⟩
  · rw [List.mem_append] at hy
    rcases hy with hy | hy
    · exact h.sub y hy
    · exact hon _ hx y hy
  · obtain ⟨new, rfl, h1, h2, h3⟩ := h.out
    refine ⟨new ++ [walkAt todo i], by rw [List.append_assoc], List.nodup_append.2 ⟨h1, (by simp), fun a ha b hb => ?_⟩, fun y hy => ?_, ?_⟩
    · rw [List.mem_singleton] at hb
      rintro rfl
      exact inW_no hn (List.mem_append.2 (.inr (hb ▸ ha)))
    · rw [List.mem_append, List.mem_singleton] at hy
      rcases hy with hy | hy
      · exact h2 y hy
      · rw [hy]; exact hx
    · have := hB _ hx
      simp only [List.length_append, List.length_singleton, Nat.add_mul]
      omega
theorem tk_meas {N o t i b B : Nat} (ho : o + 1 ≤ N) (hi : i < t) (hb : b ≤ B) : (N - (o + 1)) * (B + 1) + (t + b - (i + 1)) < (N - o) * (B + 1) + (t - i) := by
  have : N - o = (N - (o + 1)) + 1 := by omega
  rw [this, Nat.add_mul (N - (o + 1)) 1]
  omega
theorem tk_ends {own : WalkR → Bool} {on : WalkR → List WalkR} (hon : ∀ x ∈ pot, ∀ y ∈ on x, y ∈ pot) (hB : ∀ x ∈ pot, (on x).length ≤ B) : ∀ (f : Nat) (todo : List WalkR) (i : Nat) (out told : List WalkR), TkI pot seen B n0 todo i out told → (seen.length + pot.length - out.length) * (B + 1) + (todo.length - i) ≤ f → Tk own on (todo.drop i) out told (tkF own on f (todo.drop i) out told)
  | 0, todo, i, out, told, h, hf => by
    have := h.hi
    obtain rfl : i = todo.length := by omega
    rw [List.drop_length, tkF]
    exact Tk.nil _ _
  | f + 1, todo, i, out, told, h, hf => by
    by_cases hi : i < todo.length
    · rw [walk_dropAt hi, tkF]
      cases ho : own (walkAt todo i)
      · rw [if_neg (by simp)]
        cases ht : inW told (walkAt todo i)
        · rw [if_neg (by simp)]
          exact Tk.tell _ _ _ _ _ ho ht (tk_ends hon hB f todo (i + 1) out _ (h.tell hi ht) (by omega))
        · rw [if_pos rfl]
          exact Tk.far _ _ _ _ _ ho ht (tk_ends hon hB f todo (i + 1) out _ (h.next hi) (by omega))
      · rw [if_pos rfl]
        cases ht : inW out (walkAt todo i)
        · rw [if_neg (by simp)]
          have hN := h.new hi ht hon hB
          have h3 := hN.outLen
          have h4 := hB _ (h.sub _ (walkAt_mem hi))
          rw [List.length_append, List.length_singleton] at h3
          have h5 := tk_meas (N := seen.length + pot.length) (B := B) h3 hi h4
          have h6 : (todo ++ on (walkAt todo i)).drop (i + 1) = todo.drop (i + 1) ++ on (walkAt todo i) := List.drop_append_of_le_length hi
          rw [← h6]
          refine Tk.new _ _ _ _ _ ho ht ?_
          rw [← h6]
          exact tk_ends hon hB f _ (i + 1) _ _ hN (by rw [List.length_append, List.length_append, List.length_singleton]; omega)
        · rw [if_pos rfl]
          exact Tk.known _ _ _ _ _ ho ht (tk_ends hon hB f todo (i + 1) out _ (h.next hi) (by omega))
    · have := h.hi
      obtain rfl : i = todo.length := by omega
      rw [List.drop_length, tkF]
      exact Tk.nil _ _
theorem Tk.bnd {own : WalkR → Bool} {on : WalkR → List WalkR} (hon : ∀ x ∈ pot, ∀ y ∈ on x, y ∈ pot) (hB : ∀ x ∈ pot, (on x).length ≤ B) {rest : List WalkR} {r : List WalkR × List WalkR} (h : Tk own on rest out told r) : ∀ {todo : List WalkR} {i : Nat}, todo.drop i = rest → TkI pot seen B n0 todo i out told → r.1.length ≤ seen.length + pot.length ∧ r.2.length ≤ pot.length := by
  induction h with
  | nil out told => intro todo i _ hI; exact ⟨hI.outLen, hI.toldLen⟩
  | far x rest out told r h1 h2 h ih =>
    intro todo i he hI
    have hi : i < todo.length := Nat.lt_of_not_le fun k => by rw [List.drop_of_length_le k] at he; cases he
    rw [walk_dropAt hi] at he
    cases he
    exact ih rfl (hI.next hi)
  | tell x rest out told r h1 h2 h ih =>
    intro todo i he hI
    have hi : i < todo.length := Nat.lt_of_not_le fun k => by rw [List.drop_of_length_le k] at he; cases he
    rw [walk_dropAt hi] at he
    cases he
    exact ih rfl (hI.tell hi h2)
  | known x rest out told r h1 h2 h ih =>
    intro todo i he hI
    have hi : i < todo.length := Nat.lt_of_not_le fun k => by rw [List.drop_of_length_le k] at he; cases he
    rw [walk_dropAt hi] at he
    cases he
    exact ih rfl (hI.next hi)
  | new x rest out told r h1 h2 h ih =>
    intro todo i he hI
    have hi : i < todo.length := Nat.lt_of_not_le fun k => by rw [List.drop_of_length_le k] at he; cases he
    rw [walk_dropAt hi] at he
    cases he
    exact ih (List.drop_append_of_le_length hi) (hI.new hi h2 hon hB)
end
/-! ### the arcs of a text's automaton -/
theorem nfaT_arcs (t : ByteArray) : Srt (nfaT t).f1 ∧ ∀ x ∈ (nfaT t).f1, 0 ≤ x.f0 ∧ x.f0 < 24 ∧ 0 ≤ x.f2 ∧ x.f2 < 24 := by
  unfold nfaT
  by_cases h : (rpM t).2 = true
  · rw [if_pos h]
    obtain ⟨hp, ho⟩ := rpM_occ (show rpM t = ((rpM t).1, true) from Prod.ext rfl h)
    have hl := gluA_len hp
    refine ⟨srt_arcC _ _, fun x hx => ?_⟩
    obtain ⟨s, j, h1, h2, _, rfl⟩ := mem_arcC.1 hx
    unfold arcE
    simp only []
    omega
  · rw [if_neg h]
    exact ⟨List.Pairwise.nil, by simp⟩
theorem nfaT_len (t : ByteArray) : (nfaT t).f1.length ≤ 262144 := srt_len (nfaT_arcs t).1 fun x hx => by have := (nfaT_arcs t).2 x hx; omega
theorem arcs_few {cs : List EdgeR} (hs : Srt cs) (hb : ∀ x ∈ cs, 0 ≤ x.f0 ∧ x.f0 < 24 ∧ 0 ≤ x.f2 ∧ x.f2 < 24) (w : WalkR) (e : EdgeR) : (cs.flatMap (arcOn w e)).length ≤ 24 := by
  have h1 : ∀ l : List EdgeR, (l.flatMap (arcOn w e)).length = (l.filter fun c => decide (c.f0 = w.f3 ∧ c.f1 = e.f1)).length := by
    intro l
    induction l with
    | nil => rfl
    | cons c l ih =>
      rw [List.flatMap_cons, List.length_append, ih, List.filter_cons]
      unfold arcOn
      by_cases h : c.f0 = w.f3 ∧ c.f1 = e.f1
      · rw [if_pos h, if_pos (decide_eq_true h)]; simp; omega
      · rw [if_neg h, if_neg (by simpa using h)]; simp
  rw [h1]
  have h2 := up_len ((cs.filter fun c => decide (c.f0 = w.f3 ∧ c.f1 = e.f1)).map fun c => c.f2.toNat) 0 24 (fun k hk => by
    obtain ⟨x, hx, rfl⟩ := List.mem_map.1 hk
    have := hb x (List.mem_filter.1 hx).1
    omega) (by
    rw [List.pairwise_map]
    refine List.Pairwise.imp_of_mem (fun ha hb' hab => ?_) (List.Pairwise.filter _ hs)
    obtain ⟨ha1, ha2⟩ := List.mem_filter.1 ha
    obtain ⟨hb1, hb2⟩ := List.mem_filter.1 hb'
    rw [decide_eq_true_eq] at ha2 hb2
    have b1 := hb _ ha1
    have b2 := hb _ hb1
    rw [edgeLt_iff] at hab
    rcases hab with h | ⟨_, h | ⟨_, h⟩⟩
    · omega
    · rw [ha2.2, hb2.2] at h; omega
    · omega)
  rw [List.length_map] at h2
  exact h2
theorem onL_few {es cs : List EdgeR} (he : es.length ≤ 40) (hs : Srt cs) (hb : ∀ x ∈ cs, 0 ≤ x.f0 ∧ x.f0 < 24 ∧ 0 ≤ x.f2 ∧ x.f2 < 24) (w : WalkR) : (onL es cs w).length ≤ 960 := by
  have := flat_le (arcsOn cs w) 24 es fun e _ => by
    unfold arcsOn
    split
    · exact arcs_few hs hb w e
    · simp
  unfold onL
  omega
def potW (list : List WalkR) : List WalkR := list ++ list.flatMap fun x => (List.range 12).flatMap fun v : Nat => (List.range 24).map fun s : Nat => ⟨x.f0, x.f1, (v : Int), (s : Int)⟩
theorem potW_len (list : List WalkR) : (potW list).length ≤ list.length * 289 := by
  unfold potW
  rw [List.length_append]
  have := flat_le (fun x : WalkR => (List.range 12).flatMap fun v : Nat => (List.range 24).map fun s : Nat => (⟨x.f0, x.f1, (v : Int), (s : Int)⟩ : WalkR)) 288 list fun x _ => by
    have := flat_le (fun v : Nat => (List.range 24).map fun s : Nat => (⟨x.f0, x.f1, (v : Int), (s : Int)⟩ : WalkR)) 24 (List.range 12) fun v _ => by simp
    rw [List.length_range] at this
    exact this
  omega
theorem mem_potW {list : List WalkR} {x y : WalkR} (hx : x ∈ potW list) (h0 : y.f0 = x.f0) (h1 : y.f1 = x.f1) (h2 : 0 ≤ y.f2 ∧ y.f2 < 12) (h3 : 0 ≤ y.f3 ∧ y.f3 < 24) : y ∈ potW list := by
  have : ∃ z ∈ list, z.f0 = x.f0 ∧ z.f1 = x.f1 := by
    unfold potW at hx
    rw [List.mem_append] at hx
    rcases hx with hx | hx
    · exact ⟨x, hx, rfl, rfl⟩
    · obtain ⟨z, hz, hx⟩ := List.mem_flatMap.1 hx
      obtain ⟨v, _, hx⟩ := List.mem_flatMap.1 hx
      obtain ⟨s, _, rfl⟩ := List.mem_map.1 hx
      exact ⟨z, hz, rfl, rfl⟩
  obtain ⟨z, hz, e0, e1⟩ := this
  unfold potW
  rw [List.mem_append]
  right
  refine List.mem_flatMap.2 ⟨z, hz, List.mem_flatMap.2 ⟨y.f2.toNat, List.mem_range.2 (by omega), List.mem_map.2 ⟨y.f3.toNat, List.mem_range.2 (by omega), ?_⟩⟩⟩
  exact WalkR.ext' (by simp only []; omega) (by simp only []; omega) (by simp only []; omega) (by simp only []; omega)
end Go.Proofs.YtmdgdnkllclpcaaGreat
