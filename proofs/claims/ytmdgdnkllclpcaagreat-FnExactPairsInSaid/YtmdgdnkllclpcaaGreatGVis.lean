/- Texts in one: Glu, Bit, Rlo, Rlw, Pos, Vis. -/
import Derived.Test.YtmdgdnkllclpcaaGreatGPutE
import Derived.Laws.BitsAllLaws
import Derived.Test.YtmdgdnkllclpcaaGreatGApp
import Derived.BigQuiet
import Derived.BigRegion
import Derived.Test.YtmdgdnkllclpcaaGreatGPrw
import Derived.Deep.RegionLaw
/- The automaton of a path, plain: bounds of what is met, the arcs in their order, the automaton. No condition. -/
namespace Go.Proofs.YtmdgdnkllclpcaaGreat
open Go.RowKit
set_option linter.unusedVariables false
set_option linter.unusedSimpArgs false
/-! ### what a piece adds -/
structure GluOk (s : StD) (r : StD × SpD) (n : Nat) : Prop where
  labs : ∃ more, r.1.labs = s.labs ++ more ∧ more.length = n
  first : ∀ j, r.2.first j = true → s.labs.length ≤ j ∧ j < r.1.labs.length
  last : ∀ j, r.2.last j = true → s.labs.length ≤ j ∧ j < r.1.labs.length
  fol : ∀ i j, r.1.fol i j = true → s.fol i j = true ∨ (s.labs.length ≤ i ∧ i < r.1.labs.length ∧ s.labs.length ≤ j ∧ j < r.1.labs.length)
theorem GluOk.len {s : StD} {r : StD × SpD} {n : Nat} (h : GluOk s r n) : r.1.labs.length = s.labs.length + n := by
  obtain ⟨m, h1, h2⟩ := h.labs
  rw [h1, List.length_append, h2]
theorem orB_iff {a b : Nat → Bool} {j : Nat} : orB a b j = true ↔ a j = true ∨ b j = true := by simp [orB]
theorem ifB_iff {c : Bool} {b : Nat → Bool} {j : Nat} : ifB c b j = true ↔ c = true ∧ b j = true := by simp [ifB]
theorem folJ_iff {fol : Nat → Nat → Bool} {l f : Nat → Bool} {i j : Nat} : folJ fol l f i j = true ↔ fol i j = true ∨ (l i = true ∧ f j = true) := by simp [folJ]
theorem GluOk.zero (s : StD) (b : Bool) : GluOk s (s, sp0 b) 0 := ⟨⟨[], by simp, rfl⟩, fun j h => Bool.noConfusion h, fun j h => Bool.noConfusion h, fun i j h => Or.inl h⟩
theorem GluOk.row {s a1 : StD} {a2 : SpD} {r : StD × SpD} {n m : Nat} (h : GluOk s (a1, a2) n) (k : GluOk a1 r m) : GluOk s (⟨r.1.labs, folJ r.1.fol a2.last r.2.first⟩, spRow a2 r.2) (n + m) := by
  have l1 := h.len
  have l2 := k.len
  obtain ⟨m1, e1, e2⟩ := h.labs
  obtain ⟨m2, e3, e4⟩ := k.labs
  simp only [] at l1 l2 e1
  refine ⟨⟨m1 ++ m2, by simp only [e3, e1, List.append_assoc], by rw [List.length_append]; omega⟩, fun j hj => ?_, fun j hj => ?_, fun i j hj => ?_⟩
  · rcases orB_iff.1 hj with hj | hj
    · have := h.first j hj; simp only [] at this ⊢; omega
    · have := k.first j (ifB_iff.1 hj).2; simp only [] at this ⊢; omega
  · rcases orB_iff.1 hj with hj | hj
    · have := h.last j (ifB_iff.1 hj).2; simp only [] at this ⊢; omega
    · have := k.last j hj; simp only [] at this ⊢; omega
  · rcases folJ_iff.1 hj with hj | ⟨h1, h2⟩
    · rcases k.fol i j hj with hj | hj
      · rcases h.fol i j hj with hj | hj
        · exact .inl hj
        · right; simp only [] at hj ⊢; omega
      · right; simp only [] at hj ⊢; omega
    · have p1 := h.last i h1
      have p2 := k.first j h2
      right; simp only [] at p1 p2 ⊢; omega
theorem GluOk.alt {s a1 : StD} {a2 : SpD} {r : StD × SpD} {n m : Nat} (h : GluOk s (a1, a2) n) (k : GluOk a1 r m) : GluOk s (r.1, spAlt a2 r.2) (n + m) := by
  have l1 := h.len
  have l2 := k.len
  obtain ⟨m1, e1, e2⟩ := h.labs
  obtain ⟨m2, e3, e4⟩ := k.labs
  simp only [] at l1 l2 e1
  refine ⟨⟨m1 ++ m2, by simp only [e3, e1, List.append_assoc], by rw [List.length_append]; omega⟩, fun j hj => ?_, fun j hj => ?_, fun i j hj => ?_⟩
  · rcases orB_iff.1 hj with hj | hj
    · have := h.first j hj; simp only [] at this ⊢; omega
    · have := k.first j hj; simp only [] at this ⊢; omega
  · rcases orB_iff.1 hj with hj | hj
    · have := h.last j hj; simp only [] at this ⊢; omega
    · have := k.last j hj; simp only [] at this ⊢; omega
  · rcases k.fol i j hj with hj | hj
    · rcases h.fol i j hj with hj | hj
      · exact .inl hj
      · right; simp only [] at hj ⊢; omega
    · right; simp only [] at hj ⊢; omega
theorem GluOk.post {s : StD} {r : StD × SpD} {n : Nat} (h : GluOk s r n) (b c : Bool) : GluOk s (⟨r.1.labs, if b = true then r.1.fol else folJ r.1.fol r.2.last r.2.first⟩, ⟨r.2.first, r.2.last, c⟩) n := by
  refine ⟨h.labs, h.first, h.last, fun i j hj => ?_⟩
  simp only [] at hj
  split at hj
  · exact h.fol i j hj
  · rcases folJ_iff.1 hj with hj | ⟨h1, h2⟩
    · exact h.fol i j hj
    · have p1 := h.last i h1
      have p2 := h.first j h2
      right; simp only []; omega
/-- A right piece's kids lie ahead of it. -/
theorem pieceB_kids {x : PieceD} {n : Nat} (h : pieceB x n = true) : ∀ j, j < x.f2.length → 0 ≤ iAt x.f2 j ∧ iAt x.f2 j < (n : Int) := by
  intro j hj
  have hall : kidsB n x.f2 = true ∨ x.f2.length = 0 := by
    unfold pieceB at h
    split at h
    · simp at h; right; simp [h.2]
    · split at h
      · simp at h; exact .inl h.2.1
      · split at h
        · simp at h; exact .inl h.2.1
        · cases h
  rcases hall with hall | h0
  · unfold kidsB at hall
    rw [List.all_eq_true] at hall
    have := hall x.f2[j] (List.getElem_mem hj)
    rw [decide_eq_true_eq] at this
    rwa [show iAt x.f2 j = x.f2[j] by simp [iAt, List.getD, List.getElem?_eq_getElem hj]]
  · omega
theorem pieceB_one {x : PieceD} {n : Nat} (h : pieceB x n = true) (h1 : x.f0 ≠ 1) (h2 : x.f0 ≠ 2) (h3 : x.f0 ≠ 3) : x.f2.length = 1 ∧ (x.f0 = 4 ∨ x.f0 = 5 ∨ x.f0 = 6) := by
  unfold pieceB at h
  rw [if_neg h1, if_neg (by omega)] at h
  split at h
  · rename_i hc
    simp at h
    exact ⟨by rw [h.1], hc⟩
  · cases h
theorem pieceB_step {x : PieceD} {n : Nat} (h : pieceB x n = true) (h1 : x.f0 = 1) : x.f2 = [] := by
  unfold pieceB at h
  rw [if_pos h1] at h
  simp at h
  exact h.2
theorem kAt_lt {ps : List PieceD} (hp : pathB ps = true) {p : Nat} (hl : p < ps.length) {j : Nat} (hj : j < (nAt ps p).f2.length) : kAt (nAt ps p).f2 j < p := by
  have := pieceB_kids ((pathB_out hp).2 p hl) j hj
  unfold kAt
  omega
theorem rowS_ok {go : Nat → StD → StD × SpD} {acc : List Nat} {ks : List Int} (s : StD) : ∀ m, (∀ j, j < m → ∀ s, GluOk s (go (kAt ks j) s) (nAt acc (kAt ks j))) → GluOk s (rowS go ks s m) (occK acc ks m)
  | 0, _ => GluOk.zero s true
  | m + 1, h => (rowS_ok s m (fun j hj => h j (by omega))).row (h m (by omega) _)
theorem altS_ok {go : Nat → StD → StD × SpD} {acc : List Nat} {ks : List Int} (s : StD) : ∀ m, (∀ j, j < m → ∀ s, GluOk s (go (kAt ks j) s) (nAt acc (kAt ks j))) → GluOk s (altS go ks s m) (occK acc ks m)
  | 0, _ => GluOk.zero s false
  | m + 1, h => (altS_ok s m (fun j hj => h j (by omega))).alt (h m (by omega) _)
theorem glu_ok {ps : List PieceD} (hp : pathB ps = true) : ∀ f p, p < f → p < ps.length → ∀ s, GluOk s (glu ps f p s) (occA ps p) := by
  intro f
  induction f with
  | zero => intro p h; omega
  | succ f ih =>
    intro p hf hl s
    have hx := (pathB_out hp).2 p hl
    have hk : ∀ j, j < (nAt ps p).f2.length → ∀ s, GluOk s (glu ps f (kAt (nAt ps p).f2 j) s) (nAt (occL ps p) (kAt (nAt ps p).f2 j)) := fun j hj s => by
      have h1 := kAt_lt hp hl hj
      have h2 := ih (kAt (nAt ps p).f2 j) (by omega) (by omega) s
      unfold occA at h2
      rwa [occL_same ps (m := p) (by omega) h1] at h2
    have ho : occA ps p = occS (occL ps p) (nAt ps p) := occL_at ps hl
    rw [glu]
    simp only []
    rw [ho]
    unfold occS
    by_cases h1 : (nAt ps p).f0 = 1
    · rw [if_pos h1, if_pos h1, pieceB_step hx h1]
      refine ⟨⟨[(nAt ps p).f1], rfl, rfl⟩, fun j hj => ?_, fun j hj => ?_, fun i j hj => .inl hj⟩
      · simp only [oneB, decide_eq_true_eq] at hj
        simp only [List.length_append, List.length_singleton]; omega
      · simp only [oneB, decide_eq_true_eq] at hj
        simp only [List.length_append, List.length_singleton]; omega
    · rw [if_neg h1, if_neg h1, Nat.zero_add]
      by_cases h2 : (nAt ps p).f0 = 2
      · rw [if_pos h2]
        exact rowS_ok s _ hk
      · rw [if_neg h2]
        by_cases h3 : (nAt ps p).f0 = 3
        · rw [if_pos h3]
          exact altS_ok s _ hk
        · rw [if_neg h3]
          obtain ⟨hl1, _⟩ := pieceB_one hx h1 h2 h3
          have hg := hk 0 (by omega) s
          rw [hl1]
          show GluOk s _ (0 + nAt (occL ps p) (kAt (nAt ps p).f2 0))
          rw [Nat.zero_add]
          have := hg.post (decide ((nAt ps p).f0 = 6)) ((glu ps f (kAt (nAt ps p).f2 0) s).2.null || decide ((nAt ps p).f0 ≠ 5))
          simpa only [decide_eq_true_eq] using this
/-! ### sorted arcs -/
theorem edgeLt_irr (x : EdgeR) : edgeLt x x = false := by simp [edgeLt]
theorem edgeLt_iff (x y : EdgeR) : edgeLt x y = true ↔ x.f0 < y.f0 ∨ (x.f0 = y.f0 ∧ (x.f1.toNat < y.f1.toNat ∨ (x.f1 = y.f1 ∧ x.f2 < y.f2))) := by
  unfold edgeLt
  by_cases h0 : x.f0 = y.f0
  · rw [if_neg (by simpa using h0)]
    by_cases h1 : x.f1 = y.f1
    · rw [if_neg (by simpa using h1), decide_eq_true_eq, h0, h1]
      constructor
      · intro h; exact .inr ⟨rfl, .inr ⟨rfl, h⟩⟩
      · rintro (h | ⟨_, h | ⟨_, h⟩⟩)
        · omega
        · omega
        · exact h
    · rw [if_pos h1, decide_eq_true_eq]
      constructor
      · intro h; exact .inr ⟨h0, .inl h⟩
      · rintro (h | ⟨_, h | ⟨h, _⟩⟩)
        · omega
        · exact h
        · exact absurd h h1
  · rw [if_pos h0, decide_eq_true_eq]
    constructor
    · intro h; exact .inl h
    · rintro (h | ⟨h, _⟩)
      · exact h
      · exact absurd h h0
theorem edgeLt_trans {x y z : EdgeR} (h : edgeLt x y = true) (k : edgeLt y z = true) : edgeLt x z = true := by
  rw [edgeLt_iff] at *
  rcases h with h | ⟨h0, h | ⟨h1, h⟩⟩
  · left; rcases k with k | ⟨k0, k⟩ <;> omega
  · rcases k with k | ⟨k0, k | ⟨k1, k⟩⟩
    · left; omega
    · exact .inr ⟨by omega, .inl (by omega)⟩
    · exact .inr ⟨by omega, .inl (by rw [← k1]; exact h)⟩
  · rcases k with k | ⟨k0, k | ⟨k1, k⟩⟩
    · left; omega
    · exact .inr ⟨by omega, .inl (by rw [h1]; exact k)⟩
    · exact .inr ⟨by omega, .inr ⟨h1.trans k1, by omega⟩⟩
theorem edgeLt_tri (x y : EdgeR) : edgeLt x y = true ∨ x = y ∨ edgeLt y x = true := by
  rw [edgeLt_iff, edgeLt_iff]
  rcases Int.lt_trichotomy x.f0 y.f0 with h | h | h
  · exact .inl (.inl h)
  · rcases Nat.lt_trichotomy x.f1.toNat y.f1.toNat with h1 | h1 | h1
    · exact .inl (.inr ⟨h, .inl h1⟩)
    · have h1' := UInt8.toNat_inj.1 h1
      rcases Int.lt_trichotomy x.f2 y.f2 with h2 | h2 | h2
      · exact .inl (.inr ⟨h, .inr ⟨h1', h2⟩⟩)
      · exact .inr (.inl (EdgeR.ext' h h1' h2))
      · exact .inr (.inr (.inr ⟨h.symm, .inr ⟨h1'.symm, h2⟩⟩))
    · exact .inr (.inr (.inr ⟨h.symm, .inl h1⟩))
  · exact .inr (.inr (.inl h))
theorem edgeLt_asym {x y : EdgeR} (h : edgeLt x y = true) : edgeLt y x = false := by
  cases hk : edgeLt y x
  · rfl
  · have := edgeLt_trans h hk; rw [edgeLt_irr] at this; cases this
def Srt (xs : List EdgeR) : Prop := xs.Pairwise fun x y => edgeLt x y = true
theorem mem_putE {xs : List EdgeR} {f x : EdgeR} : x ∈ putE xs f ↔ x ∈ xs ∨ x = f := by
  unfold putE
  simp only [List.mem_append, List.mem_filter, List.mem_singleton]
  constructor
  · rintro ((⟨h, _⟩ | h) | ⟨h, _⟩)
    · exact .inl h
    · exact .inr h
    · exact .inl h
  · rintro (h | h)
    · rcases edgeLt_tri x f with k | k | k
      · exact .inl (.inl ⟨h, k⟩)
      · exact .inl (.inr k)
      · exact .inr ⟨h, k⟩
    · exact .inl (.inr h)
theorem srt_putE {xs : List EdgeR} (h : Srt xs) (f : EdgeR) : Srt (putE xs f) := by
  unfold putE Srt
  rw [List.pairwise_append, List.pairwise_append]
  refine ⟨⟨List.Pairwise.filter _ h, List.pairwise_singleton _ _, fun a ha b hb => ?_⟩, List.Pairwise.filter _ h, fun a ha b hb => ?_⟩
  · rw [List.mem_singleton] at hb; subst hb
    exact (List.mem_filter.1 ha).2
  · have hb := (List.mem_filter.1 hb).2
    rw [List.mem_append] at ha
    rcases ha with ha | ha
    · exact edgeLt_trans (List.mem_filter.1 ha).2 hb
    · rw [List.mem_singleton] at ha; subst ha; exact hb
theorem srt_eq : ∀ {xs ys : List EdgeR}, Srt xs → Srt ys → (∀ x, x ∈ xs ↔ x ∈ ys) → xs = ys
  | [], [], _, _, _ => rfl
  | [], y :: ys, _, _, h => absurd ((h y).2 (by simp)) (by simp)
  | x :: xs, [], _, _, h => absurd ((h x).1 (by simp)) (by simp)
  | x :: xs, y :: ys, hx, hy, h => by
    obtain ⟨hx1, hx2⟩ := List.pairwise_cons.1 hx
    obtain ⟨hy1, hy2⟩ := List.pairwise_cons.1 hy
    have e : x = y := by
      have a := (h x).1 (by simp)
      have b := (h y).2 (by simp)
      rw [List.mem_cons] at a b
      rcases a with a | a
      · exact a
      · rcases b with b | b
        · exact b.symm
        · have p := hy1 x a
          have q := hx1 y b
          rw [edgeLt_asym p] at q; cases q
    subst e
    congr 1
    refine srt_eq hx2 hy2 fun z => ?_
    have hz := h z
    rw [List.mem_cons, List.mem_cons] at hz
    constructor
    · intro k
      rcases hz.1 (.inr k) with e | e
      · subst e; have := hx1 z k; rw [edgeLt_irr] at this; cases this
      · exact e
    · intro k
      rcases hz.2 (.inr k) with e | e
      · subst e; have := hy1 z k; rw [edgeLt_irr] at this; cases this
      · exact e
/-- A sorted list with small numbers is short. -/
theorem up_len : ∀ (l : List Nat) (a b : Nat), (∀ x ∈ l, a ≤ x ∧ x < b) → l.Pairwise (· < ·) → l.length ≤ b - a
  | [], _, _, _, _ => Nat.zero_le _
  | x :: l, a, b, h, hp => by
    obtain ⟨h1, h2⟩ := List.pairwise_cons.1 hp
    have hx := h x (by simp)
    have := up_len l (x + 1) b (fun y hy => ⟨h1 y hy, (h y (by simp [hy])).2⟩) h2
    simp only [List.length_cons]
    omega
def keyE (x : EdgeR) : Nat := x.f0.toNat * 8192 + x.f1.toNat * 32 + x.f2.toNat
theorem keyE_lt {x y : EdgeR} (h : edgeLt x y = true) (hx : 0 ≤ x.f0 ∧ x.f0 < 32 ∧ 0 ≤ x.f2 ∧ x.f2 < 32) (hy : 0 ≤ y.f0 ∧ y.f0 < 32 ∧ 0 ≤ y.f2 ∧ y.f2 < 32) : keyE x < keyE y := by
  have := x.f1.toNat_lt
  have := y.f1.toNat_lt
  rw [edgeLt_iff] at h
  unfold keyE
  rcases h with h | ⟨h0, h | ⟨h1, h⟩⟩
  · omega
  · omega
  · rw [h1]; omega
theorem srt_len {xs : List EdgeR} (h : Srt xs) (hb : ∀ x ∈ xs, 0 ≤ x.f0 ∧ x.f0 < 32 ∧ 0 ≤ x.f2 ∧ x.f2 < 32) : xs.length ≤ 262144 := by
  have := up_len (xs.map keyE) 0 262144 (fun k hk => by
    obtain ⟨x, hx, rfl⟩ := List.mem_map.1 hk
    have := hb x hx
    have := x.f1.toNat_lt
    unfold keyE; omega) (by
    rw [List.pairwise_map]
    exact List.Pairwise.imp_of_mem (fun ha hb' hab => keyE_lt hab (hb _ ha) (hb _ hb')) h)
  simpa using this
/-! ### the automaton -/
def arcE (labs : List UInt8) (s j : Nat) : EdgeR := ⟨(s : Int), nAt labs j, (j : Int) + 1⟩
def rowA (labs : List UInt8) (s : Nat) (p : Nat → Bool) : List EdgeR := (reachL labs.length p).map fun j => arcE labs s j.toNat
def arcL (labs : List UInt8) (P : Nat → Nat → Bool) : Nat → List EdgeR
  | 0 => []
  | s + 1 => arcL labs P s ++ rowA labs s (P s)
theorem mem_reachL {n : Nat} {p : Nat → Bool} {x : Int} : x ∈ reachL n p ↔ ∃ j : Nat, x = j ∧ j < n ∧ p j = true := by
  unfold reachL
  simp only [List.mem_map, List.mem_filter, List.mem_range]
  constructor
  · rintro ⟨j, ⟨h1, h2⟩, rfl⟩; exact ⟨j, rfl, h1, h2⟩
  · rintro ⟨j, rfl, h1, h2⟩; exact ⟨j, ⟨h1, h2⟩, rfl⟩
theorem mem_rowA {labs : List UInt8} {s : Nat} {p : Nat → Bool} {x : EdgeR} : x ∈ rowA labs s p ↔ ∃ j, j < labs.length ∧ p j = true ∧ x = arcE labs s j := by
  unfold rowA
  rw [List.mem_map]
  constructor
  · rintro ⟨y, hy, rfl⟩
    obtain ⟨j, rfl, h1, h2⟩ := mem_reachL.1 hy
    exact ⟨j, h1, h2, by simp⟩
  · rintro ⟨j, h1, h2, rfl⟩
    exact ⟨(j : Int), mem_reachL.2 ⟨j, rfl, h1, h2⟩, by simp⟩
theorem mem_arcL {labs : List UInt8} {P : Nat → Nat → Bool} {x : EdgeR} : ∀ {m : Nat}, x ∈ arcL labs P m ↔ ∃ s j, s < m ∧ j < labs.length ∧ P s j = true ∧ x = arcE labs s j
  | 0 => by simp [arcL]
  | m + 1 => by
    rw [arcL, List.mem_append, mem_arcL (m := m), mem_rowA]
    constructor
    · rintro (⟨s, j, h1, h2⟩ | ⟨j, h1, h2⟩)
      · exact ⟨s, j, by omega, h2⟩
      · exact ⟨m, j, by omega, h1, h2⟩
    · rintro ⟨s, j, h1, h2⟩
      rcases Nat.lt_or_ge s m with h | h
      · exact .inl ⟨s, j, h, h2⟩
      · obtain rfl : s = m := by omega
        exact .inr ⟨j, h2⟩
def putsE (xs fs : List EdgeR) : List EdgeR := fs.foldl putE xs
theorem mem_putsE {x : EdgeR} : ∀ {fs xs : List EdgeR}, x ∈ putsE xs fs ↔ x ∈ xs ∨ x ∈ fs
  | [], xs => by simp [putsE]
  | f :: fs, xs => by
    show x ∈ putsE (putE xs f) fs ↔ _
    rw [mem_putsE, mem_putE, List.mem_cons]
    constructor
    · rintro ((h | h) | h)
      · exact .inl h
      · exact .inr (.inl h)
      · exact .inr (.inr h)
    · rintro (h | h | h)
      · exact .inl (.inl h)
      · exact .inl (.inr h)
      · exact .inr h
theorem srt_putsE : ∀ {fs xs : List EdgeR}, Srt xs → Srt (putsE xs fs)
  | [], xs, h => h
  | f :: fs, xs, h => srt_putsE (fs := fs) (srt_putE h f)
def arcC (labs : List UInt8) (P : Nat → Nat → Bool) : List EdgeR := putsE [] (arcL labs P (labs.length + 1))
theorem srt_arcC (labs : List UInt8) (P : Nat → Nat → Bool) : Srt (arcC labs P) := srt_putsE List.Pairwise.nil
theorem mem_arcC {labs : List UInt8} {P : Nat → Nat → Bool} {x : EdgeR} : x ∈ arcC labs P ↔ ∃ s j, s < labs.length + 1 ∧ j < labs.length ∧ P s j = true ∧ x = arcE labs s j := by
  unfold arcC
  rw [mem_putsE, mem_arcL]
  simp
/-- From state s (0: the beginning) to occurrence j. -/
def goP (r : StD × SpD) : Nat → Nat → Bool
  | 0 => r.2.first
  | s + 1 => r.1.fol s
structure NfaD where
  f0 : Int
  f1 : List EdgeR
  f2 : List Bool
def gluA (ps : List PieceD) : StD × SpD := glu ps ps.length (ps.length - 1) ⟨[], fun _ _ => false⟩
def endsB (r : StD × SpD) : List Bool := r.2.null :: (List.range r.1.labs.length).map r.2.last
def nfaR (r : StD × SpD) : NfaD := ⟨(r.1.labs.length : Int) + 1, arcC r.1.labs (goP r), endsB r⟩
def nfaM (ps : List PieceD) : NfaD := nfaR (gluA ps)
example : (nfaM [⟨1, 97, []⟩, ⟨1, 98, []⟩, ⟨4, 0, [1]⟩, ⟨2, 0, [0, 2]⟩]).f1.map (fun x => (x.f0, x.f1, x.f2)) = [(0, 97, 1), (1, 98, 2), (2, 98, 2)] := by decide
example : (nfaM [⟨1, 97, []⟩, ⟨1, 98, []⟩, ⟨4, 0, [1]⟩, ⟨2, 0, [0, 2]⟩]).f2 = [false, true, true] := by decide
end Go.Proofs.YtmdgdnkllclpcaaGreat

/- Sets of places as bits of a number: joining, testing, one place. No condition. -/
namespace Go.Proofs.YtmdgdnkllclpcaaGreat
open Go.RowKit
set_option linter.unusedVariables false
set_option linter.unusedSimpArgs false
def bitN (p : Nat → Bool) : Nat → Nat
  | 0 => 0
  | m + 1 => bitN p m + (if p m then 2 ^ m else 0)
theorem bitN_lt (p : Nat → Bool) : ∀ m, bitN p m < 2 ^ m
  | 0 => by simp [bitN]
  | m + 1 => by
    have := bitN_lt p m
    rw [bitN, Nat.pow_succ]
    split <;> omega
theorem bitN_test (p : Nat → Bool) : ∀ m j, (bitN p m).testBit j = (decide (j < m) && p j)
  | 0, j => by simp [bitN]
  | m + 1, j => by
    have hl := bitN_lt p m
    rw [bitN]
    cases hp : p m
    · simp only [Bool.false_eq_true, if_false, Nat.add_zero]
      rw [bitN_test p m j]
      by_cases e : j = m
      · subst e
        simp [hp]
      · congr 1
        rw [Bool.eq_iff_iff, decide_eq_true_eq, decide_eq_true_eq]
        omega
    · simp only [if_true]
      rw [Nat.add_comm]
      by_cases e : j = m
      · subst e
        rw [Nat.testBit_two_pow_add_eq, Nat.testBit_lt_two_pow hl]
        simp [hp]
      · rcases Nat.lt_or_ge j m with h | h
        · rw [Nat.testBit_two_pow_add_gt h, bitN_test p m j]
          congr 1
          rw [Bool.eq_iff_iff, decide_eq_true_eq, decide_eq_true_eq]
          omega
        · rw [Nat.testBit_lt_two_pow (Nat.lt_of_lt_of_le (show 2 ^ m + bitN p m < 2 ^ (m + 1) by rw [Nat.pow_succ]; omega) (Nat.pow_le_pow_right (by omega) (by omega)))]
          rw [decide_eq_false (by omega), Bool.false_and]
/-- A set of places below 32 as a number. -/
def bN (p : Nat → Bool) : Nat := bitN p 32
theorem bN_lt (p : Nat → Bool) : bN p < 4294967296 := bitN_lt p 32
theorem bN_test (p : Nat → Bool) (j : Nat) : (bN p).testBit j = (decide (j < 32) && p j) := bitN_test p 32 j
theorem bN_eq {x : Nat} {p : Nat → Bool} (hx : x < 4294967296) (h : ∀ j, j < 32 → x.testBit j = p j) : x = bN p := by
  apply Nat.eq_of_testBit_eq
  intro i
  rw [bN_test]
  by_cases hi : i < 32
  · rw [h i hi]; simp [hi]
  · rw [Nat.testBit_lt_two_pow (Nat.lt_of_lt_of_le hx (by
      have : 2 ^ 32 ≤ 2 ^ i := Nat.pow_le_pow_right (by omega) (by omega)
      simpa using this))]
    simp [hi]
theorem bN_congr {p q : Nat → Bool} (h : ∀ j, j < 32 → p j = q j) : bN p = bN q := bN_eq (bN_lt p) fun j hj => by rw [bN_test, h j hj]; simp [hj]
theorem u32_small (x : Nat) (hx : x < 4294967296) : IntKind.u32.wrap (x : Int) = (x : Int) := by
  simp [IntKind.wrap, IntKind.bits, IntKind.signed]
  omega
theorem u32_bv (x : Nat) (hx : x < 4294967296) : (BitVec.ofInt 32 (x : Int)).toNat = x := by
  rw [BitVec.toNat_ofInt]
  have : ((x : Int) % ((2 ^ 32 : Nat) : Int)).toNat = x := by omega
  exact this
theorem bits_or32 (x y : Nat) (hx : x < 4294967296) (hy : y < 4294967296) : bits .or .u32 (x : Int) (y : Int) = ((x ||| y : Nat) : Int) := by
  have hl : x ||| y < 4294967296 := Nat.or_lt_two_pow (n := 32) hx hy
  show IntKind.u32.wrap ((BitVec.ofInt 32 (x : Int) ||| BitVec.ofInt 32 (y : Int)).toNat : Int) = _
  rw [BitVec.toNat_or, u32_bv x hx, u32_bv y hy]
  exact u32_small _ hl
theorem bits_and1 (x : Nat) (hx : x < 4294967296) : bits .and .u32 (x : Int) 1 = ((x % 2 : Nat) : Int) := by
  show IntKind.u32.wrap ((BitVec.ofInt 32 (x : Int) &&& BitVec.ofInt 32 (1 : Int)).toNat : Int) = _
  rw [BitVec.toNat_and, u32_bv x hx, show (BitVec.ofInt 32 (1 : Int)).toNat = 1 from rfl, Nat.and_one_is_mod]
  exact u32_small _ (by omega)
theorem bN_or (p q : Nat → Bool) : bits .or .u32 (bN p : Int) (bN q : Int) = (bN (fun j => p j || q j) : Int) := by
  rw [bits_or32 _ _ (bN_lt p) (bN_lt q)]
  congr 1
  refine bN_eq (Nat.or_lt_two_pow (n := 32) (bN_lt p) (bN_lt q)) fun j hj => ?_
  rw [Nat.testBit_or, bN_test, bN_test]
  simp [hj]
theorem bN_bit (p : Nat → Bool) (j : Nat) (hj : j < 32) : bits .and .u32 ((bN p : Int) / 2 ^ j) 1 = if p j = true then 1 else 0 := by
  have e : ((bN p : Int) / 2 ^ j) = ((bN p / 2 ^ j : Nat) : Int) := by simp
  rw [e, bits_and1 _ (Nat.lt_of_le_of_lt (Nat.div_le_self _ _) (bN_lt p))]
  have h := bN_test p j
  rw [Nat.testBit_eq_decide_div_mod_eq] at h
  simp [hj] at h
  split
  · rename_i hp
    rw [hp] at h
    simp at h
    omega
  · rename_i hp
    rw [show p j = false by simpa using hp] at h
    simp at h
    omega
theorem bN_one (i : Nat) (hi : i < 32) : IntKind.u32.wrap (1 * 2 ^ i) = (bN (fun j => decide (j = i)) : Int) := by
  have hl : 2 ^ i < 4294967296 := Nat.pow_lt_pow_right (by omega) (show i < 32 from hi)
  have e : (1 * 2 ^ i : Int) = ((2 ^ i : Nat) : Int) := by simp
  rw [e, u32_small _ hl]
  congr 1
  refine bN_eq hl fun j hj => ?_
  rw [Nat.testBit_two_pow]
  rw [Bool.eq_iff_iff, decide_eq_true_eq, decide_eq_true_eq]
  exact eq_comm
theorem bN_no : (bN (fun _ => false) : Int) = 0 := by
  have : bN (fun _ => false) = 0 := (bN_eq (by omega) fun j hj => by simp).symm
  rw [this]
  rfl
end Go.Proofs.YtmdgdnkllclpcaaGreat

/- Slices of bits and of bools that hold a relation: what they read as, one place written. No condition. -/
namespace Go.Proofs.YtmdgdnkllclpcaaGreat
open Go.RowKit
set_option linter.unusedVariables false
set_option linter.unusedSimpArgs false
theorem info_u32 : (Tryz.prog.info? 192).map (fun i => (i.zero, i.size, i.bytes)) = some (some (.int .u32 0), 1, 4) := by kernel_rfl
/-- The rows of a relation as cells. -/
def rCells (n : Nat) (R : (Nat → Nat → Bool)) : List Value := (List.range n).map fun i => .int .u32 (bN (R i) : Int)
theorem rCells_len (n : Nat) (R : (Nat → Nat → Bool)) : (rCells n R).length = n := by simp [rCells]
theorem rCells_at {n : Nat} {R : (Nat → Nat → Bool)} {i : Nat} (h : i < n) : (rCells n R)[i]? = some (.int .u32 (bN (R i) : Int)) := by simp [rCells, h]
theorem rCells_congr {n : Nat} {R S : (Nat → Nat → Bool)} (h : ∀ i, i < n → R i = S i) : rCells n R = rCells n S := by
  unfold rCells
  refine List.map_congr_left fun i hi => ?_
  rw [h i (List.mem_range.1 hi)]
theorem rCells_set (n : Nat) (R : (Nat → Nat → Bool)) (i : Nat) (p : Nat → Bool) : (rCells n R).set i (.int .u32 (bN p : Int)) = rCells n (fun x => if x = i then p else R x) := by
  refine List.ext_getElem? fun k => ?_
  rw [List.getElem?_set]
  by_cases hk : k < n
  · rw [rCells_at hk, rCells_at hk, rCells_len]
    by_cases e : i = k
    · subst e
      simp [hk]
    · rw [if_neg e, if_neg (fun h => e h.symm)]
  · rw [List.getElem?_eq_none (by rw [rCells_len]; omega), List.getElem?_eq_none (by rw [rCells_len]; omega), rCells_len]
    split
    · rw [if_neg (by omega)]
    · rfl
theorem rCells_no (n : Nat) : rCells n rNo = List.replicate n (.int .u32 0) := by
  unfold rCells rNo
  rw [bN_no]
  exact List.map_const' ▸ by simp
theorem oneCells_rel (n : Nat) (R : (Nat → Nat → Bool)) : ∀ u ∈ rCells n R, u.oneCell' = true := fun u hu => by obtain ⟨x, _, rfl⟩ := List.mem_map.1 hu; rfl
/-- A slice of bits reads as a relation. -/
def RelR (w : World) (v : Value) (n : Nat) (R : (Nat → Nat → Bool)) : Prop := RdS w 1 v n (rCells n R)
def RelO (w : World) (lo : Nat) (v : Value) (n : Nat) (R : (Nat → Nat → Bool)) : Prop := w.ownsRow lo 192 1 v n (rCells n R)
theorem RelR.fr {w w' : World} {v : Value} {n : Nat} {R : (Nat → Nat → Bool)} (h : RelR w v n R) (hf : Fr w w') : RelR w' v n R := RdS.fr h hf
theorem RelO.fr {w w' : World} {lo : Nat} {v : Value} {n : Nat} {R : (Nat → Nat → Bool)} (h : RelO w lo v n R) (hf : Fr w w') : RelO w' lo v n R := owns_fr h hf
theorem RelO.rd {w : World} {lo : Nat} {v : Value} {n : Nat} {R : (Nat → Nat → Bool)} (h : RelO w lo v n R) : RelR w v n R := RdS.of_owns h
theorem RelO.val {w : World} {lo : Nat} {v : Value} {n : Nat} {R : (Nat → Nat → Bool)} (h : RelO w lo v n R) : ∃ ao cap, v = .slice ao n cap := owns_val h
theorem RelO.congr {w : World} {lo : Nat} {v : Value} {n : Nat} {R S : (Nat → Nat → Bool)} (h : RelO w lo v n R) (e : ∀ i, i < n → R i = S i) : RelO w lo v n S := by
  unfold RelO at h ⊢
  rw [← rCells_congr e]
  exact h
theorem RelR.congr {w : World} {v : Value} {n : Nat} {R S : (Nat → Nat → Bool)} (h : RelR w v n R) (e : ∀ i, i < n → R i = S i) : RelR w v n S := by
  unfold RelR at h ⊢
  rw [← rCells_congr e]
  exact h
theorem RelR.one {w : World} {v : Value} {n : Nat} {R : (Nat → Nat → Bool)} (h : RelR w v n R) :
    ∃ ao b o cap, v = .slice ao n cap ∧ n ≤ cap ∧ cap ≤ 9223372036854775807 ∧ (0 < n → ao = some ⟨b, o, none⟩ ∧ b < w.heap.size ∧ ∀ i, i < n → w.cell? ⟨b, o + i, none⟩ = some (.int .u32 (bN (R i) : Int))) := by
  obtain ⟨h4, ao, cap, rfl, h5, h6, h7⟩ := h
  have hm : cap ≤ 9223372036854775807 := by unfold maxLen at h6; omega
  rcases Nat.eq_zero_or_pos n with h0 | h0
  · exact ⟨ao, 0, 0, cap, rfl, h5, hm, fun h => absurd h (by omega)⟩
  · obtain ⟨b, o, rfl, hb, hc⟩ := h7 h0
    refine ⟨_, b, o, cap, rfl, h5, hm, fun _ => ⟨rfl, hb, fun i hi => ?_⟩⟩
    rw [hc i (by omega)]
    exact rCells_at hi
/-- An owned row of bits: its block. -/
theorem RelO.one {w : World} {lo : Nat} {v : Value} {n : Nat} {R : (Nat → Nat → Bool)} (h : RelO w lo v n R) (hn : 0 < n) : ∃ g cap, v = .slice (some ⟨g, 0, none⟩) n cap ∧ lo ≤ g ∧ g < w.heap.size ∧ (∀ i, i < n → w.cell? ⟨g, i, none⟩ = some (.int .u32 (bN (R i) : Int))) ∧ (∀ i, w.frozen? ⟨g, i, none⟩ = false) := by
  rcases owns_shape h with ⟨rfl, hn0, _⟩ | ⟨g, cap, rfl, h1, h2, _⟩
  · omega
  · exact ⟨g, cap, rfl, h1, h2, fun i hi => (h.cellAt i (by omega)).trans (rCells_at hi), fun i => h.frozenAt i⟩
theorem RelO.set {w : World} {lo g cap : Nat} {n : Nat} {R : (Nat → Nat → Bool)} (h : RelO w lo (.slice (some ⟨g, 0, none⟩) n cap) n R) (i : Nat) (p : Nat → Bool) : RelO (w.setCell ⟨g, i, none⟩ (.int .u32 (bN p : Int))) lo (.slice (some ⟨g, 0, none⟩) n cap) n (fun x => if x = i then p else R x) := by
  have := (World.ownsRow.stored h i (.int .u32 (bN p : Int))).1
  unfold RelO
  rw [← rCells_set]
  exact this
theorem rel_made {w : World} {lo b n : Nat} (hb : b = w.heap.size) (hl : lo ≤ b) (hn : n ≤ 1048576) : RelO (w.alloc (.cells (madeCells #[.int .u32 0] n) 192)) lo (.slice (some ⟨b, 0, none⟩) n n) n rNo := by
  unfold RelO
  rw [rCells_no]
  exact made_new hb hl hn
/-! ### a square of bools -/
def sqCells (n : Nat) (R : (Nat → Nat → Bool)) : List Value := (List.range (n * n)).map fun q => .bool (R (q / n) (q % n))
theorem sqCells_len (n : Nat) (R : (Nat → Nat → Bool)) : (sqCells n R).length = n * n := by simp [sqCells]
theorem sqCells_at {n : Nat} {R : (Nat → Nat → Bool)} {q : Nat} (h : q < n * n) : (sqCells n R)[q]? = some (.bool (R (q / n) (q % n))) := by simp [sqCells, h]
theorem sq_lt {n i j : Nat} (hi : i < n) (hj : j < n) : i * n + j < n * n := by
  have := Nat.mul_le_mul_right n (show i + 1 ≤ n by omega)
  rw [Nat.add_mul] at this
  omega
theorem sq_div {n i j : Nat} (hj : j < n) : (i * n + j) / n = i := by
  rw [Nat.mul_comm, Nat.mul_add_div (by omega), Nat.div_eq_of_lt hj]
  omega
theorem sq_mod {n i j : Nat} (hj : j < n) : (i * n + j) % n = j := by
  rw [Nat.mul_comm, Nat.mul_add_mod, Nat.mod_eq_of_lt hj]
theorem sq_split {n q : Nat} (h : q < n * n) : q / n < n ∧ q % n < n ∧ q = (q / n) * n + q % n := by
  have hn : 0 < n := by
    rcases Nat.eq_zero_or_pos n with h0 | h0
    · subst h0; omega
    · exact h0
  refine ⟨Nat.div_lt_of_lt_mul h, Nat.mod_lt _ hn, ?_⟩
  rw [Nat.mul_comm]
  exact (Nat.div_add_mod q n).symm
theorem sqCells_congr {n : Nat} {R S : (Nat → Nat → Bool)} (h : ∀ i j, i < n → j < n → R i j = S i j) : sqCells n R = sqCells n S := by
  unfold sqCells
  refine List.map_congr_left fun q hq => ?_
  have := sq_split (List.mem_range.1 hq)
  rw [h _ _ this.1 this.2.1]
theorem sqCells_set {n : Nat} (R : (Nat → Nat → Bool)) {i j : Nat} (hi : i < n) (hj : j < n) (c : Bool) : (sqCells n R).set (i * n + j) (.bool c) = sqCells n (fun x y => if x = i ∧ y = j then c else R x y) := by
  refine List.ext_getElem? fun q => ?_
  rw [List.getElem?_set]
  by_cases hq : q < n * n
  · rw [sqCells_at hq, sqCells_at hq, sqCells_len]
    have hs := sq_split hq
    by_cases e : i * n + j = q
    · subst e
      rw [if_pos rfl, if_pos hq, sq_div hj, sq_mod hj]
      simp
    · rw [if_neg e, if_neg]
      rintro ⟨h1, h2⟩
      apply e
      rw [← h1, ← h2]
      exact hs.2.2.symm
  · rw [List.getElem?_eq_none (by rw [sqCells_len]; omega), List.getElem?_eq_none (by rw [sqCells_len]; omega), sqCells_len]
    split
    · rw [if_neg (by omega)]
    · rfl
theorem sqCells_no (n : Nat) : sqCells n rNo = List.replicate (n * n) (.bool false) := by
  unfold sqCells rNo
  exact List.map_const' ▸ by simp
theorem oneCells_sq (n : Nat) (R : (Nat → Nat → Bool)) : ∀ u ∈ sqCells n R, u.oneCell' = true := fun u hu => by obtain ⟨x, _, rfl⟩ := List.mem_map.1 hu; rfl
def SqR (w : World) (v : Value) (n : Nat) (R : (Nat → Nat → Bool)) : Prop := RdS w 1 v (n * n) (sqCells n R)
def SqO (w : World) (lo : Nat) (v : Value) (n : Nat) (R : (Nat → Nat → Bool)) : Prop := w.ownsRow lo 4 1 v (n * n) (sqCells n R)
theorem SqR.fr {w w' : World} {v : Value} {n : Nat} {R : (Nat → Nat → Bool)} (h : SqR w v n R) (hf : Fr w w') : SqR w' v n R := RdS.fr h hf
theorem SqO.fr {w w' : World} {lo : Nat} {v : Value} {n : Nat} {R : (Nat → Nat → Bool)} (h : SqO w lo v n R) (hf : Fr w w') : SqO w' lo v n R := owns_fr h hf
theorem SqO.rd {w : World} {lo : Nat} {v : Value} {n : Nat} {R : (Nat → Nat → Bool)} (h : SqO w lo v n R) : SqR w v n R := RdS.of_owns h
theorem SqO.val {w : World} {lo : Nat} {v : Value} {n : Nat} {R : (Nat → Nat → Bool)} (h : SqO w lo v n R) : ∃ ao cap, v = .slice ao (n * n) cap := owns_val h
theorem SqO.congr {w : World} {lo : Nat} {v : Value} {n : Nat} {R S : (Nat → Nat → Bool)} (h : SqO w lo v n R) (e : ∀ i j, i < n → j < n → R i j = S i j) : SqO w lo v n S := by
  unfold SqO at h ⊢
  rw [← sqCells_congr e]
  exact h
theorem SqR.congr {w : World} {v : Value} {n : Nat} {R S : (Nat → Nat → Bool)} (h : SqR w v n R) (e : ∀ i j, i < n → j < n → R i j = S i j) : SqR w v n S := by
  unfold SqR at h ⊢
  rw [← sqCells_congr e]
  exact h
theorem SqR.one {w : World} {v : Value} {n : Nat} {R : (Nat → Nat → Bool)} (h : SqR w v n R) :
    ∃ ao b o cap, v = .slice ao (n * n) cap ∧ n * n ≤ cap ∧ cap ≤ 9223372036854775807 ∧ (0 < n * n → ao = some ⟨b, o, none⟩ ∧ b < w.heap.size ∧ (∀ q, q < n * n → w.cell? ⟨b, o + q, none⟩ = some (.bool (R (q / n) (q % n)))) ∧ ∀ i j, i < n → j < n → w.cell? ⟨b, o + (i * n + j), none⟩ = some (.bool (R i j))) := by
  obtain ⟨h4, ao, cap, rfl, h5, h6, h7⟩ := h
  have hm : cap ≤ 9223372036854775807 := by unfold maxLen at h6; omega
  rcases Nat.eq_zero_or_pos (n * n) with h0 | h0
  · exact ⟨ao, 0, 0, cap, rfl, h5, hm, fun h => absurd h (by omega)⟩
  · obtain ⟨b, o, rfl, hb, hc⟩ := h7 h0
    have hq : ∀ q, q < n * n → w.cell? ⟨b, o + q, none⟩ = some (.bool (R (q / n) (q % n))) := fun q hq => by
      rw [hc q (by omega)]
      exact sqCells_at hq
    refine ⟨_, b, o, cap, rfl, h5, hm, fun _ => ⟨rfl, hb, hq, fun i j hi hj => ?_⟩⟩
    rw [hq _ (sq_lt hi hj), sq_div hj, sq_mod hj]
theorem SqO.one {w : World} {lo : Nat} {v : Value} {n : Nat} {R : (Nat → Nat → Bool)} (h : SqO w lo v n R) (hn : 0 < n) : ∃ g cap, v = .slice (some ⟨g, 0, none⟩) (n * n) cap ∧ lo ≤ g ∧ g < w.heap.size ∧ (∀ q, q < n * n → w.cell? ⟨g, q, none⟩ = some (.bool (R (q / n) (q % n)))) ∧ (∀ i j, i < n → j < n → w.cell? ⟨g, i * n + j, none⟩ = some (.bool (R i j))) ∧ (∀ i, w.frozen? ⟨g, i, none⟩ = false) := by
  have hp := Nat.mul_pos hn hn
  rcases owns_shape h with ⟨rfl, hn0, _⟩ | ⟨g, cap, rfl, h1, h2, _⟩
  · omega
  · have hq : ∀ q, q < n * n → w.cell? ⟨g, q, none⟩ = some (.bool (R (q / n) (q % n))) := fun q hq => (h.cellAt q (by omega)).trans (sqCells_at hq)
    exact ⟨g, cap, rfl, h1, h2, hq, fun i j hi hj => by rw [hq _ (sq_lt hi hj), sq_div hj, sq_mod hj], fun i => h.frozenAt i⟩
theorem SqO.set {w : World} {lo g cap : Nat} {n : Nat} {R : (Nat → Nat → Bool)} (h : SqO w lo (.slice (some ⟨g, 0, none⟩) (n * n) cap) n R) {i j : Nat} (hi : i < n) (hj : j < n) (c : Bool) : SqO (w.setCell ⟨g, i * n + j, none⟩ (.bool c)) lo (.slice (some ⟨g, 0, none⟩) (n * n) cap) n (fun x y => if x = i ∧ y = j then c else R x y) := by
  have := (World.ownsRow.stored h (i * n + j) (.bool c)).1
  unfold SqO
  rw [← sqCells_set R hi hj]
  exact this
theorem sq_made {w : World} {lo b n : Nat} (hb : b = w.heap.size) (hl : lo ≤ b) (hn : n * n ≤ 1048576) : SqO (w.alloc (.cells (madeCells #[.bool false] (n * n)) 4)) lo (.slice (some ⟨b, 0, none⟩) (n * n) (n * n)) n rNo := by
  unfold SqO
  rw [sqCells_no]
  exact made_new hb hl hn
end Go.Proofs.YtmdgdnkllclpcaaGreat

/- The program's relations: identity, or, then, plus, bitsIn. Conditions: at most 12 places. -/
namespace Go.Proofs.YtmdgdnkllclpcaaGreat
open Go.RowKit
set_option linter.unusedVariables false
set_option linter.unusedSimpArgs false
def upTo (n : Nat) (a : (Nat → Nat → Bool)) : (Nat → Nat → Bool) := fun x y => decide (x < n) && a x y
set_option maxHeartbeats 2000000 in
set_option maxRecDepth 100000 in
theorem identity_any (n : Nat) (w : World) (hn : 0 < n ∧ n ≤ 12) :
    Calls Tryz.prog 210 #[.int .i64 n] w fun e w' => ∃ ao cap, e = .returned (.slice ao n cap) ∧ RelO w' w.heap.size (.slice ao n cap) n (rId n) ∧ Fr w w' := by
  obtain ⟨i0, hi, hz0, hz1, hz2⟩ := info_parts info_u32
  obtain ⟨hn0, hn1⟩ := hn
  go_enter Tryz.func210, Tryz.ntmps210
  go_wp2_with (at_make; refine wpList_make_full _ rfl _ _ 205 rfl w.heap.size 192 i0 (.int .u32 0) 1 Tryz.underlying205 hi hz0 hz1 _ _ _ _ n rfl rfl rfl rfl (by rw [hz2]; omega) (by unfold maxLen; omega) (by omega) ?_; intro w1 hown hgrow)
  rw [show (madeCells (Value.cells (.int .u32 0)) (n * 1)).toList = rCells n rNo from by rw [rCells_no, Nat.mul_one]; exact toList_madeCells_one _ _] at hown; have HO : Hid (RelO w1 w.heap.size (.slice (some ⟨w.heap.size, 0, none⟩) n n) n rNo) := Lib.hid hown; have HF1 : Fr w w1 := (Fr.refl w).grown hgrow (by simp); clear hown hgrow
  go_loopw [4, 9] (fun _ i wr => ∃ k : Nat, k ≤ n ∧ i = .int .i64 k ∧ Hid (RelO wr w.heap.size (.slice (some ⟨w.heap.size, 0, none⟩) n n) n (upTo k (rId n))) ∧ Fr w wr) (fun _ i _ => n - (intOf i).toNat)
  case atStart => exact ⟨0, Nat.zero_le _, rfl, Lib.hid (HO.out.congr fun i hi => by funext j; simp [upTo, rNo]), HF1⟩
  case round =>
    clear HO HF1
    obtain ⟨k, hk, rfl, ho, hfr⟩ := hrel
    by_cases hlt : k < n
    · obtain ⟨g, cap, hv, hg1, hg2, hc, hz⟩ := ho.out.one hn0
      cases hv
      have c1 := hc k hlt
      have z1 := hz k
      have hone := bN_one k (by omega)
      have ho2 : Hid (RelO (wr.setCell ⟨w.heap.size, k, none⟩ (.int .u32 (bN (fun j => decide (j = k)) : Int))) w.heap.size (.slice (some ⟨w.heap.size, 0, none⟩) n n) n (upTo (k + 1) (rId n))) := Lib.hid ((RelO.set ho.out k _).congr fun i hi => by
        funext j
        by_cases e : i = k
        · subst e
          simp [upTo, rId, eq_comm, hi]
        · simp only [if_neg e, upTo]
          congr 1
          rw [Bool.eq_iff_iff, decide_eq_true_eq, decide_eq_true_eq]
          omega)
      have hone2 : IntKind.u32.wrap (2 ^ k) = (bN (fun j => decide (j = k)) : Int) := by rw [← hone, Int.one_mul]
      clear hc hz ho
      go_wp2_with fail
      go_roundw
      case rel => exact ⟨k + 1, by omega, by go_num, ho2, hfr.setCell (Nat.le_refl _) _⟩
      case measure => (simp [intOf]; omega)
    · obtain rfl : k = n := by omega
      go_wp2_with fail
      go_ret
      exact ⟨_, _, rfl, ho.out.congr fun i hi => by funext j; simp [upTo, hi], hfr⟩
set_option maxHeartbeats 4000000 in
set_option maxRecDepth 100000 in
theorem relOr_any (a b : Value) (n : Nat) (A B : (Nat → Nat → Bool)) (w : World) (hn : 0 < n ∧ n ≤ 12) (ha : RelR w a n A) (hb : RelR w b n B) :
    Calls Tryz.prog 212 #[a, b] w fun e w' => ∃ ao cap, e = .returned (.slice ao n cap) ∧ RelO w' w.heap.size (.slice ao n cap) n (rOr A B) ∧ Fr w w' := by
  obtain ⟨i0, hi, hz0, hz1, hz2⟩ := info_parts info_u32
  obtain ⟨hn0, hn1⟩ := hn
  obtain ⟨aa, ba, oa, ca, rfl, hca, hma, fa⟩ := ha.one
  obtain ⟨ab, bb, ob, cb, rfl, hcb, hmb, fb⟩ := hb.one
  obtain ⟨rfl, hba, fa⟩ := fa hn0
  obtain ⟨rfl, hbb, fb⟩ := fb hn0
  have FA := Lib.hid fa
  have FB := Lib.hid fb
  clear fa fb ha hb
  go_enter Tryz.func212, Tryz.ntmps212
  go_wp2_with (at_make; refine wpList_make_full _ rfl _ _ 205 rfl w.heap.size 192 i0 (.int .u32 0) 1 Tryz.underlying205 hi hz0 hz1 _ _ _ _ n rfl rfl rfl rfl (by rw [hz2]; omega) (by unfold maxLen; omega) (by omega) ?_; intro w1 hown hgrow)
  rw [show (madeCells (Value.cells (.int .u32 0)) (n * 1)).toList = rCells n rNo from by rw [rCells_no, Nat.mul_one]; exact toList_madeCells_one _ _] at hown; have HO : Hid (RelO w1 w.heap.size (.slice (some ⟨w.heap.size, 0, none⟩) n n) n rNo) := Lib.hid hown; have HF1 : Fr w w1 := (Fr.refl w).grown hgrow (by simp); clear hown hgrow
  go_loopw [6, 12] (fun _ i wr => ∃ k : Nat, k ≤ n ∧ i = .int .i64 k ∧ Hid (RelO wr w.heap.size (.slice (some ⟨w.heap.size, 0, none⟩) n n) n (upTo k (rOr A B))) ∧ Fr w wr) (fun _ i _ => n - (intOf i).toNat)
  case atStart => exact ⟨0, Nat.zero_le _, rfl, Lib.hid (HO.out.congr fun i hi => by funext j; simp [upTo, rNo]), HF1⟩
  case round =>
    clear HO HF1
    obtain ⟨k, hk, rfl, ho, hfr⟩ := hrel
    by_cases hlt : k < n
    · obtain ⟨g, cap, hv, hg1, hg2, hc, hz⟩ := ho.out.one hn0
      cases hv
      have c1 := hc k hlt
      have z1 := hz k
      have d1 := (hfr.cell (p := ⟨ba, _, none⟩) hba).trans (FA.out k hlt)
      have d2 := (hfr.cell (p := ⟨bb, _, none⟩) hbb).trans (FB.out k hlt)
      have hor := bN_or (A k) (B k)
      have ho2 : Hid (∀ wq, Fr wr wq → RelO (wq.setCell ⟨w.heap.size, k, none⟩ (.int .u32 (bN (fun j => A k j || B k j) : Int))) w.heap.size (.slice (some ⟨w.heap.size, 0, none⟩) n n) n (upTo (k + 1) (rOr A B))) := Lib.hid fun wq hq => (RelO.set (ho.out.fr hq) k _).congr fun i hi => by
        funext j
        by_cases e : i = k
        · subst e
          simp [upTo, rOr]
        · simp only [if_neg e, upTo]
          congr 1
          rw [Bool.eq_iff_iff, decide_eq_true_eq, decide_eq_true_eq]
          omega
      have hba' : ba < wr.heap.size := by have := hfr.size; omega
      have hne1 : ba ≠ w.heap.size := by omega
      have hne2 : bb ≠ w.heap.size := by omega
      clear hc hz ho
      go_wp2_with fail
      go_region
      all_goals
        go_wp2_with fail
        go_roundw
        case rel => exact ⟨k + 1, by omega, by go_num, by (refine Lib.hid (ho2.out _ ?_); repeat (first | (with_reducible exact Fr.refl _) | (with_reducible assumption) | (with_reducible refine Fr.drewN ?_ _) | (with_reducible refine Fr.drew ?_) | (with_reducible refine Fr.alloc ?_ _) | (with_reducible refine Fr.setCell ?_ (by exact Qz) _) | (with_reducible refine Fr.trans ?_ (by with_reducible assumption)))), by exact Qf⟩
        case measure => (simp [intOf]; omega)
    · obtain rfl : k = n := by omega
      go_wp2_with fail
      go_ret
      exact ⟨_, _, rfl, ho.out.congr fun i hi => by funext j; simp [upTo, hi], hfr⟩
set_option maxHeartbeats 4000000 in
set_option maxRecDepth 100000 in
theorem bitsIn_any (p : Nat → Bool) (w : World) :
    Calls Tryz.prog 157 #[.int .u32 (bN p : Int)] w fun e w' => ∃ ao cap, e = .returned (.slice ao (reachL 32 p).length cap) ∧ IntsO w' w.heap.size (.slice ao (reachL 32 p).length cap) (reachL 32 p) ∧ Fr w w' := by
  obtain ⟨i0, hi, hz0, hz1, hz2⟩ := info_parts info_int
  go_enter Tryz.func157, Tryz.ntmps157
  go_wp2_with fail
  go_loopw [3, 4, 5] (fun z _ i wr => ∃ (k : Nat) (az : Option Addr) (cz : Nat), k ≤ 32 ∧ i = .int .i64 k ∧ z = .slice az (reachL k p).length cz ∧ Hid (IntsO wr w.heap.size (.slice az (reachL k p).length cz) (reachL k p)) ∧ Fr w wr) (fun _ _ i _ => 32 - (intOf i).toNat)
  case atStart => exact ⟨0, none, 0, Nat.zero_le _, rfl, rfl, Lib.hid (World.ownsRow_nil _ _ _ _), Fr.refl _⟩
  case round =>
    obtain ⟨k, az, cz, hk, rfl, rfl, ho, hfr⟩ := hrel
    by_cases hlt : k < 32
    · have hb := bN_bit p k hlt
      have zr := hfr.size
      have hl := reachL_len k p
      have hs := reachL_succ k p
      by_cases hp : p k = true
      · rw [if_pos hp] at hb hs
        have HS := Lib.hid hs
        clear hp hs
        go_wp2_with (at_builtin; (refine wpList_append_rd rfl _ _ 86 rfl w.heap.size 3 i0 (.int .i64 0) 1 8 Tryz.underlying86 hi hz0 hz1 hz2 rfl (by decide) (.slice az (reachL k p).length cz) (reachL k p).length ((reachL k p).map (Value.int .i64)) rfl (World.ownsRow.alloc ho.out _) _ 1 [.int .i64 k] rfl (RdS.new (by first | rfl | (simp; done)) rfl) (by simp [Value.oneCell']) (by unfold maxLen; omega) (by omega) (by exact Qz) ?_; intro az' cz' w4 hown hgrow hat))
        have HO : Hid (IntsO w4 w.heap.size (.slice az' (reachL (k + 1) p).length cz') (reachL (k + 1) p)) := Lib.hid (by rw [HS.out]; simpa [IntsO] using hown)
        have hl2 : (reachL (k + 1) p).length = (reachL k p).length + 1 := by rw [HS.out]; simp
        have hf4 : Fr w w4 := append_fr hfr ho.out hgrow
        rw [← hl2]
        clear hl2 HS hown ho
        go_roundw
        case rel => exact ⟨k + 1, az', cz', by omega, by go_num, rfl, HO, hf4⟩
        case measure => (simp [intOf]; omega)
      · rw [if_neg hp] at hb hs
        have HS := Lib.hid hs
        clear hp hs
        go_wp2_with fail
        go_roundw
        case rel => exact ⟨k + 1, az, cz, by omega, by go_num, by rw [HS.out], by rw [HS.out]; exact ho, hfr⟩
        case measure => (simp [intOf]; omega)
    · obtain rfl : k = 32 := by omega
      go_wp2_with fail
      go_ret
      exact ⟨_, _, rfl, ho.out, hfr⟩
/-- Row i of a composition, so far as the first k places of the middle go. -/
def compTo (n i k : Nat) (a b : (Nat → Nat → Bool)) : (Nat → Nat → Bool) := fun x y => if x < i then rComp n a b x y else if x = i then (List.range k).any fun m => a x m && b m y else false
theorem compTo_step {n i k : Nat} {a b : (Nat → Nat → Bool)} {x y : Nat} : compTo n i (k + 1) a b x y = (compTo n i k a b x y || (decide (x = i) && (a i k && b k y))) := by
  unfold compTo
  by_cases h1 : x < i
  · simp only [if_pos h1]
    rw [decide_eq_false (by omega), Bool.false_and, Bool.or_false]
  · by_cases h2 : x = i
    · subst h2
      simp [List.range_succ]
    · simp only [if_neg h1, if_neg h2]
      rw [decide_eq_false h2, Bool.false_and, Bool.or_false]
theorem compTo_row {n i : Nat} {a b : (Nat → Nat → Bool)} {x y : Nat} : compTo n i n a b x y = compTo n (i + 1) 0 a b x y := by
  unfold compTo rComp
  by_cases h1 : x < i
  · simp only [if_pos h1, if_pos (show x < i + 1 by omega)]
  · by_cases h2 : x = i
    · subst h2
      simp
    · simp only [if_neg h1, if_neg h2, if_neg (show ¬ x < i + 1 by omega)]
      split <;> simp
set_option maxHeartbeats 8000000 in
set_option maxRecDepth 100000 in
theorem relThen_any (a b : Value) (n : Nat) (A B : (Nat → Nat → Bool)) (w : World) (hn : 0 < n ∧ n ≤ 12) (ha : RelR w a n A) (hb : RelR w b n B) :
    Calls Tryz.prog 211 #[a, b] w fun e w' => ∃ ao cap, e = .returned (.slice ao n cap) ∧ RelO w' w.heap.size (.slice ao n cap) n (rComp n A B) ∧ Fr w w' := by
  obtain ⟨i0, hi, hz0, hz1, hz2⟩ := info_parts info_u32
  obtain ⟨hn0, hn1⟩ := hn
  obtain ⟨aa, ba, oa, ca, rfl, hca, hma, fa⟩ := ha.one
  obtain ⟨ab, bb, ob, cb, rfl, hcb, hmb, fb⟩ := hb.one
  obtain ⟨rfl, hba, fa⟩ := fa hn0
  obtain ⟨rfl, hbb, fb⟩ := fb hn0
  have FA := Lib.hid fa
  have FB := Lib.hid fb
  clear fa fb ha hb
  go_enter Tryz.func211, Tryz.ntmps211
  go_wp2_with (at_make; refine wpList_make_full _ rfl _ _ 205 rfl w.heap.size 192 i0 (.int .u32 0) 1 Tryz.underlying205 hi hz0 hz1 _ _ _ _ n rfl rfl rfl rfl (by rw [hz2]; omega) (by unfold maxLen; omega) (by omega) ?_; intro w1 hown hgrow)
  rw [show (madeCells (Value.cells (.int .u32 0)) (n * 1)).toList = rCells n rNo from by rw [rCells_no, Nat.mul_one]; exact toList_madeCells_one _ _] at hown; have HO : Hid (RelO w1 w.heap.size (.slice (some ⟨w.heap.size, 0, none⟩) n n) n rNo) := Lib.hid hown; have HF1 : Fr w w1 := (Fr.refl w).grown hgrow (by simp); clear hown hgrow
  go_loopw [6, 7, 8, 14, 19, 20, 21] (fun _ _ _ i _ _ _ wr => ∃ k : Nat, k ≤ n ∧ i = .int .i64 k ∧ Hid (RelO wr w.heap.size (.slice (some ⟨w.heap.size, 0, none⟩) n n) n (compTo n k 0 A B)) ∧ Fr w wr) (fun _ _ _ i _ _ _ _ => n - (intOf i).toNat)
  case atStart => exact ⟨0, Nat.zero_le _, rfl, Lib.hid (HO.out.congr fun i hi => by funext j; simp [compTo, rNo]), HF1⟩
  case round =>
    clear HO HF1
    obtain ⟨k, hk, rfl, ho, hfr⟩ := hrel
    by_cases hlt : k < n
    · have d1 := (hfr.cell (p := ⟨ba, _, none⟩) hba).trans (FA.out k hlt)
      go_wp2_with fail
      go_loopw [8, 21] (fun _ i wr => ∃ m : Nat, m ≤ n ∧ i = .int .i64 m ∧ Hid (RelO wr w.heap.size (.slice (some ⟨w.heap.size, 0, none⟩) n n) n (compTo n k m A B)) ∧ Fr w wr) (fun _ i _ => n - (intOf i).toNat)
      case atStart => exact ⟨0, Nat.zero_le _, rfl, ho, hfr⟩
      case round =>
        clear ho hfr
        obtain ⟨m, hm, rfl, ho, hfr⟩ := hrel
        have zr := hfr.size
        by_cases hmt : m < n
        · obtain ⟨g, cap, hv, hg1, hg2, hc, hz⟩ := ho.out.one hn0
          cases hv
          have c1 := hc k hlt
          have z1 := hz k
          have hbit := bN_bit (A k) m (by omega)
          have d2 := (hfr.cell (p := ⟨bb, _, none⟩) hbb).trans (FB.out m hmt)
          have hne1 : ba ≠ w.heap.size := by omega
          have hne2 : bb ≠ w.heap.size := by omega
          clear hc hz
          by_cases hp : A k m = true
          · rw [if_pos hp] at hbit
            have hor := bN_or (compTo n k m A B k) (B m)
            have ho2 : Hid (∀ wq, Fr wr wq → RelO (wq.setCell ⟨w.heap.size, k, none⟩ (.int .u32 (bN (fun j => compTo n k m A B k j || B m j) : Int))) w.heap.size (.slice (some ⟨w.heap.size, 0, none⟩) n n) n (compTo n k (m + 1) A B)) := Lib.hid fun wq hq => (RelO.set (ho.out.fr hq) k _).congr fun i hi => by
              funext j
              rw [compTo_step]
              by_cases e : i = k
              · subst e
                simp [hp]
              · simp only [if_neg e]
                rw [decide_eq_false e, Bool.false_and, Bool.or_false]
            clear ho hp
            go_wp2_with fail
            go_region
            all_goals
              go_wp2_with fail
              go_roundw
              case rel => exact ⟨m + 1, by omega, by go_num, by (refine Lib.hid (ho2.out _ ?_); repeat (first | (with_reducible exact Fr.refl _) | (with_reducible assumption) | (with_reducible refine Fr.drewN ?_ _) | (with_reducible refine Fr.drew ?_) | (with_reducible refine Fr.alloc ?_ _) | (with_reducible refine Fr.setCell ?_ (by exact Qz) _) | (with_reducible refine Fr.trans ?_ (by with_reducible assumption)))), by exact Qf⟩
              case measure => (simp [intOf]; omega)
          · rw [if_neg hp] at hbit
            have ho2 : Hid (RelO wr w.heap.size (.slice (some ⟨w.heap.size, 0, none⟩) n n) n (compTo n k (m + 1) A B)) := Lib.hid (ho.out.congr fun i hi => by
              funext j
              rw [compTo_step, show A k m = false by simpa using hp]
              simp)
            clear ho hp
            go_wp2_with fail
            go_roundw
            case rel => exact ⟨m + 1, by omega, by go_num, ho2, hfr⟩
            case measure => (simp [intOf]; omega)
        · obtain rfl : m = n := by omega
          have ho2 : Hid (RelO wr w.heap.size (.slice (some ⟨w.heap.size, 0, none⟩) m m) m (compTo m (k + 1) 0 A B)) := Lib.hid (ho.out.congr fun i hi => by funext j; exact compTo_row)
          clear ho
          go_wp2_with fail
          go_roundw
          case rel => exact ⟨k + 1, by omega, by go_num, ho2, hfr⟩
          case measure => (simp [intOf]; omega)
    · obtain rfl : k = n := by omega
      go_wp2_with fail
      go_ret
      exact ⟨_, _, rfl, ho.out.congr fun i hi => by funext j; simp [compTo, hi], hfr⟩
set_option maxHeartbeats 1000000 in
set_option maxRecDepth 100000 in
theorem cloneRel_any (v : Value) (n : Nat) (R : (Nat → Nat → Bool)) (w : World) (hn : 0 < n ∧ n ≤ 12) (hv : RelR w v n R) :
    Calls Tryz.prog 217 #[v] w fun e w' => ∃ ao cap, e = .returned (.slice ao n cap) ∧ RelO w' w.heap.size (.slice ao n cap) n R ∧ Fr w w' := by
  obtain ⟨ao, cap, rfl, hnil⟩ := RdS.val hv
  obtain ⟨i0, hi, hz0, hz1, hz2⟩ := info_parts info_u32
  have q : ∀ (w : World) (a : Option Addr) (n c n' c' : Nat), (binOp .eql 205 (.slice a n c) (.slice none n' c')).run Tryz.prog w = .ok (.bool a.isNone) w := fun w a n c n' c' => Lib.run_eql_slice_nil w _ _ a n c n' c' Tryz.underlying205
  cases ao with
  | none => have := hnil rfl; omega
  | some a =>
    clear hnil
    have HV := Lib.hid hv
    clear hv
    go_enter Tryz.func217, Tryz.ntmps217
    go_wp2_with (at_builtin; refine wpList_append_rd rfl _ _ 205 rfl w.heap.size 192 i0 (.int .u32 0) 1 4 Tryz.underlying205 hi hz0 hz1 hz2 rfl (by decide) (.slice (some ⟨w.heap.size, 0, none⟩) 0 0) 0 [] rfl (World.ownsRow_made w #[] 0 (Nat.le_refl _) (Nat.zero_le _) rfl) _ n (rCells n R) rfl (RdS.fr HV.out (by exact Qf)) (oneCells_rel _ _) (by unfold maxLen; omega) (by omega) (by exact Qz) ?_; intro ao' cap' w1 hown hgrow hat)
    go_ret
    simp only [Nat.zero_add] at hown ⊢
    exact ⟨ao', cap', rfl, by simpa [RelO] using hown, ((Fr.refl _).alloc _).grown hgrow (by intro k hk; simp [Value.ownBlock] at hk; omega)⟩
/-- Round k of the closing, the first i rows done. -/
def wshTo (a : (Nat → Nat → Bool)) (k i : Nat) : (Nat → Nat → Bool) := fun x y => if x < i then wsh a (k + 1) x y else wsh a k x y
theorem wsh_at (a : Nat → Nat → Bool) (k x y : Nat) : wsh a (k + 1) x y = (wsh a k x y || (wsh a k x k && wsh a k k y)) := by rw [wsh]
theorem wsh_same (a : (Nat → Nat → Bool)) (k y : Nat) : wsh a (k + 1) k y = wsh a k k y := by
  rw [wsh_at]
  cases wsh a k k k <;> cases wsh a k k y <;> rfl
theorem wshTo_at (a : (Nat → Nat → Bool)) (k i y : Nat) : wshTo a k i k y = wsh a k k y := by
  unfold wshTo
  split
  · exact wsh_same a k y
  · rfl
theorem wshTo_bit (a : (Nat → Nat → Bool)) (k i y : Nat) : wshTo a k i i y = wsh a k i y := by
  unfold wshTo
  rw [if_neg (Nat.lt_irrefl _)]
theorem wshTo_no {a : (Nat → Nat → Bool)} {k i : Nat} (h : wsh a k i k = false) (x y : Nat) : wshTo a k i x y = wshTo a k (i + 1) x y := by
  unfold wshTo
  by_cases e : x = i
  · subst e
    rw [if_neg (Nat.lt_irrefl _), if_pos (by omega), wsh_at, h, Bool.false_and, Bool.or_false]
  · by_cases h1 : x < i
    · rw [if_pos h1, if_pos (by omega)]
    · rw [if_neg h1, if_neg (by omega)]
theorem wshTo_yes {a : (Nat → Nat → Bool)} {k i : Nat} (h : wsh a k i k = true) (x y : Nat) : (if x = i then (wshTo a k i i y || wshTo a k i k y) else wshTo a k i x y) = wshTo a k (i + 1) x y := by
  by_cases e : x = i
  · subst e
    rw [if_pos rfl, wshTo_bit, wshTo_at]
    unfold wshTo
    rw [if_pos (by omega), wsh_at, h, Bool.true_and]
  · rw [if_neg e]
    unfold wshTo
    by_cases h1 : x < i
    · rw [if_pos h1, if_pos (by omega)]
    · rw [if_neg h1, if_neg (by omega)]
set_option maxHeartbeats 8000000 in
set_option maxRecDepth 100000 in
theorem relPlus_any (v : Value) (n : Nat) (A : (Nat → Nat → Bool)) (w : World) (hn : 0 < n ∧ n ≤ 12) (hv : RelR w v n A) :
    Calls Tryz.prog 213 #[v] w fun e w' => ∃ ao cap, e = .returned (.slice ao n cap) ∧ RelO w' w.heap.size (.slice ao n cap) n (wsh A n) ∧ Fr w w' := by
  obtain ⟨ao, cap, rfl, hnil⟩ := RdS.val hv
  clear hnil
  have CC := Lib.hid (cloneRel_any _ n A w hn hv)
  obtain ⟨hn0, hn1⟩ := hn
  clear hv
  go_enter Tryz.func213, Tryz.ntmps213
  go_wp2_with fail
  refine CC.out.mono ?_
  rintro e w1 ⟨ac, cc, rfl, h1, hf1⟩
  obtain ⟨g, cap', hv, hg1, hg2, _, _⟩ := h1.one hn0
  cases hv
  have HO := Lib.hid h1
  clear h1 CC
  go_wp2_with fail
  go_loopw [4, 5, 10, 13, 14, 15] (fun _ _ i _ _ _ wr => ∃ k : Nat, k ≤ n ∧ i = .int .i64 k ∧ Hid (RelO wr w.heap.size (.slice (some ⟨g, 0, none⟩) n cc) n (wsh A k)) ∧ Fr w wr) (fun _ _ i _ _ _ _ => n - (intOf i).toNat)
  case atStart => exact ⟨0, Nat.zero_le _, rfl, HO, hf1⟩
  case round =>
    clear HO hf1 hg2
    obtain ⟨k, hk, rfl, ho, hfr⟩ := hrel
    by_cases hlt : k < n
    · go_wp2_with fail
      go_loopw [5, 15] (fun _ i wr => ∃ m : Nat, m ≤ n ∧ i = .int .i64 m ∧ Hid (RelO wr w.heap.size (.slice (some ⟨g, 0, none⟩) n cc) n (wshTo A k m)) ∧ Fr w wr) (fun _ i _ => n - (intOf i).toNat)
      case atStart => exact ⟨0, Nat.zero_le _, rfl, Lib.hid (ho.out.congr fun i hi => by funext j; simp [wshTo]), hfr⟩
      case round =>
        clear ho hfr
        obtain ⟨m, hm, rfl, ho, hfr⟩ := hrel
        have zr := hfr.size
        by_cases hmt : m < n
        · obtain ⟨g', cap2, hv, hg1', hg2, hc, hz⟩ := ho.out.one hn0
          cases hv
          have c1 := hc m hmt
          have c2 := hc k hlt
          have z1 := hz m
          have hbit := bN_bit (wshTo A k m m) k (by omega)
          rw [wshTo_bit] at hbit
          clear hc hz
          by_cases hp : wsh A k m k = true
          · rw [if_pos hp] at hbit
            have hor := bN_or (wshTo A k m m) (wshTo A k m k)
            have ho2 : Hid (∀ wq, Fr wr wq → RelO (wq.setCell ⟨g, m, none⟩ (.int .u32 (bN (fun j => wshTo A k m m j || wshTo A k m k j) : Int))) w.heap.size (.slice (some ⟨g, 0, none⟩) n cc) n (wshTo A k (m + 1))) := Lib.hid fun wq hq => (RelO.set (ho.out.fr hq) m _).congr fun i hi => by
              funext j
              have := wshTo_yes hp i j
              by_cases e : i = m
              · simp only [if_pos e] at this ⊢
                exact this
              · simp only [if_neg e] at this ⊢
                exact this
            clear ho hp
            go_wp2_with fail
            go_region
            all_goals
              go_wp2_with fail
              go_roundw
              case rel => exact ⟨m + 1, by omega, by go_num, by (refine Lib.hid (ho2.out _ ?_); repeat (first | (with_reducible exact Fr.refl _) | (with_reducible assumption) | (with_reducible refine Fr.drewN ?_ _) | (with_reducible refine Fr.drew ?_) | (with_reducible refine Fr.alloc ?_ _) | (with_reducible refine Fr.setCell ?_ (by exact Qz) _) | (with_reducible refine Fr.trans ?_ (by with_reducible assumption)))), by exact Qf⟩
              case measure => (simp [intOf]; omega)
          · have hp2 : wsh A k m k = false := by simpa using hp
            rw [if_neg hp] at hbit
            have ho2 : Hid (RelO wr w.heap.size (.slice (some ⟨g, 0, none⟩) n cc) n (wshTo A k (m + 1))) := Lib.hid (ho.out.congr fun i hi => by funext j; exact wshTo_no hp2 i j)
            clear ho hp hp2
            go_wp2_with fail
            go_roundw
            case rel => exact ⟨m + 1, by omega, by go_num, ho2, hfr⟩
            case measure => (simp [intOf]; omega)
        · obtain rfl : m = n := by omega
          have ho2 : Hid (RelO wr w.heap.size (.slice (some ⟨g, 0, none⟩) m cc) m (wsh A (k + 1))) := Lib.hid (ho.out.congr fun i hi => by funext j; simp [wshTo, hi])
          clear ho
          go_wp2_with fail
          go_roundw
          case rel => exact ⟨k + 1, by omega, by go_num, ho2, hfr⟩
          case measure => (simp [intOf]; omega)
    · obtain rfl : k = n := by omega
      go_wp2_with fail
      go_ret
      exact ⟨_, _, rfl, ho.out, hfr⟩
end Go.Proofs.YtmdgdnkllclpcaaGreat

/- The occurrences of a path: the program's state, connect. Conditions: bounds on what is held. -/
namespace Go.Proofs.YtmdgdnkllclpcaaGreat
open Go.RowKit
set_option linter.unusedVariables false
set_option linter.unusedSimpArgs false
/-- What a call on the occurrences may turn: their box, their two rows. -/
def PB (b : Nat) (lv fv : Value) (i : Nat) : Prop := i = b ∨ lv.ownBlock = some i ∨ fv.ownBlock = some i
/-- What follows what lies among the occurrences met. -/
def StOk (s : StD) : Prop := ∀ i j, s.fol i j = true → i < s.labs.length ∧ j < s.labs.length
theorem StOk.glu {s : StD} {r : StD × SpD} {n : Nat} (h : StOk s) (k : GluOk s r n) : StOk r.1 := fun i j hij => by
  have := k.len
  rcases k.fol i j hij with q | q
  · have := h i j q; omega
  · omega
theorem rCells_more {n : Nat} {R : Nat → Nat → Bool} (h : ∀ j, R n j = false) : rCells n R ++ [.int .u32 0] = rCells (n + 1) R := by
  unfold rCells
  rw [List.range_succ, List.map_append, List.map_singleton, show R n = (fun _ => false) from funext h, bN_no]
structure PosSt (w : World) (b lo : Nat) (pv lv fv : Value) (s : StD) : Prop where
  box : Box w b #[pv, lv, fv] 251
  labs : BytesO w lo lv s.labs
  fol : RelO w lo fv s.labs.length s.fol
  ap : Apart lv fv
  nl : lv.ownBlock ≠ some b
  nf : fv.ownBlock ≠ some b
theorem PosSt.fr {w w' : World} {b lo : Nat} {pv lv fv : Value} {s : StD} (h : PosSt w b lo pv lv fv s) (hf : Fr w w') : PosSt w' b lo pv lv fv s :=
  ⟨h.box.fr hf, owns_fr h.labs hf, h.fol.fr hf, h.ap, h.nl, h.nf⟩
theorem PosSt.congr {w : World} {b lo : Nat} {pv lv fv : Value} {s s' : StD} (h : PosSt w b lo pv lv fv s) (h1 : s.labs = s'.labs) (h2 : ∀ i, i < s.labs.length → s.fol i = s'.fol i) : PosSt w b lo pv lv fv s' :=
  ⟨h.box, h1 ▸ h.labs, h1 ▸ (h.fol.congr h2), h.ap, h.nl, h.nf⟩
theorem PosSt.set {w : World} {b lo : Nat} {pv lv fv : Value} {s : StD} (h : PosSt w b lo pv lv fv s) {p : Addr} (h1 : b ≠ p.block) (h2 : lv.ownBlock ≠ some p.block) (h3 : fv.ownBlock ≠ some p.block) (v : Value) : PosSt (w.setCell p v) b lo pv lv fv s :=
  ⟨h.box.other h1 v, owns_far h.labs h2 v, owns_far h.fol h3 v, h.ap, h.nl, h.nf⟩
theorem PosSt.set3 {w : World} {b lo : Nat} {pv lv fv : Value} {s : StD} (h : PosSt w b lo pv lv fv s) {c : Nat} (h1 : b ≠ c) (h2 : lv.ownBlock ≠ some c) (h3 : fv.ownBlock ≠ some c) (u v x : Value) : PosSt (((w.setCell ⟨c, 0, none⟩ u).setCell ⟨c, 1, none⟩ v).setCell ⟨c, 2, none⟩ x) b lo pv lv fv s :=
  ((h.set (p := ⟨c, 0, none⟩) h1 h2 h3 u).set (p := ⟨c, 1, none⟩) h1 h2 h3 v).set (p := ⟨c, 2, none⟩) h1 h2 h3 x
theorem PB.back {n : Nat} {b : Nat} {lv fv lv' fv' : Value} (h1 : Mvd n lv lv') (h2 : Mvd n fv fv') : ∀ i, i < n → PB b lv' fv' i → PB b lv fv i := by
  rintro i hi (h | h | h)
  · exact .inl h
  · exact .inr (.inl (h1.old h hi))
  · exact .inr (.inr (h2.old h hi))
theorem PosSt.lo_ {w : World} {b lo : Nat} {pv lv fv : Value} {s : StD} (h : PosSt w b lo pv lv fv s) (hb : lo ≤ b) : ∀ i, i < lo → ¬ PB b lv fv i := by
  rintro i hi (e | e | e)
  · omega
  · have := (World.ownsRow.lt h.labs i e).1; omega
  · have := (World.ownsRow.lt h.fol i e).1; omega
theorem PosSt.old {w : World} {b lo : Nat} {pv lv fv : Value} {s : StD} (h : PosSt w b lo pv lv fv s) : ∀ i, PB b lv fv i → i < w.heap.size := by
  rintro i (e | e | e)
  · have := h.box.lt; omega
  · exact owns_old h.labs i e
  · exact owns_old h.fol i e
def folK (fol : Nat → Nat → Bool) (l f : Nat → Bool) (k : Nat) : Nat → Nat → Bool := fun i j => fol i j || (decide ((i : Int) ∈ (reachL 32 l).take k) && f j)
theorem folK_zero (fol : Nat → Nat → Bool) (l f : Nat → Bool) : folK fol l f 0 = fol := by funext i j; simp [folK]
theorem folK_step {fol : Nat → Nat → Bool} {l f : Nat → Bool} {k m : Nat} (hk : k < (reachL 32 l).length) (hm : iAt (reachL 32 l) k = (m : Int)) (i : Nat) : folK fol l f (k + 1) i = if i = m then (fun j => folK fol l f k m j || f j) else folK fol l f k i := by
  have e : (reachL 32 l)[k] = (m : Int) := by rw [← hm]; simp [iAt, List.getD, List.getElem?_eq_getElem hk]
  funext j
  unfold folK
  rw [List.take_succ_eq_append_getElem hk, e]
  by_cases hi : i = m
  · subst hi
    rw [if_pos rfl]
    simp only [List.mem_append, List.mem_singleton, or_true, decide_true, Bool.true_and]
    cases fol i j <;> cases f j <;> simp
  · rw [if_neg hi]
    simp only [List.mem_append, List.mem_singleton, Int.natCast_inj, hi, or_false]
theorem folK_all {fol : Nat → Nat → Bool} {l f : Nat → Bool} (hl : ∀ j, l j = true → j < 32) : folK fol l f (reachL 32 l).length = folJ fol l f := by
  funext i j
  unfold folK folJ
  rw [List.take_length]
  congr 2
  rw [Bool.eq_iff_iff, decide_eq_true_eq, mem_reachL]
  constructor
  · rintro ⟨k, h1, _, h2⟩
    obtain rfl : i = k := by omega
    exact h2
  · intro h
    exact ⟨i, rfl, hl i h, h⟩
theorem reachL_get {n : Nat} {l : Nat → Bool} {k : Nat} (hk : k < (reachL n l).length) : ∃ m : Nat, iAt (reachL n l) k = (m : Int) ∧ m < n ∧ l m = true := by
  have e : iAt (reachL n l) k = (reachL n l)[k] := by simp [iAt, List.getD, List.getElem?_eq_getElem hk]
  obtain ⟨m, h1, h2, h3⟩ := mem_reachL.1 (List.getElem_mem hk)
  exact ⟨m, e.trans h1, h2, h3⟩
set_option maxHeartbeats 4000000 in
set_option maxRecDepth 100000 in
theorem connect_any (b lo : Nat) (pv lv fv : Value) (s : StD) (l f : Nat → Bool) (w : World) (h : PosSt w b lo pv lv fv s) (hl : ∀ j, l j = true → j < s.labs.length) (hn : s.labs.length ≤ 24) :
    Calls Tryz.prog 214 #[.pointer (some ⟨b, 0, none⟩), .int .u32 (bN l : Int), .int .u32 (bN f : Int)] w fun e w' => e = .returned (.tuple #[]) ∧ PosSt w' b lo pv lv fv ⟨s.labs, folJ s.fol l f⟩ ∧ Tch (PB b lv fv) w w' := by
  have HL := Lib.hid hl
  have HS := Lib.hid h
  clear hl h
  go_enter Tryz.func214, Tryz.ntmps214
  go_wp2_with (go_at_call 157; refine (bitsIn_any l _).mono ?_; rintro e w1 ⟨az, cz, rfl, ho, hf1⟩)
  have hrl := reachL_len 32 l
  have HO := Lib.hid (IntsO.fr ho (Fr.refl w1))
  have S1 := Lib.hid ((HS.out.fr hf1).congr (s' := ⟨s.labs, folK s.fol l f 0⟩) rfl (fun i _ => by rw [folK_zero]))
  have zw := hf1.size
  clear ho
  go_loopw [7, 11] (fun _ i wr => ∃ k : Nat, k ≤ (reachL 32 l).length ∧ i = .int .i64 k ∧ Hid (IntsO wr w.heap.size (.slice az (reachL 32 l).length cz) (reachL 32 l)) ∧ Hid (PosSt wr b lo pv lv fv ⟨s.labs, folK s.fol l f k⟩) ∧ Tch (PB b lv fv) w wr) (fun _ i _ => (reachL 32 l).length - (intOf i).toNat)
  case atStart => exact ⟨0, Nat.zero_le _, rfl, HO, S1, Tch.of_fr hf1⟩
  case round =>
    clear HO S1 hf1 zw
    obtain ⟨k, hk, rfl, HO, HP, ht⟩ := hrel
    have zr := ht.size
    by_cases hlt : k < (reachL 32 l).length
    · obtain ⟨m, hm, hm32, hlm⟩ := reachL_get hlt
      have hmn := HL.out m hlm
      obtain ⟨az', bz, oz, cz', hv, hcz, hmz, fz⟩ := (IntsO.rd HO.out).one
      cases hv
      obtain ⟨rfl, hbz, fz⟩ := fz (by omega)
      have c0 := fz k hlt
      rw [hm] at c0
      obtain ⟨g, cap, hv, hg1, hg2, hc, hz⟩ := HP.out.fol.one (by show 0 < s.labs.length; omega)
      have hgw : g < w.heap.size := owns_old HS.out.fol g (by rw [hv]; rfl)
      have hgb : g ≠ b := fun e => HP.out.nf (by rw [hv, e]; rfl)
      have hzg : bz ≠ g := by have := (World.ownsRow.lt HO.out bz rfl).1; omega
      subst hv
      have c1 := hc m hmn
      have z1 := hz m
      have hor := bN_or (folK s.fol l f k m) f
      have FB := HP.out.box.facts
      have HP2 : Hid (PosSt (wr.setCell ⟨g, m, none⟩ (.int .u32 (bN (fun j => folK s.fol l f k m j || f j) : Int))) b lo pv lv (.slice (some ⟨g, 0, none⟩) s.labs.length cap) ⟨s.labs, folK s.fol l f (k + 1)⟩) := Lib.hid
        ⟨HP.out.box.other (by show b ≠ g; omega) _, owns_far HP.out.labs (fun e => HP.out.ap g e rfl) _, (RelO.set HP.out.fol m _).congr fun i hi => (folK_step hlt hm i).symm, HP.out.ap, HP.out.nl, HP.out.nf⟩
      have HO2 : Hid (IntsO (wr.setCell ⟨g, m, none⟩ (.int .u32 (bN (fun j => folK s.fol l f k m j || f j) : Int))) w.heap.size (.slice (some ⟨bz, oz, none⟩) (reachL 32 l).length cz) (reachL 32 l)) := Lib.hid (owns_set HO.out hgw _)
      have ht2 : Tch (PB b lv (.slice (some ⟨g, 0, none⟩) s.labs.length cap)) w (wr.setCell ⟨g, m, none⟩ (.int .u32 (bN (fun j => folK s.fol l f k m j || f j) : Int))) := ht.set (p := ⟨g, m, none⟩) (.inl (.inr (.inr rfl))) _
      have HT2 := Lib.hid ht2
      clear hc hz HO HP hm hlm ht ht2 fz
      go_wp2_with fail
      go_roundw
      case rel => exact ⟨k + 1, by omega, by go_num, HO2, HP2, HT2.out⟩
      case measure => (simp [intOf]; omega)
    · obtain rfl : k = (reachL 32 l).length := by omega
      go_wp2_with fail
      go_end0
      exact ⟨rfl, HP.out.congr rfl (fun i _ => by rw [folK_all (fun j hj => by have := HL.out j hj; omega)]), ht⟩
end Go.Proofs.YtmdgdnkllclpcaaGreat

/- The occurrences of a path: visit. Conditions: bounds on what is held. -/
namespace Go.Proofs.YtmdgdnkllclpcaaGreat
open Go.RowKit
set_option linter.unusedVariables false
set_option linter.unusedSimpArgs false
def spV (y : SpD) : Value := .agg #[.int .u32 (bN y.first : Int), .int .u32 (bN y.last : Int), .bool y.null]
/-- What a call of visit leaves behind. -/
def VisQ (b lo : Nat) (pv lv fv : Value) (r : StD × SpD) (w : World) (e : Ending) (w' : World) : Prop :=
  e = .returned (.agg #[.int .u32 (bN r.2.first : Int), .int .u32 (bN r.2.last : Int), .bool r.2.null]) ∧ ∃ lv' fv', PosSt w' b lo pv lv' fv' r.1 ∧ Tch (PB b lv fv) w w' ∧ Mvd w.heap.size lv lv' ∧ Mvd w.heap.size fv fv'
def VisC (ps : List PieceD) (w0 : World) (pv : Value) (f : Nat) : Prop := ∀ (b p : Nat) (s : StD) (lv fv : Value) (w : World), Fr w0 w → w0.heap.size ≤ b → PosSt w b w0.heap.size pv lv fv s → StOk s → p < f → p < ps.length → s.labs.length + occA ps p ≤ 23 →
  Calls Tryz.prog 196 #[.pointer (some ⟨b, 0, none⟩), .int .i64 (p : Int)] w fun e w' => VisQ b w0.heap.size pv lv fv (glu ps f p s) w e w'
theorem info_u8 : (Tryz.prog.info? 5).map (fun i => (i.zero, i.size, i.bytes)) = some (some (.int .u8 0), 1, 1) := by kernel_rfl
/-- The cells of a piece that stood. -/
theorem piece_cells {ps : List PieceD} {w0 w : World} {pv : Value} {p : Nat} (hv : PiecesR w0 pv ps) (hf : Fr w0 w) (hp : p < ps.length) :
    ∃ b o cap a ba oa ca, pv = .slice (some ⟨b, o, none⟩) ps.length cap ∧ ps.length ≤ cap ∧ cap ≤ 9223372036854775807 ∧ b < w0.heap.size ∧ w.cell? ⟨b, o + p * 3, none⟩ = some (.int .i64 (nAt ps p).f0) ∧ w.cell? ⟨b, o + p * 3 + 1, none⟩ = some (.int .u8 ((nAt ps p).f1.toNat : Int)) ∧ w.cell? ⟨b, o + p * 3 + 2, none⟩ = some (.slice a (nAt ps p).f2.length ca) ∧ (nAt ps p).f2.length ≤ ca ∧ ca ≤ 9223372036854775807 ∧
      Hid (0 < (nAt ps p).f2.length → a = some ⟨ba, oa, none⟩ ∧ ba < w0.heap.size ∧ ∀ k, k < (nAt ps p).f2.length → w0.cell? ⟨ba, oa + k, none⟩ = some (.int .i64 (iAt (nAt ps p).f2 k))) := by
  obtain ⟨ao, b, o, cap, h1, h2, h3, h4⟩ := hv.one
  obtain ⟨rfl, hb, h4⟩ := h4 (by omega)
  obtain ⟨va, hva, g0, g1, g2⟩ := h4 p hp
  obtain ⟨a, ba, oa, ca, rfl, e1, e2, e3⟩ := hva.one
  exact ⟨b, o, cap, a, ba, oa, ca, h1, h2, h3, hb, (hf.cell (p := ⟨b, _, none⟩) hb).trans g0, (hf.cell (p := ⟨b, _, none⟩) hb).trans g1, (hf.cell (p := ⟨b, _, none⟩) hb).trans g2, e1, e2, Lib.hid e3⟩
set_option maxHeartbeats 8000000 in
set_option maxRecDepth 100000 in
theorem vis_step {ps : List PieceD} (hp : pathB ps = true) {w0 : World} {pv : Value} (hv : PiecesR w0 pv ps) (f b p : Nat) (s : StD) (lv fv : Value) (w : World) (hf0 : Fr w0 w) (h : PosSt w b w0.heap.size pv lv fv s) (hok : StOk s) (hl : p < ps.length) (hn : s.labs.length ≤ 22) (h1 : (nAt ps p).f0 = 1) :
    Calls Tryz.prog 196 #[.pointer (some ⟨b, 0, none⟩), .int .i64 (p : Int)] w fun e w' => VisQ b w0.heap.size pv lv fv (glu ps (f + 1) p s) w e w' := by
  have hx := (pathB_out hp).2 p hl
  have hps := (pathB_out hp).1
  have hx2 := pieceB_step hx h1
  obtain ⟨bq, oq, cq, a, ba, oa, ca, rfl, hcq, hcm, hbq, c0, c1, c2, hca, hcam, HK⟩ := piece_cells hv hf0 hl
  have HG : Hid (glu ps (f + 1) p s = (⟨s.labs ++ [(nAt ps p).f1], s.fol⟩, ⟨oneB s.labs.length, oneB s.labs.length, false⟩)) := Lib.hid (by rw [glu]; simp only []; rw [if_pos h1])
  rw [HG.out]
  obtain ⟨x, hxx⟩ : ∃ x, nAt ps p = x := ⟨_, rfl⟩
  rw [hxx] at h1 hx2 c0 c1 c2 hca HK ⊢
  clear hxx hx HG
  obtain ⟨x0, x1, x2⟩ := x
  simp only [] at h1 hx2 c0 c1 c2 hca HK ⊢
  subst h1 hx2
  have hxl := x1.toNat_lt
  obtain ⟨al, cl, rfl⟩ : ∃ al cl, lv = .slice al s.labs.length cl := owns_val h.labs
  obtain ⟨af, cf, rfl⟩ := RelO.val h.fol
  have HP := Lib.hid h
  have zb := h.box.lt
  have HRM := Lib.hid (rCells_more (n := s.labs.length) (R := s.fol) fun j => by
    cases hc : s.fol s.labs.length j
    · rfl
    · have := hok _ _ hc; omega)
  clear hok
  have hb1 : b ≠ w.heap.size := by omega
  have hb2 : b ≠ w.heap.size + 1 := by omega
  have hb3 : w.heap.size ≠ b := by omega
  have hb4 : b ≠ w.heap.size + 1 + 1 := by omega
  have hb5 : b < w.heap.size + 1 := by omega
  have hb6 : b < w.heap.size + 1 + 1 := by omega
  have zf0 := hf0.size
  have hbqw : bq < w.heap.size := by omega
  have F := h.box.facts
  have HLB : Hid (w.ownsRow w0.heap.size 5 1 (.slice al s.labs.length cl) s.labs.length ((nums s.labs).map (Value.int .u8))) := Lib.hid h.labs
  have HFO : Hid (w.ownsRow w0.heap.size 192 1 (.slice af s.labs.length cf) s.labs.length (rCells s.labs.length s.fol)) := Lib.hid h.fol
  have HR0 : Hid (Box (w.alloc (.cells #[.int .u32 0, .int .u32 0, .bool false] 253)) w.heap.size #[.int .u32 0, .int .u32 0, .bool false] 253) := Lib.hid (Box.new _ _ _)
  have hwl : IntKind.i64.wrap ((s.labs.length : Int) + 1 - 1) = (s.labs.length : Int) := by rw [show (s.labs.length : Int) + 1 - 1 = s.labs.length by omega]; exact IntWalk.i64_in _ (by omega)
  have hone := bN_one s.labs.length (by omega)
  have hone2 : IntKind.u32.wrap (2 ^ s.labs.length) = (bN (oneB s.labs.length) : Int) := by rw [← Int.one_mul (2 ^ s.labs.length), hone]; rfl
  clear h hone
  obtain ⟨i0, hi, hz0, hz1, hz2⟩ := info_parts info_u8
  obtain ⟨i4, hj, hy0, hy1, hy2⟩ := info_parts info_u32
  go_enter Tryz.func196, Tryz.ntmps196
  go_wp2_with fail
  go_region_law ((refine step_append_rd (by rfl) _ _ 215 (by rfl) w0.heap.size 5 i0 (.int .u8 0) 1 1 Tryz.underlying215 hi hz0 hz1 hz2 rfl (by decide) (.slice al s.labs.length cl) s.labs.length ((nums s.labs).map (Value.int .u8)) (by rfl) (by exact owns_lo (owns_ab HLB.out (by exact Qa)) (by exact Qz)) _ 1 [.int .u8 (x1.toNat : Int)] (by rfl) (RdS.drew (RdS.new (by first | rfl | (simp; done)) rfl)) (by simp [Value.oneCell']) (by unfold maxLen; omega) (by omega) (by exact Qz) ?_; intro ay cy w9 hown hgrow hat; have hB9 : Box w9 b _ _ := Box.gr (Box.fr HP.out.box (by exact Qf)) hgrow (fun e => HP.out.nl e); have HF9 : Hid (w9.ownsRow w0.heap.size 192 1 (.slice af s.labs.length cf) s.labs.length (rCells s.labs.length s.fol)) := Lib.hid (World.ownsRow.kept (owns_fr HFO.out (by exact Qf)) hgrow (Apart.ne (Apart.symm' HP.out.ap))); have hR9 : Box w9 w.heap.size _ _ := Box.gr (Box.fr HR0.out (by exact Qf)) hgrow (fun e => by have := owns_old HLB.out _ e; omega); have T9 : Hid (Tch (PB b (.slice al s.labs.length cl) (.slice af s.labs.length cf)) w w9) := Lib.hid (Tch.trans (Tch.of_fr (by exact Qf)) (Tch.of_gr hgrow (fun i e => .inr (.inl e)))); have m1 := Mvd.of_app (n := w.heap.size + 1 + 1) hat (by exact Qz); have M1 := Lib.hid m1; have F9 := hB9.facts; have z9 := hgrow.size; (try simp only [World.size_alloc, World.size_drew] at z9)))
  all_goals
    have hbz9 : b < w9.heap.size := hB9.lt
    have hb9 : b ≠ w9.heap.size := by omega
    have hB10 : Box (w9.setCell ⟨b, 1, none⟩ (.slice ay (s.labs.length + 1) cy)) b #[.slice (some ⟨bq, oq, none⟩) ps.length cq, .slice ay (s.labs.length + 1) cy, .slice af s.labs.length cf] 251 := hB9.set_to (by simp)
    have HF10 : Hid ((w9.setCell ⟨b, 1, none⟩ (.slice ay (s.labs.length + 1) cy)).ownsRow w0.heap.size 192 1 (.slice af s.labs.length cf) s.labs.length (rCells s.labs.length s.fol)) := Lib.hid (owns_far HF9.out (p := ⟨b, 1, none⟩) HP.out.nf _)
    have hyb : (Value.slice ay (s.labs.length + 1) cy).ownBlock ≠ some b := M1.out.ne HP.out.nl (by omega)
    have hyf : Apart (Value.slice ay (s.labs.length + 1) cy) (Value.slice af s.labs.length cf) := M1.out.apart HP.out.ap (fun g e => by have := owns_old HFO.out g e; omega)
    have HY9 : Hid (BytesO w9 w0.heap.size (.slice ay (s.labs ++ [x1]).length cy) (s.labs ++ [x1])) := Lib.hid (by have := BytesO.snoc (b := x1) hown rfl; simpa using this)
    have HY10 : Hid (BytesO (w9.setCell ⟨b, 1, none⟩ (.slice ay (s.labs.length + 1) cy)) w0.heap.size (.slice ay (s.labs ++ [x1]).length cy) (s.labs ++ [x1])) := Lib.hid (owns_far HY9.out (p := ⟨b, 1, none⟩) (by simpa using hyb) _)
    have T10 : Hid (Tch (PB b (.slice al s.labs.length cl) (.slice af s.labs.length cf)) w (w9.setCell ⟨b, 1, none⟩ (.slice ay (s.labs.length + 1) cy))) := Lib.hid (T9.out.set (p := ⟨b, 1, none⟩) (.inl (.inl rfl)) _)
    have hR10 := hR9.other (p := ⟨b, 1, none⟩) hb3 (.slice ay (s.labs.length + 1) cy)
    clear hown hgrow hat m1
    go_wp2_with (at_builtin; refine wpList_append_rd rfl _ _ 204 rfl w0.heap.size 192 i4 (.int .u32 0) 1 4 Tryz.underlying204 hj hy0 hy1 hy2 rfl (by decide) (.slice af s.labs.length cf) s.labs.length (rCells s.labs.length s.fol) rfl (owns_fr HF10.out (by exact Qf)) _ 1 [.int .u32 0] rfl (RdS.new (by first | rfl | (simp; done)) rfl) (by simp [Value.oneCell']) (by unfold maxLen; omega) (by omega) (by exact Qz) ?_; intro az cz w8 hown8 hgrow8 hat8; have hB8 : Box w8 b _ _ := Box.gr (Box.fr hB10 (by exact Qf)) hgrow8 (fun e => HP.out.nf e); have hR8 : Box w8 w.heap.size _ _ := Box.gr (Box.fr hR10 (by exact Qf)) hgrow8 (fun e => by have := owns_old HFO.out _ e; omega); have F8 := hB8.facts; have G8 := hR8.facts)
    have m2 : Mvd w9.heap.size (.slice af s.labs.length cf) (.slice az (s.labs.length + 1) cz) := Mvd.of_app hat8 (by exact Qz)
    have hzb : (Value.slice az (s.labs.length + 1) cz).ownBlock ≠ some b := m2.ne HP.out.nf hbz9
    have hyz : Apart (Value.slice ay (s.labs.length + 1) cy) (Value.slice az (s.labs.length + 1) cz) := Apart.symm' (m2.apart (Apart.symm' hyf) (fun g e => owns_old HY9.out g (by simpa using e)))
    have hrz : ∀ i, i < w.heap.size + 1 + 1 → w.heap.size ≤ i → (Value.slice ay (s.labs.length + 1) cy).ownBlock ≠ some i ∧ (Value.slice az (s.labs.length + 1) cz).ownBlock ≠ some i := fun i h1 h2 => ⟨M1.out.ne (fun e => by have := owns_old HLB.out i e; omega) h1, m2.ne (fun e => by have := owns_old HFO.out i e; omega) (by omega)⟩
    have hk8 : BytesO w8 w0.heap.size (.slice ay (s.labs ++ [x1]).length cy) (s.labs ++ [x1]) := World.ownsRow.kept (owns_fr HY10.out (by exact Qf)) hgrow8 (Apart.ne (by simpa using hyf))
    have T8 : Tch (PB b (.slice al s.labs.length cl) (.slice af s.labs.length cf)) w w8 := (T10.out.fr (by exact Qf)).trans (Tch.of_gr hgrow8 (fun i e => .inr (.inr e)))
    have P8 : PosSt (w8.setCell ⟨b, 2, none⟩ (.slice az (s.labs.length + 1) cz)) b w0.heap.size (.slice (some ⟨bq, oq, none⟩) ps.length cq) (.slice ay (s.labs ++ [x1]).length cy) (.slice az (s.labs ++ [x1]).length cz) ⟨s.labs ++ [x1], s.fol⟩ := by
      refine ⟨?_, owns_far hk8 (p := ⟨b, 2, none⟩) (by simpa using hyb) _, ?_, by simpa using hyz, by simpa using hyb, by simpa using hzb⟩
      · simpa using hB8.set_to (i := 2) (v := .slice az (s.labs.length + 1) cz) rfl
      · rw [HRM.out] at hown8
        have := owns_far hown8 (p := ⟨b, 2, none⟩) hzb (.slice az (s.labs.length + 1) cz)
        simpa [RelO] using this
    have P8 := Lib.hid P8
    have T9' := Lib.hid (T8.set (p := ⟨b, 2, none⟩) (.inl (.inl rfl)) (.slice az (s.labs.length + 1) cz))
    have M2 := Lib.hid m2
    clear m2 hzb hyz hk8 T8 hown8 hgrow8 hat8 hyb hyf
    refine bodyPost_ret (v := .agg #[.int .u32 (bN (oneB s.labs.length) : Int), .int .u32 (bN (oneB s.labs.length) : Int), .bool false]) (by simp [results, Tryz.results196, go_sem, *]) rfl ⟨rfl, .slice ay (s.labs ++ [x1]).length cy, .slice az (s.labs ++ [x1]).length cz, ?_, ?_, ?_, ?_⟩
    · exact P8.out.set3 hb1 (by simpa using (hrz w.heap.size (by omega) (Nat.le_refl _)).1) (by simpa using (hrz w.heap.size (by omega) (Nat.le_refl _)).2) _ _ _
    · exact T9'.out.set3 (.inr (Nat.le_refl _)) _ _ _
    · have := M1.out.mono (m := w.heap.size) (by omega); simpa using this
    · have := M2.out.mono (m := w.heap.size) (by omega); simpa using this
end Go.Proofs.YtmdgdnkllclpcaaGreat
