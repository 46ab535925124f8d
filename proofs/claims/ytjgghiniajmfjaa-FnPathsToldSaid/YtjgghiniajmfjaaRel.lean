/- Relations between the places of a graph, plain: what a path means, by its pieces; again and again, two ways. No condition. -/
import Derived.Test.YtjgghiniajmfjaaPth
namespace Go.Proofs.Ytjgghiniajmfjaa
open Go.RowKit
set_option linter.unusedVariables false
set_option linter.unusedSimpArgs false
def Sup (n : Nat) (a : (Nat → Nat → Bool)) : Prop := ∀ i j, a i j = true → i < n ∧ j < n
def rNo : (Nat → Nat → Bool) := fun _ _ => false
def rId (n : Nat) : (Nat → Nat → Bool) := fun i j => decide (i = j ∧ i < n)
def rComp (n : Nat) (a b : (Nat → Nat → Bool)) : (Nat → Nat → Bool) := fun i j => (List.range n).any fun k => a i k && b k j
def rOr (a b : (Nat → Nat → Bool)) : (Nat → Nat → Bool) := fun i j => a i j || b i j
def wsh (a : (Nat → Nat → Bool)) : Nat → (Nat → Nat → Bool)
  | 0 => a
  | k + 1 => fun i j => wsh a k i j || (wsh a k i k && wsh a k k j)
def rnd (n : Nat) (a : (Nat → Nat → Bool)) : Nat → (Nat → Nat → Bool)
  | 0 => a
  | r + 1 => rOr (rnd n a r) (rComp n (rnd n a r) a)
theorem rl_ext {a b : (Nat → Nat → Bool)} (h : ∀ i j, a i j = true ↔ b i j = true) : a = b := by
  funext i j
  exact Bool.eq_iff_iff.2 (h i j)
theorem rComp_iff {n : Nat} {a b : (Nat → Nat → Bool)} {i j : Nat} : rComp n a b i j = true ↔ ∃ k, k < n ∧ a i k = true ∧ b k j = true := by
  unfold rComp
  simp [List.any_eq_true, List.mem_range]
theorem rOr_iff {a b : (Nat → Nat → Bool)} {i j : Nat} : rOr a b i j = true ↔ a i j = true ∨ b i j = true := by
  unfold rOr
  simp
theorem rId_iff {n i j : Nat} : rId n i j = true ↔ i = j ∧ i < n := by
  unfold rId
  simp
theorem wsh_succ_iff {a : (Nat → Nat → Bool)} {k i j : Nat} : wsh a (k + 1) i j = true ↔ wsh a k i j = true ∨ (wsh a k i k = true ∧ wsh a k k j = true) := by
  rw [wsh]
  simp
theorem sup_no (n : Nat) : Sup n rNo := fun i j h => by cases h
theorem sup_dflt (n : Nat) : Sup n (default : Nat → Nat → Bool) := fun i j h => by cases h
theorem sup_id (n : Nat) : Sup n (rId n) := fun i j h => by rw [rId_iff] at h; omega
theorem sup_or {n : Nat} {a b : (Nat → Nat → Bool)} (ha : Sup n a) (hb : Sup n b) : Sup n (rOr a b) := fun i j h => by
  rcases rOr_iff.1 h with h | h
  · exact ha _ _ h
  · exact hb _ _ h
theorem sup_comp {n : Nat} {a b : (Nat → Nat → Bool)} (ha : Sup n a) (hb : Sup n b) : Sup n (rComp n a b) := fun i j h => by
  obtain ⟨k, hk, h1, h2⟩ := rComp_iff.1 h
  exact ⟨(ha _ _ h1).1, (hb _ _ h2).2⟩
theorem sup_wsh {n : Nat} {a : (Nat → Nat → Bool)} (ha : Sup n a) : ∀ k, Sup n (wsh a k)
  | 0 => ha
  | k + 1 => fun i j h => by
    rcases wsh_succ_iff.1 h with h | ⟨h1, h2⟩
    · exact sup_wsh ha k _ _ h
    · exact ⟨(sup_wsh ha k _ _ h1).1, (sup_wsh ha k _ _ h2).2⟩
theorem id_comp {n : Nat} {a : (Nat → Nat → Bool)} (ha : Sup n a) : rComp n (rId n) a = a := by
  refine rl_ext fun i j => ?_
  rw [rComp_iff]
  constructor
  · rintro ⟨k, hk, h1, h2⟩
    rw [rId_iff] at h1
    rw [h1.1]
    exact h2
  · intro h
    exact ⟨i, (ha _ _ h).1, rId_iff.2 ⟨rfl, (ha _ _ h).1⟩, h⟩
theorem no_or (a : (Nat → Nat → Bool)) : rOr rNo a = a := rl_ext fun i j => by rw [rOr_iff]; exact ⟨fun h => h.resolve_left (by intro h; cases h), .inr⟩
/-! ### again and again -/
theorem wsh_mono {a : (Nat → Nat → Bool)} {i j : Nat} : ∀ {k : Nat}, a i j = true → wsh a k i j = true
  | 0, h => h
  | k + 1, h => wsh_succ_iff.2 (.inl (wsh_mono h))
theorem wsh_through {a : (Nat → Nat → Bool)} : ∀ (k : Nat) {i m j : Nat}, m < k → wsh a k i m = true → wsh a k m j = true → wsh a k i j = true
  | 0, _, _, _, h, _, _ => absurd h (by omega)
  | k + 1, i, m, j, hm, h1, h2 => by
    rw [wsh_succ_iff] at h1 h2 ⊢
    rcases Nat.lt_or_ge m k with hk | hk
    · have T := @wsh_through a k
      rcases h1 with h1 | ⟨h1, h1'⟩
      · rcases h2 with h2 | ⟨h2, h2'⟩
        · exact .inl (T hk h1 h2)
        · exact .inr ⟨T hk h1 h2, h2'⟩
      · rcases h2 with h2 | ⟨h2, h2'⟩
        · exact .inr ⟨h1, T hk h1' h2⟩
        · exact .inr ⟨h1, h2'⟩
    · obtain rfl : m = k := by omega
      have e1 : wsh a m i m = true := by
        rcases h1 with h1 | ⟨h1, _⟩
        · exact h1
        · exact h1
      have e2 : wsh a m m j = true := by
        rcases h2 with h2 | ⟨_, h2⟩
        · exact h2
        · exact h2
      exact .inr ⟨e1, e2⟩
theorem wsh_step {n : Nat} {a : (Nat → Nat → Bool)} (ha : Sup n a) {i k j : Nat} (h1 : wsh a n i k = true) (h2 : a k j = true) : wsh a n i j = true :=
  wsh_through n (ha _ _ h2).1 h1 (wsh_mono h2)
/-- The least of what holds a and goes on by a. -/
theorem wsh_least {a c : (Nat → Nat → Bool)} (h0 : ∀ i j, a i j = true → c i j = true) (ht : ∀ i k j, c i k = true → c k j = true → c i j = true) : ∀ k i j, wsh a k i j = true → c i j = true
  | 0, i, j, h => h0 i j h
  | k + 1, i, j, h => by
    rcases wsh_succ_iff.1 h with h | ⟨h1, h2⟩
    · exact wsh_least h0 ht k i j h
    · exact ht _ _ _ (wsh_least h0 ht k _ _ h1) (wsh_least h0 ht k _ _ h2)
theorem rnd_sub {n : Nat} {a : (Nat → Nat → Bool)} (ha : Sup n a) : ∀ r i j, rnd n a r i j = true → wsh a n i j = true
  | 0, i, j, h => wsh_mono h
  | r + 1, i, j, h => by
    rcases rOr_iff.1 h with h | h
    · exact rnd_sub ha r i j h
    · obtain ⟨k, hk, h1, h2⟩ := rComp_iff.1 h
      exact wsh_step ha (rnd_sub ha r _ _ h1) h2
def cnt (p : Nat → Bool) : Nat → Nat
  | 0 => 0
  | n + 1 => cnt p n + (if p n then 1 else 0)
theorem cnt_le {p q : Nat → Bool} (h : ∀ x, p x = true → q x = true) : ∀ n, cnt p n ≤ cnt q n
  | 0 => Nat.le_refl _
  | n + 1 => by
    have := cnt_le h n
    rw [cnt, cnt]
    cases hp : p n
    · simp; omega
    · rw [h n hp]; simpa using this
theorem cnt_lt {p q : Nat → Bool} (h : ∀ x, p x = true → q x = true) {x : Nat} (h1 : p x = false) (h2 : q x = true) : ∀ n, x < n → cnt p n < cnt q n
  | 0, hx => absurd hx (by omega)
  | n + 1, hx => by
    rw [cnt, cnt]
    by_cases e : x = n
    · subst e
      rw [h1, h2]
      have := cnt_le h x
      simp
      omega
    · have := cnt_lt h h1 h2 n (by omega)
      cases hp : p n
      · simp; omega
      · rw [h n hp]; simpa using this
theorem cnt_all (n : Nat) : cnt (fun _ => true) n = n := by
  induction n with
  | zero => rfl
  | succ n ih => rw [cnt, ih]; simp
theorem rnd_up {n : Nat} {a : (Nat → Nat → Bool)} {r i j : Nat} (h : rnd n a r i j = true) : rnd n a (r + 1) i j = true := rOr_iff.2 (.inl h)
/-- Row i goes on by a no more, or it has r places. -/
theorem rnd_row {n : Nat} {a : (Nat → Nat → Bool)} (ha : Sup n a) (i : Nat) : ∀ r, (∀ k j, rnd n a r i k = true → a k j = true → rnd n a r i j = true) ∨ r ≤ cnt (rnd n a r i) n
  | 0 => .inr (Nat.zero_le _)
  | r + 1 => by
    rcases rnd_row ha i r with h | h
    · left
      have e : ∀ j, rnd n a (r + 1) i j = true → rnd n a r i j = true := fun j hj => by
        rcases rOr_iff.1 hj with hj | hj
        · exact hj
        · obtain ⟨k, hk, h1, h2⟩ := rComp_iff.1 hj
          exact h k j h1 h2
      exact fun k j h1 h2 => rnd_up (h k j (e k h1) h2)
    · by_cases hc : ∀ k j, rnd n a r i k = true → a k j = true → rnd n a r i j = true
      · left
        have e : ∀ j, rnd n a (r + 1) i j = true → rnd n a r i j = true := fun j hj => by
          rcases rOr_iff.1 hj with hj | hj
          · exact hj
          · obtain ⟨k, hk, h1, h2⟩ := rComp_iff.1 hj
            exact hc k j h1 h2
        exact fun k j h1 h2 => rnd_up (hc k j (e k h1) h2)
      · right
        have : ∃ k j, rnd n a r i k = true ∧ a k j = true ∧ rnd n a r i j = false := by
          refine Classical.byContradiction fun hn => hc fun k j h1 h2 => ?_
          cases hr : rnd n a r i j
          · exact absurd ⟨k, j, h1, h2, hr⟩ hn
          · rfl
        obtain ⟨k, j, h1, h2, h3⟩ := this
        have hlt := cnt_lt (p := rnd n a r i) (q := rnd n a (r + 1) i) (fun x hx => rnd_up hx) h3 (rOr_iff.2 (.inr (rComp_iff.2 ⟨k, (ha _ _ h2).1, h1, h2⟩))) n (ha _ _ h2).2
        omega
theorem rnd_closed {n : Nat} {a : (Nat → Nat → Bool)} (ha : Sup n a) {i k j : Nat} (h1 : rnd n a n i k = true) (h2 : a k j = true) : rnd n a n i j = true := by
  rcases rnd_row ha i n with h | h
  · exact h k j h1 h2
  · cases hr : rnd n a n i j
    · have hlt := cnt_lt (p := rnd n a n i) (q := fun _ => true) (fun x _ => rfl) hr rfl n (ha _ _ h2).2
      rw [cnt_all] at hlt
      omega
    · rfl
theorem rnd_has {n : Nat} {a : (Nat → Nat → Bool)} {i j : Nat} (h : a i j = true) : ∀ r, rnd n a r i j = true
  | 0 => h
  | r + 1 => rnd_up (rnd_has h r)
theorem rnd_trans {n : Nat} {a : (Nat → Nat → Bool)} (ha : Sup n a) : ∀ r {i k j : Nat}, rnd n a n i k = true → rnd n a r k j = true → rnd n a n i j = true
  | 0, i, k, j, h1, h2 => rnd_closed ha h1 h2
  | r + 1, i, k, j, h1, h2 => by
    rcases rOr_iff.1 h2 with h2 | h2
    · exact rnd_trans ha r h1 h2
    · obtain ⟨m, hm, h3, h4⟩ := rComp_iff.1 h2
      exact rnd_closed ha (rnd_trans ha r h1 h3) h4
/-- Both ways mean the same. -/
theorem rnd_wsh {n : Nat} {a : (Nat → Nat → Bool)} (ha : Sup n a) : rnd n a n = wsh a n :=
  rl_ext fun i j => ⟨rnd_sub ha n i j, wsh_least (fun i j h => rnd_has h n) (fun i k j h1 h2 => rnd_trans ha n h1 h2) n i j⟩
/-! ### what a path means -/
def kAt (l : List Int) (k : Nat) : Nat := (iAt l k).toNat
def rowR (n : Nat) (acc : List (Nat → Nat → Bool)) (ks : List Int) : Nat → (Nat → Nat → Bool)
  | 0 => rId n
  | m + 1 => rComp n (rowR n acc ks m) (nAt acc (kAt ks m))
def altR (acc : List (Nat → Nat → Bool)) (ks : List Int) : Nat → (Nat → Nat → Bool)
  | 0 => rNo
  | m + 1 => rOr (altR acc ks m) (nAt acc (kAt ks m))
def stepR (n : Nat) (st : UInt8 → (Nat → Nat → Bool)) (acc : List (Nat → Nat → Bool)) (x : PieceD) : (Nat → Nat → Bool) :=
  if x.f0 = 1 then st x.f1
  else if x.f0 = 2 then rowR n acc x.f2 x.f2.length
  else if x.f0 = 3 then altR acc x.f2 x.f2.length
  else if x.f0 = 4 then rOr (wsh (nAt acc (kAt x.f2 0)) n) (rId n)
  else if x.f0 = 5 then wsh (nAt acc (kAt x.f2 0)) n
  else rOr (nAt acc (kAt x.f2 0)) (rId n)
def denR (n : Nat) (st : UInt8 → (Nat → Nat → Bool)) (ps : List PieceD) : Nat → List (Nat → Nat → Bool)
  | 0 => []
  | i + 1 => denR n st ps i ++ [stepR n st (denR n st ps i) (nAt ps i)]
def endR (n : Nat) (st : UInt8 → (Nat → Nat → Bool)) (ps : List PieceD) : (Nat → Nat → Bool) := nAt (denR n st ps ps.length) (ps.length - 1)
theorem denR_len (n : Nat) (st : UInt8 → (Nat → Nat → Bool)) (ps : List PieceD) : ∀ i, (denR n st ps i).length = i
  | 0 => rfl
  | i + 1 => by rw [denR]; simp [denR_len n st ps i]
theorem nAt_end {α : Type} [Inhabited α] (l : List α) (x : α) {k : Nat} (hk : k = l.length) : nAt (l ++ [x]) k = x := by subst hk; simp [nAt, List.getD]
theorem nAt_front {α : Type} [Inhabited α] (l : List α) (x : α) {k : Nat} (hk : k < l.length) : nAt (l ++ [x]) k = nAt l k := by simp [nAt, List.getD, List.getElem?_append_left hk]
theorem nAt_far {α : Type} [Inhabited α] (l : List α) {k : Nat} (hk : l.length ≤ k) : nAt l k = default := by simp [nAt, List.getD, List.getElem?_eq_none hk]
theorem sup_row {n : Nat} {acc : List (Nat → Nat → Bool)} (h : ∀ k, Sup n (nAt acc k)) (ks : List Int) : ∀ m, Sup n (rowR n acc ks m)
  | 0 => sup_id n
  | m + 1 => sup_comp (sup_row h ks m) (h _)
theorem sup_alt {n : Nat} {acc : List (Nat → Nat → Bool)} (h : ∀ k, Sup n (nAt acc k)) (ks : List Int) : ∀ m, Sup n (altR acc ks m)
  | 0 => sup_no n
  | m + 1 => sup_or (sup_alt h ks m) (h _)
theorem sup_stepR {n : Nat} {st : UInt8 → (Nat → Nat → Bool)} {acc : List (Nat → Nat → Bool)} (hs : ∀ l, Sup n (st l)) (h : ∀ k, Sup n (nAt acc k)) (x : PieceD) : Sup n (stepR n st acc x) := by
  unfold stepR
  split
  · exact hs _
  split
  · exact sup_row h _ _
  split
  · exact sup_alt h _ _
  split
  · exact sup_or (sup_wsh (h _) _) (sup_id n)
  split
  · exact sup_wsh (h _) _
  · exact sup_or (h _) (sup_id n)
theorem sup_den {n : Nat} {st : UInt8 → (Nat → Nat → Bool)} (hs : ∀ l, Sup n (st l)) (ps : List PieceD) : ∀ i k, Sup n (nAt (denR n st ps i) k)
  | 0, k => by rw [denR, nAt_far _ (by simp)]; exact sup_dflt n
  | i + 1, k => by
    rw [denR]
    rcases Nat.lt_trichotomy k i with h | h | h
    · rw [nAt_front _ _ (by rw [denR_len]; exact h)]
      exact sup_den hs ps i k
    · rw [nAt_end _ _ (by rw [denR_len]; exact h)]
      exact sup_stepR hs (sup_den hs ps i) _
    · rw [nAt_far _ (by simp [denR_len]; omega)]
      exact sup_dflt n
theorem sup_end {n : Nat} {st : UInt8 → (Nat → Nat → Bool)} (hs : ∀ l, Sup n (st l)) (ps : List PieceD) : Sup n (endR n st ps) := sup_den hs ps _ _
/-- The vertices that are reached, ascending. -/
def reachL (n : Nat) (p : Nat → Bool) : List Int := ((List.range n).filter p).map fun k : Nat => (k : Int)
theorem reachL_succ (n : Nat) (p : Nat → Bool) : reachL (n + 1) p = if p n = true then reachL n p ++ [(n : Int)] else reachL n p := by
  unfold reachL
  rw [List.range_succ, List.filter_append]
  by_cases h : p n = true
  · simp [h]
  · simp [h]
theorem reachL_more {n m : Nat} {p : Nat → Bool} (h : ∀ k, p k = true → k < n) (hm : n ≤ m) : reachL m p = reachL n p := by
  obtain ⟨d, rfl⟩ : ∃ d, m = n + d := ⟨m - n, by omega⟩
  induction d with
  | zero => rfl
  | succ d ih =>
    rw [show n + (d + 1) = (n + d) + 1 by omega, reachL_succ, if_neg (fun e => by have := h _ e; omega)]
    exact ih (by omega)
theorem reachL_len (n : Nat) (p : Nat → Bool) : (reachL n p).length ≤ n := by
  induction n with
  | zero => simp [reachL]
  | succ n ih =>
    rw [reachL_succ]
    split
    · simp; omega
    · omega
def pairsL (R : (Nat → Nat → Bool)) (m : Nat) : Nat → List (List Int)
  | 0 => []
  | v + 1 => pairsL R m v ++ (reachL m (R v)).map fun w => [(v : Int), w]
theorem pairsL_len (R : (Nat → Nat → Bool)) (m : Nat) : ∀ v, (pairsL R m v).length ≤ v * m
  | 0 => by simp [pairsL]
  | v + 1 => by
    rw [pairsL, List.length_append, List.length_map, Nat.add_mul, Nat.one_mul]
    have := pairsL_len R m v
    have := reachL_len m (R v)
    omega
end Go.Proofs.Ytjgghiniajmfjaa
