/- Bags, plain: rows compared, valid bags, the text of a bag, and the two ways of reading one. No condition. -/
import Derived.Test.YtphjlecbhbcbcaaScan
namespace Go.Proofs.Ytphjlecbhbcbcaa
open Go.RowKit
set_option linter.unusedVariables false
set_option linter.unusedSimpArgs false
def cmpL : List Int → List Int → Int
  | [], [] => 0
  | [], _ :: _ => -1
  | _ :: _, [] => 1
  | a :: l, b :: m => if a < b then -1 else if b < a then 1 else cmpL l m
def rowLt (a b : List Int) : Bool := decide (cmpL a b < 0)
theorem cmpL_range (a b : List Int) : cmpL a b = -1 ∨ cmpL a b = 0 ∨ cmpL a b = 1 := by
  induction a generalizing b with
  | nil => cases b <;> simp [cmpL]
  | cons x l ih =>
    cases b with
    | nil => simp [cmpL]
    | cons y m =>
      rw [cmpL]
      split
      · simp
      · split
        · simp
        · exact ih m
theorem cmpL_eq (a b : List Int) : cmpL a b = 0 ↔ a = b := by
  induction a generalizing b with
  | nil => cases b <;> simp [cmpL]
  | cons x l ih =>
    cases b with
    | nil => simp [cmpL]
    | cons y m =>
      rw [cmpL]
      split
      · simp; omega
      · split
        · simp; omega
        · have : x = y := by omega
          subst this
          simp [ih]
theorem cmpL_step {a b : List Int} {k : Nat} (ha : k < a.length) (hb : k < b.length) {x y : Int} (hx : iAt a k = x) (hy : iAt b k = y) : cmpL (a.drop k) (b.drop k) = if x < y then -1 else if y < x then 1 else cmpL (a.drop (k + 1)) (b.drop (k + 1)) := by
  subst hx hy
  rw [List.drop_eq_getElem_cons ha, List.drop_eq_getElem_cons hb, cmpL]
  simp [iAt, List.getD, List.getElem?_eq_getElem ha, List.getElem?_eq_getElem hb]
theorem cmpL_endA {a b : List Int} {k : Nat} (ha : a.length ≤ k) (hb : k < b.length) : cmpL (a.drop k) (b.drop k) = -1 := by
  rw [List.drop_of_length_le ha, List.drop_eq_getElem_cons hb, cmpL]
theorem cmpL_endB {a b : List Int} {k : Nat} (ha : k < a.length) (hb : b.length ≤ k) : cmpL (a.drop k) (b.drop k) = 1 := by
  rw [List.drop_of_length_le hb, List.drop_eq_getElem_cons ha, cmpL]
theorem cmpL_end {a b : List Int} {k : Nat} (ha : a.length ≤ k) (hb : b.length ≤ k) : cmpL (a.drop k) (b.drop k) = 0 := by
  rw [List.drop_of_length_le hb, List.drop_of_length_le ha, cmpL]

structure ItemD where
  f0 : List Int
  f1 : Int
instance : Inhabited ItemD := ⟨⟨[], 0⟩⟩
def itmAt (l : List ItemD) (k : Nat) : ItemD := l.getD k default
def rowB (l : List Int) : Bool := decide (l.length ≤ 4) && l.all fun v => decide (0 ≤ v ∧ v ≤ 99)
def itemB (x : ItemD) : Bool := rowB x.f0 && decide (1 ≤ x.f1 ∧ x.f1 ≤ 1000000)
def bagK (xs : List ItemD) (k : Nat) : Bool := itemB (itmAt xs k) && (decide (k = 0) || (rowLt (itmAt xs (k - 1)).f0 (itmAt xs k).f0 && decide ((itmAt xs (k - 1)).f0.length = (itmAt xs k).f0.length)))
def bagB (xs : List ItemD) : Bool := decide (xs.length ≤ 300) && (List.range xs.length).all (bagK xs)
theorem bagB_len {xs : List ItemD} (h : bagB xs = true) : xs.length ≤ 300 := by
  unfold bagB at h; rw [Bool.and_eq_true, decide_eq_true_eq] at h; exact h.1
theorem bagB_item {xs : List ItemD} (h : bagB xs = true) {k : Nat} (hk : k < xs.length) : itemB (itmAt xs k) = true := by
  unfold bagB at h
  rw [Bool.and_eq_true, List.all_eq_true] at h
  have := h.2 k (List.mem_range.2 hk)
  unfold bagK at this
  rw [Bool.and_eq_true] at this
  exact this.1
theorem bagB_mem {xs : List ItemD} (h : bagB xs = true) : ∀ x ∈ xs, itemB x = true := by
  intro x hx
  obtain ⟨k, hk, rfl⟩ := List.getElem_of_mem hx
  have := bagB_item h hk
  rwa [itmAt, List.getD, List.getElem?_eq_getElem hk] at this
theorem rowB_no {l : List Int} {k : Nat} (hk : k < l.length) {x : Int} (hx : iAt l k = x) (h : ¬ (0 ≤ x ∧ x ≤ 99)) : rowB l = false := by
  cases hh : rowB l
  · rfl
  · unfold rowB at hh
    rw [Bool.and_eq_true, List.all_eq_true] at hh
    have := hh.2 l[k] (List.getElem_mem hk)
    rw [decide_eq_true_eq] at this
    subst hx
    exact absurd this (by simpa [iAt, List.getD, List.getElem?_eq_getElem hk] using h)
theorem rowB_end {l : List Int} (h : ∀ j, j < l.length → 0 ≤ iAt l j ∧ iAt l j ≤ 99) : rowB l = decide ((l.length : Int) ≤ 4) := by
  unfold rowB
  have : (l.all fun v => decide (0 ≤ v ∧ v ≤ 99)) = true := by
    rw [List.all_eq_true]
    intro v hv
    obtain ⟨k, hk, rfl⟩ := List.getElem_of_mem hv
    have := h k hk
    rw [decide_eq_true_eq]
    simpa [iAt, List.getD, List.getElem?_eq_getElem hk] using this
  rw [this, Bool.and_true, Bool.eq_iff_iff, decide_eq_true_eq, decide_eq_true_eq]
  omega
theorem rng_all {n : Nat} {p : Nat → Bool} (h : ∀ j, j < n → p j = true) : (List.range n).all p = true := by
  rw [List.all_eq_true]; intro x hx; exact h x (by simpa using hx)
theorem rng_not_all {n : Nat} {p : Nat → Bool} {j : Nat} (hj : j < n) (h : p j = false) : (List.range n).all p = false := by
  rw [List.all_eq_false]; exact ⟨j, by simpa using hj, by simpa using h⟩
/-- A quiet call in a second quiet region. -/
theorem quiet2_same {P : Program} {f : FuncId} {args : Array Value} {w : World} {a n : Nat} {v : Value} (h : Calls P f args (w.drewN (a + n)) fun e w' => e = .returned v ∧ w' = w.drewN (a + n)) :
    Calls P f args (w.drewN (a + n)) fun e w'' => e = .returned v ∧ ∃ m, w'' = w.drewN (a + m) := h.mono fun _ _ ⟨he, hm⟩ => ⟨he, n, hm⟩
theorem quiet2 {P : Program} {f : FuncId} {args : Array Value} {w : World} {a n : Nat} {v : Value} (h : Calls P f args (w.drewN (a + n)) fun e w' => e = .returned v ∧ ∃ m, w' = (w.drewN (a + n)).drewN m) :
    Calls P f args (w.drewN (a + n)) fun e w'' => e = .returned v ∧ ∃ m, w'' = w.drewN (a + m) := h.mono fun _ _ ⟨he, m, hm⟩ => ⟨he, n + m, by rw [hm, World.drewN_drewN, Nat.add_assoc]⟩
/-- The bytes of a bag. -/
def rowT (l : List Int) : List UInt8 := l.flatMap fun v => varL v.toNat
def itemT (x : ItemD) : List UInt8 := varL x.f0.length ++ (rowT x.f0 ++ varL x.f1.toNat)
def bagT (xs : List ItemD) : List UInt8 := varL xs.length ++ xs.flatMap itemT

/-! ### reading -/
def rowI (s : ByteArray) : Nat → Sc → List Int × Sc
  | 0, c => ([], c)
  | m + 1, c => ((scVar s c).1 :: (rowI s m (scVar s c).2).1, (rowI s m (scVar s c).2).2)
def rowS (s : ByteArray) : Nat → Sc → List Int × Sc
  | 0, c => ([], c)
  | m + 1, c => if c.bad then ([], c) else ((scVar s c).1 :: (rowS s m (scVar s c).2).1, (rowS s m (scVar s c).2).2)
theorem scVar_bad {s : ByteArray} {c : Sc} (h : c.bad = true) : (scVar s c).2.bad = true := by rw [scVar_no (.inl h)]
theorem rowI_bad {s : ByteArray} : ∀ {m : Nat} {c : Sc}, c.bad = true → (rowI s m c).2.bad = true
  | 0, c, h => h
  | m + 1, c, h => rowI_bad (m := m) (scVar_bad h)
theorem rowS_eq {s : ByteArray} : ∀ {m : Nat} {c : Sc}, (rowS s m c).2.bad = false → rowI s m c = rowS s m c
  | 0, c, _ => rfl
  | m + 1, c, h => by
    have hc : c.bad = false := by
      cases hb : c.bad
      · rfl
      · rw [rowS, if_pos hb] at h; rw [h] at hb; cases hb
    rw [rowS, if_neg (by simp [hc])] at h ⊢
    rw [rowI, rowS_eq h]
theorem rowI_eq {s : ByteArray} : ∀ {m : Nat} {c : Sc}, (rowI s m c).2.bad = false → rowI s m c = rowS s m c
  | 0, c, _ => rfl
  | m + 1, c, h => by
    have hc : c.bad = false := by
      cases hb : c.bad
      · rfl
      · rw [rowI_bad hb] at h; cases h
    rw [rowI] at h ⊢
    rw [rowS, if_neg (by simp [hc]), rowI_eq h]
theorem rowS_bad {s : ByteArray} {m : Nat} {c : Sc} (h : (rowS s m c).2.bad = false) : c.bad = false := by
  cases m with
  | zero => exact h
  | succ m =>
    cases hb : c.bad
    · rfl
    · rw [rowS, if_pos hb] at h; rw [h] at hb; cases hb
theorem drop_bytes {s : ByteArray} {a k : Nat} (h : a + k ≤ s.size) : s.data.toList.drop a = bytesAt s a k ++ s.data.toList.drop (a + k) := by
  unfold bytesAt
  rw [← List.drop_drop, List.take_append_drop]
/-- What was read and not refused are the bytes of what came out. -/
theorem scVar_text {s : ByteArray} {c : Sc} (hc : c.a ≤ s.size) (h : (scVar s c).2.bad = false) : c.bad = false ∧ ∃ n : Nat, (scVar s c).1 = (n : Int) ∧ n ≤ 1000000000 ∧ (scVar s c).2.a ≤ s.size ∧ s.data.toList.drop c.a = varL n ++ s.data.toList.drop (scVar s c).2.a := by
  obtain ⟨h1, n, j, h2, h3, h4, h5⟩ := scVar_read hc h
  rw [h2]
  refine ⟨h1, n, rfl, h4, h3, ?_⟩
  rw [h5]
  exact drop_bytes (k := j + 1) h3
theorem rowS_text {s : ByteArray} : ∀ {m : Nat} {c : Sc}, c.a ≤ s.size → (rowS s m c).2.bad = false → (rowS s m c).1.length = m ∧ (rowS s m c).2.a ≤ s.size ∧ s.data.toList.drop c.a = rowT (rowS s m c).1 ++ s.data.toList.drop (rowS s m c).2.a
  | 0, c, hc, _ => ⟨rfl, hc, rfl⟩
  | m + 1, c, hc, h => by
    have hb := rowS_bad h
    rw [rowS, if_neg (by simp [hb])] at h ⊢
    have h0 := rowS_bad h
    obtain ⟨_, n, h1, _, h2, h3⟩ := scVar_text hc h0
    obtain ⟨g1, g2, g3⟩ := rowS_text h2 h
    refine ⟨by simp [g1], g2, ?_⟩
    rw [h3, g3]
    simp only [rowT, List.flatMap_cons, h1, Int.toNat_natCast, List.append_assoc]
def itS (s : ByteArray) : Nat → Sc → List ItemD × Sc
  | 0, c => ([], c)
  | m + 1, c => if c.bad then ([], c) else
      let p := scVar s c
      let q := rowS s (min p.1 10).toNat p.2
      let u := scVar s q.2
      (⟨q.1, u.1⟩ :: (itS s m u.2).1, (itS s m u.2).2)
def itI (s : ByteArray) : Nat → Nat → Sc → Option (List ItemD × Sc)
  | 0, _, c => some ([], c)
  | m + 1, i, c => if c.bad then some ([], c) else
      if 4 < (scVar s c).1 ∨ 300 ≤ i then none else
      (itI s m (i + 1) (scVar s (rowI s (scVar s c).1.toNat (scVar s c).2).2).2).map fun z => (⟨(rowI s (scVar s c).1.toNat (scVar s c).2).1, (scVar s (rowI s (scVar s c).1.toNat (scVar s c).2).2).1⟩ :: z.1, z.2)
theorem itS_bad {s : ByteArray} {m : Nat} {c : Sc} (h : (itS s m c).2.bad = false) : c.bad = false := by
  cases m with
  | zero => exact h
  | succ m =>
    cases hb : c.bad
    · rfl
    · rw [itS, if_pos hb] at h; rw [h] at hb; cases hb
theorem scVar_good {s : ByteArray} {c : Sc} (h : (scVar s c).2.bad = false) : c.bad = false := by
  cases hb : c.bad
  · rfl
  · rw [scVar_bad hb] at h; cases h
theorem itI_len {s : ByteArray} : ∀ {m i : Nat} {c : Sc} {xs : List ItemD} {e : Sc}, itI s m i c = some (xs, e) → e.bad = false → xs.length = m ∧ (0 < m → i + m ≤ 300)
  | 0, i, c, xs, e, h, hb => by rw [itI] at h; cases h; simp
  | m + 1, i, c, xs, e, h, hb => by
    rw [itI] at h
    split at h
    · rename_i h1; cases h; rw [hb] at h1; cases h1
    · split at h
      · cases h
      · rename_i h1 h2
        rw [Option.map_eq_some_iff] at h
        obtain ⟨⟨zs, e'⟩, hz, h⟩ := h
        cases h
        obtain ⟨g1, g2⟩ := itI_len hz hb
        refine ⟨by simp [g1], fun _ => ?_⟩
        by_cases hm : 0 < m
        · have := g2 hm; omega
        · omega
theorem itI_bad {s : ByteArray} {m i : Nat} {c : Sc} {z : List ItemD × Sc} (h : itI s m i c = some z) (hb : z.2.bad = false) : c.bad = false := by
  cases m with
  | zero => rw [itI] at h; cases h; exact hb
  | succ m =>
    cases hc : c.bad
    · rfl
    · rw [itI, if_pos hc] at h; cases h; rw [hc] at hb; cases hb
theorem itI_itS {s : ByteArray} : ∀ {m i : Nat} {c : Sc} {z : List ItemD × Sc}, c.a ≤ s.size → itI s m i c = some z → z.2.bad = false → itS s m c = z
  | 0, i, c, z, _, h, hb => by rw [itI] at h; cases h; rfl
  | m + 1, i, c, z, hca, h, hb => by
    have hcb := itI_bad h hb
    rw [itI, if_neg (by simp [hcb])] at h
    split at h
    · cases h
    · rename_i h2
      rw [Option.map_eq_some_iff] at h
      obtain ⟨z', hz, rfl⟩ := h
      have hu := itI_bad hz hb
      have hq := scVar_good hu
      have hre := rowI_eq hq
      rw [itS, if_neg (by simp [hcb])]
      have hn := scVar_nat s c hca
      have hmin : (min (scVar s c).1 10).toNat = (scVar s c).1.toNat := by omega
      simp only [hmin, ← hre]
      have hle : (scVar s (rowI s (scVar s c).1.toNat (scVar s c).2).2).2.a ≤ s.size := scVar_le (by
        rw [hre]
        rw [hre] at hq
        exact (rowS_text (scVar_le hca) hq).2.1)
      rw [itI_itS hle hz hb]
theorem itS_len {s : ByteArray} : ∀ {m : Nat} {c : Sc}, (itS s m c).2.bad = false → (itS s m c).1.length = m
  | 0, c, _ => rfl
  | m + 1, c, h => by
    have hb := itS_bad h
    rw [itS, if_neg (by simp [hb])] at h ⊢
    simp only [] at h ⊢
    rw [List.length_cons, itS_len h]
theorem itS_itI {s : ByteArray} : ∀ {m i : Nat} {c : Sc}, c.a ≤ s.size → (itS s m c).2.bad = false → (∀ x ∈ (itS s m c).1, x.f0.length ≤ 4) → i + m ≤ 300 → itI s m i c = some (itS s m c)
  | 0, i, c, _, _, _, _ => rfl
  | m + 1, i, c, hca, h, hx, hi => by
    have hb := itS_bad h
    rw [itS, if_neg (by simp [hb])] at h hx ⊢
    rw [itI, if_neg (by simp [hb])]
    simp only [] at h hx ⊢
    have hu := itS_bad h
    have hq := scVar_good hu
    have hn := scVar_nat s c hca
    have hrt := rowS_text (scVar_le hca) hq
    have hl : (rowS s (min (scVar s c).1 10).toNat (scVar s c).2).1.length ≤ 4 := hx _ (List.mem_cons_self ..)
    rw [hrt.1] at hl
    have hmin : (min (scVar s c).1 10).toNat = (scVar s c).1.toNat := by omega
    rw [hmin] at h hx hq hrt ⊢
    have hre := rowS_eq hq
    rw [if_neg (by omega), hre, itS_itI (scVar_le hrt.2.1) h (fun x hx' => hx x (List.mem_cons_of_mem _ hx')) (by omega)]
    rfl
theorem itS_text {s : ByteArray} : ∀ {m : Nat} {c : Sc}, c.a ≤ s.size → (itS s m c).2.bad = false → (∀ x ∈ (itS s m c).1, x.f0.length ≤ 4) → (itS s m c).2.a ≤ s.size ∧ s.data.toList.drop c.a = (itS s m c).1.flatMap itemT ++ s.data.toList.drop (itS s m c).2.a
  | 0, c, hc, _, _ => ⟨hc, rfl⟩
  | m + 1, c, hca, h, hx => by
    have hb := itS_bad h
    rw [itS, if_neg (by simp [hb])] at h hx ⊢
    simp only [] at h hx ⊢
    have hu := itS_bad h
    have hq := scVar_good hu
    have hp := rowS_bad hq
    have hn := scVar_nat s c hca
    have hrt := rowS_text (scVar_le hca) hq
    have hl : (rowS s (min (scVar s c).1 10).toNat (scVar s c).2).1.length ≤ 4 := hx _ (List.mem_cons_self ..)
    rw [hrt.1] at hl
    have hmin : (min (scVar s c).1 10).toNat = (scVar s c).1.toNat := by omega
    rw [hmin] at h hx hq hrt hu ⊢
    obtain ⟨_, n, e1, _, e2, e3⟩ := scVar_text hca hp
    obtain ⟨_, t, g1, _, g2, g3⟩ := scVar_text hrt.2.1 hu
    obtain ⟨k1, k2⟩ := itS_text (scVar_le hrt.2.1) h (fun x hx' => hx x (List.mem_cons_of_mem _ hx'))
    refine ⟨k1, ?_⟩
    rw [e3, hrt.2.2, g3, k2, List.flatMap_cons, itemT, hrt.1, g1, e1]
    simp only [Int.toNat_natCast, List.append_assoc]
def rbS (s : ByteArray) : Bool :=
  let p := scVar s ⟨0, false⟩
  let z := itS s (min p.1 310).toNat p.2
  !z.2.bad && (bagB z.1 && decide (bagT z.1 = s.data.toList))
def rbI (s : ByteArray) : Bool :=
  let p := scVar s ⟨0, false⟩
  match itI s p.1.toNat 0 p.2 with
  | none => false
  | some z => !z.2.bad && (decide (z.2.a = s.size) && bagB z.1)
theorem bagB_rows {xs : List ItemD} (h : bagB xs = true) : ∀ x ∈ xs, x.f0.length ≤ 4 := by
  intro x hx
  have := bagB_mem h x hx
  unfold itemB rowB at this
  simp only [Bool.and_eq_true, decide_eq_true_eq] at this
  exact this.1.1
theorem rb_eq (s : ByteArray) : rbS s = rbI s := by
  have h0 : (⟨0, false⟩ : Sc).a ≤ s.size := Nat.zero_le _
  have hn := scVar_nat s ⟨0, false⟩ h0
  have ha := scVar_le (s := s) (c := ⟨0, false⟩) h0
  rw [Bool.eq_iff_iff]
  unfold rbS rbI
  simp only []
  constructor
  · intro h
    simp only [Bool.and_eq_true, Bool.not_eq_true', decide_eq_true_eq] at h
    obtain ⟨h1, h2, h3⟩ := h
    have hl := itS_len h1
    have hb := bagB_len h2
    have hm : (min (scVar s ⟨0, false⟩).1 310).toNat = (scVar s ⟨0, false⟩).1.toNat := by omega
    rw [hm] at h1 h2 h3 hl
    have hb := bagB_len h2
    have hI := itS_itI (i := 0) ha h1 (bagB_rows h2) (by omega)
    rw [hI]
    simp only [h1, Bool.not_false, Bool.true_and, Bool.and_eq_true, decide_eq_true_eq]
    refine ⟨?_, h2⟩
    obtain ⟨t1, t2⟩ := itS_text ha h1 (bagB_rows h2)
    obtain ⟨_, n, e1, _, e2, e3⟩ := scVar_text h0 (itS_bad h1)
    rw [t2] at e3
    unfold bagT at h3
    rw [e1, Int.toNat_natCast] at hl h3 t1 e3
    rw [hl] at h3
    have h4 := congrArg List.length e3
    have h5 := congrArg List.length h3
    simp only [List.drop_zero, List.length_append, List.length_drop, Array.length_toList] at h4 h5
    have : s.data.size = s.size := rfl
    rw [e1, Int.toNat_natCast]
    omega
  · intro h
    split at h
    · cases h
    · rename_i z hz
      simp only [Bool.and_eq_true, Bool.not_eq_true', decide_eq_true_eq] at h
      obtain ⟨h1, h2, h3⟩ := h
      obtain ⟨xs, e⟩ := z
      obtain ⟨l1, l2⟩ := itI_len hz h1
      have hS := itI_itS ha hz h1
      have hb := bagB_len h3
      have hm : (min (scVar s ⟨0, false⟩).1 310).toNat = (scVar s ⟨0, false⟩).1.toNat := by simp only [] at hb; omega
      rw [hm, hS]
      simp only [] at h1 h2 h3
      simp only [h1, h3, Bool.not_false, Bool.true_and, decide_eq_true_eq]
      obtain ⟨t1, t2⟩ := itS_text (m := (scVar s ⟨0, false⟩).1.toNat) ha (by rw [hS]; exact h1) (by rw [hS]; exact bagB_rows h3)
      rw [hS] at t1 t2
      have hp : (scVar s ⟨0, false⟩).2.bad = false := itI_bad hz h1
      obtain ⟨_, n, e1, _, e2, e3⟩ := scVar_text h0 hp
      rw [e1, Int.toNat_natCast] at l1
      unfold bagT
      rw [l1]
      simp only [List.drop_zero] at e3
      rw [e3, t2]
      simp only [h2]
      rw [List.drop_of_length_le (by simp), List.append_nil]
end Go.Proofs.Ytphjlecbhbcbcaa
