/- The reading of a graph, plain: what the reference's reader and the program's reader hold to be a graph is the same. -/
import Derived.Test.YtjgghiniajmfjaaGrT
namespace Go.Proofs.Ytjgghiniajmfjaa
open Go.RowKit
set_option linter.unusedVariables false
set_option linter.unusedSimpArgs false
def egG (s : ByteArray) : Nat → Sc → List EdgeR × Sc
  | 0, c => ([], c)
  | m + 1, c => if c.bad then ([], c) else
      let p0 := scVar s c
      let p1 := scByte s p0.2
      let p2 := scVar s p1.2
      (⟨p0.1, UInt8.ofNat p1.1.toNat, p2.1⟩ :: (egG s m p2.2).1, (egG s m p2.2).2)
/-- What is read at most F edges deep: the graph, the count that stood there, the cursor. -/
def grP (F : Nat) (s : ByteArray) : GraphD × Int × Sc :=
  let p := scVar s ⟨0, false⟩
  let q := scVar s p.2
  (⟨p.1, (egG s (min q.1 F).toNat q.2).1⟩, q.1, (egG s (min q.1 F).toNat q.2).2)
def grQ (s : ByteArray) (z : GraphD × Int × Sc) : Bool := !z.2.2.bad && (graphB z.1 && decide (graphS z.1 = s))
def grI (s : ByteArray) (z : GraphD × Int × Sc) : Bool := !z.2.2.bad && (decide (z.2.2.a = s.size) && (decide ((z.1.f1.length : Int) = z.2.1) && graphB z.1))
theorem grP_of {F : Nat} {s : ByteArray} {c d e : Sc} {n k : Int} {xs : List EdgeR} (h1 : scVar s ⟨0, false⟩ = (n, c)) (h2 : scVar s c = (k, d)) (h3 : egG s (min k F).toNat d = (xs, e)) : grP F s = (⟨n, xs⟩, k, e) := by
  unfold grP; simp only [h1, h2, h3]
theorem egG_stop {s : ByteArray} {c : Sc} (h : c.bad = true) (m : Nat) : egG s m c = ([], c) := by
  cases m with
  | zero => rfl
  | succ m => rw [egG, if_pos h]
theorem egG_bad {s : ByteArray} {m : Nat} {c : Sc} (h : (egG s m c).2.bad = false) : c.bad = false := by
  cases hb : c.bad
  · rfl
  · rw [egG_stop hb] at h; rw [h] at hb; cases hb
theorem egG_len {s : ByteArray} : ∀ {m : Nat} {c : Sc}, (egG s m c).2.bad = false → (egG s m c).1.length = m
  | 0, c, _ => rfl
  | m + 1, c, h => by
    have hb := egG_bad h
    rw [egG, if_neg (by simp [hb])] at h ⊢
    simp only [] at h ⊢
    rw [List.length_cons, egG_len h]
theorem egG_cnt {s : ByteArray} : ∀ (m : Nat) (c : Sc), (egG s m c).1.length ≤ m
  | 0, c => Nat.le_refl _
  | m + 1, c => by
    rw [egG]
    split
    · simp
    · simp only [List.length_cons]; have := egG_cnt (s := s) m (scVar s (scByte s (scVar s c).2).2).2; omega
theorem egG_le {s : ByteArray} : ∀ (m : Nat) (c : Sc), c.a ≤ s.size → (egG s m c).2.a ≤ s.size
  | 0, c, h => h
  | m + 1, c, h => by
    rw [egG]
    split
    · exact h
    · exact egG_le m _ (scVar_le (scByte_le (scVar_le h)))
theorem egG_next {s : ByteArray} {a m : Nat} {v0 v1 v2 : Int} {c0 c1 c2 : Sc} (h0 : scVar s ⟨a, false⟩ = (v0, c0)) (h1 : scByte s c0 = (v1, c1)) (h2 : scVar s c1 = (v2, c2)) (hm : 0 < m) :
    egG s m ⟨a, false⟩ = (⟨v0, UInt8.ofNat v1.toNat, v2⟩ :: (egG s (m - 1) c2).1, (egG s (m - 1) c2).2) := by
  obtain ⟨m, rfl⟩ : ∃ k, m = k + 1 := ⟨m - 1, by omega⟩
  rw [egG, if_neg (by simp)]
  simp only [h0, h1, h2]
  rfl
theorem scByte_text {s : ByteArray} {c : Sc} (h : (scByte s c).2.bad = false) : c.bad = false ∧ (scByte s c).2.a ≤ s.size ∧ s.data.toList.drop c.a = UInt8.ofNat (scByte s c).1.toNat :: s.data.toList.drop (scByte s c).2.a := by
  obtain ⟨h1, hlt, h2⟩ := scByte_read h
  rw [h2]
  refine ⟨h1, hlt, ?_⟩
  have hl : c.a < s.data.toList.length := by rw [Array.length_toList]; exact hlt
  rw [List.drop_eq_getElem_cons hl]
  simp only [Int.toNat_natCast, UInt8.ofNat_toNat, Array.getElem_toList]
  rfl
theorem egG_text {s : ByteArray} : ∀ {m : Nat} {c : Sc}, c.a ≤ s.size → (egG s m c).2.bad = false → (egG s m c).2.a ≤ s.size ∧ s.data.toList.drop c.a = (egG s m c).1.flatMap edgeT ++ s.data.toList.drop (egG s m c).2.a
  | 0, c, hc, _ => ⟨hc, rfl⟩
  | m + 1, c, hc, h => by
    have hb := egG_bad h
    rw [egG, if_neg (by simp [hb])] at h ⊢
    simp only [] at h ⊢
    have h2 := egG_bad h
    have hl1 : (scByte s (scVar s c).2).2.a ≤ s.size := scByte_le (scVar_le hc)
    obtain ⟨b1, n2, e2, _, l2, t2⟩ := scVar_text hl1 h2
    obtain ⟨b0, _, t1⟩ := scByte_text b1
    obtain ⟨_, n0, e0, _, l0, t0⟩ := scVar_text hc b0
    obtain ⟨k1, k2⟩ := egG_text l2 h
    refine ⟨k1, ?_⟩
    rw [t0, t1, t2, k2, List.flatMap_cons, edgeT, e0, e2]
    simp only [Int.toNat_natCast, List.append_assoc, List.cons_append]
/-- Of a reading that is not refused and a right graph: its count, its text, and that no deeper reading differs. -/
theorem gr_core {F : Nat} (hF : 41 ≤ F) {s : ByteArray} (h1 : (grP F s).2.2.bad = false) (h2 : graphB (grP F s).1 = true) :
    ((grP F s).1.f1.length : Int) = (grP F s).2.1 ∧ (∀ G : Nat, 41 ≤ G → grP G s = grP F s) ∧ (grP F s).2.2.a ≤ s.size ∧ s.data.toList = graphL (grP F s).1 ++ s.data.toList.drop (grP F s).2.2.a := by
  obtain ⟨⟨n, c⟩, q1⟩ : ∃ r, scVar s ⟨0, false⟩ = r := ⟨_, rfl⟩
  obtain ⟨⟨k, d⟩, q2⟩ : ∃ r, scVar s c = r := ⟨_, rfl⟩
  obtain ⟨⟨xs, e⟩, q3⟩ : ∃ r, egG s (min k F).toNat d = r := ⟨_, rfl⟩
  have hP := grP_of q1 q2 q3
  rw [hP] at h1 h2 ⊢
  simp only [] at h1 h2 ⊢
  have hc := scVar_le (s := s) (c := ⟨0, false⟩) (Nat.zero_le _)
  rw [q1] at hc
  have hd := scVar_le (s := s) (c := c) hc
  have hk := scVar_nat s c hc
  rw [q2] at hd hk
  simp only [] at hc hd hk
  have hl : xs.length = (min k F).toNat := by have := egG_len (s := s) (m := (min k F).toNat) (c := d) (by rw [q3]; exact h1); rw [q3] at this; exact this
  have h40 := (graphB_out h2).2.1
  simp only [] at h40
  have hkl : (xs.length : Int) = k := by omega
  have hdb : d.bad = false := egG_bad (s := s) (m := (min k F).toNat) (by rw [q3]; exact h1)
  obtain ⟨t1, t2⟩ := egG_text (s := s) (m := (min k F).toNat) hd (by rw [q3]; exact h1)
  rw [q3] at t1 t2
  obtain ⟨b1, nk, g1, _, _, g3⟩ := scVar_text (s := s) (c := c) hc (by rw [q2]; exact hdb)
  obtain ⟨_, nn, g4, _, _, g6⟩ := scVar_text (s := s) (c := ⟨0, false⟩) (Nat.zero_le _) (by rw [q1]; exact b1)
  rw [q2] at g1 g3
  rw [q1] at g4 g6
  simp only [] at g1 g3 g4 g6 t1 t2
  refine ⟨hkl, fun G hG => ?_, t1, ?_⟩
  · have hm : (min k G).toNat = (min k F).toNat := by omega
    rw [← hP]
    unfold grP
    simp only [q1, q2, hm]
  · rw [List.drop_zero] at g6
    refine g6.trans ?_
    rw [g3, t2]
    unfold graphL
    simp only [g4, Int.toNat_natCast]
    rw [show nk = xs.length by omega]
    simp only [List.append_assoc]
theorem gr_go {F : Nat} (hF : 41 ≤ F) {s : ByteArray} (h : grQ s (grP F s) = true) : ∀ G : Nat, 41 ≤ G → grP G s = grP F s := by
  unfold grQ at h
  simp only [Bool.and_eq_true, Bool.not_eq_true'] at h
  exact (gr_core hF h.1 h.2.1).2.1
theorem gr_goI {F : Nat} (hF : 41 ≤ F) {s : ByteArray} (h : grI s (grP F s) = true) : ∀ G : Nat, 41 ≤ G → grP G s = grP F s := by
  unfold grI at h
  simp only [Bool.and_eq_true, Bool.not_eq_true'] at h
  exact (gr_core hF h.1 h.2.2.2).2.1
theorem gr_same {F : Nat} (hF : 41 ≤ F) (s : ByteArray) : grQ s (grP F s) = grI s (grP F s) := by
  rw [Bool.eq_iff_iff]
  constructor
  · intro h
    unfold grQ at h
    simp only [Bool.and_eq_true, Bool.not_eq_true', decide_eq_true_eq] at h
    obtain ⟨h1, h2, h3⟩ := h
    obtain ⟨k1, _, k3, k4⟩ := gr_core hF h1 h2
    unfold grI
    simp only [Bool.and_eq_true, Bool.not_eq_true', decide_eq_true_eq]
    refine ⟨h1, ?_, k1, h2⟩
    unfold graphS at h3
    rw [if_pos h2] at h3
    have h4 : graphL (grP F s).1 = s.data.toList := congrArg (fun b : ByteArray => b.data.toList) h3
    rw [h4] at k4
    have h5 := congrArg List.length k4
    simp only [List.length_append, List.length_drop, Array.length_toList] at h5
    have : s.data.size = s.size := rfl
    omega
  · intro h
    unfold grI at h
    simp only [Bool.and_eq_true, Bool.not_eq_true', decide_eq_true_eq] at h
    obtain ⟨h1, h2, h3, h4⟩ := h
    obtain ⟨_, _, _, k4⟩ := gr_core hF h1 h4
    unfold grQ
    simp only [Bool.and_eq_true, Bool.not_eq_true', decide_eq_true_eq]
    refine ⟨h1, h4, ?_⟩
    have h5 : s.data.toList.drop (grP F s).2.2.a = [] := List.drop_eq_nil_of_le (by rw [h2, Array.length_toList]; exact Nat.le_refl _)
    rw [h5, List.append_nil] at k4
    unfold graphS
    rw [if_pos h4]
    exact (byte_of k4).symm
def grX (b : Bool) (z : GraphD × Int × Sc) : GraphD := if b = true then z.1 else ⟨0, []⟩
/-- The graph that a text is, and whether it is one. -/
def rdGB (s : ByteArray) : Bool := grI s (grP 41 s)
def rdG (s : ByteArray) : GraphD := grX (rdGB s) (grP 41 s)
theorem rdGB_50 (s : ByteArray) : grQ s (grP 50 s) = rdGB s := by
  unfold rdGB
  rw [← gr_same (Nat.le_refl _), Bool.eq_iff_iff]
  exact ⟨fun h => by rw [gr_go (by omega) h 41 (Nat.le_refl _)]; exact h, fun h => by rw [gr_go (Nat.le_refl _) h 50 (by omega)]; exact h⟩
theorem rdG_50 (s : ByteArray) : grX (grQ s (grP 50 s)) (grP 50 s) = rdG s := by
  unfold rdG
  rw [rdGB_50]
  cases h : rdGB s
  · rfl
  · unfold rdGB at h
    rw [gr_goI (Nat.le_refl _) h 50 (by omega)]
theorem rdG_len (s : ByteArray) : (rdG s).f1.length ≤ 41 := by
  unfold rdG grX
  split
  · unfold grP
    have := egG_cnt (s := s) (min (scVar s (scVar s ⟨0, false⟩).2).1 (41 : Nat)).toNat (scVar s (scVar s ⟨0, false⟩).2).2
    simp only []
    omega
  · simp
end Go.Proofs.Ytjgghiniajmfjaa
