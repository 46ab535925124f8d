/- Letters read, plain: the two ways agree. No condition. -/
import Derived.Test.YtphjlecbhbcbcaaLetU
namespace Go.Proofs.Ytphjlecbhbcbcaa
open Go.RowKit
set_option linter.unusedVariables false
set_option linter.unusedSimpArgs false
def wkG (s : ByteArray) : Nat → Sc → List WalkR × Sc
  | 0, c => ([], c)
  | m + 1, c => if c.bad then ([], c) else
      let p0 := scByte s c
      let p1 := scByte s p0.2
      let p2 := scByte s p1.2
      let p3 := scByte s p2.2
      (⟨p0.1, p1.1, p2.1, p3.1⟩ :: (wkG s m p3.2).1, (wkG s m p3.2).2)
def restT (s : ByteArray) (c : Sc) : ByteArray := if c.bad = true then ByteArray.empty else s.extract c.a s.size
/-- What is read of a letter: its fields, and where the reader then stands. -/
def lrP (F : Nat) (s : ByteArray) : LetterD × Sc :=
  let p := scByte s ⟨0, false⟩
  if p.1 = 2 then (⟨2, 0, 0, false, (wkG s (min (scVar s p.2).1 F).toNat (scVar s p.2).2).1, ⟨#[]⟩⟩, (wkG s (min (scVar s p.2).1 F).toNat (scVar s p.2).2).2)
  else if p.1 = 3 then (⟨3, 0, (scVar s p.2).1 - 100000, (scByte s (scVar s p.2).2).1 == 1, [], ⟨#[]⟩⟩, (scByte s (scVar s p.2).2).2)
  else if p.1 = 5 then (⟨5, (scByte s p.2).1, 0, false, [], restT s (scByte s p.2).2⟩, (scByte s p.2).2)
  else if p.1 = 1 ∨ p.1 = 6 then (⟨p.1, 0, 0, false, [], restT s p.2⟩, p.2)
  else (⟨p.1, 0, 0, false, [], ⟨#[]⟩⟩, p.2)
def lrQ (s : ByteArray) (z : LetterD × Sc) : Bool := !z.2.bad && (letB z.1 && decide (letS z.1 = s))
def letZ : LetterD := ⟨0, 0, 0, false, [], ⟨#[]⟩⟩
def lrX (s : ByteArray) (z : LetterD × Sc) : LetterD := if lrQ s z = true then z.1 else letZ
theorem lrP_2 {F : Nat} {s : ByteArray} {c d e : Sc} {n : Int} {ws : List WalkR} (h1 : scByte s ⟨0, false⟩ = (2, c)) (h2 : scVar s c = (n, d)) (h3 : wkG s (min n F).toNat d = (ws, e)) : lrP F s = (⟨2, 0, 0, false, ws, ⟨#[]⟩⟩, e) := by
  unfold lrP; simp only [h1, h2, h3]; rfl
theorem lrP_3 {F : Nat} {s : ByteArray} {c d e : Sc} {n b : Int} (h1 : scByte s ⟨0, false⟩ = (3, c)) (h2 : scVar s c = (n, d)) (h3 : scByte s d = (b, e)) : lrP F s = (⟨3, 0, n - 100000, b == 1, [], ⟨#[]⟩⟩, e) := by
  unfold lrP; simp only [h1, h2, h3]; rfl
theorem lrP_5 {F : Nat} {s : ByteArray} {c d : Sc} {a : Int} (h1 : scByte s ⟨0, false⟩ = (5, c)) (h2 : scByte s c = (a, d)) : lrP F s = (⟨5, a, 0, false, [], restT s d⟩, d) := by
  unfold lrP; simp only [h1, h2]; rfl
theorem lrP_1 {F : Nat} {s : ByteArray} {c : Sc} (h1 : scByte s ⟨0, false⟩ = (1, c)) : lrP F s = (⟨1, 0, 0, false, [], restT s c⟩, c) := by
  unfold lrP; simp only [h1]; rfl
theorem lrP_6 {F : Nat} {s : ByteArray} {c : Sc} (h1 : scByte s ⟨0, false⟩ = (6, c)) : lrP F s = (⟨6, 0, 0, false, [], restT s c⟩, c) := by
  unfold lrP; simp only [h1]; rfl
theorem lrP_0 {F : Nat} {s : ByteArray} {c : Sc} {k : Int} (h1 : scByte s ⟨0, false⟩ = (k, c)) (h : k ≠ 1 ∧ k ≠ 2 ∧ k ≠ 3 ∧ k ≠ 5 ∧ k ≠ 6) : lrP F s = (⟨k, 0, 0, false, [], ⟨#[]⟩⟩, c) := by
  unfold lrP; simp only [h1]
  rw [if_neg h.2.1, if_neg h.2.2.1, if_neg h.2.2.2.1, if_neg (by omega)]
theorem wkG_stop {s : ByteArray} {c : Sc} (h : c.bad = true) (m : Nat) : wkG s m c = ([], c) := by
  cases m with
  | zero => rfl
  | succ m => rw [wkG, if_pos h]
theorem wkG_bad {s : ByteArray} {m : Nat} {c : Sc} (h : (wkG s m c).2.bad = false) : c.bad = false := by
  cases hb : c.bad
  · rfl
  · rw [wkG_stop hb] at h; rw [h] at hb; cases hb
theorem wkG_len {s : ByteArray} : ∀ {m : Nat} {c : Sc}, (wkG s m c).2.bad = false → (wkG s m c).1.length = m
  | 0, c, _ => rfl
  | m + 1, c, h => by
    have hb := wkG_bad h
    rw [wkG, if_neg (by simp [hb])] at h ⊢
    simp only [] at h ⊢
    rw [List.length_cons, wkG_len h]
theorem wkG_next {s : ByteArray} {a m : Nat} {v0 v1 v2 v3 : Int} {c0 c1 c2 c3 : Sc} (h0 : scByte s ⟨a, false⟩ = (v0, c0)) (h1 : scByte s c0 = (v1, c1)) (h2 : scByte s c1 = (v2, c2)) (h3 : scByte s c2 = (v3, c3)) (hm : 0 < m) :
    wkG s m ⟨a, false⟩ = (⟨v0, v1, v2, v3⟩ :: (wkG s (m - 1) c3).1, (wkG s (m - 1) c3).2) := by
  obtain ⟨m, rfl⟩ : ∃ k, m = k + 1 := ⟨m - 1, by omega⟩
  rw [wkG, if_neg (by simp)]
  simp only [h0, h1, h2, h3]
  rfl
theorem lrP_F {F G : Nat} (hF : 61 ≤ F) (hG : 61 ≤ G) {s : ByteArray} (h : lrQ s (lrP F s) = true) : lrP G s = lrP F s := by
  obtain ⟨⟨k, c⟩, h1⟩ : ∃ r, scByte s ⟨0, false⟩ = r := ⟨_, rfl⟩
  by_cases hk : k = 2
  · subst hk
    obtain ⟨⟨n, d⟩, h2⟩ : ∃ r, scVar s c = r := ⟨_, rfl⟩
    obtain ⟨⟨ws, e⟩, h3⟩ : ∃ r, wkG s (min n F).toNat d = r := ⟨_, rfl⟩
    have hc : c.a ≤ s.size := by have := scByte_le (s := s) (c := ⟨0, false⟩) (Nat.zero_le _); rw [h1] at this; exact this
    have hn := scVar_nat s c hc
    rw [h2] at hn
    simp only [] at hn
    rw [lrP_2 h1 h2 h3] at h ⊢
    unfold lrQ at h
    simp only [Bool.and_eq_true, Bool.not_eq_true', decide_eq_true_eq] at h
    have hl := wkG_len (s := s) (m := (min n F).toNat) (c := d) (by rw [h3]; exact h.1)
    rw [h3] at hl
    simp only [] at hl
    have h60 := (letB_2 h.2.1).2
    have : (min n F).toNat = (min n G).toNat := by omega
    rw [this] at h3
    rw [lrP_2 h1 h2 h3]
  · unfold lrP
    simp only [h1]
    rw [if_neg hk, if_neg hk]
theorem lrQ_eq {F G : Nat} (hF : 61 ≤ F) (hG : 61 ≤ G) (s : ByteArray) : lrQ s (lrP F s) = lrQ s (lrP G s) := by
  rw [Bool.eq_iff_iff]
  exact ⟨fun h => by rw [lrP_F hF hG h]; exact h, fun h => by rw [lrP_F hG hF h]; exact h⟩
theorem lrX_eq {F G : Nat} (hF : 61 ≤ F) (hG : 61 ≤ G) (s : ByteArray) : lrX s (lrP F s) = lrX s (lrP G s) := by
  unfold lrX
  by_cases h : lrQ s (lrP F s) = true
  · rw [if_pos h, lrP_F hF hG h, if_pos h]
  · rw [if_neg h, if_neg (by rw [← lrQ_eq hF hG]; exact h)]
/-- The letter that a text is, and whether it is one. -/
def rdL (s : ByteArray) : LetterD := lrX s (lrP 61 s)
def rdB (s : ByteArray) : Bool := lrQ s (lrP 61 s)
theorem rdL_70 (s : ByteArray) : lrX s (lrP 70 s) = rdL s := lrX_eq (by omega) (by omega) s
theorem rdB_70 (s : ByteArray) : lrQ s (lrP 70 s) = rdB s := lrQ_eq (by omega) (by omega) s
theorem lrQ_bad {s : ByteArray} {x : LetterD} {a : Nat} : lrQ s (x, ⟨a, true⟩) = false := rfl
theorem lrQ_no {s : ByteArray} {x : LetterD} {c : Sc} (h : letB x = false) : lrQ s (x, c) = false := by unfold lrQ; rw [h]; simp
theorem lrQ_ne {s : ByteArray} {x : LetterD} {c : Sc} (h : letS x ≠ s) : lrQ s (x, c) = false := by unfold lrQ; rw [decide_eq_false h]; simp
theorem lrQ_ok {s : ByteArray} {x : LetterD} {a : Nat} (h : letB x = true) (h2 : letS x = s) : lrQ s (x, ⟨a, false⟩) = true := by unfold lrQ; rw [h, decide_eq_true h2]; rfl
theorem lrX_no {s : ByteArray} {z : LetterD × Sc} (h : lrQ s z = false) : lrX s z = letZ := if_neg (by simp [h])
theorem lrX_ok {s : ByteArray} {z : LetterD × Sc} (h : lrQ s z = true) : lrX s z = z.1 := if_pos h
theorem wkG_le {s : ByteArray} : ∀ (m : Nat) (c : Sc), c.a ≤ s.size → (wkG s m c).2.a ≤ s.size
  | 0, c, h => h
  | m + 1, c, h => by
    rw [wkG]
    split
    · exact h
    · exact wkG_le m _ (scByte_le (scByte_le (scByte_le (scByte_le h))))
theorem wkG_cnt {s : ByteArray} : ∀ (m : Nat) (c : Sc), (wkG s m c).1.length ≤ m
  | 0, c => Nat.le_refl _
  | m + 1, c => by
    rw [wkG]
    split
    · simp
    · simp only [List.length_cons]; have := wkG_cnt (s := s) m (scByte s (scByte s (scByte s (scByte s c).2).2).2).2; omega
theorem rdL_len (s : ByteArray) : (rdL s).f4.length ≤ 61 := by
  unfold rdL lrX
  split
  · unfold lrP
    simp only []
    split
    · have := wkG_cnt (s := s) (min (scVar s (scByte s ⟨0, false⟩).2).1 (61 : Nat)).toNat (scVar s (scByte s ⟨0, false⟩).2).2
      simp only []
      omega
    · split
      · exact Nat.zero_le 61
      · split
        · exact Nat.zero_le 61
        · split <;> exact Nat.zero_le 61
  · simp [letZ]
end Go.Proofs.Ytphjlecbhbcbcaa
