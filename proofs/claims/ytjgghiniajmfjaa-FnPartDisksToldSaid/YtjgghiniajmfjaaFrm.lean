/- What Unframe gives of frames that stand one behind another, cut off anywhere. Plain lemmas. No condition. -/
import Derived.Test.YtjgghiniajmfjaaKUnf
namespace Go.Proofs.Ytjgghiniajmfjaa
open Go.RowKit
set_option linter.unusedVariables false
set_option linter.unusedSimpArgs false

def frL (t : ByteArray) : List UInt8 := (frameT t).data.toList
theorem frL_eq (t : ByteArray) : frL t = varL t.size ++ ((fourT (sumOf t)).data.toList ++ t.data.toList) := by
  unfold frL frameT vText
  simp [ByteArray.data_append, Array.toList_append]
theorem four_len (t : ByteArray) : (fourT (sumOf t)).data.toList.length = 4 := rfl
theorem list_size (t : ByteArray) : t.data.toList.length = t.size := by rw [Array.length_toList]; rfl
theorem frL_len (t : ByteArray) : (frL t).length = (varL t.size).length + 4 + t.size := by
  rw [frL_eq, List.length_append, List.length_append, four_len, list_size]; omega
theorem at_drop {s : ByteArray} {a i : Nat} {b : UInt8} (h : (s.data.toList.drop a)[i]? = some b) : ∃ h : a + i < s.size, s[a + i] = b := by
  rw [List.getElem?_drop] at h
  obtain ⟨h1, h2⟩ := List.getElem?_eq_some_iff.1 h
  have h3 : a + i < s.size := by rw [list_size] at h1; exact h1
  refine ⟨h3, ?_⟩
  rw [← h2]
  rfl
theorem rv_small {s : ByteArray} {a n : Nat} (h : a + 0 < s.size) (hb : s[a + 0].toNat = n) (hn : n ≤ 127) : rv s (a : Int) = ⟨(n : Int), ((a + 1 : Nat) : Int), true⟩ := by
  unfold rv
  rw [if_pos ⟨by omega, by omega⟩, Int.toNat_natCast, rvGo, dif_pos h, if_neg (by omega), if_neg (by simp; omega), hb]
  simp
  omega
theorem rv_big {s : ByteArray} {a n : Nat} (h : a + 1 < s.size) (h0 : (s[a + 0]'(by omega)).toNat = 128 + n % 128) (h1 : s[a + 1].toNat = n / 128) (hn : 128 ≤ n) (hn2 : n ≤ 16383) : rv s (a : Int) = ⟨(n : Int), ((a + 2 : Nat) : Int), true⟩ := by
  have h1' : (s[a + (0 + 1)]'h).toNat = n / 128 := h1
  unfold rv
  rw [if_pos ⟨by omega, by omega⟩, Int.toNat_natCast, rvGo, dif_pos (by omega : a + 0 < s.size), if_pos (by omega), rvGo, dif_pos h, if_neg (by omega), h0, h1', if_neg (by omega)]
  have e : 0 + (128 + n % 128) % 128 * 1 + n / 128 % 128 * (1 * 128) = n := by omega
  rw [e]
theorem rv_cut {s : ByteArray} {a : Nat} (h : a + 1 = s.size) (h0 : 128 ≤ (s[a + 0]'(by omega)).toNat) : (rv s (a : Int)).ok = false := by
  unfold rv
  rw [if_pos ⟨by omega, by omega⟩, Int.toNat_natCast, rvGo, dif_pos (by omega : a + 0 < s.size), if_pos h0, rvGo, dif_neg (by omega)]
  rfl
/-- The number ahead of a frame, as far as it stands there. -/
theorem rv_of {s : ByteArray} {a n : Nat} {R : List UInt8} (hn : 1 ≤ n ∧ n ≤ 900) (hd : s.data.toList.drop a = varL n ++ R) : rv s (a : Int) = ⟨(n : Int), ((a + (varL n).length : Nat) : Int), true⟩ := by
  by_cases h : n ≤ 127
  · rw [varL_small h] at hd ⊢
    obtain ⟨h1, h2⟩ := at_drop (s := s) (a := a) (i := 0) (b := UInt8.ofNat n) (by rw [hd]; rfl)
    exact rv_small h1 (by rw [h2]; simp; omega) h
  · rw [varL_big (by omega), varL_small (by omega)] at hd ⊢
    obtain ⟨h1, h2⟩ := at_drop (s := s) (a := a) (i := 0) (b := UInt8.ofNat (128 + n % 128)) (by rw [hd]; rfl)
    obtain ⟨h3, h4⟩ := at_drop (s := s) (a := a) (i := 1) (b := UInt8.ofNat (n / 128)) (by rw [hd]; rfl)
    exact rv_big h3 (by rw [h2]; simp; omega) (by rw [h4]; simp; omega) (by omega) (by omega)
theorem size_of_drop {s : ByteArray} {a : Nat} {X : List UInt8} (ha : a ≤ s.size) (hd : s.data.toList.drop a = X) : s.size = a + X.length := by
  have := congrArg List.length hd
  rw [List.length_drop, list_size] at this
  omega
theorem extract_drop {s : ByteArray} {a i n : Nat} {A B C : List UInt8} (hd : s.data.toList.drop a = A ++ (B ++ C)) (hi : A.length = i) (hn : B.length = n) : (s.extract (a + i) (a + i + n)).data.toList = B := by
  have h1 : (s.extract (a + i) (a + i + n)).data.toList = (s.data.toList.drop (a + i)).take n := by
    simp only [ByteArray.data_extract, Array.toList_extract]
    rw [List.extract_eq_take_drop, Nat.add_sub_cancel_left]
  rw [h1, ← List.drop_drop, hd, List.drop_append_of_le_length (by omega), ← hi, List.drop_length, List.nil_append, ← hn, List.take_left']
  rfl
theorem frAt_rv {s : ByteArray} {a n p : Nat} (hr : rv s (a : Int) = ⟨(n : Int), (p : Int), true⟩) :
    frAt s (a : Int) = if 1 ≤ n ∧ n ≤ 9000 ∧ n + 4 + p ≤ s.size ∧ s.extract p (p + 4) = fourT (sumOf (s.extract (p + 4) (p + 4 + n))) then ⟨s.extract (p + 4) (p + 4 + n), ((p + 4 + n : Nat) : Int), true⟩ else frNo := by
  unfold frAt
  rw [hr]
  simp only [Int.toNat_natCast, true_and]
  by_cases hc : 1 ≤ n ∧ n ≤ 9000 ∧ n + 4 + p ≤ s.size ∧ s.extract p (p + 4) = fourT (sumOf (s.extract (p + 4) (p + 4 + n)))
  · rw [if_pos hc, if_pos ⟨by omega, by omega, by omega, hc.2.2.2⟩]
    congr 1
  · rw [if_neg hc, if_neg (fun h => hc ⟨by omega, by omega, by omega, h.2.2.2⟩)]
theorem frAt_whole {s t : ByteArray} {a : Nat} {R : List UInt8} (ht : 1 ≤ t.size ∧ t.size ≤ 900) (ha : a ≤ s.size) (hd : s.data.toList.drop a = frL t ++ R) :
    frAt s (a : Int) = ⟨t, ((a + (frL t).length : Nat) : Int), true⟩ := by
  have hl := frL_len t
  have hsz := size_of_drop ha hd
  rw [List.length_append] at hsz
  rw [frL_eq] at hd
  have hd1 : s.data.toList.drop a = varL t.size ++ ((fourT (sumOf t)).data.toList ++ (t.data.toList ++ R)) := by rw [hd]; simp
  rw [frAt_rv (rv_of ht hd1)]
  have e1 : s.extract (a + (varL t.size).length) (a + (varL t.size).length + 4) = fourT (sumOf t) := by
    apply WideShapes.bytes_inj
    exact extract_drop hd1 rfl (four_len t)
  have e2 : s.extract (a + (varL t.size).length + 4) (a + (varL t.size).length + 4 + t.size) = t := by
    apply WideShapes.bytes_inj
    have := extract_drop (s := s) (a := a) (i := (varL t.size).length + 4) (n := t.size) (A := varL t.size ++ (fourT (sumOf t)).data.toList) (B := t.data.toList) (C := R) (by rw [hd1]; simp) (by rw [List.length_append, four_len]) (list_size t)
    rwa [← Nat.add_assoc] at this
  rw [e2, if_pos ⟨ht.1, by omega, by omega, e1⟩]
  congr 1
  rw [hl]
  omega
theorem frAt_part {s t : ByteArray} {a q : Nat} (ht : 1 ≤ t.size ∧ t.size ≤ 900) (ha : a ≤ s.size) (hd : s.data.toList.drop a = (frL t).take q) (hq : q < (frL t).length) : (frAt s (a : Int)).ok = false := by
  have hl := frL_len t
  have hsz := size_of_drop ha hd
  rw [List.length_take] at hsz
  have no : (rv s (a : Int)).ok = false → (frAt s (a : Int)).ok = false := by
    intro h
    unfold frAt
    rw [if_neg (fun h2 => by rw [h] at h2; cases h2.1)]
    rfl
  by_cases hL : (varL t.size).length ≤ q
  · have hd1 : s.data.toList.drop a = varL t.size ++ (((fourT (sumOf t)).data.toList ++ t.data.toList).take (q - (varL t.size).length)) := by
      rw [hd, frL_eq, List.take_append, List.take_of_length_le hL]
    rw [frAt_rv (rv_of ht hd1), if_neg (fun h => by omega)]
    rfl
  · by_cases h1 : t.size ≤ 127
    · rw [varL_small h1] at hL
      simp at hL
      subst hL
      refine no ?_
      unfold rv
      rw [if_pos ⟨by omega, by omega⟩, Int.toNat_natCast, rvGo, dif_neg (by omega)]
      rfl
    · rw [varL_big (by omega), varL_small (by omega)] at hL
      simp at hL
      rcases Nat.lt_or_ge q 1 with h0 | h0
      · refine no ?_
        unfold rv
        rw [if_pos ⟨by omega, by omega⟩, Int.toNat_natCast, rvGo, dif_neg (by omega)]
        rfl
      · obtain rfl : q = 1 := by omega
        have hb : (s.data.toList.drop a)[0]? = some (UInt8.ofNat (128 + t.size % 128)) := by
          rw [hd, frL_eq, varL_big (by omega)]
          rfl
        obtain ⟨h2, h3⟩ := at_drop hb
        exact no (rv_cut (by omega) (by rw [h3]; simp; omega))
/-- The frames that stand wholly in the first k bytes, and where the last of them ends. -/
def whole : List ByteArray → Nat → List ByteArray × Nat
  | [], _ => ([], 0)
  | t :: ts, k => if (frL t).length ≤ k then (t :: (whole ts (k - (frL t).length)).1, (frL t).length + (whole ts (k - (frL t).length)).2) else ([], 0)
theorem unfGo_whole (s : ByteArray) : ∀ (ts : List ByteArray) (k f a : Nat), (∀ t ∈ ts, 1 ≤ t.size ∧ t.size ≤ 900) → a ≤ s.size → s.data.toList.drop a = (ts.flatMap frL).take k → (whole ts k).1.length < f →
    unfGo s f a = ((whole ts k).1, a + (whole ts k).2)
  | _, _, 0, _, _, _, _, hf => absurd hf (by omega)
  | [], k, f + 1, a, _, ha, hd, _ => by
    have hsz := size_of_drop ha hd
    simp at hsz
    rw [unfGo, if_neg]
    · rfl
    · have : (frAt s (a : Int)).ok = false := by
        unfold frAt
        rw [if_neg]
        · rfl
        · intro h
          have h1 := h.1
          unfold rv at h1
          rw [if_pos ⟨by omega, by omega⟩, Int.toNat_natCast, rvGo, dif_neg (by omega)] at h1
          cases h1
      rw [this]
      simp
  | t :: ts, k, f + 1, a, hs, ha, hd, hf => by
    have ht := hs t (by simp)
    rw [List.flatMap_cons] at hd
    by_cases hk : (frL t).length ≤ k
    · have hd1 : s.data.toList.drop a = frL t ++ (ts.flatMap frL).take (k - (frL t).length) := by rw [hd, List.take_append, List.take_of_length_le hk]
      have hw : whole (t :: ts) k = (t :: (whole ts (k - (frL t).length)).1, (frL t).length + (whole ts (k - (frL t).length)).2) := if_pos hk
      rw [hw] at hf ⊢
      have hsz := size_of_drop ha hd1
      rw [List.length_append] at hsz
      rw [unfGo, frAt_whole ht ha hd1]
      simp only [if_true, Int.toNat_natCast]
      rw [unfGo_whole s ts (k - (frL t).length) f (a + (frL t).length) (fun x hx => hs x (by simp [hx])) (by omega) (by rw [← List.drop_drop, hd1, List.drop_left']; rfl) (by simp at hf; omega)]
      simp only [Nat.add_assoc]
    · have hw : whole (t :: ts) k = ([], 0) := if_neg hk
      have hd1 : s.data.toList.drop a = (frL t).take k := by rw [hd, List.take_append_of_le_length (by omega)]
      rw [hw, unfGo, if_neg (by rw [frAt_part ht ha hd1 (by omega)]; simp)]
      rfl
theorem whole_le : ∀ (ts : List ByteArray) (k : Nat), (whole ts k).1.length ≤ (whole ts k).2 ∧ (whole ts k).2 ≤ k
  | [], k => by simp [whole]
  | t :: ts, k => by
    by_cases hk : (frL t).length ≤ k
    · have hw : whole (t :: ts) k = (t :: (whole ts (k - (frL t).length)).1, (frL t).length + (whole ts (k - (frL t).length)).2) := if_pos hk
      have := whole_le ts (k - (frL t).length)
      have hl := frL_len t
      rw [hw]
      simp only [List.length_cons]
      omega
    · have hw : whole (t :: ts) k = ([], 0) := if_neg hk
      rw [hw]
      simp
/-- Frames one behind another, cut off behind k bytes. -/
theorem unf_cut {s : ByteArray} {ts : List ByteArray} {k : Nat} (hs : ∀ t ∈ ts, 1 ≤ t.size ∧ t.size ≤ 900) (hd : s.data.toList = (ts.flatMap frL).take k) (hk : k ≤ (ts.flatMap frL).length) (h2 : s.size ≤ 20000) : unf s = whole ts k := by
  have hsz : s.size = k := by rw [← list_size, hd, List.length_take]; omega
  have := whole_le ts k
  unfold unf
  rw [if_pos h2, unfGo_whole s ts k (s.size + 1) 0 hs (Nat.zero_le _) (by rw [List.drop_zero]; exact hd) (by omega)]
  simp
end Go.Proofs.Ytjgghiniajmfjaa
