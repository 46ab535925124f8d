/- Parcels: who owns a vertex, walks by their owners in sixties: plain lemmas. No condition. -/
import Derived.Test.YtphjlecbhbcbcaaNParcelS
import Derived.Test.YtphjlecbhbcbcaaNum
import Derived.Test.YtphjlecbhbcbcaaSum
namespace Go.Proofs.Ytphjlecbhbcbcaa
open Go.RowKit
set_option linter.unusedVariables false
set_option linter.unusedSimpArgs false
/-- The owner of a vertex among n workers. -/
def owR (v n : Int) : Int := if (1 ≤ n ∧ n ≤ 8) ∧ 0 ≤ v ∧ v ≤ 11 then (sumOf (vText v) : Int) % n else 0
theorem owR_ge (v n : Int) : 0 ≤ owR v n := by
  unfold owR
  split
  · rename_i h; exact Int.emod_nonneg _ (by omega)
  · exact Int.le_refl _
theorem owR_lt (v n : Int) : owR v n ≤ 7 := by
  unfold owR
  split
  · rename_i h; have := Int.emod_lt_of_pos (sumOf (vText v) : Int) (show 0 < n by omega); omega
  · omega
def chunk (l : List WalkR) : List (List WalkR) := if h : l = [] then [] else l.take 60 :: chunk (l.drop 60)
termination_by l.length
decreasing_by
  have : 0 < l.length := List.length_pos_iff.2 h
  simp only [List.length_drop]; omega
theorem chunk_nil : chunk [] = [] := by unfold chunk; simp
theorem chunk_step {l : List WalkR} (h : 0 < l.length) : chunk l = l.take 60 :: chunk (l.drop 60) := by
  rw [chunk, dif_neg (List.length_pos_iff.1 h)]
theorem chunk_full {a r : List WalkR} (h : a.length = 60) : chunk (a ++ r) = a :: chunk r := by
  rw [chunk_step (by rw [List.length_append]; omega), List.take_append_of_le_length (by omega), List.take_of_length_le (by omega), List.drop_append_of_le_length (by omega), List.drop_of_length_le (by omega), List.nil_append]
theorem chunk_small {a : List WalkR} (h : 0 < a.length) (h2 : a.length ≤ 60) : chunk a = [a] := by
  rw [chunk_step h, List.take_of_length_le h2, List.drop_of_length_le h2, chunk_nil]
theorem ParcelSCnt_append (a b : List ParcelD) : ParcelSCnt (a ++ b) = ParcelSCnt a + ParcelSCnt b := by simp [ParcelSCnt]
theorem chunk_cnt (t : Int) : ∀ (n : Nat) (l : List WalkR), l.length ≤ n → (chunk l).length ≤ l.length ∧ ParcelSCnt ((chunk l).map (ParcelD.mk t)) ≤ 5 * l.length := by
  intro n
  induction n with
  | zero =>
    intro l h
    have : l = [] := List.eq_nil_of_length_eq_zero (by omega)
    subst this
    rw [chunk_nil]
    simp [ParcelSCnt]
  | succ n ih =>
    intro l h
    rcases Nat.eq_zero_or_pos l.length with h0 | h0
    · have : l = [] := List.eq_nil_of_length_eq_zero h0
      subst this
      rw [chunk_nil]
      simp [ParcelSCnt]
    · rw [chunk_step h0]
      obtain ⟨h1, h2⟩ := ih (l.drop 60) (by simp only [List.length_drop]; omega)
      rw [List.map_cons, ParcelSCnt_cons]
      unfold ParcelCnt1
      simp only [List.length_cons, List.length_drop, List.length_take] at h1 h2 ⊢
      omega
def parW (l : List WalkR) (n t : Int) : List WalkR := l.filter fun w => owR w.f2 n == t
theorem parW_len (l : List WalkR) (n t : Int) : (parW l n t).length ≤ l.length := List.length_filter_le _ _
def parO (l : List WalkR) (n t : Int) : List ParcelD := (chunk (parW l n t)).map (ParcelD.mk t)
def parL (l : List WalkR) (n : Int) : Nat → List ParcelD
  | 0 => []
  | t + 1 => parL l n t ++ parO l n t
def parAll (l : List WalkR) (n : Int) : List ParcelD := parL l n (max 0 (min n 8)).toNat
theorem parO_cnt (l : List WalkR) (n t : Int) : (parO l n t).length ≤ l.length ∧ ParcelSCnt (parO l n t) ≤ 5 * l.length := by
  have h := chunk_cnt t _ (parW l n t) (Nat.le_refl _)
  have := parW_len l n t
  unfold parO
  rw [List.length_map]
  omega
theorem parL_cnt (l : List WalkR) (n : Int) : ∀ t, (parL l n t).length ≤ t * l.length ∧ ParcelSCnt (parL l n t) ≤ t * (5 * l.length)
  | 0 => by simp [parL, ParcelSCnt]
  | t + 1 => by
    have h1 := parL_cnt l n t
    have h2 := parO_cnt l n t
    rw [parL, ParcelSCnt_append, List.length_append, Nat.add_mul, Nat.add_mul]
    omega
theorem parL_mono (l : List WalkR) (n : Int) (t : Nat) (ht : t ≤ 8) : (parL l n t).length ≤ 8 * l.length := by
  have := (parL_cnt l n t).1
  have h2 := Nat.mul_le_mul_right l.length ht
  omega
theorem parAll_cnt (l : List WalkR) (n : Int) (h : l.length ≤ 1048576) : ParcelSCnt (parAll l n) ≤ 100000000 := by
  have := (parL_cnt l n (max 0 (min n 8)).toNat).2
  have h2 := Nat.mul_le_mul_right (5 * l.length) (show (max 0 (min n 8)).toNat ≤ 8 by omega)
  unfold parAll
  omega
theorem walk_drop {l : List WalkR} {k : Nat} (h : k < l.length) : l.drop k = walkAt l k :: l.drop (k + 1) := by
  rw [List.drop_eq_getElem_cons h]
  simp [walkAt, List.getD, List.getElem?_eq_getElem h]
theorem parW_skip {l : List WalkR} {k : Nat} {n t : Int} (h : k < l.length) (ht : owR (walkAt l k).f2 n ≠ t) : parW (l.drop k) n t = parW (l.drop (k + 1)) n t := by
  rw [walk_drop h]
  unfold parW
  rw [List.filter_cons_of_neg (by simpa using ht)]
theorem parW_hit {l : List WalkR} {k : Nat} {n t : Int} (h : k < l.length) (ht : owR (walkAt l k).f2 n = t) : parW (l.drop k) n t = walkAt l k :: parW (l.drop (k + 1)) n t := by
  rw [walk_drop h]
  unfold parW
  rw [List.filter_cons_of_pos (by simpa using ht)]
theorem parW_end (l : List WalkR) (n t : Int) : parW (l.drop l.length) n t = [] := by simp [parW]
theorem walk_take (xs : List WalkR) (i : Nat) : (xs.take i).flatMap WalkR.cells = (xs.flatMap WalkR.cells).take (i * 4) := by
  induction xs generalizing i with
  | nil => simp
  | cons x xs ih =>
    cases i with
    | zero => simp
    | succ i =>
      rw [List.flatMap_cons, List.take_succ_cons, List.flatMap_cons, ih i]
      have hl : x.cells.length = 4 := rfl
      rw [List.take_append, hl, show (i + 1) * 4 - 4 = i * 4 by omega, List.take_of_length_le (l := x.cells) (by rw [hl]; omega)]
theorem walk_dropc (xs : List WalkR) (i : Nat) : (xs.drop i).flatMap WalkR.cells = (xs.flatMap WalkR.cells).drop (i * 4) := by
  induction xs generalizing i with
  | nil => simp
  | cons x xs ih =>
    cases i with
    | zero => simp
    | succ i =>
      rw [List.drop_succ_cons, List.flatMap_cons, ih i]
      have hl : x.cells.length = 4 := rfl
      rw [List.drop_append, hl, show (i + 1) * 4 - 4 = i * 4 by omega, List.drop_of_length_le (l := x.cells) (by rw [hl]; omega), List.nil_append]
theorem WalksR.take {w : World} {ao : Option Addr} {n cap : Nat} {ls : List WalkR} (h : WalksR w (.slice ao n cap) ls) (m c : Nat) (hm : m ≤ ls.length) (hc : m ≤ c) (hc2 : c ≤ maxLen) : WalksR w (.slice ao m c) (ls.take m) := by
  have hn : n = ls.length := by obtain ⟨_, _, _, hv, _⟩ := h; cases hv; rfl
  subst hn
  obtain ⟨h1, ao', cap', hv, h2, h3, h4⟩ := h
  cases hv
  have hmz : m * 4 ≤ ls.length * 4 := Nat.mul_le_mul_right 4 hm
  unfold WalksR
  rw [walk_take, show (ls.take m).length = m by simp; omega]
  refine ⟨by rw [List.length_take]; omega, ao, c, rfl, hc, hc2, fun hn => ?_⟩
  obtain ⟨b, o, hb, hs, hcl⟩ := h4 (by omega)
  refine ⟨b, o, hb, hs, fun j hj => ?_⟩
  rw [hcl j (by omega), List.getElem?_take_of_lt (by omega)]
theorem WalksR.drop {w : World} {b o : Nat} {n cap : Nat} {ls : List WalkR} (h : WalksR w (.slice (some ⟨b, o, none⟩) n cap) ls) (m c : Nat) (hm : m ≤ ls.length) (hc : ls.length - m ≤ c) (hc2 : c ≤ maxLen) : WalksR w (.slice (some ⟨b, o + m * 4, none⟩) (ls.length - m) c) (ls.drop m) := by
  have hn : n = ls.length := by obtain ⟨_, _, _, hv, _⟩ := h; cases hv; rfl
  subst hn
  obtain ⟨h1, ao', cap', hv, h2, h3, h4⟩ := h
  cases hv
  have hmz : m * 4 ≤ ls.length * 4 := Nat.mul_le_mul_right 4 hm
  unfold WalksR
  rw [walk_dropc, show (ls.drop m).length = ls.length - m by simp]
  refine ⟨by rw [List.length_drop, Nat.sub_mul]; omega, _, c, rfl, hc, hc2, fun hn => ?_⟩
  obtain ⟨b', o', hb, hs, hcl⟩ := h4 (by omega)
  cases hb
  refine ⟨b, _, rfl, hs, fun j hj => ?_⟩
  rw [Nat.sub_mul] at hj
  rw [Nat.add_assoc, hcl (m * 4 + j) (by omega), List.getElem?_drop]
def lenV : Value → Nat
  | .slice _ n _ => n
  | _ => 0
end Go.Proofs.Ytphjlecbhbcbcaa
