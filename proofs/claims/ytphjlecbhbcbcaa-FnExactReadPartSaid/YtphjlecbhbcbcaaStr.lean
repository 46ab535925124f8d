/- Contracts of the laws' own helpers on slices of strings: size, copy, comparison, marks. No condition but the sizes that the reading gives. -/
import Derived.Test.YtphjlecbhbcbcaaRd
import Derived.Deep.QuietTactic
import Derived.BigQuiet
import Derived.Deep.RegionHeld3
import Derived.Test.YtphjlecbhbcbcaaMark
namespace Go.Proofs.Ytphjlecbhbcbcaa
open Go.RowKit
set_option linter.unusedVariables false
set_option linter.unusedSimpArgs false

theorem info_string : (Try.prog.info? 9).map (fun i => (i.zero, i.size, i.bytes)) = some (some (.string ⟨#[]⟩), 1, 16) := by kernel_rfl


/-- A slice of strings of the call's own, made from block lo on. -/
def StrsO (w : World) (lo : Nat) (v : Value) (ss : List ByteArray) : Prop := w.ownsRow lo 9 1 v ss.length (ss.map Value.string)
theorem StrsO.val {w : World} {lo : Nat} {v : Value} {ss : List ByteArray} (h : StrsO w lo v ss) : ∃ ao cap, v = .slice ao ss.length cap := owns_val h
theorem StrsO.fr {w w' : World} {lo : Nat} {v : Value} {ss : List ByteArray} (h : StrsO w lo v ss) (hf : Fr w w') : StrsO w' lo v ss := owns_fr h hf
theorem StrsO.rd {w : World} {lo : Nat} {v : Value} {ss : List ByteArray} (h : StrsO w lo v ss) : StrsR w v ss := RdS.of_owns h


/-- The marks that a slice of n strings bears, the first of them k. -/
def marksS (k : Int) (n : Nat) : List ByteArray := (List.range n).map fun i : Nat => mTextI (k + i)
theorem marksS_length (k : Int) (n : Nat) : (marksS k n).length = n := by simp [marksS]
theorem marksS_at (k : Int) (n j : Nat) (h : j < n) : sAt (marksS k n) j = mTextI (k + j) := by simp [marksS, sAt, List.getD, h]

/-- A slice is written in place: its old cells up to k marked, the rest as it was. -/
def part (new old : List Value) (k : Nat) : List Value := new.take k ++ old.drop k
theorem part_zero (new old : List Value) : part new old 0 = old := by simp [part]
theorem part_all (new old : List Value) (n : Nat) (h1 : new.length = n) (h2 : old.length = n) : part new old n = new := by simp [part, ← h1, List.drop_of_length_le (show old.length ≤ new.length by omega)]
theorem part_set (new old : List Value) (k n : Nat) (u : Value) (hk : k < n) (h1 : new.length = n) (h2 : old.length = n) (hu : new[k]? = some u) : (part new old k).set k u = part new old (k + 1) := by
  have hl : (new.take k).length = k := by simp; omega
  unfold part
  rw [List.set_append_right _ _ (by omega), hl, Nat.sub_self, List.drop_eq_getElem_cons (show k < old.length by omega), List.set_cons_zero]
  obtain ⟨hk', rfl⟩ := List.getElem?_eq_some_iff.1 hu
  rw [List.take_succ_eq_append_getElem hk', List.append_assoc]
  rfl
end Go.Proofs.Ytphjlecbhbcbcaa
