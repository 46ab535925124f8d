/- Texts in one: Str, Flat. -/
import Derived.Test.YtjgghiniajmfjaaKBase
import Derived.Deep.QuietTactic
import Derived.BigQuiet
import Derived.Deep.RegionHeld3
/- Contracts of the laws' own helpers on slices of strings: size, copy, comparison, marks. No condition but the sizes that the reading gives. -/
namespace Go.Proofs.Ytjgghiniajmfjaa
open Go.RowKit
set_option linter.unusedVariables false
set_option linter.unusedSimpArgs false

theorem info_string : (Try.prog.info? 9).map (fun i => (i.zero, i.size, i.bytes)) = some (some (.string ⟨#[]⟩), 1, 16) := by kernel_rfl


/-- A slice of strings of the call's own, made from block lo on. -/
def StrsO (w : World) (lo : Nat) (v : Value) (ss : List ByteArray) : Prop := w.ownsRow lo 9 1 v ss.length (ss.map Value.string)
theorem StrsO.val {w : World} {lo : Nat} {v : Value} {ss : List ByteArray} (h : StrsO w lo v ss) : ∃ ao cap, v = .slice ao ss.length cap := owns_val h
theorem StrsO.fr {w w' : World} {lo : Nat} {v : Value} {ss : List ByteArray} (h : StrsO w lo v ss) (hf : Fr w w') : StrsO w' lo v ss := owns_fr h hf
theorem StrsO.rd {w : World} {lo : Nat} {v : Value} {ss : List ByteArray} (h : StrsO w lo v ss) : StrsR w v ss := RdS.of_owns h


/-- The marks that a slice of n strings bears, the first of them k. -/
def marksS (k : Int) (n : Nat) : List ByteArray := (List.range n).map fun i : Nat => mTextI (k + i)
theorem marksS_length (k : Int) (n : Nat) : (marksS k n).length = n := by simp [marksS]
theorem marksS_at (k : Int) (n j : Nat) (h : j < n) : sAt (marksS k n) j = mTextI (k + j) := by simp [marksS, sAt, List.getD, h]

/-- A slice is written in place: its old cells up to k marked, the rest as it was. -/
def part (new old : List Value) (k : Nat) : List Value := new.take k ++ old.drop k
theorem part_zero (new old : List Value) : part new old 0 = old := by simp [part]
theorem part_all (new old : List Value) (n : Nat) (h1 : new.length = n) (h2 : old.length = n) : part new old n = new := by simp [part, ← h1, List.drop_of_length_le (show old.length ≤ new.length by omega)]
theorem part_set (new old : List Value) (k n : Nat) (u : Value) (hk : k < n) (h1 : new.length = n) (h2 : old.length = n) (hu : new[k]? = some u) : (part new old k).set k u = part new old (k + 1) := by
  have hl : (new.take k).length = k := by simp; omega
  unfold part
  rw [List.set_append_right _ _ (by omega), hl, Nat.sub_self, List.drop_eq_getElem_cons (show k < old.length by omega), List.set_cons_zero]
  obtain ⟨hk', rfl⟩ := List.getElem?_eq_some_iff.1 hu
  rw [List.take_succ_eq_append_getElem hk', List.append_assoc]
  rfl
end Go.Proofs.Ytjgghiniajmfjaa

/- Contracts of the laws' own helpers on slices of ints and of bools: size, copy, comparison, marks. No condition but the sizes that the reading gives. (Printed by mk_flat.py.) -/
namespace Go.Proofs.Ytjgghiniajmfjaa
open Go.RowKit
set_option linter.unusedVariables false
set_option linter.unusedSimpArgs false

theorem info_int : (Try.prog.info? 3).map (fun i => (i.zero, i.size, i.bytes)) = some (some (.int .i64 0), 1, 8) := by kernel_rfl
/-- A slice of the call's own, made from block lo on. -/
def IntsO (w : World) (lo : Nat) (v : Value) (ss : List Int) : Prop := w.ownsRow lo 3 1 v ss.length (ss.map (Value.int .i64))
theorem IntsO.rd {w : World} {lo : Nat} {v : Value} {ss : List Int} (h : IntsO w lo v ss) : IntsR w v ss := RdS.of_owns h
theorem IntsO.val {w : World} {lo : Nat} {v : Value} {ss : List Int} (h : IntsO w lo v ss) : ∃ ao cap, v = .slice ao ss.length cap := owns_val h
theorem IntsO.fr {w w' : World} {lo : Nat} {v : Value} {ss : List Int} (h : IntsO w lo v ss) (hf : Fr w w') : IntsO w' lo v ss := owns_fr h hf


theorem info_bool : (Try.prog.info? 4).map (fun i => (i.zero, i.size, i.bytes)) = some (some (.bool false), 1, 1) := by kernel_rfl
/-- A slice of the call's own, made from block lo on. -/
def BoolsO (w : World) (lo : Nat) (v : Value) (ss : List Bool) : Prop := w.ownsRow lo 4 1 v ss.length (ss.map (Value.bool))
theorem BoolsO.rd {w : World} {lo : Nat} {v : Value} {ss : List Bool} (h : BoolsO w lo v ss) : BoolsR w v ss := RdS.of_owns h
theorem BoolsO.val {w : World} {lo : Nat} {v : Value} {ss : List Bool} (h : BoolsO w lo v ss) : ∃ ao cap, v = .slice ao ss.length cap := owns_val h
theorem BoolsO.fr {w w' : World} {lo : Nat} {v : Value} {ss : List Bool} (h : BoolsO w lo v ss) (hf : Fr w w') : BoolsO w' lo v ss := owns_fr h hf

end Go.Proofs.Ytjgghiniajmfjaa
