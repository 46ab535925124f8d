/- The interface of slices of strings, ints and bools. (Printed by mk_types.py.) No condition but the sizes that the reading gives. -/
import Derived.Test.YtjgghiniajmfjaaKApp
namespace Go.Proofs.Ytjgghiniajmfjaa
open Go.RowKit
set_option linter.unusedVariables false
set_option linter.unusedSimpArgs false

def StrsW (w : World) (lo hi : Nat) (v : Value) (xs : List ByteArray) : Prop := OwW w lo hi 9 1 v xs.length (xs.map Value.string)
theorem StrsW.rd {w : World} {lo hi : Nat} {v : Value} {xs : List ByteArray} (h : StrsW w lo hi v xs) : StrsR w v xs := OwW.rd h
theorem StrsW.val {w : World} {lo hi : Nat} {v : Value} {xs : List ByteArray} (h : StrsW w lo hi v xs) : ∃ ao cap, v = .slice ao xs.length cap := OwW.val h
theorem StrsW.fr {w w' : World} {lo hi : Nat} {v : Value} {xs : List ByteArray} (h : StrsW w lo hi v xs) (hf : Fr w w') : StrsW w' lo hi v xs := OwW.fr h hf
theorem StrsW.span {w w' : World} {lo hi : Nat} {v : Value} {xs : List ByteArray} (h : StrsW w lo hi v xs) {a b : Nat} (s : Span a b w w') (hd : hi ≤ a ∨ b ≤ lo) : StrsW w' lo hi v xs := OwW.span h s hd
theorem StrsW.nil (w : World) (lo hi : Nat) : StrsW w lo hi (.slice none 0 0) [] := OwW.nil _ _ _ _ _
def IntsW (w : World) (lo hi : Nat) (v : Value) (xs : List Int) : Prop := OwW w lo hi 3 1 v xs.length (xs.map (Value.int .i64))
theorem IntsW.rd {w : World} {lo hi : Nat} {v : Value} {xs : List Int} (h : IntsW w lo hi v xs) : IntsR w v xs := OwW.rd h
theorem IntsW.val {w : World} {lo hi : Nat} {v : Value} {xs : List Int} (h : IntsW w lo hi v xs) : ∃ ao cap, v = .slice ao xs.length cap := OwW.val h
theorem IntsW.fr {w w' : World} {lo hi : Nat} {v : Value} {xs : List Int} (h : IntsW w lo hi v xs) (hf : Fr w w') : IntsW w' lo hi v xs := OwW.fr h hf
theorem IntsW.span {w w' : World} {lo hi : Nat} {v : Value} {xs : List Int} (h : IntsW w lo hi v xs) {a b : Nat} (s : Span a b w w') (hd : hi ≤ a ∨ b ≤ lo) : IntsW w' lo hi v xs := OwW.span h s hd
theorem IntsW.nil (w : World) (lo hi : Nat) : IntsW w lo hi (.slice none 0 0) [] := OwW.nil _ _ _ _ _
def BoolsW (w : World) (lo hi : Nat) (v : Value) (xs : List Bool) : Prop := OwW w lo hi 4 1 v xs.length (xs.map Value.bool)
theorem BoolsW.rd {w : World} {lo hi : Nat} {v : Value} {xs : List Bool} (h : BoolsW w lo hi v xs) : BoolsR w v xs := OwW.rd h
theorem BoolsW.val {w : World} {lo hi : Nat} {v : Value} {xs : List Bool} (h : BoolsW w lo hi v xs) : ∃ ao cap, v = .slice ao xs.length cap := OwW.val h
theorem BoolsW.fr {w w' : World} {lo hi : Nat} {v : Value} {xs : List Bool} (h : BoolsW w lo hi v xs) (hf : Fr w w') : BoolsW w' lo hi v xs := OwW.fr h hf
theorem BoolsW.span {w w' : World} {lo hi : Nat} {v : Value} {xs : List Bool} (h : BoolsW w lo hi v xs) {a b : Nat} (s : Span a b w w') (hd : hi ≤ a ∨ b ≤ lo) : BoolsW w' lo hi v xs := OwW.span h s hd
theorem BoolsW.nil (w : World) (lo hi : Nat) : BoolsW w lo hi (.slice none 0 0) [] := OwW.nil _ _ _ _ _
end Go.Proofs.Ytjgghiniajmfjaa
