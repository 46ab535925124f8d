/- The interface of slices of strings, ints and bools. (Printed by mk_types.py.) No condition but the sizes that the reading gives. -/
import Derived.Test.YthcbnilmhenpgaaApp
namespace Go.Proofs.Ythcbnilmhenpgaa
open Go.RowKit
set_option linter.unusedVariables false
set_option linter.unusedSimpArgs false

def StrsW (w : World) (lo hi : Nat) (v : Value) (xs : List ByteArray) : Prop := OwW w lo hi 9 1 v xs.length (xs.map Value.string)
theorem StrsW.rd {w : World} {lo hi : Nat} {v : Value} {xs : List ByteArray} (h : StrsW w lo hi v xs) : StrsR w v xs := OwW.rd h
theorem StrsW.val {w : World} {lo hi : Nat} {v : Value} {xs : List ByteArray} (h : StrsW w lo hi v xs) : ∃ ao cap, v = .slice ao xs.length cap := OwW.val h
theorem StrsW.fr {w w' : World} {lo hi : Nat} {v : Value} {xs : List ByteArray} (h : StrsW w lo hi v xs) (hf : Fr w w') : StrsW w' lo hi v xs := OwW.fr h hf
theorem StrsW.span {w w' : World} {lo hi : Nat} {v : Value} {xs : List ByteArray} (h : StrsW w lo hi v xs) {a b : Nat} (s : Span a b w w') (hd : hi ≤ a ∨ b ≤ lo) : StrsW w' lo hi v xs := OwW.span h s hd
theorem StrsW.nil (w : World) (lo hi : Nat) : StrsW w lo hi (.slice none 0 0) [] := OwW.nil _ _ _ _ _
def IntsW (w : World) (lo hi : Nat) (v : Value) (xs : List Int) : Prop := OwW w lo hi 3 1 v xs.length (xs.map (Value.int .i64))
theorem IntsW.rd {w : World} {lo hi : Nat} {v : Value} {xs : List Int} (h : IntsW w lo hi v xs) : IntsR w v xs := OwW.rd h
theorem IntsW.val {w : World} {lo hi : Nat} {v : Value} {xs : List Int} (h : IntsW w lo hi v xs) : ∃ ao cap, v = .slice ao xs.length cap := OwW.val h
theorem IntsW.fr {w w' : World} {lo hi : Nat} {v : Value} {xs : List Int} (h : IntsW w lo hi v xs) (hf : Fr w w') : IntsW w' lo hi v xs := OwW.fr h hf
theorem IntsW.span {w w' : World} {lo hi : Nat} {v : Value} {xs : List Int} (h : IntsW w lo hi v xs) {a b : Nat} (s : Span a b w w') (hd : hi ≤ a ∨ b ≤ lo) : IntsW w' lo hi v xs := OwW.span h s hd
theorem IntsW.nil (w : World) (lo hi : Nat) : IntsW w lo hi (.slice none 0 0) [] := OwW.nil _ _ _ _ _
theorem toIntS_w (a : Value) (xs : List Int) (w : World) (ha : IntsR w a xs) (hn : xs.length ≤ 1048576) :
    Calls Try.prog 22 #[a] w fun e w' => ∃ ao cap, e = .returned (.slice ao xs.length cap) ∧ IntsW w' w.heap.size w'.heap.size (.slice ao xs.length cap) xs ∧ Fr w w' :=
  (toIntS_any a xs w ha hn).mono fun e w' h => by
    obtain ⟨v, rfl, ho, hf⟩ := h
    obtain ⟨ao, cap, rfl⟩ := ho.val
    exact ⟨ao, cap, rfl, OwW.of_owns ho, hf⟩
theorem eqIntS_same (a b : Value) (xs : List Int) (w : World) (ha : IntsR w a xs) (hb : IntsR w b xs) :
    Calls Try.prog 24 #[a, b] w fun e w' => e = .returned (.bool true) ∧ Fr w w' :=
  (eqIntS_any a b xs xs w ha hb).mono fun e w' h => ⟨by rw [h.1, decide_eq_true rfl], h.2⟩
def mkInts (k : Int) (n : Nat) : List Int := marksInt k n
theorem mkInts_length (k : Int) (n : Nat) : (mkInts k n).length = n := marksInt_length k n
theorem markIntS_w (v : Value) (xs : List Int) (k : Int) (lo hi : Nat) (w : World) (ha : IntsW w lo hi v xs) (h0 : 0 < k) (h1 : k + 1 * xs.length ≤ 1073741824) :
    Calls Try.prog 25 #[v, .int .i64 k] w fun e w' => e = .returned (.int .i64 (k + 1 * xs.length)) ∧ IntsW w' lo hi v (mkInts k xs.length) ∧ Span lo hi w w' :=
  (markInts_any v xs k lo w ha.1 h0 (by omega) (by omega)).mono fun e w' h => ⟨by rw [Int.one_mul]; exact h.1, ⟨h.2.1, ha.2⟩, Span.of_gr h.2.2 ha.2⟩
def BoolsW (w : World) (lo hi : Nat) (v : Value) (xs : List Bool) : Prop := OwW w lo hi 4 1 v xs.length (xs.map Value.bool)
theorem BoolsW.rd {w : World} {lo hi : Nat} {v : Value} {xs : List Bool} (h : BoolsW w lo hi v xs) : BoolsR w v xs := OwW.rd h
theorem BoolsW.val {w : World} {lo hi : Nat} {v : Value} {xs : List Bool} (h : BoolsW w lo hi v xs) : ∃ ao cap, v = .slice ao xs.length cap := OwW.val h
theorem BoolsW.fr {w w' : World} {lo hi : Nat} {v : Value} {xs : List Bool} (h : BoolsW w lo hi v xs) (hf : Fr w w') : BoolsW w' lo hi v xs := OwW.fr h hf
theorem BoolsW.span {w w' : World} {lo hi : Nat} {v : Value} {xs : List Bool} (h : BoolsW w lo hi v xs) {a b : Nat} (s : Span a b w w') (hd : hi ≤ a ∨ b ≤ lo) : BoolsW w' lo hi v xs := OwW.span h s hd
theorem BoolsW.nil (w : World) (lo hi : Nat) : BoolsW w lo hi (.slice none 0 0) [] := OwW.nil _ _ _ _ _
end Go.Proofs.Ythcbnilmhenpgaa
