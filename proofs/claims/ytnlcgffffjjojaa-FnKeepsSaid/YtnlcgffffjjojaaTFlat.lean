/- The interface of slices of strings, ints and bools. (Printed by mk_types.py.) No condition but the sizes that the reading gives. -/
import Derived.Test.YtnlcgffffjjojaaApp
namespace Go.Proofs.Ytnlcgffffjjojaa
open Go.RowKit
set_option linter.unusedVariables false
set_option linter.unusedSimpArgs false

def StrsW (w : World) (lo hi : Nat) (v : Value) (xs : List ByteArray) : Prop := OwW w lo hi 9 1 v xs.length (xs.map Value.string)
theorem StrsW.rd {w : World} {lo hi : Nat} {v : Value} {xs : List ByteArray} (h : StrsW w lo hi v xs) : StrsR w v xs := OwW.rd h
theorem StrsW.val {w : World} {lo hi : Nat} {v : Value} {xs : List ByteArray} (h : StrsW w lo hi v xs) : ∃ ao cap, v = .slice ao xs.length cap := OwW.val h
theorem StrsW.fr {w w' : World} {lo hi : Nat} {v : Value} {xs : List ByteArray} (h : StrsW w lo hi v xs) (hf : Fr w w') : StrsW w' lo hi v xs := OwW.fr h hf
theorem StrsW.span {w w' : World} {lo hi : Nat} {v : Value} {xs : List ByteArray} (h : StrsW w lo hi v xs) {a b : Nat} (s : Span a b w w') (hd : hi ≤ a ∨ b ≤ lo) : StrsW w' lo hi v xs := OwW.span h s hd
theorem StrsW.nil (w : World) (lo hi : Nat) : StrsW w lo hi (.slice none 0 0) [] := OwW.nil _ _ _ _ _
set_option maxHeartbeats 1000000 in
set_option maxRecDepth 100000 in
theorem cloneStr_w (v : Value) (xs : List ByteArray) (w : World) (hv : StrsR w v xs) (hn : xs.length ≤ 1048576) :
    Calls Try.prog 172 #[v] w fun e w' => ∃ ao cap, e = .returned (.slice ao xs.length cap) ∧ StrsW w' w.heap.size w'.heap.size (.slice ao xs.length cap) xs ∧ Fr w w' := by
  obtain ⟨ao, cap, rfl, hnil⟩ := RdS.val hv
  obtain ⟨i0, hi, hz0, hz1, hz2⟩ := info_parts info_string
  have q : ∀ (w : World) (a : Option Addr) (n c n' c' : Nat), (binOp .eql 47 (.slice a n c) (.slice none n' c')).run Try.prog w = .ok (.bool a.isNone) w := fun w a n c n' c' => Lib.run_eql_slice_nil w _ _ a n c n' c' Try.underlying47
  cases ao with
  | none =>
    have h3 : xs = [] := List.eq_nil_of_length_eq_zero (hnil rfl)
    subst h3
    clear hnil hv
    go_enter Try.func172, Try.ntmps172
    go_wp2
    go_ret
    exact ⟨none, 0, rfl, StrsW.nil _ _ _, by repeat (first | (with_reducible exact Fr.refl _) | (with_reducible assumption) | (with_reducible refine Fr.drewN ?_ _) | (with_reducible refine Fr.drew ?_) | (with_reducible refine Fr.alloc ?_ _) | (with_reducible refine Fr.setCell ?_ (by (first | (with_reducible assumption) | omega | (simp only [World.size_alloc, World.size_setCell, World.size_drew, World.heap_drewN]; omega) | (simp; done) | (simp; omega))) _) | (with_reducible refine Fr.trans ?_ (by with_reducible assumption)))⟩
  | some a =>
    clear hnil
    have HV := Lib.hid hv
    clear hv
    go_enter Try.func172, Try.ntmps172
    go_wp2_with (at_builtin; refine wpList_append_rd rfl _ _ 47 rfl w.heap.size 9 i0 (.string ⟨#[]⟩) 1 16 Try.underlying47 hi hz0 hz1 hz2 rfl (by decide) (.slice (some ⟨w.heap.size, 0, none⟩) 0 0) 0 [] rfl (World.ownsRow_made w #[] 0 (Nat.le_refl _) (Nat.zero_le _) rfl) _ xs.length (xs.map Value.string) rfl (RdS.fr HV.out (by repeat (first | (with_reducible exact Fr.refl _) | (with_reducible assumption) | (with_reducible refine Fr.drewN ?_ _) | (with_reducible refine Fr.drew ?_) | (with_reducible refine Fr.alloc ?_ _) | (with_reducible refine Fr.setCell ?_ (by (first | (with_reducible assumption) | omega | (simp only [World.size_alloc, World.size_setCell, World.size_drew, World.heap_drewN]; omega) | (simp; done) | (simp; omega))) _) | (with_reducible refine Fr.trans ?_ (by with_reducible assumption))))) (oneCells_str _) (by unfold maxLen; omega) (by omega) (by (first | (with_reducible assumption) | omega | (simp only [World.size_alloc, World.size_setCell, World.size_drew, World.heap_drewN]; omega) | (simp; done) | (simp; omega))) ?_; intro ao' cap' w1 hown hgrow hat)
    go_ret
    simp only [Nat.zero_add] at hown ⊢
    exact ⟨ao', cap', rfl, OwW.of_owns (by simpa using hown), ((Fr.refl _).alloc _).grown hgrow (by intro k hk; simp [Value.ownBlock] at hk; omega)⟩
def IntsW (w : World) (lo hi : Nat) (v : Value) (xs : List Int) : Prop := OwW w lo hi 3 1 v xs.length (xs.map (Value.int .i64))
theorem IntsW.rd {w : World} {lo hi : Nat} {v : Value} {xs : List Int} (h : IntsW w lo hi v xs) : IntsR w v xs := OwW.rd h
theorem IntsW.val {w : World} {lo hi : Nat} {v : Value} {xs : List Int} (h : IntsW w lo hi v xs) : ∃ ao cap, v = .slice ao xs.length cap := OwW.val h
theorem IntsW.fr {w w' : World} {lo hi : Nat} {v : Value} {xs : List Int} (h : IntsW w lo hi v xs) (hf : Fr w w') : IntsW w' lo hi v xs := OwW.fr h hf
theorem IntsW.span {w w' : World} {lo hi : Nat} {v : Value} {xs : List Int} (h : IntsW w lo hi v xs) {a b : Nat} (s : Span a b w w') (hd : hi ≤ a ∨ b ≤ lo) : IntsW w' lo hi v xs := OwW.span h s hd
theorem IntsW.nil (w : World) (lo hi : Nat) : IntsW w lo hi (.slice none 0 0) [] := OwW.nil _ _ _ _ _
def BoolsW (w : World) (lo hi : Nat) (v : Value) (xs : List Bool) : Prop := OwW w lo hi 4 1 v xs.length (xs.map Value.bool)
theorem BoolsW.rd {w : World} {lo hi : Nat} {v : Value} {xs : List Bool} (h : BoolsW w lo hi v xs) : BoolsR w v xs := OwW.rd h
theorem BoolsW.val {w : World} {lo hi : Nat} {v : Value} {xs : List Bool} (h : BoolsW w lo hi v xs) : ∃ ao cap, v = .slice ao xs.length cap := OwW.val h
theorem BoolsW.fr {w w' : World} {lo hi : Nat} {v : Value} {xs : List Bool} (h : BoolsW w lo hi v xs) (hf : Fr w w') : BoolsW w' lo hi v xs := OwW.fr h hf
theorem BoolsW.span {w w' : World} {lo hi : Nat} {v : Value} {xs : List Bool} (h : BoolsW w lo hi v xs) {a b : Nat} (s : Span a b w w') (hd : hi ≤ a ∨ b ≤ lo) : BoolsW w' lo hi v xs := OwW.span h s hd
theorem BoolsW.nil (w : World) (lo hi : Nat) : BoolsW w lo hi (.slice none 0 0) [] := OwW.nil _ _ _ _ _
end Go.Proofs.Ytnlcgffffjjojaa
