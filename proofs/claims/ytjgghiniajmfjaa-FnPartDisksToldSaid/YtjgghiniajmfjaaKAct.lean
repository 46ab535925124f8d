/- Texts in one: SAct, TAct. -/
import Derived.Test.YtjgghiniajmfjaaKFlat
import Derived.Test.YtjgghiniajmfjaaOk
import Derived.Deep.QuietTactic
import Derived.BigQuiet
import Derived.Deep.RegionHeld3
import Derived.Test.YtjgghiniajmfjaaKApp
/- The struct Act and slices of it: what they read as; the laws' helpers. No condition but the sizes that the reading gives. (Printed by mk_structs.py.) -/
namespace Go.Proofs.Ytjgghiniajmfjaa
open Go.RowKit
set_option linter.unusedVariables false
set_option linter.unusedSimpArgs false

structure ActR where
  f0 : Int
  f1 : ByteArray
  f2 : ByteArray
  f3 : ByteArray
instance : Inhabited ActR := ⟨⟨default, ByteArray.empty, ByteArray.empty, ByteArray.empty⟩⟩
def ActR.cells (x : ActR) : List Value := [.int .i64 x.f0, .string x.f1, .string x.f2, .string x.f3]
theorem ActR.cells_length (x : ActR) : x.cells.length = 4 := rfl
def actAt (l : List ActR) (k : Nat) : ActR := l.getD k default
theorem ActR.ext' {x y : ActR} (h0 : x.f0 = y.f0) (h1 : x.f1 = y.f1) (h2 : x.f2 = y.f2) (h3 : x.f3 = y.f3) : x = y := by cases x; cases y; simp_all

def ActsR (w : World) (v : Value) (xs : List ActR) : Prop := RdS w 4 v xs.length (xs.flatMap ActR.cells)
theorem ActsR.fr {w w' : World} {v : Value} {xs : List ActR} (h : ActsR w v xs) (hf : Fr w w') : ActsR w' v xs := RdS.fr h hf
theorem ActsR.le {w : World} {v : Value} {xs : List ActR} (h : ActsR w v xs) : xs.length ≤ 9223372036854775807 := RdS.le h
theorem act_flat (xs : List ActR) (k j : Nat) (hk : k < xs.length) (hj : j < 4) (d : Value) : (xs.flatMap ActR.cells).getD (k * 4 + j) d = (actAt xs k).cells.getD j d := by
  induction xs generalizing k with
  | nil => simp at hk
  | cons x xs ih =>
    rw [List.flatMap_cons]
    cases k with
    | zero => simp [List.getD, List.getElem?_append_left (show j < x.cells.length by rw [ActR.cells_length]; exact hj), actAt]
    | succ k =>
      have := ih k (by simpa using hk)
      simp only [List.getD] at this ⊢
      rw [List.getElem?_append_right (by rw [ActR.cells_length]; omega), show (k + 1) * 4 + j - x.cells.length = k * 4 + j by rw [ActR.cells_length]; omega, this]
      simp [actAt]
theorem ActsR.one {w : World} {v : Value} {xs : List ActR} (h : ActsR w v xs) :
    ∃ ao b o cap, v = .slice ao xs.length cap ∧ xs.length ≤ cap ∧ cap ≤ 9223372036854775807 ∧ (0 < xs.length → ao = some ⟨b, o, none⟩ ∧ b < w.heap.size ∧ ∀ k, k < xs.length → w.cell? ⟨b, o + k * 4, none⟩ = some (.int .i64 (actAt xs k).f0) ∧ w.cell? ⟨b, o + k * 4 + 1, none⟩ = some (.string (actAt xs k).f1) ∧ w.cell? ⟨b, o + k * 4 + 2, none⟩ = some (.string (actAt xs k).f2) ∧ w.cell? ⟨b, o + k * 4 + 3, none⟩ = some (.string (actAt xs k).f3)) := by
  obtain ⟨ao, b, o, cap, h1, h2, h3, h4⟩ := RdS.one h undef
  refine ⟨ao, b, o, cap, h1, h2, h3, fun hn => ⟨(h4 hn).1, (h4 hn).2.1, fun k hk => ?_⟩⟩
  have hc := (h4 hn).2.2
  exact ⟨by have := hc (k * 4 + 0) (by omega); rw [act_flat xs k 0 hk (by omega)] at this; exact this, by have := hc (k * 4 + 1) (by omega); rw [act_flat xs k 1 hk (by omega)] at this; exact this, by have := hc (k * 4 + 2) (by omega); rw [act_flat xs k 2 hk (by omega)] at this; exact this, by have := hc (k * 4 + 3) (by omega); rw [act_flat xs k 3 hk (by omega)] at this; exact this⟩



def ActR.bulk (x : ActR) : Nat := x.f1.size + x.f2.size + x.f3.size
def ActR.okSize (x : ActR) : Prop := x.f1.size ≤ maxLen ∧ x.f2.size ≤ maxLen ∧ x.f3.size ≤ maxLen

theorem info_Act : (Try.prog.info? 145).map (fun i => (i.zero, i.size, i.bytes)) = some (some (.agg #[.int .i64 0, .string ⟨#[]⟩, .string ⟨#[]⟩, .string ⟨#[]⟩]), 4, 56) := by kernel_rfl
def ActsO (w : World) (lo : Nat) (v : Value) (xs : List ActR) : Prop := w.ownsRow lo 145 4 v xs.length (xs.flatMap ActR.cells)
theorem ActsO.rd {w : World} {lo : Nat} {v : Value} {xs : List ActR} (h : ActsO w lo v xs) : ActsR w v xs := RdS.of_owns h
theorem ActsO.val {w : World} {lo : Nat} {v : Value} {xs : List ActR} (h : ActsO w lo v xs) : ∃ ao cap, v = .slice ao xs.length cap := owns_val h
theorem ActsO.fr {w w' : World} {lo : Nat} {v : Value} {xs : List ActR} (h : ActsO w lo v xs) (hf : Fr w w') : ActsO w' lo v xs := owns_fr h hf
def sumAct (xs : List ActR) (k : Nat) : Nat := ((xs.take k).map ActR.bulk).sum
theorem sumAct_succ (xs : List ActR) (k : Nat) (h : k < xs.length) : sumAct xs (k + 1) = sumAct xs k + (actAt xs k).bulk := by
  unfold sumAct actAt
  rw [List.take_succ_eq_append_getElem h, List.map_append, List.sum_append]
  simp [List.getD, List.getElem?_eq_getElem h]
theorem sumAct_le (xs : List ActR) (k : Nat) : sumAct xs k ≤ sumAct xs xs.length := by
  unfold sumAct
  rw [List.take_length]
  conv => rhs; rw [← List.take_append_drop k xs]
  rw [List.map_append, List.sum_append]
  omega
def ActsBulk (xs : List ActR) : Nat := xs.length + sumAct xs xs.length
theorem act_mem {xs : List ActR} {p : ActR → Prop} (h : ∀ x ∈ xs, p x) (k : Nat) (hk : k < xs.length) : p (actAt xs k) := by
  have := h xs[k] (List.getElem_mem hk)
  simpa [actAt, List.getD, List.getElem?_eq_getElem hk] using this



end Go.Proofs.Ytjgghiniajmfjaa

/- Marks of slices of Act; their interface. (Printed by mk_types.py.) No condition but the sizes that the reading gives. -/
namespace Go.Proofs.Ytjgghiniajmfjaa
open Go.RowKit
set_option linter.unusedVariables false
set_option linter.unusedSimpArgs false

def mkAct (k : Int) : ActR := ⟨k, mTextI (k + 1), mTextI (k + 1 + 1), mTextI (k + 1 + 1 + 1)⟩
def mkActs (k : Int) (n : Nat) : List ActR := (List.range n).map fun i : Nat => mkAct (k + 4 * i)
theorem mkActs_length (k : Int) (n : Nat) : (mkActs k n).length = n := by simp [mkActs]
theorem mkActs_at (k : Int) (n j : Nat) (h : j < n) : actAt (mkActs k n) j = mkAct (k + 4 * j) := by simp [mkActs, actAt, List.getD, h]
theorem act_oneCells (xs : List ActR) : ∀ u ∈ xs.flatMap ActR.cells, u.oneCell' = true := by
  intro u hu
  obtain ⟨x, _, h⟩ := List.mem_flatMap.1 hu
  simp only [ActR.cells, List.mem_cons, List.not_mem_nil, or_false] at h
  rcases h with rfl | rfl | rfl | rfl <;> rfl
def ActsW (w : World) (lo hi : Nat) (v : Value) (xs : List ActR) : Prop := OwW w lo hi 145 4 v xs.length (xs.flatMap ActR.cells)
theorem ActsW.rd {w : World} {lo hi : Nat} {v : Value} {xs : List ActR} (h : ActsW w lo hi v xs) : ActsR w v xs := OwW.rd h
theorem ActsW.val {w : World} {lo hi : Nat} {v : Value} {xs : List ActR} (h : ActsW w lo hi v xs) : ∃ ao cap, v = .slice ao xs.length cap := OwW.val h
theorem ActsW.fr {w w' : World} {lo hi : Nat} {v : Value} {xs : List ActR} (h : ActsW w lo hi v xs) (hf : Fr w w') : ActsW w' lo hi v xs := OwW.fr h hf
theorem ActsW.span {w w' : World} {lo hi : Nat} {v : Value} {xs : List ActR} (h : ActsW w lo hi v xs) {a b : Nat} (s : Span a b w w') (hd : hi ≤ a ∨ b ≤ lo) : ActsW w' lo hi v xs := OwW.span h s hd
theorem ActsW.nil (w : World) (lo hi : Nat) : ActsW w lo hi (.slice none 0 0) [] := OwW.nil _ _ _ _ _
end Go.Proofs.Ytjgghiniajmfjaa
