/- laws.FnFrames: its walk. No condition but the reading of the draw. -/
import Derived.Test.YthcamjijogmbhaaFrm
import Derived.Test.YthcamjijogmbhaaDraw2
namespace Go.Proofs.Ythcamjijogmbhaa
open Go.RowKit
set_option linter.unusedVariables false
set_option linter.unusedSimpArgs false

theorem big_any (ao : Option Addr) (n cap : Nat) (w : World) (hn : n ≤ 9223372036854775807) :
    Calls Try.prog 35 #[.slice ao n cap] w fun e w' => e = .returned (.bool (decide (1048576 < (n : Int)))) ∧ w = w' := by
  go_enter Try.func35, Try.ntmps35
  go_wp2
  go_ret
  exact ⟨rfl, rfl⟩
def twoT : ByteArray := ⟨#[116, 119, 111]⟩
def threeT : ByteArray := ⟨#[116, 104, 114, 101, 101, 32, 97, 110, 100, 32, 109, 111, 114, 101]⟩
def oneT : ByteArray := ⟨#[111, 110, 101]⟩
def endAt (ts : List ByteArray) (j : Nat) : Nat := ((ts.take j).flatMap frL).length
def fileAtK (ts : List ByteArray) (k : Nat) : ByteArray := ⟨((ts.take k).flatMap frL).toArray⟩
def endsL (ts : List ByteArray) (k : Nat) : List Int := (List.range (k + 1)).map fun j => (endAt ts j : Int)
theorem fileAtK_size (ts : List ByteArray) (k : Nat) : (fileAtK ts k).size = endAt ts k := by simp [fileAtK, endAt, ByteArray.size]
theorem take_sAt {ts : List ByteArray} {k : Nat} (h : k < ts.length) : ts.take (k + 1) = ts.take k ++ [sAt ts k] := by
  rw [List.take_succ_eq_append_getElem h]
  simp [sAt, List.getD, List.getElem?_eq_getElem h]
theorem fileAtK_succ {ts : List ByteArray} {k : Nat} (h : k < ts.length) : fileAtK ts k ++ frameT (sAt ts k) = fileAtK ts (k + 1) := by
  apply WideShapes.bytes_inj
  unfold fileAtK
  rw [take_sAt h, ByteArray.data_append, Array.toList_append, List.flatMap_append]
  simp [frL]
theorem endAt_succ {ts : List ByteArray} {k : Nat} (h : k < ts.length) : endAt ts (k + 1) = endAt ts k + (frL (sAt ts k)).length := by
  unfold endAt
  rw [take_sAt h, List.flatMap_append, List.length_append]
  simp
theorem endsL_succ (ts : List ByteArray) (k : Nat) : endsL ts k ++ [(endAt ts (k + 1) : Int)] = endsL ts (k + 1) := by
  unfold endsL
  rw [List.range_succ (n := k + 1), List.map_append]
  rfl
theorem endsL_length (ts : List ByteArray) (k : Nat) : (endsL ts k).length = k + 1 := by simp [endsL]
theorem endsL_at (ts : List ByteArray) (k j : Nat) (h : j ≤ k) : iAt (endsL ts k) j = (endAt ts j : Int) := by
  simp [endsL, iAt, List.getD, show j < k + 1 by omega]
theorem sAt_mem {ts : List ByteArray} {k : Nat} (h : k < ts.length) : sAt ts k ∈ ts := by unfold sAt; simp [List.getD, List.getElem?_eq_getElem h]
theorem ends_le {ts : List ByteArray} (hl : ts.length = 3) (hs : ∀ x ∈ ts, 1 ≤ x.size ∧ x.size ≤ 900) (j : Nat) (hj : j ≤ 3) : endAt ts j ≤ 3000 := by
  have step : ∀ k, k < 3 → endAt ts (k + 1) ≤ endAt ts k + 910 := fun k hk => by
    have hkl : k < ts.length := by omega
    rw [endAt_succ hkl]
    have h1 := hs _ (sAt_mem hkl)
    have h2 := frL_len (sAt ts k)
    have h3 := varL_len40 (sAt ts k).size (by omega)
    omega
  have e0 : endAt ts 0 = 0 := by simp [endAt]
  have h1 : endAt ts 1 ≤ endAt ts 0 + 910 := step 0 (by omega)
  have h2 : endAt ts 2 ≤ endAt ts 1 + 910 := step 1 (by omega)
  have h3 : endAt ts 3 ≤ endAt ts 2 + 910 := step 2 (by omega)
  match j, hj with
  | 0, _ => omega
  | 1, _ => omega
  | 2, _ => omega
  | 3, _ => omega
theorem whole_cases (t0 t1 t2 : ByteArray) (k : Nat) (hk : k ≤ endAt [t0, t1, t2] 3) :
    (k < endAt [t0, t1, t2] 1 ∧ whole [t0, t1, t2] k = ([], endAt [t0, t1, t2] 0)) ∨ (endAt [t0, t1, t2] 1 ≤ k ∧ k < endAt [t0, t1, t2] 2 ∧ whole [t0, t1, t2] k = ([t0], endAt [t0, t1, t2] 1)) ∨
    (endAt [t0, t1, t2] 2 ≤ k ∧ k < endAt [t0, t1, t2] 3 ∧ whole [t0, t1, t2] k = ([t0, t1], endAt [t0, t1, t2] 2)) ∨ (endAt [t0, t1, t2] 3 ≤ k ∧ whole [t0, t1, t2] k = ([t0, t1, t2], endAt [t0, t1, t2] 3)) := by
  have e1 : endAt [t0, t1, t2] 1 = (frL t0).length := by simp [endAt]
  have e2 : endAt [t0, t1, t2] 2 = (frL t0).length + (frL t1).length := by simp [endAt]
  have e3 : endAt [t0, t1, t2] 3 = (frL t0).length + (frL t1).length + (frL t2).length := by simp [endAt]; omega
  have e0 : endAt [t0, t1, t2] 0 = 0 := by simp [endAt]
  rw [e3] at hk
  rw [e0, e1, e2, e3]
  simp only [whole]
  by_cases h1 : (frL t0).length ≤ k
  · rw [if_pos h1]
    by_cases h2 : (frL t1).length ≤ k - (frL t0).length
    · rw [if_pos h2]
      by_cases h3 : (frL t2).length ≤ k - (frL t0).length - (frL t1).length
      · rw [if_pos h3]
        right; right; right
        exact ⟨by omega, by simp; omega⟩
      · rw [if_neg h3]
        right; right; left
        exact ⟨by omega, by omega, by simp⟩
    · rw [if_neg h2]
      right; left
      exact ⟨by omega, by omega, by simp⟩
  · rw [if_neg h1]
    left
    exact ⟨by omega, rfl⟩
/-- What Unframe gives of the file, whole and cut. -/
theorem frames_end {ts : List ByteArray} {t0 t1 t2 F : ByteArray} {E : List Int} (hts : ts = [t0, t1, t2]) (hF : F = fileAtK ts 3) (hE : E = endsL ts 3) (hs : ∀ x ∈ ts, 1 ≤ x.size ∧ x.size ≤ 900) :
    F.size ≤ 3000 ∧ unf F = ([t0, t1, t2], F.size) ∧ ∃ e0 e1 e2 : Nat, E = [(e0 : Int), (e1 : Int), (e2 : Int), (F.size : Int)] ∧ e0 ≤ e1 ∧ e1 ≤ e2 ∧ e2 ≤ F.size ∧ ∀ k, k ≤ F.size →
      (k < e1 ∧ e0 ≤ k ∧ unf (F.extract 0 k) = ([], e0)) ∨ (e1 ≤ k ∧ k < e2 ∧ unf (F.extract 0 k) = ([t0], e1)) ∨ (e2 ≤ k ∧ k < F.size ∧ unf (F.extract 0 k) = ([t0, t1], e2)) ∨ (k = F.size ∧ unf (F.extract 0 k) = ([t0, t1, t2], F.size)) := by
  have hl : ts.length = 3 := by rw [hts]; rfl
  have hsz : F.size = endAt ts 3 := by rw [hF, fileAtK_size]
  have hle := ends_le hl hs 3 (by omega)
  have hd : F.data.toList = ts.flatMap frL := by rw [hF]; unfold fileAtK; rw [List.take_of_length_le (by omega)]
  have hfl : (ts.flatMap frL).length = F.size := by rw [← hd, list_size]
  have cut : ∀ k, k ≤ F.size → unf (F.extract 0 k) = whole ts k := fun k hk => by
    have hx : (F.extract 0 k).data.toList = (ts.flatMap frL).take k := by
      rw [← hd]
      simp only [ByteArray.data_extract, Array.toList_extract]
      rw [List.extract_eq_take_drop, List.drop_zero, Nat.sub_zero]
    exact unf_cut hs hx (by omega) (by rw [ByteArray.size_extract]; omega)
  have hall : F.extract 0 F.size = F := by apply WideShapes.bytes_inj; simp only [ByteArray.data_extract, Array.toList_extract]; rw [List.extract_eq_take_drop, List.drop_zero, Nat.sub_zero, List.take_of_length_le (by rw [list_size]; exact Nat.le_refl _)]
  have e0 : endAt ts 0 = 0 := by simp [endAt]
  have m1 : endAt ts 1 ≤ endAt ts 2 := by have : endAt ts 2 = endAt ts 1 + (frL (sAt ts 1)).length := endAt_succ (by omega); omega
  have m2 : endAt ts 2 ≤ endAt ts 3 := by have : endAt ts 3 = endAt ts 2 + (frL (sAt ts 2)).length := endAt_succ (by omega); omega
  have hw := fun k (hk : k ≤ F.size) => whole_cases t0 t1 t2 k (by rw [← hts, ← hsz]; exact hk)
  rw [← hts] at hw
  have hwh : ∀ k, k ≤ F.size → (k < endAt ts 1 ∧ endAt ts 0 ≤ k ∧ unf (F.extract 0 k) = ([], endAt ts 0)) ∨ (endAt ts 1 ≤ k ∧ k < endAt ts 2 ∧ unf (F.extract 0 k) = ([t0], endAt ts 1)) ∨ (endAt ts 2 ≤ k ∧ k < F.size ∧ unf (F.extract 0 k) = ([t0, t1], endAt ts 2)) ∨ (k = F.size ∧ unf (F.extract 0 k) = ([t0, t1, t2], F.size)) := fun k hk => by
    rw [cut k hk, hsz]
    have hk3 : k ≤ endAt ts 3 := by omega
    rcases hw k hk with h | h | h | h
    · left; exact ⟨h.1, by omega, h.2⟩
    · right; left; exact h
    · right; right; left; exact h
    · right; right; right; exact ⟨by omega, by rw [h.2, hts]⟩
  refine ⟨by omega, ?_, endAt ts 0, endAt ts 1, endAt ts 2, ?_, by omega, m1, by omega, hwh⟩
  · have := hwh F.size (Nat.le_refl _)
    rw [hall] at this
    rcases this with h | h | h | h
    · omega
    · omega
    · omega
    · exact h.2
  · rw [hE, hsz]
    simp [endsL, List.range_succ]
theorem lit_int {w : World} {b : Nat} {x : Int} (hb : b = w.heap.size) : IntsO (w.alloc (.cells #[.int .i64 x] 3)) b (.slice (some ⟨b, 0, none⟩) 1 1) [x] := by
  subst hb
  exact World.ownsRow_lit w #[.int .i64 x] 1 (Nat.le_refl _) (by unfold maxLen; omega) rfl
theorem Box.strs3 {w : World} {b : Nat} {x y z : ByteArray} {T : TypeId} (h : Box w b #[.string x, .string y, .string z] T) (m : Nat) (hm : m ≤ 3) : StrsR w (.slice (some ⟨b, 0, none⟩) m 3) ([x, y, z].take m) := by
  have hl : ([x, y, z].take m).length = m := by simp; omega
  refine ⟨by simp, some ⟨b, 0, none⟩, 3, by rw [hl], by rw [hl]; exact hm, by unfold maxLen; omega, fun hn => ⟨b, 0, rfl, h.lt, fun j hj => ?_⟩⟩
  rw [hl] at hj
  rw [Nat.zero_add, h.cell, List.getElem?_map, List.getElem?_take_of_lt (by omega)]
  match j, hj with
  | 0, _ => rfl
  | 1, _ => rfl
  | 2, _ => rfl
  | j + 3, hj => exact absurd hj (by omega)
end Go.Proofs.Ythcamjijogmbhaa
