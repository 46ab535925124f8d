/- Slices as lists: what a slice value reads as in a world ('RdS', for strings 'StrsR', for integers 'IntsR', for bools 'BoolsR'), and that it reads so as long as nothing old turns. Plain lemmas. No condition. -/
import Derived.Test.YtphjlecbhbcbcaaBase
namespace Go.Proofs.Ytphjlecbhbcbcaa
open Go.RowKit

/-- A slice value whose n elements, sz cells each, read as the cells xs. -/
def RdS (w : World) (sz : Nat) (v : Value) (n : Nat) (xs : List Value) : Prop :=
  xs.length = n * sz ∧ ∃ ao cap, v = .slice ao n cap ∧ n ≤ cap ∧ cap ≤ maxLen ∧
    (0 < n → ∃ b o, ao = some ⟨b, o, none⟩ ∧ b < w.heap.size ∧ ∀ j, j < n * sz → w.cell? ⟨b, o + j, none⟩ = xs[j]?)

theorem RdS.fr {w w' : World} {sz : Nat} {v : Value} {n : Nat} {xs : List Value} (h : RdS w sz v n xs) (hf : Fr w w') : RdS w' sz v n xs := by
  obtain ⟨h1, ao, cap, rfl, h2, h3, h4⟩ := h
  refine ⟨h1, ao, cap, rfl, h2, h3, fun hn => ?_⟩
  obtain ⟨b, o, rfl, hb, hc⟩ := h4 hn
  exact ⟨b, o, rfl, Nat.lt_of_lt_of_le hb hf.size, fun j hj => (hf.cell hb).trans (hc j hj)⟩

theorem RdS.le {w : World} {sz : Nat} {v : Value} {n : Nat} {xs : List Value} (h : RdS w sz v n xs) : n ≤ 9223372036854775807 := by
  obtain ⟨_, ao, cap, _, h2, h3, _⟩ := h
  unfold maxLen at h3
  omega

theorem RdS.of_owns {w : World} {lo sz n : Nat} {e : TypeId} {v : Value} {xs : List Value} (h : w.ownsRow lo e sz v n xs) : RdS w sz v n xs := by
  have h0 := h
  obtain ⟨h1, ⟨rfl, rfl⟩ | ⟨g, cap, cur, rfl, hg, hh, hn, hcap, hsz, htake⟩⟩ := h
  · exact ⟨h1, none, 0, rfl, Nat.le_refl _, by simp [maxLen], fun h => absurd h (by omega)⟩
  · refine ⟨h1, _, cap, rfl, hn, hcap, fun _ => ⟨g, 0, rfl, (Array.getElem?_eq_some_iff.1 hh).1, fun j hj => ?_⟩⟩
    rw [Nat.zero_add]
    exact h0.cellAt j hj

theorem owns_val {w : World} {lo : Nat} {e : TypeId} {sz : Nat} {v : Value} {n : Nat} {xs : List Value} (h : w.ownsRow lo e sz v n xs) : ∃ ao cap, v = .slice ao n cap := by
  obtain ⟨h1, ⟨rfl, rfl⟩ | ⟨g, cap, cur, hv, _⟩⟩ := h
  · exact ⟨_, _, rfl⟩
  · exact ⟨_, _, hv⟩
def StrsR (w : World) (v : Value) (ss : List ByteArray) : Prop := RdS w 1 v ss.length (ss.map Value.string)
def IntsR (w : World) (v : Value) (xs : List Int) : Prop := RdS w 1 v xs.length (xs.map (Value.int .i64))
def BoolsR (w : World) (v : Value) (bs : List Bool) : Prop := RdS w 1 v bs.length (bs.map Value.bool)

theorem StrsR.fr {w w' : World} {v : Value} {ss : List ByteArray} (h : StrsR w v ss) (hf : Fr w w') : StrsR w' v ss := RdS.fr h hf
theorem IntsR.fr {w w' : World} {v : Value} {ss : List Int} (h : IntsR w v ss) (hf : Fr w w') : IntsR w' v ss := RdS.fr h hf
theorem BoolsR.fr {w w' : World} {v : Value} {ss : List Bool} (h : BoolsR w v ss) (hf : Fr w w') : BoolsR w' v ss := RdS.fr h hf
theorem StrsR.le {w : World} {v : Value} {ss : List ByteArray} (h : StrsR w v ss) : ss.length ≤ 9223372036854775807 := RdS.le h
theorem IntsR.le {w : World} {v : Value} {ss : List Int} (h : IntsR w v ss) : ss.length ≤ 9223372036854775807 := RdS.le h
theorem BoolsR.le {w : World} {v : Value} {ss : List Bool} (h : BoolsR w v ss) : ss.length ≤ 9223372036854775807 := RdS.le h

theorem getD_map_lt {α : Type} (f : α → Value) (l : List α) (j : Nat) (d : Value) (e : α) (h : j < l.length) : (l.map f).getD j d = f (l.getD j e) := by
  simp [List.getD, List.getElem?_eq_getElem h]

/-- An element, under a name that the walk does not open. -/
def sAt (l : List ByteArray) (k : Nat) : ByteArray := l.getD k ByteArray.empty
def iAt (l : List Int) (k : Nat) : Int := l.getD k 0
def bAt (l : List Bool) (k : Nat) : Bool := l.getD k false

/-- A slice that reads as xs, in the one form that a walk takes: the address is looked at only where there is an element. -/
theorem RdS.one {w : World} {sz : Nat} {v : Value} {n : Nat} {xs : List Value} (h : RdS w sz v n xs) (d : Value) :
    ∃ ao b o cap, v = .slice ao n cap ∧ n ≤ cap ∧ cap ≤ 9223372036854775807 ∧ (0 < n → ao = some ⟨b, o, none⟩ ∧ b < w.heap.size ∧ ∀ j, j < n * sz → w.cell? ⟨b, o + j, none⟩ = some (xs.getD j d)) := by
  have hm : ∀ cap, cap ≤ maxLen → cap ≤ 9223372036854775807 := fun cap h => by unfold maxLen at h; omega
  rcases Nat.eq_zero_or_pos n with rfl | hn
  · obtain ⟨h1, ao, cap, rfl, h2, h3, h4⟩ := h
    exact ⟨ao, 0, 0, cap, rfl, h2, hm _ h3, fun h => absurd h (by omega)⟩
  · obtain ⟨h1, ao, cap, rfl, h2, h3, h4⟩ := h
    obtain ⟨b, o, rfl, hb, hc⟩ := h4 hn
    refine ⟨_, b, o, cap, rfl, h2, hm _ h3, fun _ => ⟨rfl, hb, fun j hj => ?_⟩⟩
    rw [hc j hj]
    have : j < xs.length := by omega
    simp [List.getD, List.getElem?_eq_getElem this]
theorem StrsR.one {w : World} {v : Value} {ss : List ByteArray} (h : StrsR w v ss) :
    ∃ ao b o cap, v = .slice ao ss.length cap ∧ ss.length ≤ cap ∧ cap ≤ 9223372036854775807 ∧ (0 < ss.length → ao = some ⟨b, o, none⟩ ∧ b < w.heap.size ∧ ∀ j, j < ss.length → w.cell? ⟨b, o + j, none⟩ = some (.string (sAt ss j))) := by
  obtain ⟨ao, b, o, cap, h1, h2, h3, h4⟩ := RdS.one h undef
  exact ⟨ao, b, o, cap, h1, h2, h3, fun hn => ⟨(h4 hn).1, (h4 hn).2.1, fun j hj => by rw [(h4 hn).2.2 j (by omega), getD_map_lt _ _ _ _ ByteArray.empty hj]; rfl⟩⟩
theorem IntsR.one {w : World} {v : Value} {ss : List Int} (h : IntsR w v ss) :
    ∃ ao b o cap, v = .slice ao ss.length cap ∧ ss.length ≤ cap ∧ cap ≤ 9223372036854775807 ∧ (0 < ss.length → ao = some ⟨b, o, none⟩ ∧ b < w.heap.size ∧ ∀ j, j < ss.length → w.cell? ⟨b, o + j, none⟩ = some (.int .i64 (iAt ss j))) := by
  obtain ⟨ao, b, o, cap, h1, h2, h3, h4⟩ := RdS.one h undef
  exact ⟨ao, b, o, cap, h1, h2, h3, fun hn => ⟨(h4 hn).1, (h4 hn).2.1, fun j hj => by rw [(h4 hn).2.2 j (by omega), getD_map_lt _ _ _ _ 0 hj]; rfl⟩⟩
theorem BoolsR.one {w : World} {v : Value} {ss : List Bool} (h : BoolsR w v ss) :
    ∃ ao b o cap, v = .slice ao ss.length cap ∧ ss.length ≤ cap ∧ cap ≤ 9223372036854775807 ∧ (0 < ss.length → ao = some ⟨b, o, none⟩ ∧ b < w.heap.size ∧ ∀ j, j < ss.length → w.cell? ⟨b, o + j, none⟩ = some (.bool (bAt ss j))) := by
  obtain ⟨ao, b, o, cap, h1, h2, h3, h4⟩ := RdS.one h undef
  exact ⟨ao, b, o, cap, h1, h2, h3, fun hn => ⟨(h4 hn).1, (h4 hn).2.1, fun j hj => by rw [(h4 hn).2.2 j (by omega), getD_map_lt _ _ _ _ false hj]; rfl⟩⟩

/-! ### strings -/
theorem bytes_eq_iff (x y : ByteArray) : (x.toList == y.toList) = decide (x = y) := by
  rw [Bool.eq_iff_iff]
  simp only [beq_iff_eq, decide_eq_true_eq, Lib.toList_data]
  exact ⟨fun h => WideShapes.bytes_inj h, fun h => by rw [h]⟩
theorem bytes_beq {x y : ByteArray} (h : x = y) : (x.toList == y.toList) = true := by rw [bytes_eq_iff]; simpa using h
theorem bytes_bne {x y : ByteArray} (h : ¬ x = y) : (x.toList == y.toList) = false := by rw [bytes_eq_iff]; simpa using h

theorem empty_iff (s : ByteArray) : s.toList.isEmpty = decide (s.size = 0) := by
  rw [Lib.toList_data, Bool.eq_iff_iff, decide_eq_true_eq, List.isEmpty_iff, ← List.length_eq_zero_iff, Array.length_toList]
  rfl

/-! ### sizes: what is left of a purse -/
def szR (left : Int) (t : Nat) : Int := if (t : Int) ≤ left then left - t else -1
theorem szR_ok {left : Int} {t : Nat} (h : (t : Int) ≤ left) : szR left t = left - t := if_pos h
theorem szR_no {left : Int} {t : Nat} (h : ¬ (t : Int) ≤ left) : szR left t = -1 := if_neg h
def sumLen (ss : List ByteArray) (k : Nat) : Nat := ((ss.take k).map ByteArray.size).sum
theorem sumLen_succ (ss : List ByteArray) (k : Nat) (h : k < ss.length) : sumLen ss (k + 1) = sumLen ss k + (sAt ss k).size := by
  unfold sumLen sAt
  rw [List.take_succ_eq_append_getElem h, List.map_append, List.sum_append]
  simp [List.getD, List.getElem?_eq_getElem h]
def strsBulk (ss : List ByteArray) : Nat := ss.length + sumLen ss ss.length
theorem sumLen_le (ss : List ByteArray) (k : Nat) : sumLen ss k ≤ sumLen ss ss.length := by
  unfold sumLen
  rw [List.take_length]
  conv => rhs; rw [← List.take_append_drop k ss]
  rw [List.map_append, List.sum_append]
  omega

/-! ### a row that is filled from its head -/
def fill (xs : List Value) (z : Value) (n k : Nat) : List Value := xs.take k ++ List.replicate (n - k) z
theorem fill_zero (xs : List Value) (z : Value) (n : Nat) : fill xs z n 0 = List.replicate n z := by simp [fill]
theorem fill_all (xs : List Value) (z : Value) (n : Nat) (h : xs.length = n) : fill xs z n n = xs := by simp [fill, ← h]
theorem fill_set (xs : List Value) (z : Value) (n k : Nat) (u : Value) (hk : k < n) (hn : xs.length = n) (hu : xs[k]? = some u) : (fill xs z n k).set k u = fill xs z n (k + 1) := by
  have hl : (xs.take k).length = k := by simp; omega
  unfold fill
  rw [List.set_append_right _ _ (by omega), hl, Nat.sub_self, show n - k = (n - (k + 1)) + 1 from by omega, List.replicate_succ, List.set_cons_zero]
  obtain ⟨hk', rfl⟩ := List.getElem?_eq_some_iff.1 hu
  rw [List.take_succ_eq_append_getElem hk', List.append_assoc]
  rfl
theorem fill_length (xs : List Value) (z : Value) (n k : Nat) (hk : k ≤ n) (hn : xs.length = n) : (fill xs z n k).length = n := by simp [fill]; omega

/-! ### a row of structs that is filled from its head -/
def fillR {α : Type} (xs : List α) (f : α → List Value) (z : List Value) (k : Nat) : List Value := (xs.take k).flatMap f ++ (List.replicate (xs.length - k) z).flatten
theorem flat_len {α : Type} (xs : List α) (f : α → List Value) (n : Nat) (hf : ∀ x, (f x).length = n) (k : Nat) (hk : k ≤ xs.length) : ((xs.take k).flatMap f).length = k * n := by
  rw [List.length_flatMap, List.map_congr_left (g := fun _ => n) (fun x _ => hf x), List.map_const', List.sum_replicate_nat, List.length_take, Nat.min_eq_left hk]
theorem fillR_split {α : Type} (xs : List α) (f : α → List Value) (z : List Value) (k : Nat) (hk : k < xs.length) : fillR xs f z k = (xs.take k).flatMap f ++ z ++ (List.replicate (xs.length - (k + 1)) z).flatten := by
  unfold fillR
  rw [show xs.length - k = (xs.length - (k + 1)) + 1 from by omega, List.replicate_succ, List.flatten_cons, List.append_assoc]
theorem fillR_next {α : Type} [Inhabited α] (xs : List α) (f : α → List Value) (z : List Value) (k : Nat) (hk : k < xs.length) : fillR xs f z (k + 1) = (xs.take k).flatMap f ++ f (xs.getD k default) ++ (List.replicate (xs.length - (k + 1)) z).flatten := by
  unfold fillR
  rw [List.take_succ_eq_append_getElem hk, List.flatMap_append]
  simp [List.getD, List.getElem?_eq_getElem hk]
theorem fillR_all {α : Type} (xs : List α) (f : α → List Value) (z : List Value) : fillR xs f z xs.length = xs.flatMap f := by simp [fillR]
theorem set_mid (A B C : List Value) (j : Nat) (v : Value) {i : Nat} (hi : i = A.length + j) (hj : j < B.length) : (A ++ B ++ C).set i v = A ++ B.set j v ++ C := by
  subst hi
  rw [List.append_assoc, List.set_append_right _ _ (by omega), Nat.add_sub_cancel_left, List.set_append_left _ _ hj, List.append_assoc]
theorem made_fill {α : Type} (xs : List α) (f : α → List Value) (z : List Value) (n : Nat) (hz : z.length = n) (hn : 0 < n) : (madeCells z.toArray (xs.length * n)).toList = fillR xs f z 0 := by
  unfold fillR
  simp only [List.take_zero, List.flatMap_nil, List.nil_append, Nat.sub_zero]
  generalize xs.length = m
  apply List.ext_getElem?
  intro j
  have hlen : (List.replicate m z).flatten.length = m * n := by simp [hz]
  by_cases hj : j < m * n
  · have key : ∀ (m j : Nat), j < m * n → (List.replicate m z).flatten[j]? = z[j % n]? := by
      intro m
      induction m with
      | zero => intro j h; simp at h
      | succ m ih =>
        intro j h
        rw [List.replicate_succ, List.flatten_cons]
        by_cases hl : j < n
        · rw [List.getElem?_append_left (by omega), Nat.mod_eq_of_lt hl]
        · rw [List.getElem?_append_right (by omega), hz, ih (j - n) (by rw [Nat.add_mul] at h; omega), ← Nat.mod_eq_sub_mod (by omega)]
    rw [key m j hj]
    have hm : j % n < z.length := by rw [hz]; exact Nat.mod_lt _ hn
    simp [madeCells, hj, hz, List.getElem?_eq_getElem hm]
  · rw [List.getElem?_eq_none (l := (madeCells z.toArray (m * n)).toList) (by rw [Array.length_toList, size_madeCells]; omega), List.getElem?_eq_none (by omega)]

/-! ### lists, element by element -/
theorem ext_getD {α : Type} {l m : List α} (d : α) (h : l.length = m.length) (hh : ∀ j, j < l.length → l.getD j d = m.getD j d) : l = m := by
  apply List.ext_getElem h
  intro j h1 h2
  have := hh j h1
  simpa [List.getD, List.getElem?_eq_getElem h1, List.getElem?_eq_getElem h2] using this
theorem all_getD {α : Type} {l : List α} {p : α → Bool} (d : α) (h : ∀ j, j < l.length → p (l.getD j d) = true) : l.all p = true := by
  rw [List.all_eq_true]
  intro x hx
  obtain ⟨j, hj, rfl⟩ := List.getElem_of_mem hx
  have := h j hj
  simpa [List.getD, List.getElem?_eq_getElem hj] using this
theorem not_all_getD {α : Type} {l : List α} {p : α → Bool} (d : α) (j : Nat) (hj : j < l.length) (h : p (l.getD j d) = false) : l.all p = false := by
  rw [List.all_eq_false]
  refine ⟨l[j], List.getElem_mem hj, ?_⟩
  simpa [List.getD, List.getElem?_eq_getElem hj] using h
theorem all_at_getD {α : Type} {l : List α} {p : α → Bool} (d : α) (h : l.all p = true) (j : Nat) (hj : j < l.length) : p (l.getD j d) = true := by
  rw [List.all_eq_true] at h
  have := h l[j] (List.getElem_mem hj)
  simpa [List.getD, List.getElem?_eq_getElem hj] using this
end Go.Proofs.Ytphjlecbhbcbcaa
