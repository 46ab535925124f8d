/- Slices of bits and of bools that hold a relation: what they read as, one place written. No condition. -/
import Derived.Test.YtjgghiniajmfjaaBit
import Derived.Test.YtjgghiniajmfjaaKApp
namespace Go.Proofs.Ytjgghiniajmfjaa
open Go.RowKit
set_option linter.unusedVariables false
set_option linter.unusedSimpArgs false
theorem info_u32 : (Try.prog.info? 124).map (fun i => (i.zero, i.size, i.bytes)) = some (some (.int .u32 0), 1, 4) := by kernel_rfl
/-- The rows of a relation as cells. -/
def rCells (n : Nat) (R : (Nat → Nat → Bool)) : List Value := (List.range n).map fun i => .int .u32 (bN (R i) : Int)
theorem rCells_len (n : Nat) (R : (Nat → Nat → Bool)) : (rCells n R).length = n := by simp [rCells]
theorem rCells_at {n : Nat} {R : (Nat → Nat → Bool)} {i : Nat} (h : i < n) : (rCells n R)[i]? = some (.int .u32 (bN (R i) : Int)) := by simp [rCells, h]
theorem rCells_congr {n : Nat} {R S : (Nat → Nat → Bool)} (h : ∀ i, i < n → R i = S i) : rCells n R = rCells n S := by
  unfold rCells
  refine List.map_congr_left fun i hi => ?_
  rw [h i (List.mem_range.1 hi)]
theorem rCells_set (n : Nat) (R : (Nat → Nat → Bool)) (i : Nat) (p : Nat → Bool) : (rCells n R).set i (.int .u32 (bN p : Int)) = rCells n (fun x => if x = i then p else R x) := by
  refine List.ext_getElem? fun k => ?_
  rw [List.getElem?_set]
  by_cases hk : k < n
  · rw [rCells_at hk, rCells_at hk, rCells_len]
    by_cases e : i = k
    · subst e
      simp [hk]
    · rw [if_neg e, if_neg (fun h => e h.symm)]
  · rw [List.getElem?_eq_none (by rw [rCells_len]; omega), List.getElem?_eq_none (by rw [rCells_len]; omega), rCells_len]
    split
    · rw [if_neg (by omega)]
    · rfl
theorem rCells_no (n : Nat) : rCells n rNo = List.replicate n (.int .u32 0) := by
  unfold rCells rNo
  rw [bN_no]
  exact List.map_const' ▸ by simp
theorem oneCells_rel (n : Nat) (R : (Nat → Nat → Bool)) : ∀ u ∈ rCells n R, u.oneCell' = true := fun u hu => by obtain ⟨x, _, rfl⟩ := List.mem_map.1 hu; rfl
/-- A slice of bits reads as a relation. -/
def RelR (w : World) (v : Value) (n : Nat) (R : (Nat → Nat → Bool)) : Prop := RdS w 1 v n (rCells n R)
def RelO (w : World) (lo : Nat) (v : Value) (n : Nat) (R : (Nat → Nat → Bool)) : Prop := w.ownsRow lo 124 1 v n (rCells n R)
theorem RelR.fr {w w' : World} {v : Value} {n : Nat} {R : (Nat → Nat → Bool)} (h : RelR w v n R) (hf : Fr w w') : RelR w' v n R := RdS.fr h hf
theorem RelO.fr {w w' : World} {lo : Nat} {v : Value} {n : Nat} {R : (Nat → Nat → Bool)} (h : RelO w lo v n R) (hf : Fr w w') : RelO w' lo v n R := owns_fr h hf
theorem RelO.rd {w : World} {lo : Nat} {v : Value} {n : Nat} {R : (Nat → Nat → Bool)} (h : RelO w lo v n R) : RelR w v n R := RdS.of_owns h
theorem RelO.val {w : World} {lo : Nat} {v : Value} {n : Nat} {R : (Nat → Nat → Bool)} (h : RelO w lo v n R) : ∃ ao cap, v = .slice ao n cap := owns_val h
theorem RelO.congr {w : World} {lo : Nat} {v : Value} {n : Nat} {R S : (Nat → Nat → Bool)} (h : RelO w lo v n R) (e : ∀ i, i < n → R i = S i) : RelO w lo v n S := by
  unfold RelO at h ⊢
  rw [← rCells_congr e]
  exact h
theorem RelR.congr {w : World} {v : Value} {n : Nat} {R S : (Nat → Nat → Bool)} (h : RelR w v n R) (e : ∀ i, i < n → R i = S i) : RelR w v n S := by
  unfold RelR at h ⊢
  rw [← rCells_congr e]
  exact h
theorem RelR.one {w : World} {v : Value} {n : Nat} {R : (Nat → Nat → Bool)} (h : RelR w v n R) :
    ∃ ao b o cap, v = .slice ao n cap ∧ n ≤ cap ∧ cap ≤ 9223372036854775807 ∧ (0 < n → ao = some ⟨b, o, none⟩ ∧ b < w.heap.size ∧ ∀ i, i < n → w.cell? ⟨b, o + i, none⟩ = some (.int .u32 (bN (R i) : Int))) := by
  obtain ⟨h4, ao, cap, rfl, h5, h6, h7⟩ := h
  have hm : cap ≤ 9223372036854775807 := by unfold maxLen at h6; omega
  rcases Nat.eq_zero_or_pos n with h0 | h0
  · exact ⟨ao, 0, 0, cap, rfl, h5, hm, fun h => absurd h (by omega)⟩
  · obtain ⟨b, o, rfl, hb, hc⟩ := h7 h0
    refine ⟨_, b, o, cap, rfl, h5, hm, fun _ => ⟨rfl, hb, fun i hi => ?_⟩⟩
    rw [hc i (by omega)]
    exact rCells_at hi
/-- An owned row of bits: its block. -/
theorem RelO.one {w : World} {lo : Nat} {v : Value} {n : Nat} {R : (Nat → Nat → Bool)} (h : RelO w lo v n R) (hn : 0 < n) : ∃ g cap, v = .slice (some ⟨g, 0, none⟩) n cap ∧ lo ≤ g ∧ g < w.heap.size ∧ (∀ i, i < n → w.cell? ⟨g, i, none⟩ = some (.int .u32 (bN (R i) : Int))) ∧ (∀ i, w.frozen? ⟨g, i, none⟩ = false) := by
  rcases owns_shape h with ⟨rfl, hn0, _⟩ | ⟨g, cap, rfl, h1, h2, _⟩
  · omega
  · exact ⟨g, cap, rfl, h1, h2, fun i hi => (h.cellAt i (by omega)).trans (rCells_at hi), fun i => h.frozenAt i⟩
theorem RelO.set {w : World} {lo g cap : Nat} {n : Nat} {R : (Nat → Nat → Bool)} (h : RelO w lo (.slice (some ⟨g, 0, none⟩) n cap) n R) (i : Nat) (p : Nat → Bool) : RelO (w.setCell ⟨g, i, none⟩ (.int .u32 (bN p : Int))) lo (.slice (some ⟨g, 0, none⟩) n cap) n (fun x => if x = i then p else R x) := by
  have := (World.ownsRow.stored h i (.int .u32 (bN p : Int))).1
  unfold RelO
  rw [← rCells_set]
  exact this
theorem rel_made {w : World} {lo b n : Nat} (hb : b = w.heap.size) (hl : lo ≤ b) (hn : n ≤ 1048576) : RelO (w.alloc (.cells (madeCells #[.int .u32 0] n) 124)) lo (.slice (some ⟨b, 0, none⟩) n n) n rNo := by
  unfold RelO
  rw [rCells_no]
  exact made_new hb hl hn
/-! ### a square of bools -/
def sqCells (n : Nat) (R : (Nat → Nat → Bool)) : List Value := (List.range (n * n)).map fun q => .bool (R (q / n) (q % n))
theorem sqCells_len (n : Nat) (R : (Nat → Nat → Bool)) : (sqCells n R).length = n * n := by simp [sqCells]
theorem sqCells_at {n : Nat} {R : (Nat → Nat → Bool)} {q : Nat} (h : q < n * n) : (sqCells n R)[q]? = some (.bool (R (q / n) (q % n))) := by simp [sqCells, h]
theorem sq_lt {n i j : Nat} (hi : i < n) (hj : j < n) : i * n + j < n * n := by
  have := Nat.mul_le_mul_right n (show i + 1 ≤ n by omega)
  rw [Nat.add_mul] at this
  omega
theorem sq_div {n i j : Nat} (hj : j < n) : (i * n + j) / n = i := by
  rw [Nat.mul_comm, Nat.mul_add_div (by omega), Nat.div_eq_of_lt hj]
  omega
theorem sq_mod {n i j : Nat} (hj : j < n) : (i * n + j) % n = j := by
  rw [Nat.mul_comm, Nat.mul_add_mod, Nat.mod_eq_of_lt hj]
theorem sq_split {n q : Nat} (h : q < n * n) : q / n < n ∧ q % n < n ∧ q = (q / n) * n + q % n := by
  have hn : 0 < n := by
    rcases Nat.eq_zero_or_pos n with h0 | h0
    · subst h0; omega
    · exact h0
  refine ⟨Nat.div_lt_of_lt_mul h, Nat.mod_lt _ hn, ?_⟩
  rw [Nat.mul_comm]
  exact (Nat.div_add_mod q n).symm
theorem sqCells_congr {n : Nat} {R S : (Nat → Nat → Bool)} (h : ∀ i j, i < n → j < n → R i j = S i j) : sqCells n R = sqCells n S := by
  unfold sqCells
  refine List.map_congr_left fun q hq => ?_
  have := sq_split (List.mem_range.1 hq)
  rw [h _ _ this.1 this.2.1]
theorem sqCells_set {n : Nat} (R : (Nat → Nat → Bool)) {i j : Nat} (hi : i < n) (hj : j < n) (c : Bool) : (sqCells n R).set (i * n + j) (.bool c) = sqCells n (fun x y => if x = i ∧ y = j then c else R x y) := by
  refine List.ext_getElem? fun q => ?_
  rw [List.getElem?_set]
  by_cases hq : q < n * n
  · rw [sqCells_at hq, sqCells_at hq, sqCells_len]
    have hs := sq_split hq
    by_cases e : i * n + j = q
    · subst e
      rw [if_pos rfl, if_pos hq, sq_div hj, sq_mod hj]
      simp
    · rw [if_neg e, if_neg]
      rintro ⟨h1, h2⟩
      apply e
      rw [← h1, ← h2]
      exact hs.2.2.symm
  · rw [List.getElem?_eq_none (by rw [sqCells_len]; omega), List.getElem?_eq_none (by rw [sqCells_len]; omega), sqCells_len]
    split
    · rw [if_neg (by omega)]
    · rfl
theorem sqCells_no (n : Nat) : sqCells n rNo = List.replicate (n * n) (.bool false) := by
  unfold sqCells rNo
  exact List.map_const' ▸ by simp
theorem oneCells_sq (n : Nat) (R : (Nat → Nat → Bool)) : ∀ u ∈ sqCells n R, u.oneCell' = true := fun u hu => by obtain ⟨x, _, rfl⟩ := List.mem_map.1 hu; rfl
def SqR (w : World) (v : Value) (n : Nat) (R : (Nat → Nat → Bool)) : Prop := RdS w 1 v (n * n) (sqCells n R)
def SqO (w : World) (lo : Nat) (v : Value) (n : Nat) (R : (Nat → Nat → Bool)) : Prop := w.ownsRow lo 4 1 v (n * n) (sqCells n R)
theorem SqR.fr {w w' : World} {v : Value} {n : Nat} {R : (Nat → Nat → Bool)} (h : SqR w v n R) (hf : Fr w w') : SqR w' v n R := RdS.fr h hf
theorem SqO.fr {w w' : World} {lo : Nat} {v : Value} {n : Nat} {R : (Nat → Nat → Bool)} (h : SqO w lo v n R) (hf : Fr w w') : SqO w' lo v n R := owns_fr h hf
theorem SqO.rd {w : World} {lo : Nat} {v : Value} {n : Nat} {R : (Nat → Nat → Bool)} (h : SqO w lo v n R) : SqR w v n R := RdS.of_owns h
theorem SqO.val {w : World} {lo : Nat} {v : Value} {n : Nat} {R : (Nat → Nat → Bool)} (h : SqO w lo v n R) : ∃ ao cap, v = .slice ao (n * n) cap := owns_val h
theorem SqO.congr {w : World} {lo : Nat} {v : Value} {n : Nat} {R S : (Nat → Nat → Bool)} (h : SqO w lo v n R) (e : ∀ i j, i < n → j < n → R i j = S i j) : SqO w lo v n S := by
  unfold SqO at h ⊢
  rw [← sqCells_congr e]
  exact h
theorem SqR.congr {w : World} {v : Value} {n : Nat} {R S : (Nat → Nat → Bool)} (h : SqR w v n R) (e : ∀ i j, i < n → j < n → R i j = S i j) : SqR w v n S := by
  unfold SqR at h ⊢
  rw [← sqCells_congr e]
  exact h
theorem SqR.one {w : World} {v : Value} {n : Nat} {R : (Nat → Nat → Bool)} (h : SqR w v n R) :
    ∃ ao b o cap, v = .slice ao (n * n) cap ∧ n * n ≤ cap ∧ cap ≤ 9223372036854775807 ∧ (0 < n * n → ao = some ⟨b, o, none⟩ ∧ b < w.heap.size ∧ (∀ q, q < n * n → w.cell? ⟨b, o + q, none⟩ = some (.bool (R (q / n) (q % n)))) ∧ ∀ i j, i < n → j < n → w.cell? ⟨b, o + (i * n + j), none⟩ = some (.bool (R i j))) := by
  obtain ⟨h4, ao, cap, rfl, h5, h6, h7⟩ := h
  have hm : cap ≤ 9223372036854775807 := by unfold maxLen at h6; omega
  rcases Nat.eq_zero_or_pos (n * n) with h0 | h0
  · exact ⟨ao, 0, 0, cap, rfl, h5, hm, fun h => absurd h (by omega)⟩
  · obtain ⟨b, o, rfl, hb, hc⟩ := h7 h0
    have hq : ∀ q, q < n * n → w.cell? ⟨b, o + q, none⟩ = some (.bool (R (q / n) (q % n))) := fun q hq => by
      rw [hc q (by omega)]
      exact sqCells_at hq
    refine ⟨_, b, o, cap, rfl, h5, hm, fun _ => ⟨rfl, hb, hq, fun i j hi hj => ?_⟩⟩
    rw [hq _ (sq_lt hi hj), sq_div hj, sq_mod hj]
theorem SqO.one {w : World} {lo : Nat} {v : Value} {n : Nat} {R : (Nat → Nat → Bool)} (h : SqO w lo v n R) (hn : 0 < n) : ∃ g cap, v = .slice (some ⟨g, 0, none⟩) (n * n) cap ∧ lo ≤ g ∧ g < w.heap.size ∧ (∀ q, q < n * n → w.cell? ⟨g, q, none⟩ = some (.bool (R (q / n) (q % n)))) ∧ (∀ i j, i < n → j < n → w.cell? ⟨g, i * n + j, none⟩ = some (.bool (R i j))) ∧ (∀ i, w.frozen? ⟨g, i, none⟩ = false) := by
  have hp := Nat.mul_pos hn hn
  rcases owns_shape h with ⟨rfl, hn0, _⟩ | ⟨g, cap, rfl, h1, h2, _⟩
  · omega
  · have hq : ∀ q, q < n * n → w.cell? ⟨g, q, none⟩ = some (.bool (R (q / n) (q % n))) := fun q hq => (h.cellAt q (by omega)).trans (sqCells_at hq)
    exact ⟨g, cap, rfl, h1, h2, hq, fun i j hi hj => by rw [hq _ (sq_lt hi hj), sq_div hj, sq_mod hj], fun i => h.frozenAt i⟩
theorem SqO.set {w : World} {lo g cap : Nat} {n : Nat} {R : (Nat → Nat → Bool)} (h : SqO w lo (.slice (some ⟨g, 0, none⟩) (n * n) cap) n R) {i j : Nat} (hi : i < n) (hj : j < n) (c : Bool) : SqO (w.setCell ⟨g, i * n + j, none⟩ (.bool c)) lo (.slice (some ⟨g, 0, none⟩) (n * n) cap) n (fun x y => if x = i ∧ y = j then c else R x y) := by
  have := (World.ownsRow.stored h (i * n + j) (.bool c)).1
  unfold SqO
  rw [← sqCells_set R hi hj]
  exact this
theorem sq_made {w : World} {lo b n : Nat} (hb : b = w.heap.size) (hl : lo ≤ b) (hn : n * n ≤ 1048576) : SqO (w.alloc (.cells (madeCells #[.bool false] (n * n)) 4)) lo (.slice (some ⟨b, 0, none⟩) (n * n) (n * n)) n rNo := by
  unfold SqO
  rw [sqCells_no]
  exact made_new hb hl hn
end Go.Proofs.Ytjgghiniajmfjaa
