/- Contracts of the laws' own helpers on slices of ints and of bools: size, copy, comparison, marks. No condition but the sizes that the reading gives. (Printed by mk_flat.py.) -/
import Derived.Test.YthcbnilmhenpgaaStr
namespace Go.Proofs.Ythcbnilmhenpgaa
open Go.RowKit
set_option linter.unusedVariables false
set_option linter.unusedSimpArgs false

theorem info_int : (Try.prog.info? 3).map (fun i => (i.zero, i.size, i.bytes)) = some (some (.int .i64 0), 1, 8) := by kernel_rfl
/-- A slice of the call's own, made from block lo on. -/
def IntsO (w : World) (lo : Nat) (v : Value) (ss : List Int) : Prop := w.ownsRow lo 3 1 v ss.length (ss.map (Value.int .i64))
theorem IntsO.rd {w : World} {lo : Nat} {v : Value} {ss : List Int} (h : IntsO w lo v ss) : IntsR w v ss := RdS.of_owns h
theorem IntsO.val {w : World} {lo : Nat} {v : Value} {ss : List Int} (h : IntsO w lo v ss) : ∃ ao cap, v = .slice ao ss.length cap := owns_val h
theorem IntsO.fr {w w' : World} {lo : Nat} {v : Value} {ss : List Int} (h : IntsO w lo v ss) (hf : Fr w w') : IntsO w' lo v ss := owns_fr h hf

theorem eqIntS_any (a b : Value) (ss ts : List Int) (w : World) (ha : IntsR w a ss) (hb : IntsR w b ts) :
    Calls Try.prog 24 #[a, b] w fun e w' => e = .returned (.bool (decide (ss = ts))) ∧ Fr w w' := by
  obtain ⟨ao, ba, oa, ca, rfl, hca, hma, fa⟩ := ha.one
  obtain ⟨bo, bb, ob, cb, rfl, hcb, hmb, fb⟩ := hb.one
  clear ha hb
  by_cases hl : ss.length = ts.length
  · have HL : Hid (ss.length = ts.length) := hl
    rw [← hl] at fb hcb ⊢
    clear hl
    go_enter Try.func24, Try.ntmps24
    go_wp2
    go_loopw [5] (fun i wr => ∃ k : Nat, k ≤ ss.length ∧ i = .int .i64 k ∧ Fr w wr ∧ Hid (∀ j, j < k → iAt ss j = iAt ts j)) (fun i _ => ss.length - (intOf i).toNat)
    case atStart => exact ⟨0, Nat.zero_le _, rfl, Fr.refl _, fun j hj => absurd hj (by omega)⟩
    case round =>
      obtain ⟨k, hk, rfl, hfr, hj⟩ := hrel
      by_cases hlt : k < ss.length
      · obtain ⟨rfl, hba, fa⟩ := fa (by omega)
        obtain ⟨rfl, hbb, fb⟩ := fb (by omega)
        obtain ⟨x, hx⟩ : ∃ x, x = iAt ss k := ⟨_, rfl⟩
        obtain ⟨y, hy⟩ : ∃ y, y = iAt ts k := ⟨_, rfl⟩
        have c1 : wr.cell? ⟨ba, oa + k, none⟩ = some (.int .i64 x) := (hfr.cell (p := ⟨ba, _, none⟩) hba).trans (by rw [hx]; exact fa k hlt)
        have c2 : wr.cell? ⟨bb, ob + k, none⟩ = some (.int .i64 y) := (hfr.cell (p := ⟨bb, _, none⟩) hbb).trans (by rw [hy]; exact fb k hlt)
        have HX := Lib.hid hx
        have HY := Lib.hid hy
        clear fa fb hx hy
        by_cases he : x = y
        · have he' : (x == y) = true := by simpa using he
          have he'' : (x != y) = false := by simpa using he
          have HE : Hid (iAt ss k = iAt ts k) := by rw [← HX.out, ← HY.out]; exact he
          clear he
          go_wp2
          go_quiet (fail)
          go_wp2
          go_roundw
          case rel => exact ⟨k + 1, by omega, by go_num, by repeat (first | (with_reducible exact Fr.refl _) | (with_reducible assumption) | (with_reducible refine Fr.drewN ?_ _) | (with_reducible refine Fr.drew ?_) | (with_reducible refine Fr.alloc ?_ _) | (with_reducible refine Fr.setCell ?_ (by (first | (with_reducible assumption) | omega | (simp only [World.size_alloc, World.size_setCell, World.size_drew, World.heap_drewN]; omega) | (simp; done) | (simp; omega))) _) | (with_reducible refine Fr.trans ?_ (by with_reducible assumption))), fun j h => by rcases Nat.lt_succ_iff_lt_or_eq.1 h with h | rfl; exact hj.out j h; exact HE.out⟩
          case measure => (simp [intOf]; omega)
        · have he' : (x == y) = false := by simpa using he
          have he'' : (x != y) = true := by simpa using he
          go_wp2
          go_quiet (fail)
          go_wp2
          go_ret
          exact ⟨ret_bool (by symm; rw [decide_eq_false_iff_not]; rintro rfl; exact he (HX.out.trans HY.out.symm)), by repeat (first | (with_reducible exact Fr.refl _) | (with_reducible assumption) | (with_reducible refine Fr.drewN ?_ _) | (with_reducible refine Fr.drew ?_) | (with_reducible refine Fr.alloc ?_ _) | (with_reducible refine Fr.setCell ?_ (by (first | (with_reducible assumption) | omega | (simp only [World.size_alloc, World.size_setCell, World.size_drew, World.heap_drewN]; omega) | (simp; done) | (simp; omega))) _) | (with_reducible refine Fr.trans ?_ (by with_reducible assumption)))⟩
      · clear fa fb
        go_wp2
        go_ret
        exact ⟨ret_bool (by symm; rw [decide_eq_true_eq]; exact ext_getD 0 HL.out (fun j h => hj.out j (by omega))), by repeat (first | (with_reducible exact Fr.refl _) | (with_reducible assumption) | (with_reducible refine Fr.drewN ?_ _) | (with_reducible refine Fr.drew ?_) | (with_reducible refine Fr.alloc ?_ _) | (with_reducible refine Fr.setCell ?_ (by (first | (with_reducible assumption) | omega | (simp only [World.size_alloc, World.size_setCell, World.size_drew, World.heap_drewN]; omega) | (simp; done) | (simp; omega))) _) | (with_reducible refine Fr.trans ?_ (by with_reducible assumption)))⟩
  · go_enter Try.func24, Try.ntmps24
    go_wp2
    go_ret
    exact ⟨ret_bool (by symm; rw [decide_eq_false_iff_not]; rintro rfl; exact hl rfl), by repeat (first | (with_reducible exact Fr.refl _) | (with_reducible assumption) | (with_reducible refine Fr.drewN ?_ _) | (with_reducible refine Fr.drew ?_) | (with_reducible refine Fr.alloc ?_ _) | (with_reducible refine Fr.setCell ?_ (by (first | (with_reducible assumption) | omega | (simp only [World.size_alloc, World.size_setCell, World.size_drew, World.heap_drewN]; omega) | (simp; done) | (simp; omega))) _) | (with_reducible refine Fr.trans ?_ (by with_reducible assumption)))⟩
theorem toIntS_any (a : Value) (ss : List Int) (w : World) (ha : IntsR w a ss) (hn : ss.length ≤ 1048576) :
    Calls Try.prog 22 #[a] w fun e w' => ∃ v, e = .returned v ∧ IntsO w' w.heap.size v ss ∧ Fr w w' := by
  obtain ⟨ao, ba, oa, ca, rfl, hca, hma, fa⟩ := ha.one
  clear ha
  obtain ⟨i0, hi, hz0, hz1, hz2⟩ := info_parts info_int
  go_enter Try.func22, Try.ntmps22
  go_wp2_with (at_make; refine wpList_make_full _ rfl _ _ 49 rfl w.heap.size 3 i0 (.int .i64 0) 1 Try.underlying49 hi hz0 hz1 _ _ _ _ ss.length rfl rfl rfl rfl (by rw [hz2]; omega) (by unfold maxLen; omega) (by omega) ?_; intro w1 hown hgrow)
  rw [show (madeCells (Value.cells (.int .i64 0)) (ss.length * 1)).toList = fill (ss.map (Value.int .i64)) (.int .i64 0) ss.length 0 from by rw [fill_zero, Nat.mul_one]; exact toList_madeCells_one _ _] at hown
  go_loopw [4] (fun i wr => ∃ k : Nat, k ≤ ss.length ∧ i = .int .i64 k ∧ wr.ownsRow w.heap.size 3 1 (.slice (some ⟨w.heap.size, 0, none⟩) ss.length ss.length) ss.length (fill (ss.map (Value.int .i64)) (.int .i64 0) ss.length k) ∧ Fr w wr) (fun i _ => ss.length - (intOf i).toNat)
  case atStart => exact ⟨0, Nat.zero_le _, rfl, hown, (Fr.refl w).grown hgrow (by simp)⟩
  case round =>
    clear hown hgrow
    obtain ⟨k, hk, rfl, ho, hfr⟩ := hrel
    by_cases hlt : k < ss.length
    · obtain ⟨rfl, hba, fa⟩ := fa (by omega)
      have c1 : wr.cell? ⟨ba, oa + k, none⟩ = some (.int .i64 (iAt ss k)) := (hfr.cell (p := ⟨ba, _, none⟩) hba).trans (fa k hlt)
      have f2 := ho.frozenAt k
      obtain ⟨u, c2⟩ := owns_cell ho k (by omega)
      have hst := ho.stored k (.int .i64 (iAt ss k))
      rw [fill_set _ _ _ _ _ hlt (by simp) (by simp [iAt, List.getElem?_eq_getElem hlt])] at hst
      clear fa ho
      go_wp2
      go_roundw
      case rel => exact ⟨k + 1, by omega, by go_num, hst.1, hfr.setCell (Nat.le_refl _) _⟩
      case measure => (simp [intOf]; omega)
    · clear fa
      obtain rfl : k = ss.length := by omega
      rw [fill_all _ _ _ (by simp)] at ho
      go_wp2
      go_ret
      exact ⟨_, rfl, ho, hfr⟩
/-- The marks that a slice of n elements bears, the first of them k. -/
def marksInt (k : Int) (n : Nat) : List Int := (List.range n).map fun i : Nat => k + i
theorem marksInt_length (k : Int) (n : Nat) : (marksInt k n).length = n := by simp [marksInt]
theorem marksInt_at (k : Int) (n j : Nat) (h : j < n) : iAt (marksInt k n) j = (fun i : Nat => k + i) j := by simp [marksInt, iAt, List.getD, h]

theorem markIntS_any (g n cap : Nat) (ss : List Int) (k : Int) (lo : Nat) (w : World) (ha : w.ownsRow lo 3 1 (.slice (some ⟨g, 0, none⟩) n cap) n (ss.map (Value.int .i64))) (h0 : 0 < k) (h1 : k ≤ 1073741824) (h2 : n ≤ 1073741824) :
    Calls Try.prog 25 #[.slice (some ⟨g, 0, none⟩) n cap, .int .i64 k] w fun e w' => e = .returned (.int .i64 (k + n)) ∧ w'.ownsRow lo 3 1 (.slice (some ⟨g, 0, none⟩) n cap) n ((marksInt k n).map (Value.int .i64)) ∧ w.grownBy w' (some g) := by
  have hsl : (ss.map (Value.int .i64)).length = n := by have := ha.1; simpa using this
  have hg0 : g < w.heap.size := (ha.lt g rfl).2
  go_enter Try.func25, Try.ntmps25
  go_wp2
  go_loopw [1, 5] (fun l i wr => ∃ m : Nat, m ≤ n ∧ i = .int .i64 m ∧ l = .int .i64 (k + m) ∧ wr.ownsRow lo 3 1 (.slice (some ⟨g, 0, none⟩) n cap) n (part ((marksInt k n).map (Value.int .i64)) (ss.map (Value.int .i64)) m) ∧ w.grownBy wr (some g)) (fun _ i _ => n - (intOf i).toNat)
  case atStart => exact ⟨0, Nat.zero_le _, rfl, by simp, by rw [part_zero]; exact ha, World.grownBy.refl _ _⟩
  case round =>
    clear ha
    obtain ⟨m, hm, rfl, rfl, ho, hfr⟩ := hrel
    by_cases hlt : m < n
    · have f2 := ho.frozenAt m
      obtain ⟨u, c2⟩ := owns_cell ho m (by omega)
      have hst := ho.stored m (.int .i64 (k + m))
      rw [part_set _ _ _ n _ hlt (by simp [marksInt]) hsl (by simp [marksInt, hlt])] at hst
      clear ho
      go_wp2
      go_roundw
      case rel => exact ⟨m + 1, by omega, by go_num, by go_num, hst.1, gr_trans hfr hst.2⟩
      case measure => (simp [intOf]; omega)
    · obtain rfl : m = n := by omega
      rw [part_all _ _ m (by simp [marksInt]) hsl] at ho
      go_wp2
      go_ret
      exact ⟨rfl, ho, hfr⟩

theorem info_bool : (Try.prog.info? 4).map (fun i => (i.zero, i.size, i.bytes)) = some (some (.bool false), 1, 1) := by kernel_rfl
/-- A slice of the call's own, made from block lo on. -/
def BoolsO (w : World) (lo : Nat) (v : Value) (ss : List Bool) : Prop := w.ownsRow lo 4 1 v ss.length (ss.map (Value.bool))
theorem BoolsO.rd {w : World} {lo : Nat} {v : Value} {ss : List Bool} (h : BoolsO w lo v ss) : BoolsR w v ss := RdS.of_owns h
theorem BoolsO.val {w : World} {lo : Nat} {v : Value} {ss : List Bool} (h : BoolsO w lo v ss) : ∃ ao cap, v = .slice ao ss.length cap := owns_val h
theorem BoolsO.fr {w w' : World} {lo : Nat} {v : Value} {ss : List Bool} (h : BoolsO w lo v ss) (hf : Fr w w') : BoolsO w' lo v ss := owns_fr h hf

end Go.Proofs.Ythcbnilmhenpgaa
