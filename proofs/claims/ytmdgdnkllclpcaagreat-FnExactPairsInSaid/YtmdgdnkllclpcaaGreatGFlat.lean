/- Texts in one: Str, Flat. -/
import Derived.Test.YtmdgdnkllclpcaaGreatGMark
import Derived.Deep.QuietTactic
import Derived.BigQuiet
import Derived.Deep.RegionHeld3
/- Contracts of the laws' own helpers on slices of strings: size, copy, comparison, marks. No condition but the sizes that the reading gives. -/
namespace Go.Proofs.YtmdgdnkllclpcaaGreat
open Go.RowKit
set_option linter.unusedVariables false
set_option linter.unusedSimpArgs false

theorem info_string : (Tryz.prog.info? 9).map (fun i => (i.zero, i.size, i.bytes)) = some (some (.string ⟨#[]⟩), 1, 16) := by kernel_rfl

theorem eqStringS_any (a b : Value) (ss ts : List ByteArray) (w : World) (ha : StrsR w a ss) (hb : StrsR w b ts) :
    Calls Tryz.prog 72 #[a, b] w fun e w' => e = .returned (.bool (decide (ss = ts))) ∧ Fr w w' := by
  obtain ⟨ao, ba, oa, ca, rfl, hca, hma, fa⟩ := ha.one
  obtain ⟨bo, bb, ob, cb, rfl, hcb, hmb, fb⟩ := hb.one
  clear ha hb
  by_cases hl : ss.length = ts.length
  · have HL : Hid (ss.length = ts.length) := hl
    rw [← hl] at fb hcb ⊢
    clear hl
    go_enter Tryz.func72, Tryz.ntmps72
    go_wp2
    go_loopw [5] (fun i wr => ∃ k : Nat, k ≤ ss.length ∧ i = .int .i64 k ∧ Fr w wr ∧ Hid (∀ j, j < k → sAt ss j = sAt ts j)) (fun i _ => ss.length - (intOf i).toNat)
    case atStart => exact ⟨0, Nat.zero_le _, rfl, Fr.refl _, fun j hj => absurd hj (by omega)⟩
    case round =>
      obtain ⟨k, hk, rfl, hfr, hj⟩ := hrel
      by_cases hlt : k < ss.length
      · obtain ⟨rfl, hba, fa⟩ := fa (by omega)
        obtain ⟨rfl, hbb, fb⟩ := fb (by omega)
        have c1 : wr.cell? ⟨ba, oa + k, none⟩ = some (.string (sAt ss k)) := (hfr.cell (p := ⟨ba, _, none⟩) hba).trans (fa k hlt)
        have c2 : wr.cell? ⟨bb, ob + k, none⟩ = some (.string (sAt ts k)) := (hfr.cell (p := ⟨bb, _, none⟩) hbb).trans (fb k hlt)
        clear fa fb
        by_cases he : sAt ss k = sAt ts k
        · have he' := bytes_beq he
          have HE : Hid (sAt ss k = sAt ts k) := he
          clear he
          go_wp2
          go_quiet (fail)
          go_wp2
          go_roundw
          case rel => exact ⟨k + 1, by omega, by go_num, by exact Qf, fun j h => by rcases Nat.lt_succ_iff_lt_or_eq.1 h with h | rfl; exact hj.out j h; exact HE.out⟩
          case measure => (simp [intOf]; omega)
        · have he' := bytes_bne he
          go_wp2
          go_quiet (fail)
          go_wp2
          go_ret
          exact ⟨ret_bool (by symm; rw [decide_eq_false_iff_not]; rintro rfl; exact he rfl), by exact Qf⟩
      · clear fa fb
        go_wp2
        go_ret
        exact ⟨ret_bool (by symm; rw [decide_eq_true_eq]; exact ext_getD ByteArray.empty HL.out (fun j h => hj.out j (by omega))), by exact Qf⟩
  · go_enter Tryz.func72, Tryz.ntmps72
    go_wp2
    go_ret
    exact ⟨ret_bool (by symm; rw [decide_eq_false_iff_not]; rintro rfl; exact hl rfl), by exact Qf⟩

theorem szStringS_any (a : Value) (ss : List ByteArray) (left : Int) (w : World) (ha : StrsR w a ss) (hs : ∀ s ∈ ss, s.size ≤ maxLen) (h0 : 0 ≤ left) (h1 : left ≤ 1048576) :
    Calls Tryz.prog 52 #[a, .int .i64 left] w fun e w' => e = .returned (.int .i64 (szR left (strsBulk ss))) ∧ w = w' := by
  obtain ⟨ao, ba, oa, ca, rfl, hca, hma, fa⟩ := ha.one
  clear ha
  by_cases hl : (ss.length : Int) ≤ left
  · go_enter Tryz.func52, Tryz.ntmps52
    go_wp2
    go_loop [1, 5] (fun l i => ∃ k : Nat, k ≤ ss.length ∧ i = .int .i64 k ∧ l = .int .i64 (left - ss.length - sumLen ss k) ∧ (sumLen ss k : Int) ≤ left - ss.length) (fun _ i => ss.length - (intOf i).toNat)
    case atStart => exact ⟨0, Nat.zero_le _, rfl, by simp [sumLen], by simp [sumLen]; omega⟩
    case round =>
      obtain ⟨k, hk, rfl, rfl, hj⟩ := hrel
      by_cases hlt : k < ss.length
      · obtain ⟨rfl, hba, fa⟩ := fa (by omega)
        have c1 := fa k hlt
        have hsz : (sAt ss k).size ≤ 9223372036854775807 := by
          have := hs (sAt ss k) (by simp [sAt, List.getD, List.getElem?_eq_getElem hlt])
          unfold maxLen at this
          exact this
        have hsu := sumLen_succ ss k hlt
        have hle := sumLen_le ss (k + 1)
        have HSU := Lib.hid hsu
        clear hsu fa
        by_cases hr : ((sAt ss k).size : Int) ≤ left - ss.length - sumLen ss k
        · go_wp2
          go_round
          case rel => exact ⟨k + 1, by omega, by go_num, by rw [HSU.out]; go_num, by rw [HSU.out]; omega⟩
          case measure => (simp [intOf]; omega)
        · go_wp2
          go_ret
          exact ⟨ret_int (by rw [szR_no]; unfold strsBulk; have := HSU.out; omega), rfl⟩
      · clear fa
        obtain rfl : k = ss.length := by omega
        go_wp2
        go_ret
        exact ⟨ret_int (by rw [szR_ok]; · unfold strsBulk; omega
                           · unfold strsBulk; omega), rfl⟩
  · go_enter Tryz.func52, Tryz.ntmps52
    go_wp2
    go_ret
    exact ⟨ret_int (by rw [szR_no]; unfold strsBulk; omega), rfl⟩
/-- A slice of strings of the call's own, made from block lo on. -/
def StrsO (w : World) (lo : Nat) (v : Value) (ss : List ByteArray) : Prop := w.ownsRow lo 9 1 v ss.length (ss.map Value.string)
theorem StrsO.val {w : World} {lo : Nat} {v : Value} {ss : List ByteArray} (h : StrsO w lo v ss) : ∃ ao cap, v = .slice ao ss.length cap := owns_val h
theorem StrsO.fr {w w' : World} {lo : Nat} {v : Value} {ss : List ByteArray} (h : StrsO w lo v ss) (hf : Fr w w') : StrsO w' lo v ss := owns_fr h hf
theorem StrsO.rd {w : World} {lo : Nat} {v : Value} {ss : List ByteArray} (h : StrsO w lo v ss) : StrsR w v ss := RdS.of_owns h

theorem toStringS_any (a : Value) (ss : List ByteArray) (w : World) (ha : StrsR w a ss) (hn : ss.length ≤ 1048576) :
    Calls Tryz.prog 59 #[a] w fun e w' => ∃ v, e = .returned v ∧ StrsO w' w.heap.size v ss ∧ Fr w w' := by
  obtain ⟨ao, ba, oa, ca, rfl, hca, hma, fa⟩ := ha.one
  clear ha
  obtain ⟨i0, hi, hz0, hz1, hz2⟩ := info_parts info_string
  go_enter Tryz.func59, Tryz.ntmps59
  go_wp2_with (at_make; refine wpList_make_full _ rfl _ _ 22 rfl w.heap.size 9 i0 (.string ⟨#[]⟩) 1 Tryz.underlying22 hi hz0 hz1 _ _ _ _ ss.length rfl rfl rfl rfl (by rw [hz2]; omega) (by unfold maxLen; omega) (by omega) ?_; intro w1 hown hgrow)
  rw [show (madeCells (Value.string ⟨#[]⟩).cells (ss.length * 1)).toList = fill (ss.map Value.string) (.string ⟨#[]⟩) ss.length 0 from by rw [fill_zero, Nat.mul_one]; exact toList_madeCells_one _ _] at hown
  go_loopw [4] (fun i wr => ∃ k : Nat, k ≤ ss.length ∧ i = .int .i64 k ∧ wr.ownsRow w.heap.size 9 1 (.slice (some ⟨w.heap.size, 0, none⟩) ss.length ss.length) ss.length (fill (ss.map Value.string) (.string ⟨#[]⟩) ss.length k) ∧ Fr w wr) (fun i _ => ss.length - (intOf i).toNat)
  case atStart => exact ⟨0, Nat.zero_le _, rfl, hown, (Fr.refl w).grown hgrow (by simp)⟩
  case round =>
    clear hown hgrow
    obtain ⟨k, hk, rfl, ho, hfr⟩ := hrel
    by_cases hlt : k < ss.length
    · obtain ⟨rfl, hba, fa⟩ := fa (by omega)
      have c1 : wr.cell? ⟨ba, oa + k, none⟩ = some (.string (sAt ss k)) := (hfr.cell (p := ⟨ba, _, none⟩) hba).trans (fa k hlt)
      have f2 := ho.frozenAt k
      obtain ⟨u, c2⟩ : ∃ u, wr.cell? ⟨w.heap.size, k, none⟩ = some u := ⟨_, (ho.cellAt k (by omega)).trans (List.getElem?_eq_getElem (by rw [fill_length _ _ _ _ hk (by simp)]; exact hlt))⟩
      have hst := ho.stored k (.string (sAt ss k))
      rw [fill_set _ _ _ _ _ hlt (by simp) (by simp [sAt, List.getElem?_eq_getElem hlt])] at hst
      clear fa ho
      go_wp2
      go_roundw
      case rel => exact ⟨k + 1, by omega, by go_num, hst.1, hfr.setCell (Nat.le_refl _) _⟩
      case measure => (simp [intOf]; omega)
    · clear fa
      obtain rfl : k = ss.length := by omega
      rw [fill_all _ _ _ (by simp)] at ho
      go_wp2
      go_ret
      exact ⟨_, rfl, ho, hfr⟩

/-- The marks that a slice of n strings bears, the first of them k. -/
def marksS (k : Int) (n : Nat) : List ByteArray := (List.range n).map fun i : Nat => mTextI (k + i)
theorem marksS_length (k : Int) (n : Nat) : (marksS k n).length = n := by simp [marksS]
theorem marksS_at (k : Int) (n j : Nat) (h : j < n) : sAt (marksS k n) j = mTextI (k + j) := by simp [marksS, sAt, List.getD, h]

/-- A slice is written in place: its old cells up to k marked, the rest as it was. -/
def part (new old : List Value) (k : Nat) : List Value := new.take k ++ old.drop k
theorem part_zero (new old : List Value) : part new old 0 = old := by simp [part]
theorem part_all (new old : List Value) (n : Nat) (h1 : new.length = n) (h2 : old.length = n) : part new old n = new := by simp [part, ← h1, List.drop_of_length_le (show old.length ≤ new.length by omega)]
theorem part_set (new old : List Value) (k n : Nat) (u : Value) (hk : k < n) (h1 : new.length = n) (h2 : old.length = n) (hu : new[k]? = some u) : (part new old k).set k u = part new old (k + 1) := by
  have hl : (new.take k).length = k := by simp; omega
  unfold part
  rw [List.set_append_right _ _ (by omega), hl, Nat.sub_self, List.drop_eq_getElem_cons (show k < old.length by omega), List.set_cons_zero]
  obtain ⟨hk', rfl⟩ := List.getElem?_eq_some_iff.1 hu
  rw [List.take_succ_eq_append_getElem hk', List.append_assoc]
  rfl
theorem part_length (new old : List Value) (k n : Nat) (h1 : new.length = n) (h2 : old.length = n) (hk : k ≤ n) : (part new old k).length = n := by simp [part]; omega

theorem markStringS_any (g n cap : Nat) (ss : List ByteArray) (k : Int) (lo : Nat) (w : World) (ha : w.ownsRow lo 9 1 (.slice (some ⟨g, 0, none⟩) n cap) n (ss.map Value.string)) (h0 : 0 < k) (h1 : k ≤ 1073741824) (h2 : n ≤ 1073741824) :
    Calls Tryz.prog 76 #[.slice (some ⟨g, 0, none⟩) n cap, .int .i64 k] w fun e w' => e = .returned (.int .i64 (k + n)) ∧ w'.ownsRow lo 9 1 (.slice (some ⟨g, 0, none⟩) n cap) n ((marksS k n).map Value.string) ∧ w.grownBy w' (some g) := by
  have hsl : (ss.map Value.string).length = n := by have := ha.1; simpa using this
  have hg0 : g < w.heap.size := (ha.lt g rfl).2
  go_enter Tryz.func76, Tryz.ntmps76
  go_wp2
  go_loopw [1, 5] (fun l i wr => ∃ m : Nat, m ≤ n ∧ i = .int .i64 m ∧ l = .int .i64 (k + m) ∧ wr.ownsRow lo 9 1 (.slice (some ⟨g, 0, none⟩) n cap) n (part ((marksS k n).map Value.string) (ss.map Value.string) m) ∧ w.grownBy wr (some g)) (fun _ i _ => n - (intOf i).toNat)
  case atStart => exact ⟨0, Nat.zero_le _, rfl, by simp, by rw [part_zero]; exact ha, World.grownBy.refl _ _⟩
  case round =>
    clear ha
    obtain ⟨m, hm, rfl, rfl, ho, hfr⟩ := hrel
    by_cases hlt : m < n
    · go_wp2_with (go_at_call 139; refine (markText_int _ _ (by omega) (by omega)).mono ?_; rintro e w1 ⟨rfl, hf⟩; have ho' := owns_fr ho hf; have f2 := ho'.frozenAt m; obtain ⟨u, c2⟩ := owns_cell ho' m (by omega))
      have ho' := owns_fr ho hf
      have hst := ho'.stored m (.string (mTextI (k + m)))
      rw [part_set _ _ _ n _ hlt (by simp [marksS]) hsl (by simp [marksS, hlt])] at hst
      go_roundw
      case rel => exact ⟨m + 1, by omega, by go_num, by go_num, hst.1, gr_trans (gr_trans hfr (hf.gr _)) hst.2⟩
      case measure => (simp [intOf]; omega)
    · obtain rfl : m = n := by omega
      rw [part_all _ _ m (by simp [marksS]) hsl] at ho
      go_wp2
      go_ret
      exact ⟨rfl, ho, hfr⟩
end Go.Proofs.YtmdgdnkllclpcaaGreat

/- Contracts of the laws' own helpers on slices of ints and of bools: size, copy, comparison, marks. No condition but the sizes that the reading gives. (Printed by mk_flat.py.) -/
namespace Go.Proofs.YtmdgdnkllclpcaaGreat
open Go.RowKit
set_option linter.unusedVariables false
set_option linter.unusedSimpArgs false

theorem info_int : (Tryz.prog.info? 3).map (fun i => (i.zero, i.size, i.bytes)) = some (some (.int .i64 0), 1, 8) := by kernel_rfl
/-- A slice of the call's own, made from block lo on. -/
def IntsO (w : World) (lo : Nat) (v : Value) (ss : List Int) : Prop := w.ownsRow lo 3 1 v ss.length (ss.map (Value.int .i64))
theorem IntsO.rd {w : World} {lo : Nat} {v : Value} {ss : List Int} (h : IntsO w lo v ss) : IntsR w v ss := RdS.of_owns h
theorem IntsO.val {w : World} {lo : Nat} {v : Value} {ss : List Int} (h : IntsO w lo v ss) : ∃ ao cap, v = .slice ao ss.length cap := owns_val h
theorem IntsO.fr {w w' : World} {lo : Nat} {v : Value} {ss : List Int} (h : IntsO w lo v ss) (hf : Fr w w') : IntsO w' lo v ss := owns_fr h hf

theorem eqIntS_any (a b : Value) (ss ts : List Int) (w : World) (ha : IntsR w a ss) (hb : IntsR w b ts) :
    Calls Tryz.prog 50 #[a, b] w fun e w' => e = .returned (.bool (decide (ss = ts))) ∧ Fr w w' := by
  obtain ⟨ao, ba, oa, ca, rfl, hca, hma, fa⟩ := ha.one
  obtain ⟨bo, bb, ob, cb, rfl, hcb, hmb, fb⟩ := hb.one
  clear ha hb
  by_cases hl : ss.length = ts.length
  · have HL : Hid (ss.length = ts.length) := hl
    rw [← hl] at fb hcb ⊢
    clear hl
    go_enter Tryz.func50, Tryz.ntmps50
    go_wp2
    go_loopw [5] (fun i wr => ∃ k : Nat, k ≤ ss.length ∧ i = .int .i64 k ∧ Fr w wr ∧ Hid (∀ j, j < k → iAt ss j = iAt ts j)) (fun i _ => ss.length - (intOf i).toNat)
    case atStart => exact ⟨0, Nat.zero_le _, rfl, Fr.refl _, fun j hj => absurd hj (by omega)⟩
    case round =>
      obtain ⟨k, hk, rfl, hfr, hj⟩ := hrel
      by_cases hlt : k < ss.length
      · obtain ⟨rfl, hba, fa⟩ := fa (by omega)
        obtain ⟨rfl, hbb, fb⟩ := fb (by omega)
        obtain ⟨x, hx⟩ : ∃ x, x = iAt ss k := ⟨_, rfl⟩
        obtain ⟨y, hy⟩ : ∃ y, y = iAt ts k := ⟨_, rfl⟩
        have c1 : wr.cell? ⟨ba, oa + k, none⟩ = some (.int .i64 x) := (hfr.cell (p := ⟨ba, _, none⟩) hba).trans (by rw [hx]; exact fa k hlt)
        have c2 : wr.cell? ⟨bb, ob + k, none⟩ = some (.int .i64 y) := (hfr.cell (p := ⟨bb, _, none⟩) hbb).trans (by rw [hy]; exact fb k hlt)
        have HX := Lib.hid hx
        have HY := Lib.hid hy
        clear fa fb hx hy
        by_cases he : x = y
        · have he' : (x == y) = true := by simpa using he
          have he'' : (x != y) = false := by simpa using he
          have HE : Hid (iAt ss k = iAt ts k) := by rw [← HX.out, ← HY.out]; exact he
          clear he
          go_wp2
          go_quiet (fail)
          go_wp2
          go_roundw
          case rel => exact ⟨k + 1, by omega, by go_num, by exact Qf, fun j h => by rcases Nat.lt_succ_iff_lt_or_eq.1 h with h | rfl; exact hj.out j h; exact HE.out⟩
          case measure => (simp [intOf]; omega)
        · have he' : (x == y) = false := by simpa using he
          have he'' : (x != y) = true := by simpa using he
          go_wp2
          go_quiet (fail)
          go_wp2
          go_ret
          exact ⟨ret_bool (by symm; rw [decide_eq_false_iff_not]; rintro rfl; exact he (HX.out.trans HY.out.symm)), by exact Qf⟩
      · clear fa fb
        go_wp2
        go_ret
        exact ⟨ret_bool (by symm; rw [decide_eq_true_eq]; exact ext_getD 0 HL.out (fun j h => hj.out j (by omega))), by exact Qf⟩
  · go_enter Tryz.func50, Tryz.ntmps50
    go_wp2
    go_ret
    exact ⟨ret_bool (by symm; rw [decide_eq_false_iff_not]; rintro rfl; exact hl rfl), by exact Qf⟩
theorem toIntS_any (a : Value) (ss : List Int) (w : World) (ha : IntsR w a ss) (hn : ss.length ≤ 1048576) :
    Calls Tryz.prog 48 #[a] w fun e w' => ∃ v, e = .returned v ∧ IntsO w' w.heap.size v ss ∧ Fr w w' := by
  obtain ⟨ao, ba, oa, ca, rfl, hca, hma, fa⟩ := ha.one
  clear ha
  obtain ⟨i0, hi, hz0, hz1, hz2⟩ := info_parts info_int
  go_enter Tryz.func48, Tryz.ntmps48
  go_wp2_with (at_make; refine wpList_make_full _ rfl _ _ 86 rfl w.heap.size 3 i0 (.int .i64 0) 1 Tryz.underlying86 hi hz0 hz1 _ _ _ _ ss.length rfl rfl rfl rfl (by rw [hz2]; omega) (by unfold maxLen; omega) (by omega) ?_; intro w1 hown hgrow)
  rw [show (madeCells (Value.cells (.int .i64 0)) (ss.length * 1)).toList = fill (ss.map (Value.int .i64)) (.int .i64 0) ss.length 0 from by rw [fill_zero, Nat.mul_one]; exact toList_madeCells_one _ _] at hown
  go_loopw [4] (fun i wr => ∃ k : Nat, k ≤ ss.length ∧ i = .int .i64 k ∧ wr.ownsRow w.heap.size 3 1 (.slice (some ⟨w.heap.size, 0, none⟩) ss.length ss.length) ss.length (fill (ss.map (Value.int .i64)) (.int .i64 0) ss.length k) ∧ Fr w wr) (fun i _ => ss.length - (intOf i).toNat)
  case atStart => exact ⟨0, Nat.zero_le _, rfl, hown, (Fr.refl w).grown hgrow (by simp)⟩
  case round =>
    clear hown hgrow
    obtain ⟨k, hk, rfl, ho, hfr⟩ := hrel
    by_cases hlt : k < ss.length
    · obtain ⟨rfl, hba, fa⟩ := fa (by omega)
      have c1 : wr.cell? ⟨ba, oa + k, none⟩ = some (.int .i64 (iAt ss k)) := (hfr.cell (p := ⟨ba, _, none⟩) hba).trans (fa k hlt)
      have f2 := ho.frozenAt k
      obtain ⟨u, c2⟩ := owns_cell ho k (by omega)
      have hst := ho.stored k (.int .i64 (iAt ss k))
      rw [fill_set _ _ _ _ _ hlt (by simp) (by simp [iAt, List.getElem?_eq_getElem hlt])] at hst
      clear fa ho
      go_wp2
      go_roundw
      case rel => exact ⟨k + 1, by omega, by go_num, hst.1, hfr.setCell (Nat.le_refl _) _⟩
      case measure => (simp [intOf]; omega)
    · clear fa
      obtain rfl : k = ss.length := by omega
      rw [fill_all _ _ _ (by simp)] at ho
      go_wp2
      go_ret
      exact ⟨_, rfl, ho, hfr⟩
/-- The marks that a slice of n elements bears, the first of them k. -/
def marksInt (k : Int) (n : Nat) : List Int := (List.range n).map fun i : Nat => k + i
theorem marksInt_length (k : Int) (n : Nat) : (marksInt k n).length = n := by simp [marksInt]
theorem marksInt_at (k : Int) (n j : Nat) (h : j < n) : iAt (marksInt k n) j = (fun i : Nat => k + i) j := by simp [marksInt, iAt, List.getD, h]

theorem markIntS_any (g n cap : Nat) (ss : List Int) (k : Int) (lo : Nat) (w : World) (ha : w.ownsRow lo 3 1 (.slice (some ⟨g, 0, none⟩) n cap) n (ss.map (Value.int .i64))) (h0 : 0 < k) (h1 : k ≤ 1073741824) (h2 : n ≤ 1073741824) :
    Calls Tryz.prog 51 #[.slice (some ⟨g, 0, none⟩) n cap, .int .i64 k] w fun e w' => e = .returned (.int .i64 (k + n)) ∧ w'.ownsRow lo 3 1 (.slice (some ⟨g, 0, none⟩) n cap) n ((marksInt k n).map (Value.int .i64)) ∧ w.grownBy w' (some g) := by
  have hsl : (ss.map (Value.int .i64)).length = n := by have := ha.1; simpa using this
  have hg0 : g < w.heap.size := (ha.lt g rfl).2
  go_enter Tryz.func51, Tryz.ntmps51
  go_wp2
  go_loopw [1, 5] (fun l i wr => ∃ m : Nat, m ≤ n ∧ i = .int .i64 m ∧ l = .int .i64 (k + m) ∧ wr.ownsRow lo 3 1 (.slice (some ⟨g, 0, none⟩) n cap) n (part ((marksInt k n).map (Value.int .i64)) (ss.map (Value.int .i64)) m) ∧ w.grownBy wr (some g)) (fun _ i _ => n - (intOf i).toNat)
  case atStart => exact ⟨0, Nat.zero_le _, rfl, by simp, by rw [part_zero]; exact ha, World.grownBy.refl _ _⟩
  case round =>
    clear ha
    obtain ⟨m, hm, rfl, rfl, ho, hfr⟩ := hrel
    by_cases hlt : m < n
    · have f2 := ho.frozenAt m
      obtain ⟨u, c2⟩ := owns_cell ho m (by omega)
      have hst := ho.stored m (.int .i64 (k + m))
      rw [part_set _ _ _ n _ hlt (by simp [marksInt]) hsl (by simp [marksInt, hlt])] at hst
      clear ho
      go_wp2
      go_roundw
      case rel => exact ⟨m + 1, by omega, by go_num, by go_num, hst.1, gr_trans hfr hst.2⟩
      case measure => (simp [intOf]; omega)
    · obtain rfl : m = n := by omega
      rw [part_all _ _ m (by simp [marksInt]) hsl] at ho
      go_wp2
      go_ret
      exact ⟨rfl, ho, hfr⟩
theorem heldIntS_any (a : Value) (k : Int) (n : Nat) (w : World) (ha : IntsR w a (marksInt k n)) (h0 : 0 < k) (h1 : k ≤ 1073741824) (h2 : n ≤ 1073741824) :
    Calls Tryz.prog 79 #[a, .int .i64 k] w fun e w' => e = .returned (.int .i64 (k + n)) ∧ Fr w w' := by
  obtain ⟨ao, ba, oa, ca, rfl, hca, hma, fa⟩ := ha.one
  clear ha
  rw [marksInt_length] at hca fa ⊢
  go_enter Tryz.func79, Tryz.ntmps79
  go_wp2
  go_loopw [1, 5] (fun l i wr => ∃ m : Nat, m ≤ n ∧ i = .int .i64 m ∧ l = .int .i64 (k + m) ∧ Fr w wr) (fun _ i _ => n - (intOf i).toNat)
  case atStart => exact ⟨0, Nat.zero_le _, rfl, by simp, Fr.refl _⟩
  case round =>
    obtain ⟨m, hm, rfl, rfl, hfr⟩ := hrel
    by_cases hlt : m < n
    · obtain ⟨rfl, hba, fa⟩ := fa (by omega)
      have c1 : wr.cell? ⟨ba, oa + m, none⟩ = some (.int .i64 (k + m)) := (hfr.cell (p := ⟨ba, _, none⟩) hba).trans (by rw [fa m hlt, marksInt_at k n m hlt])
      clear fa
      go_wp2
      try go_quiet (fail)
      try go_wp2
      go_roundw
      case rel => exact ⟨m + 1, by omega, by go_num, by go_num, by exact Qf⟩
      case measure => (simp [intOf]; omega)
    · clear fa
      obtain rfl : m = n := by omega
      go_wp2
      go_ret
      exact ⟨rfl, hfr⟩

theorem info_bool : (Tryz.prog.info? 4).map (fun i => (i.zero, i.size, i.bytes)) = some (some (.bool false), 1, 1) := by kernel_rfl
/-- A slice of the call's own, made from block lo on. -/
def BoolsO (w : World) (lo : Nat) (v : Value) (ss : List Bool) : Prop := w.ownsRow lo 4 1 v ss.length (ss.map (Value.bool))
theorem BoolsO.rd {w : World} {lo : Nat} {v : Value} {ss : List Bool} (h : BoolsO w lo v ss) : BoolsR w v ss := RdS.of_owns h
theorem BoolsO.val {w : World} {lo : Nat} {v : Value} {ss : List Bool} (h : BoolsO w lo v ss) : ∃ ao cap, v = .slice ao ss.length cap := owns_val h
theorem BoolsO.fr {w w' : World} {lo : Nat} {v : Value} {ss : List Bool} (h : BoolsO w lo v ss) (hf : Fr w w') : BoolsO w' lo v ss := owns_fr h hf

end Go.Proofs.YtmdgdnkllclpcaaGreat
