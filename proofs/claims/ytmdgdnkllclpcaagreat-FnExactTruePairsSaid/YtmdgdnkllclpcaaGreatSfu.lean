/- The reference's relations: l06Or, l06Behind. Conditions: at most 12 places. -/
import Derived.Test.YtmdgdnkllclpcaaGreatGVis
import Derived.BigQuiet
import Derived.BigRegion
namespace Go.Proofs.YtmdgdnkllclpcaaGreat
open Go.RowKit
set_option linter.unusedVariables false
set_option linter.unusedSimpArgs false
theorem wrap_nat (m : Nat) (h : m ≤ 1000000) : IntKind.i64.wrap (m : Int) = (m : Int) := IntWalk.i64_in _ (by omega)
theorem sq_le {n : Nat} (h : n ≤ 12) : n * n ≤ 144 := Nat.mul_le_mul h h
theorem wrap_mul {i n : Nat} (h1 : i ≤ 12) (h2 : n ≤ 12) : IntKind.i64.wrap ((i : Int) * (n : Int)) = ((i * n : Nat) : Int) := by
  have : i * n ≤ 144 := Nat.mul_le_mul h1 h2
  rw [show (i : Int) * (n : Int) = ((i * n : Nat) : Int) by simp]
  exact wrap_nat _ (by omega)
theorem wrap_at {i k n : Nat} (h1 : i ≤ 12) (h2 : n ≤ 12) (h3 : k ≤ 12) : IntKind.i64.wrap (((i * n : Nat) : Int) + (k : Int)) = ((i * n + k : Nat) : Int) := by
  have : i * n ≤ 144 := Nat.mul_le_mul h1 h2
  rw [show ((i * n : Nat) : Int) + (k : Int) = ((i * n + k : Nat) : Int) by simp]
  exact wrap_nat _ (by omega)
/-- So far as the first k cells go. -/
def orTo (n k : Nat) (A B : Nat → Nat → Bool) : Nat → Nat → Bool := fun x y => A x y || (decide (x * n + y < k) && B x y)
set_option maxHeartbeats 4000000 in
set_option maxRecDepth 100000 in
theorem l06Or_any (g lo cap n : Nat) (b : Value) (A B : Nat → Nat → Bool) (w : World) (hn : 0 < n ∧ n ≤ 12) (ha : SqO w lo (.slice (some ⟨g, 0, none⟩) (n * n) cap) n A) (hb : SqR w b n B) (hap : ∀ a m c, b = .slice (some a) m c → a.block ≠ g) :
    Calls Tryz.prog 207 #[.slice (some ⟨g, 0, none⟩) (n * n) cap, b] w fun e w' => e = .returned (.tuple #[]) ∧ SqO w' lo (.slice (some ⟨g, 0, none⟩) (n * n) cap) n (rOr A B) ∧ Span g (g + 1) w w' := by
  obtain ⟨hn0, hn1⟩ := hn
  have hq := Nat.mul_pos hn0 hn0
  have hq2 := sq_le hn1
  obtain ⟨ab, bb, ob, cb, rfl, hcb, hmb, fb⟩ := hb.one
  obtain ⟨rfl, hbb, fb, _⟩ := fb hq
  have hne := hap _ _ _ rfl
  simp only [] at hne
  have FB := Lib.hid fb
  have HA := Lib.hid ha
  clear fb hb ha hap
  go_enter Tryz.func207, Tryz.ntmps207
  go_wp2_with fail
  go_loopw [4] (fun i wr => ∃ k : Nat, k ≤ n * n ∧ i = .int .i64 k ∧ Hid (SqO wr lo (.slice (some ⟨g, 0, none⟩) (n * n) cap) n (orTo n k A B)) ∧ Span g (g + 1) w wr) (fun i _ => n * n - (intOf i).toNat)
  case atStart => exact ⟨0, Nat.zero_le _, rfl, Lib.hid (HA.out.congr fun i j _ _ => by simp [orTo]), Span.refl _ _ _⟩
  case round =>
    clear HA
    obtain ⟨k, hk, rfl, ho, hsp⟩ := hrel
    have zr := hsp.size
    by_cases hlt : k < n * n
    · obtain ⟨g', cap', hv, hg1, hg2, hc, hc0, hz⟩ := ho.out.one hn0
      cases hv
      obtain ⟨hi, hj, hkk⟩ := sq_split hlt
      have c1 := hc k hlt
      have z1 := hz k
      have d1 := ((hsp.blk bb hbb (by omega)).1 _).trans (FB.out k hlt)
      have e1 : orTo n k A B (k / n) (k % n) = A (k / n) (k % n) := by
        unfold orTo
        rw [decide_eq_false (by omega)]
        simp
      rw [e1] at c1
      have ho2 : Hid (SqO (wr.setCell ⟨g, k, none⟩ (.bool (A (k / n) (k % n) || B (k / n) (k % n)))) lo (.slice (some ⟨g, 0, none⟩) (n * n) cap) n (orTo n (k + 1) A B)) := Lib.hid (by
        have := SqO.set ho.out hi hj (A (k / n) (k % n) || B (k / n) (k % n))
        rw [← hkk] at this
        refine this.congr fun x y hx hy => ?_
        by_cases e : x = k / n ∧ y = k % n
        · rw [if_pos e, e.1, e.2]
          unfold orTo
          rw [decide_eq_true (by omega)]
          simp
        · rw [if_neg e]
          unfold orTo
          congr 2
          rw [Bool.eq_iff_iff, decide_eq_true_eq, decide_eq_true_eq]
          have : x * n + y ≠ k := fun h => e (by
            have h1 := sq_div (n := n) (i := x) (j := y) hy
            have h2 := sq_mod (n := n) (i := x) (j := y) hy
            rw [h] at h1 h2
            exact ⟨h1.symm, h2.symm⟩)
          omega)
      obtain ⟨p, hp⟩ : ∃ p, A (k / n) (k % n) = p := ⟨_, rfl⟩
      obtain ⟨q, hq9⟩ : ∃ q, B (k / n) (k % n) = q := ⟨_, rfl⟩
      rw [hp] at c1
      rw [hq9] at d1
      rw [hp, hq9] at ho2
      have hsp2 : ∀ u, Span g (g + 1) w (wr.setCell ⟨g, k, none⟩ u) := fun u => hsp.trans (by
        refine ⟨rfl, rfl, rfl, by simp, fun i hi ho => ?_⟩
        exact heap_setCell_other wr ⟨g, k, none⟩ i u (by show i ≠ g; omega))
      clear hc hz ho e1 hp hq9 hkk hc0
      cases p
      · cases q
        · go_wp2_with fail
          go_roundw
          case rel => exact ⟨k + 1, by omega, by go_num, by simpa using ho2, hsp2 _⟩
          case measure => (simp [intOf]; omega)
        · go_wp2_with fail
          go_roundw
          case rel => exact ⟨k + 1, by omega, by go_num, by simpa using ho2, hsp2 _⟩
          case measure => (simp [intOf]; omega)
      · cases q
        · go_wp2_with fail
          go_roundw
          case rel => exact ⟨k + 1, by omega, by go_num, by simpa using ho2, hsp2 _⟩
          case measure => (simp [intOf]; omega)
        · go_wp2_with fail
          go_roundw
          case rel => exact ⟨k + 1, by omega, by go_num, by simpa using ho2, hsp2 _⟩
          case measure => (simp [intOf]; omega)
    · have ho2 : Hid (SqO wr lo (.slice (some ⟨g, 0, none⟩) (n * n) cap) n (rOr A B)) := Lib.hid (ho.out.congr fun i j hi hj => by
        unfold orTo rOr
        rw [decide_eq_true (by have := sq_lt hi hj; omega)]
        simp)
      clear ho
      go_wp2_with fail
      go_end0
      exact ⟨rfl, ho2.out, hsp⟩
/-- A composition, so far: the rows below i, of row i the first k places of the middle, of place k the first j ends. -/
def behTo (n i k j : Nat) (A B : Nat → Nat → Bool) : Nat → Nat → Bool := fun x y => if x < i then rComp n A B x y else if x = i then ((List.range k).any fun m => A x m && B m y) || (decide (y < j) && (A x k && B k y)) else false
theorem behTo_no {n i k j : Nat} {A B : Nat → Nat → Bool} (h : A i k = false) (x y : Nat) : behTo n i k j A B x y = behTo n i k 0 A B x y := by
  unfold behTo
  by_cases h1 : x < i
  · simp only [if_pos h1]
  · by_cases h2 : x = i
    · subst h2
      simp [h]
    · simp only [if_neg h1, if_neg h2]
theorem behTo_k {n i k : Nat} {A B : Nat → Nat → Bool} {x y : Nat} (hy : y < n) : behTo n i k n A B x y = behTo n i (k + 1) 0 A B x y := by
  unfold behTo
  by_cases h1 : x < i
  · simp only [if_pos h1]
  · by_cases h2 : x = i
    · subst h2
      simp [List.range_succ, hy]
    · simp only [if_neg h1, if_neg h2]
theorem behTo_i {n i : Nat} {A B : Nat → Nat → Bool} {x y : Nat} : behTo n i n 0 A B x y = behTo n (i + 1) 0 0 A B x y := by
  unfold behTo rComp
  by_cases h1 : x < i
  · simp only [if_pos h1, if_pos (show x < i + 1 by omega)]
  · by_cases h2 : x = i
    · subst h2
      simp
    · simp only [if_neg h1, if_neg h2, if_neg (show ¬ x < i + 1 by omega)]
      split <;> simp
theorem behTo_j {n i k j : Nat} {A B : Nat → Nat → Bool} {x y : Nat} (h : A i k = true) : (if x = i ∧ y = j then (behTo n i k j A B i j || B k j) else behTo n i k j A B x y) = behTo n i k (j + 1) A B x y := by
  by_cases e : x = i ∧ y = j
  · rw [if_pos e, e.1, e.2]
    unfold behTo
    simp [h]
  · rw [if_neg e]
    unfold behTo
    by_cases h1 : x < i
    · simp only [if_pos h1]
    · by_cases h2 : x = i
      · subst h2
        simp only [if_neg h1, if_true]
        congr 2
        rw [Bool.eq_iff_iff, decide_eq_true_eq, decide_eq_true_eq]
        have : y ≠ j := fun q => e ⟨rfl, q⟩
        omega
      · simp only [if_neg h1, if_neg h2]
set_option maxHeartbeats 8000000 in
set_option maxRecDepth 100000 in
theorem l06Behind_any (a b : Value) (n : Nat) (A B : Nat → Nat → Bool) (w : World) (hn : 0 < n ∧ n ≤ 12) (ha : SqR w a n A) (hb : SqR w b n B) :
    Calls Tryz.prog 206 #[a, b, .int .i64 (n : Int)] w fun e w' => e = .returned (.slice (some ⟨w.heap.size, 0, none⟩) (n * n) (n * n)) ∧ SqO w' w.heap.size (.slice (some ⟨w.heap.size, 0, none⟩) (n * n) (n * n)) n (rComp n A B) ∧ Fr w w' := by
  obtain ⟨i0, hi, hz0, hz1, hz2⟩ := info_parts info_bool
  obtain ⟨hn0, hn1⟩ := hn
  have hq := Nat.mul_pos hn0 hn0
  have hq2 := sq_le hn1
  have hwn := wrap_mul hn1 hn1
  obtain ⟨aa, ba, oa, ca, rfl, hca, hma, fa⟩ := ha.one
  obtain ⟨rfl, hba, _, fa⟩ := fa hq
  obtain ⟨ab, bb, ob, cb, rfl, hcb, hmb, fb⟩ := hb.one
  obtain ⟨rfl, hbb, _, fb⟩ := fb hq
  have FA := Lib.hid fa
  have FB := Lib.hid fb
  clear fa fb ha hb
  go_enter Tryz.func206, Tryz.ntmps206
  go_wp2_with (at_make; refine wpList_make_full _ rfl _ _ 101 rfl w.heap.size 4 i0 (.bool false) 1 Tryz.underlying101 hi hz0 hz1 _ _ _ _ (n * n) rfl rfl rfl rfl (by rw [hz2]; omega) (by unfold maxLen; omega) (by omega) ?_; intro w1 hown hgrow)
  rw [show (madeCells (Value.cells (.bool false)) (n * n * 1)).toList = sqCells n rNo from by rw [sqCells_no, Nat.mul_one]; exact toList_madeCells_one _ _] at hown
  have HO : Hid (SqO w1 w.heap.size (.slice (some ⟨w.heap.size, 0, none⟩) (n * n) (n * n)) n (behTo n 0 0 0 A B)) := Lib.hid (SqO.congr hown fun i j _ _ => by simp [behTo, rNo])
  have HF1 : Fr w w1 := (Fr.refl w).grown hgrow (by simp)
  clear hown hgrow
  go_loopw [8] (fun i wr => ∃ p : Nat, p ≤ n ∧ i = .int .i64 p ∧ Hid (SqO wr w.heap.size (.slice (some ⟨w.heap.size, 0, none⟩) (n * n) (n * n)) n (behTo n p 0 0 A B)) ∧ Fr w wr) (fun i _ => n - (intOf i).toNat)
  case atStart => exact ⟨0, Nat.zero_le _, rfl, HO, HF1⟩
  case round =>
    clear HO HF1
    obtain ⟨p, hp, rfl, ho, hfr⟩ := hrel
    by_cases hpt : p < n
    · have hwp := wrap_mul (i := p) (n := n) (by omega) hn1
      go_wp2_with fail
      go_loopw [9] (fun i wr => ∃ k : Nat, k ≤ n ∧ i = .int .i64 k ∧ Hid (SqO wr w.heap.size (.slice (some ⟨w.heap.size, 0, none⟩) (n * n) (n * n)) n (behTo n p k 0 A B)) ∧ Fr w wr) (fun i _ => n - (intOf i).toNat)
      case atStart => exact ⟨0, Nat.zero_le _, rfl, ho, hfr⟩
      case round =>
        clear ho hfr
        obtain ⟨k, hk, rfl, ho, hfr⟩ := hrel
        by_cases hkt : k < n
        · have hwk := wrap_at (i := p) (n := n) (k := k) (by omega) hn1 (by omega)
          have hpk := sq_lt hpt hkt
          have hwk2 := wrap_mul (i := k) (n := n) (by omega) hn1
          obtain ⟨x, hx⟩ : ∃ x, A p k = x := ⟨_, rfl⟩
          have dA := FA.out p k hpt hkt
          rw [hx] at dA
          have HX := Lib.hid hx
          clear hx
          cases x
          · have ho3 : Hid (SqO wr w.heap.size (.slice (some ⟨w.heap.size, 0, none⟩) (n * n) (n * n)) n (behTo n p (k + 1) 0 A B)) := Lib.hid (ho.out.congr fun i j hi hj => by rw [← behTo_k hj]; exact (behTo_no HX.out i j).symm)
            go_wp2_with fail
            go_loopw [10] (fun i wr => i = .int .i64 0 ∧ Hid (SqO wr w.heap.size (.slice (some ⟨w.heap.size, 0, none⟩) (n * n) (n * n)) n (behTo n p (k + 1) 0 A B)) ∧ Fr w wr) (fun i _ => 0)
            case atStart => exact ⟨rfl, ho3, hfr⟩
            case round =>
              clear ho3 hfr ho
              obtain ⟨rfl, ho, hfr⟩ := hrel
              have dA2 := (hfr.cell (p := ⟨ba, _, none⟩) hba).trans dA
              go_wp2_with fail
              go_roundw
              case rel => exact ⟨k + 1, by omega, by go_num, ho, hfr⟩
              case measure => (simp [intOf]; omega)
          · go_wp2_with fail
            go_loopw [10] (fun i wr => ∃ j : Nat, j ≤ n ∧ i = .int .i64 j ∧ Hid (SqO wr w.heap.size (.slice (some ⟨w.heap.size, 0, none⟩) (n * n) (n * n)) n (behTo n p k j A B)) ∧ Fr w wr) (fun i _ => n - (intOf i).toNat)
            case atStart => exact ⟨0, Nat.zero_le _, rfl, ho, hfr⟩
            case round =>
              clear ho hfr
              obtain ⟨j, hj, rfl, ho, hfr⟩ := hrel
              have zr := hfr.size
              have dA2 := (hfr.cell (p := ⟨ba, _, none⟩) hba).trans dA
              by_cases hjt : j < n
              · have hwj := wrap_at (i := p) (n := n) (k := j) (by omega) hn1 (by omega)
                have hwkj := wrap_at (i := k) (n := n) (k := j) (by omega) hn1 (by omega)
                have hpj := sq_lt hpt hjt
                have hkj := sq_lt hkt hjt
                have dB := (hfr.cell (p := ⟨bb, _, none⟩) hbb).trans (FB.out k j hkt hjt)
                obtain ⟨g', cap', hv, hg1, hg2, hc0, hc, hz⟩ := ho.out.one hn0
                cases hv
                have c1 := hc p j hpt hjt
                have z1 := hz (p * n + j)
                have ho2 : Hid (SqO (wr.setCell ⟨w.heap.size, p * n + j, none⟩ (.bool (behTo n p k j A B p j || B k j))) w.heap.size (.slice (some ⟨w.heap.size, 0, none⟩) (n * n) (n * n)) n (behTo n p k (j + 1) A B)) := Lib.hid ((SqO.set ho.out hpt hjt _).congr fun x y hx hy => behTo_j HX.out)
                obtain ⟨u, hu⟩ : ∃ u, behTo n p k j A B p j = u := ⟨_, rfl⟩
                obtain ⟨v, hv⟩ : ∃ v, B k j = v := ⟨_, rfl⟩
                rw [hu] at c1
                rw [hv] at dB
                rw [hu, hv] at ho2
                clear hc hz ho hu hv hc0
                cases u
                · cases v
                  · go_wp2_with fail
                    go_roundw
                    case rel => exact ⟨j + 1, by omega, by go_num, by simpa using ho2, hfr.setCell (Nat.le_refl _) _⟩
                    case measure => (simp [intOf]; omega)
                  · go_wp2_with fail
                    go_roundw
                    case rel => exact ⟨j + 1, by omega, by go_num, by simpa using ho2, hfr.setCell (Nat.le_refl _) _⟩
                    case measure => (simp [intOf]; omega)
                · cases v
                  · go_wp2_with fail
                    go_roundw
                    case rel => exact ⟨j + 1, by omega, by go_num, by simpa using ho2, hfr.setCell (Nat.le_refl _) _⟩
                    case measure => (simp [intOf]; omega)
                  · go_wp2_with fail
                    go_roundw
                    case rel => exact ⟨j + 1, by omega, by go_num, by simpa using ho2, hfr.setCell (Nat.le_refl _) _⟩
                    case measure => (simp [intOf]; omega)
              · obtain rfl : j = n := by omega
                have ho3 : Hid (SqO wr w.heap.size (.slice (some ⟨w.heap.size, 0, none⟩) (j * j) (j * j)) j (behTo j p (k + 1) 0 A B)) := Lib.hid (ho.out.congr fun i j hi hj => behTo_k hj)
                clear ho
                go_wp2_with fail
                go_roundw
                case rel => exact ⟨k + 1, by omega, by go_num, ho3, hfr⟩
                case measure => (simp [intOf]; omega)
        · obtain rfl : k = n := by omega
          have ho3 : Hid (SqO wr w.heap.size (.slice (some ⟨w.heap.size, 0, none⟩) (k * k) (k * k)) k (behTo k (p + 1) 0 0 A B)) := Lib.hid (ho.out.congr fun i j hi hj => behTo_i)
          clear ho
          go_wp2_with fail
          go_roundw
          case rel => exact ⟨p + 1, by omega, by go_num, ho3, hfr⟩
          case measure => (simp [intOf]; omega)
    · obtain rfl : p = n := by omega
      have ho3 : Hid (SqO wr w.heap.size (.slice (some ⟨w.heap.size, 0, none⟩) (p * p) (p * p)) p (rComp p A B)) := Lib.hid (ho.out.congr fun i j hi hj => by simp [behTo, hi])
      clear ho
      go_wp2_with fail
      go_ret
      exact ⟨rfl, ho3.out, hfr⟩
end Go.Proofs.YtmdgdnkllclpcaaGreat
