/- The program's relations: identity, or, then, plus, bitsIn. Conditions: at most 12 places. -/
import Derived.Test.YtjgghiniajmfjaaRlo
import Derived.BigQuiet
import Derived.BigRegion
namespace Go.Proofs.Ytjgghiniajmfjaa
open Go.RowKit
set_option linter.unusedVariables false
set_option linter.unusedSimpArgs false
def upTo (n : Nat) (a : (Nat → Nat → Bool)) : (Nat → Nat → Bool) := fun x y => decide (x < n) && a x y
set_option maxHeartbeats 2000000 in
set_option maxRecDepth 100000 in
theorem identity_any (n : Nat) (w : World) (hn : 0 < n ∧ n ≤ 12) :
    Calls Try.prog 206 #[.int .i64 n] w fun e w' => ∃ ao cap, e = .returned (.slice ao n cap) ∧ RelO w' w.heap.size (.slice ao n cap) n (rId n) ∧ Fr w w' := by
  obtain ⟨i0, hi, hz0, hz1, hz2⟩ := info_parts info_u32
  obtain ⟨hn0, hn1⟩ := hn
  go_enter Try.func206, Try.ntmps206
  go_wp2_with (at_make; refine wpList_make_full _ rfl _ _ 126 rfl w.heap.size 124 i0 (.int .u32 0) 1 Try.underlying126 hi hz0 hz1 _ _ _ _ n rfl rfl rfl rfl (by rw [hz2]; omega) (by unfold maxLen; omega) (by omega) ?_; intro w1 hown hgrow)
  rw [show (madeCells (Value.cells (.int .u32 0)) (n * 1)).toList = rCells n rNo from by rw [rCells_no, Nat.mul_one]; exact toList_madeCells_one _ _] at hown; have HO : Hid (RelO w1 w.heap.size (.slice (some ⟨w.heap.size, 0, none⟩) n n) n rNo) := Lib.hid hown; have HF1 : Fr w w1 := (Fr.refl w).grown hgrow (by simp); clear hown hgrow
  go_loopw [4, 9] (fun _ i wr => ∃ k : Nat, k ≤ n ∧ i = .int .i64 k ∧ Hid (RelO wr w.heap.size (.slice (some ⟨w.heap.size, 0, none⟩) n n) n (upTo k (rId n))) ∧ Fr w wr) (fun _ i _ => n - (intOf i).toNat)
  case atStart => exact ⟨0, Nat.zero_le _, rfl, Lib.hid (HO.out.congr fun i hi => by funext j; simp [upTo, rNo]), HF1⟩
  case round =>
    clear HO HF1
    obtain ⟨k, hk, rfl, ho, hfr⟩ := hrel
    by_cases hlt : k < n
    · obtain ⟨g, cap, hv, hg1, hg2, hc, hz⟩ := ho.out.one hn0
      cases hv
      have c1 := hc k hlt
      have z1 := hz k
      have hone := bN_one k (by omega)
      have ho2 : Hid (RelO (wr.setCell ⟨w.heap.size, k, none⟩ (.int .u32 (bN (fun j => decide (j = k)) : Int))) w.heap.size (.slice (some ⟨w.heap.size, 0, none⟩) n n) n (upTo (k + 1) (rId n))) := Lib.hid ((RelO.set ho.out k _).congr fun i hi => by
        funext j
        by_cases e : i = k
        · subst e
          simp [upTo, rId, eq_comm, hi]
        · simp only [if_neg e, upTo]
          congr 1
          rw [Bool.eq_iff_iff, decide_eq_true_eq, decide_eq_true_eq]
          omega)
      have hone2 : IntKind.u32.wrap (2 ^ k) = (bN (fun j => decide (j = k)) : Int) := by rw [← hone, Int.one_mul]
      clear hc hz ho
      go_wp2_with fail
      go_roundw
      case rel => exact ⟨k + 1, by omega, by go_num, ho2, hfr.setCell (Nat.le_refl _) _⟩
      case measure => (simp [intOf]; omega)
    · obtain rfl : k = n := by omega
      go_wp2_with fail
      go_ret
      exact ⟨_, _, rfl, ho.out.congr fun i hi => by funext j; simp [upTo, hi], hfr⟩
set_option maxHeartbeats 4000000 in
set_option maxRecDepth 100000 in
theorem relOr_any (a b : Value) (n : Nat) (A B : (Nat → Nat → Bool)) (w : World) (hn : 0 < n ∧ n ≤ 12) (ha : RelR w a n A) (hb : RelR w b n B) :
    Calls Try.prog 208 #[a, b] w fun e w' => ∃ ao cap, e = .returned (.slice ao n cap) ∧ RelO w' w.heap.size (.slice ao n cap) n (rOr A B) ∧ Fr w w' := by
  obtain ⟨i0, hi, hz0, hz1, hz2⟩ := info_parts info_u32
  obtain ⟨hn0, hn1⟩ := hn
  obtain ⟨aa, ba, oa, ca, rfl, hca, hma, fa⟩ := ha.one
  obtain ⟨ab, bb, ob, cb, rfl, hcb, hmb, fb⟩ := hb.one
  obtain ⟨rfl, hba, fa⟩ := fa hn0
  obtain ⟨rfl, hbb, fb⟩ := fb hn0
  have FA := Lib.hid fa
  have FB := Lib.hid fb
  clear fa fb ha hb
  go_enter Try.func208, Try.ntmps208
  go_wp2_with (at_make; refine wpList_make_full _ rfl _ _ 126 rfl w.heap.size 124 i0 (.int .u32 0) 1 Try.underlying126 hi hz0 hz1 _ _ _ _ n rfl rfl rfl rfl (by rw [hz2]; omega) (by unfold maxLen; omega) (by omega) ?_; intro w1 hown hgrow)
  rw [show (madeCells (Value.cells (.int .u32 0)) (n * 1)).toList = rCells n rNo from by rw [rCells_no, Nat.mul_one]; exact toList_madeCells_one _ _] at hown; have HO : Hid (RelO w1 w.heap.size (.slice (some ⟨w.heap.size, 0, none⟩) n n) n rNo) := Lib.hid hown; have HF1 : Fr w w1 := (Fr.refl w).grown hgrow (by simp); clear hown hgrow
  go_loopw [6, 12] (fun _ i wr => ∃ k : Nat, k ≤ n ∧ i = .int .i64 k ∧ Hid (RelO wr w.heap.size (.slice (some ⟨w.heap.size, 0, none⟩) n n) n (upTo k (rOr A B))) ∧ Fr w wr) (fun _ i _ => n - (intOf i).toNat)
  case atStart => exact ⟨0, Nat.zero_le _, rfl, Lib.hid (HO.out.congr fun i hi => by funext j; simp [upTo, rNo]), HF1⟩
  case round =>
    clear HO HF1
    obtain ⟨k, hk, rfl, ho, hfr⟩ := hrel
    by_cases hlt : k < n
    · obtain ⟨g, cap, hv, hg1, hg2, hc, hz⟩ := ho.out.one hn0
      cases hv
      have c1 := hc k hlt
      have z1 := hz k
      have d1 := (hfr.cell (p := ⟨ba, _, none⟩) hba).trans (FA.out k hlt)
      have d2 := (hfr.cell (p := ⟨bb, _, none⟩) hbb).trans (FB.out k hlt)
      have hor := bN_or (A k) (B k)
      have ho2 : Hid (∀ wq, Fr wr wq → RelO (wq.setCell ⟨w.heap.size, k, none⟩ (.int .u32 (bN (fun j => A k j || B k j) : Int))) w.heap.size (.slice (some ⟨w.heap.size, 0, none⟩) n n) n (upTo (k + 1) (rOr A B))) := Lib.hid fun wq hq => (RelO.set (ho.out.fr hq) k _).congr fun i hi => by
        funext j
        by_cases e : i = k
        · subst e
          simp [upTo, rOr]
        · simp only [if_neg e, upTo]
          congr 1
          rw [Bool.eq_iff_iff, decide_eq_true_eq, decide_eq_true_eq]
          omega
      have hba' : ba < wr.heap.size := by have := hfr.size; omega
      have hne1 : ba ≠ w.heap.size := by omega
      have hne2 : bb ≠ w.heap.size := by omega
      clear hc hz ho
      go_wp2_with fail
      go_region
      all_goals
        go_wp2_with fail
        go_roundw
        case rel => exact ⟨k + 1, by omega, by go_num, by (refine Lib.hid (ho2.out _ ?_); repeat (first | (with_reducible exact Fr.refl _) | (with_reducible assumption) | (with_reducible refine Fr.drewN ?_ _) | (with_reducible refine Fr.drew ?_) | (with_reducible refine Fr.alloc ?_ _) | (with_reducible refine Fr.setCell ?_ (by (first | (with_reducible assumption) | omega | (simp only [World.size_alloc, World.size_setCell, World.size_drew, World.heap_drewN]; omega) | (simp; done) | (simp; omega))) _) | (with_reducible refine Fr.trans ?_ (by with_reducible assumption)))), by repeat (first | (with_reducible exact Fr.refl _) | (with_reducible assumption) | (with_reducible refine Fr.drewN ?_ _) | (with_reducible refine Fr.drew ?_) | (with_reducible refine Fr.alloc ?_ _) | (with_reducible refine Fr.setCell ?_ (by (first | (with_reducible assumption) | omega | (simp only [World.size_alloc, World.size_setCell, World.size_drew, World.heap_drewN]; omega) | (simp; done) | (simp; omega))) _) | (with_reducible refine Fr.trans ?_ (by with_reducible assumption)))⟩
        case measure => (simp [intOf]; omega)
    · obtain rfl : k = n := by omega
      go_wp2_with fail
      go_ret
      exact ⟨_, _, rfl, ho.out.congr fun i hi => by funext j; simp [upTo, hi], hfr⟩
set_option maxHeartbeats 4000000 in
set_option maxRecDepth 100000 in
theorem bitsIn_any (p : Nat → Bool) (w : World) :
    Calls Try.prog 92 #[.int .u32 (bN p : Int)] w fun e w' => ∃ ao cap, e = .returned (.slice ao (reachL 32 p).length cap) ∧ IntsO w' w.heap.size (.slice ao (reachL 32 p).length cap) (reachL 32 p) ∧ Fr w w' := by
  obtain ⟨i0, hi, hz0, hz1, hz2⟩ := info_parts info_int
  go_enter Try.func92, Try.ntmps92
  go_wp2_with fail
  go_loopw [3, 4, 5] (fun z _ i wr => ∃ (k : Nat) (az : Option Addr) (cz : Nat), k ≤ 32 ∧ i = .int .i64 k ∧ z = .slice az (reachL k p).length cz ∧ Hid (IntsO wr w.heap.size (.slice az (reachL k p).length cz) (reachL k p)) ∧ Fr w wr) (fun _ _ i _ => 32 - (intOf i).toNat)
  case atStart => exact ⟨0, none, 0, Nat.zero_le _, rfl, rfl, Lib.hid (World.ownsRow_nil _ _ _ _), Fr.refl _⟩
  case round =>
    obtain ⟨k, az, cz, hk, rfl, rfl, ho, hfr⟩ := hrel
    by_cases hlt : k < 32
    · have hb := bN_bit p k hlt
      have zr := hfr.size
      have hl := reachL_len k p
      have hs := reachL_succ k p
      by_cases hp : p k = true
      · rw [if_pos hp] at hb hs
        have HS := Lib.hid hs
        clear hp hs
        go_wp2_with (at_builtin; (refine wpList_append_rd rfl _ _ 38 rfl w.heap.size 3 i0 (.int .i64 0) 1 8 Try.underlying38 hi hz0 hz1 hz2 rfl (by decide) (.slice az (reachL k p).length cz) (reachL k p).length ((reachL k p).map (Value.int .i64)) rfl (World.ownsRow.alloc ho.out _) _ 1 [.int .i64 k] rfl (RdS.new (by first | rfl | (simp; done)) rfl) (by simp [Value.oneCell']) (by unfold maxLen; omega) (by omega) (by (first | (with_reducible assumption) | omega | (simp only [World.size_alloc, World.size_setCell, World.size_drew, World.heap_drewN]; omega) | (simp; done) | (simp; omega))) ?_; intro az' cz' w4 hown hgrow hat))
        have HO : Hid (IntsO w4 w.heap.size (.slice az' (reachL (k + 1) p).length cz') (reachL (k + 1) p)) := Lib.hid (by rw [HS.out]; simpa [IntsO] using hown)
        have hl2 : (reachL (k + 1) p).length = (reachL k p).length + 1 := by rw [HS.out]; simp
        have hf4 : Fr w w4 := append_fr hfr ho.out hgrow
        rw [← hl2]
        clear hl2 HS hown ho
        go_roundw
        case rel => exact ⟨k + 1, az', cz', by omega, by go_num, rfl, HO, hf4⟩
        case measure => (simp [intOf]; omega)
      · rw [if_neg hp] at hb hs
        have HS := Lib.hid hs
        clear hp hs
        go_wp2_with fail
        go_roundw
        case rel => exact ⟨k + 1, az, cz, by omega, by go_num, by rw [HS.out], by rw [HS.out]; exact ho, hfr⟩
        case measure => (simp [intOf]; omega)
    · obtain rfl : k = 32 := by omega
      go_wp2_with fail
      go_ret
      exact ⟨_, _, rfl, ho.out, hfr⟩
/-- Row i of a composition, so far as the first k places of the middle go. -/
def compTo (n i k : Nat) (a b : (Nat → Nat → Bool)) : (Nat → Nat → Bool) := fun x y => if x < i then rComp n a b x y else if x = i then (List.range k).any fun m => a x m && b m y else false
theorem compTo_step {n i k : Nat} {a b : (Nat → Nat → Bool)} {x y : Nat} : compTo n i (k + 1) a b x y = (compTo n i k a b x y || (decide (x = i) && (a i k && b k y))) := by
  unfold compTo
  by_cases h1 : x < i
  · simp only [if_pos h1]
    rw [decide_eq_false (by omega), Bool.false_and, Bool.or_false]
  · by_cases h2 : x = i
    · subst h2
      simp [List.range_succ]
    · simp only [if_neg h1, if_neg h2]
      rw [decide_eq_false h2, Bool.false_and, Bool.or_false]
theorem compTo_row {n i : Nat} {a b : (Nat → Nat → Bool)} {x y : Nat} : compTo n i n a b x y = compTo n (i + 1) 0 a b x y := by
  unfold compTo rComp
  by_cases h1 : x < i
  · simp only [if_pos h1, if_pos (show x < i + 1 by omega)]
  · by_cases h2 : x = i
    · subst h2
      simp
    · simp only [if_neg h1, if_neg h2, if_neg (show ¬ x < i + 1 by omega)]
      split <;> simp
set_option maxHeartbeats 8000000 in
set_option maxRecDepth 100000 in
theorem relThen_any (a b : Value) (n : Nat) (A B : (Nat → Nat → Bool)) (w : World) (hn : 0 < n ∧ n ≤ 12) (ha : RelR w a n A) (hb : RelR w b n B) :
    Calls Try.prog 207 #[a, b] w fun e w' => ∃ ao cap, e = .returned (.slice ao n cap) ∧ RelO w' w.heap.size (.slice ao n cap) n (rComp n A B) ∧ Fr w w' := by
  obtain ⟨i0, hi, hz0, hz1, hz2⟩ := info_parts info_u32
  obtain ⟨hn0, hn1⟩ := hn
  obtain ⟨aa, ba, oa, ca, rfl, hca, hma, fa⟩ := ha.one
  obtain ⟨ab, bb, ob, cb, rfl, hcb, hmb, fb⟩ := hb.one
  obtain ⟨rfl, hba, fa⟩ := fa hn0
  obtain ⟨rfl, hbb, fb⟩ := fb hn0
  have FA := Lib.hid fa
  have FB := Lib.hid fb
  clear fa fb ha hb
  go_enter Try.func207, Try.ntmps207
  go_wp2_with (at_make; refine wpList_make_full _ rfl _ _ 126 rfl w.heap.size 124 i0 (.int .u32 0) 1 Try.underlying126 hi hz0 hz1 _ _ _ _ n rfl rfl rfl rfl (by rw [hz2]; omega) (by unfold maxLen; omega) (by omega) ?_; intro w1 hown hgrow)
  rw [show (madeCells (Value.cells (.int .u32 0)) (n * 1)).toList = rCells n rNo from by rw [rCells_no, Nat.mul_one]; exact toList_madeCells_one _ _] at hown; have HO : Hid (RelO w1 w.heap.size (.slice (some ⟨w.heap.size, 0, none⟩) n n) n rNo) := Lib.hid hown; have HF1 : Fr w w1 := (Fr.refl w).grown hgrow (by simp); clear hown hgrow
  go_loopw [6, 7, 8, 14, 19, 20, 21] (fun _ _ _ i _ _ _ wr => ∃ k : Nat, k ≤ n ∧ i = .int .i64 k ∧ Hid (RelO wr w.heap.size (.slice (some ⟨w.heap.size, 0, none⟩) n n) n (compTo n k 0 A B)) ∧ Fr w wr) (fun _ _ _ i _ _ _ _ => n - (intOf i).toNat)
  case atStart => exact ⟨0, Nat.zero_le _, rfl, Lib.hid (HO.out.congr fun i hi => by funext j; simp [compTo, rNo]), HF1⟩
  case round =>
    clear HO HF1
    obtain ⟨k, hk, rfl, ho, hfr⟩ := hrel
    by_cases hlt : k < n
    · have d1 := (hfr.cell (p := ⟨ba, _, none⟩) hba).trans (FA.out k hlt)
      go_wp2_with fail
      go_loopw [8, 21] (fun _ i wr => ∃ m : Nat, m ≤ n ∧ i = .int .i64 m ∧ Hid (RelO wr w.heap.size (.slice (some ⟨w.heap.size, 0, none⟩) n n) n (compTo n k m A B)) ∧ Fr w wr) (fun _ i _ => n - (intOf i).toNat)
      case atStart => exact ⟨0, Nat.zero_le _, rfl, ho, hfr⟩
      case round =>
        clear ho hfr
        obtain ⟨m, hm, rfl, ho, hfr⟩ := hrel
        have zr := hfr.size
        by_cases hmt : m < n
        · obtain ⟨g, cap, hv, hg1, hg2, hc, hz⟩ := ho.out.one hn0
          cases hv
          have c1 := hc k hlt
          have z1 := hz k
          have hbit := bN_bit (A k) m (by omega)
          have d2 := (hfr.cell (p := ⟨bb, _, none⟩) hbb).trans (FB.out m hmt)
          have hne1 : ba ≠ w.heap.size := by omega
          have hne2 : bb ≠ w.heap.size := by omega
          clear hc hz
          by_cases hp : A k m = true
          · rw [if_pos hp] at hbit
            have hor := bN_or (compTo n k m A B k) (B m)
            have ho2 : Hid (∀ wq, Fr wr wq → RelO (wq.setCell ⟨w.heap.size, k, none⟩ (.int .u32 (bN (fun j => compTo n k m A B k j || B m j) : Int))) w.heap.size (.slice (some ⟨w.heap.size, 0, none⟩) n n) n (compTo n k (m + 1) A B)) := Lib.hid fun wq hq => (RelO.set (ho.out.fr hq) k _).congr fun i hi => by
              funext j
              rw [compTo_step]
              by_cases e : i = k
              · subst e
                simp [hp]
              · simp only [if_neg e]
                rw [decide_eq_false e, Bool.false_and, Bool.or_false]
            clear ho hp
            go_wp2_with fail
            go_region
            all_goals
              go_wp2_with fail
              go_roundw
              case rel => exact ⟨m + 1, by omega, by go_num, by (refine Lib.hid (ho2.out _ ?_); repeat (first | (with_reducible exact Fr.refl _) | (with_reducible assumption) | (with_reducible refine Fr.drewN ?_ _) | (with_reducible refine Fr.drew ?_) | (with_reducible refine Fr.alloc ?_ _) | (with_reducible refine Fr.setCell ?_ (by (first | (with_reducible assumption) | omega | (simp only [World.size_alloc, World.size_setCell, World.size_drew, World.heap_drewN]; omega) | (simp; done) | (simp; omega))) _) | (with_reducible refine Fr.trans ?_ (by with_reducible assumption)))), by repeat (first | (with_reducible exact Fr.refl _) | (with_reducible assumption) | (with_reducible refine Fr.drewN ?_ _) | (with_reducible refine Fr.drew ?_) | (with_reducible refine Fr.alloc ?_ _) | (with_reducible refine Fr.setCell ?_ (by (first | (with_reducible assumption) | omega | (simp only [World.size_alloc, World.size_setCell, World.size_drew, World.heap_drewN]; omega) | (simp; done) | (simp; omega))) _) | (with_reducible refine Fr.trans ?_ (by with_reducible assumption)))⟩
              case measure => (simp [intOf]; omega)
          · rw [if_neg hp] at hbit
            have ho2 : Hid (RelO wr w.heap.size (.slice (some ⟨w.heap.size, 0, none⟩) n n) n (compTo n k (m + 1) A B)) := Lib.hid (ho.out.congr fun i hi => by
              funext j
              rw [compTo_step, show A k m = false by simpa using hp]
              simp)
            clear ho hp
            go_wp2_with fail
            go_roundw
            case rel => exact ⟨m + 1, by omega, by go_num, ho2, hfr⟩
            case measure => (simp [intOf]; omega)
        · obtain rfl : m = n := by omega
          have ho2 : Hid (RelO wr w.heap.size (.slice (some ⟨w.heap.size, 0, none⟩) m m) m (compTo m (k + 1) 0 A B)) := Lib.hid (ho.out.congr fun i hi => by funext j; exact compTo_row)
          clear ho
          go_wp2_with fail
          go_roundw
          case rel => exact ⟨k + 1, by omega, by go_num, ho2, hfr⟩
          case measure => (simp [intOf]; omega)
    · obtain rfl : k = n := by omega
      go_wp2_with fail
      go_ret
      exact ⟨_, _, rfl, ho.out.congr fun i hi => by funext j; simp [compTo, hi], hfr⟩
set_option maxHeartbeats 1000000 in
set_option maxRecDepth 100000 in
theorem cloneRel_any (v : Value) (n : Nat) (R : (Nat → Nat → Bool)) (w : World) (hn : 0 < n ∧ n ≤ 12) (hv : RelR w v n R) :
    Calls Try.prog 240 #[v] w fun e w' => ∃ ao cap, e = .returned (.slice ao n cap) ∧ RelO w' w.heap.size (.slice ao n cap) n R ∧ Fr w w' := by
  obtain ⟨ao, cap, rfl, hnil⟩ := RdS.val hv
  obtain ⟨i0, hi, hz0, hz1, hz2⟩ := info_parts info_u32
  have q : ∀ (w : World) (a : Option Addr) (n c n' c' : Nat), (binOp .eql 126 (.slice a n c) (.slice none n' c')).run Try.prog w = .ok (.bool a.isNone) w := fun w a n c n' c' => Lib.run_eql_slice_nil w _ _ a n c n' c' Try.underlying126
  cases ao with
  | none => have := hnil rfl; omega
  | some a =>
    clear hnil
    have HV := Lib.hid hv
    clear hv
    go_enter Try.func240, Try.ntmps240
    go_wp2_with (at_builtin; refine wpList_append_rd rfl _ _ 126 rfl w.heap.size 124 i0 (.int .u32 0) 1 4 Try.underlying126 hi hz0 hz1 hz2 rfl (by decide) (.slice (some ⟨w.heap.size, 0, none⟩) 0 0) 0 [] rfl (World.ownsRow_made w #[] 0 (Nat.le_refl _) (Nat.zero_le _) rfl) _ n (rCells n R) rfl (RdS.fr HV.out (by repeat (first | (with_reducible exact Fr.refl _) | (with_reducible assumption) | (with_reducible refine Fr.drewN ?_ _) | (with_reducible refine Fr.drew ?_) | (with_reducible refine Fr.alloc ?_ _) | (with_reducible refine Fr.setCell ?_ (by (first | (with_reducible assumption) | omega | (simp only [World.size_alloc, World.size_setCell, World.size_drew, World.heap_drewN]; omega) | (simp; done) | (simp; omega))) _) | (with_reducible refine Fr.trans ?_ (by with_reducible assumption))))) (oneCells_rel _ _) (by unfold maxLen; omega) (by omega) (by (first | (with_reducible assumption) | omega | (simp only [World.size_alloc, World.size_setCell, World.size_drew, World.heap_drewN]; omega) | (simp; done) | (simp; omega))) ?_; intro ao' cap' w1 hown hgrow hat)
    go_ret
    simp only [Nat.zero_add] at hown ⊢
    exact ⟨ao', cap', rfl, by simpa [RelO] using hown, ((Fr.refl _).alloc _).grown hgrow (by intro k hk; simp [Value.ownBlock] at hk; omega)⟩
/-- Round k of the closing, the first i rows done. -/
def wshTo (a : (Nat → Nat → Bool)) (k i : Nat) : (Nat → Nat → Bool) := fun x y => if x < i then wsh a (k + 1) x y else wsh a k x y
theorem wsh_at (a : Nat → Nat → Bool) (k x y : Nat) : wsh a (k + 1) x y = (wsh a k x y || (wsh a k x k && wsh a k k y)) := by rw [wsh]
theorem wsh_same (a : (Nat → Nat → Bool)) (k y : Nat) : wsh a (k + 1) k y = wsh a k k y := by
  rw [wsh_at]
  cases wsh a k k k <;> cases wsh a k k y <;> rfl
theorem wshTo_at (a : (Nat → Nat → Bool)) (k i y : Nat) : wshTo a k i k y = wsh a k k y := by
  unfold wshTo
  split
  · exact wsh_same a k y
  · rfl
theorem wshTo_bit (a : (Nat → Nat → Bool)) (k i y : Nat) : wshTo a k i i y = wsh a k i y := by
  unfold wshTo
  rw [if_neg (Nat.lt_irrefl _)]
theorem wshTo_no {a : (Nat → Nat → Bool)} {k i : Nat} (h : wsh a k i k = false) (x y : Nat) : wshTo a k i x y = wshTo a k (i + 1) x y := by
  unfold wshTo
  by_cases e : x = i
  · subst e
    rw [if_neg (Nat.lt_irrefl _), if_pos (by omega), wsh_at, h, Bool.false_and, Bool.or_false]
  · by_cases h1 : x < i
    · rw [if_pos h1, if_pos (by omega)]
    · rw [if_neg h1, if_neg (by omega)]
theorem wshTo_yes {a : (Nat → Nat → Bool)} {k i : Nat} (h : wsh a k i k = true) (x y : Nat) : (if x = i then (wshTo a k i i y || wshTo a k i k y) else wshTo a k i x y) = wshTo a k (i + 1) x y := by
  by_cases e : x = i
  · subst e
    rw [if_pos rfl, wshTo_bit, wshTo_at]
    unfold wshTo
    rw [if_pos (by omega), wsh_at, h, Bool.true_and]
  · rw [if_neg e]
    unfold wshTo
    by_cases h1 : x < i
    · rw [if_pos h1, if_pos (by omega)]
    · rw [if_neg h1, if_neg (by omega)]
set_option maxHeartbeats 8000000 in
set_option maxRecDepth 100000 in
theorem relPlus_any (v : Value) (n : Nat) (A : (Nat → Nat → Bool)) (w : World) (hn : 0 < n ∧ n ≤ 12) (hv : RelR w v n A) :
    Calls Try.prog 209 #[v] w fun e w' => ∃ ao cap, e = .returned (.slice ao n cap) ∧ RelO w' w.heap.size (.slice ao n cap) n (wsh A n) ∧ Fr w w' := by
  obtain ⟨ao, cap, rfl, hnil⟩ := RdS.val hv
  clear hnil
  have CC := Lib.hid (cloneRel_any _ n A w hn hv)
  obtain ⟨hn0, hn1⟩ := hn
  clear hv
  go_enter Try.func209, Try.ntmps209
  go_wp2_with fail
  refine CC.out.mono ?_
  rintro e w1 ⟨ac, cc, rfl, h1, hf1⟩
  obtain ⟨g, cap', hv, hg1, hg2, _, _⟩ := h1.one hn0
  cases hv
  have HO := Lib.hid h1
  clear h1 CC
  go_wp2_with fail
  go_loopw [4, 5, 10, 13, 14, 15] (fun _ _ i _ _ _ wr => ∃ k : Nat, k ≤ n ∧ i = .int .i64 k ∧ Hid (RelO wr w.heap.size (.slice (some ⟨g, 0, none⟩) n cc) n (wsh A k)) ∧ Fr w wr) (fun _ _ i _ _ _ _ => n - (intOf i).toNat)
  case atStart => exact ⟨0, Nat.zero_le _, rfl, HO, hf1⟩
  case round =>
    clear HO hf1 hg2
    obtain ⟨k, hk, rfl, ho, hfr⟩ := hrel
    by_cases hlt : k < n
    · go_wp2_with fail
      go_loopw [5, 15] (fun _ i wr => ∃ m : Nat, m ≤ n ∧ i = .int .i64 m ∧ Hid (RelO wr w.heap.size (.slice (some ⟨g, 0, none⟩) n cc) n (wshTo A k m)) ∧ Fr w wr) (fun _ i _ => n - (intOf i).toNat)
      case atStart => exact ⟨0, Nat.zero_le _, rfl, Lib.hid (ho.out.congr fun i hi => by funext j; simp [wshTo]), hfr⟩
      case round =>
        clear ho hfr
        obtain ⟨m, hm, rfl, ho, hfr⟩ := hrel
        have zr := hfr.size
        by_cases hmt : m < n
        · obtain ⟨g', cap2, hv, hg1', hg2, hc, hz⟩ := ho.out.one hn0
          cases hv
          have c1 := hc m hmt
          have c2 := hc k hlt
          have z1 := hz m
          have hbit := bN_bit (wshTo A k m m) k (by omega)
          rw [wshTo_bit] at hbit
          clear hc hz
          by_cases hp : wsh A k m k = true
          · rw [if_pos hp] at hbit
            have hor := bN_or (wshTo A k m m) (wshTo A k m k)
            have ho2 : Hid (∀ wq, Fr wr wq → RelO (wq.setCell ⟨g, m, none⟩ (.int .u32 (bN (fun j => wshTo A k m m j || wshTo A k m k j) : Int))) w.heap.size (.slice (some ⟨g, 0, none⟩) n cc) n (wshTo A k (m + 1))) := Lib.hid fun wq hq => (RelO.set (ho.out.fr hq) m _).congr fun i hi => by
              funext j
              have := wshTo_yes hp i j
              by_cases e : i = m
              · simp only [if_pos e] at this ⊢
                exact this
              · simp only [if_neg e] at this ⊢
                exact this
            clear ho hp
            go_wp2_with fail
            go_region
            all_goals
              go_wp2_with fail
              go_roundw
              case rel => exact ⟨m + 1, by omega, by go_num, by (refine Lib.hid (ho2.out _ ?_); repeat (first | (with_reducible exact Fr.refl _) | (with_reducible assumption) | (with_reducible refine Fr.drewN ?_ _) | (with_reducible refine Fr.drew ?_) | (with_reducible refine Fr.alloc ?_ _) | (with_reducible refine Fr.setCell ?_ (by (first | (with_reducible assumption) | omega | (simp only [World.size_alloc, World.size_setCell, World.size_drew, World.heap_drewN]; omega) | (simp; done) | (simp; omega))) _) | (with_reducible refine Fr.trans ?_ (by with_reducible assumption)))), by repeat (first | (with_reducible exact Fr.refl _) | (with_reducible assumption) | (with_reducible refine Fr.drewN ?_ _) | (with_reducible refine Fr.drew ?_) | (with_reducible refine Fr.alloc ?_ _) | (with_reducible refine Fr.setCell ?_ (by (first | (with_reducible assumption) | omega | (simp only [World.size_alloc, World.size_setCell, World.size_drew, World.heap_drewN]; omega) | (simp; done) | (simp; omega))) _) | (with_reducible refine Fr.trans ?_ (by with_reducible assumption)))⟩
              case measure => (simp [intOf]; omega)
          · have hp2 : wsh A k m k = false := by simpa using hp
            rw [if_neg hp] at hbit
            have ho2 : Hid (RelO wr w.heap.size (.slice (some ⟨g, 0, none⟩) n cc) n (wshTo A k (m + 1))) := Lib.hid (ho.out.congr fun i hi => by funext j; exact wshTo_no hp2 i j)
            clear ho hp hp2
            go_wp2_with fail
            go_roundw
            case rel => exact ⟨m + 1, by omega, by go_num, ho2, hfr⟩
            case measure => (simp [intOf]; omega)
        · obtain rfl : m = n := by omega
          have ho2 : Hid (RelO wr w.heap.size (.slice (some ⟨g, 0, none⟩) m cc) m (wsh A (k + 1))) := Lib.hid (ho.out.congr fun i hi => by funext j; simp [wshTo, hi])
          clear ho
          go_wp2_with fail
          go_roundw
          case rel => exact ⟨k + 1, by omega, by go_num, ho2, hfr⟩
          case measure => (simp [intOf]; omega)
    · obtain rfl : k = n := by omega
      go_wp2_with fail
      go_ret
      exact ⟨_, _, rfl, ho.out, hfr⟩
end Go.Proofs.Ytjgghiniajmfjaa
