/- Rings: RingOk, of the program and of the reference. No condition but the sizes that the reading gives. -/
import Derived.Test.YtlomckhfdcdljaaRing
import Derived.Test.YtlomckhfdcdljaaOk
namespace Go.Proofs.Ytlomckhfdcdljaa
open Go.RowKit
set_option linter.unusedVariables false
set_option linter.unusedSimpArgs false

theorem inRange_any (n lo hi : Int) (w : World) :
    Calls Try.prog 89 #[.int .i64 n, .int .i64 lo, .int .i64 hi] w fun e w' => e = .returned (.bool (decide (lo ≤ n ∧ n ≤ hi))) ∧ w = w' := by
  go_enter Try.func89, Try.ntmps89
  go_wp2
  all_goals go_ret
  all_goals exact ⟨ret_bool (by rw [Bool.eq_iff_iff]; simp; omega), rfl⟩
theorem isWorkers_any (n : Int) (w : World) :
    Calls Try.prog 84 #[.int .i64 n] w fun e w' => e = .returned (.bool (decide (1 ≤ n ∧ n ≤ 8))) ∧ w = w' := by
  go_enter Try.func84, Try.ntmps84
  go_wp2
  all_goals go_ret
  all_goals exact ⟨ret_bool (by rw [Bool.eq_iff_iff]; simp; omega), rfl⟩
def inB (lo hi x : Int) : Bool := decide (lo ≤ x ∧ x ≤ hi)
abbrev ringHd (xs bs : List Bool) (cs fs : List Int) : Prop := 1 ≤ xs.length ∧ xs.length ≤ 8 ∧ cs.length = xs.length ∧ bs.length = xs.length ∧ fs.length ≤ 100
def ringB (xs bs : List Bool) (cs fs : List Int) (h n : Int) : Bool :=
  decide (1 ≤ xs.length ∧ xs.length ≤ 8 ∧ cs.length = xs.length ∧ bs.length = xs.length ∧ fs.length ≤ 100) && (inB 0 (xs.length - 1) h && inB (-8000) 8000 n) && (cs.all (inB (-1000) 1000) && fs.all (inB 0 (xs.length - 1)))
theorem ringB_hd {xs bs : List Bool} {cs fs : List Int} {h n : Int} (hh : ¬ ringHd xs bs cs fs) : ringB xs bs cs fs h n = false := by
  unfold ringB
  rw [decide_eq_false hh]
  rfl
theorem ringB_ok {xs bs : List Bool} {cs fs : List Int} {h n : Int} (hh : ringHd xs bs cs fs) : ringB xs bs cs fs h n = ((inB 0 (xs.length - 1) h && inB (-8000) 8000 n) && (cs.all (inB (-1000) 1000) && fs.all (inB 0 (xs.length - 1)))) := by
  unfold ringB
  rw [decide_eq_true hh]
  rfl

set_option maxHeartbeats 1600000 in
theorem implRingOk_any (va vc vb vf : Value) (xs bs : List Bool) (cs fs : List Int) (h n : Int) (bl ov : Bool) (w : World) (ha : BoolsR w va xs) (hc : IntsR w vc cs) (hb : BoolsR w vb bs) (hf : IntsR w vf fs) (hh : (Lit.int .i64 h).wf = true) :
    Calls Try.prog 50 #[.agg #[va, vc, vb, vf, .int .i64 h, .int .i64 n, .bool bl, .bool ov]] w fun e w' => e = .returned (.bool (ringB xs bs cs fs h n)) ∧ Fr w w' := by
  obtain ⟨ao, ba, oa, ca, rfl, hca, hma, fa⟩ := ha.one
  obtain ⟨bo, bb, ob, cb, rfl, hcb, hmb, fb⟩ := hb.one
  obtain ⟨co, bc, oc, cc, rfl, hcc, hmc, fc⟩ := hc.one
  obtain ⟨fo, bf, of', cf, rfl, hcf, hmf, ff⟩ := hf.one
  clear ha hb hc hf fa fb
  by_cases hd : ringHd xs bs cs fs
  · have HK := Lib.hid (ringB_ok (h := h) (n := n) hd)
    obtain ⟨d1, d2, d3, d4, d5⟩ := hd
    have d3' : cs.length ≤ xs.length := by omega
    have d3'' : xs.length ≤ cs.length := by omega
    have d4' : bs.length ≤ xs.length := by omega
    have d4'' : xs.length ≤ bs.length := by omega
    clear d3 d4
    have e1 : decide ((1 : Int) ≤ (xs.length : Int) ∧ (xs.length : Int) ≤ 8) = true := decide_eq_true ⟨by omega, by omega⟩
    go_enter Try.func50, Try.ntmps50
    go_wp2_with (go_at_call 84; refine (isWorkers_any _ _).mono ?_; rintro e w1 ⟨rfl, rfl⟩)
    go_loop [37] (fun i => ∃ k : Nat, k ≤ cs.length ∧ i = .int .i64 k ∧ Hid (∀ j, j < k → inB (-1000) 1000 (iAt cs j) = true)) (fun i => cs.length - (intOf i).toNat)
    case atStart => exact ⟨0, Nat.zero_le _, rfl, fun j hj => absurd hj (by omega)⟩
    case round =>
      obtain ⟨k, hk, rfl, hj⟩ := hrel
      by_cases hlt : k < cs.length
      · obtain ⟨rfl, hba, fc⟩ := fc (by omega)
        have c1 := fc k hlt
        clear fc ff
        cases hb : inB (-1000) 1000 (iAt cs k)
        · have HB := Lib.hid hb
          have hb' : decide (-1000 ≤ iAt cs k ∧ iAt cs k ≤ 1000) = false := hb
          go_wp2_with (go_at_call 89; refine (inRange_any _ _ _ _).mono ?_; rintro e w1 ⟨rfl, rfl⟩)
          go_ret
          exact ⟨ret_bool (by rw [HK.out, not_all_getD 0 k hlt HB.out]; simp), by repeat (first | (with_reducible exact Fr.refl _) | (with_reducible assumption) | (with_reducible refine Fr.drewN ?_ _) | (with_reducible refine Fr.drew ?_) | (with_reducible refine Fr.alloc ?_ _) | (with_reducible refine Fr.setCell ?_ (by (first | (with_reducible assumption) | omega | (simp only [World.size_alloc, World.size_setCell, World.size_drew, World.heap_drewN]; omega) | (simp; omega))) _) | (with_reducible refine Fr.trans ?_ (by with_reducible assumption)))⟩
        · have HB := Lib.hid hb
          have hb' : decide (-1000 ≤ iAt cs k ∧ iAt cs k ≤ 1000) = true := hb
          go_wp2_with (go_at_call 89; refine (inRange_any _ _ _ _).mono ?_; rintro e w1 ⟨rfl, rfl⟩)
          go_round
          case rel => exact ⟨k + 1, by omega, by go_num, fun j h => by rcases Nat.lt_succ_iff_lt_or_eq.1 h with h | rfl; exact hj.out j h; exact HB.out⟩
          case measure => (simp [intOf]; omega)
      · clear fc
        have HC : Hid (cs.all (inB (-1000) 1000) = true) := all_getD 0 (fun j h => hj.out j (by omega))
        go_wp2
        go_loop [48] (fun i => ∃ k : Nat, k ≤ fs.length ∧ i = .int .i64 k ∧ Hid (∀ j, j < k → inB 0 (xs.length - 1) (iAt fs j) = true)) (fun i => fs.length - (intOf i).toNat)
        case atStart => exact ⟨0, Nat.zero_le _, rfl, fun j hj => absurd hj (by omega)⟩
        case round =>
          obtain ⟨k, hk, rfl, hj⟩ := hrel
          by_cases hlt : k < fs.length
          · obtain ⟨rfl, hba, ff⟩ := ff (by omega)
            have c1 := ff k hlt
            clear ff
            cases hb : inB 0 (xs.length - 1) (iAt fs k)
            · have HB := Lib.hid hb
              have hb' : decide (0 ≤ iAt fs k ∧ iAt fs k ≤ (xs.length : Int) - 1) = false := hb
              go_wp2_with (go_at_call 89; refine (inRange_any _ _ _ _).mono ?_; rintro e w1 ⟨rfl, rfl⟩)
              go_ret
              exact ⟨ret_bool (by rw [HK.out, not_all_getD 0 k hlt HB.out]; simp), by repeat (first | (with_reducible exact Fr.refl _) | (with_reducible assumption) | (with_reducible refine Fr.drewN ?_ _) | (with_reducible refine Fr.drew ?_) | (with_reducible refine Fr.alloc ?_ _) | (with_reducible refine Fr.setCell ?_ (by (first | (with_reducible assumption) | omega | (simp only [World.size_alloc, World.size_setCell, World.size_drew, World.heap_drewN]; omega) | (simp; omega))) _) | (with_reducible refine Fr.trans ?_ (by with_reducible assumption)))⟩
            · have HB := Lib.hid hb
              have hb' : decide (0 ≤ iAt fs k ∧ iAt fs k ≤ (xs.length : Int) - 1) = true := hb
              go_wp2_with (go_at_call 89; refine (inRange_any _ _ _ _).mono ?_; rintro e w1 ⟨rfl, rfl⟩)
              go_round
              case rel => exact ⟨k + 1, by omega, by go_num, fun j h => by rcases Nat.lt_succ_iff_lt_or_eq.1 h with h | rfl; exact hj.out j h; exact HB.out⟩
              case measure => (simp [intOf]; omega)
          · clear ff
            have HF : Hid (fs.all (inB 0 (xs.length - 1)) = true) := all_getD 0 (fun j h => hj.out j (by omega))
            cases hb : inB 0 (xs.length - 1) h
            · have HB := Lib.hid hb
              have hb' : decide (0 ≤ h ∧ h ≤ (xs.length : Int) - 1) = false := hb
              go_wp2_with (go_at_call 89; refine (inRange_any _ _ _ _).mono ?_; rintro e w1 ⟨rfl, rfl⟩)
              go_ret
              exact ⟨ret_bool (by rw [HK.out, HB.out]; simp), by repeat (first | (with_reducible exact Fr.refl _) | (with_reducible assumption) | (with_reducible refine Fr.drewN ?_ _) | (with_reducible refine Fr.drew ?_) | (with_reducible refine Fr.alloc ?_ _) | (with_reducible refine Fr.setCell ?_ (by (first | (with_reducible assumption) | omega | (simp only [World.size_alloc, World.size_setCell, World.size_drew, World.heap_drewN]; omega) | (simp; omega))) _) | (with_reducible refine Fr.trans ?_ (by with_reducible assumption)))⟩
            · have HB := Lib.hid hb
              have hb' : decide (0 ≤ h ∧ h ≤ (xs.length : Int) - 1) = true := hb
              go_wp2_with (go_at_call 89; refine (inRange_any _ _ _ _).mono ?_; rintro e w1 ⟨rfl, rfl⟩)
              go_ret
              exact ⟨ret_bool (by rw [HK.out, HB.out, HC.out, HF.out]; simp [inB]), by repeat (first | (with_reducible exact Fr.refl _) | (with_reducible assumption) | (with_reducible refine Fr.drewN ?_ _) | (with_reducible refine Fr.drew ?_) | (with_reducible refine Fr.alloc ?_ _) | (with_reducible refine Fr.setCell ?_ (by (first | (with_reducible assumption) | omega | (simp only [World.size_alloc, World.size_setCell, World.size_drew, World.heap_drewN]; omega) | (simp; omega))) _) | (with_reducible refine Fr.trans ?_ (by with_reducible assumption)))⟩
  · have HK := Lib.hid (ringB_hd (h := h) (n := n) hd)
    unfold ringHd at hd
    go_enter Try.func50, Try.ntmps50
    go_wp2_with (go_at_call 84; refine (isWorkers_any _ _).mono ?_; rintro e w1 ⟨rfl, rfl⟩)
    all_goals go_ret
    all_goals exact ⟨ret_bool HK.out.symm, by repeat (first | (with_reducible exact Fr.refl _) | (with_reducible assumption) | (with_reducible refine Fr.drewN ?_ _) | (with_reducible refine Fr.drew ?_) | (with_reducible refine Fr.alloc ?_ _) | (with_reducible refine Fr.setCell ?_ (by (first | (with_reducible assumption) | omega | (simp only [World.size_alloc, World.size_setCell, World.size_drew, World.heap_drewN]; omega) | (simp; omega))) _) | (with_reducible refine Fr.trans ?_ (by with_reducible assumption)))⟩
set_option maxHeartbeats 1600000 in
theorem specRingOk_any (va vc vb vf : Value) (xs bs : List Bool) (cs fs : List Int) (h n : Int) (bl ov : Bool) (w : World) (ha : BoolsR w va xs) (hc : IntsR w vc cs) (hb : BoolsR w vb bs) (hf : IntsR w vf fs) (hh : (Lit.int .i64 h).wf = true) :
    Calls Try.prog 49 #[.agg #[va, vc, vb, vf, .int .i64 h, .int .i64 n, .bool bl, .bool ov]] w fun e w' => e = .returned (.bool (ringB xs bs cs fs h n)) ∧ Fr w w' := by
  obtain ⟨ao, ba, oa, ca, rfl, hca, hma, fa⟩ := ha.one
  obtain ⟨bo, bb, ob, cb, rfl, hcb, hmb, fb⟩ := hb.one
  obtain ⟨co, bc, oc, cc, rfl, hcc, hmc, fc⟩ := hc.one
  obtain ⟨fo, bf, of', cf, rfl, hcf, hmf, ff⟩ := hf.one
  clear ha hb hc hf fa fb
  by_cases hd : ringHd xs bs cs fs ∧ (inB 0 (xs.length - 1) h && inB (-8000) 8000 n) = true
  · have HK := Lib.hid (ringB_ok (h := h) (n := n) hd.1)
    have HE := Lib.hid hd.2
    obtain ⟨⟨d1, d2, d3, d4, d5⟩, d6⟩ := hd
    have d3' : cs.length ≤ xs.length := by omega
    have d3'' : xs.length ≤ cs.length := by omega
    have d4' : bs.length ≤ xs.length := by omega
    have d4'' : xs.length ≤ bs.length := by omega
    clear d3 d4
    rw [Bool.and_eq_true] at d6
    have e1 : decide ((1 : Int) ≤ (xs.length : Int) ∧ (xs.length : Int) ≤ 8) = true := decide_eq_true ⟨by omega, by omega⟩
    have e2 : decide (0 ≤ h ∧ h ≤ (xs.length : Int) - 1) = true := d6.1
    have e3 : decide (-8000 ≤ n ∧ n ≤ 8000) = true := d6.2
    clear d6
    go_enter Try.func49, Try.ntmps49
    go_wp2_with (go_at_call 60; refine (l01In_any _ _ _ _).mono ?_; rintro e w1 ⟨rfl, rfl⟩)
    go_loop [4] (fun i => ∃ k : Nat, k ≤ cs.length ∧ i = .int .i64 k ∧ Hid (∀ j, j < k → inB (-1000) 1000 (iAt cs j) = true)) (fun i => cs.length - (intOf i).toNat)
    case atStart => exact ⟨0, Nat.zero_le _, rfl, fun j hj => absurd hj (by omega)⟩
    case round =>
      obtain ⟨k, hk, rfl, hj⟩ := hrel
      by_cases hlt : k < cs.length
      · obtain ⟨rfl, hba, fc⟩ := fc (by omega)
        have c1 := fc k hlt
        clear fc ff
        cases hb : inB (-1000) 1000 (iAt cs k)
        · have HB := Lib.hid hb
          have hb' : decide (-1000 ≤ iAt cs k ∧ iAt cs k ≤ 1000) = false := hb
          go_wp2_with (go_at_call 60; refine (l01In_any _ _ _ _).mono ?_; rintro e w1 ⟨rfl, rfl⟩)
          go_ret
          exact ⟨ret_bool (by rw [HK.out, not_all_getD 0 k hlt HB.out]; simp), by repeat (first | (with_reducible exact Fr.refl _) | (with_reducible assumption) | (with_reducible refine Fr.drewN ?_ _) | (with_reducible refine Fr.drew ?_) | (with_reducible refine Fr.alloc ?_ _) | (with_reducible refine Fr.setCell ?_ (by (first | (with_reducible assumption) | omega | (simp only [World.size_alloc, World.size_setCell, World.size_drew, World.heap_drewN]; omega) | (simp; omega))) _) | (with_reducible refine Fr.trans ?_ (by with_reducible assumption)))⟩
        · have HB := Lib.hid hb
          have hb' : decide (-1000 ≤ iAt cs k ∧ iAt cs k ≤ 1000) = true := hb
          go_wp2_with (go_at_call 60; refine (l01In_any _ _ _ _).mono ?_; rintro e w1 ⟨rfl, rfl⟩)
          go_round
          case rel => exact ⟨k + 1, by omega, by go_num, fun j h => by rcases Nat.lt_succ_iff_lt_or_eq.1 h with h | rfl; exact hj.out j h; exact HB.out⟩
          case measure => (simp [intOf]; omega)
      · clear fc
        have HC : Hid (cs.all (inB (-1000) 1000) = true) := all_getD 0 (fun j h => hj.out j (by omega))
        go_wp2
        go_loop [5] (fun i => ∃ k : Nat, k ≤ fs.length ∧ i = .int .i64 k ∧ Hid (∀ j, j < k → inB 0 (xs.length - 1) (iAt fs j) = true)) (fun i => fs.length - (intOf i).toNat)
        case atStart => exact ⟨0, Nat.zero_le _, rfl, fun j hj => absurd hj (by omega)⟩
        case round =>
          obtain ⟨k, hk, rfl, hj⟩ := hrel
          by_cases hlt : k < fs.length
          · obtain ⟨rfl, hba, ff⟩ := ff (by omega)
            have c1 := ff k hlt
            clear ff
            cases hb : inB 0 (xs.length - 1) (iAt fs k)
            · have HB := Lib.hid hb
              have hb' : decide (0 ≤ iAt fs k ∧ iAt fs k ≤ (xs.length : Int) - 1) = false := hb
              go_wp2_with (go_at_call 60; refine (l01In_any _ _ _ _).mono ?_; rintro e w1 ⟨rfl, rfl⟩)
              go_ret
              exact ⟨ret_bool (by rw [HK.out, not_all_getD 0 k hlt HB.out]; simp), by repeat (first | (with_reducible exact Fr.refl _) | (with_reducible assumption) | (with_reducible refine Fr.drewN ?_ _) | (with_reducible refine Fr.drew ?_) | (with_reducible refine Fr.alloc ?_ _) | (with_reducible refine Fr.setCell ?_ (by (first | (with_reducible assumption) | omega | (simp only [World.size_alloc, World.size_setCell, World.size_drew, World.heap_drewN]; omega) | (simp; omega))) _) | (with_reducible refine Fr.trans ?_ (by with_reducible assumption)))⟩
            · have HB := Lib.hid hb
              have hb' : decide (0 ≤ iAt fs k ∧ iAt fs k ≤ (xs.length : Int) - 1) = true := hb
              go_wp2_with (go_at_call 60; refine (l01In_any _ _ _ _).mono ?_; rintro e w1 ⟨rfl, rfl⟩)
              go_round
              case rel => exact ⟨k + 1, by omega, by go_num, fun j h => by rcases Nat.lt_succ_iff_lt_or_eq.1 h with h | rfl; exact hj.out j h; exact HB.out⟩
              case measure => (simp [intOf]; omega)
          · clear ff
            have HF : Hid (fs.all (inB 0 (xs.length - 1)) = true) := all_getD 0 (fun j h => hj.out j (by omega))
            go_wp2
            go_ret
            exact ⟨ret_bool (by rw [HK.out, HC.out, HF.out, HE.out]; rfl), by repeat (first | (with_reducible exact Fr.refl _) | (with_reducible assumption) | (with_reducible refine Fr.drewN ?_ _) | (with_reducible refine Fr.drew ?_) | (with_reducible refine Fr.alloc ?_ _) | (with_reducible refine Fr.setCell ?_ (by (first | (with_reducible assumption) | omega | (simp only [World.size_alloc, World.size_setCell, World.size_drew, World.heap_drewN]; omega) | (simp; omega))) _) | (with_reducible refine Fr.trans ?_ (by with_reducible assumption)))⟩
  · have HK : Hid (ringB xs bs cs fs h n = false) := by
      by_cases h1 : ringHd xs bs cs fs
      · show ringB xs bs cs fs h n = false
        rw [ringB_ok h1, show (inB 0 (xs.length - 1) h && inB (-8000) 8000 n) = false from by simpa using fun h2 => hd ⟨h1, h2⟩, Bool.false_and]
      · exact ringB_hd h1
    simp only [inB, Bool.and_eq_true, decide_eq_true_eq] at hd
    go_enter Try.func49, Try.ntmps49
    go_wp2_with (go_at_call 60; refine (l01In_any _ _ _ _).mono ?_; rintro e w1 ⟨rfl, rfl⟩)
    all_goals first | (go_ret; exact ⟨ret_bool HK.out.symm, by repeat (first | (with_reducible exact Fr.refl _) | (with_reducible assumption) | (with_reducible refine Fr.drewN ?_ _) | (with_reducible refine Fr.drew ?_) | (with_reducible refine Fr.alloc ?_ _) | (with_reducible refine Fr.setCell ?_ (by (first | (with_reducible assumption) | omega | (simp only [World.size_alloc, World.size_setCell, World.size_drew, World.heap_drewN]; omega) | (simp; omega))) _) | (with_reducible refine Fr.trans ?_ (by with_reducible assumption)))⟩) | (exfalso; clear HK fc ff; simp at *; omega)
end Go.Proofs.Ytlomckhfdcdljaa
