/- spec.LetterOk. Condition: the letter's text is no longer than the laws allow. (Printed by mk_let.py.) -/
import Derived.Test.YtphjlecbhbcbcaaLet
namespace Go.Proofs.Ytphjlecbhbcbcaa
open Go.RowKit
set_option linter.unusedVariables false
set_option linter.unusedSimpArgs false
set_option maxHeartbeats 4000000 in
set_option maxRecDepth 100000 in
theorem specLet1 (ao : Option Addr) (ca : Nat) (a n : Int) (b : Bool) (ws : List WalkR) (s : ByteArray) (w : World) (hu : WalksR w (.slice ao ws.length ca) ws) (hs : s.size ≤ 1048576) :
    Calls Try.prog 24 #[.agg #[.int .i64 1, .int .i64 a, .int .i64 n, .bool b, .slice ao ws.length ca, .string s]] w fun e w' => e = .returned (.bool (letB ⟨1, a, n, b, ws, s⟩)) ∧ Fr w w' := by
  have HU := Lib.hid hu
  have hl := hu.le
  obtain ⟨wq, hwq⟩ : ∃ wq, walksB ws = wq := ⟨_, rfl⟩
  obtain ⟨r, hr⟩ : ∃ r, rbS s = r := ⟨_, rfl⟩
  obtain ⟨p, hp⟩ : ∃ p, letB ⟨1, a, n, b, ws, s⟩ = p := ⟨_, rfl⟩
  have HL : Hid ((decide (n = 0) && !b && decide (a = 0) && decide (ws.length = 0) && decide (s.size ≤ 6000)) = p) := Lib.hid (by subst hp; subst hwq; subst hr; rfl)
  rw [hp]
  have HW := Lib.hid hwq
  have CK : Hid (∀ x0 x1 x2 x3 w', Calls Try.prog 76 #[.agg #[.int .i64 x0, .int .i64 x1, .int .i64 x2, .int .i64 x3]] w' fun e w'' => e = .returned (.bool (walkB x0 x1 x2 x3)) ∧ Fr w' w'') := Lib.hid fun x0 x1 x2 x3 w' => specWalkOk_any _ _ _ _ _
  clear hp hwq hr
  obtain ⟨_, ba, oa, _, hv, hca, hma, fa⟩ := hu.one
  cases hv
  have FA := Lib.hid fa
  clear hu fa
  by_cases hT : s.size ≤ 6000
  rotate_left
  · skip
    go_enter Try.func24, Try.ntmps24
    go_wp2_with (go_at_call 84; refine (l01In_any _ _ _ _).mono ?_; rintro e w1 ⟨rfl, rfl⟩)
    go_ret
    exact ⟨ret_bool (by rw [← HL.out, Bool.eq_iff_iff]; (try simp only [Bool.and_eq_true, decide_eq_true_eq, Bool.not_false, Bool.not_true, Bool.false_eq_true, beq_iff_eq, true_and, and_true, false_and, and_false, iff_false, false_iff, true_iff, iff_true, Int.natCast_eq_zero, not_false_eq_true, and_self]) <;> omega), by repeat (first | (with_reducible exact Fr.refl _) | (with_reducible assumption) | (with_reducible refine Fr.drewN ?_ _) | (with_reducible refine Fr.drew ?_) | (with_reducible refine Fr.alloc ?_ _) | (with_reducible refine Fr.setCell ?_ (by (first | (with_reducible assumption) | omega | (simp only [World.size_alloc, World.size_setCell, World.size_drew, World.heap_drewN]; omega) | (simp; done) | (simp; omega))) _) | (with_reducible refine Fr.trans ?_ (by with_reducible assumption)))⟩
  by_cases hL : ws.length ≤ 0
  rotate_left
  · skip
    go_enter Try.func24, Try.ntmps24
    go_wp2_with (go_at_call 84; refine (l01In_any _ _ _ _).mono ?_; rintro e w1 ⟨rfl, rfl⟩)
    go_ret
    exact ⟨ret_bool (by rw [← HL.out, Bool.eq_iff_iff]; (try simp only [Bool.and_eq_true, decide_eq_true_eq, Bool.not_false, Bool.not_true, Bool.false_eq_true, beq_iff_eq, true_and, and_true, false_and, and_false, iff_false, false_iff, true_iff, iff_true, Int.natCast_eq_zero, not_false_eq_true, and_self]) <;> omega), by repeat (first | (with_reducible exact Fr.refl _) | (with_reducible assumption) | (with_reducible refine Fr.drewN ?_ _) | (with_reducible refine Fr.drew ?_) | (with_reducible refine Fr.alloc ?_ _) | (with_reducible refine Fr.setCell ?_ (by (first | (with_reducible assumption) | omega | (simp only [World.size_alloc, World.size_setCell, World.size_drew, World.heap_drewN]; omega) | (simp; done) | (simp; omega))) _) | (with_reducible refine Fr.trans ?_ (by with_reducible assumption)))⟩
  by_cases hN : n = 0
  rotate_left
  · skip
    have qN : (n != 0) = true := by simpa using hN
    have HN := Lib.hid hN
    clear hN
    go_enter Try.func24, Try.ntmps24
    go_wp2_with (go_at_call 84; refine (l01In_any _ _ _ _).mono ?_; rintro e w1 ⟨rfl, rfl⟩)
    go_ret
    have eN := HN.out
    exact ⟨ret_bool (by rw [← HL.out, Bool.eq_iff_iff]; (try simp only [Bool.and_eq_true, decide_eq_true_eq, Bool.not_false, Bool.not_true, Bool.false_eq_true, beq_iff_eq, true_and, and_true, false_and, and_false, iff_false, false_iff, true_iff, iff_true, Int.natCast_eq_zero, not_false_eq_true, eN]) <;> omega), by repeat (first | (with_reducible exact Fr.refl _) | (with_reducible assumption) | (with_reducible refine Fr.drewN ?_ _) | (with_reducible refine Fr.drew ?_) | (with_reducible refine Fr.alloc ?_ _) | (with_reducible refine Fr.setCell ?_ (by (first | (with_reducible assumption) | omega | (simp only [World.size_alloc, World.size_setCell, World.size_drew, World.heap_drewN]; omega) | (simp; done) | (simp; omega))) _) | (with_reducible refine Fr.trans ?_ (by with_reducible assumption)))⟩
  have qN : (n != 0) = false := by simpa using hN
  have HN := Lib.hid hN
  clear hN
  cases b
  rotate_left
  · skip
    go_enter Try.func24, Try.ntmps24
    go_wp2_with (go_at_call 84; refine (l01In_any _ _ _ _).mono ?_; rintro e w1 ⟨rfl, rfl⟩)
    go_ret
    have eN := HN.out
    exact ⟨ret_bool (by rw [← HL.out, Bool.eq_iff_iff]; (try simp only [Bool.and_eq_true, decide_eq_true_eq, Bool.not_false, Bool.not_true, Bool.false_eq_true, beq_iff_eq, true_and, and_true, false_and, and_false, iff_false, false_iff, true_iff, iff_true, Int.natCast_eq_zero, not_false_eq_true, eN]) <;> omega), by repeat (first | (with_reducible exact Fr.refl _) | (with_reducible assumption) | (with_reducible refine Fr.drewN ?_ _) | (with_reducible refine Fr.drew ?_) | (with_reducible refine Fr.alloc ?_ _) | (with_reducible refine Fr.setCell ?_ (by (first | (with_reducible assumption) | omega | (simp only [World.size_alloc, World.size_setCell, World.size_drew, World.heap_drewN]; omega) | (simp; done) | (simp; omega))) _) | (with_reducible refine Fr.trans ?_ (by with_reducible assumption)))⟩
  by_cases hA : a = 0
  rotate_left
  · skip
    have qA : (a != 0) = true := by simpa using hA
    have HA := Lib.hid hA
    clear hA
    go_enter Try.func24, Try.ntmps24
    go_wp2_with (go_at_call 84; refine (l01In_any _ _ _ _).mono ?_; rintro e w1 ⟨rfl, rfl⟩)
    go_ret
    have eN := HN.out
    have eA := HA.out
    exact ⟨ret_bool (by rw [← HL.out, Bool.eq_iff_iff]; (try simp only [Bool.and_eq_true, decide_eq_true_eq, Bool.not_false, Bool.not_true, Bool.false_eq_true, beq_iff_eq, true_and, and_true, false_and, and_false, iff_false, false_iff, true_iff, iff_true, Int.natCast_eq_zero, not_false_eq_true, eN, eA]) <;> omega), by repeat (first | (with_reducible exact Fr.refl _) | (with_reducible assumption) | (with_reducible refine Fr.drewN ?_ _) | (with_reducible refine Fr.drew ?_) | (with_reducible refine Fr.alloc ?_ _) | (with_reducible refine Fr.setCell ?_ (by (first | (with_reducible assumption) | omega | (simp only [World.size_alloc, World.size_setCell, World.size_drew, World.heap_drewN]; omega) | (simp; done) | (simp; omega))) _) | (with_reducible refine Fr.trans ?_ (by with_reducible assumption)))⟩
  have qA : (a != 0) = false := by simpa using hA
  have HA := Lib.hid hA
  clear hA
  go_enter Try.func24, Try.ntmps24
  go_wp2_with (go_at_call 84; refine (l01In_any _ _ _ _).mono ?_; rintro e w1 ⟨rfl, rfl⟩)
  go_loopw [4] (fun i wr => ∃ k : Nat, k ≤ ws.length ∧ i = .int .i64 k ∧ Hid (∀ j, j < k → walkK ws j = true) ∧ Box wr w.heap.size #[.int .i64 1, .int .i64 a, .int .i64 n, .bool false, .slice ao ws.length ca, .string s] 38 ∧ Fr w wr) (fun i _ => ws.length - (intOf i).toNat)
  case atStart => exact ⟨0, Nat.zero_le _, rfl, Lib.hid (fun j hj => absurd hj (by omega)), Box.new _ _ _, by repeat (first | (with_reducible exact Fr.refl _) | (with_reducible assumption) | (with_reducible refine Fr.drewN ?_ _) | (with_reducible refine Fr.drew ?_) | (with_reducible refine Fr.alloc ?_ _) | (with_reducible refine Fr.setCell ?_ (by (first | (with_reducible assumption) | omega | (simp only [World.size_alloc, World.size_setCell, World.size_drew, World.heap_drewN]; omega) | (simp; done) | (simp; omega))) _) | (with_reducible refine Fr.trans ?_ (by with_reducible assumption)))⟩
  case round =>
    obtain ⟨k, hk, rfl, hj, BX, hfr⟩ := hrel
    have FX := BX.facts
    go_wp2_with (go_at_call 84; refine (l01In_any _ _ _ _).mono ?_; rintro e w1 ⟨rfl, rfl⟩)
    go_ret
    have eN := HN.out
    have eA := HA.out
    exact ⟨ret_bool (by rw [← HL.out, Bool.eq_iff_iff]; (try simp only [Bool.and_eq_true, decide_eq_true_eq, Bool.not_false, Bool.not_true, Bool.false_eq_true, beq_iff_eq, true_and, and_true, false_and, and_false, iff_false, false_iff, true_iff, iff_true, Int.natCast_eq_zero, not_false_eq_true, eN, eA]) <;> omega), by repeat (first | (with_reducible exact Fr.refl _) | (with_reducible assumption) | (with_reducible refine Fr.drewN ?_ _) | (with_reducible refine Fr.drew ?_) | (with_reducible refine Fr.alloc ?_ _) | (with_reducible refine Fr.setCell ?_ (by (first | (with_reducible assumption) | omega | (simp only [World.size_alloc, World.size_setCell, World.size_drew, World.heap_drewN]; omega) | (simp; done) | (simp; omega))) _) | (with_reducible refine Fr.trans ?_ (by with_reducible assumption)))⟩
set_option maxHeartbeats 4000000 in
set_option maxRecDepth 100000 in
theorem specLet2 (ao : Option Addr) (ca : Nat) (a n : Int) (b : Bool) (ws : List WalkR) (s : ByteArray) (w : World) (hu : WalksR w (.slice ao ws.length ca) ws) (hs : s.size ≤ 1048576) :
    Calls Try.prog 24 #[.agg #[.int .i64 2, .int .i64 a, .int .i64 n, .bool b, .slice ao ws.length ca, .string s]] w fun e w' => e = .returned (.bool (letB ⟨2, a, n, b, ws, s⟩)) ∧ Fr w w' := by
  have HU := Lib.hid hu
  have hl := hu.le
  obtain ⟨wq, hwq⟩ : ∃ wq, walksB ws = wq := ⟨_, rfl⟩
  obtain ⟨r, hr⟩ : ∃ r, rbS s = r := ⟨_, rfl⟩
  obtain ⟨p, hp⟩ : ∃ p, letB ⟨2, a, n, b, ws, s⟩ = p := ⟨_, rfl⟩
  have HL : Hid ((decide (n = 0) && !b && decide (a = 0) && decide (s.size = 0) && (wq && decide (1 ≤ ws.length ∧ ws.length ≤ 60))) = p) := Lib.hid (by subst hp; subst hwq; subst hr; rfl)
  rw [hp]
  have HW := Lib.hid hwq
  have CK : Hid (∀ x0 x1 x2 x3 w', Calls Try.prog 76 #[.agg #[.int .i64 x0, .int .i64 x1, .int .i64 x2, .int .i64 x3]] w' fun e w'' => e = .returned (.bool (walkB x0 x1 x2 x3)) ∧ Fr w' w'') := Lib.hid fun x0 x1 x2 x3 w' => specWalkOk_any _ _ _ _ _
  clear hp hwq hr
  obtain ⟨_, ba, oa, _, hv, hca, hma, fa⟩ := hu.one
  cases hv
  have FA := Lib.hid fa
  clear hu fa
  by_cases hT : s.size ≤ 6000
  rotate_left
  · skip
    go_enter Try.func24, Try.ntmps24
    go_wp2_with (go_at_call 84; refine (l01In_any _ _ _ _).mono ?_; rintro e w1 ⟨rfl, rfl⟩)
    go_ret
    exact ⟨ret_bool (by rw [← HL.out, Bool.eq_iff_iff]; (try simp only [Bool.and_eq_true, decide_eq_true_eq, Bool.not_false, Bool.not_true, Bool.false_eq_true, beq_iff_eq, true_and, and_true, false_and, and_false, iff_false, false_iff, true_iff, iff_true, Int.natCast_eq_zero, not_false_eq_true, and_self]) <;> omega), by repeat (first | (with_reducible exact Fr.refl _) | (with_reducible assumption) | (with_reducible refine Fr.drewN ?_ _) | (with_reducible refine Fr.drew ?_) | (with_reducible refine Fr.alloc ?_ _) | (with_reducible refine Fr.setCell ?_ (by (first | (with_reducible assumption) | omega | (simp only [World.size_alloc, World.size_setCell, World.size_drew, World.heap_drewN]; omega) | (simp; done) | (simp; omega))) _) | (with_reducible refine Fr.trans ?_ (by with_reducible assumption)))⟩
  by_cases hN : n = 0
  rotate_left
  · skip
    have qN : (n != 0) = true := by simpa using hN
    have HN := Lib.hid hN
    clear hN
    go_enter Try.func24, Try.ntmps24
    go_wp2_with (go_at_call 84; refine (l01In_any _ _ _ _).mono ?_; rintro e w1 ⟨rfl, rfl⟩)
    go_ret
    have eN := HN.out
    exact ⟨ret_bool (by rw [← HL.out, Bool.eq_iff_iff]; (try simp only [Bool.and_eq_true, decide_eq_true_eq, Bool.not_false, Bool.not_true, Bool.false_eq_true, beq_iff_eq, true_and, and_true, false_and, and_false, iff_false, false_iff, true_iff, iff_true, Int.natCast_eq_zero, not_false_eq_true, eN]) <;> omega), by repeat (first | (with_reducible exact Fr.refl _) | (with_reducible assumption) | (with_reducible refine Fr.drewN ?_ _) | (with_reducible refine Fr.drew ?_) | (with_reducible refine Fr.alloc ?_ _) | (with_reducible refine Fr.setCell ?_ (by (first | (with_reducible assumption) | omega | (simp only [World.size_alloc, World.size_setCell, World.size_drew, World.heap_drewN]; omega) | (simp; done) | (simp; omega))) _) | (with_reducible refine Fr.trans ?_ (by with_reducible assumption)))⟩
  have qN : (n != 0) = false := by simpa using hN
  have HN := Lib.hid hN
  clear hN
  cases b
  rotate_left
  · skip
    go_enter Try.func24, Try.ntmps24
    go_wp2_with (go_at_call 84; refine (l01In_any _ _ _ _).mono ?_; rintro e w1 ⟨rfl, rfl⟩)
    go_ret
    have eN := HN.out
    exact ⟨ret_bool (by rw [← HL.out, Bool.eq_iff_iff]; (try simp only [Bool.and_eq_true, decide_eq_true_eq, Bool.not_false, Bool.not_true, Bool.false_eq_true, beq_iff_eq, true_and, and_true, false_and, and_false, iff_false, false_iff, true_iff, iff_true, Int.natCast_eq_zero, not_false_eq_true, eN]) <;> omega), by repeat (first | (with_reducible exact Fr.refl _) | (with_reducible assumption) | (with_reducible refine Fr.drewN ?_ _) | (with_reducible refine Fr.drew ?_) | (with_reducible refine Fr.alloc ?_ _) | (with_reducible refine Fr.setCell ?_ (by (first | (with_reducible assumption) | omega | (simp only [World.size_alloc, World.size_setCell, World.size_drew, World.heap_drewN]; omega) | (simp; done) | (simp; omega))) _) | (with_reducible refine Fr.trans ?_ (by with_reducible assumption)))⟩
  by_cases hA : a = 0
  rotate_left
  · skip
    have qA : (a != 0) = true := by simpa using hA
    have HA := Lib.hid hA
    clear hA
    go_enter Try.func24, Try.ntmps24
    go_wp2_with (go_at_call 84; refine (l01In_any _ _ _ _).mono ?_; rintro e w1 ⟨rfl, rfl⟩)
    go_ret
    have eN := HN.out
    have eA := HA.out
    exact ⟨ret_bool (by rw [← HL.out, Bool.eq_iff_iff]; (try simp only [Bool.and_eq_true, decide_eq_true_eq, Bool.not_false, Bool.not_true, Bool.false_eq_true, beq_iff_eq, true_and, and_true, false_and, and_false, iff_false, false_iff, true_iff, iff_true, Int.natCast_eq_zero, not_false_eq_true, eN, eA]) <;> omega), by repeat (first | (with_reducible exact Fr.refl _) | (with_reducible assumption) | (with_reducible refine Fr.drewN ?_ _) | (with_reducible refine Fr.drew ?_) | (with_reducible refine Fr.alloc ?_ _) | (with_reducible refine Fr.setCell ?_ (by (first | (with_reducible assumption) | omega | (simp only [World.size_alloc, World.size_setCell, World.size_drew, World.heap_drewN]; omega) | (simp; done) | (simp; omega))) _) | (with_reducible refine Fr.trans ?_ (by with_reducible assumption)))⟩
  have qA : (a != 0) = false := by simpa using hA
  have HA := Lib.hid hA
  clear hA
  by_cases hS : s.size ≤ 0
  rotate_left
  · skip
    have he : s.toList.isEmpty = false := by rw [empty_iff, decide_eq_false (by omega)]
    go_enter Try.func24, Try.ntmps24
    go_wp2_with (go_at_call 84; refine (l01In_any _ _ _ _).mono ?_; rintro e w1 ⟨rfl, rfl⟩)
    go_ret
    have eN := HN.out
    have eA := HA.out
    exact ⟨ret_bool (by rw [← HL.out, Bool.eq_iff_iff]; (try simp only [Bool.and_eq_true, decide_eq_true_eq, Bool.not_false, Bool.not_true, Bool.false_eq_true, beq_iff_eq, true_and, and_true, false_and, and_false, iff_false, false_iff, true_iff, iff_true, Int.natCast_eq_zero, not_false_eq_true, eN, eA]) <;> omega), by repeat (first | (with_reducible exact Fr.refl _) | (with_reducible assumption) | (with_reducible refine Fr.drewN ?_ _) | (with_reducible refine Fr.drew ?_) | (with_reducible refine Fr.alloc ?_ _) | (with_reducible refine Fr.setCell ?_ (by (first | (with_reducible assumption) | omega | (simp only [World.size_alloc, World.size_setCell, World.size_drew, World.heap_drewN]; omega) | (simp; done) | (simp; omega))) _) | (with_reducible refine Fr.trans ?_ (by with_reducible assumption)))⟩
  have he : s.toList.isEmpty = true := by rw [empty_iff, decide_eq_true (by omega)]
  go_enter Try.func24, Try.ntmps24
  go_wp2_with (go_at_call 84; refine (l01In_any _ _ _ _).mono ?_; rintro e w1 ⟨rfl, rfl⟩)
  go_loopw [4] (fun i wr => ∃ k : Nat, k ≤ ws.length ∧ i = .int .i64 k ∧ Hid (∀ j, j < k → walkK ws j = true) ∧ Box wr w.heap.size #[.int .i64 2, .int .i64 a, .int .i64 n, .bool false, .slice ao ws.length ca, .string s] 38 ∧ Fr w wr) (fun i _ => ws.length - (intOf i).toNat)
  case atStart => exact ⟨0, Nat.zero_le _, rfl, Lib.hid (fun j hj => absurd hj (by omega)), Box.new _ _ _, by repeat (first | (with_reducible exact Fr.refl _) | (with_reducible assumption) | (with_reducible refine Fr.drewN ?_ _) | (with_reducible refine Fr.drew ?_) | (with_reducible refine Fr.alloc ?_ _) | (with_reducible refine Fr.setCell ?_ (by (first | (with_reducible assumption) | omega | (simp only [World.size_alloc, World.size_setCell, World.size_drew, World.heap_drewN]; omega) | (simp; done) | (simp; omega))) _) | (with_reducible refine Fr.trans ?_ (by with_reducible assumption)))⟩
  case round =>
    obtain ⟨k, hk, rfl, hj, BX, hfr⟩ := hrel
    have FX := BX.facts
    by_cases hlt : k < ws.length
    · obtain ⟨rfl, hba, fa⟩ := FA.out (by omega)
      obtain ⟨g0, g1, g2, g3⟩ := fa k hlt
      have hwk : walkK ws k = walkB (walkAt ws k).f0 (walkAt ws k).f1 (walkAt ws k).f2 (walkAt ws k).f3 := rfl
      obtain ⟨x, hx⟩ : ∃ x, walkAt ws k = x := ⟨_, rfl⟩
      rw [hx] at g0 g1 g2 g3 hwk
      have c0 := (hfr.cell (p := ⟨ba, _, none⟩) hba).trans g0
      have c1 := (hfr.cell (p := ⟨ba, _, none⟩) hba).trans g1
      have c2 := (hfr.cell (p := ⟨ba, _, none⟩) hba).trans g2
      have c3 := (hfr.cell (p := ⟨ba, _, none⟩) hba).trans g3
      clear g0 g1 g2 g3 fa hx
      obtain ⟨x0, x1, x2, x3⟩ := x
      simp only [] at c0 c1 c2 c3 hwk
      cases hB : walkB x0 x1 x2 x3
      · have CT : Hid (∀ w', Calls Try.prog 76 #[.agg #[.int .i64 x0, .int .i64 x1, .int .i64 x2, .int .i64 x3]] w' fun e w'' => e = .returned (.bool false) ∧ Fr w' w'') := Lib.hid fun w' => by rw [← hB]; exact CK.out _ _ _ _ _
        obtain rfl : wq = false := HW.out.symm.trans (rng_not_all hlt (hwk.trans hB))
        clear hB hwk
        go_wp2_with (go_at_call 76; refine (CT.out _).mono ?_; rintro e w1 ⟨rfl, hf1⟩)
        go_ret
        have eN := HN.out
        have eA := HA.out
        exact ⟨ret_bool (by rw [← HL.out, Bool.eq_iff_iff]; (try simp only [Bool.and_eq_true, decide_eq_true_eq, Bool.not_false, Bool.not_true, Bool.false_eq_true, beq_iff_eq, true_and, and_true, false_and, and_false, iff_false, false_iff, true_iff, iff_true, Int.natCast_eq_zero, not_false_eq_true, eN, eA]) <;> omega), by repeat (first | (with_reducible exact Fr.refl _) | (with_reducible assumption) | (with_reducible refine Fr.drewN ?_ _) | (with_reducible refine Fr.drew ?_) | (with_reducible refine Fr.alloc ?_ _) | (with_reducible refine Fr.setCell ?_ (by (first | (with_reducible assumption) | omega | (simp only [World.size_alloc, World.size_setCell, World.size_drew, World.heap_drewN]; omega) | (simp; done) | (simp; omega))) _) | (with_reducible refine Fr.trans ?_ (by with_reducible assumption)))⟩
      · have CT : Hid (∀ w', Calls Try.prog 76 #[.agg #[.int .i64 x0, .int .i64 x1, .int .i64 x2, .int .i64 x3]] w' fun e w'' => e = .returned (.bool true) ∧ Fr w' w'') := Lib.hid fun w' => by rw [← hB]; exact CK.out _ _ _ _ _
        have hF : Hid (walkK ws k = true) := Lib.hid (hwk.trans hB)
        clear hB hwk
        go_wp2_with (go_at_call 76; refine (CT.out _).mono ?_; rintro e w1 ⟨rfl, hf1⟩)
        go_roundw
        case rel => exact ⟨k + 1, by omega, by go_num, Lib.hid (fun j h => by rcases Nat.lt_succ_iff_lt_or_eq.1 h with h | rfl; exact hj.out j h; exact hF.out), BX.fr (by repeat (first | (with_reducible exact Fr.refl _) | (with_reducible assumption) | (with_reducible refine Fr.drewN ?_ _) | (with_reducible refine Fr.drew ?_) | (with_reducible refine Fr.alloc ?_ _) | (with_reducible refine Fr.setCell ?_ (by (first | (with_reducible assumption) | omega | (simp only [World.size_alloc, World.size_setCell, World.size_drew, World.heap_drewN]; omega) | (simp; done) | (simp; omega))) _) | (with_reducible refine Fr.trans ?_ (by with_reducible assumption)))), by repeat (first | (with_reducible exact Fr.refl _) | (with_reducible assumption) | (with_reducible refine Fr.drewN ?_ _) | (with_reducible refine Fr.drew ?_) | (with_reducible refine Fr.alloc ?_ _) | (with_reducible refine Fr.setCell ?_ (by (first | (with_reducible assumption) | omega | (simp only [World.size_alloc, World.size_setCell, World.size_drew, World.heap_drewN]; omega) | (simp; done) | (simp; omega))) _) | (with_reducible refine Fr.trans ?_ (by with_reducible assumption)))⟩
        case measure => (simp [intOf]; omega)
    · obtain rfl : wq = true := HW.out.symm.trans (rng_all (n := ws.length) (fun j h => hj.out j (by omega)))
      go_wp2_with (go_at_call 84; refine (l01In_any _ _ _ _).mono ?_; rintro e w1 ⟨rfl, rfl⟩)
      go_ret
      have eN := HN.out
      have eA := HA.out
      exact ⟨ret_bool (by rw [← HL.out, Bool.eq_iff_iff]; (try simp only [Bool.and_eq_true, decide_eq_true_eq, Bool.not_false, Bool.not_true, Bool.false_eq_true, beq_iff_eq, true_and, and_true, false_and, and_false, iff_false, false_iff, true_iff, iff_true, Int.natCast_eq_zero, not_false_eq_true, eN, eA]) <;> omega), by repeat (first | (with_reducible exact Fr.refl _) | (with_reducible assumption) | (with_reducible refine Fr.drewN ?_ _) | (with_reducible refine Fr.drew ?_) | (with_reducible refine Fr.alloc ?_ _) | (with_reducible refine Fr.setCell ?_ (by (first | (with_reducible assumption) | omega | (simp only [World.size_alloc, World.size_setCell, World.size_drew, World.heap_drewN]; omega) | (simp; done) | (simp; omega))) _) | (with_reducible refine Fr.trans ?_ (by with_reducible assumption)))⟩
set_option maxHeartbeats 4000000 in
set_option maxRecDepth 100000 in
theorem specLet3 (ao : Option Addr) (ca : Nat) (a n : Int) (b : Bool) (ws : List WalkR) (s : ByteArray) (w : World) (hu : WalksR w (.slice ao ws.length ca) ws) (hs : s.size ≤ 1048576) :
    Calls Try.prog 24 #[.agg #[.int .i64 3, .int .i64 a, .int .i64 n, .bool b, .slice ao ws.length ca, .string s]] w fun e w' => e = .returned (.bool (letB ⟨3, a, n, b, ws, s⟩)) ∧ Fr w w' := by
  have HU := Lib.hid hu
  have hl := hu.le
  obtain ⟨wq, hwq⟩ : ∃ wq, walksB ws = wq := ⟨_, rfl⟩
  obtain ⟨r, hr⟩ : ∃ r, rbS s = r := ⟨_, rfl⟩
  obtain ⟨p, hp⟩ : ∃ p, letB ⟨3, a, n, b, ws, s⟩ = p := ⟨_, rfl⟩
  have HL : Hid ((decide (a = 0) && decide (ws.length = 0) && decide (s.size = 0) && decide (-100000 ≤ n ∧ n ≤ 100000)) = p) := Lib.hid (by subst hp; subst hwq; subst hr; rfl)
  rw [hp]
  have HW := Lib.hid hwq
  have CK : Hid (∀ x0 x1 x2 x3 w', Calls Try.prog 76 #[.agg #[.int .i64 x0, .int .i64 x1, .int .i64 x2, .int .i64 x3]] w' fun e w'' => e = .returned (.bool (walkB x0 x1 x2 x3)) ∧ Fr w' w'') := Lib.hid fun x0 x1 x2 x3 w' => specWalkOk_any _ _ _ _ _
  clear hp hwq hr
  obtain ⟨_, ba, oa, _, hv, hca, hma, fa⟩ := hu.one
  cases hv
  have FA := Lib.hid fa
  clear hu fa
  by_cases hT : s.size ≤ 6000
  rotate_left
  · skip
    go_enter Try.func24, Try.ntmps24
    go_wp2_with (go_at_call 84; refine (l01In_any _ _ _ _).mono ?_; rintro e w1 ⟨rfl, rfl⟩)
    go_ret
    exact ⟨ret_bool (by rw [← HL.out, Bool.eq_iff_iff]; (try simp only [Bool.and_eq_true, decide_eq_true_eq, Bool.not_false, Bool.not_true, Bool.false_eq_true, beq_iff_eq, true_and, and_true, false_and, and_false, iff_false, false_iff, true_iff, iff_true, Int.natCast_eq_zero, not_false_eq_true, and_self]) <;> omega), by repeat (first | (with_reducible exact Fr.refl _) | (with_reducible assumption) | (with_reducible refine Fr.drewN ?_ _) | (with_reducible refine Fr.drew ?_) | (with_reducible refine Fr.alloc ?_ _) | (with_reducible refine Fr.setCell ?_ (by (first | (with_reducible assumption) | omega | (simp only [World.size_alloc, World.size_setCell, World.size_drew, World.heap_drewN]; omega) | (simp; done) | (simp; omega))) _) | (with_reducible refine Fr.trans ?_ (by with_reducible assumption)))⟩
  by_cases hL : ws.length ≤ 0
  rotate_left
  · skip
    go_enter Try.func24, Try.ntmps24
    go_wp2_with (go_at_call 84; refine (l01In_any _ _ _ _).mono ?_; rintro e w1 ⟨rfl, rfl⟩)
    go_ret
    exact ⟨ret_bool (by rw [← HL.out, Bool.eq_iff_iff]; (try simp only [Bool.and_eq_true, decide_eq_true_eq, Bool.not_false, Bool.not_true, Bool.false_eq_true, beq_iff_eq, true_and, and_true, false_and, and_false, iff_false, false_iff, true_iff, iff_true, Int.natCast_eq_zero, not_false_eq_true, and_self]) <;> omega), by repeat (first | (with_reducible exact Fr.refl _) | (with_reducible assumption) | (with_reducible refine Fr.drewN ?_ _) | (with_reducible refine Fr.drew ?_) | (with_reducible refine Fr.alloc ?_ _) | (with_reducible refine Fr.setCell ?_ (by (first | (with_reducible assumption) | omega | (simp only [World.size_alloc, World.size_setCell, World.size_drew, World.heap_drewN]; omega) | (simp; done) | (simp; omega))) _) | (with_reducible refine Fr.trans ?_ (by with_reducible assumption)))⟩
  cases b
  · skip
    by_cases hA : a = 0
    rotate_left
    · skip
      have qA : (a != 0) = true := by simpa using hA
      have HA := Lib.hid hA
      clear hA
      go_enter Try.func24, Try.ntmps24
      go_wp2_with (go_at_call 84; refine (l01In_any _ _ _ _).mono ?_; rintro e w1 ⟨rfl, rfl⟩)
      go_ret
      have eA := HA.out
      exact ⟨ret_bool (by rw [← HL.out, Bool.eq_iff_iff]; (try simp only [Bool.and_eq_true, decide_eq_true_eq, Bool.not_false, Bool.not_true, Bool.false_eq_true, beq_iff_eq, true_and, and_true, false_and, and_false, iff_false, false_iff, true_iff, iff_true, Int.natCast_eq_zero, not_false_eq_true, eA]) <;> omega), by repeat (first | (with_reducible exact Fr.refl _) | (with_reducible assumption) | (with_reducible refine Fr.drewN ?_ _) | (with_reducible refine Fr.drew ?_) | (with_reducible refine Fr.alloc ?_ _) | (with_reducible refine Fr.setCell ?_ (by (first | (with_reducible assumption) | omega | (simp only [World.size_alloc, World.size_setCell, World.size_drew, World.heap_drewN]; omega) | (simp; done) | (simp; omega))) _) | (with_reducible refine Fr.trans ?_ (by with_reducible assumption)))⟩
    have qA : (a != 0) = false := by simpa using hA
    have HA := Lib.hid hA
    clear hA
    by_cases hS : s.size ≤ 0
    rotate_left
    · skip
      have he : s.toList.isEmpty = false := by rw [empty_iff, decide_eq_false (by omega)]
      go_enter Try.func24, Try.ntmps24
      go_wp2_with (go_at_call 84; refine (l01In_any _ _ _ _).mono ?_; rintro e w1 ⟨rfl, rfl⟩)
      go_ret
      have eA := HA.out
      exact ⟨ret_bool (by rw [← HL.out, Bool.eq_iff_iff]; (try simp only [Bool.and_eq_true, decide_eq_true_eq, Bool.not_false, Bool.not_true, Bool.false_eq_true, beq_iff_eq, true_and, and_true, false_and, and_false, iff_false, false_iff, true_iff, iff_true, Int.natCast_eq_zero, not_false_eq_true, eA]) <;> omega), by repeat (first | (with_reducible exact Fr.refl _) | (with_reducible assumption) | (with_reducible refine Fr.drewN ?_ _) | (with_reducible refine Fr.drew ?_) | (with_reducible refine Fr.alloc ?_ _) | (with_reducible refine Fr.setCell ?_ (by (first | (with_reducible assumption) | omega | (simp only [World.size_alloc, World.size_setCell, World.size_drew, World.heap_drewN]; omega) | (simp; done) | (simp; omega))) _) | (with_reducible refine Fr.trans ?_ (by with_reducible assumption)))⟩
    have he : s.toList.isEmpty = true := by rw [empty_iff, decide_eq_true (by omega)]
    go_enter Try.func24, Try.ntmps24
    go_wp2_with (go_at_call 84; refine (l01In_any _ _ _ _).mono ?_; rintro e w1 ⟨rfl, rfl⟩)
    go_loopw [4] (fun i wr => ∃ k : Nat, k ≤ ws.length ∧ i = .int .i64 k ∧ Hid (∀ j, j < k → walkK ws j = true) ∧ Box wr w.heap.size #[.int .i64 3, .int .i64 a, .int .i64 n, .bool false, .slice ao ws.length ca, .string s] 38 ∧ Fr w wr) (fun i _ => ws.length - (intOf i).toNat)
    case atStart => exact ⟨0, Nat.zero_le _, rfl, Lib.hid (fun j hj => absurd hj (by omega)), Box.new _ _ _, by repeat (first | (with_reducible exact Fr.refl _) | (with_reducible assumption) | (with_reducible refine Fr.drewN ?_ _) | (with_reducible refine Fr.drew ?_) | (with_reducible refine Fr.alloc ?_ _) | (with_reducible refine Fr.setCell ?_ (by (first | (with_reducible assumption) | omega | (simp only [World.size_alloc, World.size_setCell, World.size_drew, World.heap_drewN]; omega) | (simp; done) | (simp; omega))) _) | (with_reducible refine Fr.trans ?_ (by with_reducible assumption)))⟩
    case round =>
      obtain ⟨k, hk, rfl, hj, BX, hfr⟩ := hrel
      have FX := BX.facts
      go_wp2_with (go_at_call 84; refine (l01In_any _ _ _ _).mono ?_; rintro e w1 ⟨rfl, rfl⟩)
      go_ret
      have eA := HA.out
      exact ⟨ret_bool (by rw [← HL.out, Bool.eq_iff_iff]; (try simp only [Bool.and_eq_true, decide_eq_true_eq, Bool.not_false, Bool.not_true, Bool.false_eq_true, beq_iff_eq, true_and, and_true, false_and, and_false, iff_false, false_iff, true_iff, iff_true, Int.natCast_eq_zero, not_false_eq_true, eA]) <;> omega), by repeat (first | (with_reducible exact Fr.refl _) | (with_reducible assumption) | (with_reducible refine Fr.drewN ?_ _) | (with_reducible refine Fr.drew ?_) | (with_reducible refine Fr.alloc ?_ _) | (with_reducible refine Fr.setCell ?_ (by (first | (with_reducible assumption) | omega | (simp only [World.size_alloc, World.size_setCell, World.size_drew, World.heap_drewN]; omega) | (simp; done) | (simp; omega))) _) | (with_reducible refine Fr.trans ?_ (by with_reducible assumption)))⟩
  · skip
    by_cases hA : a = 0
    rotate_left
    · skip
      have qA : (a != 0) = true := by simpa using hA
      have HA := Lib.hid hA
      clear hA
      go_enter Try.func24, Try.ntmps24
      go_wp2_with (go_at_call 84; refine (l01In_any _ _ _ _).mono ?_; rintro e w1 ⟨rfl, rfl⟩)
      go_ret
      have eA := HA.out
      exact ⟨ret_bool (by rw [← HL.out, Bool.eq_iff_iff]; (try simp only [Bool.and_eq_true, decide_eq_true_eq, Bool.not_false, Bool.not_true, Bool.false_eq_true, beq_iff_eq, true_and, and_true, false_and, and_false, iff_false, false_iff, true_iff, iff_true, Int.natCast_eq_zero, not_false_eq_true, eA]) <;> omega), by repeat (first | (with_reducible exact Fr.refl _) | (with_reducible assumption) | (with_reducible refine Fr.drewN ?_ _) | (with_reducible refine Fr.drew ?_) | (with_reducible refine Fr.alloc ?_ _) | (with_reducible refine Fr.setCell ?_ (by (first | (with_reducible assumption) | omega | (simp only [World.size_alloc, World.size_setCell, World.size_drew, World.heap_drewN]; omega) | (simp; done) | (simp; omega))) _) | (with_reducible refine Fr.trans ?_ (by with_reducible assumption)))⟩
    have qA : (a != 0) = false := by simpa using hA
    have HA := Lib.hid hA
    clear hA
    by_cases hS : s.size ≤ 0
    rotate_left
    · skip
      have he : s.toList.isEmpty = false := by rw [empty_iff, decide_eq_false (by omega)]
      go_enter Try.func24, Try.ntmps24
      go_wp2_with (go_at_call 84; refine (l01In_any _ _ _ _).mono ?_; rintro e w1 ⟨rfl, rfl⟩)
      go_ret
      have eA := HA.out
      exact ⟨ret_bool (by rw [← HL.out, Bool.eq_iff_iff]; (try simp only [Bool.and_eq_true, decide_eq_true_eq, Bool.not_false, Bool.not_true, Bool.false_eq_true, beq_iff_eq, true_and, and_true, false_and, and_false, iff_false, false_iff, true_iff, iff_true, Int.natCast_eq_zero, not_false_eq_true, eA]) <;> omega), by repeat (first | (with_reducible exact Fr.refl _) | (with_reducible assumption) | (with_reducible refine Fr.drewN ?_ _) | (with_reducible refine Fr.drew ?_) | (with_reducible refine Fr.alloc ?_ _) | (with_reducible refine Fr.setCell ?_ (by (first | (with_reducible assumption) | omega | (simp only [World.size_alloc, World.size_setCell, World.size_drew, World.heap_drewN]; omega) | (simp; done) | (simp; omega))) _) | (with_reducible refine Fr.trans ?_ (by with_reducible assumption)))⟩
    have he : s.toList.isEmpty = true := by rw [empty_iff, decide_eq_true (by omega)]
    go_enter Try.func24, Try.ntmps24
    go_wp2_with (go_at_call 84; refine (l01In_any _ _ _ _).mono ?_; rintro e w1 ⟨rfl, rfl⟩)
    go_loopw [4] (fun i wr => ∃ k : Nat, k ≤ ws.length ∧ i = .int .i64 k ∧ Hid (∀ j, j < k → walkK ws j = true) ∧ Box wr w.heap.size #[.int .i64 3, .int .i64 a, .int .i64 n, .bool true, .slice ao ws.length ca, .string s] 38 ∧ Fr w wr) (fun i _ => ws.length - (intOf i).toNat)
    case atStart => exact ⟨0, Nat.zero_le _, rfl, Lib.hid (fun j hj => absurd hj (by omega)), Box.new _ _ _, by repeat (first | (with_reducible exact Fr.refl _) | (with_reducible assumption) | (with_reducible refine Fr.drewN ?_ _) | (with_reducible refine Fr.drew ?_) | (with_reducible refine Fr.alloc ?_ _) | (with_reducible refine Fr.setCell ?_ (by (first | (with_reducible assumption) | omega | (simp only [World.size_alloc, World.size_setCell, World.size_drew, World.heap_drewN]; omega) | (simp; done) | (simp; omega))) _) | (with_reducible refine Fr.trans ?_ (by with_reducible assumption)))⟩
    case round =>
      obtain ⟨k, hk, rfl, hj, BX, hfr⟩ := hrel
      have FX := BX.facts
      go_wp2_with (go_at_call 84; refine (l01In_any _ _ _ _).mono ?_; rintro e w1 ⟨rfl, rfl⟩)
      go_ret
      have eA := HA.out
      exact ⟨ret_bool (by rw [← HL.out, Bool.eq_iff_iff]; (try simp only [Bool.and_eq_true, decide_eq_true_eq, Bool.not_false, Bool.not_true, Bool.false_eq_true, beq_iff_eq, true_and, and_true, false_and, and_false, iff_false, false_iff, true_iff, iff_true, Int.natCast_eq_zero, not_false_eq_true, eA]) <;> omega), by repeat (first | (with_reducible exact Fr.refl _) | (with_reducible assumption) | (with_reducible refine Fr.drewN ?_ _) | (with_reducible refine Fr.drew ?_) | (with_reducible refine Fr.alloc ?_ _) | (with_reducible refine Fr.setCell ?_ (by (first | (with_reducible assumption) | omega | (simp only [World.size_alloc, World.size_setCell, World.size_drew, World.heap_drewN]; omega) | (simp; done) | (simp; omega))) _) | (with_reducible refine Fr.trans ?_ (by with_reducible assumption)))⟩
set_option maxHeartbeats 4000000 in
set_option maxRecDepth 100000 in
theorem specLet4 (ao : Option Addr) (ca : Nat) (a n : Int) (b : Bool) (ws : List WalkR) (s : ByteArray) (w : World) (hu : WalksR w (.slice ao ws.length ca) ws) (hs : s.size ≤ 1048576) :
    Calls Try.prog 24 #[.agg #[.int .i64 4, .int .i64 a, .int .i64 n, .bool b, .slice ao ws.length ca, .string s]] w fun e w' => e = .returned (.bool (letB ⟨4, a, n, b, ws, s⟩)) ∧ Fr w w' := by
  have HU := Lib.hid hu
  have hl := hu.le
  obtain ⟨wq, hwq⟩ : ∃ wq, walksB ws = wq := ⟨_, rfl⟩
  obtain ⟨r, hr⟩ : ∃ r, rbS s = r := ⟨_, rfl⟩
  obtain ⟨p, hp⟩ : ∃ p, letB ⟨4, a, n, b, ws, s⟩ = p := ⟨_, rfl⟩
  have HL : Hid ((decide (n = 0) && !b && decide (a = 0) && decide (ws.length = 0) && decide (s.size = 0)) = p) := Lib.hid (by subst hp; subst hwq; subst hr; rfl)
  rw [hp]
  have HW := Lib.hid hwq
  have CK : Hid (∀ x0 x1 x2 x3 w', Calls Try.prog 76 #[.agg #[.int .i64 x0, .int .i64 x1, .int .i64 x2, .int .i64 x3]] w' fun e w'' => e = .returned (.bool (walkB x0 x1 x2 x3)) ∧ Fr w' w'') := Lib.hid fun x0 x1 x2 x3 w' => specWalkOk_any _ _ _ _ _
  clear hp hwq hr
  obtain ⟨_, ba, oa, _, hv, hca, hma, fa⟩ := hu.one
  cases hv
  have FA := Lib.hid fa
  clear hu fa
  by_cases hT : s.size ≤ 6000
  rotate_left
  · skip
    go_enter Try.func24, Try.ntmps24
    go_wp2_with (go_at_call 84; refine (l01In_any _ _ _ _).mono ?_; rintro e w1 ⟨rfl, rfl⟩)
    go_ret
    exact ⟨ret_bool (by rw [← HL.out, Bool.eq_iff_iff]; (try simp only [Bool.and_eq_true, decide_eq_true_eq, Bool.not_false, Bool.not_true, Bool.false_eq_true, beq_iff_eq, true_and, and_true, false_and, and_false, iff_false, false_iff, true_iff, iff_true, Int.natCast_eq_zero, not_false_eq_true, and_self]) <;> omega), by repeat (first | (with_reducible exact Fr.refl _) | (with_reducible assumption) | (with_reducible refine Fr.drewN ?_ _) | (with_reducible refine Fr.drew ?_) | (with_reducible refine Fr.alloc ?_ _) | (with_reducible refine Fr.setCell ?_ (by (first | (with_reducible assumption) | omega | (simp only [World.size_alloc, World.size_setCell, World.size_drew, World.heap_drewN]; omega) | (simp; done) | (simp; omega))) _) | (with_reducible refine Fr.trans ?_ (by with_reducible assumption)))⟩
  by_cases hL : ws.length ≤ 0
  rotate_left
  · skip
    go_enter Try.func24, Try.ntmps24
    go_wp2_with (go_at_call 84; refine (l01In_any _ _ _ _).mono ?_; rintro e w1 ⟨rfl, rfl⟩)
    go_ret
    exact ⟨ret_bool (by rw [← HL.out, Bool.eq_iff_iff]; (try simp only [Bool.and_eq_true, decide_eq_true_eq, Bool.not_false, Bool.not_true, Bool.false_eq_true, beq_iff_eq, true_and, and_true, false_and, and_false, iff_false, false_iff, true_iff, iff_true, Int.natCast_eq_zero, not_false_eq_true, and_self]) <;> omega), by repeat (first | (with_reducible exact Fr.refl _) | (with_reducible assumption) | (with_reducible refine Fr.drewN ?_ _) | (with_reducible refine Fr.drew ?_) | (with_reducible refine Fr.alloc ?_ _) | (with_reducible refine Fr.setCell ?_ (by (first | (with_reducible assumption) | omega | (simp only [World.size_alloc, World.size_setCell, World.size_drew, World.heap_drewN]; omega) | (simp; done) | (simp; omega))) _) | (with_reducible refine Fr.trans ?_ (by with_reducible assumption)))⟩
  by_cases hN : n = 0
  rotate_left
  · skip
    have qN : (n != 0) = true := by simpa using hN
    have HN := Lib.hid hN
    clear hN
    go_enter Try.func24, Try.ntmps24
    go_wp2_with (go_at_call 84; refine (l01In_any _ _ _ _).mono ?_; rintro e w1 ⟨rfl, rfl⟩)
    go_ret
    have eN := HN.out
    exact ⟨ret_bool (by rw [← HL.out, Bool.eq_iff_iff]; (try simp only [Bool.and_eq_true, decide_eq_true_eq, Bool.not_false, Bool.not_true, Bool.false_eq_true, beq_iff_eq, true_and, and_true, false_and, and_false, iff_false, false_iff, true_iff, iff_true, Int.natCast_eq_zero, not_false_eq_true, eN]) <;> omega), by repeat (first | (with_reducible exact Fr.refl _) | (with_reducible assumption) | (with_reducible refine Fr.drewN ?_ _) | (with_reducible refine Fr.drew ?_) | (with_reducible refine Fr.alloc ?_ _) | (with_reducible refine Fr.setCell ?_ (by (first | (with_reducible assumption) | omega | (simp only [World.size_alloc, World.size_setCell, World.size_drew, World.heap_drewN]; omega) | (simp; done) | (simp; omega))) _) | (with_reducible refine Fr.trans ?_ (by with_reducible assumption)))⟩
  have qN : (n != 0) = false := by simpa using hN
  have HN := Lib.hid hN
  clear hN
  cases b
  rotate_left
  · skip
    go_enter Try.func24, Try.ntmps24
    go_wp2_with (go_at_call 84; refine (l01In_any _ _ _ _).mono ?_; rintro e w1 ⟨rfl, rfl⟩)
    go_ret
    have eN := HN.out
    exact ⟨ret_bool (by rw [← HL.out, Bool.eq_iff_iff]; (try simp only [Bool.and_eq_true, decide_eq_true_eq, Bool.not_false, Bool.not_true, Bool.false_eq_true, beq_iff_eq, true_and, and_true, false_and, and_false, iff_false, false_iff, true_iff, iff_true, Int.natCast_eq_zero, not_false_eq_true, eN]) <;> omega), by repeat (first | (with_reducible exact Fr.refl _) | (with_reducible assumption) | (with_reducible refine Fr.drewN ?_ _) | (with_reducible refine Fr.drew ?_) | (with_reducible refine Fr.alloc ?_ _) | (with_reducible refine Fr.setCell ?_ (by (first | (with_reducible assumption) | omega | (simp only [World.size_alloc, World.size_setCell, World.size_drew, World.heap_drewN]; omega) | (simp; done) | (simp; omega))) _) | (with_reducible refine Fr.trans ?_ (by with_reducible assumption)))⟩
  by_cases hA : a = 0
  rotate_left
  · skip
    have qA : (a != 0) = true := by simpa using hA
    have HA := Lib.hid hA
    clear hA
    go_enter Try.func24, Try.ntmps24
    go_wp2_with (go_at_call 84; refine (l01In_any _ _ _ _).mono ?_; rintro e w1 ⟨rfl, rfl⟩)
    go_ret
    have eN := HN.out
    have eA := HA.out
    exact ⟨ret_bool (by rw [← HL.out, Bool.eq_iff_iff]; (try simp only [Bool.and_eq_true, decide_eq_true_eq, Bool.not_false, Bool.not_true, Bool.false_eq_true, beq_iff_eq, true_and, and_true, false_and, and_false, iff_false, false_iff, true_iff, iff_true, Int.natCast_eq_zero, not_false_eq_true, eN, eA]) <;> omega), by repeat (first | (with_reducible exact Fr.refl _) | (with_reducible assumption) | (with_reducible refine Fr.drewN ?_ _) | (with_reducible refine Fr.drew ?_) | (with_reducible refine Fr.alloc ?_ _) | (with_reducible refine Fr.setCell ?_ (by (first | (with_reducible assumption) | omega | (simp only [World.size_alloc, World.size_setCell, World.size_drew, World.heap_drewN]; omega) | (simp; done) | (simp; omega))) _) | (with_reducible refine Fr.trans ?_ (by with_reducible assumption)))⟩
  have qA : (a != 0) = false := by simpa using hA
  have HA := Lib.hid hA
  clear hA
  by_cases hS : s.size ≤ 0
  rotate_left
  · skip
    have he : s.toList.isEmpty = false := by rw [empty_iff, decide_eq_false (by omega)]
    go_enter Try.func24, Try.ntmps24
    go_wp2_with (go_at_call 84; refine (l01In_any _ _ _ _).mono ?_; rintro e w1 ⟨rfl, rfl⟩)
    go_ret
    have eN := HN.out
    have eA := HA.out
    exact ⟨ret_bool (by rw [← HL.out, Bool.eq_iff_iff]; (try simp only [Bool.and_eq_true, decide_eq_true_eq, Bool.not_false, Bool.not_true, Bool.false_eq_true, beq_iff_eq, true_and, and_true, false_and, and_false, iff_false, false_iff, true_iff, iff_true, Int.natCast_eq_zero, not_false_eq_true, eN, eA]) <;> omega), by repeat (first | (with_reducible exact Fr.refl _) | (with_reducible assumption) | (with_reducible refine Fr.drewN ?_ _) | (with_reducible refine Fr.drew ?_) | (with_reducible refine Fr.alloc ?_ _) | (with_reducible refine Fr.setCell ?_ (by (first | (with_reducible assumption) | omega | (simp only [World.size_alloc, World.size_setCell, World.size_drew, World.heap_drewN]; omega) | (simp; done) | (simp; omega))) _) | (with_reducible refine Fr.trans ?_ (by with_reducible assumption)))⟩
  have he : s.toList.isEmpty = true := by rw [empty_iff, decide_eq_true (by omega)]
  go_enter Try.func24, Try.ntmps24
  go_wp2_with (go_at_call 84; refine (l01In_any _ _ _ _).mono ?_; rintro e w1 ⟨rfl, rfl⟩)
  go_loopw [4] (fun i wr => ∃ k : Nat, k ≤ ws.length ∧ i = .int .i64 k ∧ Hid (∀ j, j < k → walkK ws j = true) ∧ Box wr w.heap.size #[.int .i64 4, .int .i64 a, .int .i64 n, .bool false, .slice ao ws.length ca, .string s] 38 ∧ Fr w wr) (fun i _ => ws.length - (intOf i).toNat)
  case atStart => exact ⟨0, Nat.zero_le _, rfl, Lib.hid (fun j hj => absurd hj (by omega)), Box.new _ _ _, by repeat (first | (with_reducible exact Fr.refl _) | (with_reducible assumption) | (with_reducible refine Fr.drewN ?_ _) | (with_reducible refine Fr.drew ?_) | (with_reducible refine Fr.alloc ?_ _) | (with_reducible refine Fr.setCell ?_ (by (first | (with_reducible assumption) | omega | (simp only [World.size_alloc, World.size_setCell, World.size_drew, World.heap_drewN]; omega) | (simp; done) | (simp; omega))) _) | (with_reducible refine Fr.trans ?_ (by with_reducible assumption)))⟩
  case round =>
    obtain ⟨k, hk, rfl, hj, BX, hfr⟩ := hrel
    have FX := BX.facts
    go_wp2_with (go_at_call 84; refine (l01In_any _ _ _ _).mono ?_; rintro e w1 ⟨rfl, rfl⟩)
    go_ret
    have eN := HN.out
    have eA := HA.out
    exact ⟨ret_bool (by rw [← HL.out, Bool.eq_iff_iff]; (try simp only [Bool.and_eq_true, decide_eq_true_eq, Bool.not_false, Bool.not_true, Bool.false_eq_true, beq_iff_eq, true_and, and_true, false_and, and_false, iff_false, false_iff, true_iff, iff_true, Int.natCast_eq_zero, not_false_eq_true, eN, eA]) <;> omega), by repeat (first | (with_reducible exact Fr.refl _) | (with_reducible assumption) | (with_reducible refine Fr.drewN ?_ _) | (with_reducible refine Fr.drew ?_) | (with_reducible refine Fr.alloc ?_ _) | (with_reducible refine Fr.setCell ?_ (by (first | (with_reducible assumption) | omega | (simp only [World.size_alloc, World.size_setCell, World.size_drew, World.heap_drewN]; omega) | (simp; done) | (simp; omega))) _) | (with_reducible refine Fr.trans ?_ (by with_reducible assumption)))⟩
set_option maxHeartbeats 4000000 in
set_option maxRecDepth 100000 in
theorem specLet5 (ao : Option Addr) (ca : Nat) (a n : Int) (b : Bool) (ws : List WalkR) (s : ByteArray) (w : World) (hu : WalksR w (.slice ao ws.length ca) ws) (hs : s.size ≤ 1048576) :
    Calls Try.prog 24 #[.agg #[.int .i64 5, .int .i64 a, .int .i64 n, .bool b, .slice ao ws.length ca, .string s]] w fun e w' => e = .returned (.bool (letB ⟨5, a, n, b, ws, s⟩)) ∧ Fr w w' := by
  have HU := Lib.hid hu
  have hl := hu.le
  obtain ⟨wq, hwq⟩ : ∃ wq, walksB ws = wq := ⟨_, rfl⟩
  obtain ⟨r, hr⟩ : ∃ r, rbS s = r := ⟨_, rfl⟩
  obtain ⟨p, hp⟩ : ∃ p, letB ⟨5, a, n, b, ws, s⟩ = p := ⟨_, rfl⟩
  have HL : Hid ((decide (n = 0) && !b && decide (ws.length = 0) && decide (0 ≤ a ∧ a < 4) && (r && decide (s.size ≤ 6000))) = p) := Lib.hid (by subst hp; subst hwq; subst hr; rfl)
  rw [hp]
  have HW := Lib.hid hwq
  have CK : Hid (∀ x0 x1 x2 x3 w', Calls Try.prog 76 #[.agg #[.int .i64 x0, .int .i64 x1, .int .i64 x2, .int .i64 x3]] w' fun e w'' => e = .returned (.bool (walkB x0 x1 x2 x3)) ∧ Fr w' w'') := Lib.hid fun x0 x1 x2 x3 w' => specWalkOk_any _ _ _ _ _
  have CB : Hid (∀ w', Calls Try.prog 85 #[.string s] w' fun e w'' => ∃ ao n cap, e = .returned (.tuple #[.agg #[.slice ao n cap], .bool r]) ∧ Fr w' w'') := Lib.hid fun w' => by rw [← hr]; exact specReadBag_any s w' hs
  clear hp hwq hr
  obtain ⟨_, ba, oa, _, hv, hca, hma, fa⟩ := hu.one
  cases hv
  have FA := Lib.hid fa
  clear hu fa
  by_cases hT : s.size ≤ 6000
  rotate_left
  · skip
    go_enter Try.func24, Try.ntmps24
    go_wp2_with (go_at_call 84; refine (l01In_any _ _ _ _).mono ?_; rintro e w1 ⟨rfl, rfl⟩)
    go_ret
    exact ⟨ret_bool (by rw [← HL.out, Bool.eq_iff_iff]; (try simp only [Bool.and_eq_true, decide_eq_true_eq, Bool.not_false, Bool.not_true, Bool.false_eq_true, beq_iff_eq, true_and, and_true, false_and, and_false, iff_false, false_iff, true_iff, iff_true, Int.natCast_eq_zero, not_false_eq_true, and_self]) <;> omega), by repeat (first | (with_reducible exact Fr.refl _) | (with_reducible assumption) | (with_reducible refine Fr.drewN ?_ _) | (with_reducible refine Fr.drew ?_) | (with_reducible refine Fr.alloc ?_ _) | (with_reducible refine Fr.setCell ?_ (by (first | (with_reducible assumption) | omega | (simp only [World.size_alloc, World.size_setCell, World.size_drew, World.heap_drewN]; omega) | (simp; done) | (simp; omega))) _) | (with_reducible refine Fr.trans ?_ (by with_reducible assumption)))⟩
  by_cases hL : ws.length ≤ 0
  rotate_left
  · skip
    go_enter Try.func24, Try.ntmps24
    go_wp2_with (go_at_call 84; refine (l01In_any _ _ _ _).mono ?_; rintro e w1 ⟨rfl, rfl⟩)
    go_ret
    exact ⟨ret_bool (by rw [← HL.out, Bool.eq_iff_iff]; (try simp only [Bool.and_eq_true, decide_eq_true_eq, Bool.not_false, Bool.not_true, Bool.false_eq_true, beq_iff_eq, true_and, and_true, false_and, and_false, iff_false, false_iff, true_iff, iff_true, Int.natCast_eq_zero, not_false_eq_true, and_self]) <;> omega), by repeat (first | (with_reducible exact Fr.refl _) | (with_reducible assumption) | (with_reducible refine Fr.drewN ?_ _) | (with_reducible refine Fr.drew ?_) | (with_reducible refine Fr.alloc ?_ _) | (with_reducible refine Fr.setCell ?_ (by (first | (with_reducible assumption) | omega | (simp only [World.size_alloc, World.size_setCell, World.size_drew, World.heap_drewN]; omega) | (simp; done) | (simp; omega))) _) | (with_reducible refine Fr.trans ?_ (by with_reducible assumption)))⟩
  by_cases hN : n = 0
  rotate_left
  · skip
    have qN : (n != 0) = true := by simpa using hN
    have HN := Lib.hid hN
    clear hN
    go_enter Try.func24, Try.ntmps24
    go_wp2_with (go_at_call 84; refine (l01In_any _ _ _ _).mono ?_; rintro e w1 ⟨rfl, rfl⟩)
    go_ret
    have eN := HN.out
    exact ⟨ret_bool (by rw [← HL.out, Bool.eq_iff_iff]; (try simp only [Bool.and_eq_true, decide_eq_true_eq, Bool.not_false, Bool.not_true, Bool.false_eq_true, beq_iff_eq, true_and, and_true, false_and, and_false, iff_false, false_iff, true_iff, iff_true, Int.natCast_eq_zero, not_false_eq_true, eN]) <;> omega), by repeat (first | (with_reducible exact Fr.refl _) | (with_reducible assumption) | (with_reducible refine Fr.drewN ?_ _) | (with_reducible refine Fr.drew ?_) | (with_reducible refine Fr.alloc ?_ _) | (with_reducible refine Fr.setCell ?_ (by (first | (with_reducible assumption) | omega | (simp only [World.size_alloc, World.size_setCell, World.size_drew, World.heap_drewN]; omega) | (simp; done) | (simp; omega))) _) | (with_reducible refine Fr.trans ?_ (by with_reducible assumption)))⟩
  have qN : (n != 0) = false := by simpa using hN
  have HN := Lib.hid hN
  clear hN
  cases b
  rotate_left
  · skip
    go_enter Try.func24, Try.ntmps24
    go_wp2_with (go_at_call 84; refine (l01In_any _ _ _ _).mono ?_; rintro e w1 ⟨rfl, rfl⟩)
    go_ret
    have eN := HN.out
    exact ⟨ret_bool (by rw [← HL.out, Bool.eq_iff_iff]; (try simp only [Bool.and_eq_true, decide_eq_true_eq, Bool.not_false, Bool.not_true, Bool.false_eq_true, beq_iff_eq, true_and, and_true, false_and, and_false, iff_false, false_iff, true_iff, iff_true, Int.natCast_eq_zero, not_false_eq_true, eN]) <;> omega), by repeat (first | (with_reducible exact Fr.refl _) | (with_reducible assumption) | (with_reducible refine Fr.drewN ?_ _) | (with_reducible refine Fr.drew ?_) | (with_reducible refine Fr.alloc ?_ _) | (with_reducible refine Fr.setCell ?_ (by (first | (with_reducible assumption) | omega | (simp only [World.size_alloc, World.size_setCell, World.size_drew, World.heap_drewN]; omega) | (simp; done) | (simp; omega))) _) | (with_reducible refine Fr.trans ?_ (by with_reducible assumption)))⟩
  go_enter Try.func24, Try.ntmps24
  go_wp2_with (go_at_call 84; refine (l01In_any _ _ _ _).mono ?_; rintro e w1 ⟨rfl, rfl⟩)
  go_loopw [4] (fun i wr => ∃ k : Nat, k ≤ ws.length ∧ i = .int .i64 k ∧ Hid (∀ j, j < k → walkK ws j = true) ∧ Box wr w.heap.size #[.int .i64 5, .int .i64 a, .int .i64 n, .bool false, .slice ao ws.length ca, .string s] 38 ∧ Fr w wr) (fun i _ => ws.length - (intOf i).toNat)
  case atStart => exact ⟨0, Nat.zero_le _, rfl, Lib.hid (fun j hj => absurd hj (by omega)), Box.new _ _ _, by repeat (first | (with_reducible exact Fr.refl _) | (with_reducible assumption) | (with_reducible refine Fr.drewN ?_ _) | (with_reducible refine Fr.drew ?_) | (with_reducible refine Fr.alloc ?_ _) | (with_reducible refine Fr.setCell ?_ (by (first | (with_reducible assumption) | omega | (simp only [World.size_alloc, World.size_setCell, World.size_drew, World.heap_drewN]; omega) | (simp; done) | (simp; omega))) _) | (with_reducible refine Fr.trans ?_ (by with_reducible assumption)))⟩
  case round =>
    obtain ⟨k, hk, rfl, hj, BX, hfr⟩ := hrel
    have FX := BX.facts
    go_wp2_with fail
    refine (CB.out _).mono ?_
    rintro e w1 ⟨ao1, n1, cap1, rfl, hf1⟩
    have FX1 := (BX.fr hf1).facts
    clear FX
    cases r
    · go_wp2_with (go_at_call 84; refine (l01In_any _ _ _ _).mono ?_; rintro e w1 ⟨rfl, rfl⟩)
      go_ret
      have eN := HN.out
      exact ⟨ret_bool (by rw [← HL.out, Bool.eq_iff_iff]; (try simp only [Bool.and_eq_true, decide_eq_true_eq, Bool.not_false, Bool.not_true, Bool.false_eq_true, beq_iff_eq, true_and, and_true, false_and, and_false, iff_false, false_iff, true_iff, iff_true, Int.natCast_eq_zero, not_false_eq_true, eN]) <;> omega), by repeat (first | (with_reducible exact Fr.refl _) | (with_reducible assumption) | (with_reducible refine Fr.drewN ?_ _) | (with_reducible refine Fr.drew ?_) | (with_reducible refine Fr.alloc ?_ _) | (with_reducible refine Fr.setCell ?_ (by (first | (with_reducible assumption) | omega | (simp only [World.size_alloc, World.size_setCell, World.size_drew, World.heap_drewN]; omega) | (simp; done) | (simp; omega))) _) | (with_reducible refine Fr.trans ?_ (by with_reducible assumption)))⟩
    · go_wp2_with (go_at_call 84; refine (l01In_any _ _ _ _).mono ?_; rintro e w1 ⟨rfl, rfl⟩)
      go_ret
      have eN := HN.out
      exact ⟨ret_bool (by rw [← HL.out, Bool.eq_iff_iff]; (try simp only [Bool.and_eq_true, decide_eq_true_eq, Bool.not_false, Bool.not_true, Bool.false_eq_true, beq_iff_eq, true_and, and_true, false_and, and_false, iff_false, false_iff, true_iff, iff_true, Int.natCast_eq_zero, not_false_eq_true, eN]) <;> omega), by repeat (first | (with_reducible exact Fr.refl _) | (with_reducible assumption) | (with_reducible refine Fr.drewN ?_ _) | (with_reducible refine Fr.drew ?_) | (with_reducible refine Fr.alloc ?_ _) | (with_reducible refine Fr.setCell ?_ (by (first | (with_reducible assumption) | omega | (simp only [World.size_alloc, World.size_setCell, World.size_drew, World.heap_drewN]; omega) | (simp; done) | (simp; omega))) _) | (with_reducible refine Fr.trans ?_ (by with_reducible assumption)))⟩
set_option maxHeartbeats 4000000 in
set_option maxRecDepth 100000 in
theorem specLet6 (ao : Option Addr) (ca : Nat) (a n : Int) (b : Bool) (ws : List WalkR) (s : ByteArray) (w : World) (hu : WalksR w (.slice ao ws.length ca) ws) (hs : s.size ≤ 1048576) :
    Calls Try.prog 24 #[.agg #[.int .i64 6, .int .i64 a, .int .i64 n, .bool b, .slice ao ws.length ca, .string s]] w fun e w' => e = .returned (.bool (letB ⟨6, a, n, b, ws, s⟩)) ∧ Fr w w' := by
  have HU := Lib.hid hu
  have hl := hu.le
  obtain ⟨wq, hwq⟩ : ∃ wq, walksB ws = wq := ⟨_, rfl⟩
  obtain ⟨r, hr⟩ : ∃ r, rbS s = r := ⟨_, rfl⟩
  obtain ⟨p, hp⟩ : ∃ p, letB ⟨6, a, n, b, ws, s⟩ = p := ⟨_, rfl⟩
  have HL : Hid ((decide (n = 0) && !b && decide (a = 0) && decide (ws.length = 0) && (r && decide (s.size ≤ 6000))) = p) := Lib.hid (by subst hp; subst hwq; subst hr; rfl)
  rw [hp]
  have HW := Lib.hid hwq
  have CK : Hid (∀ x0 x1 x2 x3 w', Calls Try.prog 76 #[.agg #[.int .i64 x0, .int .i64 x1, .int .i64 x2, .int .i64 x3]] w' fun e w'' => e = .returned (.bool (walkB x0 x1 x2 x3)) ∧ Fr w' w'') := Lib.hid fun x0 x1 x2 x3 w' => specWalkOk_any _ _ _ _ _
  have CB : Hid (∀ w', Calls Try.prog 85 #[.string s] w' fun e w'' => ∃ ao n cap, e = .returned (.tuple #[.agg #[.slice ao n cap], .bool r]) ∧ Fr w' w'') := Lib.hid fun w' => by rw [← hr]; exact specReadBag_any s w' hs
  clear hp hwq hr
  obtain ⟨_, ba, oa, _, hv, hca, hma, fa⟩ := hu.one
  cases hv
  have FA := Lib.hid fa
  clear hu fa
  by_cases hT : s.size ≤ 6000
  rotate_left
  · skip
    go_enter Try.func24, Try.ntmps24
    go_wp2_with (go_at_call 84; refine (l01In_any _ _ _ _).mono ?_; rintro e w1 ⟨rfl, rfl⟩)
    go_ret
    exact ⟨ret_bool (by rw [← HL.out, Bool.eq_iff_iff]; (try simp only [Bool.and_eq_true, decide_eq_true_eq, Bool.not_false, Bool.not_true, Bool.false_eq_true, beq_iff_eq, true_and, and_true, false_and, and_false, iff_false, false_iff, true_iff, iff_true, Int.natCast_eq_zero, not_false_eq_true, and_self]) <;> omega), by repeat (first | (with_reducible exact Fr.refl _) | (with_reducible assumption) | (with_reducible refine Fr.drewN ?_ _) | (with_reducible refine Fr.drew ?_) | (with_reducible refine Fr.alloc ?_ _) | (with_reducible refine Fr.setCell ?_ (by (first | (with_reducible assumption) | omega | (simp only [World.size_alloc, World.size_setCell, World.size_drew, World.heap_drewN]; omega) | (simp; done) | (simp; omega))) _) | (with_reducible refine Fr.trans ?_ (by with_reducible assumption)))⟩
  by_cases hL : ws.length ≤ 0
  rotate_left
  · skip
    go_enter Try.func24, Try.ntmps24
    go_wp2_with (go_at_call 84; refine (l01In_any _ _ _ _).mono ?_; rintro e w1 ⟨rfl, rfl⟩)
    go_ret
    exact ⟨ret_bool (by rw [← HL.out, Bool.eq_iff_iff]; (try simp only [Bool.and_eq_true, decide_eq_true_eq, Bool.not_false, Bool.not_true, Bool.false_eq_true, beq_iff_eq, true_and, and_true, false_and, and_false, iff_false, false_iff, true_iff, iff_true, Int.natCast_eq_zero, not_false_eq_true, and_self]) <;> omega), by repeat (first | (with_reducible exact Fr.refl _) | (with_reducible assumption) | (with_reducible refine Fr.drewN ?_ _) | (with_reducible refine Fr.drew ?_) | (with_reducible refine Fr.alloc ?_ _) | (with_reducible refine Fr.setCell ?_ (by (first | (with_reducible assumption) | omega | (simp only [World.size_alloc, World.size_setCell, World.size_drew, World.heap_drewN]; omega) | (simp; done) | (simp; omega))) _) | (with_reducible refine Fr.trans ?_ (by with_reducible assumption)))⟩
  by_cases hN : n = 0
  rotate_left
  · skip
    have qN : (n != 0) = true := by simpa using hN
    have HN := Lib.hid hN
    clear hN
    go_enter Try.func24, Try.ntmps24
    go_wp2_with (go_at_call 84; refine (l01In_any _ _ _ _).mono ?_; rintro e w1 ⟨rfl, rfl⟩)
    go_ret
    have eN := HN.out
    exact ⟨ret_bool (by rw [← HL.out, Bool.eq_iff_iff]; (try simp only [Bool.and_eq_true, decide_eq_true_eq, Bool.not_false, Bool.not_true, Bool.false_eq_true, beq_iff_eq, true_and, and_true, false_and, and_false, iff_false, false_iff, true_iff, iff_true, Int.natCast_eq_zero, not_false_eq_true, eN]) <;> omega), by repeat (first | (with_reducible exact Fr.refl _) | (with_reducible assumption) | (with_reducible refine Fr.drewN ?_ _) | (with_reducible refine Fr.drew ?_) | (with_reducible refine Fr.alloc ?_ _) | (with_reducible refine Fr.setCell ?_ (by (first | (with_reducible assumption) | omega | (simp only [World.size_alloc, World.size_setCell, World.size_drew, World.heap_drewN]; omega) | (simp; done) | (simp; omega))) _) | (with_reducible refine Fr.trans ?_ (by with_reducible assumption)))⟩
  have qN : (n != 0) = false := by simpa using hN
  have HN := Lib.hid hN
  clear hN
  cases b
  rotate_left
  · skip
    go_enter Try.func24, Try.ntmps24
    go_wp2_with (go_at_call 84; refine (l01In_any _ _ _ _).mono ?_; rintro e w1 ⟨rfl, rfl⟩)
    go_ret
    have eN := HN.out
    exact ⟨ret_bool (by rw [← HL.out, Bool.eq_iff_iff]; (try simp only [Bool.and_eq_true, decide_eq_true_eq, Bool.not_false, Bool.not_true, Bool.false_eq_true, beq_iff_eq, true_and, and_true, false_and, and_false, iff_false, false_iff, true_iff, iff_true, Int.natCast_eq_zero, not_false_eq_true, eN]) <;> omega), by repeat (first | (with_reducible exact Fr.refl _) | (with_reducible assumption) | (with_reducible refine Fr.drewN ?_ _) | (with_reducible refine Fr.drew ?_) | (with_reducible refine Fr.alloc ?_ _) | (with_reducible refine Fr.setCell ?_ (by (first | (with_reducible assumption) | omega | (simp only [World.size_alloc, World.size_setCell, World.size_drew, World.heap_drewN]; omega) | (simp; done) | (simp; omega))) _) | (with_reducible refine Fr.trans ?_ (by with_reducible assumption)))⟩
  by_cases hA : a = 0
  rotate_left
  · skip
    have qA : (a != 0) = true := by simpa using hA
    have HA := Lib.hid hA
    clear hA
    go_enter Try.func24, Try.ntmps24
    go_wp2_with (go_at_call 84; refine (l01In_any _ _ _ _).mono ?_; rintro e w1 ⟨rfl, rfl⟩)
    go_ret
    have eN := HN.out
    have eA := HA.out
    exact ⟨ret_bool (by rw [← HL.out, Bool.eq_iff_iff]; (try simp only [Bool.and_eq_true, decide_eq_true_eq, Bool.not_false, Bool.not_true, Bool.false_eq_true, beq_iff_eq, true_and, and_true, false_and, and_false, iff_false, false_iff, true_iff, iff_true, Int.natCast_eq_zero, not_false_eq_true, eN, eA]) <;> omega), by repeat (first | (with_reducible exact Fr.refl _) | (with_reducible assumption) | (with_reducible refine Fr.drewN ?_ _) | (with_reducible refine Fr.drew ?_) | (with_reducible refine Fr.alloc ?_ _) | (with_reducible refine Fr.setCell ?_ (by (first | (with_reducible assumption) | omega | (simp only [World.size_alloc, World.size_setCell, World.size_drew, World.heap_drewN]; omega) | (simp; done) | (simp; omega))) _) | (with_reducible refine Fr.trans ?_ (by with_reducible assumption)))⟩
  have qA : (a != 0) = false := by simpa using hA
  have HA := Lib.hid hA
  clear hA
  go_enter Try.func24, Try.ntmps24
  go_wp2_with (go_at_call 84; refine (l01In_any _ _ _ _).mono ?_; rintro e w1 ⟨rfl, rfl⟩)
  go_loopw [4] (fun i wr => ∃ k : Nat, k ≤ ws.length ∧ i = .int .i64 k ∧ Hid (∀ j, j < k → walkK ws j = true) ∧ Box wr w.heap.size #[.int .i64 6, .int .i64 a, .int .i64 n, .bool false, .slice ao ws.length ca, .string s] 38 ∧ Fr w wr) (fun i _ => ws.length - (intOf i).toNat)
  case atStart => exact ⟨0, Nat.zero_le _, rfl, Lib.hid (fun j hj => absurd hj (by omega)), Box.new _ _ _, by repeat (first | (with_reducible exact Fr.refl _) | (with_reducible assumption) | (with_reducible refine Fr.drewN ?_ _) | (with_reducible refine Fr.drew ?_) | (with_reducible refine Fr.alloc ?_ _) | (with_reducible refine Fr.setCell ?_ (by (first | (with_reducible assumption) | omega | (simp only [World.size_alloc, World.size_setCell, World.size_drew, World.heap_drewN]; omega) | (simp; done) | (simp; omega))) _) | (with_reducible refine Fr.trans ?_ (by with_reducible assumption)))⟩
  case round =>
    obtain ⟨k, hk, rfl, hj, BX, hfr⟩ := hrel
    have FX := BX.facts
    go_wp2_with fail
    refine (CB.out _).mono ?_
    rintro e w1 ⟨ao1, n1, cap1, rfl, hf1⟩
    have FX1 := (BX.fr hf1).facts
    clear FX
    cases r
    · go_wp2_with (go_at_call 84; refine (l01In_any _ _ _ _).mono ?_; rintro e w1 ⟨rfl, rfl⟩)
      go_ret
      have eN := HN.out
      have eA := HA.out
      exact ⟨ret_bool (by rw [← HL.out, Bool.eq_iff_iff]; (try simp only [Bool.and_eq_true, decide_eq_true_eq, Bool.not_false, Bool.not_true, Bool.false_eq_true, beq_iff_eq, true_and, and_true, false_and, and_false, iff_false, false_iff, true_iff, iff_true, Int.natCast_eq_zero, not_false_eq_true, eN, eA]) <;> omega), by repeat (first | (with_reducible exact Fr.refl _) | (with_reducible assumption) | (with_reducible refine Fr.drewN ?_ _) | (with_reducible refine Fr.drew ?_) | (with_reducible refine Fr.alloc ?_ _) | (with_reducible refine Fr.setCell ?_ (by (first | (with_reducible assumption) | omega | (simp only [World.size_alloc, World.size_setCell, World.size_drew, World.heap_drewN]; omega) | (simp; done) | (simp; omega))) _) | (with_reducible refine Fr.trans ?_ (by with_reducible assumption)))⟩
    · go_wp2_with (go_at_call 84; refine (l01In_any _ _ _ _).mono ?_; rintro e w1 ⟨rfl, rfl⟩)
      go_ret
      have eN := HN.out
      have eA := HA.out
      exact ⟨ret_bool (by rw [← HL.out, Bool.eq_iff_iff]; (try simp only [Bool.and_eq_true, decide_eq_true_eq, Bool.not_false, Bool.not_true, Bool.false_eq_true, beq_iff_eq, true_and, and_true, false_and, and_false, iff_false, false_iff, true_iff, iff_true, Int.natCast_eq_zero, not_false_eq_true, eN, eA]) <;> omega), by repeat (first | (with_reducible exact Fr.refl _) | (with_reducible assumption) | (with_reducible refine Fr.drewN ?_ _) | (with_reducible refine Fr.drew ?_) | (with_reducible refine Fr.alloc ?_ _) | (with_reducible refine Fr.setCell ?_ (by (first | (with_reducible assumption) | omega | (simp only [World.size_alloc, World.size_setCell, World.size_drew, World.heap_drewN]; omega) | (simp; done) | (simp; omega))) _) | (with_reducible refine Fr.trans ?_ (by with_reducible assumption)))⟩
theorem specLetterOk_any (v : Value) (x : LetterD) (w : World) (hv : LetterRd w v x) (hs : x.f5.size ≤ 1048576) :
    Calls Try.prog 24 #[v] w fun e w' => e = .returned (.bool (letB x)) ∧ Fr w w' := by
  obtain ⟨u, rfl, hu⟩ := hv
  obtain ⟨ao, ca, rfl, _⟩ := RdS.val hu
  obtain ⟨k, a, n, b, ws, s⟩ := x
  simp only at hs hu ⊢
  by_cases hk : 1 ≤ k ∧ k ≤ 6
  · have hk' : k = 1 ∨ k = 2 ∨ k = 3 ∨ k = 4 ∨ k = 5 ∨ k = 6 := by omega
    rcases hk' with rfl | rfl | rfl | rfl | rfl | rfl
    · exact specLet1 ao ca a n b ws s w hu hs
    · exact specLet2 ao ca a n b ws s w hu hs
    · exact specLet3 ao ca a n b ws s w hu hs
    · exact specLet4 ao ca a n b ws s w hu hs
    · exact specLet5 ao ca a n b ws s w hu hs
    · exact specLet6 ao ca a n b ws s w hu hs
  · have HF : Hid (letB ⟨k, a, n, b, ws, s⟩ = false) := Lib.hid (let_no (x := ⟨k, a, n, b, ws, s⟩) hk)
    have g1 : decide (1 ≤ k ∧ k ≤ 6) = false := by simpa using hk
    have hl := hu.le
    obtain ⟨p, hp⟩ : ∃ p, letB ⟨k, a, n, b, ws, s⟩ = p := ⟨_, rfl⟩
    rw [hp] at HF ⊢
    clear hk hu hp
    go_enter Try.func24, Try.ntmps24
    go_wp2_with (go_at_call 84; refine (l01In_any _ _ _ _).mono ?_; rintro e w1 ⟨rfl, rfl⟩)
    all_goals go_ret
    all_goals exact ⟨ret_bool HF.out.symm, by repeat (first | (with_reducible exact Fr.refl _) | (with_reducible assumption) | (with_reducible refine Fr.drewN ?_ _) | (with_reducible refine Fr.drew ?_) | (with_reducible refine Fr.alloc ?_ _) | (with_reducible refine Fr.setCell ?_ (by (first | (with_reducible assumption) | omega | (simp only [World.size_alloc, World.size_setCell, World.size_drew, World.heap_drewN]; omega) | (simp; done) | (simp; omega))) _) | (with_reducible refine Fr.trans ?_ (by with_reducible assumption)))⟩
end Go.Proofs.Ytphjlecbhbcbcaa
