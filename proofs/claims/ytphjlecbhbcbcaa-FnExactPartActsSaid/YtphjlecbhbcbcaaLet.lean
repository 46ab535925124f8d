/- LetterOk of both. Condition: the letter's text is no longer than the laws allow. -/
import Derived.Test.YtphjlecbhbcbcaaBagRi
import Derived.Test.YtphjlecbhbcbcaaOLetter
namespace Go.Proofs.Ytphjlecbhbcbcaa
open Go.RowKit
set_option linter.unusedVariables false
set_option linter.unusedSimpArgs false
def walkK (ws : List WalkR) (k : Nat) : Bool := walkB (walkAt ws k).f0 (walkAt ws k).f1 (walkAt ws k).f2 (walkAt ws k).f3
def walksB (ws : List WalkR) : Bool := (List.range ws.length).all (walkK ws)
/-- Whether the fields of a letter are right. -/
def letB (x : LetterD) : Bool :=
  let tok := decide (x.f2 = 0) && !x.f3
  if x.f0 = 1 then tok && decide (x.f1 = 0) && decide (x.f4.length = 0) && decide (x.f5.size ≤ 6000)
  else if x.f0 = 2 then tok && decide (x.f1 = 0) && decide (x.f5.size = 0) && (walksB x.f4 && decide (1 ≤ x.f4.length ∧ x.f4.length ≤ 60))
  else if x.f0 = 3 then decide (x.f1 = 0) && decide (x.f4.length = 0) && decide (x.f5.size = 0) && decide (-100000 ≤ x.f2 ∧ x.f2 ≤ 100000)
  else if x.f0 = 4 then tok && decide (x.f1 = 0) && decide (x.f4.length = 0) && decide (x.f5.size = 0)
  else if x.f0 = 5 then tok && decide (x.f4.length = 0) && decide (0 ≤ x.f1 ∧ x.f1 < 4) && (rbS x.f5 && decide (x.f5.size ≤ 6000))
  else if x.f0 = 6 then tok && decide (x.f1 = 0) && decide (x.f4.length = 0) && (rbS x.f5 && decide (x.f5.size ≤ 6000))
  else false
theorem walksB_nil {ws : List WalkR} (h : ws.length = 0) : walksB ws = true := by unfold walksB; rw [h]; rfl
set_option maxHeartbeats 1000000 in
theorem walksOk_any (v : Value) (ws : List WalkR) (w : World) (hv : WalksR w v ws) :
    Calls Try.prog 86 #[v] w fun e w' => e = .returned (.bool (walksB ws && decide (1 ≤ ws.length ∧ ws.length ≤ 60))) ∧ Fr w w' := by
  obtain ⟨ao, ba, oa, ca, rfl, hca, hma, fa⟩ := hv.one
  have FA := Lib.hid fa
  clear hv fa
  go_enter Try.func86, Try.ntmps86
  go_wp2
  go_loopw [4, 7] (fun _ i wr => ∃ k : Nat, k ≤ ws.length ∧ i = .int .i64 k ∧ Hid (∀ j, j < k → walkK ws j = true) ∧ Fr w wr) (fun _ i _ => ws.length - (intOf i).toNat)
  case atStart => exact ⟨0, Nat.zero_le _, rfl, Lib.hid (fun j hj => absurd hj (by omega)), by repeat (first | (with_reducible exact Fr.refl _) | (with_reducible assumption) | (with_reducible refine Fr.drewN ?_ _) | (with_reducible refine Fr.drew ?_) | (with_reducible refine Fr.alloc ?_ _) | (with_reducible refine Fr.setCell ?_ (by (first | (with_reducible assumption) | omega | (simp only [World.size_alloc, World.size_setCell, World.size_drew, World.heap_drewN]; omega) | (simp; done) | (simp; omega))) _) | (with_reducible refine Fr.trans ?_ (by with_reducible assumption)))⟩
  case round =>
    obtain ⟨k, hk, rfl, hj, hfr⟩ := hrel
    have zr := hfr.size
    by_cases hlt : k < ws.length
    · obtain ⟨rfl, hba, fa⟩ := FA.out (by omega)
      obtain ⟨g0, g1, g2, g3⟩ := fa k hlt
      have hwk : walkK ws k = walkB (walkAt ws k).f0 (walkAt ws k).f1 (walkAt ws k).f2 (walkAt ws k).f3 := rfl
      obtain ⟨x, hx⟩ : ∃ x, walkAt ws k = x := ⟨_, rfl⟩
      rw [hx] at g0 g1 g2 g3 hwk
      have c0 := (hfr.cell (p := ⟨ba, _, none⟩) hba).trans g0
      have c1 := (hfr.cell (p := ⟨ba, _, none⟩) hba).trans g1
      have c2 := (hfr.cell (p := ⟨ba, _, none⟩) hba).trans g2
      have c3 := (hfr.cell (p := ⟨ba, _, none⟩) hba).trans g3
      clear g0 g1 g2 g3 fa hx
      obtain ⟨x0, x1, x2, x3⟩ := x
      simp only [] at c0 c1 c2 c3 hwk
      cases hB : walkB x0 x1 x2 x3
      · have CT : Hid (∀ w', Calls Try.prog 75 #[.agg #[.int .i64 x0, .int .i64 x1, .int .i64 x2, .int .i64 x3]] w' fun e w'' => e = .returned (.bool false) ∧ Fr w' w'') := Lib.hid fun w' => by rw [← hB]; exact implWalkOk_any _ _ _ _ _
        have hF : Hid (walksB ws = false) := Lib.hid (rng_not_all hlt (hwk.trans hB))
        clear hB hwk
        go_wp2_with (go_at_call 75; refine (CT.out _).mono ?_; rintro e w1 ⟨rfl, hf1⟩)
        go_ret
        exact ⟨ret_bool (by rw [hF.out]; rfl), by repeat (first | (with_reducible exact Fr.refl _) | (with_reducible assumption) | (with_reducible refine Fr.drewN ?_ _) | (with_reducible refine Fr.drew ?_) | (with_reducible refine Fr.alloc ?_ _) | (with_reducible refine Fr.setCell ?_ (by (first | (with_reducible assumption) | omega | (simp only [World.size_alloc, World.size_setCell, World.size_drew, World.heap_drewN]; omega) | (simp; done) | (simp; omega))) _) | (with_reducible refine Fr.trans ?_ (by with_reducible assumption)))⟩
      · have CT : Hid (∀ w', Calls Try.prog 75 #[.agg #[.int .i64 x0, .int .i64 x1, .int .i64 x2, .int .i64 x3]] w' fun e w'' => e = .returned (.bool true) ∧ Fr w' w'') := Lib.hid fun w' => by rw [← hB]; exact implWalkOk_any _ _ _ _ _
        have hF : Hid (walkK ws k = true) := Lib.hid (hwk.trans hB)
        clear hB hwk
        go_wp2_with (go_at_call 75; refine (CT.out _).mono ?_; rintro e w1 ⟨rfl, hf1⟩)
        go_roundw
        case rel => exact ⟨k + 1, by omega, by go_num, Lib.hid (fun j h => by rcases Nat.lt_succ_iff_lt_or_eq.1 h with h | rfl; exact hj.out j h; exact hF.out), by repeat (first | (with_reducible exact Fr.refl _) | (with_reducible assumption) | (with_reducible refine Fr.drewN ?_ _) | (with_reducible refine Fr.drew ?_) | (with_reducible refine Fr.alloc ?_ _) | (with_reducible refine Fr.setCell ?_ (by (first | (with_reducible assumption) | omega | (simp only [World.size_alloc, World.size_setCell, World.size_drew, World.heap_drewN]; omega) | (simp; done) | (simp; omega))) _) | (with_reducible refine Fr.trans ?_ (by with_reducible assumption)))⟩
        case measure => (simp [intOf]; omega)
    · have hF : Hid (walksB ws = true) := Lib.hid (rng_all (n := ws.length) (fun j h => hj.out j (by omega)))
      by_cases h1 : 1 ≤ ws.length
      · by_cases h2 : ws.length ≤ 60
        · go_wp2
          go_ret
          exact ⟨ret_bool (by first | rfl | (rw [hF.out]; first | rfl | (rw [Bool.true_and, Bool.eq_iff_iff]; simp <;> omega))), by repeat (first | (with_reducible exact Fr.refl _) | (with_reducible assumption) | (with_reducible refine Fr.drewN ?_ _) | (with_reducible refine Fr.drew ?_) | (with_reducible refine Fr.alloc ?_ _) | (with_reducible refine Fr.setCell ?_ (by (first | (with_reducible assumption) | omega | (simp only [World.size_alloc, World.size_setCell, World.size_drew, World.heap_drewN]; omega) | (simp; done) | (simp; omega))) _) | (with_reducible refine Fr.trans ?_ (by with_reducible assumption)))⟩
        · go_wp2
          go_ret
          exact ⟨ret_bool (by first | rfl | (rw [hF.out]; first | rfl | (rw [Bool.true_and, Bool.eq_iff_iff]; simp <;> omega))), by repeat (first | (with_reducible exact Fr.refl _) | (with_reducible assumption) | (with_reducible refine Fr.drewN ?_ _) | (with_reducible refine Fr.drew ?_) | (with_reducible refine Fr.alloc ?_ _) | (with_reducible refine Fr.setCell ?_ (by (first | (with_reducible assumption) | omega | (simp only [World.size_alloc, World.size_setCell, World.size_drew, World.heap_drewN]; omega) | (simp; done) | (simp; omega))) _) | (with_reducible refine Fr.trans ?_ (by with_reducible assumption)))⟩
      · go_wp2
        go_ret
        exact ⟨ret_bool (by first | rfl | (rw [hF.out]; first | rfl | (rw [Bool.true_and, Bool.eq_iff_iff]; simp <;> omega))), by repeat (first | (with_reducible exact Fr.refl _) | (with_reducible assumption) | (with_reducible refine Fr.drewN ?_ _) | (with_reducible refine Fr.drew ?_) | (with_reducible refine Fr.alloc ?_ _) | (with_reducible refine Fr.setCell ?_ (by (first | (with_reducible assumption) | omega | (simp only [World.size_alloc, World.size_setCell, World.size_drew, World.heap_drewN]; omega) | (simp; done) | (simp; omega))) _) | (with_reducible refine Fr.trans ?_ (by with_reducible assumption)))⟩
theorem let_no {x : LetterD} (h : ¬ (1 ≤ x.f0 ∧ x.f0 ≤ 6)) : letB x = false := by
  unfold letB
  rw [if_neg (by omega), if_neg (by omega), if_neg (by omega), if_neg (by omega), if_neg (by omega), if_neg (by omega)]
set_option maxHeartbeats 4000000 in
set_option maxRecDepth 100000 in
theorem implLet1 (ao : Option Addr) (ca : Nat) (a n : Int) (b : Bool) (ws : List WalkR) (s : ByteArray) (w : World) (hu : WalksR w (.slice ao ws.length ca) ws) (hs : s.size ≤ 1048576) :
    Calls Try.prog 26 #[.agg #[.int .i64 1, .int .i64 a, .int .i64 n, .bool b, .slice ao ws.length ca, .string s]] w fun e w' => e = .returned (.bool (letB ⟨1, a, n, b, ws, s⟩)) ∧ Fr w w' := by
  have HU := Lib.hid hu
  have hl := hu.le
  obtain ⟨wq, hwq⟩ : ∃ wq, walksB ws = wq := ⟨_, rfl⟩
  obtain ⟨r, hr⟩ : ∃ r, rbS s = r := ⟨_, rfl⟩
  obtain ⟨p, hp⟩ : ∃ p, letB ⟨1, a, n, b, ws, s⟩ = p := ⟨_, rfl⟩
  have HL : Hid ((decide (n = 0) && !b && decide (a = 0) && decide (ws.length = 0) && decide (s.size ≤ 6000)) = p) := Lib.hid (by subst hp; subst hwq; subst hr; rfl)
  rw [hp]
  have HW := Lib.hid hwq
  clear hp hwq hr hu
  cases b
  all_goals
    go_enter Try.func26, Try.ntmps26
    go_wp2_with fail
    all_goals go_ret
    all_goals exact ⟨ret_bool (by rw [← HL.out, Bool.eq_iff_iff]; (try simp only [Bool.and_eq_true, decide_eq_true_eq, Bool.not_false, Bool.not_true, Bool.false_eq_true, beq_iff_eq, true_and, and_true, false_and, and_false, iff_false, false_iff, true_iff, iff_true, Int.natCast_eq_zero, not_false_eq_true, List.length_eq_zero_iff, List.length_nil, *]) <;> omega), by repeat (first | (with_reducible exact Fr.refl _) | (with_reducible assumption) | (with_reducible refine Fr.drewN ?_ _) | (with_reducible refine Fr.drew ?_) | (with_reducible refine Fr.alloc ?_ _) | (with_reducible refine Fr.setCell ?_ (by (first | (with_reducible assumption) | omega | (simp only [World.size_alloc, World.size_setCell, World.size_drew, World.heap_drewN]; omega) | (simp; done) | (simp; omega))) _) | (with_reducible refine Fr.trans ?_ (by with_reducible assumption)))⟩
set_option maxHeartbeats 4000000 in
set_option maxRecDepth 100000 in
theorem implLet2 (ao : Option Addr) (ca : Nat) (a n : Int) (b : Bool) (ws : List WalkR) (s : ByteArray) (w : World) (hu : WalksR w (.slice ao ws.length ca) ws) (hs : s.size ≤ 1048576) :
    Calls Try.prog 26 #[.agg #[.int .i64 2, .int .i64 a, .int .i64 n, .bool b, .slice ao ws.length ca, .string s]] w fun e w' => e = .returned (.bool (letB ⟨2, a, n, b, ws, s⟩)) ∧ Fr w w' := by
  have HU := Lib.hid hu
  have hl := hu.le
  obtain ⟨wq, hwq⟩ : ∃ wq, walksB ws = wq := ⟨_, rfl⟩
  obtain ⟨r, hr⟩ : ∃ r, rbS s = r := ⟨_, rfl⟩
  obtain ⟨p, hp⟩ : ∃ p, letB ⟨2, a, n, b, ws, s⟩ = p := ⟨_, rfl⟩
  have HL : Hid ((decide (n = 0) && !b && decide (a = 0) && decide (s.size = 0) && (wq && decide (1 ≤ ws.length ∧ ws.length ≤ 60))) = p) := Lib.hid (by subst hp; subst hwq; subst hr; rfl)
  rw [hp]
  have HW := Lib.hid hwq
  have CW : Hid (∀ w', Fr w w' → Calls Try.prog 86 #[.slice ao ws.length ca] w' fun e w'' => e = .returned (.bool (wq && decide (1 ≤ ws.length ∧ ws.length ≤ 60))) ∧ Fr w' w'') := Lib.hid fun w' hf => by rw [← hwq]; exact walksOk_any _ _ _ (HU.out.fr hf)
  obtain ⟨t, ht⟩ : ∃ t, (wq && decide (1 ≤ ws.length ∧ ws.length ≤ 60)) = t := ⟨_, rfl⟩
  rw [ht] at CW HL
  clear hp hwq hr hu ht
  have he := empty_iff s
  by_cases hz : s.size = 0
  · rw [decide_eq_true hz] at he
    cases b <;> cases t
    all_goals
      go_enter Try.func26, Try.ntmps26
      go_wp2_with (go_at_call 86; refine (CW.out _ (by repeat (first | (with_reducible exact Fr.refl _) | (with_reducible assumption) | (with_reducible refine Fr.drewN ?_ _) | (with_reducible refine Fr.drew ?_) | (with_reducible refine Fr.alloc ?_ _) | (with_reducible refine Fr.setCell ?_ (by (first | (with_reducible assumption) | omega | (simp only [World.size_alloc, World.size_setCell, World.size_drew, World.heap_drewN]; omega) | (simp; done) | (simp; omega))) _) | (with_reducible refine Fr.trans ?_ (by with_reducible assumption))))).mono ?_; rintro e w1 ⟨rfl, hf1⟩)
      all_goals go_ret
      all_goals exact ⟨ret_bool (by rw [← HL.out, Bool.eq_iff_iff]; (try simp only [Bool.and_eq_true, decide_eq_true_eq, Bool.not_false, Bool.not_true, Bool.false_eq_true, beq_iff_eq, true_and, and_true, false_and, and_false, iff_false, false_iff, true_iff, iff_true, Int.natCast_eq_zero, not_false_eq_true, List.length_eq_zero_iff, List.length_nil, *]) <;> omega), by repeat (first | (with_reducible exact Fr.refl _) | (with_reducible assumption) | (with_reducible refine Fr.drewN ?_ _) | (with_reducible refine Fr.drew ?_) | (with_reducible refine Fr.alloc ?_ _) | (with_reducible refine Fr.setCell ?_ (by (first | (with_reducible assumption) | omega | (simp only [World.size_alloc, World.size_setCell, World.size_drew, World.heap_drewN]; omega) | (simp; done) | (simp; omega))) _) | (with_reducible refine Fr.trans ?_ (by with_reducible assumption)))⟩
  · rw [decide_eq_false hz] at he
    have hz' : 0 < s.size := by omega
    cases b <;> cases t
    all_goals
      go_enter Try.func26, Try.ntmps26
      go_wp2_with (go_at_call 86; refine (CW.out _ (by repeat (first | (with_reducible exact Fr.refl _) | (with_reducible assumption) | (with_reducible refine Fr.drewN ?_ _) | (with_reducible refine Fr.drew ?_) | (with_reducible refine Fr.alloc ?_ _) | (with_reducible refine Fr.setCell ?_ (by (first | (with_reducible assumption) | omega | (simp only [World.size_alloc, World.size_setCell, World.size_drew, World.heap_drewN]; omega) | (simp; done) | (simp; omega))) _) | (with_reducible refine Fr.trans ?_ (by with_reducible assumption))))).mono ?_; rintro e w1 ⟨rfl, hf1⟩)
      all_goals go_ret
      all_goals exact ⟨ret_bool (by rw [← HL.out, Bool.eq_iff_iff]; (try simp only [Bool.and_eq_true, decide_eq_true_eq, Bool.not_false, Bool.not_true, Bool.false_eq_true, beq_iff_eq, true_and, and_true, false_and, and_false, iff_false, false_iff, true_iff, iff_true, Int.natCast_eq_zero, not_false_eq_true, List.length_eq_zero_iff, List.length_nil, *]) <;> omega), by repeat (first | (with_reducible exact Fr.refl _) | (with_reducible assumption) | (with_reducible refine Fr.drewN ?_ _) | (with_reducible refine Fr.drew ?_) | (with_reducible refine Fr.alloc ?_ _) | (with_reducible refine Fr.setCell ?_ (by (first | (with_reducible assumption) | omega | (simp only [World.size_alloc, World.size_setCell, World.size_drew, World.heap_drewN]; omega) | (simp; done) | (simp; omega))) _) | (with_reducible refine Fr.trans ?_ (by with_reducible assumption)))⟩
set_option maxHeartbeats 4000000 in
set_option maxRecDepth 100000 in
theorem implLet3 (ao : Option Addr) (ca : Nat) (a n : Int) (b : Bool) (ws : List WalkR) (s : ByteArray) (w : World) (hu : WalksR w (.slice ao ws.length ca) ws) (hs : s.size ≤ 1048576) :
    Calls Try.prog 26 #[.agg #[.int .i64 3, .int .i64 a, .int .i64 n, .bool b, .slice ao ws.length ca, .string s]] w fun e w' => e = .returned (.bool (letB ⟨3, a, n, b, ws, s⟩)) ∧ Fr w w' := by
  have HU := Lib.hid hu
  have hl := hu.le
  obtain ⟨wq, hwq⟩ : ∃ wq, walksB ws = wq := ⟨_, rfl⟩
  obtain ⟨r, hr⟩ : ∃ r, rbS s = r := ⟨_, rfl⟩
  obtain ⟨p, hp⟩ : ∃ p, letB ⟨3, a, n, b, ws, s⟩ = p := ⟨_, rfl⟩
  have HL : Hid ((decide (a = 0) && decide (ws.length = 0) && decide (s.size = 0) && decide (-100000 ≤ n ∧ n ≤ 100000)) = p) := Lib.hid (by subst hp; subst hwq; subst hr; rfl)
  rw [hp]
  have HW := Lib.hid hwq
  clear hp hwq hr hu
  have he := empty_iff s
  by_cases hz : s.size = 0
  · rw [decide_eq_true hz] at he
    cases b
    all_goals
      go_enter Try.func26, Try.ntmps26
      go_wp2_with fail
      all_goals go_ret
      all_goals exact ⟨ret_bool (by rw [← HL.out, Bool.eq_iff_iff]; (try simp only [Bool.and_eq_true, decide_eq_true_eq, Bool.not_false, Bool.not_true, Bool.false_eq_true, beq_iff_eq, true_and, and_true, false_and, and_false, iff_false, false_iff, true_iff, iff_true, Int.natCast_eq_zero, not_false_eq_true, List.length_eq_zero_iff, List.length_nil, *]) <;> omega), by repeat (first | (with_reducible exact Fr.refl _) | (with_reducible assumption) | (with_reducible refine Fr.drewN ?_ _) | (with_reducible refine Fr.drew ?_) | (with_reducible refine Fr.alloc ?_ _) | (with_reducible refine Fr.setCell ?_ (by (first | (with_reducible assumption) | omega | (simp only [World.size_alloc, World.size_setCell, World.size_drew, World.heap_drewN]; omega) | (simp; done) | (simp; omega))) _) | (with_reducible refine Fr.trans ?_ (by with_reducible assumption)))⟩
  · rw [decide_eq_false hz] at he
    have hz' : 0 < s.size := by omega
    cases b
    all_goals
      go_enter Try.func26, Try.ntmps26
      go_wp2_with fail
      all_goals go_ret
      all_goals exact ⟨ret_bool (by rw [← HL.out, Bool.eq_iff_iff]; (try simp only [Bool.and_eq_true, decide_eq_true_eq, Bool.not_false, Bool.not_true, Bool.false_eq_true, beq_iff_eq, true_and, and_true, false_and, and_false, iff_false, false_iff, true_iff, iff_true, Int.natCast_eq_zero, not_false_eq_true, List.length_eq_zero_iff, List.length_nil, *]) <;> omega), by repeat (first | (with_reducible exact Fr.refl _) | (with_reducible assumption) | (with_reducible refine Fr.drewN ?_ _) | (with_reducible refine Fr.drew ?_) | (with_reducible refine Fr.alloc ?_ _) | (with_reducible refine Fr.setCell ?_ (by (first | (with_reducible assumption) | omega | (simp only [World.size_alloc, World.size_setCell, World.size_drew, World.heap_drewN]; omega) | (simp; done) | (simp; omega))) _) | (with_reducible refine Fr.trans ?_ (by with_reducible assumption)))⟩
set_option maxHeartbeats 4000000 in
set_option maxRecDepth 100000 in
theorem implLet4 (ao : Option Addr) (ca : Nat) (a n : Int) (b : Bool) (ws : List WalkR) (s : ByteArray) (w : World) (hu : WalksR w (.slice ao ws.length ca) ws) (hs : s.size ≤ 1048576) :
    Calls Try.prog 26 #[.agg #[.int .i64 4, .int .i64 a, .int .i64 n, .bool b, .slice ao ws.length ca, .string s]] w fun e w' => e = .returned (.bool (letB ⟨4, a, n, b, ws, s⟩)) ∧ Fr w w' := by
  have HU := Lib.hid hu
  have hl := hu.le
  obtain ⟨wq, hwq⟩ : ∃ wq, walksB ws = wq := ⟨_, rfl⟩
  obtain ⟨r, hr⟩ : ∃ r, rbS s = r := ⟨_, rfl⟩
  obtain ⟨p, hp⟩ : ∃ p, letB ⟨4, a, n, b, ws, s⟩ = p := ⟨_, rfl⟩
  have HL : Hid ((decide (n = 0) && !b && decide (a = 0) && decide (ws.length = 0) && decide (s.size = 0)) = p) := Lib.hid (by subst hp; subst hwq; subst hr; rfl)
  rw [hp]
  have HW := Lib.hid hwq
  clear hp hwq hr hu
  have he := empty_iff s
  by_cases hz : s.size = 0
  · rw [decide_eq_true hz] at he
    cases b
    all_goals
      go_enter Try.func26, Try.ntmps26
      go_wp2_with fail
      all_goals go_ret
      all_goals exact ⟨ret_bool (by rw [← HL.out, Bool.eq_iff_iff]; (try simp only [Bool.and_eq_true, decide_eq_true_eq, Bool.not_false, Bool.not_true, Bool.false_eq_true, beq_iff_eq, true_and, and_true, false_and, and_false, iff_false, false_iff, true_iff, iff_true, Int.natCast_eq_zero, not_false_eq_true, List.length_eq_zero_iff, List.length_nil, *]) <;> omega), by repeat (first | (with_reducible exact Fr.refl _) | (with_reducible assumption) | (with_reducible refine Fr.drewN ?_ _) | (with_reducible refine Fr.drew ?_) | (with_reducible refine Fr.alloc ?_ _) | (with_reducible refine Fr.setCell ?_ (by (first | (with_reducible assumption) | omega | (simp only [World.size_alloc, World.size_setCell, World.size_drew, World.heap_drewN]; omega) | (simp; done) | (simp; omega))) _) | (with_reducible refine Fr.trans ?_ (by with_reducible assumption)))⟩
  · rw [decide_eq_false hz] at he
    have hz' : 0 < s.size := by omega
    cases b
    all_goals
      go_enter Try.func26, Try.ntmps26
      go_wp2_with fail
      all_goals go_ret
      all_goals exact ⟨ret_bool (by rw [← HL.out, Bool.eq_iff_iff]; (try simp only [Bool.and_eq_true, decide_eq_true_eq, Bool.not_false, Bool.not_true, Bool.false_eq_true, beq_iff_eq, true_and, and_true, false_and, and_false, iff_false, false_iff, true_iff, iff_true, Int.natCast_eq_zero, not_false_eq_true, List.length_eq_zero_iff, List.length_nil, *]) <;> omega), by repeat (first | (with_reducible exact Fr.refl _) | (with_reducible assumption) | (with_reducible refine Fr.drewN ?_ _) | (with_reducible refine Fr.drew ?_) | (with_reducible refine Fr.alloc ?_ _) | (with_reducible refine Fr.setCell ?_ (by (first | (with_reducible assumption) | omega | (simp only [World.size_alloc, World.size_setCell, World.size_drew, World.heap_drewN]; omega) | (simp; done) | (simp; omega))) _) | (with_reducible refine Fr.trans ?_ (by with_reducible assumption)))⟩
set_option maxHeartbeats 4000000 in
set_option maxRecDepth 100000 in
theorem implLet5 (ao : Option Addr) (ca : Nat) (a n : Int) (b : Bool) (ws : List WalkR) (s : ByteArray) (w : World) (hu : WalksR w (.slice ao ws.length ca) ws) (hs : s.size ≤ 1048576) :
    Calls Try.prog 26 #[.agg #[.int .i64 5, .int .i64 a, .int .i64 n, .bool b, .slice ao ws.length ca, .string s]] w fun e w' => e = .returned (.bool (letB ⟨5, a, n, b, ws, s⟩)) ∧ Fr w w' := by
  have HU := Lib.hid hu
  have hl := hu.le
  obtain ⟨wq, hwq⟩ : ∃ wq, walksB ws = wq := ⟨_, rfl⟩
  obtain ⟨r, hr⟩ : ∃ r, rbS s = r := ⟨_, rfl⟩
  obtain ⟨p, hp⟩ : ∃ p, letB ⟨5, a, n, b, ws, s⟩ = p := ⟨_, rfl⟩
  have HL : Hid ((decide (n = 0) && !b && decide (ws.length = 0) && decide (0 ≤ a ∧ a < 4) && (r && decide (s.size ≤ 6000))) = p) := Lib.hid (by subst hp; subst hwq; subst hr; rfl)
  rw [hp]
  have HW := Lib.hid hwq
  have CB : Hid (∀ w', Calls Try.prog 87 #[.string s] w' fun e w'' => e = .returned (.bool (r && decide (s.size ≤ 6000))) ∧ Fr w' w'') := Lib.hid fun w' => by rw [← hr]; exact isBagText_any s w' hs
  obtain ⟨t, ht⟩ : ∃ t, (r && decide (s.size ≤ 6000)) = t := ⟨_, rfl⟩
  rw [ht] at CB HL
  clear hp hwq hr hu ht
  cases b <;> cases t
  all_goals
    go_enter Try.func26, Try.ntmps26
    go_wp2_with (go_at_call 87; refine (CB.out _).mono ?_; rintro e w1 ⟨rfl, hf1⟩)
    all_goals go_ret
    all_goals exact ⟨ret_bool (by rw [← HL.out, Bool.eq_iff_iff]; (try simp only [Bool.and_eq_true, decide_eq_true_eq, Bool.not_false, Bool.not_true, Bool.false_eq_true, beq_iff_eq, true_and, and_true, false_and, and_false, iff_false, false_iff, true_iff, iff_true, Int.natCast_eq_zero, not_false_eq_true, List.length_eq_zero_iff, List.length_nil, *]) <;> omega), by repeat (first | (with_reducible exact Fr.refl _) | (with_reducible assumption) | (with_reducible refine Fr.drewN ?_ _) | (with_reducible refine Fr.drew ?_) | (with_reducible refine Fr.alloc ?_ _) | (with_reducible refine Fr.setCell ?_ (by (first | (with_reducible assumption) | omega | (simp only [World.size_alloc, World.size_setCell, World.size_drew, World.heap_drewN]; omega) | (simp; done) | (simp; omega))) _) | (with_reducible refine Fr.trans ?_ (by with_reducible assumption)))⟩
set_option maxHeartbeats 4000000 in
set_option maxRecDepth 100000 in
theorem implLet6 (ao : Option Addr) (ca : Nat) (a n : Int) (b : Bool) (ws : List WalkR) (s : ByteArray) (w : World) (hu : WalksR w (.slice ao ws.length ca) ws) (hs : s.size ≤ 1048576) :
    Calls Try.prog 26 #[.agg #[.int .i64 6, .int .i64 a, .int .i64 n, .bool b, .slice ao ws.length ca, .string s]] w fun e w' => e = .returned (.bool (letB ⟨6, a, n, b, ws, s⟩)) ∧ Fr w w' := by
  have HU := Lib.hid hu
  have hl := hu.le
  obtain ⟨wq, hwq⟩ : ∃ wq, walksB ws = wq := ⟨_, rfl⟩
  obtain ⟨r, hr⟩ : ∃ r, rbS s = r := ⟨_, rfl⟩
  obtain ⟨p, hp⟩ : ∃ p, letB ⟨6, a, n, b, ws, s⟩ = p := ⟨_, rfl⟩
  have HL : Hid ((decide (n = 0) && !b && decide (a = 0) && decide (ws.length = 0) && (r && decide (s.size ≤ 6000))) = p) := Lib.hid (by subst hp; subst hwq; subst hr; rfl)
  rw [hp]
  have HW := Lib.hid hwq
  have CB : Hid (∀ w', Calls Try.prog 87 #[.string s] w' fun e w'' => e = .returned (.bool (r && decide (s.size ≤ 6000))) ∧ Fr w' w'') := Lib.hid fun w' => by rw [← hr]; exact isBagText_any s w' hs
  obtain ⟨t, ht⟩ : ∃ t, (r && decide (s.size ≤ 6000)) = t := ⟨_, rfl⟩
  rw [ht] at CB HL
  clear hp hwq hr hu ht
  cases b <;> cases t
  all_goals
    go_enter Try.func26, Try.ntmps26
    go_wp2_with (go_at_call 87; refine (CB.out _).mono ?_; rintro e w1 ⟨rfl, hf1⟩)
    all_goals go_ret
    all_goals exact ⟨ret_bool (by rw [← HL.out, Bool.eq_iff_iff]; (try simp only [Bool.and_eq_true, decide_eq_true_eq, Bool.not_false, Bool.not_true, Bool.false_eq_true, beq_iff_eq, true_and, and_true, false_and, and_false, iff_false, false_iff, true_iff, iff_true, Int.natCast_eq_zero, not_false_eq_true, List.length_eq_zero_iff, List.length_nil, *]) <;> omega), by repeat (first | (with_reducible exact Fr.refl _) | (with_reducible assumption) | (with_reducible refine Fr.drewN ?_ _) | (with_reducible refine Fr.drew ?_) | (with_reducible refine Fr.alloc ?_ _) | (with_reducible refine Fr.setCell ?_ (by (first | (with_reducible assumption) | omega | (simp only [World.size_alloc, World.size_setCell, World.size_drew, World.heap_drewN]; omega) | (simp; done) | (simp; omega))) _) | (with_reducible refine Fr.trans ?_ (by with_reducible assumption)))⟩
theorem implLetterOk_any (v : Value) (x : LetterD) (w : World) (hv : LetterRd w v x) (hs : x.f5.size ≤ 1048576) :
    Calls Try.prog 26 #[v] w fun e w' => e = .returned (.bool (letB x)) ∧ Fr w w' := by
  obtain ⟨u, rfl, hu⟩ := hv
  obtain ⟨ao, ca, rfl, _⟩ := RdS.val hu
  obtain ⟨k, a, n, b, ws, s⟩ := x
  simp only at hs hu ⊢
  by_cases hk : 1 ≤ k ∧ k ≤ 6
  · have hk' : k = 1 ∨ k = 2 ∨ k = 3 ∨ k = 4 ∨ k = 5 ∨ k = 6 := by omega
    rcases hk' with rfl | rfl | rfl | rfl | rfl | rfl
    · exact implLet1 ao ca a n b ws s w hu hs
    · exact implLet2 ao ca a n b ws s w hu hs
    · exact implLet3 ao ca a n b ws s w hu hs
    · exact implLet4 ao ca a n b ws s w hu hs
    · exact implLet5 ao ca a n b ws s w hu hs
    · exact implLet6 ao ca a n b ws s w hu hs
  · have HF : Hid (letB ⟨k, a, n, b, ws, s⟩ = false) := Lib.hid (let_no (x := ⟨k, a, n, b, ws, s⟩) hk)
    have q1 : (k == 1) = false := by simp; omega
    have q2 : (k == 2) = false := by simp; omega
    have q3 : (k == 3) = false := by simp; omega
    have q4 : (k == 4) = false := by simp; omega
    have q5 : (k == 5) = false := by simp; omega
    have q6 : (k == 6) = false := by simp; omega
    have hl := hu.le
    obtain ⟨p, hp⟩ : ∃ p, letB ⟨k, a, n, b, ws, s⟩ = p := ⟨_, rfl⟩
    rw [hp] at HF ⊢
    clear hk hu hp
    go_enter Try.func26, Try.ntmps26
    go_wp2
    all_goals go_ret
    all_goals exact ⟨ret_bool HF.out.symm, by repeat (first | (with_reducible exact Fr.refl _) | (with_reducible assumption) | (with_reducible refine Fr.drewN ?_ _) | (with_reducible refine Fr.drew ?_) | (with_reducible refine Fr.alloc ?_ _) | (with_reducible refine Fr.setCell ?_ (by (first | (with_reducible assumption) | omega | (simp only [World.size_alloc, World.size_setCell, World.size_drew, World.heap_drewN]; omega) | (simp; done) | (simp; omega))) _) | (with_reducible refine Fr.trans ?_ (by with_reducible assumption)))⟩
end Go.Proofs.Ytphjlecbhbcbcaa
