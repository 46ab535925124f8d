/- Contracts of the functions on packets and sealed texts. No condition but the bound of a text that the reading gives. -/
import Derived.Test.YtnlcgffffjjojaaSum
import Derived.Test.YtnlcgffffjjojaaLink
namespace Go.Proofs.Ytnlcgffffjjojaa
open Go.RowKit
set_option linter.unusedVariables false
set_option linter.unusedSimpArgs false

def pktB (e f t q a : Int) (s : ByteArray) : Bool := decide (1 ≤ e ∧ e ≤ 100000 ∧ 0 ≤ f ∧ f ≤ 8 ∧ 0 ≤ t ∧ t ≤ 8 ∧ f ≠ t ∧ 0 ≤ q ∧ q ≤ 200 ∧ 0 ≤ a ∧ a ≤ 200) && (if q = 0 then decide (s.size = 0) else bodyB s)
theorem pktB_no {e f t q a : Int} {s : ByteArray} (h : ¬ (1 ≤ e ∧ e ≤ 100000 ∧ 0 ≤ f ∧ f ≤ 8 ∧ 0 ≤ t ∧ t ≤ 8 ∧ f ≠ t ∧ 0 ≤ q ∧ q ≤ 200 ∧ 0 ≤ a ∧ a ≤ 200)) : pktB e f t q a s = false := by
  unfold pktB
  rw [decide_eq_false h, Bool.false_and]
theorem pktB_zero {e f t q a : Int} {s : ByteArray} (h : 1 ≤ e ∧ e ≤ 100000 ∧ 0 ≤ f ∧ f ≤ 8 ∧ 0 ≤ t ∧ t ≤ 8 ∧ f ≠ t ∧ 0 ≤ q ∧ q ≤ 200 ∧ 0 ≤ a ∧ a ≤ 200) (hq : q = 0) : pktB e f t q a s = decide (s.size = 0) := by
  unfold pktB
  rw [decide_eq_true h, Bool.true_and, if_pos hq]
theorem pktB_body {e f t q a : Int} {s : ByteArray} (h : 1 ≤ e ∧ e ≤ 100000 ∧ 0 ≤ f ∧ f ≤ 8 ∧ 0 ≤ t ∧ t ≤ 8 ∧ f ≠ t ∧ 0 ≤ q ∧ q ≤ 200 ∧ 0 ≤ a ∧ a ≤ 200) (hq : q ≠ 0) : pktB e f t q a s = bodyB s := by
  unfold pktB
  rw [decide_eq_true h, Bool.true_and, if_neg hq]
theorem bodyB_int (s : ByteArray) : decide ((1 : Int) ≤ (s.size : Int) ∧ (s.size : Int) ≤ 6000) = bodyB s := by unfold bodyB; congr 1; simp; omega

theorem isNode_any (n : Int) (w : World) :
    Calls Try.prog 116 #[.int .i64 n] w fun e w' => e = .returned (.bool (decide (0 ≤ n ∧ n ≤ 8))) ∧ w = w' := by
  go_enter Try.func116, Try.ntmps116
  go_wp2
  all_goals go_ret
  all_goals exact ⟨ret_bool (by rw [Bool.eq_iff_iff]; simp; omega), rfl⟩
set_option maxHeartbeats 800000 in
theorem specPacketOk_any (e f t q a : Int) (s : ByteArray) (w : World) :
    Calls Try.prog 49 #[.agg #[.int .i64 e, .int .i64 f, .int .i64 t, .int .i64 q, .int .i64 a, .string s]] w fun e' w' => e' = .returned (.bool (pktB e f t q a s)) ∧ Fr w w' := by
  by_cases h : 1 ≤ e ∧ e ≤ 100000 ∧ 0 ≤ f ∧ f ≤ 8 ∧ 0 ≤ t ∧ t ≤ 8 ∧ f ≠ t ∧ 0 ≤ q ∧ q ≤ 200 ∧ 0 ≤ a ∧ a ≤ 200
  · have h' := Lib.hid h
    obtain ⟨h1, h2, h3, h4, h5, h6, h7, h8, h9, h10, h11⟩ := h
    have d1 : decide (1 ≤ e ∧ e ≤ 100000) = true := decide_eq_true ⟨h1, h2⟩
    have d2 : decide (0 ≤ f ∧ f ≤ 8) = true := decide_eq_true ⟨h3, h4⟩
    have d3 : decide (0 ≤ t ∧ t ≤ 8) = true := decide_eq_true ⟨h5, h6⟩
    have d4 : (f == t) = false := beq_eq_false_iff_ne.2 h7
    have d5 : decide (0 ≤ q ∧ q ≤ 200) = true := decide_eq_true ⟨h8, h9⟩
    have d6 : decide (0 ≤ a ∧ a ≤ 200) = true := decide_eq_true ⟨h10, h11⟩
    clear h1 h2 h3 h4 h5 h6 h7 h8 h9 h10 h11
    by_cases hq : q = 0
    · have d7 : (q == 0) = true := by simpa using hq
      have hb := Lib.hid (pktB_zero (s := s) h'.out hq)
      clear hq
      go_enter Try.func49, Try.ntmps49
      go_wp2_with (go_at_call 111; refine (l01In_any _ _ _ _).mono ?_; rintro e w' ⟨rfl, rfl⟩)
      go_ret
      exact ⟨ret_bool (by rw [hb.out, empty_iff]), by repeat (first | (with_reducible exact Fr.refl _) | (with_reducible assumption) | (with_reducible refine Fr.drewN ?_ _) | (with_reducible refine Fr.drew ?_) | (with_reducible refine Fr.alloc ?_ _) | (with_reducible refine Fr.setCell ?_ (by (first | (with_reducible assumption) | omega | (simp only [World.size_alloc, World.size_setCell, World.size_drew, World.heap_drewN]; omega) | (simp; done) | (simp; omega))) _) | (with_reducible refine Fr.trans ?_ (by with_reducible assumption)))⟩
    · have d7 : (q == 0) = false := by simpa using hq
      have hb := Lib.hid (pktB_body (s := s) h'.out hq)
      clear hq
      go_enter Try.func49, Try.ntmps49
      go_wp2_with (go_at_call 111; refine (l01In_any _ _ _ _).mono ?_; rintro e w' ⟨rfl, rfl⟩)
      go_ret
      exact ⟨ret_bool (by rw [hb.out, ← bodyB_int, Bool.decide_and]), by repeat (first | (with_reducible exact Fr.refl _) | (with_reducible assumption) | (with_reducible refine Fr.drewN ?_ _) | (with_reducible refine Fr.drew ?_) | (with_reducible refine Fr.alloc ?_ _) | (with_reducible refine Fr.setCell ?_ (by (first | (with_reducible assumption) | omega | (simp only [World.size_alloc, World.size_setCell, World.size_drew, World.heap_drewN]; omega) | (simp; done) | (simp; omega))) _) | (with_reducible refine Fr.trans ?_ (by with_reducible assumption)))⟩
  · have hb := Lib.hid (pktB_no (s := s) h)
    go_enter Try.func49, Try.ntmps49
    go_wp2_with (go_at_call 111; refine (l01In_any _ _ _ _).mono ?_; rintro e w' ⟨rfl, rfl⟩)
    all_goals go_ret
    all_goals first | exact ⟨ret_bool hb.out.symm, by repeat (first | (with_reducible exact Fr.refl _) | (with_reducible assumption) | (with_reducible refine Fr.drewN ?_ _) | (with_reducible refine Fr.drew ?_) | (with_reducible refine Fr.alloc ?_ _) | (with_reducible refine Fr.setCell ?_ (by (first | (with_reducible assumption) | omega | (simp only [World.size_alloc, World.size_setCell, World.size_drew, World.heap_drewN]; omega) | (simp; done) | (simp; omega))) _) | (with_reducible refine Fr.trans ?_ (by with_reducible assumption)))⟩ | (exfalso; apply h; simp_all; done)
set_option maxHeartbeats 800000 in
theorem implPacketOk_any (e f t q a : Int) (s : ByteArray) (w : World) :
    Calls Try.prog 50 #[.agg #[.int .i64 e, .int .i64 f, .int .i64 t, .int .i64 q, .int .i64 a, .string s]] w fun e' w' => e' = .returned (.bool (pktB e f t q a s)) ∧ Fr w w' := by
  by_cases h : 1 ≤ e ∧ e ≤ 100000 ∧ 0 ≤ f ∧ f ≤ 8 ∧ 0 ≤ t ∧ t ≤ 8 ∧ f ≠ t ∧ 0 ≤ q ∧ q ≤ 200 ∧ 0 ≤ a ∧ a ≤ 200
  · have h' := Lib.hid h
    obtain ⟨h1, h2, h3, h4, h5, h6, h7, h8, h9, h10, h11⟩ := h
    have d2 : decide (0 ≤ f ∧ f ≤ 8) = true := decide_eq_true ⟨h3, h4⟩
    have d3 : decide (0 ≤ t ∧ t ≤ 8) = true := decide_eq_true ⟨h5, h6⟩
    have d4 : (f == t) = false := beq_eq_false_iff_ne.2 h7
    clear h3 h4 h5 h6 h7
    by_cases hq : q = 0
    · have d7 : (q == 0) = true := by simpa using hq
      have hb := Lib.hid (pktB_zero (s := s) h'.out hq)
      clear hq
      go_enter Try.func50, Try.ntmps50
      go_wp2_with (first | (go_at_call 116; refine (isNode_any _ _).mono ?_; rintro e w' ⟨rfl, rfl⟩) | (go_at_call 106; refine (isBody_any _ _).mono ?_; rintro e w' ⟨rfl, rfl⟩))
      go_ret
      exact ⟨ret_bool (by rw [hb.out, empty_iff]), by repeat (first | (with_reducible exact Fr.refl _) | (with_reducible assumption) | (with_reducible refine Fr.drewN ?_ _) | (with_reducible refine Fr.drew ?_) | (with_reducible refine Fr.alloc ?_ _) | (with_reducible refine Fr.setCell ?_ (by (first | (with_reducible assumption) | omega | (simp only [World.size_alloc, World.size_setCell, World.size_drew, World.heap_drewN]; omega) | (simp; done) | (simp; omega))) _) | (with_reducible refine Fr.trans ?_ (by with_reducible assumption)))⟩
    · have d7 : (q == 0) = false := by simpa using hq
      have hb := Lib.hid (pktB_body (s := s) h'.out hq)
      clear hq
      go_enter Try.func50, Try.ntmps50
      go_wp2_with (first | (go_at_call 116; refine (isNode_any _ _).mono ?_; rintro e w' ⟨rfl, rfl⟩) | (go_at_call 106; refine (isBody_any _ _).mono ?_; rintro e w' ⟨rfl, rfl⟩))
      go_ret
      exact ⟨ret_bool (by rw [hb.out]), by repeat (first | (with_reducible exact Fr.refl _) | (with_reducible assumption) | (with_reducible refine Fr.drewN ?_ _) | (with_reducible refine Fr.drew ?_) | (with_reducible refine Fr.alloc ?_ _) | (with_reducible refine Fr.setCell ?_ (by (first | (with_reducible assumption) | omega | (simp only [World.size_alloc, World.size_setCell, World.size_drew, World.heap_drewN]; omega) | (simp; done) | (simp; omega))) _) | (with_reducible refine Fr.trans ?_ (by with_reducible assumption)))⟩
  · have hb := Lib.hid (pktB_no (s := s) h)
    go_enter Try.func50, Try.ntmps50
    go_wp2_with (first | (go_at_call 116; refine (isNode_any _ _).mono ?_; rintro e w' ⟨rfl, rfl⟩) | (go_at_call 106; refine (isBody_any _ _).mono ?_; rintro e w' ⟨rfl, rfl⟩))
    all_goals go_ret
    all_goals first | exact ⟨ret_bool hb.out.symm, by repeat (first | (with_reducible exact Fr.refl _) | (with_reducible assumption) | (with_reducible refine Fr.drewN ?_ _) | (with_reducible refine Fr.drew ?_) | (with_reducible refine Fr.alloc ?_ _) | (with_reducible refine Fr.setCell ?_ (by (first | (with_reducible assumption) | omega | (simp only [World.size_alloc, World.size_setCell, World.size_drew, World.heap_drewN]; omega) | (simp; done) | (simp; omega))) _) | (with_reducible refine Fr.trans ?_ (by with_reducible assumption)))⟩ | (exfalso; apply h; simp_all; done)

def sealedT (x : ByteArray) : ByteArray := x ++ fourT (sumOf x)
set_option maxRecDepth 100000 in
theorem implSealed_any (x : ByteArray) (w : World) (hx : x.size ≤ 20000) :
    Calls Try.prog 90 #[.string x] w fun e w' => e = .returned (.tuple #[.string (sealedT x), .bool true]) ∧ Fr w w' := by
  have hf4 : (fourT (sumOf x)).size ≤ 4 := Nat.le_of_eq rfl
  have hm : x.size ≤ maxLen := by unfold maxLen; omega
  have HM := Lib.hid hm
  clear hm
  go_enter Try.func90, Try.ntmps90
  go_wp2_with (go_at_call 102; refine (sumText_any x _ HM.out).mono ?_; rintro e w2 ⟨rfl, hf2⟩)
  go_ret2
  exact ⟨rfl, by repeat (first | (with_reducible exact Fr.refl _) | (with_reducible assumption) | (with_reducible refine Fr.drewN ?_ _) | (with_reducible refine Fr.drew ?_) | (with_reducible refine Fr.alloc ?_ _) | (with_reducible refine Fr.setCell ?_ (by (first | (with_reducible assumption) | omega | (simp only [World.size_alloc, World.size_setCell, World.size_drew, World.heap_drewN]; omega) | (simp; done) | (simp; omega))) _) | (with_reducible refine Fr.trans ?_ (by with_reducible assumption)))⟩
set_option maxRecDepth 100000 in
theorem specSealed_any (x : ByteArray) (w : World) (hx : x.size ≤ 20000) :
    Calls Try.prog 88 #[.string x] w fun e w' => e = .returned (.tuple #[.string (sealedT x), .bool true]) ∧ Fr w w' := by
  have hf4 : (fourT (sumOf x)).size ≤ 4 := Nat.le_of_eq rfl
  have hm : x.size ≤ maxLen := by unfold maxLen; omega
  have hlt := sumOf_lt x
  have HM := Lib.hid hm
  clear hm
  go_enter Try.func88, Try.ntmps88
  go_wp2_with (first | (go_at_call 167; refine (specSumOf_any x _ HM.out).mono ?_; rintro e w2 ⟨rfl, rfl⟩) | (go_at_call 166; refine (l02Four_any _ _ hlt).mono ?_; rintro e w2 ⟨rfl, hf2⟩))
  go_ret2
  exact ⟨rfl, by repeat (first | (with_reducible exact Fr.refl _) | (with_reducible assumption) | (with_reducible refine Fr.drewN ?_ _) | (with_reducible refine Fr.drew ?_) | (with_reducible refine Fr.alloc ?_ _) | (with_reducible refine Fr.setCell ?_ (by (first | (with_reducible assumption) | omega | (simp only [World.size_alloc, World.size_setCell, World.size_drew, World.heap_drewN]; omega) | (simp; done) | (simp; omega))) _) | (with_reducible refine Fr.trans ?_ (by with_reducible assumption)))⟩
end Go.Proofs.Ytnlcgffffjjojaa
