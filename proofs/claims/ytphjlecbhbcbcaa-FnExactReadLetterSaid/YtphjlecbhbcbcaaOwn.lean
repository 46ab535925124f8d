/- OwnerOf of both. No condition. -/
import Derived.Test.YtphjlecbhbcbcaaParP
import Derived.Test.YtphjlecbhbcbcaaOk
namespace Go.Proofs.Ytphjlecbhbcbcaa
open Go.RowKit
set_option linter.unusedVariables false
set_option linter.unusedSimpArgs false
theorem implOwnerOf_any (v n : Int) (w : World) :
    Calls Try.prog 79 #[.int .i64 v, .int .i64 n] w fun e w' => e = .returned (.int .i64 (owR v n)) ∧ Fr w w' := by
  by_cases h1 : n < 1
  · go_enter Try.func79, Try.ntmps79
    go_wp2
    go_ret
    exact ⟨ret_int (by unfold owR; rw [if_neg (by omega)]), by repeat (first | (with_reducible exact Fr.refl _) | (with_reducible assumption) | (with_reducible refine Fr.drewN ?_ _) | (with_reducible refine Fr.drew ?_) | (with_reducible refine Fr.alloc ?_ _) | (with_reducible refine Fr.setCell ?_ (by (first | (with_reducible assumption) | omega | (simp only [World.size_alloc, World.size_setCell, World.size_drew, World.heap_drewN]; omega) | (simp; done) | (simp; omega))) _) | (with_reducible refine Fr.trans ?_ (by with_reducible assumption)))⟩
  by_cases h2 : 8 < n
  · go_enter Try.func79, Try.ntmps79
    go_wp2
    go_ret
    exact ⟨ret_int (by unfold owR; rw [if_neg (by omega)]), by repeat (first | (with_reducible exact Fr.refl _) | (with_reducible assumption) | (with_reducible refine Fr.drewN ?_ _) | (with_reducible refine Fr.drew ?_) | (with_reducible refine Fr.alloc ?_ _) | (with_reducible refine Fr.setCell ?_ (by (first | (with_reducible assumption) | omega | (simp only [World.size_alloc, World.size_setCell, World.size_drew, World.heap_drewN]; omega) | (simp; done) | (simp; omega))) _) | (with_reducible refine Fr.trans ?_ (by with_reducible assumption)))⟩
  by_cases h3 : v < 0
  · go_enter Try.func79, Try.ntmps79
    go_wp2
    go_ret
    exact ⟨ret_int (by unfold owR; rw [if_neg (by omega)]), by repeat (first | (with_reducible exact Fr.refl _) | (with_reducible assumption) | (with_reducible refine Fr.drewN ?_ _) | (with_reducible refine Fr.drew ?_) | (with_reducible refine Fr.alloc ?_ _) | (with_reducible refine Fr.setCell ?_ (by (first | (with_reducible assumption) | omega | (simp only [World.size_alloc, World.size_setCell, World.size_drew, World.heap_drewN]; omega) | (simp; done) | (simp; omega))) _) | (with_reducible refine Fr.trans ?_ (by with_reducible assumption)))⟩
  by_cases h4 : 12 ≤ v
  · go_enter Try.func79, Try.ntmps79
    go_wp2
    go_ret
    exact ⟨ret_int (by unfold owR; rw [if_neg (by omega)]), by repeat (first | (with_reducible exact Fr.refl _) | (with_reducible assumption) | (with_reducible refine Fr.drewN ?_ _) | (with_reducible refine Fr.drew ?_) | (with_reducible refine Fr.alloc ?_ _) | (with_reducible refine Fr.setCell ?_ (by (first | (with_reducible assumption) | omega | (simp only [World.size_alloc, World.size_setCell, World.size_drew, World.heap_drewN]; omega) | (simp; done) | (simp; omega))) _) | (with_reducible refine Fr.trans ?_ (by with_reducible assumption)))⟩
  have hs := sumOf_lt (vText v)
  have hz : (vText v).size ≤ maxLen := by rw [vText_size]; have := varL_len40 v.toNat (by omega); unfold maxLen; omega
  have ho : owR v n = (sumOf (vText v) : Int) % n := by unfold owR; rw [if_pos (by omega)]
  have hm0 : 0 ≤ (sumOf (vText v) : Int) % n := Int.emod_nonneg _ (by omega)
  have hm1 : (sumOf (vText v) : Int) % n < n := Int.emod_lt_of_pos _ (by omega)
  go_enter Try.func79, Try.ntmps79
  go_wp2_with (first | (go_at_call 101; refine (varText_any v _ (by omega) (by omega)).mono ?_; rintro e w1 ⟨rfl, hf1⟩) | (go_at_call 139; refine (implSumOf_any (vText v) _ hz).mono ?_; rintro e w2 ⟨rfl, rfl⟩))
  go_ret
  exact ⟨ret_int (by rw [ho]), by repeat (first | (with_reducible exact Fr.refl _) | (with_reducible assumption) | (with_reducible refine Fr.drewN ?_ _) | (with_reducible refine Fr.drew ?_) | (with_reducible refine Fr.alloc ?_ _) | (with_reducible refine Fr.setCell ?_ (by (first | (with_reducible assumption) | omega | (simp only [World.size_alloc, World.size_setCell, World.size_drew, World.heap_drewN]; omega) | (simp; done) | (simp; omega))) _) | (with_reducible refine Fr.trans ?_ (by with_reducible assumption)))⟩
theorem specOwnerOf_any (v n : Int) (w : World) :
    Calls Try.prog 77 #[.int .i64 v, .int .i64 n] w fun e w' => e = .returned (.int .i64 (owR v n)) ∧ Fr w w' := by
  by_cases h1 : 1 ≤ n ∧ n ≤ 8
  · by_cases h2 : 0 ≤ v ∧ v ≤ 11
    · have hs := sumOf_lt (vText v)
      have hz : (vText v).size ≤ maxLen := by rw [vText_size]; have := varL_len40 v.toNat (by omega); unfold maxLen; omega
      have ho : owR v n = (sumOf (vText v) : Int) % n := by unfold owR; rw [if_pos (by omega)]
      have hm0 : 0 ≤ (sumOf (vText v) : Int) % n := Int.emod_nonneg _ (by omega)
      have hm1 : (sumOf (vText v) : Int) % n < n := Int.emod_lt_of_pos _ (by omega)
      have g1 : decide (1 ≤ n ∧ n ≤ 8) = true := by simp [h1]
      have g2 : decide (0 ≤ v ∧ v ≤ 11) = true := by simp [h2]
      go_enter Try.func77, Try.ntmps77
      go_wp2_with (first | (go_at_call 84; refine (l01In_any _ _ _ _).mono ?_; rintro e w1 ⟨rfl, rfl⟩) | (go_at_call 98; refine (l01Var_any v _ (by omega) (by omega)).mono ?_; rintro e w1 ⟨rfl, hf1⟩) | (go_at_call 138; refine (specSumOf_any (vText v) _ hz).mono ?_; rintro e w2 ⟨rfl, rfl⟩))
      go_ret
      exact ⟨ret_int (by rw [ho]), by repeat (first | (with_reducible exact Fr.refl _) | (with_reducible assumption) | (with_reducible refine Fr.drewN ?_ _) | (with_reducible refine Fr.drew ?_) | (with_reducible refine Fr.alloc ?_ _) | (with_reducible refine Fr.setCell ?_ (by (first | (with_reducible assumption) | omega | (simp only [World.size_alloc, World.size_setCell, World.size_drew, World.heap_drewN]; omega) | (simp; done) | (simp; omega))) _) | (with_reducible refine Fr.trans ?_ (by with_reducible assumption)))⟩
    · have g1 : decide (1 ≤ n ∧ n ≤ 8) = true := by simp [h1]
      have g2 : decide (0 ≤ v ∧ v ≤ 11) = false := by simpa using h2
      go_enter Try.func77, Try.ntmps77
      go_wp2_with (go_at_call 84; refine (l01In_any _ _ _ _).mono ?_; rintro e w1 ⟨rfl, rfl⟩)
      go_ret
      exact ⟨ret_int (by unfold owR; rw [if_neg (by omega)]), by repeat (first | (with_reducible exact Fr.refl _) | (with_reducible assumption) | (with_reducible refine Fr.drewN ?_ _) | (with_reducible refine Fr.drew ?_) | (with_reducible refine Fr.alloc ?_ _) | (with_reducible refine Fr.setCell ?_ (by (first | (with_reducible assumption) | omega | (simp only [World.size_alloc, World.size_setCell, World.size_drew, World.heap_drewN]; omega) | (simp; done) | (simp; omega))) _) | (with_reducible refine Fr.trans ?_ (by with_reducible assumption)))⟩
  · have g1 : decide (1 ≤ n ∧ n ≤ 8) = false := by simpa using h1
    go_enter Try.func77, Try.ntmps77
    go_wp2_with (go_at_call 84; refine (l01In_any _ _ _ _).mono ?_; rintro e w1 ⟨rfl, rfl⟩)
    go_ret
    exact ⟨ret_int (by unfold owR; rw [if_neg (by omega)]), by repeat (first | (with_reducible exact Fr.refl _) | (with_reducible assumption) | (with_reducible refine Fr.drewN ?_ _) | (with_reducible refine Fr.drew ?_) | (with_reducible refine Fr.alloc ?_ _) | (with_reducible refine Fr.setCell ?_ (by (first | (with_reducible assumption) | omega | (simp only [World.size_alloc, World.size_setCell, World.size_drew, World.heap_drewN]; omega) | (simp; done) | (simp; omega))) _) | (with_reducible refine Fr.trans ?_ (by with_reducible assumption)))⟩
end Go.Proofs.Ytphjlecbhbcbcaa
