/- Contracts of the functions on links. No condition but the sizes that the reading gives. -/
import Derived.Test.YtnlcgffffjjojaaOk
import Derived.Test.YtnlcgffffjjojaaStr
namespace Go.Proofs.Ytnlcgffffjjojaa
open Go.RowKit
set_option linter.unusedVariables false
set_option linter.unusedSimpArgs false

def bodyB (s : ByteArray) : Bool := decide (1 ≤ s.size ∧ s.size ≤ 6000)
def linkB (ss : List ByteArray) (a t : Int) : Bool := decide (ss.length ≤ 200 ∧ 0 ≤ a ∧ a ≤ ss.length ∧ 0 ≤ t ∧ t ≤ 200) && ss.all bodyB

theorem isBody_any (s : ByteArray) (w : World) :
    Calls Try.prog 106 #[.string s] w fun e w' => e = .returned (.bool (bodyB s)) ∧ w = w' := by
  go_enter Try.func106, Try.ntmps106
  go_wp2
  all_goals go_ret
  all_goals exact ⟨ret_bool (by rw [Bool.eq_iff_iff]; simp [bodyB]; omega), rfl⟩

theorem implLinkOk_any (v : Value) (ss : List ByteArray) (a t : Int) (w : World) (hv : StrsR w v ss) :
    Calls Try.prog 36 #[.agg #[v, .int .i64 a, .int .i64 t]] w fun e w' => e = .returned (.bool (linkB ss a t)) ∧ Fr w w' := by
  obtain ⟨ao, ba, oa, ca, rfl, hca, hma, fa⟩ := hv.one
  clear hv
  by_cases h : ss.length ≤ 200 ∧ 0 ≤ a ∧ a ≤ ss.length ∧ 0 ≤ t ∧ t ≤ 200
  · obtain ⟨h1, h2, h3, h4, h5⟩ := h
    go_enter Try.func36, Try.ntmps36
    go_wp2
    go_loop [35] (fun i => ∃ k : Nat, k ≤ ss.length ∧ i = .int .i64 k ∧ Hid (∀ j, j < k → bodyB (sAt ss j) = true)) (fun i => ss.length - (intOf i).toNat)
    case atStart => exact ⟨0, Nat.zero_le _, rfl, fun j hj => absurd hj (by omega)⟩
    case round =>
      obtain ⟨k, hk, rfl, hj⟩ := hrel
      by_cases hlt : k < ss.length
      · obtain ⟨rfl, hba, fa⟩ := fa (by omega)
        have c1 := fa k hlt
        clear fa
        cases hb : bodyB (sAt ss k)
        · go_wp2_with (go_at_call 106; refine (isBody_any _ _).mono ?_; rintro e w' ⟨rfl, rfl⟩)
          go_ret
          exact ⟨ret_bool (by unfold linkB; rw [not_all_getD ByteArray.empty k hlt hb, Bool.and_false]), by repeat (first | (with_reducible exact Fr.refl _) | (with_reducible assumption) | (with_reducible refine Fr.drewN ?_ _) | (with_reducible refine Fr.drew ?_) | (with_reducible refine Fr.alloc ?_ _) | (with_reducible refine Fr.setCell ?_ (by (first | (with_reducible assumption) | omega | (simp only [World.size_alloc, World.size_setCell, World.size_drew, World.heap_drewN]; omega) | (simp; done) | (simp; omega))) _) | (with_reducible refine Fr.trans ?_ (by with_reducible assumption)))⟩
        · have HB := Lib.hid hb
          go_wp2_with (go_at_call 106; refine (isBody_any _ _).mono ?_; rintro e w' ⟨rfl, rfl⟩)
          go_round
          case rel => exact ⟨k + 1, by omega, by go_num, fun j h => by rcases Nat.lt_succ_iff_lt_or_eq.1 h with h | rfl; exact hj.out j h; exact HB.out⟩
          case measure => (simp [intOf]; omega)
      · clear fa
        go_wp2
        go_ret
        exact ⟨ret_bool (by unfold linkB; rw [all_getD ByteArray.empty (fun j h => hj.out j (by omega)), Bool.and_true]; symm; simp; omega), by repeat (first | (with_reducible exact Fr.refl _) | (with_reducible assumption) | (with_reducible refine Fr.drewN ?_ _) | (with_reducible refine Fr.drew ?_) | (with_reducible refine Fr.alloc ?_ _) | (with_reducible refine Fr.setCell ?_ (by (first | (with_reducible assumption) | omega | (simp only [World.size_alloc, World.size_setCell, World.size_drew, World.heap_drewN]; omega) | (simp; done) | (simp; omega))) _) | (with_reducible refine Fr.trans ?_ (by with_reducible assumption)))⟩
  · have hb : linkB ss a t = false := by unfold linkB; rw [Bool.and_eq_false_iff]; left; simpa using h
    go_enter Try.func36, Try.ntmps36
    go_wp2
    all_goals go_ret
    all_goals exact ⟨ret_bool (by first | rfl | exact hb.symm), by repeat (first | (with_reducible exact Fr.refl _) | (with_reducible assumption) | (with_reducible refine Fr.drewN ?_ _) | (with_reducible refine Fr.drew ?_) | (with_reducible refine Fr.alloc ?_ _) | (with_reducible refine Fr.setCell ?_ (by (first | (with_reducible assumption) | omega | (simp only [World.size_alloc, World.size_setCell, World.size_drew, World.heap_drewN]; omega) | (simp; done) | (simp; omega))) _) | (with_reducible refine Fr.trans ?_ (by with_reducible assumption)))⟩
theorem specLinkOk_any (v : Value) (ss : List ByteArray) (a t : Int) (w : World) (hv : StrsR w v ss) :
    Calls Try.prog 44 #[.agg #[v, .int .i64 a, .int .i64 t]] w fun e w' => e = .returned (.bool (linkB ss a t)) ∧ Fr w w' := by
  obtain ⟨ao, ba, oa, ca, rfl, hca, hma, fa⟩ := hv.one
  clear hv
  go_enter Try.func44, Try.ntmps44
  go_wp2
  go_loop [3] (fun i => ∃ k : Nat, k ≤ ss.length ∧ i = .int .i64 k ∧ Hid (∀ j, j < k → bodyB (sAt ss j) = true)) (fun i => ss.length - (intOf i).toNat)
  case atStart => exact ⟨0, Nat.zero_le _, rfl, fun j hj => absurd hj (by omega)⟩
  case round =>
    obtain ⟨k, hk, rfl, hj⟩ := hrel
    by_cases hlt : k < ss.length
    · obtain ⟨rfl, hba, fa⟩ := fa (by omega)
      have c1 := fa k hlt
      clear fa
      cases hb : bodyB (sAt ss k)
      · have hb' : decide ((1 : Int) ≤ ((sAt ss k).size : Int) ∧ ((sAt ss k).size : Int) ≤ 6000) = false := by rw [← hb]; unfold bodyB; congr 1; simp; omega
        go_wp2_with (go_at_call 111; refine (l01In_any _ _ _ _).mono ?_; rintro e w' ⟨rfl, rfl⟩)
        go_ret
        exact ⟨ret_bool (by unfold linkB; rw [not_all_getD ByteArray.empty k hlt hb, Bool.and_false]), by repeat (first | (with_reducible exact Fr.refl _) | (with_reducible assumption) | (with_reducible refine Fr.drewN ?_ _) | (with_reducible refine Fr.drew ?_) | (with_reducible refine Fr.alloc ?_ _) | (with_reducible refine Fr.setCell ?_ (by (first | (with_reducible assumption) | omega | (simp only [World.size_alloc, World.size_setCell, World.size_drew, World.heap_drewN]; omega) | (simp; done) | (simp; omega))) _) | (with_reducible refine Fr.trans ?_ (by with_reducible assumption)))⟩
      · have HB := Lib.hid hb
        have hb' : decide ((1 : Int) ≤ ((sAt ss k).size : Int) ∧ ((sAt ss k).size : Int) ≤ 6000) = true := by rw [← hb]; unfold bodyB; congr 1; simp; omega
        go_wp2_with (go_at_call 111; refine (l01In_any _ _ _ _).mono ?_; rintro e w' ⟨rfl, rfl⟩)
        go_round
        case rel => exact ⟨k + 1, by omega, by go_num, fun j h => by rcases Nat.lt_succ_iff_lt_or_eq.1 h with h | rfl; exact hj.out j h; exact HB.out⟩
        case measure => (simp [intOf]; omega)
    · clear fa
      obtain rfl : k = ss.length := by omega
      have hall : Hid (ss.all bodyB = true) := all_getD ByteArray.empty (fun j h => hj.out j h)
      go_wp2_with (go_at_call 111; refine (l01In_any _ _ _ _).mono ?_; rintro e w' ⟨rfl, rfl⟩)
      all_goals go_ret
      all_goals exact ⟨ret_bool (by unfold linkB; rw [hall.out, Bool.and_true, Bool.eq_iff_iff]; simp; omega), by repeat (first | (with_reducible exact Fr.refl _) | (with_reducible assumption) | (with_reducible refine Fr.drewN ?_ _) | (with_reducible refine Fr.drew ?_) | (with_reducible refine Fr.alloc ?_ _) | (with_reducible refine Fr.setCell ?_ (by (first | (with_reducible assumption) | omega | (simp only [World.size_alloc, World.size_setCell, World.size_drew, World.heap_drewN]; omega) | (simp; done) | (simp; omega))) _) | (with_reducible refine Fr.trans ?_ (by with_reducible assumption)))⟩

end Go.Proofs.Ytnlcgffffjjojaa
