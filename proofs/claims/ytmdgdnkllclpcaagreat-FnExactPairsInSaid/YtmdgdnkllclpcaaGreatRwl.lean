/- Rows of ints compared, put into a bag: the reference. No condition. -/
import Derived.Test.YtmdgdnkllclpcaaGreatGSEdge
import Derived.Deep.QuietTactic
import Derived.BigQuiet
namespace Go.Proofs.YtmdgdnkllclpcaaGreat
open Go.RowKit
set_option linter.unusedVariables false
set_option linter.unusedSimpArgs false
theorem specRowLess_any (va vb : Value) (a b : List Int) (w : World) (ha : IntsR w va a) (hb : IntsR w vb b) :
    Calls Tryz.prog 125 #[va, vb] w fun e w' => e = .returned (.bool (rowLt a b)) ∧ ∃ m, w' = w.drewN m := by
  obtain ⟨ao, ba, oa, ca, rfl, hca, hma, fa⟩ := ha.one
  obtain ⟨bo, bb, ob, cb, rfl, hcb, hmb, fb⟩ := hb.one
  have FA := Lib.hid fa
  have FB := Lib.hid fb
  clear ha hb fa fb
  obtain ⟨R, hR⟩ : ∃ R, cmpL a b = R := ⟨_, rfl⟩
  have HR : Hid (rowLt a b = decide (R < 0)) := by show rowLt a b = _; unfold rowLt; rw [hR]
  go_enter Tryz.func125, Tryz.ntmps125
  go_wp2
  go_loopw [5] (fun i wr => ∃ k : Nat, k ≤ a.length ∧ k ≤ b.length ∧ i = .int .i64 k ∧ (∃ m, wr = w.drewN m) ∧ Hid (cmpL (a.drop k) (b.drop k) = R)) (fun i _ => a.length - (intOf i).toNat)
  case atStart => exact ⟨0, Nat.zero_le _, Nat.zero_le _, rfl, ⟨0, rfl⟩, Lib.hid (by simpa using hR)⟩
  case round =>
    clear hR
    obtain ⟨k, hk1, hk2, rfl, ⟨md, rfl⟩, hj⟩ := hrel
    by_cases hlt1 : k < a.length
    · by_cases hlt2 : k < b.length
      · obtain ⟨rfl, hba, fa⟩ := FA.out (by omega)
        obtain ⟨rfl, hbb, fb⟩ := FB.out (by omega)
        obtain ⟨x, hx⟩ : ∃ x, iAt a k = x := ⟨_, rfl⟩
        obtain ⟨y, hy⟩ : ∃ y, iAt b k = y := ⟨_, rfl⟩
        have c1 := fa k hlt1
        have c2 := fb k hlt2
        rw [hx] at c1
        rw [hy] at c2
        have hst := Lib.hid (cmpL_step hlt1 hlt2 hx hy)
        clear fa fb hx hy
        by_cases he : x = y
        · have he' : (x != y) = false := by simpa using he
          have hj2 : Hid (cmpL (a.drop (k + 1)) (b.drop (k + 1)) = R) := Lib.hid (by have := hst.out; rw [hj.out, if_neg (by omega), if_neg (by omega)] at this; exact this.symm)
          clear he
          go_wp2
          go_quiet (fail)
          go_wp2
          go_roundw
          case rel => exact ⟨k + 1, by omega, by omega, by go_num, ⟨_, rfl⟩, hj2⟩
          case measure => (simp [intOf]; omega)
        · have he' : (x != y) = true := by simpa using he
          have hj2 : Hid (decide (R < 0) = decide (x < y)) := Lib.hid (by
            have := hst.out
            rw [hj.out] at this
            rw [this]
            by_cases h : x < y
            · simp [h]
            · rw [if_neg h, if_pos (by omega)]; simp [h])
          clear he
          go_wp2
          go_quiet (fail)
          go_wp2
          go_quiet (fail)
          go_wp2
          go_ret
          exact ⟨ret_bool (by rw [HR.out, hj2.out]), ⟨_, by simp only [World.drewN_drewN]; rfl⟩⟩
      · have hj2 : Hid (decide (R < 0) = decide (a.length < b.length)) := Lib.hid (by
          rw [← hj.out, cmpL_endB hlt1 (by omega)]
          symm; rw [decide_eq_false (by omega)]; rfl)
        go_wp2
        go_ret
        exact ⟨ret_bool (by rw [HR.out, hj2.out]), ⟨_, rfl⟩⟩
    · have hj2 : Hid (decide (R < 0) = decide (a.length < b.length)) := Lib.hid (by
        by_cases h : k < b.length
        · rw [← hj.out, cmpL_endA (by omega) h, decide_eq_true (by omega : a.length < b.length)]; rfl
        · rw [← hj.out, cmpL_end (by omega) (by omega), decide_eq_false (by omega : ¬ a.length < b.length)]; rfl)
      go_wp2
      go_ret
      exact ⟨ret_bool (by rw [HR.out, hj2.out]), ⟨_, rfl⟩⟩
theorem l03Same_any (va vb : Value) (a b : List Int) (w : World) (ha : IntsR w va a) (hb : IntsR w vb b) :
    Calls Tryz.prog 124 #[va, vb] w fun e w' => e = .returned (.bool (decide (a = b))) ∧ ∃ m, w' = w.drewN m := by
  obtain ⟨ao, ba, oa, ca, rfl, hca, hma, fa⟩ := ha.one
  obtain ⟨bo, bb, ob, cb, rfl, hcb, hmb, fb⟩ := hb.one
  have FA := Lib.hid fa
  have FB := Lib.hid fb
  clear ha hb fa fb
  by_cases hl : a.length = b.length
  · have ql : ((a.length : Int) != (b.length : Int)) = false := by simp; omega
    obtain ⟨R, hR⟩ : ∃ R, decide (a = b) = R := ⟨_, rfl⟩
    have hdr : Hid (decide (a.drop 0 = b.drop 0) = R) := Lib.hid (by simpa using hR)
    rw [hR]
    have hl1 : a.length ≤ b.length := by omega
    clear hR hl
    go_enter Tryz.func124, Tryz.ntmps124
    go_wp2
    go_loopw [5] (fun i wr => ∃ k : Nat, k ≤ a.length ∧ i = .int .i64 k ∧ (∃ m, wr = w.drewN m) ∧ Hid (decide (a.drop k = b.drop k) = R)) (fun i _ => a.length - (intOf i).toNat)
    case atStart => exact ⟨0, Nat.zero_le _, rfl, ⟨0, rfl⟩, hdr⟩
    case round =>
      clear hdr
      obtain ⟨k, hk1, rfl, ⟨md, rfl⟩, hj⟩ := hrel
      by_cases hlt : k < a.length
      · obtain ⟨rfl, hba, fa⟩ := FA.out (by omega)
        obtain ⟨rfl, hbb, fb⟩ := FB.out (by omega)
        obtain ⟨x, hx⟩ : ∃ x, iAt a k = x := ⟨_, rfl⟩
        obtain ⟨y, hy⟩ : ∃ y, iAt b k = y := ⟨_, rfl⟩
        have c1 := fa k hlt
        have c2 := fb k (by omega)
        rw [hx] at c1
        rw [hy] at c2
        have hst : Hid (R = (decide (x = y) && decide (a.drop (k + 1) = b.drop (k + 1)))) := Lib.hid (by
          rw [← hj.out, List.drop_eq_getElem_cons hlt, List.drop_eq_getElem_cons (show k < b.length by omega)]
          have e1 : a[k] = x := by rw [← hx]; simp [iAt, List.getD, hlt]
          have e2 : b[k] = y := by rw [← hy]; simp [iAt, List.getD, show k < b.length by omega]
          rw [e1, e2, Bool.eq_iff_iff]
          simp)
        clear fa fb hx hy
        by_cases he : x = y
        · have he' : (x != y) = false := by simpa using he
          have hj2 : Hid (decide (a.drop (k + 1) = b.drop (k + 1)) = R) := Lib.hid (by rw [hst.out, decide_eq_true he, Bool.true_and])
          clear he
          go_wp2
          go_quiet (fail)
          go_wp2
          go_roundw
          case rel => exact ⟨k + 1, by omega, by go_num, ⟨_, rfl⟩, hj2⟩
          case measure => (simp [intOf]; omega)
        · have he' : (x != y) = true := by simpa using he
          have hj2 : Hid (R = false) := Lib.hid (by rw [hst.out, decide_eq_false he, Bool.false_and])
          clear he
          go_wp2
          go_quiet (fail)
          go_wp2
          go_ret
          exact ⟨ret_bool (by rw [hj2.out]), ⟨_, by simp only [World.drewN_drewN]; rfl⟩⟩
      · have hj2 : Hid (R = true) := Lib.hid (by rw [← hj.out, List.drop_of_length_le (by omega), List.drop_of_length_le (by simp at ql; omega)]; simp)
        go_wp2
        go_ret
        exact ⟨ret_bool (by rw [hj2.out]), ⟨_, rfl⟩⟩
  · have ql : ((a.length : Int) != (b.length : Int)) = true := by simp; omega
    have hR : decide (a = b) = false := decide_eq_false fun h => hl (by rw [h])
    rw [hR]
    go_enter Tryz.func124, Tryz.ntmps124
    go_wp2
    go_ret
    exact ⟨rfl, ⟨0, rfl⟩⟩
end Go.Proofs.YtmdgdnkllclpcaaGreat
