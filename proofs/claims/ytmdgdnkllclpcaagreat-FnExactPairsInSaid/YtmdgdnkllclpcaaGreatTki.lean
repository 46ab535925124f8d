/- l20In of the reference; rows that lie apart. No condition. -/
import Derived.Test.YtmdgdnkllclpcaaGreatTkp
import Derived.Test.YtmdgdnkllclpcaaGreatOns
namespace Go.Proofs.YtmdgdnkllclpcaaGreat
open Go.RowKit
set_option linter.unusedVariables false
set_option linter.unusedSimpArgs false
theorem apart_app {u v v' : Value} {H : Nat} (h : Apart v u) (hat : v'.ownBlock = v.ownBlock ∨ v'.ownBlock = some H) (hu : ∀ g, u.ownBlock = some g → g < H) : Apart v' u := by
  intro g h1 h2
  rcases hat with e | e
  · exact h g (e ▸ h1) h2
  · rw [e] at h1; cases h1; exact absurd (hu _ h2) (Nat.lt_irrefl _)
theorem owns_gr {w w' : World} {lo : Nat} {e : TypeId} {sz : Nat} {u v : Value} {n : Nat} {xs : List Value} (h : w.ownsRow lo e sz v n xs) (hg : w.grownBy w' u.ownBlock) (ha : Apart u v) : w'.ownsRow lo e sz v n xs :=
  (Tch.of_gr (B := RowB u) hg fun i e => e).owns h fun g hv hb => ha g hb hv
theorem owns_below {w : World} {lo : Nat} {e : TypeId} {sz : Nat} {v : Value} {n : Nat} {xs : List Value} (h : w.ownsRow lo e sz v n xs) {H : Nat} (hH : w.heap.size ≤ H) : ∀ g, v.ownBlock = some g → g < H := fun g hg => Nat.lt_of_lt_of_le (h.lt g hg).2 hH
theorem inW_step {l : List WalkR} {x : WalkR} {k : Nat} (h : k < l.length) (hn : ¬ walkAt l k = x) (h0 : inW (l.take k) x = false) : inW (l.take (k + 1)) x = false := by
  have e : l.take (k + 1) = l.take k ++ [walkAt l k] := by
    rw [List.take_succ_eq_append_getElem h]
    simp [walkAt, List.getD, h]
  rw [e]
  unfold inW at h0 ⊢
  rw [List.any_append, h0]
  simp only [List.any_cons, List.any_nil, Bool.or_false, Bool.false_or]
  cases hq : eqW (walkAt l k) x
  · rfl
  · exact absurd (eqW_iff.1 hq) hn
theorem inW_yes {l : List WalkR} {x : WalkR} {k : Nat} (h : k < l.length) (hn : walkAt l k = x) : inW l x = true := inW_iff.2 (hn ▸ walkAt_mem h)
set_option maxHeartbeats 4000000 in
theorem l20In_any (v : Value) (l : List WalkR) (x0 x1 x2 x3 : Int) (w : World) (hv : WalksR w v l) :
    Calls Tryz.prog 146 #[v, .agg #[.int .i64 x0, .int .i64 x1, .int .i64 x2, .int .i64 x3]] w fun e w' => e = .returned (.bool (inW l ⟨x0, x1, x2, x3⟩)) ∧ Fr w w' := by
  obtain ⟨ao, b, o, cap, rfl, hc, hm, hf⟩ := hv.one
  have HF := Lib.hid hf
  obtain ⟨X, hX⟩ : ∃ X : WalkR, X = ⟨x0, x1, x2, x3⟩ := ⟨_, rfl⟩
  rw [← hX]
  have HX := Lib.hid hX
  clear hf hv hX
  go_enter Tryz.func146, Tryz.ntmps146
  go_wp2_with fail
  go_loopw [5] (fun i wr => ∃ k : Nat, k ≤ l.length ∧ i = .int .i64 k ∧ Hid (inW (l.take k) X = false) ∧ Box wr w.heap.size #[.int .i64 x0, .int .i64 x1, .int .i64 x2, .int .i64 x3] 57 ∧ Fr w wr) (fun i _ => l.length - (intOf i).toNat)
  case atStart => exact ⟨0, Nat.zero_le _, rfl, Lib.hid rfl, Box.new _ _ _, by exact Qf⟩
  case round =>
    obtain ⟨k, hk, rfl, HL, hB, hfr⟩ := hrel
    have FB := hB.facts
    by_cases hlt : k < l.length
    · obtain ⟨rfl, hb, hf⟩ := HF.out (by omega)
      obtain ⟨g0, g1, g2, g3⟩ := hf k hlt
      have hst := fun h => inW_step (x := X) hlt h HL.out
      have hye := fun h => inW_yes (x := X) hlt h
      obtain ⟨y, hy⟩ : ∃ y, walkAt l k = y := ⟨_, rfl⟩
      rw [hy] at g0 g1 g2 g3 hst hye
      obtain ⟨y0, y1, y2, y3⟩ := y
      simp only [] at g0 g1 g2 g3
      have q0 := (hfr.cell (p := ⟨b, _, none⟩) hb).trans g0
      have q1 := (hfr.cell (p := ⟨b, _, none⟩) hb).trans g1
      have q2 := (hfr.cell (p := ⟨b, _, none⟩) hb).trans g2
      have q3 := (hfr.cell (p := ⟨b, _, none⟩) hb).trans g3
      have HST := Lib.hid hst
      have HYE := Lib.hid hye
      clear hf g0 g1 g2 g3 hy hst hye
      by_cases h0 : y0 = x0
      · by_cases h1 : y1 = x1
        · by_cases h2 : y2 = x2
          · by_cases h3 : y3 = x3
            · have HY := Lib.hid (HYE.out (by rw [HX.out, h0, h1, h2, h3]))
              subst h0 h1 h2 h3
              go_wp2_with fail
              go_quiet (fail)
              go_wp2_with fail
              go_ret
              exact ⟨ret_bool (by rw [HY.out]), by exact Qf⟩
            · have HS := Lib.hid (HST.out (by rw [HX.out]; intro e; exact h3 (congrArg WalkR.f3 e)))
              subst h0 h1 h2
              go_wp2_with fail
              go_quiet (fail)
              go_wp2_with fail
              go_roundw
              case rel => exact ⟨k + 1, by omega, by go_num, HS, hB.drewN _, by exact Qf⟩
              case measure => (simp [intOf]; omega)
          · have HS := Lib.hid (HST.out (by rw [HX.out]; intro e; exact h2 (congrArg WalkR.f2 e)))
            subst h0 h1
            go_wp2_with fail
            go_quiet (fail)
            go_wp2_with fail
            go_roundw
            case rel => exact ⟨k + 1, by omega, by go_num, HS, hB.drewN _, by exact Qf⟩
            case measure => (simp [intOf]; omega)
        · have HS := Lib.hid (HST.out (by rw [HX.out]; intro e; exact h1 (congrArg WalkR.f1 e)))
          subst h0
          go_wp2_with fail
          go_quiet (fail)
          go_wp2_with fail
          go_roundw
          case rel => exact ⟨k + 1, by omega, by go_num, HS, hB.drewN _, by exact Qf⟩
          case measure => (simp [intOf]; omega)
      · have HS := Lib.hid (HST.out (by rw [HX.out]; intro e; exact h0 (congrArg WalkR.f0 e)))
        go_wp2_with fail
        go_quiet (fail)
        go_wp2_with fail
        go_roundw
        case rel => exact ⟨k + 1, by omega, by go_num, HS, hB.drewN _, by exact Qf⟩
        case measure => (simp [intOf]; omega)
    · obtain rfl : k = l.length := by omega
      have HN : Hid (inW l X = false) := Lib.hid (by have := HL.out; rwa [List.take_length] at this)
      go_wp2_with fail
      go_ret
      exact ⟨ret_bool (by rw [HN.out]), by exact Qf⟩
end Go.Proofs.YtmdgdnkllclpcaaGreat
