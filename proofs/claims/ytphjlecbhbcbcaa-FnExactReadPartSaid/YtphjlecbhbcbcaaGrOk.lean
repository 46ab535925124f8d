/- GraphOk of both. No condition. -/
import Derived.Test.YtphjlecbhbcbcaaGr
namespace Go.Proofs.Ytphjlecbhbcbcaa
open Go.RowKit
set_option linter.unusedVariables false
set_option linter.unusedSimpArgs false
set_option maxHeartbeats 4000000 in
set_option maxRecDepth 100000 in
theorem specGraphOk_any (v : Value) (n : Int) (xs : List EdgeR) (w : World) (hv : EdgesR w v xs) :
    Calls Try.prog 69 #[.agg #[.int .i64 n, v]] w fun e w' => e = .returned (.bool (graphB ⟨n, xs⟩)) ∧ Fr w w' := by
  obtain ⟨ao, ba, oa, ca, rfl, hca, hma, fa⟩ := hv.one
  have FA := Lib.hid fa
  clear hv fa
  by_cases hn : 1 ≤ n ∧ n ≤ 12
  · have gN : decide (1 ≤ n ∧ n ≤ 12) = true := by simp [hn]
    by_cases hl : xs.length ≤ 40
    · have hN : Hid (∀ k, k < xs.length → edgK n xs k = false → graphB ⟨n, xs⟩ = false) := Lib.hid fun k hk h => graphB_no (g := ⟨n, xs⟩) hk h
      have hY : Hid ((∀ j, j < xs.length → edgK n xs j = true) → graphB ⟨n, xs⟩ = true) := Lib.hid fun h => graphB_ok (g := ⟨n, xs⟩) hn hl h
      have hn1 := hn.1
      have hn2 := hn.2
      clear hn
      go_enter Try.func69, Try.ntmps69
      go_wp2_with (go_at_call 84; refine (l01In_any _ _ _ _).mono ?_; rintro e w1 ⟨rfl, rfl⟩)
      go_loopw [3, 4] (fun i _ wr => ∃ k : Nat, k ≤ xs.length ∧ i = .int .i64 k ∧ Fr w wr ∧ Hid (∀ j, j < k → edgK n xs j = true) ∧ Box wr w.heap.size #[.int .i64 n, .slice ao xs.length ca] 51) (fun i _ _ => xs.length - (intOf i).toNat)
      case atStart => exact ⟨0, Nat.zero_le _, rfl, by repeat (first | (with_reducible exact Fr.refl _) | (with_reducible assumption) | (with_reducible refine Fr.drewN ?_ _) | (with_reducible refine Fr.drew ?_) | (with_reducible refine Fr.alloc ?_ _) | (with_reducible refine Fr.setCell ?_ (by (first | (with_reducible assumption) | omega | (simp only [World.size_alloc, World.size_setCell, World.size_drew, World.heap_drewN]; omega) | (simp; done) | (simp; omega))) _) | (with_reducible refine Fr.trans ?_ (by with_reducible assumption))), Lib.hid (fun j hj => absurd hj (by omega)), Box.new _ _ _⟩
      case round =>
        obtain ⟨k, hk, rfl, hfr, hj, BX⟩ := hrel
        have FX := BX.facts
        have zr := BX.lt
        by_cases hlt : k < xs.length
        · obtain ⟨rfl, hba, fa⟩ := FA.out (by omega); obtain ⟨x, hx⟩ : ∃ x, edgeAt xs k = x := ⟨_, rfl⟩; obtain ⟨y, hy⟩ : ∃ y, edgeAt xs (k - 1) = y := ⟨_, rfl⟩; obtain ⟨g0, g1, g2⟩ := fa k hlt; obtain ⟨e0, e1, e2⟩ := fa (k - 1) (by omega); rw [hx] at g0 g1 g2; rw [hy] at e0 e1 e2; have c0 := (hfr.cell (p := ⟨ba, _, none⟩) hba).trans g0; have c1 := (hfr.cell (p := ⟨ba, _, none⟩) hba).trans g1; have c2 := (hfr.cell (p := ⟨ba, _, none⟩) hba).trans g2; have E0 := Lib.hid e0; have E1 := Lib.hid e1; have E2 := Lib.hid e2; have hbw : ba < wr.heap.size := Nat.lt_of_lt_of_le hba hfr.size; have hl := x.f1.toNat_lt; have HX := Lib.hid hx; have HY := Lib.hid hy; clear g0 g1 g2 e0 e1 e2 fa hx hy
          have hwn : IntKind.i64.wrap (n - 1) = n - 1 := IntWalk.i64_in _ (by omega)
          by_cases hf : 0 ≤ x.f0 ∧ x.f0 < n
          · have gF : decide (0 ≤ x.f0 ∧ x.f0 ≤ n - 1) = true := by simp; omega
            by_cases ht : 0 ≤ x.f2 ∧ x.f2 < n
            · have gT : decide (0 ≤ x.f2 ∧ x.f2 ≤ n - 1) = true := by simp; omega
              by_cases hl1 : 97 ≤ x.f1.toNat
              · have gA : decide ((x.f1.toNat : Int) < 97) = false := by simp; omega
                by_cases hl2 : x.f1.toNat ≤ 100
                · have gB : decide (100 < (x.f1.toNat : Int)) = false := by simp; omega
                  have HK := Lib.hid (fun h => edgK_ok (n := n) HX.out HY.out hf ht ⟨hl1, hl2⟩ h)
                  clear hf ht
                  by_cases hz : k = 0
                  · have hF : Hid (edgK n xs k = true) := Lib.hid (HK.out (.inl hz))
                    subst hz
                    simp only [Nat.zero_mul, Nat.add_zero] at c0 c1 c2
                    go_wp2
                    go_quiet (first | (go_at_call 84; exact Calls.quiet_of_same ((l01In_any _ _ _ _).mono fun _ _ h => ⟨h.1, h.2.symm⟩)))
                    go_wp2
                    go_roundw
                    case rel => exact ⟨1, by omega, by go_num, by repeat (first | (with_reducible exact Fr.refl _) | (with_reducible assumption) | (with_reducible refine Fr.drewN ?_ _) | (with_reducible refine Fr.drew ?_) | (with_reducible refine Fr.alloc ?_ _) | (with_reducible refine Fr.setCell ?_ (by (first | (with_reducible assumption) | omega | (simp only [World.size_alloc, World.size_setCell, World.size_drew, World.heap_drewN]; omega) | (simp; done) | (simp; omega))) _) | (with_reducible refine Fr.trans ?_ (by with_reducible assumption))), Lib.hid (fun j h => by obtain rfl : j = 0 := (by omega); exact hF.out), BX.fr (by repeat (first | (with_reducible exact Fr.refl _) | (with_reducible assumption) | (with_reducible refine Fr.drewN ?_ _) | (with_reducible refine Fr.drew ?_) | (with_reducible refine Fr.alloc ?_ _) | (with_reducible refine Fr.setCell ?_ (by (first | (with_reducible assumption) | omega | (simp only [World.size_alloc, World.size_setCell, World.size_drew, World.heap_drewN]; omega) | (simp; done) | (simp; omega))) _) | (with_reducible refine Fr.trans ?_ (by with_reducible assumption))))⟩
                    case measure => (simp [intOf]; omega)
                  · have hk0 : 0 < k := by omega
                    have gk : decide (0 < (k : Int)) = true := by simp; omega
                    have hk2 : ((k - 1 : Nat) : Int) < xs.length := by omega
                    have hwk : IntKind.i64.wrap ((k : Int) - 1) = ((k - 1 : Nat) : Int) := by rw [IntWalk.i64_in _ (by omega)]; omega
                    have RG : ∀ w', Sf (wr.alloc (.cells #[.int .i64 x.f0, .int .u8 (x.f1.toNat : Int), .int .i64 x.f2] 170)) w' → ∀ o, w'.cell? ⟨w.heap.size, o, none⟩ = #[Value.int .i64 n, .slice (some ⟨ba, oa, none⟩) xs.length ca][o]? := fun w' h o => ((BX.alloc _).fr h.out).cell o
                    have RX : ∀ w', Sf (wr.alloc (.cells #[.int .i64 x.f0, .int .u8 (x.f1.toNat : Int), .int .i64 x.f2] 170)) w' → ∀ o, w'.cell? ⟨wr.heap.size, o, none⟩ = #[Value.int .i64 x.f0, .int .u8 (x.f1.toNat : Int), .int .i64 x.f2][o]? := fun w' h o => ((Box.new _ _ _).fr h.out).cell o
                    have P0 : ∀ w', Sf (wr.alloc (.cells #[.int .i64 x.f0, .int .u8 (x.f1.toNat : Int), .int .i64 x.f2] 170)) w' → w'.cell? _ = _ := fun w' h => ((hfr.trans (((Fr.refl _).alloc _).trans h.out)).cell (p := ⟨ba, _, none⟩) hba).trans E0.out
                    have P1 : ∀ w', Sf (wr.alloc (.cells #[.int .i64 x.f0, .int .u8 (x.f1.toNat : Int), .int .i64 x.f2] 170)) w' → w'.cell? _ = _ := fun w' h => ((hfr.trans (((Fr.refl _).alloc _).trans h.out)).cell (p := ⟨ba, _, none⟩) hba).trans E1.out
                    have P2 : ∀ w', Sf (wr.alloc (.cells #[.int .i64 x.f0, .int .u8 (x.f1.toNat : Int), .int .i64 x.f2] 170)) w' → w'.cell? _ = _ := fun w' h => ((hfr.trans (((Fr.refl _).alloc _).trans h.out)).cell (p := ⟨ba, _, none⟩) hba).trans E2.out
                    cases hL : edgeLt y x
                    · have hF := Lib.hid (hN.out k hlt (edgK_less HX.out HY.out hk0 hL))
                      have CT : Hid (∀ w', Calls Try.prog 133 #[.agg #[.int .i64 y.f0, .int .u8 (y.f1.toNat : Int), .int .i64 y.f2], .agg #[.int .i64 x.f0, .int .u8 (x.f1.toNat : Int), .int .i64 x.f2]] w' fun e w'' => e = .returned (.bool false) ∧ Fr w' w'') := Lib.hid fun w' => by rw [← hL]; exact specEdgeLess_any y x w'
                      clear hL
                      go_wp2_with fail
                      go_region_held3 (fun w' => Sf (wr.alloc (.cells #[.int .i64 x.f0, .int .u8 (x.f1.toNat : Int), .int .i64 x.f2] 170)) w') ((refine Sf.mk ?_; repeat (first | (with_reducible exact Fr.refl _) | (with_reducible assumption) | (with_reducible refine Fr.drewN ?_ _) | (with_reducible refine Fr.drew ?_) | (with_reducible refine Fr.alloc ?_ _) | (with_reducible refine Fr.setCell ?_ (by (first | (with_reducible assumption) | omega | (simp only [World.size_alloc, World.size_setCell, World.size_drew, World.heap_drewN]; omega) | (simp; done) | (simp; omega))) _) | (with_reducible refine Fr.trans ?_ (by with_reducible assumption))))) (first | (go_at_call 84; refine (l01In_any _ _ _ _).mono ?_; rintro e w1 ⟨rfl, rfl⟩) | (go_at_call 133; refine (CT.out _).mono ?_; rintro e w5 ⟨rfl, hf5⟩))
                      all_goals
                        go_wp2_with fail
                        go_ret
                        (exact ⟨ret_bool hF.out.symm, by repeat (first | (with_reducible exact Fr.refl _) | (with_reducible assumption) | (with_reducible refine Fr.drewN ?_ _) | (with_reducible refine Fr.drew ?_) | (with_reducible refine Fr.alloc ?_ _) | (with_reducible refine Fr.setCell ?_ (by (first | (with_reducible assumption) | omega | (simp only [World.size_alloc, World.size_setCell, World.size_drew, World.heap_drewN]; omega) | (simp; done) | (simp; omega))) _) | (with_reducible refine Fr.trans ?_ (by with_reducible assumption)))⟩)
                    · have hF : Hid (edgK n xs k = true) := Lib.hid (HK.out (.inr hL))
                      have CT : Hid (∀ w', Calls Try.prog 133 #[.agg #[.int .i64 y.f0, .int .u8 (y.f1.toNat : Int), .int .i64 y.f2], .agg #[.int .i64 x.f0, .int .u8 (x.f1.toNat : Int), .int .i64 x.f2]] w' fun e w'' => e = .returned (.bool true) ∧ Fr w' w'') := Lib.hid fun w' => by rw [← hL]; exact specEdgeLess_any y x w'
                      clear hL
                      go_wp2_with fail
                      go_region_held3 (fun w' => Sf (wr.alloc (.cells #[.int .i64 x.f0, .int .u8 (x.f1.toNat : Int), .int .i64 x.f2] 170)) w') ((refine Sf.mk ?_; repeat (first | (with_reducible exact Fr.refl _) | (with_reducible assumption) | (with_reducible refine Fr.drewN ?_ _) | (with_reducible refine Fr.drew ?_) | (with_reducible refine Fr.alloc ?_ _) | (with_reducible refine Fr.setCell ?_ (by (first | (with_reducible assumption) | omega | (simp only [World.size_alloc, World.size_setCell, World.size_drew, World.heap_drewN]; omega) | (simp; done) | (simp; omega))) _) | (with_reducible refine Fr.trans ?_ (by with_reducible assumption))))) (first | (go_at_call 84; refine (l01In_any _ _ _ _).mono ?_; rintro e w1 ⟨rfl, rfl⟩) | (go_at_call 133; refine (CT.out _).mono ?_; rintro e w5 ⟨rfl, hf5⟩))
                      all_goals
                        clear hwk
                        go_wp2_with fail
                        go_roundw
                        (case rel => exact ⟨k + 1, by omega, by go_num, by repeat (first | (with_reducible exact Fr.refl _) | (with_reducible assumption) | (with_reducible refine Fr.drewN ?_ _) | (with_reducible refine Fr.drew ?_) | (with_reducible refine Fr.alloc ?_ _) | (with_reducible refine Fr.setCell ?_ (by (first | (with_reducible assumption) | omega | (simp only [World.size_alloc, World.size_setCell, World.size_drew, World.heap_drewN]; omega) | (simp; done) | (simp; omega))) _) | (with_reducible refine Fr.trans ?_ (by with_reducible assumption))), Lib.hid (fun j h => (by rcases Nat.lt_succ_iff_lt_or_eq.1 h with h | rfl; exact hj.out j h; exact hF.out)), BX.fr (by repeat (first | (with_reducible exact Fr.refl _) | (with_reducible assumption) | (with_reducible refine Fr.drewN ?_ _) | (with_reducible refine Fr.drew ?_) | (with_reducible refine Fr.alloc ?_ _) | (with_reducible refine Fr.setCell ?_ (by (first | (with_reducible assumption) | omega | (simp only [World.size_alloc, World.size_setCell, World.size_drew, World.heap_drewN]; omega) | (simp; done) | (simp; omega))) _) | (with_reducible refine Fr.trans ?_ (by with_reducible assumption))))⟩); (case measure => (simp [intOf]; omega))
                · have gB : decide (100 < (x.f1.toNat : Int)) = true := by simp; omega
                  have hF := Lib.hid (hN.out k hlt (edgK_label HX.out (by omega)))
                  clear hf ht
                  go_wp2
                  go_quiet (first | (go_at_call 84; exact Calls.quiet_of_same ((l01In_any _ _ _ _).mono fun _ _ h => ⟨h.1, h.2.symm⟩)))
                  go_wp2
                  go_ret
                  (exact ⟨ret_bool hF.out.symm, by repeat (first | (with_reducible exact Fr.refl _) | (with_reducible assumption) | (with_reducible refine Fr.drewN ?_ _) | (with_reducible refine Fr.drew ?_) | (with_reducible refine Fr.alloc ?_ _) | (with_reducible refine Fr.setCell ?_ (by (first | (with_reducible assumption) | omega | (simp only [World.size_alloc, World.size_setCell, World.size_drew, World.heap_drewN]; omega) | (simp; done) | (simp; omega))) _) | (with_reducible refine Fr.trans ?_ (by with_reducible assumption)))⟩)
              · have gA : decide ((x.f1.toNat : Int) < 97) = true := by simp; omega
                have hF := Lib.hid (hN.out k hlt (edgK_label HX.out (by omega)))
                clear hf ht
                go_wp2
                go_quiet (first | (go_at_call 84; exact Calls.quiet_of_same ((l01In_any _ _ _ _).mono fun _ _ h => ⟨h.1, h.2.symm⟩)))
                go_wp2
                go_ret
                (exact ⟨ret_bool hF.out.symm, by repeat (first | (with_reducible exact Fr.refl _) | (with_reducible assumption) | (with_reducible refine Fr.drewN ?_ _) | (with_reducible refine Fr.drew ?_) | (with_reducible refine Fr.alloc ?_ _) | (with_reducible refine Fr.setCell ?_ (by (first | (with_reducible assumption) | omega | (simp only [World.size_alloc, World.size_setCell, World.size_drew, World.heap_drewN]; omega) | (simp; done) | (simp; omega))) _) | (with_reducible refine Fr.trans ?_ (by with_reducible assumption)))⟩)
            · have gT : decide (0 ≤ x.f2 ∧ x.f2 ≤ n - 1) = false := by rw [decide_eq_false_iff_not]; omega
              have hF := Lib.hid (hN.out k hlt (edgK_to HX.out ht))
              clear hf ht
              go_wp2
              go_quiet (first | (go_at_call 84; exact Calls.quiet_of_same ((l01In_any _ _ _ _).mono fun _ _ h => ⟨h.1, h.2.symm⟩)))
              go_wp2
              go_ret
              (exact ⟨ret_bool hF.out.symm, by repeat (first | (with_reducible exact Fr.refl _) | (with_reducible assumption) | (with_reducible refine Fr.drewN ?_ _) | (with_reducible refine Fr.drew ?_) | (with_reducible refine Fr.alloc ?_ _) | (with_reducible refine Fr.setCell ?_ (by (first | (with_reducible assumption) | omega | (simp only [World.size_alloc, World.size_setCell, World.size_drew, World.heap_drewN]; omega) | (simp; done) | (simp; omega))) _) | (with_reducible refine Fr.trans ?_ (by with_reducible assumption)))⟩)
          · have gF : decide (0 ≤ x.f0 ∧ x.f0 ≤ n - 1) = false := by rw [decide_eq_false_iff_not]; omega
            have hF := Lib.hid (hN.out k hlt (edgK_from HX.out hf))
            clear hf
            go_wp2
            go_quiet (first | (go_at_call 84; exact Calls.quiet_of_same ((l01In_any _ _ _ _).mono fun _ _ h => ⟨h.1, h.2.symm⟩)))
            go_wp2
            go_ret
            (exact ⟨ret_bool hF.out.symm, by repeat (first | (with_reducible exact Fr.refl _) | (with_reducible assumption) | (with_reducible refine Fr.drewN ?_ _) | (with_reducible refine Fr.drew ?_) | (with_reducible refine Fr.alloc ?_ _) | (with_reducible refine Fr.setCell ?_ (by (first | (with_reducible assumption) | omega | (simp only [World.size_alloc, World.size_setCell, World.size_drew, World.heap_drewN]; omega) | (simp; done) | (simp; omega))) _) | (with_reducible refine Fr.trans ?_ (by with_reducible assumption)))⟩)
        · have hF : Hid (graphB ⟨n, xs⟩ = true) := Lib.hid (hY.out (fun j h => hj.out j (by omega)))
          go_wp2
          go_ret
          (exact ⟨ret_bool hF.out.symm, by repeat (first | (with_reducible exact Fr.refl _) | (with_reducible assumption) | (with_reducible refine Fr.drewN ?_ _) | (with_reducible refine Fr.drew ?_) | (with_reducible refine Fr.alloc ?_ _) | (with_reducible refine Fr.setCell ?_ (by (first | (with_reducible assumption) | omega | (simp only [World.size_alloc, World.size_setCell, World.size_drew, World.heap_drewN]; omega) | (simp; done) | (simp; omega))) _) | (with_reducible refine Fr.trans ?_ (by with_reducible assumption)))⟩)
    · have hF : Hid (graphB ⟨n, xs⟩ = false) := Lib.hid (graphB_long (g := ⟨n, xs⟩) hl)
      clear hn
      go_enter Try.func69, Try.ntmps69
      go_wp2_with (go_at_call 84; refine (l01In_any _ _ _ _).mono ?_; rintro e w1 ⟨rfl, rfl⟩)
      go_ret
      (exact ⟨ret_bool hF.out.symm, by repeat (first | (with_reducible exact Fr.refl _) | (with_reducible assumption) | (with_reducible refine Fr.drewN ?_ _) | (with_reducible refine Fr.drew ?_) | (with_reducible refine Fr.alloc ?_ _) | (with_reducible refine Fr.setCell ?_ (by (first | (with_reducible assumption) | omega | (simp only [World.size_alloc, World.size_setCell, World.size_drew, World.heap_drewN]; omega) | (simp; done) | (simp; omega))) _) | (with_reducible refine Fr.trans ?_ (by with_reducible assumption)))⟩)
  · have gN : decide (1 ≤ n ∧ n ≤ 12) = false := by simpa using hn
    have hF : Hid (graphB ⟨n, xs⟩ = false) := Lib.hid (graphB_size (g := ⟨n, xs⟩) hn)
    clear hn
    go_enter Try.func69, Try.ntmps69
    go_wp2_with (go_at_call 84; refine (l01In_any _ _ _ _).mono ?_; rintro e w1 ⟨rfl, rfl⟩)
    go_ret
    (exact ⟨ret_bool hF.out.symm, by repeat (first | (with_reducible exact Fr.refl _) | (with_reducible assumption) | (with_reducible refine Fr.drewN ?_ _) | (with_reducible refine Fr.drew ?_) | (with_reducible refine Fr.alloc ?_ _) | (with_reducible refine Fr.setCell ?_ (by (first | (with_reducible assumption) | omega | (simp only [World.size_alloc, World.size_setCell, World.size_drew, World.heap_drewN]; omega) | (simp; done) | (simp; omega))) _) | (with_reducible refine Fr.trans ?_ (by with_reducible assumption)))⟩)
set_option maxHeartbeats 4000000 in
set_option maxRecDepth 100000 in
theorem implGraphOk_any (v : Value) (n : Int) (xs : List EdgeR) (w : World) (hv : EdgesR w v xs) :
    Calls Try.prog 144 #[.agg #[.int .i64 n, v]] w fun e w' => e = .returned (.bool (graphB ⟨n, xs⟩)) ∧ Fr w w' := by
  obtain ⟨ao, ba, oa, ca, rfl, hca, hma, fa⟩ := hv.one
  have FA := Lib.hid fa
  clear hv fa
  by_cases hn1 : 1 ≤ n
  · by_cases hn2 : n ≤ 12
    · by_cases hl : xs.length ≤ 40
      · have hN : Hid (∀ k, k < xs.length → edgK n xs k = false → graphB ⟨n, xs⟩ = false) := Lib.hid fun k hk h => graphB_no (g := ⟨n, xs⟩) hk h
        have hY : Hid ((∀ j, j < xs.length → edgK n xs j = true) → graphB ⟨n, xs⟩ = true) := Lib.hid fun h => graphB_ok (g := ⟨n, xs⟩) ⟨hn1, hn2⟩ hl h
        have CV : Hid (∀ (x : Int) w', Calls Try.prog 173 #[.agg #[.int .i64 n, .slice ao xs.length ca], .int .i64 x] w' fun e w'' => e = .returned (.bool (decide (0 ≤ x ∧ x < n))) ∧ Fr w' w'') := Lib.hid fun x w' => isVertex_any n _ x w'
        go_enter Try.func144, Try.ntmps144
        go_wp2
        go_loopw [3, 4, 22] (fun _ _ i wr => ∃ k : Nat, k ≤ xs.length ∧ i = .int .i64 k ∧ Fr w wr ∧ Hid (∀ j, j < k → edgK n xs j = true) ∧ Box wr w.heap.size #[.int .i64 n, .slice ao xs.length ca] 51) (fun _ _ i _ => xs.length - (intOf i).toNat)
        case atStart => exact ⟨0, Nat.zero_le _, rfl, by repeat (first | (with_reducible exact Fr.refl _) | (with_reducible assumption) | (with_reducible refine Fr.drewN ?_ _) | (with_reducible refine Fr.drew ?_) | (with_reducible refine Fr.alloc ?_ _) | (with_reducible refine Fr.setCell ?_ (by (first | (with_reducible assumption) | omega | (simp only [World.size_alloc, World.size_setCell, World.size_drew, World.heap_drewN]; omega) | (simp; done) | (simp; omega))) _) | (with_reducible refine Fr.trans ?_ (by with_reducible assumption))), Lib.hid (fun j hj => absurd hj (by omega)), Box.new _ _ _⟩
        case round =>
          obtain ⟨k, hk, rfl, hfr, hj, BX⟩ := hrel
          have FX := BX.facts
          have zr := BX.lt
          by_cases hlt : k < xs.length
          · obtain ⟨rfl, hba, fa⟩ := FA.out (by omega); obtain ⟨x, hx⟩ : ∃ x, edgeAt xs k = x := ⟨_, rfl⟩; obtain ⟨y, hy⟩ : ∃ y, edgeAt xs (k - 1) = y := ⟨_, rfl⟩; obtain ⟨g0, g1, g2⟩ := fa k hlt; obtain ⟨e0, e1, e2⟩ := fa (k - 1) (by omega); rw [hx] at g0 g1 g2; rw [hy] at e0 e1 e2; have c0 := (hfr.cell (p := ⟨ba, _, none⟩) hba).trans g0; have c1 := (hfr.cell (p := ⟨ba, _, none⟩) hba).trans g1; have c2 := (hfr.cell (p := ⟨ba, _, none⟩) hba).trans g2; have E0 := Lib.hid e0; have E1 := Lib.hid e1; have E2 := Lib.hid e2; have hbw : ba < wr.heap.size := Nat.lt_of_lt_of_le hba hfr.size; have hl := x.f1.toNat_lt; have HX := Lib.hid hx; have HY := Lib.hid hy; clear g0 g1 g2 e0 e1 e2 fa hx hy
            by_cases hf : 0 ≤ x.f0 ∧ x.f0 < n
            · have gF : decide (0 ≤ x.f0 ∧ x.f0 < n) = true := by simp [hf]
              by_cases ht : 0 ≤ x.f2 ∧ x.f2 < n
              · have gT : decide (0 ≤ x.f2 ∧ x.f2 < n) = true := by simp [ht]
                by_cases hl1 : 97 ≤ x.f1.toNat ∧ x.f1.toNat ≤ 100
                · have gA : decide (97 ≤ x.f1.toNat ∧ x.f1.toNat ≤ 100) = true := by simp [hl1]
                  have HK := Lib.hid (fun h => edgK_ok (n := n) HX.out HY.out hf ht hl1 h)
                  clear hf ht hl1
                  go_wp2_with fail
                  refine (CV.out _ _).mono ?_
                  rintro e w2 ⟨rfl, hf2⟩
                  have BG2 := ((BX.alloc (.cells #[.int .i64 x.f0, .int .u8 (x.f1.toNat : Int), .int .i64 x.f2] 170)).fr hf2)
                  have BE2 : Box w2 wr.heap.size #[.int .i64 x.f0, .int .u8 (x.f1.toNat : Int), .int .i64 x.f2] 170 := (Box.new _ _ _).fr hf2
                  have FG2 := BG2.facts
                  have FE2 := BE2.facts
                  rw [gF]
                  go_wp2_with fail
                  refine (CV.out _ _).mono ?_
                  rintro e w3 ⟨rfl, hf3⟩
                  have BG3 := BG2.fr hf3
                  have BE3 := BE2.fr hf3
                  clear FG2 FE2 FX
                  have FG3 := BG3.facts
                  have FE3 := BE3.facts
                  rw [gT]
                  go_wp2_with fail
                  refine (isLabel_any x.f1 _).mono ?_
                  rintro e w4 ⟨rfl, rfl⟩
                  rw [gA]
                  by_cases hz : k = 0
                  · have hF : Hid (edgK n xs k = true) := Lib.hid (HK.out (.inl hz))
                    subst hz
                    go_wp2
                    go_quiet (fail)
                    go_wp2
                    go_roundw
                    case rel => exact ⟨1, by omega, by go_num, by repeat (first | (with_reducible exact Fr.refl _) | (with_reducible assumption) | (with_reducible refine Fr.drewN ?_ _) | (with_reducible refine Fr.drew ?_) | (with_reducible refine Fr.alloc ?_ _) | (with_reducible refine Fr.setCell ?_ (by (first | (with_reducible assumption) | omega | (simp only [World.size_alloc, World.size_setCell, World.size_drew, World.heap_drewN]; omega) | (simp; done) | (simp; omega))) _) | (with_reducible refine Fr.trans ?_ (by with_reducible assumption))), Lib.hid (fun j h => by obtain rfl : j = 0 := (by omega); exact hF.out), BX.fr (by repeat (first | (with_reducible exact Fr.refl _) | (with_reducible assumption) | (with_reducible refine Fr.drewN ?_ _) | (with_reducible refine Fr.drew ?_) | (with_reducible refine Fr.alloc ?_ _) | (with_reducible refine Fr.setCell ?_ (by (first | (with_reducible assumption) | omega | (simp only [World.size_alloc, World.size_setCell, World.size_drew, World.heap_drewN]; omega) | (simp; done) | (simp; omega))) _) | (with_reducible refine Fr.trans ?_ (by with_reducible assumption))))⟩
                    case measure => (simp [intOf]; omega)
                  · have hk0 : 0 < k := by omega
                    have gk : decide (0 < (k : Int)) = true := by simp; omega
                    have hk2 : ((k - 1 : Nat) : Int) < xs.length := by omega
                    have hwk : IntKind.i64.wrap ((k : Int) - 1) = ((k - 1 : Nat) : Int) := by rw [IntWalk.i64_in _ (by omega)]; omega
                    have hfw : Hid (Fr w w4) := Lib.hid (by repeat (first | (with_reducible exact Fr.refl _) | (with_reducible assumption) | (with_reducible refine Fr.drewN ?_ _) | (with_reducible refine Fr.drew ?_) | (with_reducible refine Fr.alloc ?_ _) | (with_reducible refine Fr.setCell ?_ (by (first | (with_reducible assumption) | omega | (simp only [World.size_alloc, World.size_setCell, World.size_drew, World.heap_drewN]; omega) | (simp; done) | (simp; omega))) _) | (with_reducible refine Fr.trans ?_ (by with_reducible assumption))))
                    have RG : ∀ w', Sf w4 w' → ∀ o, w'.cell? ⟨w.heap.size, o, none⟩ = #[Value.int .i64 n, .slice (some ⟨ba, oa, none⟩) xs.length ca][o]? := fun w' h o => (BG3.fr h.out).cell o
                    have RX : ∀ w', Sf w4 w' → ∀ o, w'.cell? ⟨wr.heap.size, o, none⟩ = #[Value.int .i64 x.f0, .int .u8 (x.f1.toNat : Int), .int .i64 x.f2][o]? := fun w' h o => (BE3.fr h.out).cell o
                    have P0 : ∀ w', Sf w4 w' → w'.cell? _ = _ := fun w' h => ((hfw.out.trans h.out).cell (p := ⟨ba, _, none⟩) hba).trans E0.out
                    have P1 : ∀ w', Sf w4 w' → w'.cell? _ = _ := fun w' h => ((hfw.out.trans h.out).cell (p := ⟨ba, _, none⟩) hba).trans E1.out
                    have P2 : ∀ w', Sf w4 w' → w'.cell? _ = _ := fun w' h => ((hfw.out.trans h.out).cell (p := ⟨ba, _, none⟩) hba).trans E2.out
                    cases hL : edgeLt y x
                    · have hF := Lib.hid (hN.out k hlt (edgK_less HX.out HY.out hk0 hL))
                      have CT : Hid (∀ w', Calls Try.prog 175 #[.agg #[.int .i64 y.f0, .int .u8 (y.f1.toNat : Int), .int .i64 y.f2], .agg #[.int .i64 x.f0, .int .u8 (x.f1.toNat : Int), .int .i64 x.f2]] w' fun e w'' => e = .returned (.bool false) ∧ Fr w' w'') := Lib.hid fun w' => by rw [← hL]; exact implEdgeLess_any y x w'
                      clear hL
                      go_wp2_with fail
                      go_region_held3 (fun w' => Sf w4 w') ((refine Sf.mk ?_; repeat (first | (with_reducible exact Fr.refl _) | (with_reducible assumption) | (with_reducible refine Fr.drewN ?_ _) | (with_reducible refine Fr.drew ?_) | (with_reducible refine Fr.alloc ?_ _) | (with_reducible refine Fr.setCell ?_ (by (first | (with_reducible assumption) | omega | (simp only [World.size_alloc, World.size_setCell, World.size_drew, World.heap_drewN]; omega) | (simp; done) | (simp; omega))) _) | (with_reducible refine Fr.trans ?_ (by with_reducible assumption))))) (first | (go_at_call 175; refine (CT.out _).mono ?_; rintro e w5 ⟨rfl, hf5⟩))
                      all_goals
                        go_wp2_with fail
                        go_ret
                        (exact ⟨ret_bool hF.out.symm, by repeat (first | (with_reducible exact Fr.refl _) | (with_reducible assumption) | (with_reducible refine Fr.drewN ?_ _) | (with_reducible refine Fr.drew ?_) | (with_reducible refine Fr.alloc ?_ _) | (with_reducible refine Fr.setCell ?_ (by (first | (with_reducible assumption) | omega | (simp only [World.size_alloc, World.size_setCell, World.size_drew, World.heap_drewN]; omega) | (simp; done) | (simp; omega))) _) | (with_reducible refine Fr.trans ?_ (by with_reducible assumption)))⟩)
                    · have hF : Hid (edgK n xs k = true) := Lib.hid (HK.out (.inr hL))
                      have CT : Hid (∀ w', Calls Try.prog 175 #[.agg #[.int .i64 y.f0, .int .u8 (y.f1.toNat : Int), .int .i64 y.f2], .agg #[.int .i64 x.f0, .int .u8 (x.f1.toNat : Int), .int .i64 x.f2]] w' fun e w'' => e = .returned (.bool true) ∧ Fr w' w'') := Lib.hid fun w' => by rw [← hL]; exact implEdgeLess_any y x w'
                      clear hL
                      go_wp2_with fail
                      go_region_held3 (fun w' => Sf w4 w') ((refine Sf.mk ?_; repeat (first | (with_reducible exact Fr.refl _) | (with_reducible assumption) | (with_reducible refine Fr.drewN ?_ _) | (with_reducible refine Fr.drew ?_) | (with_reducible refine Fr.alloc ?_ _) | (with_reducible refine Fr.setCell ?_ (by (first | (with_reducible assumption) | omega | (simp only [World.size_alloc, World.size_setCell, World.size_drew, World.heap_drewN]; omega) | (simp; done) | (simp; omega))) _) | (with_reducible refine Fr.trans ?_ (by with_reducible assumption))))) (first | (go_at_call 175; refine (CT.out _).mono ?_; rintro e w5 ⟨rfl, hf5⟩))
                      all_goals
                        clear hwk
                        go_wp2_with fail
                        go_roundw
                        (case rel => exact ⟨k + 1, by omega, by go_num, by repeat (first | (with_reducible exact Fr.refl _) | (with_reducible assumption) | (with_reducible refine Fr.drewN ?_ _) | (with_reducible refine Fr.drew ?_) | (with_reducible refine Fr.alloc ?_ _) | (with_reducible refine Fr.setCell ?_ (by (first | (with_reducible assumption) | omega | (simp only [World.size_alloc, World.size_setCell, World.size_drew, World.heap_drewN]; omega) | (simp; done) | (simp; omega))) _) | (with_reducible refine Fr.trans ?_ (by with_reducible assumption))), Lib.hid (fun j h => (by rcases Nat.lt_succ_iff_lt_or_eq.1 h with h | rfl; exact hj.out j h; exact hF.out)), BX.fr (by repeat (first | (with_reducible exact Fr.refl _) | (with_reducible assumption) | (with_reducible refine Fr.drewN ?_ _) | (with_reducible refine Fr.drew ?_) | (with_reducible refine Fr.alloc ?_ _) | (with_reducible refine Fr.setCell ?_ (by (first | (with_reducible assumption) | omega | (simp only [World.size_alloc, World.size_setCell, World.size_drew, World.heap_drewN]; omega) | (simp; done) | (simp; omega))) _) | (with_reducible refine Fr.trans ?_ (by with_reducible assumption))))⟩); (case measure => (simp [intOf]; omega))
                · have gA : decide (97 ≤ x.f1.toNat ∧ x.f1.toNat ≤ 100) = false := by simpa using hl1
                  have hF := Lib.hid (hN.out k hlt (edgK_label HX.out hl1))
                  clear hf ht hl1
                  go_wp2_with fail
                  refine (CV.out _ _).mono ?_
                  rintro e w2 ⟨rfl, hf2⟩
                  have BG2 := ((BX.alloc (.cells #[.int .i64 x.f0, .int .u8 (x.f1.toNat : Int), .int .i64 x.f2] 170)).fr hf2)
                  have BE2 : Box w2 wr.heap.size #[.int .i64 x.f0, .int .u8 (x.f1.toNat : Int), .int .i64 x.f2] 170 := (Box.new _ _ _).fr hf2
                  have FG2 := BG2.facts
                  have FE2 := BE2.facts
                  rw [gF]
                  go_wp2_with fail
                  refine (CV.out _ _).mono ?_
                  rintro e w3 ⟨rfl, hf3⟩
                  have BG3 := BG2.fr hf3
                  have BE3 := BE2.fr hf3
                  clear FG2 FE2 FX
                  have FG3 := BG3.facts
                  have FE3 := BE3.facts
                  rw [gT]
                  go_wp2_with fail
                  refine (isLabel_any x.f1 _).mono ?_
                  rintro e w4 ⟨rfl, rfl⟩
                  rw [gA]
                  go_wp2
                  go_ret
                  (exact ⟨ret_bool hF.out.symm, by repeat (first | (with_reducible exact Fr.refl _) | (with_reducible assumption) | (with_reducible refine Fr.drewN ?_ _) | (with_reducible refine Fr.drew ?_) | (with_reducible refine Fr.alloc ?_ _) | (with_reducible refine Fr.setCell ?_ (by (first | (with_reducible assumption) | omega | (simp only [World.size_alloc, World.size_setCell, World.size_drew, World.heap_drewN]; omega) | (simp; done) | (simp; omega))) _) | (with_reducible refine Fr.trans ?_ (by with_reducible assumption)))⟩)
              · have gT : decide (0 ≤ x.f2 ∧ x.f2 < n) = false := by simpa using ht
                have hF := Lib.hid (hN.out k hlt (edgK_to HX.out ht))
                clear hf ht
                go_wp2_with fail
                refine (CV.out _ _).mono ?_
                rintro e w2 ⟨rfl, hf2⟩
                have BG2 := ((BX.alloc (.cells #[.int .i64 x.f0, .int .u8 (x.f1.toNat : Int), .int .i64 x.f2] 170)).fr hf2)
                have BE2 : Box w2 wr.heap.size #[.int .i64 x.f0, .int .u8 (x.f1.toNat : Int), .int .i64 x.f2] 170 := (Box.new _ _ _).fr hf2
                have FG2 := BG2.facts
                have FE2 := BE2.facts
                rw [gF]
                go_wp2_with fail
                refine (CV.out _ _).mono ?_
                rintro e w3 ⟨rfl, hf3⟩
                rw [gT]
                go_wp2
                go_ret
                (exact ⟨ret_bool hF.out.symm, by repeat (first | (with_reducible exact Fr.refl _) | (with_reducible assumption) | (with_reducible refine Fr.drewN ?_ _) | (with_reducible refine Fr.drew ?_) | (with_reducible refine Fr.alloc ?_ _) | (with_reducible refine Fr.setCell ?_ (by (first | (with_reducible assumption) | omega | (simp only [World.size_alloc, World.size_setCell, World.size_drew, World.heap_drewN]; omega) | (simp; done) | (simp; omega))) _) | (with_reducible refine Fr.trans ?_ (by with_reducible assumption)))⟩)
            · have gF : decide (0 ≤ x.f0 ∧ x.f0 < n) = false := by simpa using hf
              have hF := Lib.hid (hN.out k hlt (edgK_from HX.out hf))
              clear hf
              go_wp2_with fail
              refine (CV.out _ _).mono ?_
              rintro e w2 ⟨rfl, hf2⟩
              rw [gF]
              go_wp2
              go_ret
              (exact ⟨ret_bool hF.out.symm, by repeat (first | (with_reducible exact Fr.refl _) | (with_reducible assumption) | (with_reducible refine Fr.drewN ?_ _) | (with_reducible refine Fr.drew ?_) | (with_reducible refine Fr.alloc ?_ _) | (with_reducible refine Fr.setCell ?_ (by (first | (with_reducible assumption) | omega | (simp only [World.size_alloc, World.size_setCell, World.size_drew, World.heap_drewN]; omega) | (simp; done) | (simp; omega))) _) | (with_reducible refine Fr.trans ?_ (by with_reducible assumption)))⟩)
          · have hF : Hid (graphB ⟨n, xs⟩ = true) := Lib.hid (hY.out (fun j h => hj.out j (by omega)))
            go_wp2
            go_ret
            (exact ⟨ret_bool hF.out.symm, by repeat (first | (with_reducible exact Fr.refl _) | (with_reducible assumption) | (with_reducible refine Fr.drewN ?_ _) | (with_reducible refine Fr.drew ?_) | (with_reducible refine Fr.alloc ?_ _) | (with_reducible refine Fr.setCell ?_ (by (first | (with_reducible assumption) | omega | (simp only [World.size_alloc, World.size_setCell, World.size_drew, World.heap_drewN]; omega) | (simp; done) | (simp; omega))) _) | (with_reducible refine Fr.trans ?_ (by with_reducible assumption)))⟩)
      · have hF : Hid (graphB ⟨n, xs⟩ = false) := Lib.hid (graphB_long (g := ⟨n, xs⟩) hl)
        go_enter Try.func144, Try.ntmps144
        go_wp2
        go_ret
        (exact ⟨ret_bool hF.out.symm, by repeat (first | (with_reducible exact Fr.refl _) | (with_reducible assumption) | (with_reducible refine Fr.drewN ?_ _) | (with_reducible refine Fr.drew ?_) | (with_reducible refine Fr.alloc ?_ _) | (with_reducible refine Fr.setCell ?_ (by (first | (with_reducible assumption) | omega | (simp only [World.size_alloc, World.size_setCell, World.size_drew, World.heap_drewN]; omega) | (simp; done) | (simp; omega))) _) | (with_reducible refine Fr.trans ?_ (by with_reducible assumption)))⟩)
    · have hF : Hid (graphB ⟨n, xs⟩ = false) := Lib.hid (graphB_size (g := ⟨n, xs⟩) (by show ¬ (1 ≤ n ∧ n ≤ 12); omega))
      go_enter Try.func144, Try.ntmps144
      go_wp2
      go_ret
      (exact ⟨ret_bool hF.out.symm, by repeat (first | (with_reducible exact Fr.refl _) | (with_reducible assumption) | (with_reducible refine Fr.drewN ?_ _) | (with_reducible refine Fr.drew ?_) | (with_reducible refine Fr.alloc ?_ _) | (with_reducible refine Fr.setCell ?_ (by (first | (with_reducible assumption) | omega | (simp only [World.size_alloc, World.size_setCell, World.size_drew, World.heap_drewN]; omega) | (simp; done) | (simp; omega))) _) | (with_reducible refine Fr.trans ?_ (by with_reducible assumption)))⟩)
  · have hF : Hid (graphB ⟨n, xs⟩ = false) := Lib.hid (graphB_size (g := ⟨n, xs⟩) (by show ¬ (1 ≤ n ∧ n ≤ 12); omega))
    go_enter Try.func144, Try.ntmps144
    go_wp2
    go_ret
    (exact ⟨ret_bool hF.out.symm, by repeat (first | (with_reducible exact Fr.refl _) | (with_reducible assumption) | (with_reducible refine Fr.drewN ?_ _) | (with_reducible refine Fr.drew ?_) | (with_reducible refine Fr.alloc ?_ _) | (with_reducible refine Fr.setCell ?_ (by (first | (with_reducible assumption) | omega | (simp only [World.size_alloc, World.size_setCell, World.size_drew, World.heap_drewN]; omega) | (simp; done) | (simp; omega))) _) | (with_reducible refine Fr.trans ?_ (by with_reducible assumption)))⟩)
end Go.Proofs.Ytphjlecbhbcbcaa
