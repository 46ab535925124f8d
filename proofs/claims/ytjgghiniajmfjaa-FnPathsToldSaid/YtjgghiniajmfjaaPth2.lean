/- PathOk of the reference. No condition. -/
import Derived.Test.YtjgghiniajmfjaaPth
namespace Go.Proofs.Ytjgghiniajmfjaa
open Go.RowKit
set_option linter.unusedVariables false
set_option linter.unusedSimpArgs false
set_option maxHeartbeats 40000000 in
set_option maxRecDepth 100000 in
theorem specPathOk_any (v : Value) (ps : List PieceD) (w : World) (hv : PiecesR w v ps) :
    Calls Try.prog 26 #[.agg #[v]] w fun e w' => e = .returned (.bool (pathB ps)) ∧ Fr w w' := by
  have hvl : ps.length ≤ 9223372036854775807 := NestR.le hv
  obtain ⟨av, bv, ov, cv, rfl, hcv, hmv, fv⟩ := hv.one
  have FV := Lib.hid fv
  clear hv fv
  have HN : Hid (∀ k, k < ps.length → pieceB (nAt ps k) k = false → pathB ps = false) := Lib.hid fun k hk h => pathB_no hk h
  have HY : Hid ((∀ j, j < ps.length → pieceB (nAt ps j) j = true) → pathB ps = decide ((1 : Int) ≤ (ps.length : Int) ∧ (ps.length : Int) ≤ 60)) := Lib.hid fun h => by rw [pathB_ok h, Bool.eq_iff_iff, decide_eq_true_eq, decide_eq_true_eq]; omega
  go_enter Try.func26, Try.ntmps26
  go_wp2_with fail
  go_loopw [3, 4, 5, 6] (fun i _ _ _ wr => ∃ k : Nat, k ≤ ps.length ∧ i = .int .i64 k ∧ Fr w wr ∧ Hid (∀ j, j < k → pieceB (nAt ps j) j = true) ∧ Box wr w.heap.size #[.slice av ps.length cv] 27) (fun i _ _ _ _ => ps.length - (intOf i).toNat)
  case atStart => exact ⟨0, Nat.zero_le _, rfl, by repeat (first | (with_reducible exact Fr.refl _) | (with_reducible assumption) | (with_reducible refine Fr.drewN ?_ _) | (with_reducible refine Fr.drew ?_) | (with_reducible refine Fr.alloc ?_ _) | (with_reducible refine Fr.setCell ?_ (by (first | (with_reducible assumption) | omega | (simp only [World.size_alloc, World.size_setCell, World.size_drew, World.heap_drewN]; omega) | (simp; done) | (simp; omega))) _) | (with_reducible refine Fr.trans ?_ (by with_reducible assumption))), Lib.hid (fun j hj => absurd hj (by omega)), Box.new _ _ _⟩
  case round =>
    obtain ⟨k, hk, rfl, hfr, hj, BW⟩ := hrel
    have FW := BW.facts
    have zr := hfr.size
    by_cases hlt : k < ps.length
    · obtain ⟨rfl, hbv, fv⟩ := FV.out (by omega)
      obtain ⟨va, ha, g0, g1, g2⟩ := fv k hlt
      obtain ⟨x, hx⟩ : ∃ x, nAt ps k = x := ⟨_, rfl⟩
      rw [hx] at ha g0 g1
      have c0 := (hfr.cell (p := ⟨bv, _, none⟩) hbv).trans g0
      have c1 := (hfr.cell (p := ⟨bv, _, none⟩) hbv).trans g1
      have c2 := (hfr.cell (p := ⟨bv, _, none⟩) hbv).trans g2
      have hxl := x.f1.toNat_lt
      obtain ⟨aa, ba, oa, ca, rfl, hca, hma, fa⟩ := ha.one
      have FA := Lib.hid fa
      have hwk : IntKind.i64.wrap ((k : Int) - 1) = (k : Int) - 1 := IntWalk.i64_in _ (by omega)
      obtain ⟨x0, x1, x2⟩ := x
      simp only [] at c0 c1 c2 hxl FA hca
      have HX := Lib.hid hx
      clear fv ha g0 g1 g2 hx fa
      by_cases h1 : x0 = 1
      · subst h1
        by_cases hlab : 97 ≤ x1.toNat ∧ x1.toNat ≤ 100
        · by_cases hlen : x2.length = 0
          · have HB : Hid (pieceB ⟨1, x1, x2⟩ k = kidsB k x2) := Lib.hid (by rw [List.eq_nil_of_length_eq_zero hlen]; unfold pieceB; simp [hlab, kidsB])
            obtain ⟨hlab1, hlab2⟩ := hlab
            have g1 : decide ((x1.toNat : Int) < 97) = false := by rw [decide_eq_false_iff_not]; omega
            have g2 : decide (100 < (x1.toNat : Int)) = false := by rw [decide_eq_false_iff_not]; omega
            go_wp2_with fail
            go_loopw [6] (fun q wz => ∃ m : Nat, m ≤ x2.length ∧ q = .int .i64 m ∧ Fr wr wz ∧ Hid (∀ j, j < m → 0 ≤ iAt x2 j ∧ iAt x2 j < (k : Int)) ∧ Box wz wr.heap.size #[.int .i64 1, .int .u8 (x1.toNat : Int), .slice aa 0 ca] 121) (fun q _ => x2.length - (intOf q).toNat)
            case atStart => exact ⟨0, Nat.zero_le _, rfl, by repeat (first | (with_reducible exact Fr.refl _) | (with_reducible assumption) | (with_reducible refine Fr.drewN ?_ _) | (with_reducible refine Fr.drew ?_) | (with_reducible refine Fr.alloc ?_ _) | (with_reducible refine Fr.setCell ?_ (by (first | (with_reducible assumption) | omega | (simp only [World.size_alloc, World.size_setCell, World.size_drew, World.heap_drewN]; omega) | (simp; done) | (simp; omega))) _) | (with_reducible refine Fr.trans ?_ (by with_reducible assumption))), Lib.hid (fun j hj => absurd hj (by omega)), Box.new _ _ _⟩
            case round =>
              obtain ⟨m, hm, rfl, hfz, hkj, BZ⟩ := hrel
              have FZ := BZ.facts
              have zz := hfz.size
              by_cases hmt : m < x2.length
              · exact absurd hmt (by omega)
              · have hj3 : Hid (∀ j, j < k + 1 → pieceB (nAt ps j) j = true) := Lib.hid fun j h => by
                  rcases Nat.lt_succ_iff_lt_or_eq.1 h with h | rfl
                  · exact hj.out j h
                  · rw [HX.out, HB.out]; exact kidsB_all (fun j h => hkj.out j (by omega))
                have BW2 := BW.fr hfz
                clear hwk
                go_wp2_with fail
                go_roundw
                case rel => exact ⟨k + 1, by omega, by go_num, by repeat (first | (with_reducible exact Fr.refl _) | (with_reducible assumption) | (with_reducible refine Fr.drewN ?_ _) | (with_reducible refine Fr.drew ?_) | (with_reducible refine Fr.alloc ?_ _) | (with_reducible refine Fr.setCell ?_ (by (first | (with_reducible assumption) | omega | (simp only [World.size_alloc, World.size_setCell, World.size_drew, World.heap_drewN]; omega) | (simp; done) | (simp; omega))) _) | (with_reducible refine Fr.trans ?_ (by with_reducible assumption))), hj3, BW2⟩
                case measure => (simp [intOf]; omega)
          · obtain ⟨hlab1, hlab2⟩ := hlab
            have hF := Lib.hid (HN.out k hlt (HX.out ▸ (by unfold pieceB; simp [hlen])))
            have g1 : decide ((x1.toNat : Int) < 97) = false := by rw [decide_eq_false_iff_not]; omega
            have g2 : decide (100 < (x1.toNat : Int)) = false := by rw [decide_eq_false_iff_not]; omega
            have g3 : ((x2.length : Int) != 0) = true := by rw [bne_iff_ne]; omega
            go_wp2_with fail
            go_ret
            exact ⟨ret_bool hF.out.symm, by repeat (first | (with_reducible exact Fr.refl _) | (with_reducible assumption) | (with_reducible refine Fr.drewN ?_ _) | (with_reducible refine Fr.drew ?_) | (with_reducible refine Fr.alloc ?_ _) | (with_reducible refine Fr.setCell ?_ (by (first | (with_reducible assumption) | omega | (simp only [World.size_alloc, World.size_setCell, World.size_drew, World.heap_drewN]; omega) | (simp; done) | (simp; omega))) _) | (with_reducible refine Fr.trans ?_ (by with_reducible assumption)))⟩
        · by_cases hlo : x1.toNat < 97
          · have g1 : decide ((x1.toNat : Int) < 97) = true := decide_eq_true (by omega)
            have hF := Lib.hid (HN.out k hlt (HX.out ▸ (by unfold pieceB; simp [hlab])))
            go_wp2_with fail
            go_ret
            exact ⟨ret_bool hF.out.symm, by repeat (first | (with_reducible exact Fr.refl _) | (with_reducible assumption) | (with_reducible refine Fr.drewN ?_ _) | (with_reducible refine Fr.drew ?_) | (with_reducible refine Fr.alloc ?_ _) | (with_reducible refine Fr.setCell ?_ (by (first | (with_reducible assumption) | omega | (simp only [World.size_alloc, World.size_setCell, World.size_drew, World.heap_drewN]; omega) | (simp; done) | (simp; omega))) _) | (with_reducible refine Fr.trans ?_ (by with_reducible assumption)))⟩
          · have g1 : decide ((x1.toNat : Int) < 97) = false := by rw [decide_eq_false_iff_not]; omega
            have g2 : decide (100 < (x1.toNat : Int)) = true := decide_eq_true (by omega)
            have hF := Lib.hid (HN.out k hlt (HX.out ▸ (by unfold pieceB; simp [hlab])))
            go_wp2_with fail
            go_ret
            exact ⟨ret_bool hF.out.symm, by repeat (first | (with_reducible exact Fr.refl _) | (with_reducible assumption) | (with_reducible refine Fr.drewN ?_ _) | (with_reducible refine Fr.drew ?_) | (with_reducible refine Fr.alloc ?_ _) | (with_reducible refine Fr.setCell ?_ (by (first | (with_reducible assumption) | omega | (simp only [World.size_alloc, World.size_setCell, World.size_drew, World.heap_drewN]; omega) | (simp; done) | (simp; omega))) _) | (with_reducible refine Fr.trans ?_ (by with_reducible assumption)))⟩
      by_cases h2 : x0 = 2
      · subst h2
        clear h1
        by_cases hlab : x1.toNat = 0
        · by_cases hlen : 2 ≤ x2.length
          · have HB : Hid (pieceB ⟨2, x1, x2⟩ k = kidsB k x2) := Lib.hid (by unfold pieceB; simp [hlab, hlen])
            go_wp2_with fail
            go_loopw [6] (fun q wz => ∃ m : Nat, m ≤ x2.length ∧ q = .int .i64 m ∧ Fr wr wz ∧ Hid (∀ j, j < m → 0 ≤ iAt x2 j ∧ iAt x2 j < (k : Int)) ∧ Box wz wr.heap.size #[.int .i64 2, .int .u8 0, .slice aa x2.length ca] 121) (fun q _ => x2.length - (intOf q).toNat)
            case atStart => exact ⟨0, Nat.zero_le _, rfl, by repeat (first | (with_reducible exact Fr.refl _) | (with_reducible assumption) | (with_reducible refine Fr.drewN ?_ _) | (with_reducible refine Fr.drew ?_) | (with_reducible refine Fr.alloc ?_ _) | (with_reducible refine Fr.setCell ?_ (by (first | (with_reducible assumption) | omega | (simp only [World.size_alloc, World.size_setCell, World.size_drew, World.heap_drewN]; omega) | (simp; done) | (simp; omega))) _) | (with_reducible refine Fr.trans ?_ (by with_reducible assumption))), Lib.hid (fun j hj => absurd hj (by omega)), Box.new _ _ _⟩
            case round =>
              obtain ⟨m, hm, rfl, hfz, hkj, BZ⟩ := hrel
              have FZ := BZ.facts
              have zz := hfz.size
              by_cases hmt : m < x2.length
              · obtain ⟨rfl, hba, fa⟩ := FA.out (by omega)
                obtain ⟨y, hy⟩ : ∃ y, iAt x2 m = y := ⟨_, rfl⟩
                have d0 := ((hfr.trans hfz).cell (p := ⟨ba, _, none⟩) hba).trans (hy ▸ fa m hmt)
                have HYK := Lib.hid hy
                clear fa hy
                by_cases hy0 : 0 ≤ y ∧ y ≤ (k : Int) - 1
                · have gy : decide (0 ≤ y ∧ y ≤ (k : Int) - 1) = true := decide_eq_true hy0
                  have hj2 : Hid (∀ j, j < m + 1 → 0 ≤ iAt x2 j ∧ iAt x2 j < (k : Int)) := Lib.hid fun j h => by
                    rcases Nat.lt_succ_iff_lt_or_eq.1 h with h | rfl
                    · exact hkj.out j h
                    · rw [HYK.out]; omega
                  clear hy0
                  go_wp2_with (go_at_call 94; refine (l01In_any _ _ _ _).mono ?_; rintro e w1 ⟨rfl, rfl⟩)
                  go_roundw
                  case rel => exact ⟨m + 1, by omega, by go_num, hfz, hj2, BZ⟩
                  case measure => first | (simp [intOf]; omega) | (simp [intOf]; done)
                · have gy : decide (0 ≤ y ∧ y ≤ (k : Int) - 1) = false := decide_eq_false hy0
                  have hF := Lib.hid (HN.out k hlt (HX.out ▸ (by rw [HB.out]; exact kidsB_no hmt HYK.out (by omega))))
                  clear hy0
                  go_wp2_with (go_at_call 94; refine (l01In_any _ _ _ _).mono ?_; rintro e w1 ⟨rfl, rfl⟩)
                  go_ret
                  exact ⟨ret_bool hF.out.symm, by repeat (first | (with_reducible exact Fr.refl _) | (with_reducible assumption) | (with_reducible refine Fr.drewN ?_ _) | (with_reducible refine Fr.drew ?_) | (with_reducible refine Fr.alloc ?_ _) | (with_reducible refine Fr.setCell ?_ (by (first | (with_reducible assumption) | omega | (simp only [World.size_alloc, World.size_setCell, World.size_drew, World.heap_drewN]; omega) | (simp; done) | (simp; omega))) _) | (with_reducible refine Fr.trans ?_ (by with_reducible assumption)))⟩
              · have hj3 : Hid (∀ j, j < k + 1 → pieceB (nAt ps j) j = true) := Lib.hid fun j h => by
                  rcases Nat.lt_succ_iff_lt_or_eq.1 h with h | rfl
                  · exact hj.out j h
                  · rw [HX.out, HB.out]; exact kidsB_all (fun j h => hkj.out j (by omega))
                have BW2 := BW.fr hfz
                clear hwk
                go_wp2_with fail
                go_roundw
                case rel => exact ⟨k + 1, by omega, by go_num, by repeat (first | (with_reducible exact Fr.refl _) | (with_reducible assumption) | (with_reducible refine Fr.drewN ?_ _) | (with_reducible refine Fr.drew ?_) | (with_reducible refine Fr.alloc ?_ _) | (with_reducible refine Fr.setCell ?_ (by (first | (with_reducible assumption) | omega | (simp only [World.size_alloc, World.size_setCell, World.size_drew, World.heap_drewN]; omega) | (simp; done) | (simp; omega))) _) | (with_reducible refine Fr.trans ?_ (by with_reducible assumption))), hj3, BW2⟩
                case measure => (simp [intOf]; omega)
          · have g3 : decide ((x2.length : Int) < 2) = true := decide_eq_true (by omega)
            have hF := Lib.hid (HN.out k hlt (HX.out ▸ (by unfold pieceB; simp [hlen])))
            go_wp2_with fail
            go_ret
            exact ⟨ret_bool hF.out.symm, by repeat (first | (with_reducible exact Fr.refl _) | (with_reducible assumption) | (with_reducible refine Fr.drewN ?_ _) | (with_reducible refine Fr.drew ?_) | (with_reducible refine Fr.alloc ?_ _) | (with_reducible refine Fr.setCell ?_ (by (first | (with_reducible assumption) | omega | (simp only [World.size_alloc, World.size_setCell, World.size_drew, World.heap_drewN]; omega) | (simp; done) | (simp; omega))) _) | (with_reducible refine Fr.trans ?_ (by with_reducible assumption)))⟩
        · have g1 : ((x1.toNat : Int) != 0) = true := by rw [bne_iff_ne]; omega
          have hF := Lib.hid (HN.out k hlt (HX.out ▸ (by unfold pieceB; simp [hlab])))
          go_wp2_with fail
          go_ret
          exact ⟨ret_bool hF.out.symm, by repeat (first | (with_reducible exact Fr.refl _) | (with_reducible assumption) | (with_reducible refine Fr.drewN ?_ _) | (with_reducible refine Fr.drew ?_) | (with_reducible refine Fr.alloc ?_ _) | (with_reducible refine Fr.setCell ?_ (by (first | (with_reducible assumption) | omega | (simp only [World.size_alloc, World.size_setCell, World.size_drew, World.heap_drewN]; omega) | (simp; done) | (simp; omega))) _) | (with_reducible refine Fr.trans ?_ (by with_reducible assumption)))⟩
      by_cases h3 : x0 = 3
      · subst h3
        clear h1 h2
        by_cases hlab : x1.toNat = 0
        · by_cases hlen : 2 ≤ x2.length
          · have HB : Hid (pieceB ⟨3, x1, x2⟩ k = kidsB k x2) := Lib.hid (by unfold pieceB; simp [hlab, hlen])
            go_wp2_with fail
            go_loopw [6] (fun q wz => ∃ m : Nat, m ≤ x2.length ∧ q = .int .i64 m ∧ Fr wr wz ∧ Hid (∀ j, j < m → 0 ≤ iAt x2 j ∧ iAt x2 j < (k : Int)) ∧ Box wz wr.heap.size #[.int .i64 3, .int .u8 0, .slice aa x2.length ca] 121) (fun q _ => x2.length - (intOf q).toNat)
            case atStart => exact ⟨0, Nat.zero_le _, rfl, by repeat (first | (with_reducible exact Fr.refl _) | (with_reducible assumption) | (with_reducible refine Fr.drewN ?_ _) | (with_reducible refine Fr.drew ?_) | (with_reducible refine Fr.alloc ?_ _) | (with_reducible refine Fr.setCell ?_ (by (first | (with_reducible assumption) | omega | (simp only [World.size_alloc, World.size_setCell, World.size_drew, World.heap_drewN]; omega) | (simp; done) | (simp; omega))) _) | (with_reducible refine Fr.trans ?_ (by with_reducible assumption))), Lib.hid (fun j hj => absurd hj (by omega)), Box.new _ _ _⟩
            case round =>
              obtain ⟨m, hm, rfl, hfz, hkj, BZ⟩ := hrel
              have FZ := BZ.facts
              have zz := hfz.size
              by_cases hmt : m < x2.length
              · obtain ⟨rfl, hba, fa⟩ := FA.out (by omega)
                obtain ⟨y, hy⟩ : ∃ y, iAt x2 m = y := ⟨_, rfl⟩
                have d0 := ((hfr.trans hfz).cell (p := ⟨ba, _, none⟩) hba).trans (hy ▸ fa m hmt)
                have HYK := Lib.hid hy
                clear fa hy
                by_cases hy0 : 0 ≤ y ∧ y ≤ (k : Int) - 1
                · have gy : decide (0 ≤ y ∧ y ≤ (k : Int) - 1) = true := decide_eq_true hy0
                  have hj2 : Hid (∀ j, j < m + 1 → 0 ≤ iAt x2 j ∧ iAt x2 j < (k : Int)) := Lib.hid fun j h => by
                    rcases Nat.lt_succ_iff_lt_or_eq.1 h with h | rfl
                    · exact hkj.out j h
                    · rw [HYK.out]; omega
                  clear hy0
                  go_wp2_with (go_at_call 94; refine (l01In_any _ _ _ _).mono ?_; rintro e w1 ⟨rfl, rfl⟩)
                  go_roundw
                  case rel => exact ⟨m + 1, by omega, by go_num, hfz, hj2, BZ⟩
                  case measure => first | (simp [intOf]; omega) | (simp [intOf]; done)
                · have gy : decide (0 ≤ y ∧ y ≤ (k : Int) - 1) = false := decide_eq_false hy0
                  have hF := Lib.hid (HN.out k hlt (HX.out ▸ (by rw [HB.out]; exact kidsB_no hmt HYK.out (by omega))))
                  clear hy0
                  go_wp2_with (go_at_call 94; refine (l01In_any _ _ _ _).mono ?_; rintro e w1 ⟨rfl, rfl⟩)
                  go_ret
                  exact ⟨ret_bool hF.out.symm, by repeat (first | (with_reducible exact Fr.refl _) | (with_reducible assumption) | (with_reducible refine Fr.drewN ?_ _) | (with_reducible refine Fr.drew ?_) | (with_reducible refine Fr.alloc ?_ _) | (with_reducible refine Fr.setCell ?_ (by (first | (with_reducible assumption) | omega | (simp only [World.size_alloc, World.size_setCell, World.size_drew, World.heap_drewN]; omega) | (simp; done) | (simp; omega))) _) | (with_reducible refine Fr.trans ?_ (by with_reducible assumption)))⟩
              · have hj3 : Hid (∀ j, j < k + 1 → pieceB (nAt ps j) j = true) := Lib.hid fun j h => by
                  rcases Nat.lt_succ_iff_lt_or_eq.1 h with h | rfl
                  · exact hj.out j h
                  · rw [HX.out, HB.out]; exact kidsB_all (fun j h => hkj.out j (by omega))
                have BW2 := BW.fr hfz
                clear hwk
                go_wp2_with fail
                go_roundw
                case rel => exact ⟨k + 1, by omega, by go_num, by repeat (first | (with_reducible exact Fr.refl _) | (with_reducible assumption) | (with_reducible refine Fr.drewN ?_ _) | (with_reducible refine Fr.drew ?_) | (with_reducible refine Fr.alloc ?_ _) | (with_reducible refine Fr.setCell ?_ (by (first | (with_reducible assumption) | omega | (simp only [World.size_alloc, World.size_setCell, World.size_drew, World.heap_drewN]; omega) | (simp; done) | (simp; omega))) _) | (with_reducible refine Fr.trans ?_ (by with_reducible assumption))), hj3, BW2⟩
                case measure => (simp [intOf]; omega)
          · have g3 : decide ((x2.length : Int) < 2) = true := decide_eq_true (by omega)
            have hF := Lib.hid (HN.out k hlt (HX.out ▸ (by unfold pieceB; simp [hlen])))
            go_wp2_with fail
            go_ret
            exact ⟨ret_bool hF.out.symm, by repeat (first | (with_reducible exact Fr.refl _) | (with_reducible assumption) | (with_reducible refine Fr.drewN ?_ _) | (with_reducible refine Fr.drew ?_) | (with_reducible refine Fr.alloc ?_ _) | (with_reducible refine Fr.setCell ?_ (by (first | (with_reducible assumption) | omega | (simp only [World.size_alloc, World.size_setCell, World.size_drew, World.heap_drewN]; omega) | (simp; done) | (simp; omega))) _) | (with_reducible refine Fr.trans ?_ (by with_reducible assumption)))⟩
        · have g1 : ((x1.toNat : Int) != 0) = true := by rw [bne_iff_ne]; omega
          have hF := Lib.hid (HN.out k hlt (HX.out ▸ (by unfold pieceB; simp [hlab])))
          go_wp2_with fail
          go_ret
          exact ⟨ret_bool hF.out.symm, by repeat (first | (with_reducible exact Fr.refl _) | (with_reducible assumption) | (with_reducible refine Fr.drewN ?_ _) | (with_reducible refine Fr.drew ?_) | (with_reducible refine Fr.alloc ?_ _) | (with_reducible refine Fr.setCell ?_ (by (first | (with_reducible assumption) | omega | (simp only [World.size_alloc, World.size_setCell, World.size_drew, World.heap_drewN]; omega) | (simp; done) | (simp; omega))) _) | (with_reducible refine Fr.trans ?_ (by with_reducible assumption)))⟩
      by_cases h4 : x0 = 4
      · subst h4
        clear h1 h2 h3
        by_cases hlab : x1.toNat = 0
        · by_cases hlen : x2.length = 1
          · have HB : Hid (pieceB ⟨4, x1, x2⟩ k = kidsB k x2) := Lib.hid (by unfold pieceB; simp [hlab, hlen])
            go_wp2_with fail
            go_loopw [6] (fun q wz => ∃ m : Nat, m ≤ x2.length ∧ q = .int .i64 m ∧ Fr wr wz ∧ Hid (∀ j, j < m → 0 ≤ iAt x2 j ∧ iAt x2 j < (k : Int)) ∧ Box wz wr.heap.size #[.int .i64 4, .int .u8 0, .slice aa 1 ca] 121) (fun q _ => x2.length - (intOf q).toNat)
            case atStart => exact ⟨0, Nat.zero_le _, rfl, by repeat (first | (with_reducible exact Fr.refl _) | (with_reducible assumption) | (with_reducible refine Fr.drewN ?_ _) | (with_reducible refine Fr.drew ?_) | (with_reducible refine Fr.alloc ?_ _) | (with_reducible refine Fr.setCell ?_ (by (first | (with_reducible assumption) | omega | (simp only [World.size_alloc, World.size_setCell, World.size_drew, World.heap_drewN]; omega) | (simp; done) | (simp; omega))) _) | (with_reducible refine Fr.trans ?_ (by with_reducible assumption))), Lib.hid (fun j hj => absurd hj (by omega)), Box.new _ _ _⟩
            case round =>
              obtain ⟨m, hm, rfl, hfz, hkj, BZ⟩ := hrel
              have FZ := BZ.facts
              have zz := hfz.size
              by_cases hmt : m < x2.length
              · obtain ⟨rfl, hba, fa⟩ := FA.out (by omega)
                obtain ⟨y, hy⟩ : ∃ y, iAt x2 m = y := ⟨_, rfl⟩
                have d0 := ((hfr.trans hfz).cell (p := ⟨ba, _, none⟩) hba).trans (hy ▸ fa m hmt)
                have HYK := Lib.hid hy
                clear fa hy
                by_cases hy0 : 0 ≤ y ∧ y ≤ (k : Int) - 1
                · have gy : decide (0 ≤ y ∧ y ≤ (k : Int) - 1) = true := decide_eq_true hy0
                  have hj2 : Hid (∀ j, j < m + 1 → 0 ≤ iAt x2 j ∧ iAt x2 j < (k : Int)) := Lib.hid fun j h => by
                    rcases Nat.lt_succ_iff_lt_or_eq.1 h with h | rfl
                    · exact hkj.out j h
                    · rw [HYK.out]; omega
                  clear hy0
                  go_wp2_with (go_at_call 94; refine (l01In_any _ _ _ _).mono ?_; rintro e w1 ⟨rfl, rfl⟩)
                  go_roundw
                  case rel => exact ⟨m + 1, by omega, by go_num, hfz, hj2, BZ⟩
                  case measure => first | (simp [intOf]; omega) | (simp [intOf]; done)
                · have gy : decide (0 ≤ y ∧ y ≤ (k : Int) - 1) = false := decide_eq_false hy0
                  have hF := Lib.hid (HN.out k hlt (HX.out ▸ (by rw [HB.out]; exact kidsB_no hmt HYK.out (by omega))))
                  clear hy0
                  go_wp2_with (go_at_call 94; refine (l01In_any _ _ _ _).mono ?_; rintro e w1 ⟨rfl, rfl⟩)
                  go_ret
                  exact ⟨ret_bool hF.out.symm, by repeat (first | (with_reducible exact Fr.refl _) | (with_reducible assumption) | (with_reducible refine Fr.drewN ?_ _) | (with_reducible refine Fr.drew ?_) | (with_reducible refine Fr.alloc ?_ _) | (with_reducible refine Fr.setCell ?_ (by (first | (with_reducible assumption) | omega | (simp only [World.size_alloc, World.size_setCell, World.size_drew, World.heap_drewN]; omega) | (simp; done) | (simp; omega))) _) | (with_reducible refine Fr.trans ?_ (by with_reducible assumption)))⟩
              · have hj3 : Hid (∀ j, j < k + 1 → pieceB (nAt ps j) j = true) := Lib.hid fun j h => by
                  rcases Nat.lt_succ_iff_lt_or_eq.1 h with h | rfl
                  · exact hj.out j h
                  · rw [HX.out, HB.out]; exact kidsB_all (fun j h => hkj.out j (by omega))
                have BW2 := BW.fr hfz
                clear hwk
                go_wp2_with fail
                go_roundw
                case rel => exact ⟨k + 1, by omega, by go_num, by repeat (first | (with_reducible exact Fr.refl _) | (with_reducible assumption) | (with_reducible refine Fr.drewN ?_ _) | (with_reducible refine Fr.drew ?_) | (with_reducible refine Fr.alloc ?_ _) | (with_reducible refine Fr.setCell ?_ (by (first | (with_reducible assumption) | omega | (simp only [World.size_alloc, World.size_setCell, World.size_drew, World.heap_drewN]; omega) | (simp; done) | (simp; omega))) _) | (with_reducible refine Fr.trans ?_ (by with_reducible assumption))), hj3, BW2⟩
                case measure => (simp [intOf]; omega)
          · have g3 : ((x2.length : Int) != 1) = true := by rw [bne_iff_ne]; omega
            have hF := Lib.hid (HN.out k hlt (HX.out ▸ (by unfold pieceB; simp [hlen])))
            go_wp2_with fail
            go_ret
            exact ⟨ret_bool hF.out.symm, by repeat (first | (with_reducible exact Fr.refl _) | (with_reducible assumption) | (with_reducible refine Fr.drewN ?_ _) | (with_reducible refine Fr.drew ?_) | (with_reducible refine Fr.alloc ?_ _) | (with_reducible refine Fr.setCell ?_ (by (first | (with_reducible assumption) | omega | (simp only [World.size_alloc, World.size_setCell, World.size_drew, World.heap_drewN]; omega) | (simp; done) | (simp; omega))) _) | (with_reducible refine Fr.trans ?_ (by with_reducible assumption)))⟩
        · have g1 : ((x1.toNat : Int) != 0) = true := by rw [bne_iff_ne]; omega
          have hF := Lib.hid (HN.out k hlt (HX.out ▸ (by unfold pieceB; simp [hlab])))
          go_wp2_with fail
          go_ret
          exact ⟨ret_bool hF.out.symm, by repeat (first | (with_reducible exact Fr.refl _) | (with_reducible assumption) | (with_reducible refine Fr.drewN ?_ _) | (with_reducible refine Fr.drew ?_) | (with_reducible refine Fr.alloc ?_ _) | (with_reducible refine Fr.setCell ?_ (by (first | (with_reducible assumption) | omega | (simp only [World.size_alloc, World.size_setCell, World.size_drew, World.heap_drewN]; omega) | (simp; done) | (simp; omega))) _) | (with_reducible refine Fr.trans ?_ (by with_reducible assumption)))⟩
      by_cases h5 : x0 = 5
      · subst h5
        clear h1 h2 h3 h4
        by_cases hlab : x1.toNat = 0
        · by_cases hlen : x2.length = 1
          · have HB : Hid (pieceB ⟨5, x1, x2⟩ k = kidsB k x2) := Lib.hid (by unfold pieceB; simp [hlab, hlen])
            go_wp2_with fail
            go_loopw [6] (fun q wz => ∃ m : Nat, m ≤ x2.length ∧ q = .int .i64 m ∧ Fr wr wz ∧ Hid (∀ j, j < m → 0 ≤ iAt x2 j ∧ iAt x2 j < (k : Int)) ∧ Box wz wr.heap.size #[.int .i64 5, .int .u8 0, .slice aa 1 ca] 121) (fun q _ => x2.length - (intOf q).toNat)
            case atStart => exact ⟨0, Nat.zero_le _, rfl, by repeat (first | (with_reducible exact Fr.refl _) | (with_reducible assumption) | (with_reducible refine Fr.drewN ?_ _) | (with_reducible refine Fr.drew ?_) | (with_reducible refine Fr.alloc ?_ _) | (with_reducible refine Fr.setCell ?_ (by (first | (with_reducible assumption) | omega | (simp only [World.size_alloc, World.size_setCell, World.size_drew, World.heap_drewN]; omega) | (simp; done) | (simp; omega))) _) | (with_reducible refine Fr.trans ?_ (by with_reducible assumption))), Lib.hid (fun j hj => absurd hj (by omega)), Box.new _ _ _⟩
            case round =>
              obtain ⟨m, hm, rfl, hfz, hkj, BZ⟩ := hrel
              have FZ := BZ.facts
              have zz := hfz.size
              by_cases hmt : m < x2.length
              · obtain ⟨rfl, hba, fa⟩ := FA.out (by omega)
                obtain ⟨y, hy⟩ : ∃ y, iAt x2 m = y := ⟨_, rfl⟩
                have d0 := ((hfr.trans hfz).cell (p := ⟨ba, _, none⟩) hba).trans (hy ▸ fa m hmt)
                have HYK := Lib.hid hy
                clear fa hy
                by_cases hy0 : 0 ≤ y ∧ y ≤ (k : Int) - 1
                · have gy : decide (0 ≤ y ∧ y ≤ (k : Int) - 1) = true := decide_eq_true hy0
                  have hj2 : Hid (∀ j, j < m + 1 → 0 ≤ iAt x2 j ∧ iAt x2 j < (k : Int)) := Lib.hid fun j h => by
                    rcases Nat.lt_succ_iff_lt_or_eq.1 h with h | rfl
                    · exact hkj.out j h
                    · rw [HYK.out]; omega
                  clear hy0
                  go_wp2_with (go_at_call 94; refine (l01In_any _ _ _ _).mono ?_; rintro e w1 ⟨rfl, rfl⟩)
                  go_roundw
                  case rel => exact ⟨m + 1, by omega, by go_num, hfz, hj2, BZ⟩
                  case measure => first | (simp [intOf]; omega) | (simp [intOf]; done)
                · have gy : decide (0 ≤ y ∧ y ≤ (k : Int) - 1) = false := decide_eq_false hy0
                  have hF := Lib.hid (HN.out k hlt (HX.out ▸ (by rw [HB.out]; exact kidsB_no hmt HYK.out (by omega))))
                  clear hy0
                  go_wp2_with (go_at_call 94; refine (l01In_any _ _ _ _).mono ?_; rintro e w1 ⟨rfl, rfl⟩)
                  go_ret
                  exact ⟨ret_bool hF.out.symm, by repeat (first | (with_reducible exact Fr.refl _) | (with_reducible assumption) | (with_reducible refine Fr.drewN ?_ _) | (with_reducible refine Fr.drew ?_) | (with_reducible refine Fr.alloc ?_ _) | (with_reducible refine Fr.setCell ?_ (by (first | (with_reducible assumption) | omega | (simp only [World.size_alloc, World.size_setCell, World.size_drew, World.heap_drewN]; omega) | (simp; done) | (simp; omega))) _) | (with_reducible refine Fr.trans ?_ (by with_reducible assumption)))⟩
              · have hj3 : Hid (∀ j, j < k + 1 → pieceB (nAt ps j) j = true) := Lib.hid fun j h => by
                  rcases Nat.lt_succ_iff_lt_or_eq.1 h with h | rfl
                  · exact hj.out j h
                  · rw [HX.out, HB.out]; exact kidsB_all (fun j h => hkj.out j (by omega))
                have BW2 := BW.fr hfz
                clear hwk
                go_wp2_with fail
                go_roundw
                case rel => exact ⟨k + 1, by omega, by go_num, by repeat (first | (with_reducible exact Fr.refl _) | (with_reducible assumption) | (with_reducible refine Fr.drewN ?_ _) | (with_reducible refine Fr.drew ?_) | (with_reducible refine Fr.alloc ?_ _) | (with_reducible refine Fr.setCell ?_ (by (first | (with_reducible assumption) | omega | (simp only [World.size_alloc, World.size_setCell, World.size_drew, World.heap_drewN]; omega) | (simp; done) | (simp; omega))) _) | (with_reducible refine Fr.trans ?_ (by with_reducible assumption))), hj3, BW2⟩
                case measure => (simp [intOf]; omega)
          · have g3 : ((x2.length : Int) != 1) = true := by rw [bne_iff_ne]; omega
            have hF := Lib.hid (HN.out k hlt (HX.out ▸ (by unfold pieceB; simp [hlen])))
            go_wp2_with fail
            go_ret
            exact ⟨ret_bool hF.out.symm, by repeat (first | (with_reducible exact Fr.refl _) | (with_reducible assumption) | (with_reducible refine Fr.drewN ?_ _) | (with_reducible refine Fr.drew ?_) | (with_reducible refine Fr.alloc ?_ _) | (with_reducible refine Fr.setCell ?_ (by (first | (with_reducible assumption) | omega | (simp only [World.size_alloc, World.size_setCell, World.size_drew, World.heap_drewN]; omega) | (simp; done) | (simp; omega))) _) | (with_reducible refine Fr.trans ?_ (by with_reducible assumption)))⟩
        · have g1 : ((x1.toNat : Int) != 0) = true := by rw [bne_iff_ne]; omega
          have hF := Lib.hid (HN.out k hlt (HX.out ▸ (by unfold pieceB; simp [hlab])))
          go_wp2_with fail
          go_ret
          exact ⟨ret_bool hF.out.symm, by repeat (first | (with_reducible exact Fr.refl _) | (with_reducible assumption) | (with_reducible refine Fr.drewN ?_ _) | (with_reducible refine Fr.drew ?_) | (with_reducible refine Fr.alloc ?_ _) | (with_reducible refine Fr.setCell ?_ (by (first | (with_reducible assumption) | omega | (simp only [World.size_alloc, World.size_setCell, World.size_drew, World.heap_drewN]; omega) | (simp; done) | (simp; omega))) _) | (with_reducible refine Fr.trans ?_ (by with_reducible assumption)))⟩
      by_cases h6 : x0 = 6
      · subst h6
        clear h1 h2 h3 h4 h5
        by_cases hlab : x1.toNat = 0
        · by_cases hlen : x2.length = 1
          · have HB : Hid (pieceB ⟨6, x1, x2⟩ k = kidsB k x2) := Lib.hid (by unfold pieceB; simp [hlab, hlen])
            go_wp2_with fail
            go_loopw [6] (fun q wz => ∃ m : Nat, m ≤ x2.length ∧ q = .int .i64 m ∧ Fr wr wz ∧ Hid (∀ j, j < m → 0 ≤ iAt x2 j ∧ iAt x2 j < (k : Int)) ∧ Box wz wr.heap.size #[.int .i64 6, .int .u8 0, .slice aa 1 ca] 121) (fun q _ => x2.length - (intOf q).toNat)
            case atStart => exact ⟨0, Nat.zero_le _, rfl, by repeat (first | (with_reducible exact Fr.refl _) | (with_reducible assumption) | (with_reducible refine Fr.drewN ?_ _) | (with_reducible refine Fr.drew ?_) | (with_reducible refine Fr.alloc ?_ _) | (with_reducible refine Fr.setCell ?_ (by (first | (with_reducible assumption) | omega | (simp only [World.size_alloc, World.size_setCell, World.size_drew, World.heap_drewN]; omega) | (simp; done) | (simp; omega))) _) | (with_reducible refine Fr.trans ?_ (by with_reducible assumption))), Lib.hid (fun j hj => absurd hj (by omega)), Box.new _ _ _⟩
            case round =>
              obtain ⟨m, hm, rfl, hfz, hkj, BZ⟩ := hrel
              have FZ := BZ.facts
              have zz := hfz.size
              by_cases hmt : m < x2.length
              · obtain ⟨rfl, hba, fa⟩ := FA.out (by omega)
                obtain ⟨y, hy⟩ : ∃ y, iAt x2 m = y := ⟨_, rfl⟩
                have d0 := ((hfr.trans hfz).cell (p := ⟨ba, _, none⟩) hba).trans (hy ▸ fa m hmt)
                have HYK := Lib.hid hy
                clear fa hy
                by_cases hy0 : 0 ≤ y ∧ y ≤ (k : Int) - 1
                · have gy : decide (0 ≤ y ∧ y ≤ (k : Int) - 1) = true := decide_eq_true hy0
                  have hj2 : Hid (∀ j, j < m + 1 → 0 ≤ iAt x2 j ∧ iAt x2 j < (k : Int)) := Lib.hid fun j h => by
                    rcases Nat.lt_succ_iff_lt_or_eq.1 h with h | rfl
                    · exact hkj.out j h
                    · rw [HYK.out]; omega
                  clear hy0
                  go_wp2_with (go_at_call 94; refine (l01In_any _ _ _ _).mono ?_; rintro e w1 ⟨rfl, rfl⟩)
                  go_roundw
                  case rel => exact ⟨m + 1, by omega, by go_num, hfz, hj2, BZ⟩
                  case measure => first | (simp [intOf]; omega) | (simp [intOf]; done)
                · have gy : decide (0 ≤ y ∧ y ≤ (k : Int) - 1) = false := decide_eq_false hy0
                  have hF := Lib.hid (HN.out k hlt (HX.out ▸ (by rw [HB.out]; exact kidsB_no hmt HYK.out (by omega))))
                  clear hy0
                  go_wp2_with (go_at_call 94; refine (l01In_any _ _ _ _).mono ?_; rintro e w1 ⟨rfl, rfl⟩)
                  go_ret
                  exact ⟨ret_bool hF.out.symm, by repeat (first | (with_reducible exact Fr.refl _) | (with_reducible assumption) | (with_reducible refine Fr.drewN ?_ _) | (with_reducible refine Fr.drew ?_) | (with_reducible refine Fr.alloc ?_ _) | (with_reducible refine Fr.setCell ?_ (by (first | (with_reducible assumption) | omega | (simp only [World.size_alloc, World.size_setCell, World.size_drew, World.heap_drewN]; omega) | (simp; done) | (simp; omega))) _) | (with_reducible refine Fr.trans ?_ (by with_reducible assumption)))⟩
              · have hj3 : Hid (∀ j, j < k + 1 → pieceB (nAt ps j) j = true) := Lib.hid fun j h => by
                  rcases Nat.lt_succ_iff_lt_or_eq.1 h with h | rfl
                  · exact hj.out j h
                  · rw [HX.out, HB.out]; exact kidsB_all (fun j h => hkj.out j (by omega))
                have BW2 := BW.fr hfz
                clear hwk
                go_wp2_with fail
                go_roundw
                case rel => exact ⟨k + 1, by omega, by go_num, by repeat (first | (with_reducible exact Fr.refl _) | (with_reducible assumption) | (with_reducible refine Fr.drewN ?_ _) | (with_reducible refine Fr.drew ?_) | (with_reducible refine Fr.alloc ?_ _) | (with_reducible refine Fr.setCell ?_ (by (first | (with_reducible assumption) | omega | (simp only [World.size_alloc, World.size_setCell, World.size_drew, World.heap_drewN]; omega) | (simp; done) | (simp; omega))) _) | (with_reducible refine Fr.trans ?_ (by with_reducible assumption))), hj3, BW2⟩
                case measure => (simp [intOf]; omega)
          · have g3 : ((x2.length : Int) != 1) = true := by rw [bne_iff_ne]; omega
            have hF := Lib.hid (HN.out k hlt (HX.out ▸ (by unfold pieceB; simp [hlen])))
            go_wp2_with fail
            go_ret
            exact ⟨ret_bool hF.out.symm, by repeat (first | (with_reducible exact Fr.refl _) | (with_reducible assumption) | (with_reducible refine Fr.drewN ?_ _) | (with_reducible refine Fr.drew ?_) | (with_reducible refine Fr.alloc ?_ _) | (with_reducible refine Fr.setCell ?_ (by (first | (with_reducible assumption) | omega | (simp only [World.size_alloc, World.size_setCell, World.size_drew, World.heap_drewN]; omega) | (simp; done) | (simp; omega))) _) | (with_reducible refine Fr.trans ?_ (by with_reducible assumption)))⟩
        · have g1 : ((x1.toNat : Int) != 0) = true := by rw [bne_iff_ne]; omega
          have hF := Lib.hid (HN.out k hlt (HX.out ▸ (by unfold pieceB; simp [hlab])))
          go_wp2_with fail
          go_ret
          exact ⟨ret_bool hF.out.symm, by repeat (first | (with_reducible exact Fr.refl _) | (with_reducible assumption) | (with_reducible refine Fr.drewN ?_ _) | (with_reducible refine Fr.drew ?_) | (with_reducible refine Fr.alloc ?_ _) | (with_reducible refine Fr.setCell ?_ (by (first | (with_reducible assumption) | omega | (simp only [World.size_alloc, World.size_setCell, World.size_drew, World.heap_drewN]; omega) | (simp; done) | (simp; omega))) _) | (with_reducible refine Fr.trans ?_ (by with_reducible assumption)))⟩
      have hF := Lib.hid (HN.out k hlt (HX.out ▸ (by unfold pieceB; simp [h1, h2, h3, h4, h5, h6])))
      have q1 : (x0 == 1) = false := by simpa using h1
      have q2 : (x0 == 2) = false := by simpa using h2
      have q3 : (x0 == 3) = false := by simpa using h3
      have q4 : (x0 == 4) = false := by simpa using h4
      have q5 : (x0 == 5) = false := by simpa using h5
      have q6 : (x0 == 6) = false := by simpa using h6
      clear h1 h2 h3 h4 h5 h6
      go_wp2_with fail
      go_ret
      exact ⟨ret_bool hF.out.symm, by repeat (first | (with_reducible exact Fr.refl _) | (with_reducible assumption) | (with_reducible refine Fr.drewN ?_ _) | (with_reducible refine Fr.drew ?_) | (with_reducible refine Fr.alloc ?_ _) | (with_reducible refine Fr.setCell ?_ (by (first | (with_reducible assumption) | omega | (simp only [World.size_alloc, World.size_setCell, World.size_drew, World.heap_drewN]; omega) | (simp; done) | (simp; omega))) _) | (with_reducible refine Fr.trans ?_ (by with_reducible assumption)))⟩
    · have hF := Lib.hid (HY.out (fun j h => hj.out j (by omega)))
      go_wp2_with (go_at_call 94; refine (l01In_any _ _ _ _).mono ?_; rintro e w1 ⟨rfl, rfl⟩)
      go_ret
      exact ⟨ret_bool (by rw [hF.out, Bool.decide_and]), by repeat (first | (with_reducible exact Fr.refl _) | (with_reducible assumption) | (with_reducible refine Fr.drewN ?_ _) | (with_reducible refine Fr.drew ?_) | (with_reducible refine Fr.alloc ?_ _) | (with_reducible refine Fr.setCell ?_ (by (first | (with_reducible assumption) | omega | (simp only [World.size_alloc, World.size_setCell, World.size_drew, World.heap_drewN]; omega) | (simp; done) | (simp; omega))) _) | (with_reducible refine Fr.trans ?_ (by with_reducible assumption)))⟩
end Go.Proofs.Ytjgghiniajmfjaa
