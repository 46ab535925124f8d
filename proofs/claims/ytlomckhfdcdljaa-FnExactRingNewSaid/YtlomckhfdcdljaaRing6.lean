/- Rings: RingNew of the program. No condition. -/
import Derived.Test.YtlomckhfdcdljaaRing5
import Derived.Deep.OwnRows
import Derived.BigRegion
import Derived.Deep.Cut
import Derived.Deep.CutRange
namespace Go.Proofs.Ytlomckhfdcdljaa
open Go.RowKit
set_option linter.unusedVariables false
set_option linter.unusedSimpArgs false
set_option maxHeartbeats 16000000 in
set_option maxRecDepth 100000 in
theorem implRingNew_any (n : Int) (w : World) :
    Calls Try.prog 46 #[.int .i64 n] w fun e w' => ∃ va vc vb, e = .returned (.tuple #[.agg #[va, vc, vb, .slice none 0 0, .int .i64 0, .int .i64 0, .bool (decide (1 ≤ n ∧ n ≤ 8)), .bool false], .bool (decide (1 ≤ n ∧ n ≤ 8))]) ∧ RingN w' w.heap.size (newN n) va vc vb ∧ Fr w w' := by
  by_cases hn : 1 ≤ n ∧ n ≤ 8
  · obtain ⟨m, rfl⟩ := Int.eq_ofNat_of_zero_le (show 0 ≤ n by omega)
    have hm : newN (m : Int) = m := by unfold newN; rw [if_pos hn]; simp
    have HM := Lib.hid hm
    clear hm
    have hd : decide (1 ≤ (m : Int) ∧ (m : Int) ≤ 8) = true := decide_eq_true hn
    have hm8 : m ≤ 8 := by omega
    have mkb := run_make_row' (P := Try.prog) 55 4 (.bool false) 1 Try.underlying55 info_bool rfl .i64 .i64 m (by omega) (by omega)
    have mki := run_make_row' (P := Try.prog) 56 3 (.int .i64 0) 8 Try.underlying56 info_int rfl .i64 .i64 m (by omega) (by omega)
    go_enter Try.func46, Try.ntmps46
    go_wp2_with (go_at_call 84; refine (isWorkers_any _ _).mono ?_; rintro e w1 ⟨rfl, rfl⟩)
    go_upto_region 3 with fail
    go_cut [4] from 10 to 16 (fun p wx => ∃ g1 g2 g3 B : Nat, p = .pointer (some ⟨B, 0, none⟩) ∧ Box wx w.heap.size #[.slice none 0 0, .slice none 0 0, .slice none 0 0, .slice none 0 0, .int .i64 0, .int .i64 0, .bool false, .bool false] 61 ∧ Box wx B #[.slice (some ⟨g1, 0, none⟩) m m, .slice (some ⟨g2, 0, none⟩) m m, .slice (some ⟨g3, 0, none⟩) m m, .slice none 0 0, .int .i64 0, .int .i64 0, .bool true, .bool false] 61 ∧
      wx.ownsRow (w.heap.size + 1) 4 1 (.slice (some ⟨g1, 0, none⟩) m m) m (List.replicate m (.bool false)) ∧ wx.ownsRow (w.heap.size + 1) 3 1 (.slice (some ⟨g2, 0, none⟩) m m) m (List.replicate m (.int .i64 0)) ∧ wx.ownsRow (w.heap.size + 1) 4 1 (.slice (some ⟨g3, 0, none⟩) m m) m (List.replicate m (.bool false)) ∧
      (g1 ≠ g2 ∧ g1 ≠ g3 ∧ g2 ≠ g3 ∧ B ≠ g1 ∧ B ≠ g2 ∧ B ≠ g3 ∧ w.heap.size < B) ∧ Fr w wx)
    case first =>
      go_region
      all_goals (go_wp2_with fail; go_meet; (case rel => exact ⟨_, _, _, _, rfl, by repeat (first | (with_reducible exact Box.new _ _ _) | (refine Box.new' ?_ <;> (simp; done)) | (with_reducible refine Box.drew ?_) | (with_reducible refine Box.drewN ?_ _) | (with_reducible refine Box.alloc ?_ _)), by repeat (first | (with_reducible exact Box.new _ _ _) | (refine Box.new' ?_ <;> (simp; done)) | (with_reducible refine Box.drew ?_) | (with_reducible refine Box.drewN ?_ _) | (with_reducible refine Box.alloc ?_ _)), by repeat (first | (refine made_new ?_ ?_ ?_ <;> first | omega | (simp; done) | (simp; omega)) | (with_reducible refine World.ownsRow.drew ?_) | (with_reducible refine World.ownsRow.alloc ?_ _)), by repeat (first | (refine made_new ?_ ?_ ?_ <;> first | omega | (simp; done) | (simp; omega)) | (with_reducible refine World.ownsRow.drew ?_) | (with_reducible refine World.ownsRow.alloc ?_ _)), by repeat (first | (refine made_new ?_ ?_ ?_ <;> first | omega | (simp; done) | (simp; omega)) | (with_reducible refine World.ownsRow.drew ?_) | (with_reducible refine World.ownsRow.alloc ?_ _)), by omega, by repeat (first | (with_reducible exact Fr.refl _) | (with_reducible assumption) | (with_reducible refine Fr.drewN ?_ _) | (with_reducible refine Fr.drew ?_) | (with_reducible refine Fr.alloc ?_ _) | (with_reducible refine Fr.setCell ?_ (by (first | (with_reducible assumption) | omega | (simp only [World.size_alloc, World.size_setCell, World.size_drew, World.heap_drewN]; omega) | (simp; omega))) _) | (with_reducible refine Fr.trans ?_ (by with_reducible assumption)))⟩))
    case rest =>
      obtain ⟨g1, g2, g3, B, rfl, b0, b1, oa, oc, ob, hne, hfr⟩ := hcut
      have R1 : RowIn (w.heap.size + 1) wc.heap.size (.slice (some ⟨g1, 0, none⟩) m m) := RowIn.of_owns oa
      have hg1 : w.heap.size + 1 ≤ g1 := (R1 g1 rfl).1
      clear R1
      have F1 := b1.facts
      have HE := Lib.hid mkb
      clear mkb mki HE
      go_wp2
      go_loopw [20] (fun i wr => ∃ k : Nat, k ≤ m ∧ i = .int .i64 k ∧ Box wr w.heap.size #[.slice none 0 0, .slice none 0 0, .slice none 0 0, .slice none 0 0, .int .i64 0, .int .i64 0, .bool false, .bool false] 61 ∧ Box wr B #[.slice (some ⟨g1, 0, none⟩) m m, .slice (some ⟨g2, 0, none⟩) m m, .slice (some ⟨g3, 0, none⟩) m m, .slice none 0 0, .int .i64 0, .int .i64 0, .bool true, .bool false] 61 ∧
        wr.ownsRow (w.heap.size + 1) 4 1 (.slice (some ⟨g1, 0, none⟩) m m) m (part (List.replicate m (.bool true)) (List.replicate m (.bool false)) k) ∧ wr.ownsRow (w.heap.size + 1) 3 1 (.slice (some ⟨g2, 0, none⟩) m m) m (List.replicate m (.int .i64 0)) ∧ wr.ownsRow (w.heap.size + 1) 4 1 (.slice (some ⟨g3, 0, none⟩) m m) m (List.replicate m (.bool false)) ∧ Fr w wr) (fun i _ => m - (intOf i).toNat)
      case atStart => exact ⟨0, Nat.zero_le _, rfl, b0, b1, by rw [part_zero]; exact oa, oc, ob, hfr⟩
      case round =>
        clear F1 b0 b1 oa oc ob hfr
        obtain ⟨k, hk, rfl, b0, b1, oa, oc, ob, hfr⟩ := hrel
        have F1 := b1.facts
        by_cases hlt : k < m
        · have f2 := oa.frozenAt k
          obtain ⟨u, c2⟩ := owns_cell oa k (by omega)
          have hst := oa.stored k (.bool true)
          rw [part_set _ _ _ m _ hlt (by simp) (by simp) (by simp [hlt])] at hst
          have HS := Lib.hid hst
          clear hst
          go_wp2
          go_roundw
          case rel => exact ⟨k + 1, by omega, by go_num, b0.gr HS.out.2 (fun e => by cases e; omega), b1.gr HS.out.2 (fun e => by cases e; omega), HS.out.1, oc.kept HS.out.2 (.inr (fun e => by simp [Value.ownBlock] at e; omega)), ob.kept HS.out.2 (.inr (fun e => by simp [Value.ownBlock] at e; omega)), hfr.grown HS.out.2 (fun j hj => by cases hj; omega)⟩
          case measure => (simp [intOf]; omega)
        · obtain rfl : k = m := by omega
          rw [part_all _ _ k (by simp) (by simp)] at oa
          have F0 := b0.facts
          go_wp2
          refine bodyPost_ret (v := .tuple #[.agg #[.slice (some ⟨g1, 0, none⟩) k k, .slice (some ⟨g2, 0, none⟩) k k, .slice (some ⟨g3, 0, none⟩) k k, .slice none 0 0, .int .i64 0, .int .i64 0, .bool true, .bool false], .bool true]) (by simp [results, Try.results46, go_sem, *]) rfl ?_
          refine ⟨_, _, _, by rw [hd], ⟨?_, ?_, ?_, ?_, ?_, ?_⟩, ?_⟩
          · rw [HM.out]; unfold BoolsO; rw [List.length_replicate, List.map_replicate]; exact owns_lo (owns_ab oa (by repeat (first | (with_reducible exact Ab.refl _ _) | (with_reducible assumption) | (with_reducible refine Ab.drewN ?_ _) | (with_reducible refine Ab.drew ?_) | (with_reducible refine Ab.alloc ?_ _) | (with_reducible refine Ab.setCell ?_ (by (first | (with_reducible assumption) | omega | (simp only [World.size_alloc, World.size_setCell, World.size_drew, World.heap_drewN]; omega) | (simp; omega))) _) | (with_reducible refine Ab.fr ?_ (by with_reducible assumption))))) (by (first | (with_reducible assumption) | omega | (simp only [World.size_alloc, World.size_setCell, World.size_drew, World.heap_drewN]; omega) | (simp; omega)))
          · rw [HM.out]; unfold IntsO; rw [List.length_replicate, List.map_replicate]; exact owns_lo (owns_ab oc (by repeat (first | (with_reducible exact Ab.refl _ _) | (with_reducible assumption) | (with_reducible refine Ab.drewN ?_ _) | (with_reducible refine Ab.drew ?_) | (with_reducible refine Ab.alloc ?_ _) | (with_reducible refine Ab.setCell ?_ (by (first | (with_reducible assumption) | omega | (simp only [World.size_alloc, World.size_setCell, World.size_drew, World.heap_drewN]; omega) | (simp; omega))) _) | (with_reducible refine Ab.fr ?_ (by with_reducible assumption))))) (by (first | (with_reducible assumption) | omega | (simp only [World.size_alloc, World.size_setCell, World.size_drew, World.heap_drewN]; omega) | (simp; omega)))
          · rw [HM.out]; unfold BoolsO; rw [List.length_replicate, List.map_replicate]; exact owns_lo (owns_ab ob (by repeat (first | (with_reducible exact Ab.refl _ _) | (with_reducible assumption) | (with_reducible refine Ab.drewN ?_ _) | (with_reducible refine Ab.drew ?_) | (with_reducible refine Ab.alloc ?_ _) | (with_reducible refine Ab.setCell ?_ (by (first | (with_reducible assumption) | omega | (simp only [World.size_alloc, World.size_setCell, World.size_drew, World.heap_drewN]; omega) | (simp; omega))) _) | (with_reducible refine Ab.fr ?_ (by with_reducible assumption))))) (by (first | (with_reducible assumption) | omega | (simp only [World.size_alloc, World.size_setCell, World.size_drew, World.heap_drewN]; omega) | (simp; omega)))
          · intro g a b; simp [Value.ownBlock] at a b; omega
          · intro g a b; simp [Value.ownBlock] at a b; omega
          · intro g a b; simp [Value.ownBlock] at a b; omega
          · repeat (first | (with_reducible exact Fr.refl _) | (with_reducible assumption) | (with_reducible refine Fr.drewN ?_ _) | (with_reducible refine Fr.drew ?_) | (with_reducible refine Fr.alloc ?_ _) | (with_reducible refine Fr.setCell ?_ (by (first | (with_reducible assumption) | omega | (simp only [World.size_alloc, World.size_setCell, World.size_drew, World.heap_drewN]; omega) | (simp; omega))) _) | (with_reducible refine Fr.trans ?_ (by with_reducible assumption)))
  · have hd : decide (1 ≤ n ∧ n ≤ 8) = false := decide_eq_false hn
    have hm : newN n = 0 := by unfold newN; rw [if_neg hn]
    have HM := Lib.hid hm
    clear hm
    go_enter Try.func46, Try.ntmps46
    go_wp2_with (go_at_call 84; refine (isWorkers_any _ _).mono ?_; rintro e w1 ⟨rfl, rfl⟩)
    refine bodyPost_ret (v := .tuple #[.agg #[.slice none 0 0, .slice none 0 0, .slice none 0 0, .slice none 0 0, .int .i64 0, .int .i64 0, .bool false, .bool false], .bool false]) (by simp [results, Try.results46, go_sem, *]) rfl ?_
    refine ⟨_, _, _, by rw [hd], ?_, ?_⟩
    · rw [HM.out]; exact ⟨World.ownsRow_nil _ _ _ _, World.ownsRow_nil _ _ _ _, World.ownsRow_nil _ _ _ _, Apart.none _ _ _, Apart.none _ _ _, Apart.none _ _ _⟩
    · repeat (first | (with_reducible exact Fr.refl _) | (with_reducible assumption) | (with_reducible refine Fr.drewN ?_ _) | (with_reducible refine Fr.drew ?_) | (with_reducible refine Fr.alloc ?_ _) | (with_reducible refine Fr.setCell ?_ (by (first | (with_reducible assumption) | omega | (simp only [World.size_alloc, World.size_setCell, World.size_drew, World.heap_drewN]; omega) | (simp; omega))) _) | (with_reducible refine Fr.trans ?_ (by with_reducible assumption)))
end Go.Proofs.Ytlomckhfdcdljaa
