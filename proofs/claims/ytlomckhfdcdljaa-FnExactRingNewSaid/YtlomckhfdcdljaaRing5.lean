/- Rings: RingNew of the program and of the reference, marks of rings, the law. No condition. -/
import Derived.Test.YtlomckhfdcdljaaRing3
import Derived.Test.YtlomckhfdcdljaaRow
import Derived.Deep.RegionHeld3
namespace Go.Proofs.Ytlomckhfdcdljaa
open Go.RowKit
set_option linter.unusedVariables false
set_option linter.unusedSimpArgs false
def newN (n : Int) : Nat := if 1 ≤ n ∧ n ≤ 8 then n.toNat else 0
/-- The three rows of a new ring, each apart from the others, from block lo on. -/
structure RingN (w : World) (lo : Nat) (m : Nat) (va vc vb : Value) : Prop where
  a : BoolsO w lo va (List.replicate m true)
  c : IntsO w lo vc (List.replicate m 0)
  b : BoolsO w lo vb (List.replicate m false)
  ac : Apart va vc
  ab : Apart va vb
  cb : Apart vc vb
set_option maxHeartbeats 1600000 in
set_option maxRecDepth 100000 in
theorem specRingNew_any (n : Int) (w : World) :
    Calls Try.prog 45 #[.int .i64 n] w fun e w' => ∃ va vc vb, e = .returned (.tuple #[.agg #[va, vc, vb, .slice none 0 0, .int .i64 0, .int .i64 0, .bool (decide (1 ≤ n ∧ n ≤ 8)), .bool false], .bool (decide (1 ≤ n ∧ n ≤ 8))]) ∧ RingN w' w.heap.size (newN n) va vc vb ∧ Fr w w' := by
  obtain ⟨ib, hib, hz0b, hz1b, hz2b⟩ := info_parts info_bool
  obtain ⟨ii, hii, hz0i, hz1i, hz2i⟩ := info_parts info_int
  by_cases hn : 1 ≤ n ∧ n ≤ 8
  · obtain ⟨m, rfl⟩ := Int.eq_ofNat_of_zero_le (show 0 ≤ n by omega)
    have hm : newN (m : Int) = m := by unfold newN; rw [if_pos hn]; simp
    have HM := Lib.hid hm
    clear hm
    have hd : decide (1 ≤ (m : Int) ∧ (m : Int) ≤ 8) = true := decide_eq_true hn
    have hm8 : m ≤ 8 := by omega
    go_enter Try.func45, Try.ntmps45
    go_wp2_with (go_at_call 60; refine (l01In_any _ _ _ _).mono ?_; rintro e w1 ⟨rfl, rfl⟩)
    go_wp2
    go_loopw [5] (fun i wr => ∃ (k : Nat) (va vc vb : Value), k ≤ m ∧ i = .int .i64 k ∧ Box wr w.heap.size #[.slice none 0 0, .slice none 0 0, .slice none 0 0, .slice none 0 0, .int .i64 0, .int .i64 0, .bool false, .bool false] 61 ∧ Box wr (w.heap.size + 1) #[va, vc, vb, .slice none 0 0, .int .i64 0, .int .i64 0, .bool true, .bool false] 61 ∧
      wr.ownsRow (w.heap.size + 2) 4 1 va k (List.replicate k (.bool true)) ∧ wr.ownsRow (w.heap.size + 2) 3 1 vc k (List.replicate k (.int .i64 0)) ∧ wr.ownsRow (w.heap.size + 2) 4 1 vb k (List.replicate k (.bool false)) ∧ Apart va vc ∧ Apart va vb ∧ Apart vc vb ∧ Fr w wr) (fun i _ => m - (intOf i).toNat)
    case atStart => exact ⟨0, _, _, _, Nat.zero_le _, rfl, (Box.new _ _ _).alloc _, Box.new' (by simp), World.ownsRow_nil _ _ _ _, World.ownsRow_nil _ _ _ _, World.ownsRow_nil _ _ _ _, Apart.none _ _ _, Apart.none _ _ _, Apart.none _ _ _, by repeat (first | (with_reducible exact Fr.refl _) | (with_reducible assumption) | (with_reducible refine Fr.drewN ?_ _) | (with_reducible refine Fr.drew ?_) | (with_reducible refine Fr.alloc ?_ _) | (with_reducible refine Fr.setCell ?_ (by (first | (with_reducible assumption) | omega | (simp only [World.size_alloc, World.size_setCell, World.size_drew, World.heap_drewN]; omega) | (simp; omega))) _) | (with_reducible refine Fr.trans ?_ (by with_reducible assumption)))⟩
    case round =>
      obtain ⟨k, va, vc, vb, hk, rfl, b0, b1, oa, oc, ob, hac, hab, hcb, hfr⟩ := hrel
      obtain ⟨pa, qa, rfl⟩ := owns_val oa
      obtain ⟨pc, qc, rfl⟩ := owns_val oc
      obtain ⟨pb, qb, rfl⟩ := owns_val ob
      have f0 := b0.facts
      have f1 := b1.facts
      have z0 := b1.lt
      by_cases hlt : k < m
      · have hra := RowIn.of_owns oa
        have hrc := RowIn.of_owns oc
        have hrb := RowIn.of_owns ob
        clear f0
        go_wp2_with (first
          | (at_builtin; refine wpList_append_lies _ rfl _ _ 55 rfl (w.heap.size + 2) 4 ib (.bool false) 1 1 Try.underlying55 hib hz0b hz1b hz2b rfl (by decide) (.slice pa k qa) _ _ rfl (World.ownsRow.alloc oa _) ⟨wr.heap.size, 0, none⟩ 1 1 [.bool true] rfl rfl (cell_new (by simp)) (by simp [Value.oneCell']) (by omega) (by unfold maxLen; omega) (by omega) (by (first | (with_reducible assumption) | omega | (simp only [World.size_alloc, World.size_setCell, World.size_drew, World.heap_drewN]; omega) | (simp; omega))) _ rfl ?_; intro g1 c1 w1 own1 gr1 at1 lt1; have B1 := (b1.alloc _).row gr1 hra (by omega); have F1 := B1.facts; have z1 := B1.lt; have oc1 := (World.ownsRow.alloc oc _).kept gr1 hac.symm.ne; have ob1 := (World.ownsRow.alloc ob _).kept gr1 hab.symm.ne)
          | (at_builtin; refine wpList_append_lies _ rfl _ _ 56 rfl (w.heap.size + 2) 3 ii (.int .i64 0) 1 8 Try.underlying56 hii hz0i hz1i hz2i rfl (by decide) (.slice pc k qc) _ _ rfl (World.ownsRow.alloc (owns_set oc1 (by simp) _) _) ⟨w1.heap.size, 0, none⟩ 1 1 [.int .i64 0] rfl rfl (cell_new (by simp)) (by simp [Value.oneCell']) (by omega) (by unfold maxLen; omega) (by omega) (by (first | (with_reducible assumption) | omega | (simp only [World.size_alloc, World.size_setCell, World.size_drew, World.heap_drewN]; omega) | (simp; omega))) _ rfl ?_; intro g2 c2 w2 own2 gr2 at2 lt2; have B2 := ((B1.set 0 (.slice (some ⟨g1, 0, none⟩) (k + 1) c1)).alloc _).row gr2 hrc (by omega); have F2 := B2.facts; have z2 := B2.lt; have ob2 := (World.ownsRow.alloc (owns_set ob1 (p := ⟨w.heap.size + 1, 0, none⟩) (by simp) (.slice (some ⟨g1, 0, none⟩) (k + 1) c1)) _).kept gr2 hcb.symm.ne)
          | (at_builtin; refine wpList_append_lies _ rfl _ _ 55 rfl (w.heap.size + 2) 4 ib (.bool false) 1 1 Try.underlying55 hib hz0b hz1b hz2b rfl (by decide) (.slice pb k qb) _ _ rfl (World.ownsRow.alloc (owns_set ob2 (by simp) _) _) ⟨w2.heap.size, 0, none⟩ 1 1 [.bool false] rfl rfl (cell_new (by simp)) (by simp [Value.oneCell']) (by omega) (by unfold maxLen; omega) (by omega) (by (first | (with_reducible assumption) | omega | (simp only [World.size_alloc, World.size_setCell, World.size_drew, World.heap_drewN]; omega) | (simp; omega))) _ rfl ?_; intro g3 c3 w3 own3 gr3 at3 lt3; have B3 := ((B2.set 1 (.slice (some ⟨g2, 0, none⟩) (k + 1) c2)).alloc _).row gr3 hrb (by omega); have F3 := B3.facts; have z3 := B3.lt))
        have A12 := hac.app (n := k + 1) (c := c1) at1 (hrc.mono (Nat.le_refl _) (by simp))
        have A13 := hab.app (n := k + 1) (c := c1) at1 (hrb.mono (Nat.le_refl _) (by simp))
        have R1 := RowIn.app (n := k + 1) (c := c1) at1 (hra.mono (Nat.le_refl _) (by simp)) (by simp; omega) lt1
        have own1b := (World.ownsRow.alloc (owns_set own1 (p := ⟨w.heap.size + 1, 0, none⟩) (by simp) (.slice (some ⟨g1, 0, none⟩) (k + 1) c1)) _).kept gr2 A12.ne
        have hrc1 := RowIn.of_owns oc1
        have hrb1 := RowIn.of_owns ob1
        have A21 := (A12.symm).app (n := k + 1) (c := c2) at2 (R1.mono (Nat.le_refl _) (by simp))
        have A23 := hcb.app (n := k + 1) (c := c2) at2 (hrb1.mono (Nat.le_refl _) (by simp))
        have R2 := RowIn.app (n := k + 1) (c := c2) at2 (hrc1.mono (Nat.le_refl _) (by simp)) (by simp; omega) lt2
        have R1b := R1.mono (Nat.le_refl _) (show w1.heap.size ≤ w2.heap.size by have := gr2.size; simp at this; omega)
        have A31 := (A13.symm).app (n := k + 1) (c := c3) at3 (R1b.mono (Nat.le_refl _) (by simp))
        have A32 := (A23.symm).app (n := k + 1) (c := c3) at3 (R2.mono (Nat.le_refl _) (by simp))
        have own1c := (World.ownsRow.alloc (owns_set own1b (p := ⟨w.heap.size + 1, 1, none⟩) (by simp) (.slice (some ⟨g2, 0, none⟩) (k + 1) c2)) _).kept gr3 A13.ne
        have own2c := (World.ownsRow.alloc (owns_set own2 (p := ⟨w.heap.size + 1, 1, none⟩) (by simp) (.slice (some ⟨g2, 0, none⟩) (k + 1) c2)) _).kept gr3 A23.ne
        have C1 := (b0.alloc _).row gr1 hra (by omega)
        have C2 := ((C1.other (p := ⟨w.heap.size + 1, 0, none⟩) (by simp) (.slice (some ⟨g1, 0, none⟩) (k + 1) c1)).alloc _).row gr2 hrc (by omega)
        have C3 := ((C2.other (p := ⟨w.heap.size + 1, 1, none⟩) (by simp) (.slice (some ⟨g2, 0, none⟩) (k + 1) c2)).alloc _).row gr3 hrb (by omega)
        have h1 : Fr w w1 := (hfr.alloc _).grown gr1 (fun j hj => by have := hra j hj; omega)
        have h2 : Fr w w2 := ((h1.setCell (p := ⟨w.heap.size + 1, 0, none⟩) (by simp) (.slice (some ⟨g1, 0, none⟩) (k + 1) c1)).alloc _).grown gr2 (fun j hj => by have := hrc j hj; omega)
        have h3 : Fr w w3 := ((h2.setCell (p := ⟨w.heap.size + 1, 1, none⟩) (by simp) (.slice (some ⟨g2, 0, none⟩) (k + 1) c2)).alloc _).grown gr3 (fun j hj => by have := hrb j hj; omega)
        refine ⟨⟨k + 1, _, _, _, hlt, by go_num, C3.other (by simp) _, (B3.set 2 _), ?_, ?_, ?_, A21.symm, A31.symm, A32.symm, h3.setCell (by simp) _⟩, by simp [intOf]; omega⟩
        · rw [List.replicate_succ']; exact owns_set own1c (by simp) _
        · rw [List.replicate_succ']; exact owns_set own2c (by simp) _
        · rw [List.replicate_succ']; exact owns_set own3 (by simp) _
      · obtain rfl : k = m := by omega
        go_wp2
        refine bodyPost_ret (v := .tuple #[.agg #[.slice pa k qa, .slice pc k qc, .slice pb k qb, .slice none 0 0, .int .i64 0, .int .i64 0, .bool true, .bool false], .bool true]) (by simp [results, Try.results45, go_sem, *]) rfl ?_
        refine ⟨_, _, _, by rw [hd], ⟨?_, ?_, ?_, hac, hab, hcb⟩, ?_⟩
        · rw [HM.out]; unfold BoolsO; rw [List.length_replicate, List.map_replicate]; exact owns_lo (owns_ab oa (by repeat (first | (with_reducible exact Ab.refl _ _) | (with_reducible assumption) | (with_reducible refine Ab.drewN ?_ _) | (with_reducible refine Ab.drew ?_) | (with_reducible refine Ab.alloc ?_ _) | (with_reducible refine Ab.setCell ?_ (by (first | (with_reducible assumption) | omega | (simp only [World.size_alloc, World.size_setCell, World.size_drew, World.heap_drewN]; omega) | (simp; omega))) _) | (with_reducible refine Ab.fr ?_ (by with_reducible assumption))))) (by (first | (with_reducible assumption) | omega | (simp only [World.size_alloc, World.size_setCell, World.size_drew, World.heap_drewN]; omega) | (simp; omega)))
        · rw [HM.out]; unfold IntsO; rw [List.length_replicate, List.map_replicate]; exact owns_lo (owns_ab oc (by repeat (first | (with_reducible exact Ab.refl _ _) | (with_reducible assumption) | (with_reducible refine Ab.drewN ?_ _) | (with_reducible refine Ab.drew ?_) | (with_reducible refine Ab.alloc ?_ _) | (with_reducible refine Ab.setCell ?_ (by (first | (with_reducible assumption) | omega | (simp only [World.size_alloc, World.size_setCell, World.size_drew, World.heap_drewN]; omega) | (simp; omega))) _) | (with_reducible refine Ab.fr ?_ (by with_reducible assumption))))) (by (first | (with_reducible assumption) | omega | (simp only [World.size_alloc, World.size_setCell, World.size_drew, World.heap_drewN]; omega) | (simp; omega)))
        · rw [HM.out]; unfold BoolsO; rw [List.length_replicate, List.map_replicate]; exact owns_lo (owns_ab ob (by repeat (first | (with_reducible exact Ab.refl _ _) | (with_reducible assumption) | (with_reducible refine Ab.drewN ?_ _) | (with_reducible refine Ab.drew ?_) | (with_reducible refine Ab.alloc ?_ _) | (with_reducible refine Ab.setCell ?_ (by (first | (with_reducible assumption) | omega | (simp only [World.size_alloc, World.size_setCell, World.size_drew, World.heap_drewN]; omega) | (simp; omega))) _) | (with_reducible refine Ab.fr ?_ (by with_reducible assumption))))) (by (first | (with_reducible assumption) | omega | (simp only [World.size_alloc, World.size_setCell, World.size_drew, World.heap_drewN]; omega) | (simp; omega)))
        · repeat (first | (with_reducible exact Fr.refl _) | (with_reducible assumption) | (with_reducible refine Fr.drewN ?_ _) | (with_reducible refine Fr.drew ?_) | (with_reducible refine Fr.alloc ?_ _) | (with_reducible refine Fr.setCell ?_ (by (first | (with_reducible assumption) | omega | (simp only [World.size_alloc, World.size_setCell, World.size_drew, World.heap_drewN]; omega) | (simp; omega))) _) | (with_reducible refine Fr.trans ?_ (by with_reducible assumption)))
  · have hd : decide (1 ≤ n ∧ n ≤ 8) = false := decide_eq_false hn
    have hm : newN n = 0 := by unfold newN; rw [if_neg hn]
    have HM := Lib.hid hm
    clear hm
    go_enter Try.func45, Try.ntmps45
    go_wp2_with (go_at_call 60; refine (l01In_any _ _ _ _).mono ?_; rintro e w1 ⟨rfl, rfl⟩)
    refine bodyPost_ret (v := .tuple #[.agg #[.slice none 0 0, .slice none 0 0, .slice none 0 0, .slice none 0 0, .int .i64 0, .int .i64 0, .bool false, .bool false], .bool false]) (by simp [results, Try.results45, go_sem, *]) rfl ?_
    refine ⟨_, _, _, by rw [hd], ?_, ?_⟩
    · rw [HM.out]; exact ⟨World.ownsRow_nil _ _ _ _, World.ownsRow_nil _ _ _ _, World.ownsRow_nil _ _ _ _, Apart.none _ _ _, Apart.none _ _ _, Apart.none _ _ _⟩
    · repeat (first | (with_reducible exact Fr.refl _) | (with_reducible assumption) | (with_reducible refine Fr.drewN ?_ _) | (with_reducible refine Fr.drew ?_) | (with_reducible refine Fr.alloc ?_ _) | (with_reducible refine Fr.setCell ?_ (by (first | (with_reducible assumption) | omega | (simp only [World.size_alloc, World.size_setCell, World.size_drew, World.heap_drewN]; omega) | (simp; omega))) _) | (with_reducible refine Fr.trans ?_ (by with_reducible assumption)))
end Go.Proofs.Ytlomckhfdcdljaa
