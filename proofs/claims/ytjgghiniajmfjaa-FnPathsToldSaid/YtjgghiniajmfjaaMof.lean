/- meaningOf, reached of the program. Conditions: at most 12 places, a right path, a right graph. -/
import Derived.Test.YtjgghiniajmfjaaRlw
import Derived.Test.YtjgghiniajmfjaaPth2
import Derived.Test.YtjgghiniajmfjaaKGr
import Derived.Deep.RegionLaw
import Derived.Shelf.Abstract
namespace Go.Proofs.Ytjgghiniajmfjaa
open Go.RowKit
set_option linter.unusedVariables false
set_option linter.unusedSimpArgs false
theorem info_rel : (Try.prog.info? 126).map (fun i => (i.zero, i.size, i.bytes)) = some (some (.slice none 0 0), 1, 24) := by kernel_rfl
/-- What a label means in a graph. -/
def stR (es : List EdgeR) (l : UInt8) : (Nat → Nat → Bool) := fun i j => es.any fun e => decide (e.f1 = l) && (decide (e.f0 = (i : Int)) && decide (e.f2 = (j : Int)))
def EdgesIn (n : Nat) (es : List EdgeR) : Prop := ∀ k, k < es.length → (0 ≤ (edgeAt es k).f0 ∧ (edgeAt es k).f0 < (n : Int)) ∧ (0 ≤ (edgeAt es k).f2 ∧ (edgeAt es k).f2 < (n : Int))
theorem edgeAt_get {es : List EdgeR} {k : Nat} (h : k < es.length) : es[k] = edgeAt es k := by simp [edgeAt, List.getD, h]
theorem stR_take {es : List EdgeR} {k : Nat} (h : k < es.length) (l : UInt8) (i j : Nat) : stR (es.take (k + 1)) l i j = (stR (es.take k) l i j || (decide ((edgeAt es k).f1 = l) && (decide ((edgeAt es k).f0 = (i : Int)) && decide ((edgeAt es k).f2 = (j : Int))))) := by
  unfold stR
  rw [List.take_succ_eq_append_getElem h, List.any_append, edgeAt_get h]
  simp
theorem sup_st {n : Nat} {es : List EdgeR} (h : EdgesIn n es) (l : UInt8) : Sup n (stR es l) := fun i j hij => by
  unfold stR at hij
  rw [List.any_eq_true] at hij
  obtain ⟨e, he, hb⟩ := hij
  obtain ⟨k, hk, rfl⟩ := List.getElem_of_mem he
  have h1 := h k hk
  rw [edgeAt_get hk] at hb
  simp only [Bool.and_eq_true, decide_eq_true_eq] at hb
  omega
theorem edges_in {g : GraphD} (h : graphB g = true) : EdgesIn g.f0.toNat g.f1 := fun k hk => by
  obtain ⟨⟨h1, h2⟩, h3, h4⟩ := graphB_out h
  have := h4 k hk
  by_cases e0 : 0 ≤ (edgeAt g.f1 k).f0 ∧ (edgeAt g.f1 k).f0 < g.f0
  · by_cases e2 : 0 ≤ (edgeAt g.f1 k).f2 ∧ (edgeAt g.f1 k).f2 < g.f0
    · omega
    · have q := edgK_to (n := g.f0) (xs := g.f1) (k := k) rfl e2
      rw [q] at this
      cases this
  · have q := edgK_from (n := g.f0) (xs := g.f1) (k := k) rfl e0
    rw [q] at this
    cases this
set_option maxHeartbeats 8000000 in
set_option maxRecDepth 100000 in
theorem stepOf_any (l : UInt8) (B n : Nat) (ev : Value) (es : List EdgeR) (w : World) (hn : 0 < n ∧ n ≤ 12) (hb : Box w B #[.int .i64 (n : Int), ev] 32) (he : EdgesR w ev es) (hin : EdgesIn n es) :
    Calls Try.prog 166 #[.int .u8 (l.toNat : Int), .pointer (some ⟨B, 0, none⟩)] w fun e w' => ∃ ao cap, e = .returned (.slice ao n cap) ∧ RelO w' w.heap.size (.slice ao n cap) n (stR es l) ∧ Fr w w' := by
  obtain ⟨i0, hi, hz0, hz1, hz2⟩ := info_parts info_u32
  obtain ⟨hn0, hn1⟩ := hn
  have hel := he.le
  obtain ⟨ao, be, oe, ce, rfl, hce, hme, fe⟩ := he.one
  have FE := Lib.hid fe
  have HIN := Lib.hid hin
  have F0 := hb.facts
  have HB := Lib.hid hb
  have hll := l.toNat_lt
  clear fe he hin hb
  go_enter Try.func166, Try.ntmps166
  go_wp2_with (at_make; refine wpList_make_full _ rfl _ _ 126 rfl w.heap.size 124 i0 (.int .u32 0) 1 Try.underlying126 hi hz0 hz1 _ _ _ _ n rfl rfl rfl rfl (by rw [hz2]; omega) (by unfold maxLen; omega) (by omega) ?_; intro w1 hown hgrow; have HF0 : Fr w w1 := (Fr.refl w).grown hgrow (by simp); have F1 := (HB.out.fr HF0).facts)
  rw [show (madeCells (Value.cells (.int .u32 0)) (n * 1)).toList = rCells n rNo from by rw [rCells_no, Nat.mul_one]; exact toList_madeCells_one _ _] at hown; have HO : Hid (RelO w1 w.heap.size (.slice (some ⟨w.heap.size, 0, none⟩) n n) n rNo) := Lib.hid hown; have HF1 : Fr w w1 := (Fr.refl w).grown hgrow (by simp); clear hown hgrow
  clear HF0
  go_loopw [6, 13] (fun _ i wr => ∃ k : Nat, k ≤ es.length ∧ i = .int .i64 k ∧ Hid (RelO wr w.heap.size (.slice (some ⟨w.heap.size, 0, none⟩) n n) n (stR (es.take k) l)) ∧ Fr w wr) (fun _ i _ => es.length - (intOf i).toNat)
  case atStart => exact ⟨0, Nat.zero_le _, rfl, Lib.hid (HO.out.congr fun i hi => by funext j; simp [stR, rNo]), HF1⟩
  case round =>
    clear HO HF1 F1
    obtain ⟨k, hk, rfl, ho, hfr⟩ := hrel
    have zr := hfr.size
    by_cases hlt : k < es.length
    · obtain ⟨rfl, hbe, fe⟩ := FE.out (by omega)
      obtain ⟨g0, g1, g2⟩ := fe k hlt
      obtain ⟨hi0, hi2⟩ := HIN.out k hlt
      have hstep := fun i j => stR_take hlt l i j
      obtain ⟨x, hx⟩ : ∃ x, edgeAt es k = x := ⟨_, rfl⟩
      rw [hx] at g0 g1 g2 hi0 hi2
      have HST : Hid (∀ i j, stR (es.take (k + 1)) l i j = (stR (es.take k) l i j || (decide (x.f1 = l) && (decide (x.f0 = (i : Int)) && decide (x.f2 = (j : Int)))))) := Lib.hid (by rw [← hx]; exact hstep)
      have c0 := (hfr.cell (p := ⟨be, _, none⟩) hbe).trans g0
      have c1 := (hfr.cell (p := ⟨be, _, none⟩) hbe).trans g1
      have c2 := (hfr.cell (p := ⟨be, _, none⟩) hbe).trans g2
      clear fe hx hstep g0 g1 g2
      obtain ⟨x0, x1, x2⟩ := x
      simp only [] at c0 c1 c2 hi0 hi2 HST
      have hxl := x1.toNat_lt
      obtain ⟨p, rfl⟩ := Int.eq_ofNat_of_zero_le hi0.1
      obtain ⟨q, rfl⟩ := Int.eq_ofNat_of_zero_le hi2.1
      have hp : p < n := by omega
      have hq : q < n := by omega
      clear hi0 hi2
      obtain ⟨g, cap, hv, hg1, hg2, hc, hz⟩ := ho.out.one hn0
      cases hv
      have d1 := hc p hp
      have z1 := hz p
      have hne1 : be ≠ w.heap.size := by omega
      have hne2 : wr.heap.size ≠ w.heap.size := by omega
      have hne3 : w.heap.size ≠ wr.heap.size := by omega
      clear hc hz
      by_cases hl : x1 = l
      · subst hl
        have hone := bN_one q (by omega)
        have hone2 : IntKind.u32.wrap (2 ^ q) = (bN (fun j => decide (j = q)) : Int) := by rw [← hone, Int.one_mul]
        have hor := bN_or (stR (es.take k) x1 p) (fun j => decide (j = q))
        have ho2 : Hid (∀ wq, Fr wr wq → RelO (wq.setCell ⟨w.heap.size, p, none⟩ (.int .u32 (bN (fun j => stR (es.take k) x1 p j || decide (j = q)) : Int))) w.heap.size (.slice (some ⟨w.heap.size, 0, none⟩) n n) n (stR (es.take (k + 1)) x1)) := Lib.hid fun wq hq => (RelO.set (ho.out.fr hq) p _).congr fun i hi => by
          funext j
          rw [HST.out]
          by_cases e : i = p
          · subst e
            simp only [if_true, decide_true, Bool.true_and]
            congr 1
            rw [Bool.eq_iff_iff, decide_eq_true_eq, decide_eq_true_eq]
            omega
          · simp only [if_neg e]
            rw [decide_eq_false (show ¬ ((p : Int) = (i : Int)) by omega)]
            simp
        clear ho HST
        go_wp2_with fail
        go_region
        all_goals
          go_wp2_with fail
          go_roundw
          case rel => exact ⟨k + 1, by omega, by go_num, Lib.hid ((ho2.out _ (Fr.refl _)).fr (by repeat (first | (with_reducible exact Fr.refl _) | (with_reducible assumption) | (with_reducible refine Fr.drewN ?_ _) | (with_reducible refine Fr.drew ?_) | (with_reducible refine Fr.alloc ?_ _) | (with_reducible refine Fr.setCell ?_ (by (first | (with_reducible assumption) | omega | (simp only [World.size_alloc, World.size_setCell, World.size_drew, World.heap_drewN]; omega) | (simp; done) | (simp; omega))) _) | (with_reducible refine Fr.trans ?_ (by with_reducible assumption))))), by repeat (first | (with_reducible exact Fr.refl _) | (with_reducible assumption) | (with_reducible refine Fr.drewN ?_ _) | (with_reducible refine Fr.drew ?_) | (with_reducible refine Fr.alloc ?_ _) | (with_reducible refine Fr.setCell ?_ (by (first | (with_reducible assumption) | omega | (simp only [World.size_alloc, World.size_setCell, World.size_drew, World.heap_drewN]; omega) | (simp; done) | (simp; omega))) _) | (with_reducible refine Fr.trans ?_ (by with_reducible assumption)))⟩
          case measure => (simp [intOf]; omega)
      · have hb3 : ((x1.toNat : Int) == (l.toNat : Int)) = false := by rw [beq_eq_false_iff_ne, Ne, byte_eq]; exact hl
        have ho2 : Hid (∀ wq, Fr wr wq → RelO wq w.heap.size (.slice (some ⟨w.heap.size, 0, none⟩) n n) n (stR (es.take (k + 1)) l)) := Lib.hid fun wq hq => (ho.out.fr hq).congr fun i hi => by
          funext j
          rw [HST.out, decide_eq_false hl]
          simp
        clear ho HST hl
        go_wp2_with fail
        go_roundw
        case rel => exact ⟨k + 1, by omega, by go_num, by (refine Lib.hid (ho2.out _ ?_); repeat (first | (with_reducible exact Fr.refl _) | (with_reducible assumption) | (with_reducible refine Fr.drewN ?_ _) | (with_reducible refine Fr.drew ?_) | (with_reducible refine Fr.alloc ?_ _) | (with_reducible refine Fr.setCell ?_ (by (first | (with_reducible assumption) | omega | (simp only [World.size_alloc, World.size_setCell, World.size_drew, World.heap_drewN]; omega) | (simp; done) | (simp; omega))) _) | (with_reducible refine Fr.trans ?_ (by with_reducible assumption)))), by repeat (first | (with_reducible exact Fr.refl _) | (with_reducible assumption) | (with_reducible refine Fr.drewN ?_ _) | (with_reducible refine Fr.drew ?_) | (with_reducible refine Fr.alloc ?_ _) | (with_reducible refine Fr.setCell ?_ (by (first | (with_reducible assumption) | omega | (simp only [World.size_alloc, World.size_setCell, World.size_drew, World.heap_drewN]; omega) | (simp; done) | (simp; omega))) _) | (with_reducible refine Fr.trans ?_ (by with_reducible assumption)))⟩
        case measure => (simp [intOf]; omega)
    · have ho2 : Hid (RelO wr w.heap.size (.slice (some ⟨w.heap.size, 0, none⟩) n n) n (stR es l)) := Lib.hid (by have := ho.out; rw [List.take_of_length_le (by omega)] at this; exact this)
      clear ho
      go_wp2_with fail
      go_ret
      exact ⟨_, _, rfl, ho2.out, hfr⟩
end Go.Proofs.Ytjgghiniajmfjaa
