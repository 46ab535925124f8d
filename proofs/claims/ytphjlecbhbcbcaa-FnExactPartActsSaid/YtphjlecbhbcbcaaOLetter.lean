/- The struct Letter, which holds one row: the laws' helpers. (Printed by mk_types.py.) No condition but the sizes that the reading gives. -/
import Derived.Test.YtphjlecbhbcbcaaTWalk
namespace Go.Proofs.Ytphjlecbhbcbcaa
open Go.RowKit
set_option linter.unusedVariables false
set_option linter.unusedSimpArgs false

structure LetterD where
  f0 : Int
  f1 : Int
  f2 : Int
  f3 : Bool
  f4 : List WalkR
  f5 : ByteArray
def LetterRd (w : World) (v : Value) (d : LetterD) : Prop := ∃ u, v = .agg #[.int .i64 d.f0, .int .i64 d.f1, .int .i64 d.f2, .bool d.f3, u, .string d.f5] ∧ WalksR w u d.f4
def LetterW (w : World) (lo hi : Nat) (v : Value) (d : LetterD) : Prop := ∃ ao cap, v = .agg #[.int .i64 d.f0, .int .i64 d.f1, .int .i64 d.f2, .bool d.f3, .slice ao d.f4.length cap, .string d.f5] ∧ WalksW w lo hi (.slice ao d.f4.length cap) d.f4
theorem LetterRd.fr {w w' : World} {v : Value} {d : LetterD} (h : LetterRd w v d) (hf : Fr w w') : LetterRd w' v d := by obtain ⟨u, h1, h2⟩ := h; exact ⟨u, h1, h2.fr hf⟩
theorem LetterW.fr {w w' : World} {lo hi : Nat} {v : Value} {d : LetterD} (h : LetterW w lo hi v d) (hf : Fr w w') : LetterW w' lo hi v d := by obtain ⟨a, c, h1, h2⟩ := h; exact ⟨a, c, h1, h2.fr hf⟩
theorem LetterW.rd {w : World} {lo hi : Nat} {v : Value} {d : LetterD} (h : LetterW w lo hi v d) : LetterRd w v d := by obtain ⟨a, c, h1, h2⟩ := h; exact ⟨_, h1, h2.rd⟩
theorem LetterW.span {w w' : World} {lo hi : Nat} {v : Value} {d : LetterD} (h : LetterW w lo hi v d) {a b : Nat} (s : Span a b w w') (hd : hi ≤ a ∨ b ≤ lo) : LetterW w' lo hi v d := by obtain ⟨x, c, h1, h2⟩ := h; exact ⟨x, c, h1, h2.span s hd⟩
theorem LetterW.val {w : World} {lo hi : Nat} {v : Value} {d : LetterD} (h : LetterW w lo hi v d) : ∃ ao cap, v = .agg #[.int .i64 d.f0, .int .i64 d.f1, .int .i64 d.f2, .bool d.f3, .slice ao d.f4.length cap, .string d.f5] := by obtain ⟨a, c, h1, h2⟩ := h; exact ⟨a, c, h1⟩
set_option maxHeartbeats 1000000 in
theorem toLetter_w (v : Value) (d : LetterD) (w : World) (hv : LetterRd w v d) (hn : d.f4.length ≤ 1048576) :
    Calls Try.prog 25 #[v] w fun e w' => ∃ ao cap, e = .returned (.agg #[.int .i64 d.f0, .int .i64 d.f1, .int .i64 d.f2, .bool d.f3, .slice ao d.f4.length cap, .string d.f5]) ∧ LetterW w' w.heap.size w'.heap.size (.agg #[.int .i64 d.f0, .int .i64 d.f1, .int .i64 d.f2, .bool d.f3, .slice ao d.f4.length cap, .string d.f5]) d ∧ Fr w w' := by
  obtain ⟨u, rfl, hu⟩ := hv
  go_enter Try.func25, Try.ntmps25
  go_wp2_with fail
  refine (toWalkS_w _ d.f4 _ (hu.fr (by repeat (first | (with_reducible exact Fr.refl _) | (with_reducible assumption) | (with_reducible refine Fr.drewN ?_ _) | (with_reducible refine Fr.drew ?_) | (with_reducible refine Fr.alloc ?_ _) | (with_reducible refine Fr.setCell ?_ (by (first | (with_reducible assumption) | omega | (simp only [World.size_alloc, World.size_setCell, World.size_drew, World.heap_drewN]; omega) | (simp; done) | (simp; omega))) _) | (with_reducible refine Fr.trans ?_ (by with_reducible assumption))))) hn).mono ?_
  rintro e w1 ⟨ao, ca, rfl, ho, hf⟩
  have k0 := hf.blk w.heap.size (by (first | (with_reducible assumption) | omega | (simp only [World.size_alloc, World.size_setCell, World.size_drew, World.heap_drewN]; omega) | (simp; done) | (simp; omega))); have k1 := hf.blk (w.heap.size + 1) (by (first | (with_reducible assumption) | omega | (simp only [World.size_alloc, World.size_setCell, World.size_drew, World.heap_drewN]; omega) | (simp; done) | (simp; omega))); have k2 := hf.blk (w.heap.size + 1 + 1) (by (first | (with_reducible assumption) | omega | (simp only [World.size_alloc, World.size_setCell, World.size_drew, World.heap_drewN]; omega) | (simp; done) | (simp; omega))); have z1 := hf.size; (try simp only [World.size_alloc, World.size_setCell, World.size_drew] at z1)
  go_wp2_with fail
  refine bodyPost_ret (v := .agg #[.int .i64 d.f0, .int .i64 d.f1, .int .i64 d.f2, .bool d.f3, .slice ao d.f4.length ca, .string d.f5]) (by simp [results, Try.results25, go_sem, *]) rfl ⟨_, _, rfl, ?_, by repeat (first | (with_reducible exact Fr.refl _) | (with_reducible assumption) | (with_reducible refine Fr.drewN ?_ _) | (with_reducible refine Fr.drew ?_) | (with_reducible refine Fr.alloc ?_ _) | (with_reducible refine Fr.setCell ?_ (by (first | (with_reducible assumption) | omega | (simp only [World.size_alloc, World.size_setCell, World.size_drew, World.heap_drewN]; omega) | (simp; done) | (simp; omega))) _) | (with_reducible refine Fr.trans ?_ (by with_reducible assumption)))⟩
  exact ⟨ao, ca, rfl, OwW.mono (OwW.ab ho (by repeat (first | (with_reducible exact Ab.refl _ _) | (with_reducible assumption) | (with_reducible refine Ab.drewN ?_ _) | (with_reducible refine Ab.drew ?_) | (with_reducible refine Ab.alloc ?_ _) | (with_reducible refine Ab.setCell ?_ (by (first | (with_reducible assumption) | omega | (simp only [World.size_alloc, World.size_setCell, World.size_drew, World.heap_drewN]; omega) | (simp; done) | (simp; omega))) _) | (with_reducible refine Ab.fr ?_ (by with_reducible assumption))))) (by (first | (with_reducible assumption) | omega | (simp only [World.size_alloc, World.size_setCell, World.size_drew, World.heap_drewN]; omega) | (simp; done) | (simp; omega))) (by (first | (with_reducible assumption) | omega | (simp only [World.size_alloc, World.size_setCell, World.size_drew, World.heap_drewN]; omega) | (simp; done) | (simp; omega)))⟩
set_option maxHeartbeats 1000000 in
theorem eqLetter_same (a b : Value) (d : LetterD) (w : World) (ha : LetterRd w a d) (hb : LetterRd w b d) :
    Calls Try.prog 27 #[a, b] w fun e w' => e = .returned (.bool true) ∧ Fr w w' := by
  obtain ⟨u, rfl, hu⟩ := ha
  obtain ⟨v, rfl, hv⟩ := hb
  have q5 : (d.f5.toList == d.f5.toList) = true := bytes_beq rfl
  go_enter Try.func27, Try.ntmps27
  go_wp2_with (go_at_call 19; refine (eqWalkS_same _ _ d.f4 _ (hu.fr (by repeat (first | (with_reducible exact Fr.refl _) | (with_reducible assumption) | (with_reducible refine Fr.drewN ?_ _) | (with_reducible refine Fr.drew ?_) | (with_reducible refine Fr.alloc ?_ _) | (with_reducible refine Fr.setCell ?_ (by (first | (with_reducible assumption) | omega | (simp only [World.size_alloc, World.size_setCell, World.size_drew, World.heap_drewN]; omega) | (simp; done) | (simp; omega))) _) | (with_reducible refine Fr.trans ?_ (by with_reducible assumption))))) (hv.fr (by repeat (first | (with_reducible exact Fr.refl _) | (with_reducible assumption) | (with_reducible refine Fr.drewN ?_ _) | (with_reducible refine Fr.drew ?_) | (with_reducible refine Fr.alloc ?_ _) | (with_reducible refine Fr.setCell ?_ (by (first | (with_reducible assumption) | omega | (simp only [World.size_alloc, World.size_setCell, World.size_drew, World.heap_drewN]; omega) | (simp; done) | (simp; omega))) _) | (with_reducible refine Fr.trans ?_ (by with_reducible assumption)))))).mono ?_; rintro e w1 ⟨rfl, hf⟩; have z1 := hf.size; (try simp only [World.size_alloc, World.size_setCell, World.size_drew] at z1); have k0 := hf.blk w.heap.size (by (first | (with_reducible assumption) | omega | (simp only [World.size_alloc, World.size_setCell, World.size_drew, World.heap_drewN]; omega) | (simp; done) | (simp; omega))); have k1 := hf.blk (w.heap.size + 1) (by (first | (with_reducible assumption) | omega | (simp only [World.size_alloc, World.size_setCell, World.size_drew, World.heap_drewN]; omega) | (simp; done) | (simp; omega))))
  go_ret
  exact ⟨rfl, by repeat (first | (with_reducible exact Fr.refl _) | (with_reducible assumption) | (with_reducible refine Fr.drewN ?_ _) | (with_reducible refine Fr.drew ?_) | (with_reducible refine Fr.alloc ?_ _) | (with_reducible refine Fr.setCell ?_ (by (first | (with_reducible assumption) | omega | (simp only [World.size_alloc, World.size_setCell, World.size_drew, World.heap_drewN]; omega) | (simp; done) | (simp; omega))) _) | (with_reducible refine Fr.trans ?_ (by with_reducible assumption)))⟩
def LetterD.bulk (d : LetterD) : Nat := (d.f4.length) + d.f5.size
def LetterD.okSize (d : LetterD) : Prop := d.f5.size ≤ maxLen
def LetterD.cnt (d : LetterD) : Nat := 4 * d.f4.length
set_option maxHeartbeats 1000000 in
set_option maxRecDepth 100000 in
theorem szLetter_w (v : Value) (d : LetterD) (left : Int) (w : World) (hv : LetterRd w v d) (hs : d.okSize) (h0 : 0 ≤ left) (h1 : left ≤ 1048576) :
    Calls Try.prog 23 #[v, .int .i64 left] w fun e w' => e = .returned (.int .i64 (szR left d.bulk)) ∧ Fr w w' := by
  obtain ⟨u, rfl, hu⟩ := hv
  unfold LetterD.okSize at hs
  have hs5 := hs
  unfold maxLen at hs5
  by_cases hl0 : (((d.f4.length) : Nat) : Int) ≤ left
  · have hr0 := szR_ok hl0
    by_cases hl : (d.bulk : Int) ≤ left
    · have hr := szR_ok hl
      unfold LetterD.bulk at hl
      go_enter Try.func23, Try.ntmps23
      go_wp2_with (go_at_call 14; refine (szWalkS_any _ d.f4 _ _ (hu.fr (by repeat (first | (with_reducible exact Fr.refl _) | (with_reducible assumption) | (with_reducible refine Fr.drewN ?_ _) | (with_reducible refine Fr.drew ?_) | (with_reducible refine Fr.alloc ?_ _) | (with_reducible refine Fr.setCell ?_ (by (first | (with_reducible assumption) | omega | (simp only [World.size_alloc, World.size_setCell, World.size_drew, World.heap_drewN]; omega) | (simp; done) | (simp; omega))) _) | (with_reducible refine Fr.trans ?_ (by with_reducible assumption))))) (by omega) (by omega)).mono ?_; rintro e w1 ⟨rfl, hf⟩; subst hf)
      all_goals go_ret
      all_goals exact ⟨ret_int (by rw [hr]; unfold LetterD.bulk; omega), by repeat (first | (with_reducible exact Fr.refl _) | (with_reducible assumption) | (with_reducible refine Fr.drewN ?_ _) | (with_reducible refine Fr.drew ?_) | (with_reducible refine Fr.alloc ?_ _) | (with_reducible refine Fr.setCell ?_ (by (first | (with_reducible assumption) | omega | (simp only [World.size_alloc, World.size_setCell, World.size_drew, World.heap_drewN]; omega) | (simp; done) | (simp; omega))) _) | (with_reducible refine Fr.trans ?_ (by with_reducible assumption)))⟩
    · have hr := szR_no hl
      unfold LetterD.bulk at hl
      go_enter Try.func23, Try.ntmps23
      go_wp2_with (go_at_call 14; refine (szWalkS_any _ d.f4 _ _ (hu.fr (by repeat (first | (with_reducible exact Fr.refl _) | (with_reducible assumption) | (with_reducible refine Fr.drewN ?_ _) | (with_reducible refine Fr.drew ?_) | (with_reducible refine Fr.alloc ?_ _) | (with_reducible refine Fr.setCell ?_ (by (first | (with_reducible assumption) | omega | (simp only [World.size_alloc, World.size_setCell, World.size_drew, World.heap_drewN]; omega) | (simp; done) | (simp; omega))) _) | (with_reducible refine Fr.trans ?_ (by with_reducible assumption))))) (by omega) (by omega)).mono ?_; rintro e w1 ⟨rfl, hf⟩; subst hf)
      all_goals go_ret
      all_goals exact ⟨ret_int hr.symm, by repeat (first | (with_reducible exact Fr.refl _) | (with_reducible assumption) | (with_reducible refine Fr.drewN ?_ _) | (with_reducible refine Fr.drew ?_) | (with_reducible refine Fr.alloc ?_ _) | (with_reducible refine Fr.setCell ?_ (by (first | (with_reducible assumption) | omega | (simp only [World.size_alloc, World.size_setCell, World.size_drew, World.heap_drewN]; omega) | (simp; done) | (simp; omega))) _) | (with_reducible refine Fr.trans ?_ (by with_reducible assumption)))⟩
  · have hr0 := szR_no hl0
    have hr : szR left d.bulk = -1 := szR_no (by unfold LetterD.bulk; omega)
    go_enter Try.func23, Try.ntmps23
    go_wp2_with (go_at_call 14; refine (szWalkS_any _ d.f4 _ _ (hu.fr (by repeat (first | (with_reducible exact Fr.refl _) | (with_reducible assumption) | (with_reducible refine Fr.drewN ?_ _) | (with_reducible refine Fr.drew ?_) | (with_reducible refine Fr.alloc ?_ _) | (with_reducible refine Fr.setCell ?_ (by (first | (with_reducible assumption) | omega | (simp only [World.size_alloc, World.size_setCell, World.size_drew, World.heap_drewN]; omega) | (simp; done) | (simp; omega))) _) | (with_reducible refine Fr.trans ?_ (by with_reducible assumption))))) (by omega) (by omega)).mono ?_; rintro e w1 ⟨rfl, hf⟩; subst hf)
    all_goals go_ret
    all_goals exact ⟨ret_int hr.symm, by repeat (first | (with_reducible exact Fr.refl _) | (with_reducible assumption) | (with_reducible refine Fr.drewN ?_ _) | (with_reducible refine Fr.drew ?_) | (with_reducible refine Fr.alloc ?_ _) | (with_reducible refine Fr.setCell ?_ (by (first | (with_reducible assumption) | omega | (simp only [World.size_alloc, World.size_setCell, World.size_drew, World.heap_drewN]; omega) | (simp; done) | (simp; omega))) _) | (with_reducible refine Fr.trans ?_ (by with_reducible assumption)))⟩
def LetterD.mkd (d : LetterD) (k : Int) : LetterD := { d with f4 := mkWalks k d.f4.length }
theorem LetterD.mkd_cnt (d : LetterD) (k : Int) : (d.mkd k).cnt = d.cnt := by simp [LetterD.cnt, LetterD.mkd, mkWalks_length]
set_option maxHeartbeats 1000000 in
theorem markLetter_w (v : Value) (d : LetterD) (k : Int) (lo hi : Nat) (w : World) (ha : LetterW w lo hi v d) (hh : hi ≤ w.heap.size) (h0 : 0 < k) (h1 : k + d.cnt ≤ 1073741824) :
    Calls Try.prog 41 #[v, .int .i64 k] w fun e w' => e = .returned (.int .i64 (k + d.cnt)) ∧ LetterW w' lo hi v (d.mkd k) ∧ Span lo hi w w' := by
  unfold LetterD.cnt at h1 ⊢
  obtain ⟨ao, cap, rfl, hu⟩ := ha
  go_enter Try.func41, Try.ntmps41
  go_wp2_with fail
  refine (markWalkS_w _ d.f4 k lo hi _ (hu.fr (by repeat (first | (with_reducible exact Fr.refl _) | (with_reducible assumption) | (with_reducible refine Fr.drewN ?_ _) | (with_reducible refine Fr.drew ?_) | (with_reducible refine Fr.alloc ?_ _) | (with_reducible refine Fr.setCell ?_ (by (first | (with_reducible assumption) | omega | (simp only [World.size_alloc, World.size_setCell, World.size_drew, World.heap_drewN]; omega) | (simp; done) | (simp; omega))) _) | (with_reducible refine Fr.trans ?_ (by with_reducible assumption))))) h0 (by omega)).mono ?_
  rintro e w1 ⟨rfl, ho, sp⟩
  have B := (Box.new w _ _).span sp (.inr hh)
  have F := B.facts
  go_wp2_with fail
  go_ret
  exact ⟨ret_int (by simp), ⟨ao, cap, by simp [LetterD.mkd, mkWalks_length], by simpa [LetterD.mkd, mkWalks_length] using ho⟩, (Span.of_fr (by repeat (first | (with_reducible exact Fr.refl _) | (with_reducible assumption) | (with_reducible refine Fr.drewN ?_ _) | (with_reducible refine Fr.drew ?_) | (with_reducible refine Fr.alloc ?_ _) | (with_reducible refine Fr.setCell ?_ (by (first | (with_reducible assumption) | omega | (simp only [World.size_alloc, World.size_setCell, World.size_drew, World.heap_drewN]; omega) | (simp; done) | (simp; omega))) _) | (with_reducible refine Fr.trans ?_ (by with_reducible assumption))))).trans sp⟩
set_option maxHeartbeats 1000000 in
theorem heldLetter_w (v : Value) (d : LetterD) (k : Int) (w : World) (ha : LetterRd w v (d.mkd k)) (h0 : 0 < k) (h1 : k + d.cnt ≤ 1073741824) :
    Calls Try.prog 42 #[v, .int .i64 k] w fun e w' => e = .returned (.int .i64 (k + d.cnt)) ∧ Fr w w' := by
  unfold LetterD.cnt at h1 ⊢
  obtain ⟨u, rfl, hu⟩ := ha
  go_enter Try.func42, Try.ntmps42
  go_wp2_with fail
  refine (heldWalkS_w _ k d.f4.length _ (hu.fr (by repeat (first | (with_reducible exact Fr.refl _) | (with_reducible assumption) | (with_reducible refine Fr.drewN ?_ _) | (with_reducible refine Fr.drew ?_) | (with_reducible refine Fr.alloc ?_ _) | (with_reducible refine Fr.setCell ?_ (by (first | (with_reducible assumption) | omega | (simp only [World.size_alloc, World.size_setCell, World.size_drew, World.heap_drewN]; omega) | (simp; done) | (simp; omega))) _) | (with_reducible refine Fr.trans ?_ (by with_reducible assumption))))) h0 (by omega)).mono ?_
  rintro e w1 ⟨rfl, hf⟩
  go_wp2_with fail
  go_ret
  exact ⟨ret_int (by simp), by repeat (first | (with_reducible exact Fr.refl _) | (with_reducible assumption) | (with_reducible refine Fr.drewN ?_ _) | (with_reducible refine Fr.drew ?_) | (with_reducible refine Fr.alloc ?_ _) | (with_reducible refine Fr.setCell ?_ (by (first | (with_reducible assumption) | omega | (simp only [World.size_alloc, World.size_setCell, World.size_drew, World.heap_drewN]; omega) | (simp; done) | (simp; omega))) _) | (with_reducible refine Fr.trans ?_ (by with_reducible assumption)))⟩
end Go.Proofs.Ytphjlecbhbcbcaa
