/- The struct Disk, which holds one row: the laws' helpers. (Printed by mk_types.py.) No condition but the sizes that the reading gives. -/
import Derived.Test.YtphjlecbhbcbcaaTFile
namespace Go.Proofs.Ytphjlecbhbcbcaa
open Go.RowKit
set_option linter.unusedVariables false
set_option linter.unusedSimpArgs false

structure DiskD where
  f0 : List FileR
def DiskRd (w : World) (v : Value) (d : DiskD) : Prop := ∃ u, v = .agg #[u] ∧ FilesR w u d.f0
def DiskW (w : World) (lo hi : Nat) (v : Value) (d : DiskD) : Prop := ∃ ao cap, v = .agg #[.slice ao d.f0.length cap] ∧ FilesW w lo hi (.slice ao d.f0.length cap) d.f0
theorem DiskRd.fr {w w' : World} {v : Value} {d : DiskD} (h : DiskRd w v d) (hf : Fr w w') : DiskRd w' v d := by obtain ⟨u, h1, h2⟩ := h; exact ⟨u, h1, h2.fr hf⟩
theorem DiskW.fr {w w' : World} {lo hi : Nat} {v : Value} {d : DiskD} (h : DiskW w lo hi v d) (hf : Fr w w') : DiskW w' lo hi v d := by obtain ⟨a, c, h1, h2⟩ := h; exact ⟨a, c, h1, h2.fr hf⟩
theorem DiskW.rd {w : World} {lo hi : Nat} {v : Value} {d : DiskD} (h : DiskW w lo hi v d) : DiskRd w v d := by obtain ⟨a, c, h1, h2⟩ := h; exact ⟨_, h1, h2.rd⟩
theorem DiskW.span {w w' : World} {lo hi : Nat} {v : Value} {d : DiskD} (h : DiskW w lo hi v d) {a b : Nat} (s : Span a b w w') (hd : hi ≤ a ∨ b ≤ lo) : DiskW w' lo hi v d := by obtain ⟨x, c, h1, h2⟩ := h; exact ⟨x, c, h1, h2.span s hd⟩
theorem DiskW.val {w : World} {lo hi : Nat} {v : Value} {d : DiskD} (h : DiskW w lo hi v d) : ∃ ao cap, v = .agg #[.slice ao d.f0.length cap] := by obtain ⟨a, c, h1, h2⟩ := h; exact ⟨a, c, h1⟩
set_option maxHeartbeats 1000000 in
theorem toDisk_w (v : Value) (d : DiskD) (w : World) (hv : DiskRd w v d) (hn : d.f0.length ≤ 1048576) :
    Calls Try.prog 45 #[v] w fun e w' => ∃ ao cap, e = .returned (.agg #[.slice ao d.f0.length cap]) ∧ DiskW w' w.heap.size w'.heap.size (.agg #[.slice ao d.f0.length cap]) d ∧ Fr w w' := by
  obtain ⟨u, rfl, hu⟩ := hv
  go_enter Try.func45, Try.ntmps45
  go_wp2_with fail
  refine (toFileS_w _ d.f0 _ (hu.fr (by repeat (first | (with_reducible exact Fr.refl _) | (with_reducible assumption) | (with_reducible refine Fr.drewN ?_ _) | (with_reducible refine Fr.drew ?_) | (with_reducible refine Fr.alloc ?_ _) | (with_reducible refine Fr.setCell ?_ (by (first | (with_reducible assumption) | omega | (simp only [World.size_alloc, World.size_setCell, World.size_drew, World.heap_drewN]; omega) | (simp; done) | (simp; omega))) _) | (with_reducible refine Fr.trans ?_ (by with_reducible assumption))))) hn).mono ?_
  rintro e w1 ⟨ao, ca, rfl, ho, hf⟩
  have k0 := hf.blk w.heap.size (by (first | (with_reducible assumption) | omega | (simp only [World.size_alloc, World.size_setCell, World.size_drew, World.heap_drewN]; omega) | (simp; done) | (simp; omega))); have k1 := hf.blk (w.heap.size + 1) (by (first | (with_reducible assumption) | omega | (simp only [World.size_alloc, World.size_setCell, World.size_drew, World.heap_drewN]; omega) | (simp; done) | (simp; omega))); have k2 := hf.blk (w.heap.size + 1 + 1) (by (first | (with_reducible assumption) | omega | (simp only [World.size_alloc, World.size_setCell, World.size_drew, World.heap_drewN]; omega) | (simp; done) | (simp; omega))); have z1 := hf.size; (try simp only [World.size_alloc, World.size_setCell, World.size_drew] at z1)
  go_wp2_with fail
  refine bodyPost_ret (v := .agg #[.slice ao d.f0.length ca]) (by simp [results, Try.results45, go_sem, *]) rfl ⟨_, _, rfl, ?_, by repeat (first | (with_reducible exact Fr.refl _) | (with_reducible assumption) | (with_reducible refine Fr.drewN ?_ _) | (with_reducible refine Fr.drew ?_) | (with_reducible refine Fr.alloc ?_ _) | (with_reducible refine Fr.setCell ?_ (by (first | (with_reducible assumption) | omega | (simp only [World.size_alloc, World.size_setCell, World.size_drew, World.heap_drewN]; omega) | (simp; done) | (simp; omega))) _) | (with_reducible refine Fr.trans ?_ (by with_reducible assumption)))⟩
  exact ⟨ao, ca, rfl, OwW.mono (OwW.ab ho (by repeat (first | (with_reducible exact Ab.refl _ _) | (with_reducible assumption) | (with_reducible refine Ab.drewN ?_ _) | (with_reducible refine Ab.drew ?_) | (with_reducible refine Ab.alloc ?_ _) | (with_reducible refine Ab.setCell ?_ (by (first | (with_reducible assumption) | omega | (simp only [World.size_alloc, World.size_setCell, World.size_drew, World.heap_drewN]; omega) | (simp; done) | (simp; omega))) _) | (with_reducible refine Ab.fr ?_ (by with_reducible assumption))))) (by (first | (with_reducible assumption) | omega | (simp only [World.size_alloc, World.size_setCell, World.size_drew, World.heap_drewN]; omega) | (simp; done) | (simp; omega))) (by (first | (with_reducible assumption) | omega | (simp only [World.size_alloc, World.size_setCell, World.size_drew, World.heap_drewN]; omega) | (simp; done) | (simp; omega)))⟩
set_option maxHeartbeats 1000000 in
theorem eqDisk_same (a b : Value) (d : DiskD) (w : World) (ha : DiskRd w a d) (hb : DiskRd w b d) :
    Calls Try.prog 47 #[a, b] w fun e w' => e = .returned (.bool true) ∧ Fr w w' := by
  obtain ⟨u, rfl, hu⟩ := ha
  obtain ⟨v, rfl, hv⟩ := hb
  go_enter Try.func47, Try.ntmps47
  go_wp2_with (go_at_call 116; refine (eqFileS_same _ _ d.f0 _ (hu.fr (by repeat (first | (with_reducible exact Fr.refl _) | (with_reducible assumption) | (with_reducible refine Fr.drewN ?_ _) | (with_reducible refine Fr.drew ?_) | (with_reducible refine Fr.alloc ?_ _) | (with_reducible refine Fr.setCell ?_ (by (first | (with_reducible assumption) | omega | (simp only [World.size_alloc, World.size_setCell, World.size_drew, World.heap_drewN]; omega) | (simp; done) | (simp; omega))) _) | (with_reducible refine Fr.trans ?_ (by with_reducible assumption))))) (hv.fr (by repeat (first | (with_reducible exact Fr.refl _) | (with_reducible assumption) | (with_reducible refine Fr.drewN ?_ _) | (with_reducible refine Fr.drew ?_) | (with_reducible refine Fr.alloc ?_ _) | (with_reducible refine Fr.setCell ?_ (by (first | (with_reducible assumption) | omega | (simp only [World.size_alloc, World.size_setCell, World.size_drew, World.heap_drewN]; omega) | (simp; done) | (simp; omega))) _) | (with_reducible refine Fr.trans ?_ (by with_reducible assumption)))))).mono ?_; rintro e w1 ⟨rfl, hf⟩; have z1 := hf.size; (try simp only [World.size_alloc, World.size_setCell, World.size_drew] at z1); have k0 := hf.blk w.heap.size (by (first | (with_reducible assumption) | omega | (simp only [World.size_alloc, World.size_setCell, World.size_drew, World.heap_drewN]; omega) | (simp; done) | (simp; omega))); have k1 := hf.blk (w.heap.size + 1) (by (first | (with_reducible assumption) | omega | (simp only [World.size_alloc, World.size_setCell, World.size_drew, World.heap_drewN]; omega) | (simp; done) | (simp; omega))))
  go_ret
  exact ⟨rfl, by repeat (first | (with_reducible exact Fr.refl _) | (with_reducible assumption) | (with_reducible refine Fr.drewN ?_ _) | (with_reducible refine Fr.drew ?_) | (with_reducible refine Fr.alloc ?_ _) | (with_reducible refine Fr.setCell ?_ (by (first | (with_reducible assumption) | omega | (simp only [World.size_alloc, World.size_setCell, World.size_drew, World.heap_drewN]; omega) | (simp; done) | (simp; omega))) _) | (with_reducible refine Fr.trans ?_ (by with_reducible assumption)))⟩
def DiskD.bulk (d : DiskD) : Nat := (FilesBulk d.f0)
def DiskD.okSize (d : DiskD) : Prop := (∀ x ∈ d.f0, x.okSize)
def DiskD.cnt (d : DiskD) : Nat := 3 * d.f0.length
set_option maxHeartbeats 1000000 in
set_option maxRecDepth 100000 in
theorem szDisk_w (v : Value) (d : DiskD) (left : Int) (w : World) (hv : DiskRd w v d) (hs : d.okSize) (h0 : 0 ≤ left) (h1 : left ≤ 1048576) :
    Calls Try.prog 43 #[v, .int .i64 left] w fun e w' => e = .returned (.int .i64 (szR left d.bulk)) ∧ Fr w w' := by
  obtain ⟨u, rfl, hu⟩ := hv
  unfold DiskD.okSize at hs
  have hsR := hs
  by_cases hl : (d.bulk : Int) ≤ left
  · have hr := szR_ok hl
    go_enter Try.func43, Try.ntmps43
    go_wp2_with (go_at_call 108; refine (szFileS_any _ d.f0 _ _ (hu.fr (by repeat (first | (with_reducible exact Fr.refl _) | (with_reducible assumption) | (with_reducible refine Fr.drewN ?_ _) | (with_reducible refine Fr.drew ?_) | (with_reducible refine Fr.alloc ?_ _) | (with_reducible refine Fr.setCell ?_ (by (first | (with_reducible assumption) | omega | (simp only [World.size_alloc, World.size_setCell, World.size_drew, World.heap_drewN]; omega) | (simp; done) | (simp; omega))) _) | (with_reducible refine Fr.trans ?_ (by with_reducible assumption))))) hsR (by omega) (by omega)).mono ?_; rintro e w1 ⟨rfl, hf⟩; have z1 := hf.size; (try simp only [World.size_alloc, World.size_setCell, World.size_drew] at z1); have k0 := hf.blk w.heap.size (by (first | (with_reducible assumption) | omega | (simp only [World.size_alloc, World.size_setCell, World.size_drew, World.heap_drewN]; omega) | (simp; done) | (simp; omega))))
    all_goals go_ret
    all_goals exact ⟨ret_int (by first | rfl | exact hr.symm | (rw [hr]; omega) | (exfalso; unfold DiskD.bulk at *; omega)), by repeat (first | (with_reducible exact Fr.refl _) | (with_reducible assumption) | (with_reducible refine Fr.drewN ?_ _) | (with_reducible refine Fr.drew ?_) | (with_reducible refine Fr.alloc ?_ _) | (with_reducible refine Fr.setCell ?_ (by (first | (with_reducible assumption) | omega | (simp only [World.size_alloc, World.size_setCell, World.size_drew, World.heap_drewN]; omega) | (simp; done) | (simp; omega))) _) | (with_reducible refine Fr.trans ?_ (by with_reducible assumption)))⟩
  · have hr := szR_no hl
    go_enter Try.func43, Try.ntmps43
    go_wp2_with (go_at_call 108; refine (szFileS_any _ d.f0 _ _ (hu.fr (by repeat (first | (with_reducible exact Fr.refl _) | (with_reducible assumption) | (with_reducible refine Fr.drewN ?_ _) | (with_reducible refine Fr.drew ?_) | (with_reducible refine Fr.alloc ?_ _) | (with_reducible refine Fr.setCell ?_ (by (first | (with_reducible assumption) | omega | (simp only [World.size_alloc, World.size_setCell, World.size_drew, World.heap_drewN]; omega) | (simp; done) | (simp; omega))) _) | (with_reducible refine Fr.trans ?_ (by with_reducible assumption))))) hsR (by omega) (by omega)).mono ?_; rintro e w1 ⟨rfl, hf⟩; have z1 := hf.size; (try simp only [World.size_alloc, World.size_setCell, World.size_drew] at z1); have k0 := hf.blk w.heap.size (by (first | (with_reducible assumption) | omega | (simp only [World.size_alloc, World.size_setCell, World.size_drew, World.heap_drewN]; omega) | (simp; done) | (simp; omega))))
    all_goals go_ret
    all_goals exact ⟨ret_int (by first | rfl | exact hr.symm | (rw [hr]; omega) | (exfalso; unfold DiskD.bulk at *; omega)), by repeat (first | (with_reducible exact Fr.refl _) | (with_reducible assumption) | (with_reducible refine Fr.drewN ?_ _) | (with_reducible refine Fr.drew ?_) | (with_reducible refine Fr.alloc ?_ _) | (with_reducible refine Fr.setCell ?_ (by (first | (with_reducible assumption) | omega | (simp only [World.size_alloc, World.size_setCell, World.size_drew, World.heap_drewN]; omega) | (simp; done) | (simp; omega))) _) | (with_reducible refine Fr.trans ?_ (by with_reducible assumption)))⟩
def DiskD.mkd (d : DiskD) (k : Int) : DiskD := { d with f0 := mkFiles k d.f0.length }
theorem DiskD.mkd_cnt (d : DiskD) (k : Int) : (d.mkd k).cnt = d.cnt := by simp [DiskD.cnt, DiskD.mkd, mkFiles_length]
set_option maxHeartbeats 1000000 in
theorem markDisk_w (v : Value) (d : DiskD) (k : Int) (lo hi : Nat) (w : World) (ha : DiskW w lo hi v d) (hh : hi ≤ w.heap.size) (h0 : 0 < k) (h1 : k + d.cnt ≤ 1073741824) :
    Calls Try.prog 48 #[v, .int .i64 k] w fun e w' => e = .returned (.int .i64 (k + d.cnt)) ∧ DiskW w' lo hi v (d.mkd k) ∧ Span lo hi w w' := by
  unfold DiskD.cnt at h1 ⊢
  obtain ⟨ao, cap, rfl, hu⟩ := ha
  go_enter Try.func48, Try.ntmps48
  go_wp2_with fail
  refine (markFileS_w _ d.f0 k lo hi _ (hu.fr (by repeat (first | (with_reducible exact Fr.refl _) | (with_reducible assumption) | (with_reducible refine Fr.drewN ?_ _) | (with_reducible refine Fr.drew ?_) | (with_reducible refine Fr.alloc ?_ _) | (with_reducible refine Fr.setCell ?_ (by (first | (with_reducible assumption) | omega | (simp only [World.size_alloc, World.size_setCell, World.size_drew, World.heap_drewN]; omega) | (simp; done) | (simp; omega))) _) | (with_reducible refine Fr.trans ?_ (by with_reducible assumption))))) h0 (by omega)).mono ?_
  rintro e w1 ⟨rfl, ho, sp⟩
  have B := (Box.new w _ _).span sp (.inr hh)
  have F := B.facts
  go_wp2_with fail
  go_ret
  exact ⟨ret_int (by simp), ⟨ao, cap, by simp [DiskD.mkd, mkFiles_length], by simpa [DiskD.mkd, mkFiles_length] using ho⟩, (Span.of_fr (by repeat (first | (with_reducible exact Fr.refl _) | (with_reducible assumption) | (with_reducible refine Fr.drewN ?_ _) | (with_reducible refine Fr.drew ?_) | (with_reducible refine Fr.alloc ?_ _) | (with_reducible refine Fr.setCell ?_ (by (first | (with_reducible assumption) | omega | (simp only [World.size_alloc, World.size_setCell, World.size_drew, World.heap_drewN]; omega) | (simp; done) | (simp; omega))) _) | (with_reducible refine Fr.trans ?_ (by with_reducible assumption))))).trans sp⟩
set_option maxHeartbeats 1000000 in
theorem heldDisk_w (v : Value) (d : DiskD) (k : Int) (w : World) (ha : DiskRd w v (d.mkd k)) (h0 : 0 < k) (h1 : k + d.cnt ≤ 1073741824) :
    Calls Try.prog 62 #[v, .int .i64 k] w fun e w' => e = .returned (.int .i64 (k + d.cnt)) ∧ Fr w w' := by
  unfold DiskD.cnt at h1 ⊢
  obtain ⟨u, rfl, hu⟩ := ha
  go_enter Try.func62, Try.ntmps62
  go_wp2_with fail
  refine (heldFileS_w _ k d.f0.length _ (hu.fr (by repeat (first | (with_reducible exact Fr.refl _) | (with_reducible assumption) | (with_reducible refine Fr.drewN ?_ _) | (with_reducible refine Fr.drew ?_) | (with_reducible refine Fr.alloc ?_ _) | (with_reducible refine Fr.setCell ?_ (by (first | (with_reducible assumption) | omega | (simp only [World.size_alloc, World.size_setCell, World.size_drew, World.heap_drewN]; omega) | (simp; done) | (simp; omega))) _) | (with_reducible refine Fr.trans ?_ (by with_reducible assumption))))) h0 (by omega)).mono ?_
  rintro e w1 ⟨rfl, hf⟩
  go_wp2_with fail
  go_ret
  exact ⟨ret_int (by simp), by repeat (first | (with_reducible exact Fr.refl _) | (with_reducible assumption) | (with_reducible refine Fr.drewN ?_ _) | (with_reducible refine Fr.drew ?_) | (with_reducible refine Fr.alloc ?_ _) | (with_reducible refine Fr.setCell ?_ (by (first | (with_reducible assumption) | omega | (simp only [World.size_alloc, World.size_setCell, World.size_drew, World.heap_drewN]; omega) | (simp; done) | (simp; omega))) _) | (with_reducible refine Fr.trans ?_ (by with_reducible assumption)))⟩
end Go.Proofs.Ytphjlecbhbcbcaa
