/- Disks: AllKept of the program and of the reference; the laws of DiskOk and AllKept. No condition but the sizes that the reading gives. -/
import Derived.Test.YthcbnilmhenpgaaDisk
import Derived.Deep.RegionHeld3
namespace Go.Proofs.Ythcbnilmhenpgaa
open Go.RowKit
set_option linter.unusedVariables false
set_option linter.unusedSimpArgs false
def fileF (xs : List FileR) (k : Nat) : Bool := decide ((fileAt xs k).f2 = (fileAt xs k).f1.size)
def keptB (xs : List FileR) : Bool := diskB xs && (List.range xs.length).all (fileF xs)
theorem diskB_kept {xs : List FileR} {j : Nat} (h : diskB xs = true) (hj : j < xs.length) : (fileAt xs j).f2 ≤ (fileAt xs j).f1.size := by
  unfold diskB at h
  have h2 := ((Bool.and_eq_true _ _).mp h).2
  have h3 := (List.all_eq_true.mp h2) j (by simpa using hj)
  unfold fileK fileB at h3; simp at h3; omega
theorem szDisk_any (v : Value) (xs : List FileR) (left : Int) (w : World) (hv : FilesR w v xs) (hs : ∀ x ∈ xs, x.okSize) (h0 : 0 ≤ left) (h1 : left ≤ 1048576) :
    Calls Try.prog 6 #[.agg #[v], .int .i64 left] w fun e w' => e = .returned (.int .i64 (szR left (FilesBulk xs))) ∧ Fr w w' := by
  by_cases c : (FilesBulk xs : Int) ≤ left
  · have r := szR_ok c
    go_enter Try.func6, Try.ntmps6
    go_wp2_with fail
    refine (szFileS_any _ xs _ _ (hv.fr (by repeat (first | (with_reducible exact Fr.refl _) | (with_reducible assumption) | (with_reducible refine Fr.drewN ?_ _) | (with_reducible refine Fr.drew ?_) | (with_reducible refine Fr.alloc ?_ _) | (with_reducible refine Fr.setCell ?_ (by (first | (with_reducible assumption) | omega | (simp only [World.size_alloc, World.size_setCell, World.size_drew, World.heap_drewN]; omega) | (simp; done) | (simp; omega))) _) | (with_reducible refine Fr.trans ?_ (by with_reducible assumption))))) hs (by omega) (by omega)).mono ?_; rintro e w1 ⟨rfl, hf1⟩
    go_wp2
    go_ret
    exact ⟨by rw [r]; rfl, by repeat (first | (with_reducible exact Fr.refl _) | (with_reducible assumption) | (with_reducible refine Fr.drewN ?_ _) | (with_reducible refine Fr.drew ?_) | (with_reducible refine Fr.alloc ?_ _) | (with_reducible refine Fr.setCell ?_ (by (first | (with_reducible assumption) | omega | (simp only [World.size_alloc, World.size_setCell, World.size_drew, World.heap_drewN]; omega) | (simp; done) | (simp; omega))) _) | (with_reducible refine Fr.trans ?_ (by with_reducible assumption)))⟩
  · have r := szR_no c
    go_enter Try.func6, Try.ntmps6
    go_wp2_with fail
    refine (szFileS_any _ xs _ _ (hv.fr (by repeat (first | (with_reducible exact Fr.refl _) | (with_reducible assumption) | (with_reducible refine Fr.drewN ?_ _) | (with_reducible refine Fr.drew ?_) | (with_reducible refine Fr.alloc ?_ _) | (with_reducible refine Fr.setCell ?_ (by (first | (with_reducible assumption) | omega | (simp only [World.size_alloc, World.size_setCell, World.size_drew, World.heap_drewN]; omega) | (simp; done) | (simp; omega))) _) | (with_reducible refine Fr.trans ?_ (by with_reducible assumption))))) hs (by omega) (by omega)).mono ?_; rintro e w1 ⟨rfl, hf1⟩
    go_wp2
    go_ret
    exact ⟨by rw [r]; rfl, by repeat (first | (with_reducible exact Fr.refl _) | (with_reducible assumption) | (with_reducible refine Fr.drewN ?_ _) | (with_reducible refine Fr.drew ?_) | (with_reducible refine Fr.alloc ?_ _) | (with_reducible refine Fr.setCell ?_ (by (first | (with_reducible assumption) | omega | (simp only [World.size_alloc, World.size_setCell, World.size_drew, World.heap_drewN]; omega) | (simp; done) | (simp; omega))) _) | (with_reducible refine Fr.trans ?_ (by with_reducible assumption)))⟩
theorem toDisk_any (v : Value) (xs : List FileR) (w : World) (hv : FilesR w v xs) (hn : xs.length ≤ 1048576) :
    Calls Try.prog 9 #[.agg #[v]] w fun e w' => ∃ u, e = .returned (.agg #[u]) ∧ FilesO w' w.heap.size u xs ∧ Fr w w' := by
  go_enter Try.func9, Try.ntmps9
  go_wp2_with fail
  refine (toFileS_any _ xs _ (hv.fr (by repeat (first | (with_reducible exact Fr.refl _) | (with_reducible assumption) | (with_reducible refine Fr.drewN ?_ _) | (with_reducible refine Fr.drew ?_) | (with_reducible refine Fr.alloc ?_ _) | (with_reducible refine Fr.setCell ?_ (by (first | (with_reducible assumption) | omega | (simp only [World.size_alloc, World.size_setCell, World.size_drew, World.heap_drewN]; omega) | (simp; done) | (simp; omega))) _) | (with_reducible refine Fr.trans ?_ (by with_reducible assumption))))) hn).mono ?_; rintro e w1 ⟨u, rfl, o1, hf1⟩
  obtain ⟨p1, q1, rfl⟩ := o1.val
  have k0 := hf1.blk w.heap.size (by (first | (with_reducible assumption) | omega | (simp only [World.size_alloc, World.size_setCell, World.size_drew, World.heap_drewN]; omega) | (simp; done) | (simp; omega))); have k1 := hf1.blk (w.heap.size + 1) (by (first | (with_reducible assumption) | omega | (simp only [World.size_alloc, World.size_setCell, World.size_drew, World.heap_drewN]; omega) | (simp; done) | (simp; omega))); have k2 := hf1.blk (w.heap.size + 1 + 1) (by (first | (with_reducible assumption) | omega | (simp only [World.size_alloc, World.size_setCell, World.size_drew, World.heap_drewN]; omega) | (simp; done) | (simp; omega))); have z1 := hf1.size; (try simp only [World.size_alloc, World.size_setCell, World.size_drew] at z1)
  go_wp2_with fail
  refine bodyPost_ret (v := .agg #[.slice p1 xs.length q1]) (by simp [results, Try.results9, go_sem, *]) rfl ⟨_, rfl, ?_, ?_⟩
  · exact owns_lo (owns_ab o1 (by repeat (first | (with_reducible exact Ab.refl _ _) | (with_reducible assumption) | (with_reducible refine Ab.drewN ?_ _) | (with_reducible refine Ab.drew ?_) | (with_reducible refine Ab.alloc ?_ _) | (with_reducible refine Ab.setCell ?_ (by (first | (with_reducible assumption) | omega | (simp only [World.size_alloc, World.size_setCell, World.size_drew, World.heap_drewN]; omega) | (simp; done) | (simp; omega))) _) | (with_reducible refine Ab.fr ?_ (by with_reducible assumption))))) (by (first | (with_reducible assumption) | omega | (simp only [World.size_alloc, World.size_setCell, World.size_drew, World.heap_drewN]; omega) | (simp; done) | (simp; omega)))
  · repeat (first | (with_reducible exact Fr.refl _) | (with_reducible assumption) | (with_reducible refine Fr.drewN ?_ _) | (with_reducible refine Fr.drew ?_) | (with_reducible refine Fr.alloc ?_ _) | (with_reducible refine Fr.setCell ?_ (by (first | (with_reducible assumption) | omega | (simp only [World.size_alloc, World.size_setCell, World.size_drew, World.heap_drewN]; omega) | (simp; done) | (simp; omega))) _) | (with_reducible refine Fr.trans ?_ (by with_reducible assumption)))
theorem eqDiskF_same (v u : Value) (xs : List FileR) (w : World) (hv : FilesR w v xs) (hu : FilesR w u xs) :
    Calls Try.prog 12 #[.agg #[v], .agg #[u]] w fun e w' => e = .returned (.bool true) ∧ Fr w w' := by
  go_enter Try.func12, Try.ntmps12
  go_wp2_with fail
  refine (eqFileS_same _ _ xs _ (hv.fr (by repeat (first | (with_reducible exact Fr.refl _) | (with_reducible assumption) | (with_reducible refine Fr.drewN ?_ _) | (with_reducible refine Fr.drew ?_) | (with_reducible refine Fr.alloc ?_ _) | (with_reducible refine Fr.setCell ?_ (by (first | (with_reducible assumption) | omega | (simp only [World.size_alloc, World.size_setCell, World.size_drew, World.heap_drewN]; omega) | (simp; done) | (simp; omega))) _) | (with_reducible refine Fr.trans ?_ (by with_reducible assumption))))) (hu.fr (by repeat (first | (with_reducible exact Fr.refl _) | (with_reducible assumption) | (with_reducible refine Fr.drewN ?_ _) | (with_reducible refine Fr.drew ?_) | (with_reducible refine Fr.alloc ?_ _) | (with_reducible refine Fr.setCell ?_ (by (first | (with_reducible assumption) | omega | (simp only [World.size_alloc, World.size_setCell, World.size_drew, World.heap_drewN]; omega) | (simp; done) | (simp; omega))) _) | (with_reducible refine Fr.trans ?_ (by with_reducible assumption)))))).mono ?_; rintro e w1 ⟨rfl, hf1⟩
  go_wp2
  go_ret
  exact ⟨rfl, by repeat (first | (with_reducible exact Fr.refl _) | (with_reducible assumption) | (with_reducible refine Fr.drewN ?_ _) | (with_reducible refine Fr.drew ?_) | (with_reducible refine Fr.alloc ?_ _) | (with_reducible refine Fr.setCell ?_ (by (first | (with_reducible assumption) | omega | (simp only [World.size_alloc, World.size_setCell, World.size_drew, World.heap_drewN]; omega) | (simp; done) | (simp; omega))) _) | (with_reducible refine Fr.trans ?_ (by with_reducible assumption)))⟩
end Go.Proofs.Ythcbnilmhenpgaa
