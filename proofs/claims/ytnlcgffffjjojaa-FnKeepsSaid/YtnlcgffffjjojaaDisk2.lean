/- Disks: AllKept of the program and of the reference; the laws of DiskOk and AllKept. No condition but the sizes that the reading gives. -/
import Derived.Test.YtnlcgffffjjojaaDisk
import Derived.Deep.RegionHeld3
namespace Go.Proofs.Ytnlcgffffjjojaa
open Go.RowKit
set_option linter.unusedVariables false
set_option linter.unusedSimpArgs false
def fileF (xs : List FileR) (k : Nat) : Bool := decide ((fileAt xs k).f2 = (fileAt xs k).f1.size)
def keptB (xs : List FileR) : Bool := diskB xs && (List.range xs.length).all (fileF xs)
theorem diskB_kept {xs : List FileR} {j : Nat} (h : diskB xs = true) (hj : j < xs.length) : (fileAt xs j).f2 ≤ (fileAt xs j).f1.size := by
  unfold diskB at h
  have h2 := ((Bool.and_eq_true _ _).mp h).2
  have h3 := (List.all_eq_true.mp h2) j (by simpa using hj)
  unfold fileK fileB at h3; simp at h3; omega
set_option maxHeartbeats 1600000 in
theorem implAllKept_any (v : Value) (xs : List FileR) (w : World) (hv : FilesR w v xs) :
    Calls Try.prog 25 #[.agg #[v]] w fun e w' => e = .returned (.bool (keptB xs)) ∧ Fr w w' := by
  obtain ⟨ao, ba, oa, ca, rfl, hca, hma, fa⟩ := hv.one
  by_cases hd : diskB xs = true
  · have hD : Hid (keptB xs = (List.range xs.length).all (fileF xs)) := by show keptB xs = _; unfold keptB; rw [hd, Bool.true_and]
    have HD := Lib.hid hd
    have hl : xs.length ≤ 30 := by unfold diskB at hd; simp at hd; omega
    go_enter Try.func25, Try.ntmps25
    go_wp2_with fail
    refine (implDiskOk_any _ xs _ (hv.fr (by repeat (first | (with_reducible exact Fr.refl _) | (with_reducible assumption) | (with_reducible refine Fr.drewN ?_ _) | (with_reducible refine Fr.drew ?_) | (with_reducible refine Fr.alloc ?_ _) | (with_reducible refine Fr.setCell ?_ (by (first | (with_reducible assumption) | omega | (simp only [World.size_alloc, World.size_setCell, World.size_drew, World.heap_drewN]; omega) | (simp; done) | (simp; omega))) _) | (with_reducible refine Fr.trans ?_ (by with_reducible assumption)))))).mono ?_
    rintro e w1 ⟨rfl, hf1⟩
    have k0 := hf1.blk w.heap.size (by (first | (with_reducible assumption) | omega | (simp only [World.size_alloc, World.size_setCell, World.size_drew, World.heap_drewN]; omega) | (simp; done) | (simp; omega))); have z1 := hf1.size; (try simp only [World.size_alloc, World.size_setCell, World.size_drew] at z1)
    clear hv
    go_wp2
    go_loopw [11] (fun i wr => ∃ k : Nat, k ≤ xs.length ∧ i = .int .i64 k ∧ Fr w wr ∧ Hid (∀ j, j < k → fileF xs j = true) ∧ (∀ o, wr.cell? ⟨w.heap.size, o, none⟩ = (#[Value.slice ao xs.length ca] : Array Value)[o]?) ∧ w.heap.size < wr.heap.size) (fun i _ => xs.length - (intOf i).toNat)
    case atStart => exact ⟨0, Nat.zero_le _, rfl, by repeat (first | (with_reducible exact Fr.refl _) | (with_reducible assumption) | (with_reducible refine Fr.drewN ?_ _) | (with_reducible refine Fr.drew ?_) | (with_reducible refine Fr.alloc ?_ _) | (with_reducible refine Fr.setCell ?_ (by (first | (with_reducible assumption) | omega | (simp only [World.size_alloc, World.size_setCell, World.size_drew, World.heap_drewN]; omega) | (simp; done) | (simp; omega))) _) | (with_reducible refine Fr.trans ?_ (by with_reducible assumption))), fun j hj => absurd hj (by omega), fun o => (k0.1 o).trans (World.cell?_alloc_at _ _ _ _ rfl), by (first | (with_reducible assumption) | omega | (simp only [World.size_alloc, World.size_setCell, World.size_drew, World.heap_drewN]; omega) | (simp; done) | (simp; omega))⟩
    case round =>
      obtain ⟨k, hk, rfl, hfr, hj, hbox, hbs⟩ := hrel
      by_cases hlt : k < xs.length
      · obtain ⟨rfl, hba, fa⟩ := fa (by omega)
        obtain ⟨x, hx⟩ : ∃ x, fileAt xs k = x := ⟨_, rfl⟩
        have c0 : wr.cell? ⟨ba, oa + k * 3, none⟩ = some (.string x.f0) := (hfr.cell (p := ⟨ba, _, none⟩) hba).trans (hx ▸ (fa k hlt).1)
        have c1 : wr.cell? ⟨ba, oa + k * 3 + 1, none⟩ = some (.string x.f1) := (hfr.cell (p := ⟨ba, _, none⟩) hba).trans (hx ▸ (fa k hlt).2.1)
        have c2 : wr.cell? ⟨ba, oa + k * 3 + 2, none⟩ = some (.int .i64 x.f2) := (hfr.cell (p := ⟨ba, _, none⟩) hba).trans (hx ▸ (fa k hlt).2.2)
        have hbw : ba < wr.heap.size := Nat.lt_of_lt_of_le hba hfr.size
        clear fa hd
        by_cases hK : x.f2 = x.f1.size
        · have hF : Hid (fileF xs k = true) := by show fileF xs k = true; unfold fileF; rw [hx]; exact decide_eq_true hK
          have g1 : (x.f2 != (x.f1.size : Int)) = false := by simp [hK]
          go_wp2
          go_roundw
          (case rel => exact ⟨k + 1, by omega, by go_num, by repeat (first | (with_reducible exact Fr.refl _) | (with_reducible assumption) | (with_reducible refine Fr.drewN ?_ _) | (with_reducible refine Fr.drew ?_) | (with_reducible refine Fr.alloc ?_ _) | (with_reducible refine Fr.setCell ?_ (by (first | (with_reducible assumption) | omega | (simp only [World.size_alloc, World.size_setCell, World.size_drew, World.heap_drewN]; omega) | (simp; done) | (simp; omega))) _) | (with_reducible refine Fr.trans ?_ (by with_reducible assumption))), fun j h => (by rcases Nat.lt_succ_iff_lt_or_eq.1 h with h | rfl; exact hj.out j h; exact hF.out), fun o => (Fr.cell (w := wr) (by repeat (first | (with_reducible exact Fr.refl _) | (with_reducible assumption) | (with_reducible refine Fr.drewN ?_ _) | (with_reducible refine Fr.drew ?_) | (with_reducible refine Fr.alloc ?_ _) | (with_reducible refine Fr.setCell ?_ (by (first | (with_reducible assumption) | omega | (simp only [World.size_alloc, World.size_setCell, World.size_drew, World.heap_drewN]; omega) | (simp; done) | (simp; omega))) _) | (with_reducible refine Fr.trans ?_ (by with_reducible assumption)))) (p := ⟨_, o, none⟩) hbs).trans (hbox o), by (first | (with_reducible assumption) | omega | (simp only [World.size_alloc, World.size_setCell, World.size_drew, World.heap_drewN]; omega) | (simp; done) | (simp; omega))⟩); (case measure => (simp [intOf]; omega))
        · have hF : Hid (fileF xs k = false) := by show fileF xs k = false; unfold fileF; rw [hx]; exact decide_eq_false hK
          have g1 : (x.f2 != (x.f1.size : Int)) = true := by simp [hK]
          go_wp2
          go_ret
          (exact ⟨ret_bool (by rw [hD.out, range_not_all hlt hF.out]), by repeat (first | (with_reducible exact Fr.refl _) | (with_reducible assumption) | (with_reducible refine Fr.drewN ?_ _) | (with_reducible refine Fr.drew ?_) | (with_reducible refine Fr.alloc ?_ _) | (with_reducible refine Fr.setCell ?_ (by (first | (with_reducible assumption) | omega | (simp only [World.size_alloc, World.size_setCell, World.size_drew, World.heap_drewN]; omega) | (simp; done) | (simp; omega))) _) | (with_reducible refine Fr.trans ?_ (by with_reducible assumption)))⟩)
      · have hkl : k = xs.length := by omega
        subst hkl
        go_wp2
        go_ret
        exact ⟨ret_bool (by rw [hD.out, range_all hj.out]), by repeat (first | (with_reducible exact Fr.refl _) | (with_reducible assumption) | (with_reducible refine Fr.drewN ?_ _) | (with_reducible refine Fr.drew ?_) | (with_reducible refine Fr.alloc ?_ _) | (with_reducible refine Fr.setCell ?_ (by (first | (with_reducible assumption) | omega | (simp only [World.size_alloc, World.size_setCell, World.size_drew, World.heap_drewN]; omega) | (simp; done) | (simp; omega))) _) | (with_reducible refine Fr.trans ?_ (by with_reducible assumption)))⟩
  · have hd' : diskB xs = false := by simpa using hd
    have hD : keptB xs = false := by unfold keptB; rw [hd', Bool.false_and]
    go_enter Try.func25, Try.ntmps25
    go_wp2_with fail
    refine (implDiskOk_any _ xs _ (hv.fr (by repeat (first | (with_reducible exact Fr.refl _) | (with_reducible assumption) | (with_reducible refine Fr.drewN ?_ _) | (with_reducible refine Fr.drew ?_) | (with_reducible refine Fr.alloc ?_ _) | (with_reducible refine Fr.setCell ?_ (by (first | (with_reducible assumption) | omega | (simp only [World.size_alloc, World.size_setCell, World.size_drew, World.heap_drewN]; omega) | (simp; done) | (simp; omega))) _) | (with_reducible refine Fr.trans ?_ (by with_reducible assumption)))))).mono ?_
    rintro e w1 ⟨rfl, hf1⟩
    go_wp2
    go_ret
    exact ⟨ret_bool hD.symm, by repeat (first | (with_reducible exact Fr.refl _) | (with_reducible assumption) | (with_reducible refine Fr.drewN ?_ _) | (with_reducible refine Fr.drew ?_) | (with_reducible refine Fr.alloc ?_ _) | (with_reducible refine Fr.setCell ?_ (by (first | (with_reducible assumption) | omega | (simp only [World.size_alloc, World.size_setCell, World.size_drew, World.heap_drewN]; omega) | (simp; done) | (simp; omega))) _) | (with_reducible refine Fr.trans ?_ (by with_reducible assumption)))⟩
theorem szDisk_any (v : Value) (xs : List FileR) (left : Int) (w : World) (hv : FilesR w v xs) (hs : ∀ x ∈ xs, x.okSize) (h0 : 0 ≤ left) (h1 : left ≤ 1048576) :
    Calls Try.prog 81 #[.agg #[v], .int .i64 left] w fun e w' => e = .returned (.int .i64 (szR left (FilesBulk xs))) ∧ Fr w w' := by
  by_cases c : (FilesBulk xs : Int) ≤ left
  · have r := szR_ok c
    go_enter Try.func81, Try.ntmps81
    go_wp2_with fail
    refine (szFileS_any _ xs _ _ (hv.fr (by repeat (first | (with_reducible exact Fr.refl _) | (with_reducible assumption) | (with_reducible refine Fr.drewN ?_ _) | (with_reducible refine Fr.drew ?_) | (with_reducible refine Fr.alloc ?_ _) | (with_reducible refine Fr.setCell ?_ (by (first | (with_reducible assumption) | omega | (simp only [World.size_alloc, World.size_setCell, World.size_drew, World.heap_drewN]; omega) | (simp; done) | (simp; omega))) _) | (with_reducible refine Fr.trans ?_ (by with_reducible assumption))))) hs (by omega) (by omega)).mono ?_; rintro e w1 ⟨rfl, hf1⟩
    go_wp2
    go_ret
    exact ⟨by rw [r]; rfl, by repeat (first | (with_reducible exact Fr.refl _) | (with_reducible assumption) | (with_reducible refine Fr.drewN ?_ _) | (with_reducible refine Fr.drew ?_) | (with_reducible refine Fr.alloc ?_ _) | (with_reducible refine Fr.setCell ?_ (by (first | (with_reducible assumption) | omega | (simp only [World.size_alloc, World.size_setCell, World.size_drew, World.heap_drewN]; omega) | (simp; done) | (simp; omega))) _) | (with_reducible refine Fr.trans ?_ (by with_reducible assumption)))⟩
  · have r := szR_no c
    go_enter Try.func81, Try.ntmps81
    go_wp2_with fail
    refine (szFileS_any _ xs _ _ (hv.fr (by repeat (first | (with_reducible exact Fr.refl _) | (with_reducible assumption) | (with_reducible refine Fr.drewN ?_ _) | (with_reducible refine Fr.drew ?_) | (with_reducible refine Fr.alloc ?_ _) | (with_reducible refine Fr.setCell ?_ (by (first | (with_reducible assumption) | omega | (simp only [World.size_alloc, World.size_setCell, World.size_drew, World.heap_drewN]; omega) | (simp; done) | (simp; omega))) _) | (with_reducible refine Fr.trans ?_ (by with_reducible assumption))))) hs (by omega) (by omega)).mono ?_; rintro e w1 ⟨rfl, hf1⟩
    go_wp2
    go_ret
    exact ⟨by rw [r]; rfl, by repeat (first | (with_reducible exact Fr.refl _) | (with_reducible assumption) | (with_reducible refine Fr.drewN ?_ _) | (with_reducible refine Fr.drew ?_) | (with_reducible refine Fr.alloc ?_ _) | (with_reducible refine Fr.setCell ?_ (by (first | (with_reducible assumption) | omega | (simp only [World.size_alloc, World.size_setCell, World.size_drew, World.heap_drewN]; omega) | (simp; done) | (simp; omega))) _) | (with_reducible refine Fr.trans ?_ (by with_reducible assumption)))⟩
theorem toDisk_any (v : Value) (xs : List FileR) (w : World) (hv : FilesR w v xs) (hn : xs.length ≤ 1048576) :
    Calls Try.prog 83 #[.agg #[v]] w fun e w' => ∃ u, e = .returned (.agg #[u]) ∧ FilesO w' w.heap.size u xs ∧ Fr w w' := by
  go_enter Try.func83, Try.ntmps83
  go_wp2_with fail
  refine (toFileS_any _ xs _ (hv.fr (by repeat (first | (with_reducible exact Fr.refl _) | (with_reducible assumption) | (with_reducible refine Fr.drewN ?_ _) | (with_reducible refine Fr.drew ?_) | (with_reducible refine Fr.alloc ?_ _) | (with_reducible refine Fr.setCell ?_ (by (first | (with_reducible assumption) | omega | (simp only [World.size_alloc, World.size_setCell, World.size_drew, World.heap_drewN]; omega) | (simp; done) | (simp; omega))) _) | (with_reducible refine Fr.trans ?_ (by with_reducible assumption))))) hn).mono ?_; rintro e w1 ⟨u, rfl, o1, hf1⟩
  obtain ⟨p1, q1, rfl⟩ := o1.val
  have k0 := hf1.blk w.heap.size (by (first | (with_reducible assumption) | omega | (simp only [World.size_alloc, World.size_setCell, World.size_drew, World.heap_drewN]; omega) | (simp; done) | (simp; omega))); have k1 := hf1.blk (w.heap.size + 1) (by (first | (with_reducible assumption) | omega | (simp only [World.size_alloc, World.size_setCell, World.size_drew, World.heap_drewN]; omega) | (simp; done) | (simp; omega))); have k2 := hf1.blk (w.heap.size + 1 + 1) (by (first | (with_reducible assumption) | omega | (simp only [World.size_alloc, World.size_setCell, World.size_drew, World.heap_drewN]; omega) | (simp; done) | (simp; omega))); have z1 := hf1.size; (try simp only [World.size_alloc, World.size_setCell, World.size_drew] at z1)
  go_wp2_with fail
  refine bodyPost_ret (v := .agg #[.slice p1 xs.length q1]) (by simp [results, Try.results83, go_sem, *]) rfl ⟨_, rfl, ?_, ?_⟩
  · exact owns_lo (owns_ab o1 (by repeat (first | (with_reducible exact Ab.refl _ _) | (with_reducible assumption) | (with_reducible refine Ab.drewN ?_ _) | (with_reducible refine Ab.drew ?_) | (with_reducible refine Ab.alloc ?_ _) | (with_reducible refine Ab.setCell ?_ (by (first | (with_reducible assumption) | omega | (simp only [World.size_alloc, World.size_setCell, World.size_drew, World.heap_drewN]; omega) | (simp; done) | (simp; omega))) _) | (with_reducible refine Ab.fr ?_ (by with_reducible assumption))))) (by (first | (with_reducible assumption) | omega | (simp only [World.size_alloc, World.size_setCell, World.size_drew, World.heap_drewN]; omega) | (simp; done) | (simp; omega)))
  · repeat (first | (with_reducible exact Fr.refl _) | (with_reducible assumption) | (with_reducible refine Fr.drewN ?_ _) | (with_reducible refine Fr.drew ?_) | (with_reducible refine Fr.alloc ?_ _) | (with_reducible refine Fr.setCell ?_ (by (first | (with_reducible assumption) | omega | (simp only [World.size_alloc, World.size_setCell, World.size_drew, World.heap_drewN]; omega) | (simp; done) | (simp; omega))) _) | (with_reducible refine Fr.trans ?_ (by with_reducible assumption)))
theorem eqDiskF_same (v u : Value) (xs : List FileR) (w : World) (hv : FilesR w v xs) (hu : FilesR w u xs) :
    Calls Try.prog 85 #[.agg #[v], .agg #[u]] w fun e w' => e = .returned (.bool true) ∧ Fr w w' := by
  go_enter Try.func85, Try.ntmps85
  go_wp2_with fail
  refine (eqFileS_same _ _ xs _ (hv.fr (by repeat (first | (with_reducible exact Fr.refl _) | (with_reducible assumption) | (with_reducible refine Fr.drewN ?_ _) | (with_reducible refine Fr.drew ?_) | (with_reducible refine Fr.alloc ?_ _) | (with_reducible refine Fr.setCell ?_ (by (first | (with_reducible assumption) | omega | (simp only [World.size_alloc, World.size_setCell, World.size_drew, World.heap_drewN]; omega) | (simp; done) | (simp; omega))) _) | (with_reducible refine Fr.trans ?_ (by with_reducible assumption))))) (hu.fr (by repeat (first | (with_reducible exact Fr.refl _) | (with_reducible assumption) | (with_reducible refine Fr.drewN ?_ _) | (with_reducible refine Fr.drew ?_) | (with_reducible refine Fr.alloc ?_ _) | (with_reducible refine Fr.setCell ?_ (by (first | (with_reducible assumption) | omega | (simp only [World.size_alloc, World.size_setCell, World.size_drew, World.heap_drewN]; omega) | (simp; done) | (simp; omega))) _) | (with_reducible refine Fr.trans ?_ (by with_reducible assumption)))))).mono ?_; rintro e w1 ⟨rfl, hf1⟩
  go_wp2
  go_ret
  exact ⟨rfl, by repeat (first | (with_reducible exact Fr.refl _) | (with_reducible assumption) | (with_reducible refine Fr.drewN ?_ _) | (with_reducible refine Fr.drew ?_) | (with_reducible refine Fr.alloc ?_ _) | (with_reducible refine Fr.setCell ?_ (by (first | (with_reducible assumption) | omega | (simp only [World.size_alloc, World.size_setCell, World.size_drew, World.heap_drewN]; omega) | (simp; done) | (simp; omega))) _) | (with_reducible refine Fr.trans ?_ (by with_reducible assumption)))⟩
end Go.Proofs.Ytnlcgffffjjojaa
