/- Disk2: Disk, Disk2 in one text. -/
import Derived.Test.YtjgghiniajmfjaaKFile
import Derived.Deep.RegionHeld3
namespace Go.Proofs.Ytjgghiniajmfjaa
open Go.RowKit
set_option linter.unusedVariables false
set_option linter.unusedSimpArgs false
/-! Disks: the laws' helpers, DiskOk and AllKept of the program and of the reference. No condition but the sizes that the reading gives. -/
def lessB (a b : ByteArray) : Bool := Op.bytesLess a.toList b.toList
def nameB (s : ByteArray) : Bool := decide (1 ≤ s.size ∧ s.size ≤ 8)
def fileB (x : FileR) : Bool := nameB x.f0 && decide (x.f1.size ≤ 20000) && decide (0 ≤ x.f2 ∧ x.f2 ≤ x.f1.size)
def fileK (xs : List FileR) (k : Nat) : Bool := fileB (fileAt xs k) && (decide (k = 0) || lessB (fileAt xs (k - 1)).f0 (fileAt xs k).f0)
def diskB (xs : List FileR) : Bool := decide (xs.length ≤ 30) && (List.range xs.length).all (fileK xs)
theorem range_all {n : Nat} {p : Nat → Bool} (h : ∀ j, j < n → p j = true) : (List.range n).all p = true := by
  rw [List.all_eq_true]; intro x hx; exact h x (by simpa using hx)
theorem range_not_all {n : Nat} {p : Nat → Bool} {j : Nat} (hj : j < n) (h : p j = false) : (List.range n).all p = false := by
  rw [List.all_eq_false]; exact ⟨j, by simpa using hj, by simpa using h⟩

theorem l14Name_any (s : ByteArray) (w : World) :
    Calls Try.prog 169 #[.string s] w fun e w' => e = .returned (.bool (nameB s)) ∧ w = w' := by
  go_enter Try.func169, Try.ntmps169
  go_wp2_with (go_at_call 94; refine (l01In_any _ _ _ _).mono ?_; rintro e w1 ⟨rfl, rfl⟩)
  go_ret
  exact ⟨ret_bool (by rw [Bool.eq_iff_iff]; simp [nameB]; omega), rfl⟩
theorem isFileName_any (s : ByteArray) (w : World) :
    Calls Try.prog 178 #[.string s] w fun e w' => e = .returned (.bool (nameB s)) ∧ w = w' := by
  go_enter Try.func178, Try.ntmps178
  go_wp2
  all_goals go_ret
  all_goals exact ⟨ret_bool (by rw [Bool.eq_iff_iff]; simp [nameB]; omega), rfl⟩

theorem nameB_iff (s : ByteArray) : nameB s = true ↔ 1 ≤ s.size ∧ s.size ≤ 8 := by simp [nameB]
theorem fileK_name {xs : List FileR} {k : Nat} {x : FileR} (hx : fileAt xs k = x) (h : nameB x.f0 = false) : fileK xs k = false := by
  unfold fileK fileB; rw [hx, h]; simp
theorem fileK_text {xs : List FileR} {k : Nat} {x : FileR} (hx : fileAt xs k = x) (h : ¬ x.f1.size ≤ 20000) : fileK xs k = false := by
  unfold fileK fileB; rw [hx]; simp [h]
theorem fileK_kept {xs : List FileR} {k : Nat} {x : FileR} (hx : fileAt xs k = x) (h : ¬ (0 ≤ x.f2 ∧ x.f2 ≤ x.f1.size)) : fileK xs k = false := by
  unfold fileK fileB; rw [hx, decide_eq_false h]; simp
theorem fileK_less {xs : List FileR} {k : Nat} {x y : FileR} (hx : fileAt xs k = x) (hy : fileAt xs (k - 1) = y) (hk : 0 < k) (h : lessB y.f0 x.f0 = false) : fileK xs k = false := by
  unfold fileK; rw [hx, hy, h, decide_eq_false (by omega : ¬ k = 0)]; simp
theorem fileK_ok {xs : List FileR} {k : Nat} {x y : FileR} (hx : fileAt xs k = x) (hy : fileAt xs (k - 1) = y) (h0 : nameB x.f0 = true) (h1 : x.f1.size ≤ 20000) (h2 : 0 ≤ x.f2 ∧ x.f2 ≤ x.f1.size) (h : k = 0 ∨ lessB y.f0 x.f0 = true) : fileK xs k = true := by
  unfold fileK fileB; rw [hx, hy, h0, decide_eq_true h1, decide_eq_true h2]; simp; exact h
set_option maxHeartbeats 1600000 in
theorem implDiskOk_any (v : Value) (xs : List FileR) (w : World) (hv : FilesR w v xs) :
    Calls Try.prog 110 #[.agg #[v]] w fun e w' => e = .returned (.bool (diskB xs)) ∧ Fr w w' := by
  obtain ⟨ao, ba, oa, ca, rfl, hca, hma, fa⟩ := hv.one
  clear hv
  by_cases hl : xs.length ≤ 30
  · have hD : Hid (diskB xs = (List.range xs.length).all (fileK xs)) := by show diskB xs = _; unfold diskB; rw [decide_eq_true hl, Bool.true_and]
    go_enter Try.func110, Try.ntmps110
    go_wp2
    go_loopw [12] (fun i wr => ∃ k : Nat, k ≤ xs.length ∧ i = .int .i64 k ∧ Fr w wr ∧ Hid (∀ j, j < k → fileK xs j = true) ∧ (∀ o, wr.cell? ⟨w.heap.size, o, none⟩ = (#[Value.slice ao xs.length ca] : Array Value)[o]?) ∧ w.heap.size < wr.heap.size) (fun i _ => xs.length - (intOf i).toNat)
    case atStart => exact ⟨0, Nat.zero_le _, rfl, by repeat (first | (with_reducible exact Fr.refl _) | (with_reducible assumption) | (with_reducible refine Fr.drewN ?_ _) | (with_reducible refine Fr.drew ?_) | (with_reducible refine Fr.alloc ?_ _) | (with_reducible refine Fr.setCell ?_ (by (first | (with_reducible assumption) | omega | (simp only [World.size_alloc, World.size_setCell, World.size_drew, World.heap_drewN]; omega) | (simp; done) | (simp; omega))) _) | (with_reducible refine Fr.trans ?_ (by with_reducible assumption))), fun j hj => absurd hj (by omega), fun o => World.cell?_alloc_at _ _ _ _ rfl, by simp⟩
    case round =>
      obtain ⟨k, hk, rfl, hfr, hj, hbox, hbs⟩ := hrel
      by_cases hlt : k < xs.length
      · obtain ⟨rfl, hba, fa⟩ := fa (by omega)
        obtain ⟨x, hx⟩ : ∃ x, fileAt xs k = x := ⟨_, rfl⟩
        obtain ⟨y, hy⟩ : ∃ y, fileAt xs (k - 1) = y := ⟨_, rfl⟩
        have c0 : wr.cell? ⟨ba, oa + k * 3, none⟩ = some (.string x.f0) := (hfr.cell (p := ⟨ba, _, none⟩) hba).trans (hx ▸ (fa k hlt).1)
        have c1 : wr.cell? ⟨ba, oa + k * 3 + 1, none⟩ = some (.string x.f1) := (hfr.cell (p := ⟨ba, _, none⟩) hba).trans (hx ▸ (fa k hlt).2.1)
        have c2 : wr.cell? ⟨ba, oa + k * 3 + 2, none⟩ = some (.int .i64 x.f2) := (hfr.cell (p := ⟨ba, _, none⟩) hba).trans (hx ▸ (fa k hlt).2.2)
        have e0 : Hid (wr.cell? ⟨ba, oa + (k - 1) * 3, none⟩ = some (.string y.f0)) := (hfr.cell (p := ⟨ba, _, none⟩) hba).trans (hy ▸ (fa (k - 1) (by omega)).1)
        have e1 : Hid (wr.cell? ⟨ba, oa + (k - 1) * 3 + 1, none⟩ = some (.string y.f1)) := (hfr.cell (p := ⟨ba, _, none⟩) hba).trans (hy ▸ (fa (k - 1) (by omega)).2.1)
        have e2 : Hid (wr.cell? ⟨ba, oa + (k - 1) * 3 + 2, none⟩ = some (.int .i64 y.f2)) := (hfr.cell (p := ⟨ba, _, none⟩) hba).trans (hy ▸ (fa (k - 1) (by omega)).2.2)
        have hbw : ba < wr.heap.size := Nat.lt_of_lt_of_le hba hfr.size
        clear fa
        by_cases hN : nameB x.f0 = true
        · by_cases hT : x.f1.size ≤ 20000
          · by_cases hK : 0 ≤ x.f2
            · by_cases hK2 : x.f2 ≤ x.f1.size
              · by_cases hz : k = 0
                · have hF : Hid (fileK xs k = true) := fileK_ok hx hy hN hT ⟨hK, hK2⟩ (.inl hz)
                  subst hz
                  simp only [Nat.zero_mul, Nat.add_zero] at c0 c1 c2
                  go_wp2_with (go_at_call 178; refine (isFileName_any _ _).mono ?_; rintro e w1 ⟨rfl, rfl⟩)
                  go_quiet (fail)
                  go_wp2
                  go_roundw
                  case rel => exact ⟨1, by omega, by go_num, by repeat (first | (with_reducible exact Fr.refl _) | (with_reducible assumption) | (with_reducible refine Fr.drewN ?_ _) | (with_reducible refine Fr.drew ?_) | (with_reducible refine Fr.alloc ?_ _) | (with_reducible refine Fr.setCell ?_ (by (first | (with_reducible assumption) | omega | (simp only [World.size_alloc, World.size_setCell, World.size_drew, World.heap_drewN]; omega) | (simp; done) | (simp; omega))) _) | (with_reducible refine Fr.trans ?_ (by with_reducible assumption))), fun j h => (by obtain rfl : j = 0 := (by omega); exact hF.out), fun o => (Fr.cell (w := wr) (by repeat (first | (with_reducible exact Fr.refl _) | (with_reducible assumption) | (with_reducible refine Fr.drewN ?_ _) | (with_reducible refine Fr.drew ?_) | (with_reducible refine Fr.alloc ?_ _) | (with_reducible refine Fr.setCell ?_ (by (first | (with_reducible assumption) | omega | (simp only [World.size_alloc, World.size_setCell, World.size_drew, World.heap_drewN]; omega) | (simp; done) | (simp; omega))) _) | (with_reducible refine Fr.trans ?_ (by with_reducible assumption)))) (p := ⟨_, o, none⟩) hbs).trans (hbox o), by (first | (with_reducible assumption) | omega | (simp only [World.size_alloc, World.size_setCell, World.size_drew, World.heap_drewN]; omega) | (simp; done) | (simp; omega))⟩
                  case measure => (simp [intOf]; omega)
                · have d0 := e0.out; have d1 := e1.out; have d2 := e2.out
                  have hk0 : 0 < k := by omega
                  by_cases hL : lessB y.f0 x.f0 = true
                  · have hF : Hid (fileK xs k = true) := fileK_ok hx hy hN hT ⟨hK, hK2⟩ (.inr hL)
                    have hL2 : Op.bytesLess y.f0.toList x.f0.toList = true := hL
                    go_wp2_with (go_at_call 178; refine (isFileName_any _ _).mono ?_; rintro e w1 ⟨rfl, rfl⟩)
                    go_quiet (fail)
                    go_wp2
                    go_roundw
                    (case rel => exact ⟨k + 1, by omega, by go_num, by repeat (first | (with_reducible exact Fr.refl _) | (with_reducible assumption) | (with_reducible refine Fr.drewN ?_ _) | (with_reducible refine Fr.drew ?_) | (with_reducible refine Fr.alloc ?_ _) | (with_reducible refine Fr.setCell ?_ (by (first | (with_reducible assumption) | omega | (simp only [World.size_alloc, World.size_setCell, World.size_drew, World.heap_drewN]; omega) | (simp; done) | (simp; omega))) _) | (with_reducible refine Fr.trans ?_ (by with_reducible assumption))), fun j h => (by rcases Nat.lt_succ_iff_lt_or_eq.1 h with h | rfl; exact hj.out j h; exact hF.out), fun o => (Fr.cell (w := wr) (by repeat (first | (with_reducible exact Fr.refl _) | (with_reducible assumption) | (with_reducible refine Fr.drewN ?_ _) | (with_reducible refine Fr.drew ?_) | (with_reducible refine Fr.alloc ?_ _) | (with_reducible refine Fr.setCell ?_ (by (first | (with_reducible assumption) | omega | (simp only [World.size_alloc, World.size_setCell, World.size_drew, World.heap_drewN]; omega) | (simp; done) | (simp; omega))) _) | (with_reducible refine Fr.trans ?_ (by with_reducible assumption)))) (p := ⟨_, o, none⟩) hbs).trans (hbox o), by (first | (with_reducible assumption) | omega | (simp only [World.size_alloc, World.size_setCell, World.size_drew, World.heap_drewN]; omega) | (simp; done) | (simp; omega))⟩); (case measure => (simp [intOf]; omega))
                  · have hF : Hid (fileK xs k = false) := fileK_less hx hy hk0 (by simpa using hL)
                    have hL2 : Op.bytesLess y.f0.toList x.f0.toList = false := by simpa [lessB] using hL
                    go_wp2_with (go_at_call 178; refine (isFileName_any _ _).mono ?_; rintro e w1 ⟨rfl, rfl⟩)
                    go_quiet (fail)
                    go_wp2
                    go_ret
                    (exact ⟨ret_bool (by rw [hD.out, range_not_all hlt hF.out]), by repeat (first | (with_reducible exact Fr.refl _) | (with_reducible assumption) | (with_reducible refine Fr.drewN ?_ _) | (with_reducible refine Fr.drew ?_) | (with_reducible refine Fr.alloc ?_ _) | (with_reducible refine Fr.setCell ?_ (by (first | (with_reducible assumption) | omega | (simp only [World.size_alloc, World.size_setCell, World.size_drew, World.heap_drewN]; omega) | (simp; done) | (simp; omega))) _) | (with_reducible refine Fr.trans ?_ (by with_reducible assumption)))⟩)
              · have hF : Hid (fileK xs k = false) := fileK_kept hx (fun h => hK2 h.2)
                go_wp2_with (go_at_call 178; refine (isFileName_any _ _).mono ?_; rintro e w1 ⟨rfl, rfl⟩)
                go_ret
                (exact ⟨ret_bool (by rw [hD.out, range_not_all hlt hF.out]), by repeat (first | (with_reducible exact Fr.refl _) | (with_reducible assumption) | (with_reducible refine Fr.drewN ?_ _) | (with_reducible refine Fr.drew ?_) | (with_reducible refine Fr.alloc ?_ _) | (with_reducible refine Fr.setCell ?_ (by (first | (with_reducible assumption) | omega | (simp only [World.size_alloc, World.size_setCell, World.size_drew, World.heap_drewN]; omega) | (simp; done) | (simp; omega))) _) | (with_reducible refine Fr.trans ?_ (by with_reducible assumption)))⟩)
            · have hF : Hid (fileK xs k = false) := fileK_kept hx (fun h => hK h.1)
              go_wp2_with (go_at_call 178; refine (isFileName_any _ _).mono ?_; rintro e w1 ⟨rfl, rfl⟩)
              go_ret
              (exact ⟨ret_bool (by rw [hD.out, range_not_all hlt hF.out]), by repeat (first | (with_reducible exact Fr.refl _) | (with_reducible assumption) | (with_reducible refine Fr.drewN ?_ _) | (with_reducible refine Fr.drew ?_) | (with_reducible refine Fr.alloc ?_ _) | (with_reducible refine Fr.setCell ?_ (by (first | (with_reducible assumption) | omega | (simp only [World.size_alloc, World.size_setCell, World.size_drew, World.heap_drewN]; omega) | (simp; done) | (simp; omega))) _) | (with_reducible refine Fr.trans ?_ (by with_reducible assumption)))⟩)
          · have hF : Hid (fileK xs k = false) := fileK_text hx hT
            go_wp2_with (go_at_call 178; refine (isFileName_any _ _).mono ?_; rintro e w1 ⟨rfl, rfl⟩)
            go_ret
            (exact ⟨ret_bool (by rw [hD.out, range_not_all hlt hF.out]), by repeat (first | (with_reducible exact Fr.refl _) | (with_reducible assumption) | (with_reducible refine Fr.drewN ?_ _) | (with_reducible refine Fr.drew ?_) | (with_reducible refine Fr.alloc ?_ _) | (with_reducible refine Fr.setCell ?_ (by (first | (with_reducible assumption) | omega | (simp only [World.size_alloc, World.size_setCell, World.size_drew, World.heap_drewN]; omega) | (simp; done) | (simp; omega))) _) | (with_reducible refine Fr.trans ?_ (by with_reducible assumption)))⟩)
        · have hF : Hid (fileK xs k = false) := fileK_name hx (by simpa using hN)
          go_wp2_with (go_at_call 178; refine (isFileName_any _ _).mono ?_; rintro e w1 ⟨rfl, rfl⟩)
          go_ret
          (exact ⟨ret_bool (by rw [hD.out, range_not_all hlt hF.out]), by repeat (first | (with_reducible exact Fr.refl _) | (with_reducible assumption) | (with_reducible refine Fr.drewN ?_ _) | (with_reducible refine Fr.drew ?_) | (with_reducible refine Fr.alloc ?_ _) | (with_reducible refine Fr.setCell ?_ (by (first | (with_reducible assumption) | omega | (simp only [World.size_alloc, World.size_setCell, World.size_drew, World.heap_drewN]; omega) | (simp; done) | (simp; omega))) _) | (with_reducible refine Fr.trans ?_ (by with_reducible assumption)))⟩)
      · have hkl : k = xs.length := by omega
        subst hkl
        go_wp2
        go_ret
        exact ⟨ret_bool (by rw [hD.out, range_all hj.out]), by repeat (first | (with_reducible exact Fr.refl _) | (with_reducible assumption) | (with_reducible refine Fr.drewN ?_ _) | (with_reducible refine Fr.drew ?_) | (with_reducible refine Fr.alloc ?_ _) | (with_reducible refine Fr.setCell ?_ (by (first | (with_reducible assumption) | omega | (simp only [World.size_alloc, World.size_setCell, World.size_drew, World.heap_drewN]; omega) | (simp; done) | (simp; omega))) _) | (with_reducible refine Fr.trans ?_ (by with_reducible assumption)))⟩
  · have hD : diskB xs = false := by unfold diskB; rw [decide_eq_false hl, Bool.false_and]
    go_enter Try.func110, Try.ntmps110
    go_wp2
    go_ret
    exact ⟨by rw [hD]; rfl, by repeat (first | (with_reducible exact Fr.refl _) | (with_reducible assumption) | (with_reducible refine Fr.drewN ?_ _) | (with_reducible refine Fr.drew ?_) | (with_reducible refine Fr.alloc ?_ _) | (with_reducible refine Fr.setCell ?_ (by (first | (with_reducible assumption) | omega | (simp only [World.size_alloc, World.size_setCell, World.size_drew, World.heap_drewN]; omega) | (simp; done) | (simp; omega))) _) | (with_reducible refine Fr.trans ?_ (by with_reducible assumption)))⟩
set_option maxHeartbeats 1600000 in
theorem specDiskOk_any (v : Value) (xs : List FileR) (w : World) (hv : FilesR w v xs) :
    Calls Try.prog 98 #[.agg #[v]] w fun e w' => e = .returned (.bool (diskB xs)) ∧ Fr w w' := by
  obtain ⟨ao, ba, oa, ca, rfl, hca, hma, fa⟩ := hv.one
  clear hv
  by_cases hl : xs.length ≤ 30
  · have hD : Hid (diskB xs = (List.range xs.length).all (fileK xs)) := by show diskB xs = _; unfold diskB; rw [decide_eq_true hl, Bool.true_and]
    go_enter Try.func98, Try.ntmps98
    go_wp2
    go_loopw [3] (fun i wr => ∃ k : Nat, k ≤ xs.length ∧ i = .int .i64 k ∧ Fr w wr ∧ Hid (∀ j, j < k → fileK xs j = true) ∧ (∀ o, wr.cell? ⟨w.heap.size, o, none⟩ = (#[Value.slice ao xs.length ca] : Array Value)[o]?) ∧ w.heap.size < wr.heap.size) (fun i _ => xs.length - (intOf i).toNat)
    case atStart => exact ⟨0, Nat.zero_le _, rfl, by repeat (first | (with_reducible exact Fr.refl _) | (with_reducible assumption) | (with_reducible refine Fr.drewN ?_ _) | (with_reducible refine Fr.drew ?_) | (with_reducible refine Fr.alloc ?_ _) | (with_reducible refine Fr.setCell ?_ (by (first | (with_reducible assumption) | omega | (simp only [World.size_alloc, World.size_setCell, World.size_drew, World.heap_drewN]; omega) | (simp; done) | (simp; omega))) _) | (with_reducible refine Fr.trans ?_ (by with_reducible assumption))), fun j hj => absurd hj (by omega), fun o => World.cell?_alloc_at _ _ _ _ rfl, by simp⟩
    case round =>
      obtain ⟨k, hk, rfl, hfr, hj, hbox, hbs⟩ := hrel
      by_cases hlt : k < xs.length
      · obtain ⟨rfl, hba, fa⟩ := fa (by omega)
        obtain ⟨x, hx⟩ : ∃ x, fileAt xs k = x := ⟨_, rfl⟩
        obtain ⟨y, hy⟩ : ∃ y, fileAt xs (k - 1) = y := ⟨_, rfl⟩
        have c0 : wr.cell? ⟨ba, oa + k * 3, none⟩ = some (.string x.f0) := (hfr.cell (p := ⟨ba, _, none⟩) hba).trans (hx ▸ (fa k hlt).1)
        have c1 : wr.cell? ⟨ba, oa + k * 3 + 1, none⟩ = some (.string x.f1) := (hfr.cell (p := ⟨ba, _, none⟩) hba).trans (hx ▸ (fa k hlt).2.1)
        have c2 : wr.cell? ⟨ba, oa + k * 3 + 2, none⟩ = some (.int .i64 x.f2) := (hfr.cell (p := ⟨ba, _, none⟩) hba).trans (hx ▸ (fa k hlt).2.2)
        have e0 : Hid (wr.cell? ⟨ba, oa + (k - 1) * 3, none⟩ = some (.string y.f0)) := (hfr.cell (p := ⟨ba, _, none⟩) hba).trans (hy ▸ (fa (k - 1) (by omega)).1)
        have e1 : Hid (wr.cell? ⟨ba, oa + (k - 1) * 3 + 1, none⟩ = some (.string y.f1)) := (hfr.cell (p := ⟨ba, _, none⟩) hba).trans (hy ▸ (fa (k - 1) (by omega)).2.1)
        have e2 : Hid (wr.cell? ⟨ba, oa + (k - 1) * 3 + 2, none⟩ = some (.int .i64 y.f2)) := (hfr.cell (p := ⟨ba, _, none⟩) hba).trans (hy ▸ (fa (k - 1) (by omega)).2.2)
        have hbw : ba < wr.heap.size := Nat.lt_of_lt_of_le hba hfr.size
        clear fa
        by_cases hN : nameB x.f0 = true
        · by_cases hT : x.f1.size ≤ 20000
          · have gT : decide (20000 < (x.f1.size : Int)) = false := by simp; omega
            by_cases hK : 0 ≤ x.f2
            · by_cases hK2 : x.f2 ≤ x.f1.size
              · have gK : decide (0 ≤ x.f2 ∧ x.f2 ≤ (x.f1.size : Int)) = true := by simp; omega
                by_cases hz : k = 0
                · have hF : Hid (fileK xs k = true) := fileK_ok hx hy hN hT ⟨hK, hK2⟩ (.inl hz)
                  subst hz
                  simp only [Nat.zero_mul, Nat.add_zero] at c0 c1 c2
                  go_wp2
                  go_quiet (first | (go_at_call 169; exact Calls.quiet_of_same ((l14Name_any _ _).mono fun _ _ h => ⟨h.1, h.2.symm⟩)) | (go_at_call 94; exact Calls.quiet_of_same ((l01In_any _ _ _ _).mono fun _ _ h => ⟨h.1, h.2.symm⟩)))
                  go_wp2
                  go_roundw
                  case rel => exact ⟨1, by omega, by go_num, by repeat (first | (with_reducible exact Fr.refl _) | (with_reducible assumption) | (with_reducible refine Fr.drewN ?_ _) | (with_reducible refine Fr.drew ?_) | (with_reducible refine Fr.alloc ?_ _) | (with_reducible refine Fr.setCell ?_ (by (first | (with_reducible assumption) | omega | (simp only [World.size_alloc, World.size_setCell, World.size_drew, World.heap_drewN]; omega) | (simp; done) | (simp; omega))) _) | (with_reducible refine Fr.trans ?_ (by with_reducible assumption))), fun j h => (by obtain rfl : j = 0 := (by omega); exact hF.out), fun o => (Fr.cell (w := wr) (by repeat (first | (with_reducible exact Fr.refl _) | (with_reducible assumption) | (with_reducible refine Fr.drewN ?_ _) | (with_reducible refine Fr.drew ?_) | (with_reducible refine Fr.alloc ?_ _) | (with_reducible refine Fr.setCell ?_ (by (first | (with_reducible assumption) | omega | (simp only [World.size_alloc, World.size_setCell, World.size_drew, World.heap_drewN]; omega) | (simp; done) | (simp; omega))) _) | (with_reducible refine Fr.trans ?_ (by with_reducible assumption)))) (p := ⟨_, o, none⟩) hbs).trans (hbox o), by (first | (with_reducible assumption) | omega | (simp only [World.size_alloc, World.size_setCell, World.size_drew, World.heap_drewN]; omega) | (simp; done) | (simp; omega))⟩
                  case measure => (simp [intOf]; omega)
                · have d0 := e0.out; have d1 := e1.out; have d2 := e2.out
                  have hk0 : 0 < k := by omega
                  have gk : decide (0 < (k : Int)) = true := by simp; omega
                  by_cases hL : lessB y.f0 x.f0 = true
                  · have hF : Hid (fileK xs k = true) := fileK_ok hx hy hN hT ⟨hK, hK2⟩ (.inr hL)
                    have hL2 : Op.bytesLess y.f0.toList x.f0.toList = true := hL
                    go_wp2
                    go_quiet (first | (go_at_call 169; exact Calls.quiet_of_same ((l14Name_any _ _).mono fun _ _ h => ⟨h.1, h.2.symm⟩)) | (go_at_call 94; exact Calls.quiet_of_same ((l01In_any _ _ _ _).mono fun _ _ h => ⟨h.1, h.2.symm⟩)))
                    go_wp2
                    go_roundw
                    (case rel => exact ⟨k + 1, by omega, by go_num, by repeat (first | (with_reducible exact Fr.refl _) | (with_reducible assumption) | (with_reducible refine Fr.drewN ?_ _) | (with_reducible refine Fr.drew ?_) | (with_reducible refine Fr.alloc ?_ _) | (with_reducible refine Fr.setCell ?_ (by (first | (with_reducible assumption) | omega | (simp only [World.size_alloc, World.size_setCell, World.size_drew, World.heap_drewN]; omega) | (simp; done) | (simp; omega))) _) | (with_reducible refine Fr.trans ?_ (by with_reducible assumption))), fun j h => (by rcases Nat.lt_succ_iff_lt_or_eq.1 h with h | rfl; exact hj.out j h; exact hF.out), fun o => (Fr.cell (w := wr) (by repeat (first | (with_reducible exact Fr.refl _) | (with_reducible assumption) | (with_reducible refine Fr.drewN ?_ _) | (with_reducible refine Fr.drew ?_) | (with_reducible refine Fr.alloc ?_ _) | (with_reducible refine Fr.setCell ?_ (by (first | (with_reducible assumption) | omega | (simp only [World.size_alloc, World.size_setCell, World.size_drew, World.heap_drewN]; omega) | (simp; done) | (simp; omega))) _) | (with_reducible refine Fr.trans ?_ (by with_reducible assumption)))) (p := ⟨_, o, none⟩) hbs).trans (hbox o), by (first | (with_reducible assumption) | omega | (simp only [World.size_alloc, World.size_setCell, World.size_drew, World.heap_drewN]; omega) | (simp; done) | (simp; omega))⟩); (case measure => (simp [intOf]; omega))
                  · have hF : Hid (fileK xs k = false) := fileK_less hx hy hk0 (by simpa using hL)
                    have hL2 : Op.bytesLess y.f0.toList x.f0.toList = false := by simpa [lessB] using hL
                    go_wp2
                    go_quiet (first | (go_at_call 169; exact Calls.quiet_of_same ((l14Name_any _ _).mono fun _ _ h => ⟨h.1, h.2.symm⟩)) | (go_at_call 94; exact Calls.quiet_of_same ((l01In_any _ _ _ _).mono fun _ _ h => ⟨h.1, h.2.symm⟩)))
                    go_wp2
                    go_ret
                    (exact ⟨ret_bool (by rw [hD.out, range_not_all hlt hF.out]), by repeat (first | (with_reducible exact Fr.refl _) | (with_reducible assumption) | (with_reducible refine Fr.drewN ?_ _) | (with_reducible refine Fr.drew ?_) | (with_reducible refine Fr.alloc ?_ _) | (with_reducible refine Fr.setCell ?_ (by (first | (with_reducible assumption) | omega | (simp only [World.size_alloc, World.size_setCell, World.size_drew, World.heap_drewN]; omega) | (simp; done) | (simp; omega))) _) | (with_reducible refine Fr.trans ?_ (by with_reducible assumption)))⟩)
              · have hF : Hid (fileK xs k = false) := fileK_kept hx (fun h => hK2 h.2)
                have gK : decide (x.f2 ≤ (x.f1.size : Int)) = false := by simp; omega
                go_wp2
                go_quiet (first | (go_at_call 169; exact Calls.quiet_of_same ((l14Name_any _ _).mono fun _ _ h => ⟨h.1, h.2.symm⟩)) | (go_at_call 94; exact Calls.quiet_of_same ((l01In_any _ _ _ _).mono fun _ _ h => ⟨h.1, h.2.symm⟩)))
                go_wp2
                go_ret
                (exact ⟨ret_bool (by rw [hD.out, range_not_all hlt hF.out]), by repeat (first | (with_reducible exact Fr.refl _) | (with_reducible assumption) | (with_reducible refine Fr.drewN ?_ _) | (with_reducible refine Fr.drew ?_) | (with_reducible refine Fr.alloc ?_ _) | (with_reducible refine Fr.setCell ?_ (by (first | (with_reducible assumption) | omega | (simp only [World.size_alloc, World.size_setCell, World.size_drew, World.heap_drewN]; omega) | (simp; done) | (simp; omega))) _) | (with_reducible refine Fr.trans ?_ (by with_reducible assumption)))⟩)
            · have hF : Hid (fileK xs k = false) := fileK_kept hx (fun h => hK h.1)
              have gK : decide (0 ≤ x.f2 ∧ x.f2 ≤ (x.f1.size : Int)) = false := by simp; omega
              go_wp2
              go_quiet (first | (go_at_call 169; exact Calls.quiet_of_same ((l14Name_any _ _).mono fun _ _ h => ⟨h.1, h.2.symm⟩)) | (go_at_call 94; exact Calls.quiet_of_same ((l01In_any _ _ _ _).mono fun _ _ h => ⟨h.1, h.2.symm⟩)))
              go_wp2
              go_ret
              (exact ⟨ret_bool (by rw [hD.out, range_not_all hlt hF.out]), by repeat (first | (with_reducible exact Fr.refl _) | (with_reducible assumption) | (with_reducible refine Fr.drewN ?_ _) | (with_reducible refine Fr.drew ?_) | (with_reducible refine Fr.alloc ?_ _) | (with_reducible refine Fr.setCell ?_ (by (first | (with_reducible assumption) | omega | (simp only [World.size_alloc, World.size_setCell, World.size_drew, World.heap_drewN]; omega) | (simp; done) | (simp; omega))) _) | (with_reducible refine Fr.trans ?_ (by with_reducible assumption)))⟩)
          · have hF : Hid (fileK xs k = false) := fileK_text hx hT
            have gT : decide (20000 < (x.f1.size : Int)) = true := by simp; omega
            go_wp2
            go_quiet (first | (go_at_call 169; exact Calls.quiet_of_same ((l14Name_any _ _).mono fun _ _ h => ⟨h.1, h.2.symm⟩)) | (go_at_call 94; exact Calls.quiet_of_same ((l01In_any _ _ _ _).mono fun _ _ h => ⟨h.1, h.2.symm⟩)))
            go_wp2
            go_ret
            (exact ⟨ret_bool (by rw [hD.out, range_not_all hlt hF.out]), by repeat (first | (with_reducible exact Fr.refl _) | (with_reducible assumption) | (with_reducible refine Fr.drewN ?_ _) | (with_reducible refine Fr.drew ?_) | (with_reducible refine Fr.alloc ?_ _) | (with_reducible refine Fr.setCell ?_ (by (first | (with_reducible assumption) | omega | (simp only [World.size_alloc, World.size_setCell, World.size_drew, World.heap_drewN]; omega) | (simp; done) | (simp; omega))) _) | (with_reducible refine Fr.trans ?_ (by with_reducible assumption)))⟩)
        · have hF : Hid (fileK xs k = false) := fileK_name hx (by simpa using hN)
          go_wp2
          go_quiet (first | (go_at_call 169; exact Calls.quiet_of_same ((l14Name_any _ _).mono fun _ _ h => ⟨h.1, h.2.symm⟩)) | (go_at_call 94; exact Calls.quiet_of_same ((l01In_any _ _ _ _).mono fun _ _ h => ⟨h.1, h.2.symm⟩)))
          go_wp2
          go_ret
          (exact ⟨ret_bool (by rw [hD.out, range_not_all hlt hF.out]), by repeat (first | (with_reducible exact Fr.refl _) | (with_reducible assumption) | (with_reducible refine Fr.drewN ?_ _) | (with_reducible refine Fr.drew ?_) | (with_reducible refine Fr.alloc ?_ _) | (with_reducible refine Fr.setCell ?_ (by (first | (with_reducible assumption) | omega | (simp only [World.size_alloc, World.size_setCell, World.size_drew, World.heap_drewN]; omega) | (simp; done) | (simp; omega))) _) | (with_reducible refine Fr.trans ?_ (by with_reducible assumption)))⟩)
      · have hkl : k = xs.length := by omega
        subst hkl
        go_wp2
        go_ret
        exact ⟨ret_bool (by rw [hD.out, range_all hj.out]), by repeat (first | (with_reducible exact Fr.refl _) | (with_reducible assumption) | (with_reducible refine Fr.drewN ?_ _) | (with_reducible refine Fr.drew ?_) | (with_reducible refine Fr.alloc ?_ _) | (with_reducible refine Fr.setCell ?_ (by (first | (with_reducible assumption) | omega | (simp only [World.size_alloc, World.size_setCell, World.size_drew, World.heap_drewN]; omega) | (simp; done) | (simp; omega))) _) | (with_reducible refine Fr.trans ?_ (by with_reducible assumption)))⟩
  · have hD : diskB xs = false := by unfold diskB; rw [decide_eq_false hl, Bool.false_and]
    go_enter Try.func98, Try.ntmps98
    go_wp2
    go_ret
    exact ⟨by rw [hD]; rfl, by repeat (first | (with_reducible exact Fr.refl _) | (with_reducible assumption) | (with_reducible refine Fr.drewN ?_ _) | (with_reducible refine Fr.drew ?_) | (with_reducible refine Fr.alloc ?_ _) | (with_reducible refine Fr.setCell ?_ (by (first | (with_reducible assumption) | omega | (simp only [World.size_alloc, World.size_setCell, World.size_drew, World.heap_drewN]; omega) | (simp; done) | (simp; omega))) _) | (with_reducible refine Fr.trans ?_ (by with_reducible assumption)))⟩
/-! Disks: AllKept of the program and of the reference; the laws of DiskOk and AllKept. No condition but the sizes that the reading gives. -/
def fileF (xs : List FileR) (k : Nat) : Bool := decide ((fileAt xs k).f2 = (fileAt xs k).f1.size)
def keptB (xs : List FileR) : Bool := diskB xs && (List.range xs.length).all (fileF xs)
theorem diskB_kept {xs : List FileR} {j : Nat} (h : diskB xs = true) (hj : j < xs.length) : (fileAt xs j).f2 ≤ (fileAt xs j).f1.size := by
  unfold diskB at h
  have h2 := ((Bool.and_eq_true _ _).mp h).2
  have h3 := (List.all_eq_true.mp h2) j (by simpa using hj)
  unfold fileK fileB at h3; simp at h3; omega
set_option maxHeartbeats 1600000 in
theorem implAllKept_any (v : Value) (xs : List FileR) (w : World) (hv : FilesR w v xs) :
    Calls Try.prog 37 #[.agg #[v]] w fun e w' => e = .returned (.bool (keptB xs)) ∧ Fr w w' := by
  obtain ⟨ao, ba, oa, ca, rfl, hca, hma, fa⟩ := hv.one
  by_cases hd : diskB xs = true
  · have hD : Hid (keptB xs = (List.range xs.length).all (fileF xs)) := by show keptB xs = _; unfold keptB; rw [hd, Bool.true_and]
    have HD := Lib.hid hd
    have hl : xs.length ≤ 30 := by unfold diskB at hd; simp at hd; omega
    go_enter Try.func37, Try.ntmps37
    go_wp2_with fail
    refine (implDiskOk_any _ xs _ (hv.fr (by repeat (first | (with_reducible exact Fr.refl _) | (with_reducible assumption) | (with_reducible refine Fr.drewN ?_ _) | (with_reducible refine Fr.drew ?_) | (with_reducible refine Fr.alloc ?_ _) | (with_reducible refine Fr.setCell ?_ (by (first | (with_reducible assumption) | omega | (simp only [World.size_alloc, World.size_setCell, World.size_drew, World.heap_drewN]; omega) | (simp; done) | (simp; omega))) _) | (with_reducible refine Fr.trans ?_ (by with_reducible assumption)))))).mono ?_
    rintro e w1 ⟨rfl, hf1⟩
    have k0 := hf1.blk w.heap.size (by (first | (with_reducible assumption) | omega | (simp only [World.size_alloc, World.size_setCell, World.size_drew, World.heap_drewN]; omega) | (simp; done) | (simp; omega))); have z1 := hf1.size; (try simp only [World.size_alloc, World.size_setCell, World.size_drew] at z1)
    clear hv
    go_wp2
    go_loopw [11] (fun i wr => ∃ k : Nat, k ≤ xs.length ∧ i = .int .i64 k ∧ Fr w wr ∧ Hid (∀ j, j < k → fileF xs j = true) ∧ (∀ o, wr.cell? ⟨w.heap.size, o, none⟩ = (#[Value.slice ao xs.length ca] : Array Value)[o]?) ∧ w.heap.size < wr.heap.size) (fun i _ => xs.length - (intOf i).toNat)
    case atStart => exact ⟨0, Nat.zero_le _, rfl, by repeat (first | (with_reducible exact Fr.refl _) | (with_reducible assumption) | (with_reducible refine Fr.drewN ?_ _) | (with_reducible refine Fr.drew ?_) | (with_reducible refine Fr.alloc ?_ _) | (with_reducible refine Fr.setCell ?_ (by (first | (with_reducible assumption) | omega | (simp only [World.size_alloc, World.size_setCell, World.size_drew, World.heap_drewN]; omega) | (simp; done) | (simp; omega))) _) | (with_reducible refine Fr.trans ?_ (by with_reducible assumption))), fun j hj => absurd hj (by omega), fun o => (k0.1 o).trans (World.cell?_alloc_at _ _ _ _ rfl), by (first | (with_reducible assumption) | omega | (simp only [World.size_alloc, World.size_setCell, World.size_drew, World.heap_drewN]; omega) | (simp; done) | (simp; omega))⟩
    case round =>
      obtain ⟨k, hk, rfl, hfr, hj, hbox, hbs⟩ := hrel
      by_cases hlt : k < xs.length
      · obtain ⟨rfl, hba, fa⟩ := fa (by omega)
        obtain ⟨x, hx⟩ : ∃ x, fileAt xs k = x := ⟨_, rfl⟩
        have c0 : wr.cell? ⟨ba, oa + k * 3, none⟩ = some (.string x.f0) := (hfr.cell (p := ⟨ba, _, none⟩) hba).trans (hx ▸ (fa k hlt).1)
        have c1 : wr.cell? ⟨ba, oa + k * 3 + 1, none⟩ = some (.string x.f1) := (hfr.cell (p := ⟨ba, _, none⟩) hba).trans (hx ▸ (fa k hlt).2.1)
        have c2 : wr.cell? ⟨ba, oa + k * 3 + 2, none⟩ = some (.int .i64 x.f2) := (hfr.cell (p := ⟨ba, _, none⟩) hba).trans (hx ▸ (fa k hlt).2.2)
        have hbw : ba < wr.heap.size := Nat.lt_of_lt_of_le hba hfr.size
        clear fa hd
        by_cases hK : x.f2 = x.f1.size
        · have hF : Hid (fileF xs k = true) := by show fileF xs k = true; unfold fileF; rw [hx]; exact decide_eq_true hK
          have g1 : (x.f2 != (x.f1.size : Int)) = false := by simp [hK]
          go_wp2
          go_roundw
          (case rel => exact ⟨k + 1, by omega, by go_num, by repeat (first | (with_reducible exact Fr.refl _) | (with_reducible assumption) | (with_reducible refine Fr.drewN ?_ _) | (with_reducible refine Fr.drew ?_) | (with_reducible refine Fr.alloc ?_ _) | (with_reducible refine Fr.setCell ?_ (by (first | (with_reducible assumption) | omega | (simp only [World.size_alloc, World.size_setCell, World.size_drew, World.heap_drewN]; omega) | (simp; done) | (simp; omega))) _) | (with_reducible refine Fr.trans ?_ (by with_reducible assumption))), fun j h => (by rcases Nat.lt_succ_iff_lt_or_eq.1 h with h | rfl; exact hj.out j h; exact hF.out), fun o => (Fr.cell (w := wr) (by repeat (first | (with_reducible exact Fr.refl _) | (with_reducible assumption) | (with_reducible refine Fr.drewN ?_ _) | (with_reducible refine Fr.drew ?_) | (with_reducible refine Fr.alloc ?_ _) | (with_reducible refine Fr.setCell ?_ (by (first | (with_reducible assumption) | omega | (simp only [World.size_alloc, World.size_setCell, World.size_drew, World.heap_drewN]; omega) | (simp; done) | (simp; omega))) _) | (with_reducible refine Fr.trans ?_ (by with_reducible assumption)))) (p := ⟨_, o, none⟩) hbs).trans (hbox o), by (first | (with_reducible assumption) | omega | (simp only [World.size_alloc, World.size_setCell, World.size_drew, World.heap_drewN]; omega) | (simp; done) | (simp; omega))⟩); (case measure => (simp [intOf]; omega))
        · have hF : Hid (fileF xs k = false) := by show fileF xs k = false; unfold fileF; rw [hx]; exact decide_eq_false hK
          have g1 : (x.f2 != (x.f1.size : Int)) = true := by simp [hK]
          go_wp2
          go_ret
          (exact ⟨ret_bool (by rw [hD.out, range_not_all hlt hF.out]), by repeat (first | (with_reducible exact Fr.refl _) | (with_reducible assumption) | (with_reducible refine Fr.drewN ?_ _) | (with_reducible refine Fr.drew ?_) | (with_reducible refine Fr.alloc ?_ _) | (with_reducible refine Fr.setCell ?_ (by (first | (with_reducible assumption) | omega | (simp only [World.size_alloc, World.size_setCell, World.size_drew, World.heap_drewN]; omega) | (simp; done) | (simp; omega))) _) | (with_reducible refine Fr.trans ?_ (by with_reducible assumption)))⟩)
      · have hkl : k = xs.length := by omega
        subst hkl
        go_wp2
        go_ret
        exact ⟨ret_bool (by rw [hD.out, range_all hj.out]), by repeat (first | (with_reducible exact Fr.refl _) | (with_reducible assumption) | (with_reducible refine Fr.drewN ?_ _) | (with_reducible refine Fr.drew ?_) | (with_reducible refine Fr.alloc ?_ _) | (with_reducible refine Fr.setCell ?_ (by (first | (with_reducible assumption) | omega | (simp only [World.size_alloc, World.size_setCell, World.size_drew, World.heap_drewN]; omega) | (simp; done) | (simp; omega))) _) | (with_reducible refine Fr.trans ?_ (by with_reducible assumption)))⟩
  · have hd' : diskB xs = false := by simpa using hd
    have hD : keptB xs = false := by unfold keptB; rw [hd', Bool.false_and]
    go_enter Try.func37, Try.ntmps37
    go_wp2_with fail
    refine (implDiskOk_any _ xs _ (hv.fr (by repeat (first | (with_reducible exact Fr.refl _) | (with_reducible assumption) | (with_reducible refine Fr.drewN ?_ _) | (with_reducible refine Fr.drew ?_) | (with_reducible refine Fr.alloc ?_ _) | (with_reducible refine Fr.setCell ?_ (by (first | (with_reducible assumption) | omega | (simp only [World.size_alloc, World.size_setCell, World.size_drew, World.heap_drewN]; omega) | (simp; done) | (simp; omega))) _) | (with_reducible refine Fr.trans ?_ (by with_reducible assumption)))))).mono ?_
    rintro e w1 ⟨rfl, hf1⟩
    go_wp2
    go_ret
    exact ⟨ret_bool hD.symm, by repeat (first | (with_reducible exact Fr.refl _) | (with_reducible assumption) | (with_reducible refine Fr.drewN ?_ _) | (with_reducible refine Fr.drew ?_) | (with_reducible refine Fr.alloc ?_ _) | (with_reducible refine Fr.setCell ?_ (by (first | (with_reducible assumption) | omega | (simp only [World.size_alloc, World.size_setCell, World.size_drew, World.heap_drewN]; omega) | (simp; done) | (simp; omega))) _) | (with_reducible refine Fr.trans ?_ (by with_reducible assumption)))⟩
theorem eqDiskF_same (v u : Value) (xs : List FileR) (w : World) (hv : FilesR w v xs) (hu : FilesR w u xs) :
    Calls Try.prog 42 #[.agg #[v], .agg #[u]] w fun e w' => e = .returned (.bool true) ∧ Fr w w' := by
  go_enter Try.func42, Try.ntmps42
  go_wp2_with fail
  refine (eqFileS_same _ _ xs _ (hv.fr (by repeat (first | (with_reducible exact Fr.refl _) | (with_reducible assumption) | (with_reducible refine Fr.drewN ?_ _) | (with_reducible refine Fr.drew ?_) | (with_reducible refine Fr.alloc ?_ _) | (with_reducible refine Fr.setCell ?_ (by (first | (with_reducible assumption) | omega | (simp only [World.size_alloc, World.size_setCell, World.size_drew, World.heap_drewN]; omega) | (simp; done) | (simp; omega))) _) | (with_reducible refine Fr.trans ?_ (by with_reducible assumption))))) (hu.fr (by repeat (first | (with_reducible exact Fr.refl _) | (with_reducible assumption) | (with_reducible refine Fr.drewN ?_ _) | (with_reducible refine Fr.drew ?_) | (with_reducible refine Fr.alloc ?_ _) | (with_reducible refine Fr.setCell ?_ (by (first | (with_reducible assumption) | omega | (simp only [World.size_alloc, World.size_setCell, World.size_drew, World.heap_drewN]; omega) | (simp; done) | (simp; omega))) _) | (with_reducible refine Fr.trans ?_ (by with_reducible assumption)))))).mono ?_; rintro e w1 ⟨rfl, hf1⟩
  go_wp2
  go_ret
  exact ⟨rfl, by repeat (first | (with_reducible exact Fr.refl _) | (with_reducible assumption) | (with_reducible refine Fr.drewN ?_ _) | (with_reducible refine Fr.drew ?_) | (with_reducible refine Fr.alloc ?_ _) | (with_reducible refine Fr.setCell ?_ (by (first | (with_reducible assumption) | omega | (simp only [World.size_alloc, World.size_setCell, World.size_drew, World.heap_drewN]; omega) | (simp; done) | (simp; omega))) _) | (with_reducible refine Fr.trans ?_ (by with_reducible assumption)))⟩
end Go.Proofs.Ytjgghiniajmfjaa
