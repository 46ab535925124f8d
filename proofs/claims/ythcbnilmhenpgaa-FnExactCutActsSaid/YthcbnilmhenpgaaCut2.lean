/- CutActs of the reference. Conditions: bounds on what is read, which the laws pay. -/
import Derived.Test.YthcbnilmhenpgaaCut
namespace Go.Proofs.Ythcbnilmhenpgaa
open Go.RowKit
set_option linter.unusedVariables false
set_option linter.unusedSimpArgs false
set_option maxHeartbeats 4000000 in
set_option maxRecDepth 100000 in
theorem specCutActs_any (xs : List FileR) (ls : List ActR) (n : Int) (left : List Int) (hn : xs.length ≤ 1048576) (hb : ActsBulk ls ≤ 1048576) (v v1 v3 : Value) (w : World) (hv : DiskRd w v ⟨xs⟩) (hv1 : ActsR w v1 ls) (hv3 : IntsR w v3 left) :
    Calls Try.prog 21 #[v, v1, .int .i64 n, v3] w fun e w' => ∃ ao cap, e = .returned (.tuple #[.agg #[.slice ao (cutD xs ls n left).f0.length cap], .bool (cutB xs ls n)]) ∧ DiskW w' w.heap.size w'.heap.size (.agg #[.slice ao (cutD xs ls n left).f0.length cap]) (cutD xs ls n left) ∧ Fr w w' := by
  obtain ⟨u, rfl, hu⟩ := hv
  have HV : Hid (DiskRd w _ ⟨xs⟩) := ⟨u, rfl, hu⟩
  simp only [] at hu
  obtain ⟨a0, c0, rfl, _⟩ := RdS.val hu
  have H1 := Lib.hid hv1
  have H3 := Lib.hid hv3
  obtain ⟨a1, b1, o1, c1, rfl, hc1, hm1, f1⟩ := hv1.one
  obtain ⟨a3, c3, rfl, _⟩ := RdS.val hv3
  have hal : ls.length ≤ 1048576 := by unfold ActsBulk at hb; omega
  have HB := Lib.hid hb
  clear hu hv1 hv3 hb
  by_cases hr : 0 ≤ n ∧ n ≤ ls.length
  · obtain ⟨m, rfl⟩ : ∃ m : Nat, n = m := ⟨n.toNat, by omega⟩
    have hm : m ≤ ls.length := by omega
    clear hr
    have hnil : a1 = none → m = 0 := fun h => by
      cases hl : ls.length with
      | zero => omega
      | succ q => exact absurd (f1 (by omega)).1 (by rw [h]; simp)
    clear f1
    have hk := (dosGo_le (ls.take m) xs 0).2
    have hk : (dosGo (ls.take m) xs 0).2 ≤ m := by have := List.length_take (l := ls) (i := m); omega
    have hdl := Lib.hid (dosGo_len (ls.take m) xs 0 hn)
    obtain ⟨ys, hy⟩ : ∃ ys, (dosGo (ls.take m) xs 0).1 = ys := ⟨_, rfl⟩
    obtain ⟨q, hq⟩ : ∃ q, (dosGo (ls.take m) xs 0).2 = q := ⟨_, rfl⟩
    have CT : Hid (∀ w', Fr w w' → Calls Try.prog 16 #[.agg #[.slice a0 xs.length c0], .slice a1 m c1] w' fun e w'' => ∃ ao cap, e = .returned (.tuple #[.agg #[.slice ao ys.length cap], .int .i64 q]) ∧ FilesW w'' w'.heap.size w''.heap.size (.slice ao ys.length cap) ys ∧ Fr w' w'') := fun w' hf => by
      have := specDoActs_any xs (ls.take m) hn (acts_take_bulk ls m HB.out) _ _ w' (HV.out.fr hf) ((ActsR.take H1.out m hm).fr hf)
      rw [hy, hq] at this
      exact this
    have HY : Hid (∀ h : q = m, cutD xs ls m left = loseD ⟨ys⟩ left ∧ cutB xs ls m = loseB ⟨ys⟩) := fun h => by
      have := cut_yes (xs := xs) (left := left) (cutOk_in (xs := xs) hm (decide_eq_true (by rw [hq]; exact h)))
      rw [Int.toNat_natCast, hy] at this
      exact this
    have HN : Hid (∀ h : q ≠ m, cutD xs ls m left = ⟨[]⟩ ∧ cutB xs ls m = false) := fun h => cut_no (cutOk_in (xs := xs) hm (decide_eq_false (by rw [hq]; exact h)))
    rw [hy] at hdl
    rw [hq] at hk
    have hmc : m ≤ c1 := by omega
    clear hy hq
    have HSZ : Hid (w.heap.size + 1 + 1 = ((w.alloc (.cells #[.slice a0 xs.length c0] 31)).alloc (.cells #[.slice none 0 0] 31)).drew.heap.size) := by show _ = _; simp
    have BRd : Box ((w.alloc (.cells #[.slice a0 xs.length c0] 31)).alloc (.cells #[.slice none 0 0] 31)).drew (w.heap.size + 1) #[.slice none 0 0] 31 := Box.new' (w := w.alloc (.cells #[.slice a0 xs.length c0] 31)) (by simp)
    have HBR := Lib.hid BRd
    clear BRd
    by_cases hqm : q = m
    · subst hqm
      obtain ⟨e1, e2⟩ := HY.out rfl
      have E1 := Lib.hid e1
      have E2 := Lib.hid e2
      clear e1 e2 HY HN
      have hq0 : ¬ ((q : Int) < 0) := by omega
      have hql : ¬ ((ls.length : Int) < (q : Int)) := by omega
      cases a1 with
      | none =>
        obtain rfl := hnil rfl
        go_enter Try.func21, Try.ntmps21
        go_wp2_with (go_at_call 44; refine (l01In_any _ _ _ _).mono ?_; rintro e w9 ⟨rfl, rfl⟩)
        go_region_law (go_simp; go_at_call 16; refine (CT.out _ (by repeat (first | (with_reducible exact Fr.refl _) | (with_reducible assumption) | (with_reducible refine Fr.drewN ?_ _) | (with_reducible refine Fr.drew ?_) | (with_reducible refine Fr.alloc ?_ _) | (with_reducible refine Fr.setCell ?_ (by (first | (with_reducible assumption) | omega | (simp only [World.size_alloc, World.size_setCell, World.size_drew, World.heap_drewN]; omega) | (simp; done) | (simp; omega))) _) | (with_reducible refine Fr.trans ?_ (by with_reducible assumption))))).mono ?_; rintro e w2 ⟨ao2, cap2, rfl, hl2, hf2⟩; (try (have B8 : Box w2 (w.heap.size + 1 + 1) #[.slice none 0 0] 31 := Box.fr (Box.new' HSZ.out) hf2; have F8 := B8.facts)))
        all_goals
          have z2 := hf2.size
          (try simp only [World.size_alloc, World.size_drew] at z2 hl2)
          have BR2 : Box w2 (w.heap.size + 1) #[.slice none 0 0] 31 := Box.fr (by first | exact HBR.out | exact HBR.out.alloc _) hf2
          have HL2 := Lib.hid hl2
          clear hl2
          have FR2 := BR2.facts
          go_wp2_with fail
          refine (specLoseDisk_any ⟨ys⟩ left hdl.out _ _ _ ⟨_, rfl, by first | (refine FilesW.rd (lo := w.heap.size + 1 + 1) (hi := w2.heap.size) ?_; (change OwW _ _ _ _ _ _ _ _; (repeat (first | (with_reducible refine OwW.drewN ?_ _) | (with_reducible refine OwW.drew ?_) | (with_reducible refine OwW.alloc ?_ _) | (with_reducible refine OwW.set ?_ (by (first | (with_reducible assumption) | omega | (simp only [World.size_alloc, World.size_setCell, World.size_drew, World.heap_drewN]; omega) | (simp; done) | (simp; omega))) _) | (exact HL2.out)))); done) | (refine FilesW.rd (lo := w.heap.size + 1 + 1 + 1) (hi := w2.heap.size) ?_; (change OwW _ _ _ _ _ _ _ _; (repeat (first | (with_reducible refine OwW.drewN ?_ _) | (with_reducible refine OwW.drew ?_) | (with_reducible refine OwW.alloc ?_ _) | (with_reducible refine OwW.set ?_ (by (first | (with_reducible assumption) | omega | (simp only [World.size_alloc, World.size_setCell, World.size_drew, World.heap_drewN]; omega) | (simp; done) | (simp; omega))) _) | (exact HL2.out)))); done)⟩ (H3.out.fr (by repeat (first | (with_reducible exact Fr.refl _) | (with_reducible assumption) | (with_reducible refine Fr.drewN ?_ _) | (with_reducible refine Fr.drew ?_) | (with_reducible refine Fr.alloc ?_ _) | (with_reducible refine Fr.setCell ?_ (by (first | (with_reducible assumption) | omega | (simp only [World.size_alloc, World.size_setCell, World.size_drew, World.heap_drewN]; omega) | (simp; done) | (simp; omega))) _) | (with_reducible refine Fr.trans ?_ (by with_reducible assumption)))))).mono ?_
          rintro e w3 ⟨ao3, cap3, rfl, hl3, hf3⟩
          obtain ⟨_, _, h9, o3⟩ := hl3
          cases h9
          have z3 := hf3.size
          (try simp only [World.size_alloc, World.size_setCell] at z3 o3)
          have BR3 : Box w3 (w.heap.size + 1) #[.slice none 0 0] 31 := Box.fr (by first | exact BR2.alloc _ | exact box_far BR2 (by omega) _) hf3
          clear FR2
          have FR3 := BR3.facts
          have O3 := Lib.hid o3
          clear o3
          generalize loseB ⟨ys⟩ = bb at E2 ⊢
          generalize loseD ⟨ys⟩ left = dd at E1 O3 ⊢
          go_wp2_with fail
          rw [E1.out, E2.out]
          refine bodyPost_ret (v := .tuple #[.agg #[.slice ao3 dd.f0.length cap3], .bool bb]) (by simp [results, Try.results21, go_sem, *]) rfl ⟨ao3, cap3, rfl, ⟨ao3, cap3, rfl, ?_⟩, by repeat (first | (with_reducible exact Fr.refl _) | (with_reducible assumption) | (with_reducible refine Fr.drewN ?_ _) | (with_reducible refine Fr.drew ?_) | (with_reducible refine Fr.alloc ?_ _) | (with_reducible refine Fr.setCell ?_ (by (first | (with_reducible assumption) | omega | (simp only [World.size_alloc, World.size_setCell, World.size_drew, World.heap_drewN]; omega) | (simp; done) | (simp; omega))) _) | (with_reducible refine Fr.trans ?_ (by with_reducible assumption)))⟩
          first | (refine OwW.mono (lo := w2.heap.size + 1) (hi := w3.heap.size) ?_ (by omega) (by (first | (with_reducible assumption) | omega | (simp only [World.size_alloc, World.size_setCell, World.size_drew, World.heap_drewN]; omega) | (simp; done) | (simp; omega))); (change OwW _ _ _ _ _ _ _ _; (repeat (first | (with_reducible refine OwW.drewN ?_ _) | (with_reducible refine OwW.drew ?_) | (with_reducible refine OwW.alloc ?_ _) | (with_reducible refine OwW.set ?_ (by (first | (with_reducible assumption) | omega | (simp only [World.size_alloc, World.size_setCell, World.size_drew, World.heap_drewN]; omega) | (simp; done) | (simp; omega))) _) | (exact O3.out)))); done) | (refine OwW.mono (lo := w2.heap.size) (hi := w3.heap.size) ?_ (by omega) (by (first | (with_reducible assumption) | omega | (simp only [World.size_alloc, World.size_setCell, World.size_drew, World.heap_drewN]; omega) | (simp; done) | (simp; omega))); (change OwW _ _ _ _ _ _ _ _; (repeat (first | (with_reducible refine OwW.drewN ?_ _) | (with_reducible refine OwW.drew ?_) | (with_reducible refine OwW.alloc ?_ _) | (with_reducible refine OwW.set ?_ (by (first | (with_reducible assumption) | omega | (simp only [World.size_alloc, World.size_setCell, World.size_drew, World.heap_drewN]; omega) | (simp; done) | (simp; omega))) _) | (exact O3.out)))); done)
      | some ad =>
        go_enter Try.func21, Try.ntmps21
        go_wp2_with (go_at_call 44; refine (l01In_any _ _ _ _).mono ?_; rintro e w9 ⟨rfl, rfl⟩)
        go_region_law (go_simp; go_at_call 16; refine (CT.out _ (by repeat (first | (with_reducible exact Fr.refl _) | (with_reducible assumption) | (with_reducible refine Fr.drewN ?_ _) | (with_reducible refine Fr.drew ?_) | (with_reducible refine Fr.alloc ?_ _) | (with_reducible refine Fr.setCell ?_ (by (first | (with_reducible assumption) | omega | (simp only [World.size_alloc, World.size_setCell, World.size_drew, World.heap_drewN]; omega) | (simp; done) | (simp; omega))) _) | (with_reducible refine Fr.trans ?_ (by with_reducible assumption))))).mono ?_; rintro e w2 ⟨ao2, cap2, rfl, hl2, hf2⟩; (try (have B8 : Box w2 (w.heap.size + 1 + 1) #[.slice none 0 0] 31 := Box.fr (Box.new' HSZ.out) hf2; have F8 := B8.facts)))
        all_goals
          have z2 := hf2.size
          (try simp only [World.size_alloc, World.size_drew] at z2 hl2)
          have BR2 : Box w2 (w.heap.size + 1) #[.slice none 0 0] 31 := Box.fr (by first | exact HBR.out | exact HBR.out.alloc _) hf2
          have HL2 := Lib.hid hl2
          clear hl2
          have FR2 := BR2.facts
          go_wp2_with fail
          refine (specLoseDisk_any ⟨ys⟩ left hdl.out _ _ _ ⟨_, rfl, by first | (refine FilesW.rd (lo := w.heap.size + 1 + 1) (hi := w2.heap.size) ?_; (change OwW _ _ _ _ _ _ _ _; (repeat (first | (with_reducible refine OwW.drewN ?_ _) | (with_reducible refine OwW.drew ?_) | (with_reducible refine OwW.alloc ?_ _) | (with_reducible refine OwW.set ?_ (by (first | (with_reducible assumption) | omega | (simp only [World.size_alloc, World.size_setCell, World.size_drew, World.heap_drewN]; omega) | (simp; done) | (simp; omega))) _) | (exact HL2.out)))); done) | (refine FilesW.rd (lo := w.heap.size + 1 + 1 + 1) (hi := w2.heap.size) ?_; (change OwW _ _ _ _ _ _ _ _; (repeat (first | (with_reducible refine OwW.drewN ?_ _) | (with_reducible refine OwW.drew ?_) | (with_reducible refine OwW.alloc ?_ _) | (with_reducible refine OwW.set ?_ (by (first | (with_reducible assumption) | omega | (simp only [World.size_alloc, World.size_setCell, World.size_drew, World.heap_drewN]; omega) | (simp; done) | (simp; omega))) _) | (exact HL2.out)))); done)⟩ (H3.out.fr (by repeat (first | (with_reducible exact Fr.refl _) | (with_reducible assumption) | (with_reducible refine Fr.drewN ?_ _) | (with_reducible refine Fr.drew ?_) | (with_reducible refine Fr.alloc ?_ _) | (with_reducible refine Fr.setCell ?_ (by (first | (with_reducible assumption) | omega | (simp only [World.size_alloc, World.size_setCell, World.size_drew, World.heap_drewN]; omega) | (simp; done) | (simp; omega))) _) | (with_reducible refine Fr.trans ?_ (by with_reducible assumption)))))).mono ?_
          rintro e w3 ⟨ao3, cap3, rfl, hl3, hf3⟩
          obtain ⟨_, _, h9, o3⟩ := hl3
          cases h9
          have z3 := hf3.size
          (try simp only [World.size_alloc, World.size_setCell] at z3 o3)
          have BR3 : Box w3 (w.heap.size + 1) #[.slice none 0 0] 31 := Box.fr (by first | exact BR2.alloc _ | exact box_far BR2 (by omega) _) hf3
          clear FR2
          have FR3 := BR3.facts
          have O3 := Lib.hid o3
          clear o3
          generalize loseB ⟨ys⟩ = bb at E2 ⊢
          generalize loseD ⟨ys⟩ left = dd at E1 O3 ⊢
          go_wp2_with fail
          rw [E1.out, E2.out]
          refine bodyPost_ret (v := .tuple #[.agg #[.slice ao3 dd.f0.length cap3], .bool bb]) (by simp [results, Try.results21, go_sem, *]) rfl ⟨ao3, cap3, rfl, ⟨ao3, cap3, rfl, ?_⟩, by repeat (first | (with_reducible exact Fr.refl _) | (with_reducible assumption) | (with_reducible refine Fr.drewN ?_ _) | (with_reducible refine Fr.drew ?_) | (with_reducible refine Fr.alloc ?_ _) | (with_reducible refine Fr.setCell ?_ (by (first | (with_reducible assumption) | omega | (simp only [World.size_alloc, World.size_setCell, World.size_drew, World.heap_drewN]; omega) | (simp; done) | (simp; omega))) _) | (with_reducible refine Fr.trans ?_ (by with_reducible assumption)))⟩
          first | (refine OwW.mono (lo := w2.heap.size + 1) (hi := w3.heap.size) ?_ (by omega) (by (first | (with_reducible assumption) | omega | (simp only [World.size_alloc, World.size_setCell, World.size_drew, World.heap_drewN]; omega) | (simp; done) | (simp; omega))); (change OwW _ _ _ _ _ _ _ _; (repeat (first | (with_reducible refine OwW.drewN ?_ _) | (with_reducible refine OwW.drew ?_) | (with_reducible refine OwW.alloc ?_ _) | (with_reducible refine OwW.set ?_ (by (first | (with_reducible assumption) | omega | (simp only [World.size_alloc, World.size_setCell, World.size_drew, World.heap_drewN]; omega) | (simp; done) | (simp; omega))) _) | (exact O3.out)))); done) | (refine OwW.mono (lo := w2.heap.size) (hi := w3.heap.size) ?_ (by omega) (by (first | (with_reducible assumption) | omega | (simp only [World.size_alloc, World.size_setCell, World.size_drew, World.heap_drewN]; omega) | (simp; done) | (simp; omega))); (change OwW _ _ _ _ _ _ _ _; (repeat (first | (with_reducible refine OwW.drewN ?_ _) | (with_reducible refine OwW.drew ?_) | (with_reducible refine OwW.alloc ?_ _) | (with_reducible refine OwW.set ?_ (by (first | (with_reducible assumption) | omega | (simp only [World.size_alloc, World.size_setCell, World.size_drew, World.heap_drewN]; omega) | (simp; done) | (simp; omega))) _) | (exact O3.out)))); done)
    · obtain ⟨e1, e2⟩ := HN.out hqm
      have E1 := Lib.hid e1
      have E2 := Lib.hid e2
      clear e1 e2 HY HN
      have hlt : (q : Int) < (m : Int) := by omega
      have hne : ((q : Int) != (m : Int)) = true := by rw [bne_iff_ne]; omega
      have hq0 : ¬ ((m : Int) < 0) := by omega
      have hql : ¬ ((ls.length : Int) < (m : Int)) := by omega
      cases a1 with
      | none => exact absurd (hnil rfl) (by omega)
      | some ad =>
        go_enter Try.func21, Try.ntmps21
        go_wp2_with (go_at_call 44; refine (l01In_any _ _ _ _).mono ?_; rintro e w9 ⟨rfl, rfl⟩)
        go_region_law (go_simp; go_at_call 16; refine (CT.out _ (by repeat (first | (with_reducible exact Fr.refl _) | (with_reducible assumption) | (with_reducible refine Fr.drewN ?_ _) | (with_reducible refine Fr.drew ?_) | (with_reducible refine Fr.alloc ?_ _) | (with_reducible refine Fr.setCell ?_ (by (first | (with_reducible assumption) | omega | (simp only [World.size_alloc, World.size_setCell, World.size_drew, World.heap_drewN]; omega) | (simp; done) | (simp; omega))) _) | (with_reducible refine Fr.trans ?_ (by with_reducible assumption))))).mono ?_; rintro e w2 ⟨ao2, cap2, rfl, hl2, hf2⟩; (try (have B8 : Box w2 (w.heap.size + 1 + 1) #[.slice none 0 0] 31 := Box.fr (Box.new' HSZ.out) hf2; have F8 := B8.facts)))
        all_goals
          have z2 := hf2.size
          (try simp only [World.size_alloc, World.size_drew] at z2 hl2)
          have BR2 : Box w2 (w.heap.size + 1) #[.slice none 0 0] 31 := Box.fr (by first | exact HBR.out | exact HBR.out.alloc _) hf2
          have HL2 := Lib.hid hl2
          clear hl2
          have FR2 := BR2.facts
          go_wp2_with fail
          rw [E1.out, E2.out]
          refine bodyPost_ret (v := .tuple #[.agg #[.slice none 0 0], .bool false]) (by simp [results, Try.results21, go_sem, *]) rfl ⟨none, 0, rfl, ⟨none, 0, rfl, FilesW.nil _ _ _⟩, by repeat (first | (with_reducible exact Fr.refl _) | (with_reducible assumption) | (with_reducible refine Fr.drewN ?_ _) | (with_reducible refine Fr.drew ?_) | (with_reducible refine Fr.alloc ?_ _) | (with_reducible refine Fr.setCell ?_ (by (first | (with_reducible assumption) | omega | (simp only [World.size_alloc, World.size_setCell, World.size_drew, World.heap_drewN]; omega) | (simp; done) | (simp; omega))) _) | (with_reducible refine Fr.trans ?_ (by with_reducible assumption)))⟩
  · obtain ⟨e1, e2⟩ := cut_no (left := left) (cutOk_far (xs := xs) hr)
    have E1 := Lib.hid e1
    have E2 := Lib.hid e2
    clear e1 e2
    rcases (show n < 0 ∨ (ls.length : Int) < n by omega) with hn0 | hn0
    all_goals
      go_enter Try.func21, Try.ntmps21
      go_wp2_with (go_at_call 44; refine (l01In_any _ _ _ _).mono ?_; rintro e w9 ⟨rfl, rfl⟩)
      rw [E1.out, E2.out]
      refine bodyPost_ret (v := .tuple #[.agg #[.slice none 0 0], .bool false]) (by simp [results, Try.results21, go_sem, *]) rfl ⟨none, 0, rfl, ⟨none, 0, rfl, FilesW.nil _ _ _⟩, by repeat (first | (with_reducible exact Fr.refl _) | (with_reducible assumption) | (with_reducible refine Fr.drewN ?_ _) | (with_reducible refine Fr.drew ?_) | (with_reducible refine Fr.alloc ?_ _) | (with_reducible refine Fr.setCell ?_ (by (first | (with_reducible assumption) | omega | (simp only [World.size_alloc, World.size_setCell, World.size_drew, World.heap_drewN]; omega) | (simp; done) | (simp; omega))) _) | (with_reducible refine Fr.trans ?_ (by with_reducible assumption)))⟩
end Go.Proofs.Ythcbnilmhenpgaa
