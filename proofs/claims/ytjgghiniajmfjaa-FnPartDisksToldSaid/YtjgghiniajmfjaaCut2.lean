/- Cut2: Cut, Cut2 in one text. -/
import Derived.Test.YtjgghiniajmfjaaKDos
import Derived.Test.YtjgghiniajmfjaaKLose
namespace Go.Proofs.Ytjgghiniajmfjaa
open Go.RowKit
set_option linter.unusedVariables false
set_option linter.unusedSimpArgs false
/-! CutActs of both. Conditions: bounds on what is read, which the laws pay. -/
theorem act_take (xs : List ActR) (i : Nat) : (xs.take i).flatMap ActR.cells = (xs.flatMap ActR.cells).take (i * 4) := by
  induction xs generalizing i with
  | nil => simp
  | cons x xs ih =>
    cases i with
    | zero => simp
    | succ i =>
      rw [List.flatMap_cons, List.take_succ_cons, List.flatMap_cons, ih i]
      have hl : x.cells.length = 4 := rfl
      rw [List.take_append, hl, show (i + 1) * 4 - 4 = i * 4 by omega, List.take_of_length_le (l := x.cells) (by rw [hl]; omega)]
theorem RdS.take {w : World} {ao : Option Addr} {sz n cap : Nat} {xs : List Value} (h : RdS w sz (.slice ao n cap) n xs) (m : Nat) (hm : m ≤ n) : RdS w sz (.slice ao m cap) m (xs.take (m * sz)) := by
  obtain ⟨h1, ao', cap', hv, h2, h3, h4⟩ := h
  cases hv
  have hmz : m * sz ≤ n * sz := Nat.mul_le_mul_right sz hm
  refine ⟨by rw [List.length_take]; omega, ao, cap, rfl, by omega, h3, fun hn => ?_⟩
  obtain ⟨b, o, hb, hs, hc⟩ := h4 (by omega)
  refine ⟨b, o, hb, hs, fun j hj => ?_⟩
  rw [hc j (by omega), List.getElem?_take_of_lt (by omega)]
theorem ActsR.take {w : World} {ao : Option Addr} {n cap : Nat} {ls : List ActR} (h : ActsR w (.slice ao n cap) ls) (m : Nat) (hm : m ≤ ls.length) : ActsR w (.slice ao m cap) (ls.take m) := by
  have hn : n = ls.length := by obtain ⟨_, _, _, hv, _⟩ := h; cases hv; rfl
  subst hn
  have := RdS.take h m hm
  unfold ActsR
  rw [act_take, show (ls.take m).length = m by simp; omega]
  exact this
theorem acts_take_bulk (ls : List ActR) (m : Nat) (h : ActsBulk ls ≤ 1048576) : ActsBulk (ls.take m) ≤ 1048576 := by
  refine Nat.le_trans ?_ h
  unfold ActsBulk sumAct
  rw [List.take_length, List.take_length]
  have h2 : ((ls.take m).map ActR.bulk).sum ≤ (ls.map ActR.bulk).sum := by
    conv => rhs; rw [← List.take_append_drop m ls]
    rw [List.map_append, List.sum_append]
    omega
  have h3 : (ls.take m).length ≤ ls.length := by simp; omega
  omega
theorem dosGo_le : ∀ (ls : List ActR) (xs : List FileR) (i : Nat), i ≤ (dosGo ls xs i).2 ∧ (dosGo ls xs i).2 ≤ i + ls.length
  | [], xs, i => by simp [dosGo]
  | a :: ls, xs, i => by
    rw [dosGo]
    split
    · have := dosGo_le ls (doL xs a) (i + 1)
      simp only [List.length_cons]
      omega
    · simp only [List.length_cons]; omega
/-- What CutActs answers. -/
def cutOk (xs : List FileR) (ls : List ActR) (n : Int) : Bool := decide (0 ≤ n ∧ n ≤ ls.length) && decide ((dosGo (ls.take n.toNat) xs 0).2 = n.toNat)
def cutD (xs : List FileR) (ls : List ActR) (n : Int) (left : List Int) : DiskD := if cutOk xs ls n then loseD ⟨(dosGo (ls.take n.toNat) xs 0).1⟩ left else ⟨[]⟩
def cutB (xs : List FileR) (ls : List ActR) (n : Int) : Bool := if cutOk xs ls n then loseB ⟨(dosGo (ls.take n.toNat) xs 0).1⟩ else false
theorem cutD_cnt {xs : List FileR} {ls : List ActR} {n : Int} {left : List Int} (h : xs.length ≤ 1048576) : (cutD xs ls n left).cnt ≤ 100000000 := by
  unfold cutD
  split
  · exact loseD_cnt (dosGo_len _ _ _ h)
  · simp [DiskD.cnt]
theorem cut_no {xs : List FileR} {ls : List ActR} {n : Int} {left : List Int} (h : cutOk xs ls n = false) : cutD xs ls n left = ⟨[]⟩ ∧ cutB xs ls n = false := by
  unfold cutD cutB; rw [h]; exact ⟨rfl, rfl⟩
theorem cut_yes {xs : List FileR} {ls : List ActR} {n : Int} {left : List Int} (h : cutOk xs ls n = true) : cutD xs ls n left = loseD ⟨(dosGo (ls.take n.toNat) xs 0).1⟩ left ∧ cutB xs ls n = loseB ⟨(dosGo (ls.take n.toNat) xs 0).1⟩ := by
  unfold cutD cutB; rw [h]; exact ⟨rfl, rfl⟩
theorem cutOk_far {xs : List FileR} {ls : List ActR} {n : Int} (h : ¬ (0 ≤ n ∧ n ≤ ls.length)) : cutOk xs ls n = false := by unfold cutOk; rw [decide_eq_false h]; rfl
theorem cutOk_in {xs : List FileR} {ls : List ActR} {m : Nat} (h : m ≤ ls.length) {d : Bool} (h2 : decide ((dosGo (ls.take m) xs 0).2 = m) = d) : cutOk xs ls m = d := by
  unfold cutOk; rw [decide_eq_true (by omega : (0 : Int) ≤ (m : Int) ∧ (m : Int) ≤ ls.length), Int.toNat_natCast, h2]; rfl
set_option maxHeartbeats 4000000 in
set_option maxRecDepth 100000 in
theorem implCutActs_any (xs : List FileR) (ls : List ActR) (n : Int) (left : List Int) (hn : xs.length ≤ 1048576) (hb : ActsBulk ls ≤ 1048576) (v v1 v3 : Value) (w : World) (hv : DiskRd w v ⟨xs⟩) (hv1 : ActsR w v1 ls) (hv3 : IntsR w v3 left) :
    Calls Try.prog 33 #[v, v1, .int .i64 n, v3] w fun e w' => ∃ ao cap, e = .returned (.tuple #[.agg #[.slice ao (cutD xs ls n left).f0.length cap], .bool (cutB xs ls n)]) ∧ DiskW w' w.heap.size w'.heap.size (.agg #[.slice ao (cutD xs ls n left).f0.length cap]) (cutD xs ls n left) ∧ Fr w w' := by
  obtain ⟨u, rfl, hu⟩ := hv
  have HV : Hid (DiskRd w _ ⟨xs⟩) := ⟨u, rfl, hu⟩
  simp only [] at hu
  obtain ⟨a0, c0, rfl, _⟩ := RdS.val hu
  have H1 := Lib.hid hv1
  have H3 := Lib.hid hv3
  obtain ⟨a1, b1, o1, c1, rfl, hc1, hm1, f1⟩ := hv1.one
  obtain ⟨a3, c3, rfl, _⟩ := RdS.val hv3
  have hal : ls.length ≤ 1048576 := by unfold ActsBulk at hb; omega
  have HB := Lib.hid hb
  clear hu hv1 hv3 hb
  by_cases hr : 0 ≤ n ∧ n ≤ ls.length
  · obtain ⟨m, rfl⟩ : ∃ m : Nat, n = m := ⟨n.toNat, by omega⟩
    have hm : m ≤ ls.length := by omega
    clear hr
    have hnil : a1 = none → m = 0 := fun h => by
      cases hl : ls.length with
      | zero => omega
      | succ q => exact absurd (f1 (by omega)).1 (by rw [h]; simp)
    clear f1
    have hk := (dosGo_le (ls.take m) xs 0).2
    have hk : (dosGo (ls.take m) xs 0).2 ≤ m := by have := List.length_take (l := ls) (i := m); omega
    have hdl := Lib.hid (dosGo_len (ls.take m) xs 0 hn)
    obtain ⟨ys, hy⟩ : ∃ ys, (dosGo (ls.take m) xs 0).1 = ys := ⟨_, rfl⟩
    obtain ⟨q, hq⟩ : ∃ q, (dosGo (ls.take m) xs 0).2 = q := ⟨_, rfl⟩
    have CT : Hid (∀ w', Fr w w' → Calls Try.prog 105 #[.agg #[.slice a0 xs.length c0], .slice a1 m c1] w' fun e w'' => ∃ ao cap, e = .returned (.tuple #[.agg #[.slice ao ys.length cap], .int .i64 q]) ∧ FilesW w'' w'.heap.size w''.heap.size (.slice ao ys.length cap) ys ∧ Fr w' w'') := fun w' hf => by
      have := implDoActs_any xs (ls.take m) hn (acts_take_bulk ls m HB.out) _ _ w' (HV.out.fr hf) ((ActsR.take H1.out m hm).fr hf)
      rw [hy, hq] at this
      exact this
    have HY : Hid (∀ h : q = m, cutD xs ls m left = loseD ⟨ys⟩ left ∧ cutB xs ls m = loseB ⟨ys⟩) := fun h => by
      have := cut_yes (xs := xs) (left := left) (cutOk_in (xs := xs) hm (decide_eq_true (by rw [hq]; exact h)))
      rw [Int.toNat_natCast, hy] at this
      exact this
    have HN : Hid (∀ h : q ≠ m, cutD xs ls m left = ⟨[]⟩ ∧ cutB xs ls m = false) := fun h => cut_no (cutOk_in (xs := xs) hm (decide_eq_false (by rw [hq]; exact h)))
    rw [hy] at hdl
    rw [hq] at hk
    have hmc : m ≤ c1 := by omega
    clear hy hq
    have HSZ : Hid (w.heap.size + 1 + 1 = ((w.alloc (.cells #[.slice a0 xs.length c0] 46)).alloc (.cells #[.slice none 0 0] 46)).drew.heap.size) := by show _ = _; simp
    have BRd : Box ((w.alloc (.cells #[.slice a0 xs.length c0] 46)).alloc (.cells #[.slice none 0 0] 46)).drew (w.heap.size + 1) #[.slice none 0 0] 46 := Box.new' (w := w.alloc (.cells #[.slice a0 xs.length c0] 46)) (by simp)
    have HBR := Lib.hid BRd
    clear BRd
    by_cases hqm : q = m
    · subst hqm
      obtain ⟨e1, e2⟩ := HY.out rfl
      have E1 := Lib.hid e1
      have E2 := Lib.hid e2
      clear e1 e2 HY HN
      have hq0 : ¬ ((q : Int) < 0) := by omega
      have hql : ¬ ((ls.length : Int) < (q : Int)) := by omega
      cases a1 with
      | none =>
        obtain rfl := hnil rfl
        go_enter Try.func33, Try.ntmps33
        go_wp2_with fail
        go_region_law (go_simp; go_at_call 105; refine (CT.out _ (by repeat (first | (with_reducible exact Fr.refl _) | (with_reducible assumption) | (with_reducible refine Fr.drewN ?_ _) | (with_reducible refine Fr.drew ?_) | (with_reducible refine Fr.alloc ?_ _) | (with_reducible refine Fr.setCell ?_ (by (first | (with_reducible assumption) | omega | (simp only [World.size_alloc, World.size_setCell, World.size_drew, World.heap_drewN]; omega) | (simp; done) | (simp; omega))) _) | (with_reducible refine Fr.trans ?_ (by with_reducible assumption))))).mono ?_; rintro e w2 ⟨ao2, cap2, rfl, hl2, hf2⟩; (try (have B8 : Box w2 (w.heap.size + 1 + 1) #[.slice none 0 0] 46 := Box.fr (Box.new' HSZ.out) hf2; have F8 := B8.facts)))
        all_goals
          have z2 := hf2.size
          (try simp only [World.size_alloc, World.size_drew] at z2 hl2)
          have BR2 : Box w2 (w.heap.size + 1) #[.slice none 0 0] 46 := Box.fr (by first | exact HBR.out | exact HBR.out.alloc _) hf2
          have HL2 := Lib.hid hl2
          clear hl2
          have FR2 := BR2.facts
          go_wp2_with fail
          refine (implLoseDisk_any ⟨ys⟩ left hdl.out _ _ _ ⟨_, rfl, by first | (refine FilesW.rd (lo := w.heap.size + 1 + 1) (hi := w2.heap.size) ?_; (change OwW _ _ _ _ _ _ _ _; (repeat (first | (with_reducible refine OwW.drewN ?_ _) | (with_reducible refine OwW.drew ?_) | (with_reducible refine OwW.alloc ?_ _) | (with_reducible refine OwW.set ?_ (by (first | (with_reducible assumption) | omega | (simp only [World.size_alloc, World.size_setCell, World.size_drew, World.heap_drewN]; omega) | (simp; done) | (simp; omega))) _) | (exact HL2.out)))); done) | (refine FilesW.rd (lo := w.heap.size + 1 + 1 + 1) (hi := w2.heap.size) ?_; (change OwW _ _ _ _ _ _ _ _; (repeat (first | (with_reducible refine OwW.drewN ?_ _) | (with_reducible refine OwW.drew ?_) | (with_reducible refine OwW.alloc ?_ _) | (with_reducible refine OwW.set ?_ (by (first | (with_reducible assumption) | omega | (simp only [World.size_alloc, World.size_setCell, World.size_drew, World.heap_drewN]; omega) | (simp; done) | (simp; omega))) _) | (exact HL2.out)))); done)⟩ (H3.out.fr (by repeat (first | (with_reducible exact Fr.refl _) | (with_reducible assumption) | (with_reducible refine Fr.drewN ?_ _) | (with_reducible refine Fr.drew ?_) | (with_reducible refine Fr.alloc ?_ _) | (with_reducible refine Fr.setCell ?_ (by (first | (with_reducible assumption) | omega | (simp only [World.size_alloc, World.size_setCell, World.size_drew, World.heap_drewN]; omega) | (simp; done) | (simp; omega))) _) | (with_reducible refine Fr.trans ?_ (by with_reducible assumption)))))).mono ?_
          rintro e w3 ⟨ao3, cap3, rfl, hl3, hf3⟩
          obtain ⟨_, _, h9, o3⟩ := hl3
          cases h9
          have z3 := hf3.size
          (try simp only [World.size_alloc, World.size_setCell] at z3 o3)
          have BR3 : Box w3 (w.heap.size + 1) #[.slice none 0 0] 46 := Box.fr (by first | exact BR2.alloc _ | exact box_far BR2 (by omega) _) hf3
          clear FR2
          have FR3 := BR3.facts
          have O3 := Lib.hid o3
          clear o3
          generalize loseB ⟨ys⟩ = bb at E2 ⊢
          generalize loseD ⟨ys⟩ left = dd at E1 O3 ⊢
          go_wp2_with fail
          rw [E1.out, E2.out]
          refine bodyPost_ret (v := .tuple #[.agg #[.slice ao3 dd.f0.length cap3], .bool bb]) (by simp [results, Try.results33, go_sem, *]) rfl ⟨ao3, cap3, rfl, ⟨ao3, cap3, rfl, ?_⟩, by repeat (first | (with_reducible exact Fr.refl _) | (with_reducible assumption) | (with_reducible refine Fr.drewN ?_ _) | (with_reducible refine Fr.drew ?_) | (with_reducible refine Fr.alloc ?_ _) | (with_reducible refine Fr.setCell ?_ (by (first | (with_reducible assumption) | omega | (simp only [World.size_alloc, World.size_setCell, World.size_drew, World.heap_drewN]; omega) | (simp; done) | (simp; omega))) _) | (with_reducible refine Fr.trans ?_ (by with_reducible assumption)))⟩
          first | (refine OwW.mono (lo := w2.heap.size + 1) (hi := w3.heap.size) ?_ (by omega) (by (first | (with_reducible assumption) | omega | (simp only [World.size_alloc, World.size_setCell, World.size_drew, World.heap_drewN]; omega) | (simp; done) | (simp; omega))); (change OwW _ _ _ _ _ _ _ _; (repeat (first | (with_reducible refine OwW.drewN ?_ _) | (with_reducible refine OwW.drew ?_) | (with_reducible refine OwW.alloc ?_ _) | (with_reducible refine OwW.set ?_ (by (first | (with_reducible assumption) | omega | (simp only [World.size_alloc, World.size_setCell, World.size_drew, World.heap_drewN]; omega) | (simp; done) | (simp; omega))) _) | (exact O3.out)))); done) | (refine OwW.mono (lo := w2.heap.size) (hi := w3.heap.size) ?_ (by omega) (by (first | (with_reducible assumption) | omega | (simp only [World.size_alloc, World.size_setCell, World.size_drew, World.heap_drewN]; omega) | (simp; done) | (simp; omega))); (change OwW _ _ _ _ _ _ _ _; (repeat (first | (with_reducible refine OwW.drewN ?_ _) | (with_reducible refine OwW.drew ?_) | (with_reducible refine OwW.alloc ?_ _) | (with_reducible refine OwW.set ?_ (by (first | (with_reducible assumption) | omega | (simp only [World.size_alloc, World.size_setCell, World.size_drew, World.heap_drewN]; omega) | (simp; done) | (simp; omega))) _) | (exact O3.out)))); done)
      | some ad =>
        go_enter Try.func33, Try.ntmps33
        go_wp2_with fail
        go_region_law (go_simp; go_at_call 105; refine (CT.out _ (by repeat (first | (with_reducible exact Fr.refl _) | (with_reducible assumption) | (with_reducible refine Fr.drewN ?_ _) | (with_reducible refine Fr.drew ?_) | (with_reducible refine Fr.alloc ?_ _) | (with_reducible refine Fr.setCell ?_ (by (first | (with_reducible assumption) | omega | (simp only [World.size_alloc, World.size_setCell, World.size_drew, World.heap_drewN]; omega) | (simp; done) | (simp; omega))) _) | (with_reducible refine Fr.trans ?_ (by with_reducible assumption))))).mono ?_; rintro e w2 ⟨ao2, cap2, rfl, hl2, hf2⟩; (try (have B8 : Box w2 (w.heap.size + 1 + 1) #[.slice none 0 0] 46 := Box.fr (Box.new' HSZ.out) hf2; have F8 := B8.facts)))
        all_goals
          have z2 := hf2.size
          (try simp only [World.size_alloc, World.size_drew] at z2 hl2)
          have BR2 : Box w2 (w.heap.size + 1) #[.slice none 0 0] 46 := Box.fr (by first | exact HBR.out | exact HBR.out.alloc _) hf2
          have HL2 := Lib.hid hl2
          clear hl2
          have FR2 := BR2.facts
          go_wp2_with fail
          refine (implLoseDisk_any ⟨ys⟩ left hdl.out _ _ _ ⟨_, rfl, by first | (refine FilesW.rd (lo := w.heap.size + 1 + 1) (hi := w2.heap.size) ?_; (change OwW _ _ _ _ _ _ _ _; (repeat (first | (with_reducible refine OwW.drewN ?_ _) | (with_reducible refine OwW.drew ?_) | (with_reducible refine OwW.alloc ?_ _) | (with_reducible refine OwW.set ?_ (by (first | (with_reducible assumption) | omega | (simp only [World.size_alloc, World.size_setCell, World.size_drew, World.heap_drewN]; omega) | (simp; done) | (simp; omega))) _) | (exact HL2.out)))); done) | (refine FilesW.rd (lo := w.heap.size + 1 + 1 + 1) (hi := w2.heap.size) ?_; (change OwW _ _ _ _ _ _ _ _; (repeat (first | (with_reducible refine OwW.drewN ?_ _) | (with_reducible refine OwW.drew ?_) | (with_reducible refine OwW.alloc ?_ _) | (with_reducible refine OwW.set ?_ (by (first | (with_reducible assumption) | omega | (simp only [World.size_alloc, World.size_setCell, World.size_drew, World.heap_drewN]; omega) | (simp; done) | (simp; omega))) _) | (exact HL2.out)))); done)⟩ (H3.out.fr (by repeat (first | (with_reducible exact Fr.refl _) | (with_reducible assumption) | (with_reducible refine Fr.drewN ?_ _) | (with_reducible refine Fr.drew ?_) | (with_reducible refine Fr.alloc ?_ _) | (with_reducible refine Fr.setCell ?_ (by (first | (with_reducible assumption) | omega | (simp only [World.size_alloc, World.size_setCell, World.size_drew, World.heap_drewN]; omega) | (simp; done) | (simp; omega))) _) | (with_reducible refine Fr.trans ?_ (by with_reducible assumption)))))).mono ?_
          rintro e w3 ⟨ao3, cap3, rfl, hl3, hf3⟩
          obtain ⟨_, _, h9, o3⟩ := hl3
          cases h9
          have z3 := hf3.size
          (try simp only [World.size_alloc, World.size_setCell] at z3 o3)
          have BR3 : Box w3 (w.heap.size + 1) #[.slice none 0 0] 46 := Box.fr (by first | exact BR2.alloc _ | exact box_far BR2 (by omega) _) hf3
          clear FR2
          have FR3 := BR3.facts
          have O3 := Lib.hid o3
          clear o3
          generalize loseB ⟨ys⟩ = bb at E2 ⊢
          generalize loseD ⟨ys⟩ left = dd at E1 O3 ⊢
          go_wp2_with fail
          rw [E1.out, E2.out]
          refine bodyPost_ret (v := .tuple #[.agg #[.slice ao3 dd.f0.length cap3], .bool bb]) (by simp [results, Try.results33, go_sem, *]) rfl ⟨ao3, cap3, rfl, ⟨ao3, cap3, rfl, ?_⟩, by repeat (first | (with_reducible exact Fr.refl _) | (with_reducible assumption) | (with_reducible refine Fr.drewN ?_ _) | (with_reducible refine Fr.drew ?_) | (with_reducible refine Fr.alloc ?_ _) | (with_reducible refine Fr.setCell ?_ (by (first | (with_reducible assumption) | omega | (simp only [World.size_alloc, World.size_setCell, World.size_drew, World.heap_drewN]; omega) | (simp; done) | (simp; omega))) _) | (with_reducible refine Fr.trans ?_ (by with_reducible assumption)))⟩
          first | (refine OwW.mono (lo := w2.heap.size + 1) (hi := w3.heap.size) ?_ (by omega) (by (first | (with_reducible assumption) | omega | (simp only [World.size_alloc, World.size_setCell, World.size_drew, World.heap_drewN]; omega) | (simp; done) | (simp; omega))); (change OwW _ _ _ _ _ _ _ _; (repeat (first | (with_reducible refine OwW.drewN ?_ _) | (with_reducible refine OwW.drew ?_) | (with_reducible refine OwW.alloc ?_ _) | (with_reducible refine OwW.set ?_ (by (first | (with_reducible assumption) | omega | (simp only [World.size_alloc, World.size_setCell, World.size_drew, World.heap_drewN]; omega) | (simp; done) | (simp; omega))) _) | (exact O3.out)))); done) | (refine OwW.mono (lo := w2.heap.size) (hi := w3.heap.size) ?_ (by omega) (by (first | (with_reducible assumption) | omega | (simp only [World.size_alloc, World.size_setCell, World.size_drew, World.heap_drewN]; omega) | (simp; done) | (simp; omega))); (change OwW _ _ _ _ _ _ _ _; (repeat (first | (with_reducible refine OwW.drewN ?_ _) | (with_reducible refine OwW.drew ?_) | (with_reducible refine OwW.alloc ?_ _) | (with_reducible refine OwW.set ?_ (by (first | (with_reducible assumption) | omega | (simp only [World.size_alloc, World.size_setCell, World.size_drew, World.heap_drewN]; omega) | (simp; done) | (simp; omega))) _) | (exact O3.out)))); done)
    · obtain ⟨e1, e2⟩ := HN.out hqm
      have E1 := Lib.hid e1
      have E2 := Lib.hid e2
      clear e1 e2 HY HN
      have hlt : (q : Int) < (m : Int) := by omega
      have hne : ((q : Int) != (m : Int)) = true := by rw [bne_iff_ne]; omega
      have hq0 : ¬ ((m : Int) < 0) := by omega
      have hql : ¬ ((ls.length : Int) < (m : Int)) := by omega
      cases a1 with
      | none => exact absurd (hnil rfl) (by omega)
      | some ad =>
        go_enter Try.func33, Try.ntmps33
        go_wp2_with fail
        go_region_law (go_simp; go_at_call 105; refine (CT.out _ (by repeat (first | (with_reducible exact Fr.refl _) | (with_reducible assumption) | (with_reducible refine Fr.drewN ?_ _) | (with_reducible refine Fr.drew ?_) | (with_reducible refine Fr.alloc ?_ _) | (with_reducible refine Fr.setCell ?_ (by (first | (with_reducible assumption) | omega | (simp only [World.size_alloc, World.size_setCell, World.size_drew, World.heap_drewN]; omega) | (simp; done) | (simp; omega))) _) | (with_reducible refine Fr.trans ?_ (by with_reducible assumption))))).mono ?_; rintro e w2 ⟨ao2, cap2, rfl, hl2, hf2⟩; (try (have B8 : Box w2 (w.heap.size + 1 + 1) #[.slice none 0 0] 46 := Box.fr (Box.new' HSZ.out) hf2; have F8 := B8.facts)))
        all_goals
          have z2 := hf2.size
          (try simp only [World.size_alloc, World.size_drew] at z2 hl2)
          have BR2 : Box w2 (w.heap.size + 1) #[.slice none 0 0] 46 := Box.fr (by first | exact HBR.out | exact HBR.out.alloc _) hf2
          have HL2 := Lib.hid hl2
          clear hl2
          have FR2 := BR2.facts
          go_wp2_with fail
          rw [E1.out, E2.out]
          refine bodyPost_ret (v := .tuple #[.agg #[.slice none 0 0], .bool false]) (by simp [results, Try.results33, go_sem, *]) rfl ⟨none, 0, rfl, ⟨none, 0, rfl, FilesW.nil _ _ _⟩, by repeat (first | (with_reducible exact Fr.refl _) | (with_reducible assumption) | (with_reducible refine Fr.drewN ?_ _) | (with_reducible refine Fr.drew ?_) | (with_reducible refine Fr.alloc ?_ _) | (with_reducible refine Fr.setCell ?_ (by (first | (with_reducible assumption) | omega | (simp only [World.size_alloc, World.size_setCell, World.size_drew, World.heap_drewN]; omega) | (simp; done) | (simp; omega))) _) | (with_reducible refine Fr.trans ?_ (by with_reducible assumption)))⟩
  · obtain ⟨e1, e2⟩ := cut_no (left := left) (cutOk_far (xs := xs) hr)
    have E1 := Lib.hid e1
    have E2 := Lib.hid e2
    clear e1 e2
    rcases (show n < 0 ∨ (ls.length : Int) < n by omega) with hn0 | hn0
    all_goals
      go_enter Try.func33, Try.ntmps33
      go_wp2_with fail
      rw [E1.out, E2.out]
      refine bodyPost_ret (v := .tuple #[.agg #[.slice none 0 0], .bool false]) (by simp [results, Try.results33, go_sem, *]) rfl ⟨none, 0, rfl, ⟨none, 0, rfl, FilesW.nil _ _ _⟩, by repeat (first | (with_reducible exact Fr.refl _) | (with_reducible assumption) | (with_reducible refine Fr.drewN ?_ _) | (with_reducible refine Fr.drew ?_) | (with_reducible refine Fr.alloc ?_ _) | (with_reducible refine Fr.setCell ?_ (by (first | (with_reducible assumption) | omega | (simp only [World.size_alloc, World.size_setCell, World.size_drew, World.heap_drewN]; omega) | (simp; done) | (simp; omega))) _) | (with_reducible refine Fr.trans ?_ (by with_reducible assumption)))⟩
/-! CutActs of the reference. Conditions: bounds on what is read, which the laws pay. -/
end Go.Proofs.Ytjgghiniajmfjaa
