/- Texts in one: Fit, Act2. -/
import Derived.Test.YtjgghiniajmfjaaDisk2
import Derived.Test.YtjgghiniajmfjaaKAct
import Derived.Test.YtjgghiniajmfjaaKPut
import Derived.Test.YtjgghiniajmfjaaRe
import Derived.Test.YtjgghiniajmfjaaKpl2
/- actFits: whether the fields of an operation fit its kind. No condition. -/
namespace Go.Proofs.Ytjgghiniajmfjaa
open Go.RowKit
set_option linter.unusedVariables false
set_option linter.unusedSimpArgs false
def fitsB (a : ActR) : Bool := decide (1 ≤ a.f0 ∧ a.f0 ≤ 4) && nameB a.f1 && (decide (a.f0 = 1) || a.f2.toList.isEmpty) && (if a.f0 = 3 then nameB a.f3 && !(a.f3.toList == a.f1.toList) else a.f3.toList.isEmpty)
set_option maxHeartbeats 4000000 in
set_option maxRecDepth 100000 in
theorem actFits_any (a : ActR) (w : World) :
    Calls Try.prog 213 #[.agg #[.int .i64 a.f0, .string a.f1, .string a.f2, .string a.f3]] w fun e w' => e = .returned (.bool (fitsB a)) ∧ Fr w w' := by
  obtain ⟨k, nm, tx, to⟩ := a
  have hcase : ¬ (1 ≤ k ∧ k ≤ 4) ∨ k = 1 ∨ k = 2 ∨ k = 4 ∨ k = 3 := by omega
  rcases hcase with hk | rfl | rfl | rfl | rfl
  · have hk2 : k < 1 ∨ 4 < k := by omega
    have hb : Hid (fitsB ⟨k, nm, tx, to⟩ = false) := by show _ = _; unfold fitsB; simp only [decide_eq_false hk, Bool.false_and]
    clear hk
    rcases hk2 with hk | hk
    · go_enter Try.func213, Try.ntmps213
      go_wp2_with (go_at_call 178; refine (isFileName_any _ _).mono ?_; rintro e w1 ⟨rfl, rfl⟩)
      go_ret
      exact ⟨ret_bool hb.out.symm, by repeat (first | (with_reducible exact Fr.refl _) | (with_reducible assumption) | (with_reducible refine Fr.drewN ?_ _) | (with_reducible refine Fr.drew ?_) | (with_reducible refine Fr.alloc ?_ _) | (with_reducible refine Fr.setCell ?_ (by (first | (with_reducible assumption) | omega | (simp only [World.size_alloc, World.size_setCell, World.size_drew, World.heap_drewN]; omega) | (simp; done) | (simp; omega))) _) | (with_reducible refine Fr.trans ?_ (by with_reducible assumption)))⟩
    · have hk0 : ¬ k < 1 := by omega
      go_enter Try.func213, Try.ntmps213
      go_wp2_with (go_at_call 178; refine (isFileName_any _ _).mono ?_; rintro e w1 ⟨rfl, rfl⟩)
      go_ret
      exact ⟨ret_bool hb.out.symm, by repeat (first | (with_reducible exact Fr.refl _) | (with_reducible assumption) | (with_reducible refine Fr.drewN ?_ _) | (with_reducible refine Fr.drew ?_) | (with_reducible refine Fr.alloc ?_ _) | (with_reducible refine Fr.setCell ?_ (by (first | (with_reducible assumption) | omega | (simp only [World.size_alloc, World.size_setCell, World.size_drew, World.heap_drewN]; omega) | (simp; done) | (simp; omega))) _) | (with_reducible refine Fr.trans ?_ (by with_reducible assumption)))⟩
  · cases h3 : nameB nm
    · (go_enter Try.func213, Try.ntmps213; go_wp2_with (go_at_call 178; refine (isFileName_any _ _).mono ?_; rintro e w1 ⟨rfl, rfl⟩); all_goals go_ret; all_goals exact ⟨ret_bool (by unfold fitsB; simp [*]), by repeat (first | (with_reducible exact Fr.refl _) | (with_reducible assumption) | (with_reducible refine Fr.drewN ?_ _) | (with_reducible refine Fr.drew ?_) | (with_reducible refine Fr.alloc ?_ _) | (with_reducible refine Fr.setCell ?_ (by (first | (with_reducible assumption) | omega | (simp only [World.size_alloc, World.size_setCell, World.size_drew, World.heap_drewN]; omega) | (simp; done) | (simp; omega))) _) | (with_reducible refine Fr.trans ?_ (by with_reducible assumption)))⟩)
    · cases hto : to.toList.isEmpty <;> (go_enter Try.func213, Try.ntmps213; go_wp2_with (go_at_call 178; refine (isFileName_any _ _).mono ?_; rintro e w1 ⟨rfl, rfl⟩); all_goals go_ret; all_goals exact ⟨ret_bool (by unfold fitsB; simp [*]), by repeat (first | (with_reducible exact Fr.refl _) | (with_reducible assumption) | (with_reducible refine Fr.drewN ?_ _) | (with_reducible refine Fr.drew ?_) | (with_reducible refine Fr.alloc ?_ _) | (with_reducible refine Fr.setCell ?_ (by (first | (with_reducible assumption) | omega | (simp only [World.size_alloc, World.size_setCell, World.size_drew, World.heap_drewN]; omega) | (simp; done) | (simp; omega))) _) | (with_reducible refine Fr.trans ?_ (by with_reducible assumption)))⟩)
  · cases h3 : nameB nm
    · (go_enter Try.func213, Try.ntmps213; go_wp2_with (go_at_call 178; refine (isFileName_any _ _).mono ?_; rintro e w1 ⟨rfl, rfl⟩); all_goals go_ret; all_goals exact ⟨ret_bool (by unfold fitsB; simp [*]), by repeat (first | (with_reducible exact Fr.refl _) | (with_reducible assumption) | (with_reducible refine Fr.drewN ?_ _) | (with_reducible refine Fr.drew ?_) | (with_reducible refine Fr.alloc ?_ _) | (with_reducible refine Fr.setCell ?_ (by (first | (with_reducible assumption) | omega | (simp only [World.size_alloc, World.size_setCell, World.size_drew, World.heap_drewN]; omega) | (simp; done) | (simp; omega))) _) | (with_reducible refine Fr.trans ?_ (by with_reducible assumption)))⟩)
    · cases ht : tx.toList.isEmpty
      · (go_enter Try.func213, Try.ntmps213; go_wp2_with (go_at_call 178; refine (isFileName_any _ _).mono ?_; rintro e w1 ⟨rfl, rfl⟩); all_goals go_ret; all_goals exact ⟨ret_bool (by unfold fitsB; simp [*]), by repeat (first | (with_reducible exact Fr.refl _) | (with_reducible assumption) | (with_reducible refine Fr.drewN ?_ _) | (with_reducible refine Fr.drew ?_) | (with_reducible refine Fr.alloc ?_ _) | (with_reducible refine Fr.setCell ?_ (by (first | (with_reducible assumption) | omega | (simp only [World.size_alloc, World.size_setCell, World.size_drew, World.heap_drewN]; omega) | (simp; done) | (simp; omega))) _) | (with_reducible refine Fr.trans ?_ (by with_reducible assumption)))⟩)
      · cases hto : to.toList.isEmpty <;> (go_enter Try.func213, Try.ntmps213; go_wp2_with (go_at_call 178; refine (isFileName_any _ _).mono ?_; rintro e w1 ⟨rfl, rfl⟩); all_goals go_ret; all_goals exact ⟨ret_bool (by unfold fitsB; simp [*]), by repeat (first | (with_reducible exact Fr.refl _) | (with_reducible assumption) | (with_reducible refine Fr.drewN ?_ _) | (with_reducible refine Fr.drew ?_) | (with_reducible refine Fr.alloc ?_ _) | (with_reducible refine Fr.setCell ?_ (by (first | (with_reducible assumption) | omega | (simp only [World.size_alloc, World.size_setCell, World.size_drew, World.heap_drewN]; omega) | (simp; done) | (simp; omega))) _) | (with_reducible refine Fr.trans ?_ (by with_reducible assumption)))⟩)
  · cases h3 : nameB nm
    · (go_enter Try.func213, Try.ntmps213; go_wp2_with (go_at_call 178; refine (isFileName_any _ _).mono ?_; rintro e w1 ⟨rfl, rfl⟩); all_goals go_ret; all_goals exact ⟨ret_bool (by unfold fitsB; simp [*]), by repeat (first | (with_reducible exact Fr.refl _) | (with_reducible assumption) | (with_reducible refine Fr.drewN ?_ _) | (with_reducible refine Fr.drew ?_) | (with_reducible refine Fr.alloc ?_ _) | (with_reducible refine Fr.setCell ?_ (by (first | (with_reducible assumption) | omega | (simp only [World.size_alloc, World.size_setCell, World.size_drew, World.heap_drewN]; omega) | (simp; done) | (simp; omega))) _) | (with_reducible refine Fr.trans ?_ (by with_reducible assumption)))⟩)
    · cases ht : tx.toList.isEmpty
      · (go_enter Try.func213, Try.ntmps213; go_wp2_with (go_at_call 178; refine (isFileName_any _ _).mono ?_; rintro e w1 ⟨rfl, rfl⟩); all_goals go_ret; all_goals exact ⟨ret_bool (by unfold fitsB; simp [*]), by repeat (first | (with_reducible exact Fr.refl _) | (with_reducible assumption) | (with_reducible refine Fr.drewN ?_ _) | (with_reducible refine Fr.drew ?_) | (with_reducible refine Fr.alloc ?_ _) | (with_reducible refine Fr.setCell ?_ (by (first | (with_reducible assumption) | omega | (simp only [World.size_alloc, World.size_setCell, World.size_drew, World.heap_drewN]; omega) | (simp; done) | (simp; omega))) _) | (with_reducible refine Fr.trans ?_ (by with_reducible assumption)))⟩)
      · cases hto : to.toList.isEmpty <;> (go_enter Try.func213, Try.ntmps213; go_wp2_with (go_at_call 178; refine (isFileName_any _ _).mono ?_; rintro e w1 ⟨rfl, rfl⟩); all_goals go_ret; all_goals exact ⟨ret_bool (by unfold fitsB; simp [*]), by repeat (first | (with_reducible exact Fr.refl _) | (with_reducible assumption) | (with_reducible refine Fr.drewN ?_ _) | (with_reducible refine Fr.drew ?_) | (with_reducible refine Fr.alloc ?_ _) | (with_reducible refine Fr.setCell ?_ (by (first | (with_reducible assumption) | omega | (simp only [World.size_alloc, World.size_setCell, World.size_drew, World.heap_drewN]; omega) | (simp; done) | (simp; omega))) _) | (with_reducible refine Fr.trans ?_ (by with_reducible assumption)))⟩)
  · cases h3 : nameB nm
    · (go_enter Try.func213, Try.ntmps213; go_wp2_with (go_at_call 178; refine (isFileName_any _ _).mono ?_; rintro e w1 ⟨rfl, rfl⟩); all_goals go_ret; all_goals exact ⟨ret_bool (by unfold fitsB; simp [*]), by repeat (first | (with_reducible exact Fr.refl _) | (with_reducible assumption) | (with_reducible refine Fr.drewN ?_ _) | (with_reducible refine Fr.drew ?_) | (with_reducible refine Fr.alloc ?_ _) | (with_reducible refine Fr.setCell ?_ (by (first | (with_reducible assumption) | omega | (simp only [World.size_alloc, World.size_setCell, World.size_drew, World.heap_drewN]; omega) | (simp; done) | (simp; omega))) _) | (with_reducible refine Fr.trans ?_ (by with_reducible assumption)))⟩)
    · cases ht : tx.toList.isEmpty
      · (go_enter Try.func213, Try.ntmps213; go_wp2_with (go_at_call 178; refine (isFileName_any _ _).mono ?_; rintro e w1 ⟨rfl, rfl⟩); all_goals go_ret; all_goals exact ⟨ret_bool (by unfold fitsB; simp [*]), by repeat (first | (with_reducible exact Fr.refl _) | (with_reducible assumption) | (with_reducible refine Fr.drewN ?_ _) | (with_reducible refine Fr.drew ?_) | (with_reducible refine Fr.alloc ?_ _) | (with_reducible refine Fr.setCell ?_ (by (first | (with_reducible assumption) | omega | (simp only [World.size_alloc, World.size_setCell, World.size_drew, World.heap_drewN]; omega) | (simp; done) | (simp; omega))) _) | (with_reducible refine Fr.trans ?_ (by with_reducible assumption)))⟩)
      · cases h5 : nameB to
        · (go_enter Try.func213, Try.ntmps213; go_wp2_with (go_at_call 178; refine (isFileName_any _ _).mono ?_; rintro e w1 ⟨rfl, rfl⟩); all_goals go_ret; all_goals exact ⟨ret_bool (by unfold fitsB; simp [*]), by repeat (first | (with_reducible exact Fr.refl _) | (with_reducible assumption) | (with_reducible refine Fr.drewN ?_ _) | (with_reducible refine Fr.drew ?_) | (with_reducible refine Fr.alloc ?_ _) | (with_reducible refine Fr.setCell ?_ (by (first | (with_reducible assumption) | omega | (simp only [World.size_alloc, World.size_setCell, World.size_drew, World.heap_drewN]; omega) | (simp; done) | (simp; omega))) _) | (with_reducible refine Fr.trans ?_ (by with_reducible assumption)))⟩)
        · cases he : (to.toList == nm.toList) <;> (go_enter Try.func213, Try.ntmps213; go_wp2_with (go_at_call 178; refine (isFileName_any _ _).mono ?_; rintro e w1 ⟨rfl, rfl⟩); all_goals go_ret; all_goals exact ⟨ret_bool (by unfold fitsB; simp [*]), by repeat (first | (with_reducible exact Fr.refl _) | (with_reducible assumption) | (with_reducible refine Fr.drewN ?_ _) | (with_reducible refine Fr.drew ?_) | (with_reducible refine Fr.alloc ?_ _) | (with_reducible refine Fr.setCell ?_ (by (first | (with_reducible assumption) | omega | (simp only [World.size_alloc, World.size_setCell, World.size_drew, World.heap_drewN]; omega) | (simp; done) | (simp; omega))) _) | (with_reducible refine Fr.trans ?_ (by with_reducible assumption)))⟩)
end Go.Proofs.Ytjgghiniajmfjaa

/- Act2: Act, Act2 in one text. -/
namespace Go.Proofs.Ytjgghiniajmfjaa
open Go.RowKit
set_option linter.unusedVariables false
set_option linter.unusedSimpArgs false
/-! What an operation does to a disk, plain. No condition. -/
def actX (xs : List FileR) (a : ActR) : FileR := fileAt xs (fIx xs a.f1).toNat
def addF (xs : List FileR) (a : ActR) : FileR := if fIx xs a.f1 < 0 then ⟨a.f1, ⟨#[]⟩ ++ a.f2, 0⟩ else ⟨(actX xs a).f0, (actX xs a).f1 ++ a.f2, (actX xs a).f2⟩
def outA (xs : List FileR) (a : ActR) : Option (List FileR) :=
  if a.f0 = 1 then some (putF xs (addF xs a))
  else if fIx xs a.f1 < 0 then none
  else if a.f0 = 2 then some (putF xs ⟨(actX xs a).f0, (actX xs a).f1, (actX xs a).f1.size⟩)
  else if a.f0 = 3 then (if (actX xs a).f2 = (actX xs a).f1.size then some (putF (woF xs a.f1) ⟨a.f3, (actX xs a).f1, (actX xs a).f2⟩) else none)
  else some (woF xs a.f1)
def doB (xs : List FileR) (a : ActR) : Bool := diskB xs && fitsB a && (match outA xs a with | some ys => diskB ys | none => false)
def doL (xs : List FileR) (a : ActR) : List FileR := if doB xs a then (outA xs a).getD [] else []
theorem doL_no {xs : List FileR} {a : ActR} (h : doB xs a = false) : doL xs a = [] := by unfold doL; rw [h]; rfl
theorem doB_disk {xs : List FileR} {a : ActR} (h : diskB xs = false) : doB xs a = false := by unfold doB; rw [h]; rfl
theorem doB_fits {xs : List FileR} {a : ActR} (h : fitsB a = false) : doB xs a = false := by unfold doB; rw [h]; simp
theorem doB_none {xs : List FileR} {a : ActR} (h : outA xs a = none) : doB xs a = false := by unfold doB; rw [h]; simp
theorem doB_some {xs ys : List FileR} {a : ActR} (h1 : diskB xs = true) (h2 : fitsB a = true) (h3 : outA xs a = some ys) : doB xs a = diskB ys := by unfold doB; rw [h1, h2, h3]; rfl
theorem doL_some {xs ys : List FileR} {a : ActR} (h1 : diskB xs = true) (h2 : fitsB a = true) (h3 : outA xs a = some ys) (h4 : diskB ys = true) : doL xs a = ys := by
  unfold doL; rw [doB_some h1 h2 h3, h4, h3]; rfl
theorem doL_length {xs : List FileR} {a : ActR} : (doL xs a).length ≤ 30 := by
  cases h : doB xs a
  · rw [doL_no h]; simp
  · have h0 := h
    unfold doB at h
    rw [Bool.and_eq_true, Bool.and_eq_true] at h
    unfold doL
    rw [h0]
    cases h2 : outA xs a with
    | none => simp
    | some ys =>
      rw [h2] at h
      exact diskB_len h.2
theorem empty_of {s : ByteArray} (h : s.toList.isEmpty = true) : s = ⟨#[]⟩ := by
  rw [empty_iff, decide_eq_true_eq] at h
  apply WideShapes.bytes_inj
  have : s.data.toList.length = 0 := by rw [Array.length_toList]; exact h
  rw [List.eq_nil_of_length_eq_zero this]
/-- Where the files of a slice lie. -/
def FilesAt (w : World) (xs : List FileR) (a0 : Option Addr) (b0 o0 : Nat) : Prop := 0 < xs.length → a0 = some ⟨b0, o0, none⟩ ∧ b0 < w.heap.size ∧ ∀ k, k < xs.length → w.cell? ⟨b0, o0 + k * 3, none⟩ = some (.string (fileAt xs k).f0) ∧ w.cell? ⟨b0, o0 + k * 3 + 1, none⟩ = some (.string (fileAt xs k).f1) ∧ w.cell? ⟨b0, o0 + k * 3 + 2, none⟩ = some (.int .i64 (fileAt xs k).f2)
def SDA (xs : List FileR) (k : Int) (nm tx to : ByteArray) (a0 : Option Addr) (c0 : Nat) (w : World) : Prop := Calls Try.prog 109 #[.agg #[.slice a0 xs.length c0], .agg #[.int .i64 k, .string nm, .string tx, .string to]] w fun e w' => ∃ ao cap, e = .returned (.tuple #[.agg #[.slice ao (doL xs ⟨k, nm, tx, to⟩).length cap], .bool (doB xs ⟨k, nm, tx, to⟩)]) ∧ FilesW w' w.heap.size w'.heap.size (.slice ao (doL xs ⟨k, nm, tx, to⟩).length cap) (doL xs ⟨k, nm, tx, to⟩) ∧ Fr w w'
/-! What the program's DoAct does to a disk is what the reference's does: plain lemmas. No condition. -/
theorem first_of {p : Nat → Prop} [DecidablePred p] : ∀ n, (∃ j, j < n ∧ p j) → ∃ j, j < n ∧ p j ∧ ∀ i, i < j → ¬ p i
  | 0, ⟨j, hj, _⟩ => absurd hj (by omega)
  | n + 1, ⟨j, hj, hp⟩ => by
    by_cases h : ∃ i, i < n ∧ p i
    · obtain ⟨i, h1, h2, h3⟩ := first_of n h
      exact ⟨i, by omega, h2, h3⟩
    · have hjn : j = n := by
        rcases Nat.lt_succ_iff_lt_or_eq.1 hj with h1 | h1
        · exact absurd ⟨j, h1, hp⟩ h
        · exact h1
      subst hjn
      exact ⟨j, hj, hp, fun i hi hpi => h ⟨i, hi, hpi⟩⟩
theorem fIx_name {xs : List FileR} {s : ByteArray} {k : Nat} (h : fIx xs s = (k : Int)) : k < xs.length ∧ (fileAt xs k).f0 = s := by
  by_cases hex : ∃ j, j < xs.length ∧ (fileAt xs j).f0 = s
  · obtain ⟨j, h1, h2, h3⟩ := first_of (p := fun j => (fileAt xs j).f0 = s) xs.length hex
    have := fIx_hit h1 h2 h3
    rw [h] at this
    obtain rfl : k = j := by omega
    exact ⟨h1, h2⟩
  · have := fIx_miss (xs := xs) (s := s) (fun j hj he => hex ⟨j, hj, he⟩)
    rw [h] at this
    omega
theorem sorted_of {xs : List FileR} (h : diskB xs = true) : Sorted xs := by
  refine List.pairwise_iff_getElem.2 fun i j hi hj hij => ?_
  induction j with
  | zero => omega
  | succ j ih =>
    have hk := diskB_fileB h hj
    unfold fileK at hk
    rw [Bool.and_eq_true, Bool.or_eq_true, decide_eq_true_eq] at hk
    have h1 : lessB (fileAt xs j).f0 (fileAt xs (j + 1)).f0 = true := by rcases hk.2 with h | h; omega; exact h
    rw [fileAt_get (by omega), fileAt_get hj] at h1
    rcases Nat.lt_succ_iff_lt_or_eq.1 hij with h2 | h2
    · exact bless_trans (ih (by omega) h2) h1
    · subst h2; exact h1
theorem less_before {xs : List FileR} (hs : Sorted xs) {k : Nat} (hk : k < xs.length) : ∀ j, j < k → lessB (fileAt xs j).f0 (fileAt xs k).f0 = true := by
  intro j hj
  rw [fileAt_get (by omega), fileAt_get hk]
  exact (List.pairwise_iff_getElem.1 hs) j k (by omega) hk hj
theorem erase_wo {xs : List FileR} (hs : Sorted xs) {k : Nat} (hk : k < xs.length) {nm : ByteArray} (h : (fileAt xs k).f0 = nm) : xs.eraseIdx k = woF xs nm := by
  have ne_of : ∀ {a b : ByteArray}, lessB a b = true → (a.toList == b.toList) = false := by
    intro a b h1
    rw [beq_eq_false_iff_ne]
    intro e
    unfold lessB at h1
    rw [e, bless_irr] at h1
    cases h1
  have e : xs = xs.take k ++ (xs[k] :: xs.drop (k + 1)) := by rw [List.getElem_cons_drop, List.take_append_drop]
  rw [fileAt_get hk] at h
  rw [List.eraseIdx_eq_take_drop_succ]
  unfold woF
  conv => rhs; rw [e]
  rw [List.filter_append, List.filter_cons]
  have hx : neF nm xs[k] = false := by unfold neF; rw [h]; simp
  rw [hx]
  simp only [Bool.false_eq_true, if_false]
  congr 1
  · symm
    refine List.filter_eq_self.2 fun x hx => ?_
    obtain ⟨j, hj, rfl⟩ := List.mem_iff_getElem.1 hx
    rw [List.length_take] at hj
    rw [List.getElem_take]
    unfold neF
    rw [← h, ne_of ((List.pairwise_iff_getElem.1 hs) j k (by omega) hk (by omega))]
    rfl
  · symm
    refine List.filter_eq_self.2 fun x hx => ?_
    obtain ⟨j, hj, rfl⟩ := List.mem_iff_getElem.1 hx
    rw [List.length_drop] at hj
    rw [List.getElem_drop]
    unfold neF
    have h1 := ne_of ((List.pairwise_iff_getElem.1 hs) k (k + 1 + j) hk (by omega) (by omega))
    rw [h, beq_eq_false_iff_ne] at h1
    rw [show (xs[k + 1 + j].f0.toList == nm.toList) = false from by rw [beq_eq_false_iff_ne]; exact fun e => h1 e.symm]
    rfl
theorem sorted_erase {xs : List FileR} (hs : Sorted xs) (k : Nat) : Sorted (xs.eraseIdx k) := List.Pairwise.sublist (List.eraseIdx_sublist ..) hs
theorem keep_cells {xs : List FileR} {j : Nat} {x : FileR} {v : Int} (hj : j < xs.length) (hx : fileAt xs j = x) : (xs.set j ⟨x.f0, x.f1, v⟩).flatMap FileR.cells = (xs.flatMap FileR.cells).set (j * 3 + 2) (.int .i64 v) := by
  have hl := file_len xs
  have at_ : ∀ i, i < 3 → ∀ u, x.cells.getD i default = u → (xs.flatMap FileR.cells).set (j * 3 + i) u = xs.flatMap FileR.cells := by
    intro i hi u hu
    have h := file_flat xs j i hj hi default
    rw [hx, hu] at h
    have hlt : j * 3 + i < (xs.flatMap FileR.cells).length := by omega
    simp only [List.getD, List.getElem?_eq_getElem hlt, Option.getD_some] at h
    rw [← h]
    exact List.set_getElem_self hlt
  rw [set_cells xs j _ hj]
  have h0 := at_ 0 (by omega) (.string x.f0) rfl
  rw [Nat.add_zero] at h0
  rw [h0, at_ 1 (by omega) (.string x.f1) rfl]
def IDA (xs : List FileR) (k : Int) (nm tx to : ByteArray) (a0 : Option Addr) (c0 : Nat) (w : World) : Prop := Calls Try.prog 173 #[.agg #[.slice a0 xs.length c0], .agg #[.int .i64 k, .string nm, .string tx, .string to]] w fun e w' => ∃ ao cap, e = .returned (.tuple #[.agg #[.slice ao (doL xs ⟨k, nm, tx, to⟩).length cap], .bool (doB xs ⟨k, nm, tx, to⟩)]) ∧ FilesW w' w.heap.size w'.heap.size (.slice ao (doL xs ⟨k, nm, tx, to⟩).length cap) (doL xs ⟨k, nm, tx, to⟩) ∧ Fr w w'
end Go.Proofs.Ytjgghiniajmfjaa
