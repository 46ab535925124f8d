/- Marks of slices of Act; their interface. (Printed by mk_types.py.) No condition but the sizes that the reading gives. -/
import Derived.Test.YtphjlecbhbcbcaaSAct
import Derived.Test.YtphjlecbhbcbcaaApp
namespace Go.Proofs.Ytphjlecbhbcbcaa
open Go.RowKit
set_option linter.unusedVariables false
set_option linter.unusedSimpArgs false

def mkAct (k : Int) : ActR := ⟨k, mTextI (k + 1), mTextI (k + 1 + 1), mTextI (k + 1 + 1 + 1)⟩
def mkActs (k : Int) (n : Nat) : List ActR := (List.range n).map fun i : Nat => mkAct (k + 4 * i)
theorem mkActs_length (k : Int) (n : Nat) : (mkActs k n).length = n := by simp [mkActs]
theorem mkActs_at (k : Int) (n j : Nat) (h : j < n) : actAt (mkActs k n) j = mkAct (k + 4 * j) := by simp [mkActs, actAt, List.getD, h]
theorem act_oneCells (xs : List ActR) : ∀ u ∈ xs.flatMap ActR.cells, u.oneCell' = true := by
  intro u hu
  obtain ⟨x, _, h⟩ := List.mem_flatMap.1 hu
  simp only [ActR.cells, List.mem_cons, List.not_mem_nil, or_false] at h
  rcases h with rfl | rfl | rfl | rfl <;> rfl
def ActsW (w : World) (lo hi : Nat) (v : Value) (xs : List ActR) : Prop := OwW w lo hi 119 4 v xs.length (xs.flatMap ActR.cells)
theorem ActsW.rd {w : World} {lo hi : Nat} {v : Value} {xs : List ActR} (h : ActsW w lo hi v xs) : ActsR w v xs := OwW.rd h
theorem ActsW.val {w : World} {lo hi : Nat} {v : Value} {xs : List ActR} (h : ActsW w lo hi v xs) : ∃ ao cap, v = .slice ao xs.length cap := OwW.val h
theorem ActsW.fr {w w' : World} {lo hi : Nat} {v : Value} {xs : List ActR} (h : ActsW w lo hi v xs) (hf : Fr w w') : ActsW w' lo hi v xs := OwW.fr h hf
theorem ActsW.span {w w' : World} {lo hi : Nat} {v : Value} {xs : List ActR} (h : ActsW w lo hi v xs) {a b : Nat} (s : Span a b w w') (hd : hi ≤ a ∨ b ≤ lo) : ActsW w' lo hi v xs := OwW.span h s hd
theorem ActsW.nil (w : World) (lo hi : Nat) : ActsW w lo hi (.slice none 0 0) [] := OwW.nil _ _ _ _ _
theorem act_part (new old : List ActR) (m : Nat) (hm : m < old.length) (hl : new.length = old.length) : (((((partR new old ActR.cells m).set (m * 4) (Value.int .i64 (actAt new m).f0)).set (m * 4 + 1) (Value.string (actAt new m).f1)).set (m * 4 + 2) (Value.string (actAt new m).f2)).set (m * 4 + 3) (Value.string (actAt new m).f3)) = partR new old ActR.cells (m + 1) := by
  rw [partR_split new old ActR.cells m hm]
  have ha : ((new.take m).flatMap ActR.cells).length = m * 4 := flat_len new ActR.cells 4 ActR.cells_length m (by omega)
  rw [set_mid _ _ _ 0 _ (by rw [ha]; rfl) (by rw [ActR.cells_length]; omega)]
  rw [set_mid _ _ _ 1 _ (by rw [ha]) (by simp only [List.length_set]; rw [ActR.cells_length]; omega)]
  rw [set_mid _ _ _ 2 _ (by rw [ha]) (by simp only [List.length_set]; rw [ActR.cells_length]; omega)]
  rw [set_mid _ _ _ 3 _ (by rw [ha]) (by simp only [List.length_set]; rw [ActR.cells_length]; omega)]
  rw [partR_next new old ActR.cells m (by omega)]
  rfl
set_option maxHeartbeats 1000000 in
set_option maxRecDepth 100000 in
theorem markActS_any (g n cap : Nat) (xs : List ActR) (k : Int) (lo : Nat) (w : World) (ha : w.ownsRow lo 119 4 (.slice (some ⟨g, 0, none⟩) n cap) n (xs.flatMap ActR.cells)) (hn : xs.length = n) (h0 : 0 < k) (h1 : k + 4 * n ≤ 1073741824) :
    Calls Try.prog 35 #[.slice (some ⟨g, 0, none⟩) n cap, .int .i64 k] w fun e w' => e = .returned (.int .i64 (k + 4 * n)) ∧ w'.ownsRow lo 119 4 (.slice (some ⟨g, 0, none⟩) n cap) n ((mkActs k n).flatMap ActR.cells) ∧ w.grownBy w' (some g) := by
  have hg0 : g < w.heap.size := (ha.lt g rfl).2
  go_enter Try.func35, Try.ntmps35
  go_wp2
  go_loopw [1, 5] (fun l i wr => ∃ m : Nat, m ≤ n ∧ i = .int .i64 m ∧ l = .int .i64 (k + 4 * m) ∧ wr.ownsRow lo 119 4 (.slice (some ⟨g, 0, none⟩) n cap) n (partR (mkActs k n) xs ActR.cells m) ∧ w.grownBy wr (some g)) (fun _ i _ => n - (intOf i).toNat)
  case atStart => exact ⟨0, Nat.zero_le _, rfl, by simp, by rw [partR_zero]; exact ha, World.grownBy.refl _ _⟩
  case round =>
    clear ha
    obtain ⟨m, hm, rfl, rfl, ho, hfr⟩ := hrel
    by_cases hlt : m < n
    · have hp := act_part (mkActs k n) xs m (by omega) (by rw [mkActs_length, hn])
      rw [mkActs_at k n m hlt] at hp
      have HP := Lib.hid hp
      clear hp
      have f0 := ho.frozenAt (m * 4); obtain ⟨u0, c0⟩ := owns_cell ho (m * 4) (by omega); have s0 := ho.stored (m * 4) (.int .i64 (k + 4 * m))
      go_wp2_with fail
      refine (markText_int (k + 4 * m + 1) _ (by omega) (by omega)).mono ?_
      rintro e w1 ⟨rfl, hf1⟩
      have o1 := owns_fr s0.1 hf1
      have f1 := o1.frozenAt (m * 4 + 1); obtain ⟨u1, c1⟩ := owns_cell o1 (m * 4 + 1) (by omega); have s1 := o1.stored (m * 4 + 1) (.string (mTextI (k + 4 * m + 1)))
      go_wp2_with fail
      refine (markText_int (k + 4 * m + 1 + 1) _ (by omega) (by omega)).mono ?_
      rintro e w2 ⟨rfl, hf2⟩
      have o2 := owns_fr s1.1 hf2
      have f2 := o2.frozenAt (m * 4 + 2); obtain ⟨u2, c2⟩ := owns_cell o2 (m * 4 + 2) (by omega); have s2 := o2.stored (m * 4 + 2) (.string (mTextI (k + 4 * m + 1 + 1)))
      go_wp2_with fail
      refine (markText_int (k + 4 * m + 1 + 1 + 1) _ (by omega) (by omega)).mono ?_
      rintro e w3 ⟨rfl, hf3⟩
      have o3 := owns_fr s2.1 hf3
      have f3 := o3.frozenAt (m * 4 + 3); obtain ⟨u3, c3⟩ := owns_cell o3 (m * 4 + 3) (by omega); have s3 := o3.stored (m * 4 + 3) (.string (mTextI (k + 4 * m + 1 + 1 + 1)))
      go_wp2_with fail
      go_roundw
      case rel => exact ⟨m + 1, by omega, by go_num, by go_num, HP.out ▸ s3.1, gr_trans (gr_trans (gr_trans (gr_trans (gr_trans (gr_trans (gr_trans hfr (s0.2)) (hf1.gr _)) (s1.2)) (hf2.gr _)) (s2.2)) (hf3.gr _)) (s3.2)⟩
      case measure => (simp [intOf]; omega)
    · obtain rfl : m = n := by omega
      rw [partR_all _ _ _ m (by rw [mkActs_length]) hn] at ho
      go_wp2
      go_ret
      exact ⟨rfl, ho, hfr⟩
theorem markActS_w (v : Value) (xs : List ActR) (k : Int) (lo hi : Nat) (w : World) (ha : ActsW w lo hi v xs) (h0 : 0 < k) (h1 : k + 4 * xs.length ≤ 1073741824) :
    Calls Try.prog 35 #[v, .int .i64 k] w fun e w' => e = .returned (.int .i64 (k + 4 * xs.length)) ∧ ActsW w' lo hi v (mkActs k xs.length) ∧ Span lo hi w w' := by
  rcases owns_shape ha.1 with ⟨rfl, hn, hx⟩ | ⟨g, cap, rfl, _⟩
  · have h3 : xs = [] := List.eq_nil_of_length_eq_zero hn
    subst h3
    clear ha hn hx
    go_enter Try.func35, Try.ntmps35
    go_wp2
    go_loopw [1, 5] (fun l i wr => i = .int .i64 0 ∧ l = .int .i64 k ∧ wr = w) (fun _ i _ => 0)
    case atStart => exact ⟨rfl, rfl, rfl⟩
    case round =>
      obtain ⟨rfl, rfl, rfl⟩ := hrel
      go_wp2
      go_ret
      exact ⟨by simp, by simpa [ActsW, mkActs] using OwW.nil _ _ _ _ _, Span.refl _ _ _⟩
  · refine (markActS_any g xs.length cap xs k lo w ha.1 rfl h0 h1).mono fun e w' h => ⟨h.1, ⟨?_, ha.2⟩, Span.of_gr h.2.2 ha.2⟩
    rw [mkActs_length]
    exact h.2.1
set_option maxHeartbeats 1000000 in
set_option maxRecDepth 100000 in
theorem heldActS_any (a : Value) (k : Int) (n : Nat) (w : World) (ha : ActsR w a (mkActs k n)) (h0 : 0 < k) (h1 : k + 4 * n ≤ 1073741824) :
    Calls Try.prog 36 #[a, .int .i64 k] w fun e w' => e = .returned (.int .i64 (k + 4 * n)) ∧ Fr w w' := by
  obtain ⟨ao, ba, oa, ca, rfl, hca, hma, fa⟩ := ha.one
  clear ha
  rw [mkActs_length] at hca fa ⊢
  go_enter Try.func36, Try.ntmps36
  go_wp2
  go_loopw [1, 5] (fun l i wr => ∃ m : Nat, m ≤ n ∧ i = .int .i64 m ∧ l = .int .i64 (k + 4 * m) ∧ Fr w wr) (fun _ i _ => n - (intOf i).toNat)
  case atStart => exact ⟨0, Nat.zero_le _, rfl, by simp, Fr.refl _⟩
  case round =>
    obtain ⟨m, hm, rfl, rfl, hfr⟩ := hrel
    by_cases hlt : m < n
    · obtain ⟨rfl, hba, fa⟩ := fa (by omega)
      have c0 : ∀ w', Fr wr w' → w'.cell? ⟨ba, oa + m * 4, none⟩ = some (.int .i64 (k + 4 * m)) := fun w' hf => ((hfr.trans hf).cell (p := ⟨ba, _, none⟩) hba).trans ((fa m hlt).1.trans (by rw [mkActs_at k n m hlt]; rfl))
      have c1 : ∀ w', Fr wr w' → w'.cell? ⟨ba, oa + m * 4 + 1, none⟩ = some (.string (mTextI (k + 4 * m + 1))) := fun w' hf => ((hfr.trans hf).cell (p := ⟨ba, _, none⟩) hba).trans ((fa m hlt).2.1.trans (by rw [mkActs_at k n m hlt]; rfl))
      have c2 : ∀ w', Fr wr w' → w'.cell? ⟨ba, oa + m * 4 + 2, none⟩ = some (.string (mTextI (k + 4 * m + 1 + 1))) := fun w' hf => ((hfr.trans hf).cell (p := ⟨ba, _, none⟩) hba).trans ((fa m hlt).2.2.1.trans (by rw [mkActs_at k n m hlt]; rfl))
      have c3 : ∀ w', Fr wr w' → w'.cell? ⟨ba, oa + m * 4 + 3, none⟩ = some (.string (mTextI (k + 4 * m + 1 + 1 + 1))) := fun w' hf => ((hfr.trans hf).cell (p := ⟨ba, _, none⟩) hba).trans ((fa m hlt).2.2.2.trans (by rw [mkActs_at k n m hlt]; rfl))
      clear fa
      have d0 := c0 wr (by repeat (first | (with_reducible exact Fr.refl _) | (with_reducible assumption) | (with_reducible refine Fr.drewN ?_ _) | (with_reducible refine Fr.drew ?_) | (with_reducible refine Fr.alloc ?_ _) | (with_reducible refine Fr.setCell ?_ (by (first | (with_reducible assumption) | omega | (simp only [World.size_alloc, World.size_setCell, World.size_drew, World.heap_drewN]; omega) | (simp; done) | (simp; omega))) _) | (with_reducible refine Fr.trans ?_ (by with_reducible assumption))))
      go_wp2_with fail
      try go_quiet (fail)
      try go_wp2_with fail
      go_wp2_with fail
      have e1 : ∀ w', Fr wr w' → w'.cell? ⟨ba, oa + m * 4 + 1, none⟩ = some (.string (mTextI (k + 4 * m + 1))) := fun w' hf => c1 w' (by repeat (first | (with_reducible exact Fr.refl _) | (with_reducible assumption) | (with_reducible refine Fr.drewN ?_ _) | (with_reducible refine Fr.drew ?_) | (with_reducible refine Fr.alloc ?_ _) | (with_reducible refine Fr.setCell ?_ (by (first | (with_reducible assumption) | omega | (simp only [World.size_alloc, World.size_setCell, World.size_drew, World.heap_drewN]; omega) | (simp; done) | (simp; omega))) _) | (with_reducible refine Fr.trans ?_ (by with_reducible assumption))))
      go_region_held3 (fun w' => Fr wr w') (repeat (first | (with_reducible exact Fr.refl _) | (with_reducible assumption) | (with_reducible refine Fr.drewN ?_ _) | (with_reducible refine Fr.drew ?_) | (with_reducible refine Fr.alloc ?_ _) | (with_reducible refine Fr.setCell ?_ (by (first | (with_reducible assumption) | omega | (simp only [World.size_alloc, World.size_setCell, World.size_drew, World.heap_drewN]; omega) | (simp; done) | (simp; omega))) _) | (with_reducible refine Fr.trans ?_ (by with_reducible assumption)))) (first | (go_at_call 97; refine (markText_int (k + 4 * m + 1) _ (by omega) (by omega)).mono ?_; rintro e w1 ⟨rfl, hf1⟩))
      clear e1
      go_wp2_with fail
      have e2 : ∀ w', Fr w1 w' → w'.cell? ⟨ba, oa + m * 4 + 2, none⟩ = some (.string (mTextI (k + 4 * m + 1 + 1))) := fun w' hf => c2 w' (by repeat (first | (with_reducible exact Fr.refl _) | (with_reducible assumption) | (with_reducible refine Fr.drewN ?_ _) | (with_reducible refine Fr.drew ?_) | (with_reducible refine Fr.alloc ?_ _) | (with_reducible refine Fr.setCell ?_ (by (first | (with_reducible assumption) | omega | (simp only [World.size_alloc, World.size_setCell, World.size_drew, World.heap_drewN]; omega) | (simp; done) | (simp; omega))) _) | (with_reducible refine Fr.trans ?_ (by with_reducible assumption))))
      go_region_held3 (fun w' => Fr w1 w') (repeat (first | (with_reducible exact Fr.refl _) | (with_reducible assumption) | (with_reducible refine Fr.drewN ?_ _) | (with_reducible refine Fr.drew ?_) | (with_reducible refine Fr.alloc ?_ _) | (with_reducible refine Fr.setCell ?_ (by (first | (with_reducible assumption) | omega | (simp only [World.size_alloc, World.size_setCell, World.size_drew, World.heap_drewN]; omega) | (simp; done) | (simp; omega))) _) | (with_reducible refine Fr.trans ?_ (by with_reducible assumption)))) (first | (go_at_call 97; refine (markText_int (k + 4 * m + 1 + 1) _ (by omega) (by omega)).mono ?_; rintro e w2 ⟨rfl, hf2⟩))
      clear e2
      go_wp2_with fail
      have e3 : ∀ w', Fr w2 w' → w'.cell? ⟨ba, oa + m * 4 + 3, none⟩ = some (.string (mTextI (k + 4 * m + 1 + 1 + 1))) := fun w' hf => c3 w' (by repeat (first | (with_reducible exact Fr.refl _) | (with_reducible assumption) | (with_reducible refine Fr.drewN ?_ _) | (with_reducible refine Fr.drew ?_) | (with_reducible refine Fr.alloc ?_ _) | (with_reducible refine Fr.setCell ?_ (by (first | (with_reducible assumption) | omega | (simp only [World.size_alloc, World.size_setCell, World.size_drew, World.heap_drewN]; omega) | (simp; done) | (simp; omega))) _) | (with_reducible refine Fr.trans ?_ (by with_reducible assumption))))
      go_region_held3 (fun w' => Fr w2 w') (repeat (first | (with_reducible exact Fr.refl _) | (with_reducible assumption) | (with_reducible refine Fr.drewN ?_ _) | (with_reducible refine Fr.drew ?_) | (with_reducible refine Fr.alloc ?_ _) | (with_reducible refine Fr.setCell ?_ (by (first | (with_reducible assumption) | omega | (simp only [World.size_alloc, World.size_setCell, World.size_drew, World.heap_drewN]; omega) | (simp; done) | (simp; omega))) _) | (with_reducible refine Fr.trans ?_ (by with_reducible assumption)))) (first | (go_at_call 97; refine (markText_int (k + 4 * m + 1 + 1 + 1) _ (by omega) (by omega)).mono ?_; rintro e w3 ⟨rfl, hf3⟩))
      clear e3
      try go_wp2_with fail
      go_roundw
      case rel => exact ⟨m + 1, by omega, by go_num, by go_num, by repeat (first | (with_reducible exact Fr.refl _) | (with_reducible assumption) | (with_reducible refine Fr.drewN ?_ _) | (with_reducible refine Fr.drew ?_) | (with_reducible refine Fr.alloc ?_ _) | (with_reducible refine Fr.setCell ?_ (by (first | (with_reducible assumption) | omega | (simp only [World.size_alloc, World.size_setCell, World.size_drew, World.heap_drewN]; omega) | (simp; done) | (simp; omega))) _) | (with_reducible refine Fr.trans ?_ (by with_reducible assumption)))⟩
      case measure => (simp [intOf]; omega)
    · clear fa
      obtain rfl : m = n := by omega
      go_wp2
      go_ret
      exact ⟨rfl, hfr⟩
theorem heldActS_w (a : Value) (k : Int) (n : Nat) (w : World) (ha : ActsR w a (mkActs k n)) (h0 : 0 < k) (h1 : k + 4 * n ≤ 1073741824) :
    Calls Try.prog 36 #[a, .int .i64 k] w fun e w' => e = .returned (.int .i64 (k + 4 * n)) ∧ Fr w w' := heldActS_any a k n w ha h0 h1
end Go.Proofs.Ytphjlecbhbcbcaa
