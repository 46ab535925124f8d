/- Marks of slices of Walk; their interface. (Printed by mk_types.py.) No condition but the sizes that the reading gives. -/
import Derived.Test.YtphjlecbhbcbcaaSWalk
import Derived.Test.YtphjlecbhbcbcaaApp
namespace Go.Proofs.Ytphjlecbhbcbcaa
open Go.RowKit
set_option linter.unusedVariables false
set_option linter.unusedSimpArgs false

def mkWalk (k : Int) : WalkR := ⟨k, (k + 1), (k + 1 + 1), (k + 1 + 1 + 1)⟩
def mkWalks (k : Int) (n : Nat) : List WalkR := (List.range n).map fun i : Nat => mkWalk (k + 4 * i)
theorem mkWalks_length (k : Int) (n : Nat) : (mkWalks k n).length = n := by simp [mkWalks]
theorem mkWalks_at (k : Int) (n j : Nat) (h : j < n) : walkAt (mkWalks k n) j = mkWalk (k + 4 * j) := by simp [mkWalks, walkAt, List.getD, h]
theorem walk_oneCells (xs : List WalkR) : ∀ u ∈ xs.flatMap WalkR.cells, u.oneCell' = true := by
  intro u hu
  obtain ⟨x, _, h⟩ := List.mem_flatMap.1 hu
  simp only [WalkR.cells, List.mem_cons, List.not_mem_nil, or_false] at h
  rcases h with rfl | rfl | rfl | rfl <;> rfl
def WalksW (w : World) (lo hi : Nat) (v : Value) (xs : List WalkR) : Prop := OwW w lo hi 97 4 v xs.length (xs.flatMap WalkR.cells)
theorem WalksW.rd {w : World} {lo hi : Nat} {v : Value} {xs : List WalkR} (h : WalksW w lo hi v xs) : WalksR w v xs := OwW.rd h
theorem WalksW.val {w : World} {lo hi : Nat} {v : Value} {xs : List WalkR} (h : WalksW w lo hi v xs) : ∃ ao cap, v = .slice ao xs.length cap := OwW.val h
theorem WalksW.fr {w w' : World} {lo hi : Nat} {v : Value} {xs : List WalkR} (h : WalksW w lo hi v xs) (hf : Fr w w') : WalksW w' lo hi v xs := OwW.fr h hf
theorem WalksW.span {w w' : World} {lo hi : Nat} {v : Value} {xs : List WalkR} (h : WalksW w lo hi v xs) {a b : Nat} (s : Span a b w w') (hd : hi ≤ a ∨ b ≤ lo) : WalksW w' lo hi v xs := OwW.span h s hd
theorem WalksW.nil (w : World) (lo hi : Nat) : WalksW w lo hi (.slice none 0 0) [] := OwW.nil _ _ _ _ _
theorem toWalkS_w (a : Value) (xs : List WalkR) (w : World) (ha : WalksR w a xs) (hn : xs.length ≤ 1048576) :
    Calls Try.prog 16 #[a] w fun e w' => ∃ ao cap, e = .returned (.slice ao xs.length cap) ∧ WalksW w' w.heap.size w'.heap.size (.slice ao xs.length cap) xs ∧ Fr w w' :=
  (toWalkS_any a xs w ha hn).mono fun e w' h => by
    obtain ⟨v, rfl, ho, hf⟩ := h
    obtain ⟨ao, cap, rfl⟩ := ho.val
    exact ⟨ao, cap, rfl, OwW.of_owns ho, hf⟩
theorem walk_part (new old : List WalkR) (m : Nat) (hm : m < old.length) (hl : new.length = old.length) : (((((partR new old WalkR.cells m).set (m * 4) (Value.int .i64 (walkAt new m).f0)).set (m * 4 + 1) (Value.int .i64 (walkAt new m).f1)).set (m * 4 + 2) (Value.int .i64 (walkAt new m).f2)).set (m * 4 + 3) (Value.int .i64 (walkAt new m).f3)) = partR new old WalkR.cells (m + 1) := by
  rw [partR_split new old WalkR.cells m hm]
  have ha : ((new.take m).flatMap WalkR.cells).length = m * 4 := flat_len new WalkR.cells 4 WalkR.cells_length m (by omega)
  rw [set_mid _ _ _ 0 _ (by rw [ha]; rfl) (by rw [WalkR.cells_length]; omega)]
  rw [set_mid _ _ _ 1 _ (by rw [ha]) (by simp only [List.length_set]; rw [WalkR.cells_length]; omega)]
  rw [set_mid _ _ _ 2 _ (by rw [ha]) (by simp only [List.length_set]; rw [WalkR.cells_length]; omega)]
  rw [set_mid _ _ _ 3 _ (by rw [ha]) (by simp only [List.length_set]; rw [WalkR.cells_length]; omega)]
  rw [partR_next new old WalkR.cells m (by omega)]
  rfl
set_option maxHeartbeats 1000000 in
set_option maxRecDepth 100000 in
theorem markWalkS_any (g n cap : Nat) (xs : List WalkR) (k : Int) (lo : Nat) (w : World) (ha : w.ownsRow lo 97 4 (.slice (some ⟨g, 0, none⟩) n cap) n (xs.flatMap WalkR.cells)) (hn : xs.length = n) (h0 : 0 < k) (h1 : k + 4 * n ≤ 1073741824) :
    Calls Try.prog 20 #[.slice (some ⟨g, 0, none⟩) n cap, .int .i64 k] w fun e w' => e = .returned (.int .i64 (k + 4 * n)) ∧ w'.ownsRow lo 97 4 (.slice (some ⟨g, 0, none⟩) n cap) n ((mkWalks k n).flatMap WalkR.cells) ∧ w.grownBy w' (some g) := by
  have hg0 : g < w.heap.size := (ha.lt g rfl).2
  go_enter Try.func20, Try.ntmps20
  go_wp2
  go_loopw [1, 5] (fun l i wr => ∃ m : Nat, m ≤ n ∧ i = .int .i64 m ∧ l = .int .i64 (k + 4 * m) ∧ wr.ownsRow lo 97 4 (.slice (some ⟨g, 0, none⟩) n cap) n (partR (mkWalks k n) xs WalkR.cells m) ∧ w.grownBy wr (some g)) (fun _ i _ => n - (intOf i).toNat)
  case atStart => exact ⟨0, Nat.zero_le _, rfl, by simp, by rw [partR_zero]; exact ha, World.grownBy.refl _ _⟩
  case round =>
    clear ha
    obtain ⟨m, hm, rfl, rfl, ho, hfr⟩ := hrel
    by_cases hlt : m < n
    · have hp := walk_part (mkWalks k n) xs m (by omega) (by rw [mkWalks_length, hn])
      rw [mkWalks_at k n m hlt] at hp
      have HP := Lib.hid hp
      clear hp
      have f0 := ho.frozenAt (m * 4); obtain ⟨u0, c0⟩ := owns_cell ho (m * 4) (by omega); have s0 := ho.stored (m * 4) (.int .i64 (k + 4 * m))
      have f1 := s0.1.frozenAt (m * 4 + 1); obtain ⟨u1, c1⟩ := owns_cell s0.1 (m * 4 + 1) (by omega); have s1 := s0.1.stored (m * 4 + 1) (.int .i64 (k + 4 * m + 1))
      have f2 := s1.1.frozenAt (m * 4 + 2); obtain ⟨u2, c2⟩ := owns_cell s1.1 (m * 4 + 2) (by omega); have s2 := s1.1.stored (m * 4 + 2) (.int .i64 (k + 4 * m + 1 + 1))
      have f3 := s2.1.frozenAt (m * 4 + 3); obtain ⟨u3, c3⟩ := owns_cell s2.1 (m * 4 + 3) (by omega); have s3 := s2.1.stored (m * 4 + 3) (.int .i64 (k + 4 * m + 1 + 1 + 1))
      go_wp2_with fail
      go_roundw
      case rel => exact ⟨m + 1, by omega, by go_num, by go_num, HP.out ▸ s3.1, gr_trans (gr_trans (gr_trans (gr_trans hfr (s0.2)) (s1.2)) (s2.2)) (s3.2)⟩
      case measure => (simp [intOf]; omega)
    · obtain rfl : m = n := by omega
      rw [partR_all _ _ _ m (by rw [mkWalks_length]) hn] at ho
      go_wp2
      go_ret
      exact ⟨rfl, ho, hfr⟩
theorem markWalkS_w (v : Value) (xs : List WalkR) (k : Int) (lo hi : Nat) (w : World) (ha : WalksW w lo hi v xs) (h0 : 0 < k) (h1 : k + 4 * xs.length ≤ 1073741824) :
    Calls Try.prog 20 #[v, .int .i64 k] w fun e w' => e = .returned (.int .i64 (k + 4 * xs.length)) ∧ WalksW w' lo hi v (mkWalks k xs.length) ∧ Span lo hi w w' := by
  rcases owns_shape ha.1 with ⟨rfl, hn, hx⟩ | ⟨g, cap, rfl, _⟩
  · have h3 : xs = [] := List.eq_nil_of_length_eq_zero hn
    subst h3
    clear ha hn hx
    go_enter Try.func20, Try.ntmps20
    go_wp2
    go_loopw [1, 5] (fun l i wr => i = .int .i64 0 ∧ l = .int .i64 k ∧ wr = w) (fun _ i _ => 0)
    case atStart => exact ⟨rfl, rfl, rfl⟩
    case round =>
      obtain ⟨rfl, rfl, rfl⟩ := hrel
      go_wp2
      go_ret
      exact ⟨by simp, by simpa [WalksW, mkWalks] using OwW.nil _ _ _ _ _, Span.refl _ _ _⟩
  · refine (markWalkS_any g xs.length cap xs k lo w ha.1 rfl h0 h1).mono fun e w' h => ⟨h.1, ⟨?_, ha.2⟩, Span.of_gr h.2.2 ha.2⟩
    rw [mkWalks_length]
    exact h.2.1
set_option maxHeartbeats 1000000 in
set_option maxRecDepth 100000 in
theorem heldWalkS_any (a : Value) (k : Int) (n : Nat) (w : World) (ha : WalksR w a (mkWalks k n)) (h0 : 0 < k) (h1 : k + 4 * n ≤ 1073741824) :
    Calls Try.prog 83 #[a, .int .i64 k] w fun e w' => e = .returned (.int .i64 (k + 4 * n)) ∧ Fr w w' := by
  obtain ⟨ao, ba, oa, ca, rfl, hca, hma, fa⟩ := ha.one
  clear ha
  rw [mkWalks_length] at hca fa ⊢
  go_enter Try.func83, Try.ntmps83
  go_wp2
  go_loopw [1, 5] (fun l i wr => ∃ m : Nat, m ≤ n ∧ i = .int .i64 m ∧ l = .int .i64 (k + 4 * m) ∧ Fr w wr) (fun _ i _ => n - (intOf i).toNat)
  case atStart => exact ⟨0, Nat.zero_le _, rfl, by simp, Fr.refl _⟩
  case round =>
    obtain ⟨m, hm, rfl, rfl, hfr⟩ := hrel
    by_cases hlt : m < n
    · obtain ⟨rfl, hba, fa⟩ := fa (by omega)
      have c0 : ∀ w', Fr wr w' → w'.cell? ⟨ba, oa + m * 4, none⟩ = some (.int .i64 (k + 4 * m)) := fun w' hf => ((hfr.trans hf).cell (p := ⟨ba, _, none⟩) hba).trans ((fa m hlt).1.trans (by rw [mkWalks_at k n m hlt]; rfl))
      have c1 : ∀ w', Fr wr w' → w'.cell? ⟨ba, oa + m * 4 + 1, none⟩ = some (.int .i64 (k + 4 * m + 1)) := fun w' hf => ((hfr.trans hf).cell (p := ⟨ba, _, none⟩) hba).trans ((fa m hlt).2.1.trans (by rw [mkWalks_at k n m hlt]; rfl))
      have c2 : ∀ w', Fr wr w' → w'.cell? ⟨ba, oa + m * 4 + 2, none⟩ = some (.int .i64 (k + 4 * m + 1 + 1)) := fun w' hf => ((hfr.trans hf).cell (p := ⟨ba, _, none⟩) hba).trans ((fa m hlt).2.2.1.trans (by rw [mkWalks_at k n m hlt]; rfl))
      have c3 : ∀ w', Fr wr w' → w'.cell? ⟨ba, oa + m * 4 + 3, none⟩ = some (.int .i64 (k + 4 * m + 1 + 1 + 1)) := fun w' hf => ((hfr.trans hf).cell (p := ⟨ba, _, none⟩) hba).trans ((fa m hlt).2.2.2.trans (by rw [mkWalks_at k n m hlt]; rfl))
      clear fa
      have d0 := c0 wr (by repeat (first | (with_reducible exact Fr.refl _) | (with_reducible assumption) | (with_reducible refine Fr.drewN ?_ _) | (with_reducible refine Fr.drew ?_) | (with_reducible refine Fr.alloc ?_ _) | (with_reducible refine Fr.setCell ?_ (by (first | (with_reducible assumption) | omega | (simp only [World.size_alloc, World.size_setCell, World.size_drew, World.heap_drewN]; omega) | (simp; done) | (simp; omega))) _) | (with_reducible refine Fr.trans ?_ (by with_reducible assumption))))
      have d1 := c1 wr (by repeat (first | (with_reducible exact Fr.refl _) | (with_reducible assumption) | (with_reducible refine Fr.drewN ?_ _) | (with_reducible refine Fr.drew ?_) | (with_reducible refine Fr.alloc ?_ _) | (with_reducible refine Fr.setCell ?_ (by (first | (with_reducible assumption) | omega | (simp only [World.size_alloc, World.size_setCell, World.size_drew, World.heap_drewN]; omega) | (simp; done) | (simp; omega))) _) | (with_reducible refine Fr.trans ?_ (by with_reducible assumption))))
      have d2 := c2 wr (by repeat (first | (with_reducible exact Fr.refl _) | (with_reducible assumption) | (with_reducible refine Fr.drewN ?_ _) | (with_reducible refine Fr.drew ?_) | (with_reducible refine Fr.alloc ?_ _) | (with_reducible refine Fr.setCell ?_ (by (first | (with_reducible assumption) | omega | (simp only [World.size_alloc, World.size_setCell, World.size_drew, World.heap_drewN]; omega) | (simp; done) | (simp; omega))) _) | (with_reducible refine Fr.trans ?_ (by with_reducible assumption))))
      have d3 := c3 wr (by repeat (first | (with_reducible exact Fr.refl _) | (with_reducible assumption) | (with_reducible refine Fr.drewN ?_ _) | (with_reducible refine Fr.drew ?_) | (with_reducible refine Fr.alloc ?_ _) | (with_reducible refine Fr.setCell ?_ (by (first | (with_reducible assumption) | omega | (simp only [World.size_alloc, World.size_setCell, World.size_drew, World.heap_drewN]; omega) | (simp; done) | (simp; omega))) _) | (with_reducible refine Fr.trans ?_ (by with_reducible assumption))))
      go_wp2_with fail
      try go_quiet (fail)
      try go_wp2_with fail
      try go_wp2_with fail
      go_roundw
      case rel => exact ⟨m + 1, by omega, by go_num, by go_num, by repeat (first | (with_reducible exact Fr.refl _) | (with_reducible assumption) | (with_reducible refine Fr.drewN ?_ _) | (with_reducible refine Fr.drew ?_) | (with_reducible refine Fr.alloc ?_ _) | (with_reducible refine Fr.setCell ?_ (by (first | (with_reducible assumption) | omega | (simp only [World.size_alloc, World.size_setCell, World.size_drew, World.heap_drewN]; omega) | (simp; done) | (simp; omega))) _) | (with_reducible refine Fr.trans ?_ (by with_reducible assumption)))⟩
      case measure => (simp [intOf]; omega)
    · clear fa
      obtain rfl : m = n := by omega
      go_wp2
      go_ret
      exact ⟨rfl, hfr⟩
theorem heldWalkS_w (a : Value) (k : Int) (n : Nat) (w : World) (ha : WalksR w a (mkWalks k n)) (h0 : 0 < k) (h1 : k + 4 * n ≤ 1073741824) :
    Calls Try.prog 83 #[a, .int .i64 k] w fun e w' => e = .returned (.int .i64 (k + 4 * n)) ∧ Fr w w' := heldWalkS_any a k n w ha h0 h1
set_option maxHeartbeats 1000000 in
set_option maxRecDepth 100000 in
theorem cloneWalk_w (v : Value) (xs : List WalkR) (w : World) (hv : WalksR w v xs) (hn : xs.length ≤ 1048576) :
    Calls Try.prog 80 #[v] w fun e w' => ∃ ao cap, e = .returned (.slice ao xs.length cap) ∧ WalksW w' w.heap.size w'.heap.size (.slice ao xs.length cap) xs ∧ Fr w w' := by
  obtain ⟨ao, cap, rfl, hnil⟩ := RdS.val hv
  obtain ⟨i0, hi, hz0, hz1, hz2⟩ := info_parts info_Walk
  have q : ∀ (w : World) (a : Option Addr) (n c n' c' : Nat), (binOp .eql 26 (.slice a n c) (.slice none n' c')).run Try.prog w = .ok (.bool a.isNone) w := fun w a n c n' c' => Lib.run_eql_slice_nil w _ _ a n c n' c' Try.underlying26
  cases ao with
  | none =>
    have h3 : xs = [] := List.eq_nil_of_length_eq_zero (hnil rfl)
    subst h3
    clear hnil hv
    go_enter Try.func80, Try.ntmps80
    go_wp2
    go_ret
    exact ⟨none, 0, rfl, WalksW.nil _ _ _, by repeat (first | (with_reducible exact Fr.refl _) | (with_reducible assumption) | (with_reducible refine Fr.drewN ?_ _) | (with_reducible refine Fr.drew ?_) | (with_reducible refine Fr.alloc ?_ _) | (with_reducible refine Fr.setCell ?_ (by (first | (with_reducible assumption) | omega | (simp only [World.size_alloc, World.size_setCell, World.size_drew, World.heap_drewN]; omega) | (simp; done) | (simp; omega))) _) | (with_reducible refine Fr.trans ?_ (by with_reducible assumption)))⟩
  | some a =>
    clear hnil
    have HV := Lib.hid hv
    clear hv
    go_enter Try.func80, Try.ntmps80
    go_wp2_with (at_builtin; refine wpList_append_rd rfl _ _ 26 rfl w.heap.size 97 i0 (.agg #[.int .i64 0, .int .i64 0, .int .i64 0, .int .i64 0]) 4 32 Try.underlying26 hi hz0 hz1 hz2 rfl (by decide) (.slice (some ⟨w.heap.size, 0, none⟩) 0 0) 0 [] rfl (World.ownsRow_made w #[] 0 (Nat.le_refl _) (Nat.zero_le _) rfl) _ xs.length (xs.flatMap WalkR.cells) rfl (RdS.fr HV.out (by repeat (first | (with_reducible exact Fr.refl _) | (with_reducible assumption) | (with_reducible refine Fr.drewN ?_ _) | (with_reducible refine Fr.drew ?_) | (with_reducible refine Fr.alloc ?_ _) | (with_reducible refine Fr.setCell ?_ (by (first | (with_reducible assumption) | omega | (simp only [World.size_alloc, World.size_setCell, World.size_drew, World.heap_drewN]; omega) | (simp; done) | (simp; omega))) _) | (with_reducible refine Fr.trans ?_ (by with_reducible assumption))))) (walk_oneCells _) (by unfold maxLen; omega) (by omega) (by (first | (with_reducible assumption) | omega | (simp only [World.size_alloc, World.size_setCell, World.size_drew, World.heap_drewN]; omega) | (simp; done) | (simp; omega))) ?_; intro ao' cap' w1 hown hgrow hat)
    go_ret
    simp only [Nat.zero_add] at hown ⊢
    exact ⟨ao', cap', rfl, OwW.of_owns (by simpa using hown), ((Fr.refl _).alloc _).grown hgrow (by intro k hk; simp [Value.ownBlock] at hk; omega)⟩
end Go.Proofs.Ytphjlecbhbcbcaa
