/- Marks of slices of File; their interface. (Printed by mk_types.py.) No condition but the sizes that the reading gives. -/
import Derived.Test.YtphjlecbhbcbcaaSFile
import Derived.Test.YtphjlecbhbcbcaaApp
namespace Go.Proofs.Ytphjlecbhbcbcaa
open Go.RowKit
set_option linter.unusedVariables false
set_option linter.unusedSimpArgs false

def mkFile (k : Int) : FileR := ⟨mTextI k, mTextI (k + 1), (k + 1 + 1)⟩
def mkFiles (k : Int) (n : Nat) : List FileR := (List.range n).map fun i : Nat => mkFile (k + 3 * i)
theorem mkFiles_length (k : Int) (n : Nat) : (mkFiles k n).length = n := by simp [mkFiles]
theorem mkFiles_at (k : Int) (n j : Nat) (h : j < n) : fileAt (mkFiles k n) j = mkFile (k + 3 * j) := by simp [mkFiles, fileAt, List.getD, h]
theorem file_oneCells (xs : List FileR) : ∀ u ∈ xs.flatMap FileR.cells, u.oneCell' = true := by
  intro u hu
  obtain ⟨x, _, h⟩ := List.mem_flatMap.1 hu
  simp only [FileR.cells, List.mem_cons, List.not_mem_nil, or_false] at h
  rcases h with rfl | rfl | rfl <;> rfl
def FilesW (w : World) (lo hi : Nat) (v : Value) (xs : List FileR) : Prop := OwW w lo hi 166 3 v xs.length (xs.flatMap FileR.cells)
theorem FilesW.rd {w : World} {lo hi : Nat} {v : Value} {xs : List FileR} (h : FilesW w lo hi v xs) : FilesR w v xs := OwW.rd h
theorem FilesW.val {w : World} {lo hi : Nat} {v : Value} {xs : List FileR} (h : FilesW w lo hi v xs) : ∃ ao cap, v = .slice ao xs.length cap := OwW.val h
theorem FilesW.fr {w w' : World} {lo hi : Nat} {v : Value} {xs : List FileR} (h : FilesW w lo hi v xs) (hf : Fr w w') : FilesW w' lo hi v xs := OwW.fr h hf
theorem FilesW.span {w w' : World} {lo hi : Nat} {v : Value} {xs : List FileR} (h : FilesW w lo hi v xs) {a b : Nat} (s : Span a b w w') (hd : hi ≤ a ∨ b ≤ lo) : FilesW w' lo hi v xs := OwW.span h s hd
theorem FilesW.nil (w : World) (lo hi : Nat) : FilesW w lo hi (.slice none 0 0) [] := OwW.nil _ _ _ _ _
theorem toFileS_w (a : Value) (xs : List FileR) (w : World) (ha : FilesR w a xs) (hn : xs.length ≤ 1048576) :
    Calls Try.prog 113 #[a] w fun e w' => ∃ ao cap, e = .returned (.slice ao xs.length cap) ∧ FilesW w' w.heap.size w'.heap.size (.slice ao xs.length cap) xs ∧ Fr w w' :=
  (toFileS_any a xs w ha hn).mono fun e w' h => by
    obtain ⟨v, rfl, ho, hf⟩ := h
    obtain ⟨ao, cap, rfl⟩ := ho.val
    exact ⟨ao, cap, rfl, OwW.of_owns ho, hf⟩
theorem file_part (new old : List FileR) (m : Nat) (hm : m < old.length) (hl : new.length = old.length) : ((((partR new old FileR.cells m).set (m * 3) (Value.string (fileAt new m).f0)).set (m * 3 + 1) (Value.string (fileAt new m).f1)).set (m * 3 + 2) (Value.int .i64 (fileAt new m).f2)) = partR new old FileR.cells (m + 1) := by
  rw [partR_split new old FileR.cells m hm]
  have ha : ((new.take m).flatMap FileR.cells).length = m * 3 := flat_len new FileR.cells 3 FileR.cells_length m (by omega)
  rw [set_mid _ _ _ 0 _ (by rw [ha]; rfl) (by rw [FileR.cells_length]; omega)]
  rw [set_mid _ _ _ 1 _ (by rw [ha]) (by simp only [List.length_set]; rw [FileR.cells_length]; omega)]
  rw [set_mid _ _ _ 2 _ (by rw [ha]) (by simp only [List.length_set]; rw [FileR.cells_length]; omega)]
  rw [partR_next new old FileR.cells m (by omega)]
  rfl
set_option maxHeartbeats 1000000 in
set_option maxRecDepth 100000 in
theorem markFileS_any (g n cap : Nat) (xs : List FileR) (k : Int) (lo : Nat) (w : World) (ha : w.ownsRow lo 166 3 (.slice (some ⟨g, 0, none⟩) n cap) n (xs.flatMap FileR.cells)) (hn : xs.length = n) (h0 : 0 < k) (h1 : k + 3 * n ≤ 1073741824) :
    Calls Try.prog 117 #[.slice (some ⟨g, 0, none⟩) n cap, .int .i64 k] w fun e w' => e = .returned (.int .i64 (k + 3 * n)) ∧ w'.ownsRow lo 166 3 (.slice (some ⟨g, 0, none⟩) n cap) n ((mkFiles k n).flatMap FileR.cells) ∧ w.grownBy w' (some g) := by
  have hg0 : g < w.heap.size := (ha.lt g rfl).2
  go_enter Try.func117, Try.ntmps117
  go_wp2
  go_loopw [1, 5] (fun l i wr => ∃ m : Nat, m ≤ n ∧ i = .int .i64 m ∧ l = .int .i64 (k + 3 * m) ∧ wr.ownsRow lo 166 3 (.slice (some ⟨g, 0, none⟩) n cap) n (partR (mkFiles k n) xs FileR.cells m) ∧ w.grownBy wr (some g)) (fun _ i _ => n - (intOf i).toNat)
  case atStart => exact ⟨0, Nat.zero_le _, rfl, by simp, by rw [partR_zero]; exact ha, World.grownBy.refl _ _⟩
  case round =>
    clear ha
    obtain ⟨m, hm, rfl, rfl, ho, hfr⟩ := hrel
    by_cases hlt : m < n
    · have hp := file_part (mkFiles k n) xs m (by omega) (by rw [mkFiles_length, hn])
      rw [mkFiles_at k n m hlt] at hp
      have HP := Lib.hid hp
      clear hp
      go_wp2_with fail
      refine (markText_int (k + 3 * m) _ (by omega) (by omega)).mono ?_
      rintro e w0 ⟨rfl, hf0⟩
      have o0 := owns_fr ho hf0
      have f0 := o0.frozenAt (m * 3); obtain ⟨u0, c0⟩ := owns_cell o0 (m * 3) (by omega); have s0 := o0.stored (m * 3) (.string (mTextI (k + 3 * m)))
      go_wp2_with fail
      refine (markText_int (k + 3 * m + 1) _ (by omega) (by omega)).mono ?_
      rintro e w1 ⟨rfl, hf1⟩
      have o1 := owns_fr s0.1 hf1
      have f1 := o1.frozenAt (m * 3 + 1); obtain ⟨u1, c1⟩ := owns_cell o1 (m * 3 + 1) (by omega); have s1 := o1.stored (m * 3 + 1) (.string (mTextI (k + 3 * m + 1)))
      have f2 := s1.1.frozenAt (m * 3 + 2); obtain ⟨u2, c2⟩ := owns_cell s1.1 (m * 3 + 2) (by omega); have s2 := s1.1.stored (m * 3 + 2) (.int .i64 (k + 3 * m + 1 + 1))
      go_wp2_with fail
      go_roundw
      case rel => exact ⟨m + 1, by omega, by go_num, by go_num, HP.out ▸ s2.1, gr_trans (gr_trans (gr_trans (gr_trans (gr_trans hfr (hf0.gr _)) (s0.2)) (hf1.gr _)) (s1.2)) (s2.2)⟩
      case measure => (simp [intOf]; omega)
    · obtain rfl : m = n := by omega
      rw [partR_all _ _ _ m (by rw [mkFiles_length]) hn] at ho
      go_wp2
      go_ret
      exact ⟨rfl, ho, hfr⟩
theorem markFileS_w (v : Value) (xs : List FileR) (k : Int) (lo hi : Nat) (w : World) (ha : FilesW w lo hi v xs) (h0 : 0 < k) (h1 : k + 3 * xs.length ≤ 1073741824) :
    Calls Try.prog 117 #[v, .int .i64 k] w fun e w' => e = .returned (.int .i64 (k + 3 * xs.length)) ∧ FilesW w' lo hi v (mkFiles k xs.length) ∧ Span lo hi w w' := by
  rcases owns_shape ha.1 with ⟨rfl, hn, hx⟩ | ⟨g, cap, rfl, _⟩
  · have h3 : xs = [] := List.eq_nil_of_length_eq_zero hn
    subst h3
    clear ha hn hx
    go_enter Try.func117, Try.ntmps117
    go_wp2
    go_loopw [1, 5] (fun l i wr => i = .int .i64 0 ∧ l = .int .i64 k ∧ wr = w) (fun _ i _ => 0)
    case atStart => exact ⟨rfl, rfl, rfl⟩
    case round =>
      obtain ⟨rfl, rfl, rfl⟩ := hrel
      go_wp2
      go_ret
      exact ⟨by simp, by simpa [FilesW, mkFiles] using OwW.nil _ _ _ _ _, Span.refl _ _ _⟩
  · refine (markFileS_any g xs.length cap xs k lo w ha.1 rfl h0 h1).mono fun e w' h => ⟨h.1, ⟨?_, ha.2⟩, Span.of_gr h.2.2 ha.2⟩
    rw [mkFiles_length]
    exact h.2.1
set_option maxHeartbeats 1000000 in
set_option maxRecDepth 100000 in
theorem heldFileS_any (a : Value) (k : Int) (n : Nat) (w : World) (ha : FilesR w a (mkFiles k n)) (h0 : 0 < k) (h1 : k + 3 * n ≤ 1073741824) :
    Calls Try.prog 129 #[a, .int .i64 k] w fun e w' => e = .returned (.int .i64 (k + 3 * n)) ∧ Fr w w' := by
  obtain ⟨ao, ba, oa, ca, rfl, hca, hma, fa⟩ := ha.one
  clear ha
  rw [mkFiles_length] at hca fa ⊢
  go_enter Try.func129, Try.ntmps129
  go_wp2
  go_loopw [1, 5] (fun l i wr => ∃ m : Nat, m ≤ n ∧ i = .int .i64 m ∧ l = .int .i64 (k + 3 * m) ∧ Fr w wr) (fun _ i _ => n - (intOf i).toNat)
  case atStart => exact ⟨0, Nat.zero_le _, rfl, by simp, Fr.refl _⟩
  case round =>
    obtain ⟨m, hm, rfl, rfl, hfr⟩ := hrel
    by_cases hlt : m < n
    · obtain ⟨rfl, hba, fa⟩ := fa (by omega)
      have c0 : ∀ w', Fr wr w' → w'.cell? ⟨ba, oa + m * 3, none⟩ = some (.string (mTextI (k + 3 * m))) := fun w' hf => ((hfr.trans hf).cell (p := ⟨ba, _, none⟩) hba).trans ((fa m hlt).1.trans (by rw [mkFiles_at k n m hlt]; rfl))
      have c1 : ∀ w', Fr wr w' → w'.cell? ⟨ba, oa + m * 3 + 1, none⟩ = some (.string (mTextI (k + 3 * m + 1))) := fun w' hf => ((hfr.trans hf).cell (p := ⟨ba, _, none⟩) hba).trans ((fa m hlt).2.1.trans (by rw [mkFiles_at k n m hlt]; rfl))
      have c2 : ∀ w', Fr wr w' → w'.cell? ⟨ba, oa + m * 3 + 2, none⟩ = some (.int .i64 (k + 3 * m + 1 + 1)) := fun w' hf => ((hfr.trans hf).cell (p := ⟨ba, _, none⟩) hba).trans ((fa m hlt).2.2.trans (by rw [mkFiles_at k n m hlt]; rfl))
      clear fa
      go_wp2_with fail
      have e0 : ∀ w', Fr wr w' → w'.cell? ⟨ba, oa + m * 3, none⟩ = some (.string (mTextI (k + 3 * m))) := fun w' hf => c0 w' (by repeat (first | (with_reducible exact Fr.refl _) | (with_reducible assumption) | (with_reducible refine Fr.drewN ?_ _) | (with_reducible refine Fr.drew ?_) | (with_reducible refine Fr.alloc ?_ _) | (with_reducible refine Fr.setCell ?_ (by (first | (with_reducible assumption) | omega | (simp only [World.size_alloc, World.size_setCell, World.size_drew, World.heap_drewN]; omega) | (simp; done) | (simp; omega))) _) | (with_reducible refine Fr.trans ?_ (by with_reducible assumption))))
      go_region_held3 (fun w' => Fr wr w') (repeat (first | (with_reducible exact Fr.refl _) | (with_reducible assumption) | (with_reducible refine Fr.drewN ?_ _) | (with_reducible refine Fr.drew ?_) | (with_reducible refine Fr.alloc ?_ _) | (with_reducible refine Fr.setCell ?_ (by (first | (with_reducible assumption) | omega | (simp only [World.size_alloc, World.size_setCell, World.size_drew, World.heap_drewN]; omega) | (simp; done) | (simp; omega))) _) | (with_reducible refine Fr.trans ?_ (by with_reducible assumption)))) (first | (go_at_call 97; refine (markText_int (k + 3 * m) _ (by omega) (by omega)).mono ?_; rintro e w0 ⟨rfl, hf0⟩))
      clear e0
      go_wp2_with fail
      have e1 : ∀ w', Fr w0 w' → w'.cell? ⟨ba, oa + m * 3 + 1, none⟩ = some (.string (mTextI (k + 3 * m + 1))) := fun w' hf => c1 w' (by repeat (first | (with_reducible exact Fr.refl _) | (with_reducible assumption) | (with_reducible refine Fr.drewN ?_ _) | (with_reducible refine Fr.drew ?_) | (with_reducible refine Fr.alloc ?_ _) | (with_reducible refine Fr.setCell ?_ (by (first | (with_reducible assumption) | omega | (simp only [World.size_alloc, World.size_setCell, World.size_drew, World.heap_drewN]; omega) | (simp; done) | (simp; omega))) _) | (with_reducible refine Fr.trans ?_ (by with_reducible assumption))))
      go_region_held3 (fun w' => Fr w0 w') (repeat (first | (with_reducible exact Fr.refl _) | (with_reducible assumption) | (with_reducible refine Fr.drewN ?_ _) | (with_reducible refine Fr.drew ?_) | (with_reducible refine Fr.alloc ?_ _) | (with_reducible refine Fr.setCell ?_ (by (first | (with_reducible assumption) | omega | (simp only [World.size_alloc, World.size_setCell, World.size_drew, World.heap_drewN]; omega) | (simp; done) | (simp; omega))) _) | (with_reducible refine Fr.trans ?_ (by with_reducible assumption)))) (first | (go_at_call 97; refine (markText_int (k + 3 * m + 1) _ (by omega) (by omega)).mono ?_; rintro e w1 ⟨rfl, hf1⟩))
      clear e1
      have d2 := c2 w1 (by repeat (first | (with_reducible exact Fr.refl _) | (with_reducible assumption) | (with_reducible refine Fr.drewN ?_ _) | (with_reducible refine Fr.drew ?_) | (with_reducible refine Fr.alloc ?_ _) | (with_reducible refine Fr.setCell ?_ (by (first | (with_reducible assumption) | omega | (simp only [World.size_alloc, World.size_setCell, World.size_drew, World.heap_drewN]; omega) | (simp; done) | (simp; omega))) _) | (with_reducible refine Fr.trans ?_ (by with_reducible assumption))))
      go_wp2_with fail
      try go_quiet (fail)
      try go_wp2_with fail
      try go_wp2_with fail
      go_roundw
      case rel => exact ⟨m + 1, by omega, by go_num, by go_num, by repeat (first | (with_reducible exact Fr.refl _) | (with_reducible assumption) | (with_reducible refine Fr.drewN ?_ _) | (with_reducible refine Fr.drew ?_) | (with_reducible refine Fr.alloc ?_ _) | (with_reducible refine Fr.setCell ?_ (by (first | (with_reducible assumption) | omega | (simp only [World.size_alloc, World.size_setCell, World.size_drew, World.heap_drewN]; omega) | (simp; done) | (simp; omega))) _) | (with_reducible refine Fr.trans ?_ (by with_reducible assumption)))⟩
      case measure => (simp [intOf]; omega)
    · clear fa
      obtain rfl : m = n := by omega
      go_wp2
      go_ret
      exact ⟨rfl, hfr⟩
theorem heldFileS_w (a : Value) (k : Int) (n : Nat) (w : World) (ha : FilesR w a (mkFiles k n)) (h0 : 0 < k) (h1 : k + 3 * n ≤ 1073741824) :
    Calls Try.prog 129 #[a, .int .i64 k] w fun e w' => e = .returned (.int .i64 (k + 3 * n)) ∧ Fr w w' := heldFileS_any a k n w ha h0 h1
set_option maxHeartbeats 1000000 in
set_option maxRecDepth 100000 in
theorem cloneFile_w (v : Value) (xs : List FileR) (w : World) (hv : FilesR w v xs) (hn : xs.length ≤ 1048576) :
    Calls Try.prog 180 #[v] w fun e w' => ∃ ao cap, e = .returned (.slice ao xs.length cap) ∧ FilesW w' w.heap.size w'.heap.size (.slice ao xs.length cap) xs ∧ Fr w w' := by
  obtain ⟨ao, cap, rfl, hnil⟩ := RdS.val hv
  obtain ⟨i0, hi, hz0, hz1, hz2⟩ := info_parts info_File
  have q : ∀ (w : World) (a : Option Addr) (n c n' c' : Nat), (binOp .eql 70 (.slice a n c) (.slice none n' c')).run Try.prog w = .ok (.bool a.isNone) w := fun w a n c n' c' => Lib.run_eql_slice_nil w _ _ a n c n' c' Try.underlying70
  cases ao with
  | none =>
    have h3 : xs = [] := List.eq_nil_of_length_eq_zero (hnil rfl)
    subst h3
    clear hnil hv
    go_enter Try.func180, Try.ntmps180
    go_wp2
    go_ret
    exact ⟨none, 0, rfl, FilesW.nil _ _ _, by repeat (first | (with_reducible exact Fr.refl _) | (with_reducible assumption) | (with_reducible refine Fr.drewN ?_ _) | (with_reducible refine Fr.drew ?_) | (with_reducible refine Fr.alloc ?_ _) | (with_reducible refine Fr.setCell ?_ (by (first | (with_reducible assumption) | omega | (simp only [World.size_alloc, World.size_setCell, World.size_drew, World.heap_drewN]; omega) | (simp; done) | (simp; omega))) _) | (with_reducible refine Fr.trans ?_ (by with_reducible assumption)))⟩
  | some a =>
    clear hnil
    have HV := Lib.hid hv
    clear hv
    go_enter Try.func180, Try.ntmps180
    go_wp2_with (at_builtin; refine wpList_append_rd rfl _ _ 70 rfl w.heap.size 166 i0 (.agg #[.string ⟨#[]⟩, .string ⟨#[]⟩, .int .i64 0]) 3 40 Try.underlying70 hi hz0 hz1 hz2 rfl (by decide) (.slice (some ⟨w.heap.size, 0, none⟩) 0 0) 0 [] rfl (World.ownsRow_made w #[] 0 (Nat.le_refl _) (Nat.zero_le _) rfl) _ xs.length (xs.flatMap FileR.cells) rfl (RdS.fr HV.out (by repeat (first | (with_reducible exact Fr.refl _) | (with_reducible assumption) | (with_reducible refine Fr.drewN ?_ _) | (with_reducible refine Fr.drew ?_) | (with_reducible refine Fr.alloc ?_ _) | (with_reducible refine Fr.setCell ?_ (by (first | (with_reducible assumption) | omega | (simp only [World.size_alloc, World.size_setCell, World.size_drew, World.heap_drewN]; omega) | (simp; done) | (simp; omega))) _) | (with_reducible refine Fr.trans ?_ (by with_reducible assumption))))) (file_oneCells _) (by unfold maxLen; omega) (by omega) (by (first | (with_reducible assumption) | omega | (simp only [World.size_alloc, World.size_setCell, World.size_drew, World.heap_drewN]; omega) | (simp; done) | (simp; omega))) ?_; intro ao' cap' w1 hown hgrow hat)
    go_ret
    simp only [Nat.zero_add] at hown ⊢
    exact ⟨ao', cap', rfl, OwW.of_owns (by simpa using hown), ((Fr.refl _).alloc _).grown hgrow (by intro k hk; simp [Value.ownBlock] at hk; omega)⟩
end Go.Proofs.Ytphjlecbhbcbcaa
