/- Edges compared, graphs held to be right: of both. No condition. -/
import Derived.Test.YtphjlecbhbcbcaaBagOk
import Derived.Test.YtphjlecbhbcbcaaOGraph
import Derived.Deep.RegionHeld3
namespace Go.Proofs.Ytphjlecbhbcbcaa
open Go.RowKit
set_option linter.unusedVariables false
set_option linter.unusedSimpArgs false
def edgeLt (x y : EdgeR) : Bool := if x.f0 ≠ y.f0 then decide (x.f0 < y.f0) else if x.f1 ≠ y.f1 then decide (x.f1.toNat < y.f1.toNat) else decide (x.f2 < y.f2)
def edgeC (x y : EdgeR) : Int := if x.f1 ≠ y.f1 ∧ x.f0 = y.f0 then (x.f1.toNat : Int) - y.f1.toNat else cmpL [x.f0, x.f2] [y.f0, y.f2]
theorem edgeC_lt (x y : EdgeR) : decide (edgeC x y < 0) = edgeLt x y := by
  rw [Bool.eq_iff_iff, decide_eq_true_eq]
  unfold edgeC edgeLt
  by_cases h0 : x.f0 = y.f0
  · by_cases h1 : x.f1 = y.f1
    · rw [if_neg (by simp [h1]), if_neg (by simp [h0]), if_neg (by simp [h1]), decide_eq_true_eq]
      simp only [cmpL]
      repeat' split
      all_goals omega
    · rw [if_pos ⟨h1, h0⟩, if_neg (by simp [h0]), if_pos h1, decide_eq_true_eq]
      omega
  · rw [if_neg (fun h => h0 h.2), if_pos h0, decide_eq_true_eq]
    simp only [cmpL]
    repeat' split
    all_goals omega
def edgB (n : Int) (x : EdgeR) : Bool := decide (0 ≤ x.f0 ∧ x.f0 < n) && (decide (0 ≤ x.f2 ∧ x.f2 < n) && decide (97 ≤ x.f1.toNat ∧ x.f1.toNat ≤ 100))
def edgK (n : Int) (xs : List EdgeR) (k : Nat) : Bool := edgB n (edgeAt xs k) && (decide (k = 0) || edgeLt (edgeAt xs (k - 1)) (edgeAt xs k))
def graphB (g : GraphD) : Bool := decide (1 ≤ g.f0 ∧ g.f0 ≤ 12) && (decide (g.f1.length ≤ 40) && (List.range g.f1.length).all (edgK g.f0 g.f1))
theorem graphB_size {g : GraphD} (h : ¬ (1 ≤ g.f0 ∧ g.f0 ≤ 12)) : graphB g = false := by unfold graphB; rw [decide_eq_false h, Bool.false_and]
theorem graphB_long {g : GraphD} (h : ¬ g.f1.length ≤ 40) : graphB g = false := by unfold graphB; rw [decide_eq_false h, Bool.false_and, Bool.and_false]
theorem graphB_no {g : GraphD} {k : Nat} (hk : k < g.f1.length) (h : edgK g.f0 g.f1 k = false) : graphB g = false := by unfold graphB; rw [rng_not_all hk h, Bool.and_false, Bool.and_false]
theorem graphB_ok {g : GraphD} (h1 : 1 ≤ g.f0 ∧ g.f0 ≤ 12) (h2 : g.f1.length ≤ 40) (h : ∀ j, j < g.f1.length → edgK g.f0 g.f1 j = true) : graphB g = true := by unfold graphB; rw [rng_all h, decide_eq_true h1, decide_eq_true h2]; rfl
theorem graphB_out {g : GraphD} (h : graphB g = true) : (1 ≤ g.f0 ∧ g.f0 ≤ 12) ∧ g.f1.length ≤ 40 ∧ ∀ j, j < g.f1.length → edgK g.f0 g.f1 j = true := by
  unfold graphB at h
  simp only [Bool.and_eq_true, decide_eq_true_eq, List.all_eq_true] at h
  exact ⟨h.1, h.2.1, fun j hj => h.2.2 j (List.mem_range.2 hj)⟩
theorem edgK_from {n : Int} {xs : List EdgeR} {k : Nat} {x : EdgeR} (hx : edgeAt xs k = x) (h : ¬ (0 ≤ x.f0 ∧ x.f0 < n)) : edgK n xs k = false := by
  unfold edgK edgB; rw [hx, decide_eq_false h]; rfl
theorem edgK_to {n : Int} {xs : List EdgeR} {k : Nat} {x : EdgeR} (hx : edgeAt xs k = x) (h : ¬ (0 ≤ x.f2 ∧ x.f2 < n)) : edgK n xs k = false := by
  unfold edgK edgB; rw [hx, decide_eq_false h, Bool.false_and, Bool.and_false]; rfl
theorem edgK_label {n : Int} {xs : List EdgeR} {k : Nat} {x : EdgeR} (hx : edgeAt xs k = x) (h : ¬ (97 ≤ x.f1.toNat ∧ x.f1.toNat ≤ 100)) : edgK n xs k = false := by
  unfold edgK edgB; rw [hx, decide_eq_false h, Bool.and_false, Bool.and_false]; rfl
theorem edgK_less {n : Int} {xs : List EdgeR} {k : Nat} {x y : EdgeR} (hx : edgeAt xs k = x) (hy : edgeAt xs (k - 1) = y) (hk : 0 < k) (h : edgeLt y x = false) : edgK n xs k = false := by
  unfold edgK; rw [hx, hy, h, decide_eq_false (by omega : ¬ k = 0)]; simp
theorem edgK_ok {n : Int} {xs : List EdgeR} {k : Nat} {x y : EdgeR} (hx : edgeAt xs k = x) (hy : edgeAt xs (k - 1) = y) (h0 : 0 ≤ x.f0 ∧ x.f0 < n) (h2 : 0 ≤ x.f2 ∧ x.f2 < n) (h1 : 97 ≤ x.f1.toNat ∧ x.f1.toNat ≤ 100) (h : k = 0 ∨ edgeLt y x = true) : edgK n xs k = true := by
  unfold edgK edgB; rw [hx, hy, decide_eq_true h0, decide_eq_true h1, decide_eq_true h2]
  rcases h with h | h
  · rw [decide_eq_true h]; rfl
  · rw [h]; simp
theorem byte_eq {x y : UInt8} : ((x.toNat : Int) = y.toNat) ↔ x = y := ⟨fun h => UInt8.toNat_inj.1 (by omega), fun h => by rw [h]⟩
theorem specEdgeLess_any (x y : EdgeR) (w : World) :
    Calls Try.prog 133 #[.agg #[.int .i64 x.f0, .int .u8 (x.f1.toNat : Int), .int .i64 x.f2], .agg #[.int .i64 y.f0, .int .u8 (y.f1.toNat : Int), .int .i64 y.f2]] w fun e w' => e = .returned (.bool (edgeLt x y)) ∧ Fr w w' := by
  obtain ⟨p, hp⟩ : ∃ p, edgeLt x y = p := ⟨_, rfl⟩
  rw [hp]
  have HP := Lib.hid hp
  clear hp
  obtain ⟨a, l, t⟩ := x
  obtain ⟨b, m, u⟩ := y
  have hl := l.toNat_lt
  have hm := m.toNat_lt
  by_cases h0 : a = b
  · have q0 : (a != b) = false := by simpa using h0
    have H0 := Lib.hid h0
    clear h0
    by_cases h1 : l = m
    · have q1 : ((l.toNat : Int) != (m.toNat : Int)) = false := by rw [bne_eq_false_iff_eq, byte_eq]; exact h1
      have HQ : Hid (decide (t < u) = p) := Lib.hid (by rw [← HP.out]; unfold edgeLt; rw [if_neg (by simp [H0.out]), if_neg (by simp [h1])])
      clear h1
      go_enter Try.func133, Try.ntmps133
      go_wp2
      go_ret
      exact ⟨ret_bool HQ.out, by repeat (first | (with_reducible exact Fr.refl _) | (with_reducible assumption) | (with_reducible refine Fr.drewN ?_ _) | (with_reducible refine Fr.drew ?_) | (with_reducible refine Fr.alloc ?_ _) | (with_reducible refine Fr.setCell ?_ (by (first | (with_reducible assumption) | omega | (simp only [World.size_alloc, World.size_setCell, World.size_drew, World.heap_drewN]; omega) | (simp; done) | (simp; omega))) _) | (with_reducible refine Fr.trans ?_ (by with_reducible assumption)))⟩
    · have q1 : ((l.toNat : Int) != (m.toNat : Int)) = true := by rw [bne_iff_ne]; exact fun h => h1 (byte_eq.1 h)
      have HQ : Hid (decide ((l.toNat : Int) < (m.toNat : Int)) = p) := Lib.hid (by rw [← HP.out]; unfold edgeLt; rw [if_neg (by simp [H0.out]), if_pos h1, Bool.eq_iff_iff, decide_eq_true_eq, decide_eq_true_eq]; simp only []; omega)
      clear h1
      go_enter Try.func133, Try.ntmps133
      go_wp2
      go_ret
      exact ⟨ret_bool (by first | exact HQ.out | (rw [← HQ.out]; simp)), by repeat (first | (with_reducible exact Fr.refl _) | (with_reducible assumption) | (with_reducible refine Fr.drewN ?_ _) | (with_reducible refine Fr.drew ?_) | (with_reducible refine Fr.alloc ?_ _) | (with_reducible refine Fr.setCell ?_ (by (first | (with_reducible assumption) | omega | (simp only [World.size_alloc, World.size_setCell, World.size_drew, World.heap_drewN]; omega) | (simp; done) | (simp; omega))) _) | (with_reducible refine Fr.trans ?_ (by with_reducible assumption)))⟩
  · have q0 : (a != b) = true := by simpa using h0
    have HQ : Hid (decide (a < b) = p) := Lib.hid (by rw [← HP.out]; unfold edgeLt; rw [if_pos h0])
    clear h0
    go_enter Try.func133, Try.ntmps133
    go_wp2
    go_ret
    exact ⟨ret_bool HQ.out, by repeat (first | (with_reducible exact Fr.refl _) | (with_reducible assumption) | (with_reducible refine Fr.drewN ?_ _) | (with_reducible refine Fr.drew ?_) | (with_reducible refine Fr.alloc ?_ _) | (with_reducible refine Fr.setCell ?_ (by (first | (with_reducible assumption) | omega | (simp only [World.size_alloc, World.size_setCell, World.size_drew, World.heap_drewN]; omega) | (simp; done) | (simp; omega))) _) | (with_reducible refine Fr.trans ?_ (by with_reducible assumption)))⟩
theorem ints2 {w : World} {b : Nat} {x y : Int} {T : TypeId} (h : Box w b #[.int .i64 x, .int .i64 y] T) : IntsR w (.slice (some ⟨b, 0, none⟩) 2 2) [x, y] := by
  refine ⟨rfl, _, _, rfl, Nat.le_refl _, by unfold maxLen; omega, fun _ => ⟨b, 0, rfl, h.lt, fun j hj => ?_⟩⟩
  rw [Nat.zero_add, h.cell]
  match j, hj with
  | 0, _ => rfl
  | 1, _ => rfl
theorem compareEdges_any (x y : EdgeR) (w : World) :
    Calls Try.prog 195 #[.agg #[.int .i64 x.f0, .int .u8 (x.f1.toNat : Int), .int .i64 x.f2], .agg #[.int .i64 y.f0, .int .u8 (y.f1.toNat : Int), .int .i64 y.f2]] w fun e w' => e = .returned (.int .i64 (edgeC x y)) ∧ Fr w w' := by
  obtain ⟨p, hp⟩ : ∃ p, edgeC x y = p := ⟨_, rfl⟩
  rw [hp]
  have HP := Lib.hid hp
  clear hp
  obtain ⟨a, l, t⟩ := x
  obtain ⟨b, m, u⟩ := y
  have hl := l.toNat_lt
  have hm := m.toNat_lt
  by_cases h1 : l = m
  · have q1 : ((l.toNat : Int) != (m.toNat : Int)) = false := by rw [bne_eq_false_iff_eq, byte_eq]; exact h1
    have HQ : Hid (cmpL [a, t] [b, u] = p) := Lib.hid (by rw [← HP.out]; unfold edgeC; rw [if_neg (by simp [h1])])
    clear h1
    go_enter Try.func195, Try.ntmps195
    go_wp2_with fail
    refine (slicesCompare_any _ _ [a, t] [b, u] _ (ints2 (Box.alloc (Box.new' (by simp)) _)) (ints2 (Box.new' (by simp)))).mono ?_
    rintro e w1 ⟨rfl, rfl⟩
    go_wp2_with fail
    go_ret
    exact ⟨ret_int HQ.out, by repeat (first | (with_reducible exact Fr.refl _) | (with_reducible assumption) | (with_reducible refine Fr.drewN ?_ _) | (with_reducible refine Fr.drew ?_) | (with_reducible refine Fr.alloc ?_ _) | (with_reducible refine Fr.setCell ?_ (by (first | (with_reducible assumption) | omega | (simp only [World.size_alloc, World.size_setCell, World.size_drew, World.heap_drewN]; omega) | (simp; done) | (simp; omega))) _) | (with_reducible refine Fr.trans ?_ (by with_reducible assumption)))⟩
  · have q1 : ((l.toNat : Int) != (m.toNat : Int)) = true := by rw [bne_iff_ne]; exact fun h => h1 (byte_eq.1 h)
    by_cases h0 : a = b
    · have q0 : (a == b) = true := by simpa using h0
      have HQ : Hid ((l.toNat : Int) - m.toNat = p) := Lib.hid (by rw [← HP.out]; unfold edgeC; rw [if_pos ⟨h1, h0⟩])
      clear h1 h0
      go_enter Try.func195, Try.ntmps195
      go_wp2_with fail
      go_ret
      exact ⟨ret_int HQ.out, by repeat (first | (with_reducible exact Fr.refl _) | (with_reducible assumption) | (with_reducible refine Fr.drewN ?_ _) | (with_reducible refine Fr.drew ?_) | (with_reducible refine Fr.alloc ?_ _) | (with_reducible refine Fr.setCell ?_ (by (first | (with_reducible assumption) | omega | (simp only [World.size_alloc, World.size_setCell, World.size_drew, World.heap_drewN]; omega) | (simp; done) | (simp; omega))) _) | (with_reducible refine Fr.trans ?_ (by with_reducible assumption)))⟩
    · have q0 : (a == b) = false := by simpa using h0
      have HQ : Hid (cmpL [a, t] [b, u] = p) := Lib.hid (by rw [← HP.out]; unfold edgeC; rw [if_neg (fun h => h0 h.2)])
      clear h1 h0
      go_enter Try.func195, Try.ntmps195
      go_wp2_with fail
      refine (slicesCompare_any _ _ [a, t] [b, u] _ (ints2 (Box.alloc (Box.new' (by simp)) _)) (ints2 (Box.new' (by simp)))).mono ?_
      rintro e w1 ⟨rfl, rfl⟩
      go_wp2_with fail
      go_ret
      exact ⟨ret_int HQ.out, by repeat (first | (with_reducible exact Fr.refl _) | (with_reducible assumption) | (with_reducible refine Fr.drewN ?_ _) | (with_reducible refine Fr.drew ?_) | (with_reducible refine Fr.alloc ?_ _) | (with_reducible refine Fr.setCell ?_ (by (first | (with_reducible assumption) | omega | (simp only [World.size_alloc, World.size_setCell, World.size_drew, World.heap_drewN]; omega) | (simp; done) | (simp; omega))) _) | (with_reducible refine Fr.trans ?_ (by with_reducible assumption)))⟩
theorem implEdgeLess_any (x y : EdgeR) (w : World) :
    Calls Try.prog 175 #[.agg #[.int .i64 x.f0, .int .u8 (x.f1.toNat : Int), .int .i64 x.f2], .agg #[.int .i64 y.f0, .int .u8 (y.f1.toNat : Int), .int .i64 y.f2]] w fun e w' => e = .returned (.bool (edgeLt x y)) ∧ Fr w w' := by
  obtain ⟨c, hc⟩ : ∃ c, edgeC x y = c := ⟨_, rfl⟩
  have CT : Hid (∀ w', Calls Try.prog 195 #[.agg #[.int .i64 x.f0, .int .u8 (x.f1.toNat : Int), .int .i64 x.f2], .agg #[.int .i64 y.f0, .int .u8 (y.f1.toNat : Int), .int .i64 y.f2]] w' fun e w'' => e = .returned (.int .i64 c) ∧ Fr w' w'') := Lib.hid fun w' => by rw [← hc]; exact compareEdges_any x y w'
  have HR : Hid (edgeLt x y = decide (c < 0)) := Lib.hid (by rw [← edgeC_lt, hc])
  clear hc
  go_enter Try.func175, Try.ntmps175
  go_wp2_with (go_at_call 195; refine (CT.out _).mono ?_; rintro e w1 ⟨rfl, hf1⟩)
  go_ret
  exact ⟨ret_bool HR.out.symm, by repeat (first | (with_reducible exact Fr.refl _) | (with_reducible assumption) | (with_reducible refine Fr.drewN ?_ _) | (with_reducible refine Fr.drew ?_) | (with_reducible refine Fr.alloc ?_ _) | (with_reducible refine Fr.setCell ?_ (by (first | (with_reducible assumption) | omega | (simp only [World.size_alloc, World.size_setCell, World.size_drew, World.heap_drewN]; omega) | (simp; done) | (simp; omega))) _) | (with_reducible refine Fr.trans ?_ (by with_reducible assumption)))⟩
theorem isVertex_any (n : Int) (u : Value) (v : Int) (w : World) :
    Calls Try.prog 173 #[.agg #[.int .i64 n, u], .int .i64 v] w fun e w' => e = .returned (.bool (decide (0 ≤ v ∧ v < n))) ∧ Fr w w' := by
  by_cases h0 : 0 ≤ v
  · go_enter Try.func173, Try.ntmps173
    go_wp2
    go_ret
    exact ⟨ret_bool (by simp [h0]), by repeat (first | (with_reducible exact Fr.refl _) | (with_reducible assumption) | (with_reducible refine Fr.drewN ?_ _) | (with_reducible refine Fr.drew ?_) | (with_reducible refine Fr.alloc ?_ _) | (with_reducible refine Fr.setCell ?_ (by (first | (with_reducible assumption) | omega | (simp only [World.size_alloc, World.size_setCell, World.size_drew, World.heap_drewN]; omega) | (simp; done) | (simp; omega))) _) | (with_reducible refine Fr.trans ?_ (by with_reducible assumption)))⟩
  · go_enter Try.func173, Try.ntmps173
    go_wp2
    go_ret
    exact ⟨ret_bool (by first | (simp; done) | (simp; omega)), by repeat (first | (with_reducible exact Fr.refl _) | (with_reducible assumption) | (with_reducible refine Fr.drewN ?_ _) | (with_reducible refine Fr.drew ?_) | (with_reducible refine Fr.alloc ?_ _) | (with_reducible refine Fr.setCell ?_ (by (first | (with_reducible assumption) | omega | (simp only [World.size_alloc, World.size_setCell, World.size_drew, World.heap_drewN]; omega) | (simp; done) | (simp; omega))) _) | (with_reducible refine Fr.trans ?_ (by with_reducible assumption)))⟩
theorem isLabel_any (c : UInt8) (w : World) :
    Calls Try.prog 174 #[.int .u8 (c.toNat : Int)] w fun e w' => e = .returned (.bool (decide (97 ≤ c.toNat ∧ c.toNat ≤ 100))) ∧ w' = w := by
  by_cases h0 : 97 ≤ c.toNat
  · go_enter Try.func174, Try.ntmps174
    go_wp2
    go_ret
    exact ⟨ret_bool (by first | (simp [h0]; done) | (simp [h0]; omega)), rfl⟩
  · go_enter Try.func174, Try.ntmps174
    go_wp2
    go_ret
    exact ⟨ret_bool (by first | (simp; done) | (simp; omega)), rfl⟩
end Go.Proofs.Ytphjlecbhbcbcaa
