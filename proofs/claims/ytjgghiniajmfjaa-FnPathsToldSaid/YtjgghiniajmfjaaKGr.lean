/- Texts in one: Gr, GrOk. -/
import Derived.Test.YtjgghiniajmfjaaCmp
import Derived.Test.YtjgghiniajmfjaaKEdge
import Derived.Deep.RegionHeld3
/- Edges compared, graphs held to be right: of both. No condition. -/
namespace Go.Proofs.Ytjgghiniajmfjaa
open Go.RowKit
set_option linter.unusedVariables false
set_option linter.unusedSimpArgs false
def edgeLt (x y : EdgeR) : Bool := if x.f0 ≠ y.f0 then decide (x.f0 < y.f0) else if x.f1 ≠ y.f1 then decide (x.f1.toNat < y.f1.toNat) else decide (x.f2 < y.f2)
def edgeC (x y : EdgeR) : Int := if x.f1 ≠ y.f1 ∧ x.f0 = y.f0 then (x.f1.toNat : Int) - y.f1.toNat else cmpL [x.f0, x.f2] [y.f0, y.f2]
theorem edgeC_lt (x y : EdgeR) : decide (edgeC x y < 0) = edgeLt x y := by
  rw [Bool.eq_iff_iff, decide_eq_true_eq]
  unfold edgeC edgeLt
  by_cases h0 : x.f0 = y.f0
  · by_cases h1 : x.f1 = y.f1
    · rw [if_neg (by simp [h1]), if_neg (by simp [h0]), if_neg (by simp [h1]), decide_eq_true_eq]
      simp only [cmpL]
      repeat' split
      all_goals omega
    · rw [if_pos ⟨h1, h0⟩, if_neg (by simp [h0]), if_pos h1, decide_eq_true_eq]
      omega
  · rw [if_neg (fun h => h0 h.2), if_pos h0, decide_eq_true_eq]
    simp only [cmpL]
    repeat' split
    all_goals omega
def edgB (n : Int) (x : EdgeR) : Bool := decide (0 ≤ x.f0 ∧ x.f0 < n) && (decide (0 ≤ x.f2 ∧ x.f2 < n) && decide (97 ≤ x.f1.toNat ∧ x.f1.toNat ≤ 100))
def edgK (n : Int) (xs : List EdgeR) (k : Nat) : Bool := edgB n (edgeAt xs k) && (decide (k = 0) || edgeLt (edgeAt xs (k - 1)) (edgeAt xs k))
def graphB (g : GraphD) : Bool := decide (1 ≤ g.f0 ∧ g.f0 ≤ 12) && (decide (g.f1.length ≤ 40) && (List.range g.f1.length).all (edgK g.f0 g.f1))
theorem graphB_size {g : GraphD} (h : ¬ (1 ≤ g.f0 ∧ g.f0 ≤ 12)) : graphB g = false := by unfold graphB; rw [decide_eq_false h, Bool.false_and]
theorem graphB_long {g : GraphD} (h : ¬ g.f1.length ≤ 40) : graphB g = false := by unfold graphB; rw [decide_eq_false h, Bool.false_and, Bool.and_false]
theorem graphB_no {g : GraphD} {k : Nat} (hk : k < g.f1.length) (h : edgK g.f0 g.f1 k = false) : graphB g = false := by unfold graphB; rw [rng_not_all hk h, Bool.and_false, Bool.and_false]
theorem graphB_ok {g : GraphD} (h1 : 1 ≤ g.f0 ∧ g.f0 ≤ 12) (h2 : g.f1.length ≤ 40) (h : ∀ j, j < g.f1.length → edgK g.f0 g.f1 j = true) : graphB g = true := by unfold graphB; rw [rng_all h, decide_eq_true h1, decide_eq_true h2]; rfl
theorem graphB_out {g : GraphD} (h : graphB g = true) : (1 ≤ g.f0 ∧ g.f0 ≤ 12) ∧ g.f1.length ≤ 40 ∧ ∀ j, j < g.f1.length → edgK g.f0 g.f1 j = true := by
  unfold graphB at h
  simp only [Bool.and_eq_true, decide_eq_true_eq, List.all_eq_true] at h
  exact ⟨h.1, h.2.1, fun j hj => h.2.2 j (List.mem_range.2 hj)⟩
theorem edgK_from {n : Int} {xs : List EdgeR} {k : Nat} {x : EdgeR} (hx : edgeAt xs k = x) (h : ¬ (0 ≤ x.f0 ∧ x.f0 < n)) : edgK n xs k = false := by
  unfold edgK edgB; rw [hx, decide_eq_false h]; rfl
theorem edgK_to {n : Int} {xs : List EdgeR} {k : Nat} {x : EdgeR} (hx : edgeAt xs k = x) (h : ¬ (0 ≤ x.f2 ∧ x.f2 < n)) : edgK n xs k = false := by
  unfold edgK edgB; rw [hx, decide_eq_false h, Bool.false_and, Bool.and_false]; rfl
theorem edgK_label {n : Int} {xs : List EdgeR} {k : Nat} {x : EdgeR} (hx : edgeAt xs k = x) (h : ¬ (97 ≤ x.f1.toNat ∧ x.f1.toNat ≤ 100)) : edgK n xs k = false := by
  unfold edgK edgB; rw [hx, decide_eq_false h, Bool.and_false, Bool.and_false]; rfl
theorem edgK_less {n : Int} {xs : List EdgeR} {k : Nat} {x y : EdgeR} (hx : edgeAt xs k = x) (hy : edgeAt xs (k - 1) = y) (hk : 0 < k) (h : edgeLt y x = false) : edgK n xs k = false := by
  unfold edgK; rw [hx, hy, h, decide_eq_false (by omega : ¬ k = 0)]; simp
theorem edgK_ok {n : Int} {xs : List EdgeR} {k : Nat} {x y : EdgeR} (hx : edgeAt xs k = x) (hy : edgeAt xs (k - 1) = y) (h0 : 0 ≤ x.f0 ∧ x.f0 < n) (h2 : 0 ≤ x.f2 ∧ x.f2 < n) (h1 : 97 ≤ x.f1.toNat ∧ x.f1.toNat ≤ 100) (h : k = 0 ∨ edgeLt y x = true) : edgK n xs k = true := by
  unfold edgK edgB; rw [hx, hy, decide_eq_true h0, decide_eq_true h1, decide_eq_true h2]
  rcases h with h | h
  · rw [decide_eq_true h]; rfl
  · rw [h]; simp
theorem byte_eq {x y : UInt8} : ((x.toNat : Int) = y.toNat) ↔ x = y := ⟨fun h => UInt8.toNat_inj.1 (by omega), fun h => by rw [h]⟩
theorem specEdgeLess_any (x y : EdgeR) (w : World) :
    Calls Try.prog 131 #[.agg #[.int .i64 x.f0, .int .u8 (x.f1.toNat : Int), .int .i64 x.f2], .agg #[.int .i64 y.f0, .int .u8 (y.f1.toNat : Int), .int .i64 y.f2]] w fun e w' => e = .returned (.bool (edgeLt x y)) ∧ Fr w w' := by
  obtain ⟨p, hp⟩ : ∃ p, edgeLt x y = p := ⟨_, rfl⟩
  rw [hp]
  have HP := Lib.hid hp
  clear hp
  obtain ⟨a, l, t⟩ := x
  obtain ⟨b, m, u⟩ := y
  have hl := l.toNat_lt
  have hm := m.toNat_lt
  by_cases h0 : a = b
  · have q0 : (a != b) = false := by simpa using h0
    have H0 := Lib.hid h0
    clear h0
    by_cases h1 : l = m
    · have q1 : ((l.toNat : Int) != (m.toNat : Int)) = false := by rw [bne_eq_false_iff_eq, byte_eq]; exact h1
      have HQ : Hid (decide (t < u) = p) := Lib.hid (by rw [← HP.out]; unfold edgeLt; rw [if_neg (by simp [H0.out]), if_neg (by simp [h1])])
      clear h1
      go_enter Try.func131, Try.ntmps131
      go_wp2
      go_ret
      exact ⟨ret_bool HQ.out, by repeat (first | (with_reducible exact Fr.refl _) | (with_reducible assumption) | (with_reducible refine Fr.drewN ?_ _) | (with_reducible refine Fr.drew ?_) | (with_reducible refine Fr.alloc ?_ _) | (with_reducible refine Fr.setCell ?_ (by (first | (with_reducible assumption) | omega | (simp only [World.size_alloc, World.size_setCell, World.size_drew, World.heap_drewN]; omega) | (simp; done) | (simp; omega))) _) | (with_reducible refine Fr.trans ?_ (by with_reducible assumption)))⟩
    · have q1 : ((l.toNat : Int) != (m.toNat : Int)) = true := by rw [bne_iff_ne]; exact fun h => h1 (byte_eq.1 h)
      have HQ : Hid (decide ((l.toNat : Int) < (m.toNat : Int)) = p) := Lib.hid (by rw [← HP.out]; unfold edgeLt; rw [if_neg (by simp [H0.out]), if_pos h1, Bool.eq_iff_iff, decide_eq_true_eq, decide_eq_true_eq]; simp only []; omega)
      clear h1
      go_enter Try.func131, Try.ntmps131
      go_wp2
      go_ret
      exact ⟨ret_bool (by first | exact HQ.out | (rw [← HQ.out]; simp)), by repeat (first | (with_reducible exact Fr.refl _) | (with_reducible assumption) | (with_reducible refine Fr.drewN ?_ _) | (with_reducible refine Fr.drew ?_) | (with_reducible refine Fr.alloc ?_ _) | (with_reducible refine Fr.setCell ?_ (by (first | (with_reducible assumption) | omega | (simp only [World.size_alloc, World.size_setCell, World.size_drew, World.heap_drewN]; omega) | (simp; done) | (simp; omega))) _) | (with_reducible refine Fr.trans ?_ (by with_reducible assumption)))⟩
  · have q0 : (a != b) = true := by simpa using h0
    have HQ : Hid (decide (a < b) = p) := Lib.hid (by rw [← HP.out]; unfold edgeLt; rw [if_pos h0])
    clear h0
    go_enter Try.func131, Try.ntmps131
    go_wp2
    go_ret
    exact ⟨ret_bool HQ.out, by repeat (first | (with_reducible exact Fr.refl _) | (with_reducible assumption) | (with_reducible refine Fr.drewN ?_ _) | (with_reducible refine Fr.drew ?_) | (with_reducible refine Fr.alloc ?_ _) | (with_reducible refine Fr.setCell ?_ (by (first | (with_reducible assumption) | omega | (simp only [World.size_alloc, World.size_setCell, World.size_drew, World.heap_drewN]; omega) | (simp; done) | (simp; omega))) _) | (with_reducible refine Fr.trans ?_ (by with_reducible assumption)))⟩
theorem ints2 {w : World} {b : Nat} {x y : Int} {T : TypeId} (h : Box w b #[.int .i64 x, .int .i64 y] T) : IntsR w (.slice (some ⟨b, 0, none⟩) 2 2) [x, y] := by
  refine ⟨rfl, _, _, rfl, Nat.le_refl _, by unfold maxLen; omega, fun _ => ⟨b, 0, rfl, h.lt, fun j hj => ?_⟩⟩
  rw [Nat.zero_add, h.cell]
  match j, hj with
  | 0, _ => rfl
  | 1, _ => rfl
theorem compareEdges_any (x y : EdgeR) (w : World) :
    Calls Try.prog 205 #[.agg #[.int .i64 x.f0, .int .u8 (x.f1.toNat : Int), .int .i64 x.f2], .agg #[.int .i64 y.f0, .int .u8 (y.f1.toNat : Int), .int .i64 y.f2]] w fun e w' => e = .returned (.int .i64 (edgeC x y)) ∧ Fr w w' := by
  obtain ⟨p, hp⟩ : ∃ p, edgeC x y = p := ⟨_, rfl⟩
  rw [hp]
  have HP := Lib.hid hp
  clear hp
  obtain ⟨a, l, t⟩ := x
  obtain ⟨b, m, u⟩ := y
  have hl := l.toNat_lt
  have hm := m.toNat_lt
  by_cases h1 : l = m
  · have q1 : ((l.toNat : Int) != (m.toNat : Int)) = false := by rw [bne_eq_false_iff_eq, byte_eq]; exact h1
    have HQ : Hid (cmpL [a, t] [b, u] = p) := Lib.hid (by rw [← HP.out]; unfold edgeC; rw [if_neg (by simp [h1])])
    clear h1
    go_enter Try.func205, Try.ntmps205
    go_wp2_with fail
    refine (slicesCompare_any _ _ [a, t] [b, u] _ (ints2 (Box.alloc (Box.new' (by simp)) _)) (ints2 (Box.new' (by simp)))).mono ?_
    rintro e w1 ⟨rfl, rfl⟩
    go_wp2_with fail
    go_ret
    exact ⟨ret_int HQ.out, by repeat (first | (with_reducible exact Fr.refl _) | (with_reducible assumption) | (with_reducible refine Fr.drewN ?_ _) | (with_reducible refine Fr.drew ?_) | (with_reducible refine Fr.alloc ?_ _) | (with_reducible refine Fr.setCell ?_ (by (first | (with_reducible assumption) | omega | (simp only [World.size_alloc, World.size_setCell, World.size_drew, World.heap_drewN]; omega) | (simp; done) | (simp; omega))) _) | (with_reducible refine Fr.trans ?_ (by with_reducible assumption)))⟩
  · have q1 : ((l.toNat : Int) != (m.toNat : Int)) = true := by rw [bne_iff_ne]; exact fun h => h1 (byte_eq.1 h)
    by_cases h0 : a = b
    · have q0 : (a == b) = true := by simpa using h0
      have HQ : Hid ((l.toNat : Int) - m.toNat = p) := Lib.hid (by rw [← HP.out]; unfold edgeC; rw [if_pos ⟨h1, h0⟩])
      clear h1 h0
      go_enter Try.func205, Try.ntmps205
      go_wp2_with fail
      go_ret
      exact ⟨ret_int HQ.out, by repeat (first | (with_reducible exact Fr.refl _) | (with_reducible assumption) | (with_reducible refine Fr.drewN ?_ _) | (with_reducible refine Fr.drew ?_) | (with_reducible refine Fr.alloc ?_ _) | (with_reducible refine Fr.setCell ?_ (by (first | (with_reducible assumption) | omega | (simp only [World.size_alloc, World.size_setCell, World.size_drew, World.heap_drewN]; omega) | (simp; done) | (simp; omega))) _) | (with_reducible refine Fr.trans ?_ (by with_reducible assumption)))⟩
    · have q0 : (a == b) = false := by simpa using h0
      have HQ : Hid (cmpL [a, t] [b, u] = p) := Lib.hid (by rw [← HP.out]; unfold edgeC; rw [if_neg (fun h => h0 h.2)])
      clear h1 h0
      go_enter Try.func205, Try.ntmps205
      go_wp2_with fail
      refine (slicesCompare_any _ _ [a, t] [b, u] _ (ints2 (Box.alloc (Box.new' (by simp)) _)) (ints2 (Box.new' (by simp)))).mono ?_
      rintro e w1 ⟨rfl, rfl⟩
      go_wp2_with fail
      go_ret
      exact ⟨ret_int HQ.out, by repeat (first | (with_reducible exact Fr.refl _) | (with_reducible assumption) | (with_reducible refine Fr.drewN ?_ _) | (with_reducible refine Fr.drew ?_) | (with_reducible refine Fr.alloc ?_ _) | (with_reducible refine Fr.setCell ?_ (by (first | (with_reducible assumption) | omega | (simp only [World.size_alloc, World.size_setCell, World.size_drew, World.heap_drewN]; omega) | (simp; done) | (simp; omega))) _) | (with_reducible refine Fr.trans ?_ (by with_reducible assumption)))⟩
theorem implEdgeLess_any (x y : EdgeR) (w : World) :
    Calls Try.prog 164 #[.agg #[.int .i64 x.f0, .int .u8 (x.f1.toNat : Int), .int .i64 x.f2], .agg #[.int .i64 y.f0, .int .u8 (y.f1.toNat : Int), .int .i64 y.f2]] w fun e w' => e = .returned (.bool (edgeLt x y)) ∧ Fr w w' := by
  obtain ⟨c, hc⟩ : ∃ c, edgeC x y = c := ⟨_, rfl⟩
  have CT : Hid (∀ w', Calls Try.prog 205 #[.agg #[.int .i64 x.f0, .int .u8 (x.f1.toNat : Int), .int .i64 x.f2], .agg #[.int .i64 y.f0, .int .u8 (y.f1.toNat : Int), .int .i64 y.f2]] w' fun e w'' => e = .returned (.int .i64 c) ∧ Fr w' w'') := Lib.hid fun w' => by rw [← hc]; exact compareEdges_any x y w'
  have HR : Hid (edgeLt x y = decide (c < 0)) := Lib.hid (by rw [← edgeC_lt, hc])
  clear hc
  go_enter Try.func164, Try.ntmps164
  go_wp2_with (go_at_call 205; refine (CT.out _).mono ?_; rintro e w1 ⟨rfl, hf1⟩)
  go_ret
  exact ⟨ret_bool HR.out.symm, by repeat (first | (with_reducible exact Fr.refl _) | (with_reducible assumption) | (with_reducible refine Fr.drewN ?_ _) | (with_reducible refine Fr.drew ?_) | (with_reducible refine Fr.alloc ?_ _) | (with_reducible refine Fr.setCell ?_ (by (first | (with_reducible assumption) | omega | (simp only [World.size_alloc, World.size_setCell, World.size_drew, World.heap_drewN]; omega) | (simp; done) | (simp; omega))) _) | (with_reducible refine Fr.trans ?_ (by with_reducible assumption)))⟩
theorem isVertex_any (n : Int) (u : Value) (v : Int) (w : World) :
    Calls Try.prog 91 #[.agg #[.int .i64 n, u], .int .i64 v] w fun e w' => e = .returned (.bool (decide (0 ≤ v ∧ v < n))) ∧ Fr w w' := by
  by_cases h0 : 0 ≤ v
  · go_enter Try.func91, Try.ntmps91
    go_wp2
    go_ret
    exact ⟨ret_bool (by simp [h0]), by repeat (first | (with_reducible exact Fr.refl _) | (with_reducible assumption) | (with_reducible refine Fr.drewN ?_ _) | (with_reducible refine Fr.drew ?_) | (with_reducible refine Fr.alloc ?_ _) | (with_reducible refine Fr.setCell ?_ (by (first | (with_reducible assumption) | omega | (simp only [World.size_alloc, World.size_setCell, World.size_drew, World.heap_drewN]; omega) | (simp; done) | (simp; omega))) _) | (with_reducible refine Fr.trans ?_ (by with_reducible assumption)))⟩
  · go_enter Try.func91, Try.ntmps91
    go_wp2
    go_ret
    exact ⟨ret_bool (by first | (simp; done) | (simp; omega)), by repeat (first | (with_reducible exact Fr.refl _) | (with_reducible assumption) | (with_reducible refine Fr.drewN ?_ _) | (with_reducible refine Fr.drew ?_) | (with_reducible refine Fr.alloc ?_ _) | (with_reducible refine Fr.setCell ?_ (by (first | (with_reducible assumption) | omega | (simp only [World.size_alloc, World.size_setCell, World.size_drew, World.heap_drewN]; omega) | (simp; done) | (simp; omega))) _) | (with_reducible refine Fr.trans ?_ (by with_reducible assumption)))⟩
theorem isLabel_any (c : UInt8) (w : World) :
    Calls Try.prog 163 #[.int .u8 (c.toNat : Int)] w fun e w' => e = .returned (.bool (decide (97 ≤ c.toNat ∧ c.toNat ≤ 100))) ∧ w' = w := by
  by_cases h0 : 97 ≤ c.toNat
  · go_enter Try.func163, Try.ntmps163
    go_wp2
    go_ret
    exact ⟨ret_bool (by first | (simp [h0]; done) | (simp [h0]; omega)), rfl⟩
  · go_enter Try.func163, Try.ntmps163
    go_wp2
    go_ret
    exact ⟨ret_bool (by first | (simp; done) | (simp; omega)), rfl⟩
end Go.Proofs.Ytjgghiniajmfjaa

/- GraphOk of both. No condition. -/
namespace Go.Proofs.Ytjgghiniajmfjaa
open Go.RowKit
set_option linter.unusedVariables false
set_option linter.unusedSimpArgs false
set_option maxHeartbeats 4000000 in
set_option maxRecDepth 100000 in
theorem specGraphOk_any (v : Value) (n : Int) (xs : List EdgeR) (w : World) (hv : EdgesR w v xs) :
    Calls Try.prog 64 #[.agg #[.int .i64 n, v]] w fun e w' => e = .returned (.bool (graphB ⟨n, xs⟩)) ∧ Fr w w' := by
  obtain ⟨ao, ba, oa, ca, rfl, hca, hma, fa⟩ := hv.one
  have FA := Lib.hid fa
  clear hv fa
  by_cases hn : 1 ≤ n ∧ n ≤ 12
  · have gN : decide (1 ≤ n ∧ n ≤ 12) = true := by simp [hn]
    by_cases hl : xs.length ≤ 40
    · have hN : Hid (∀ k, k < xs.length → edgK n xs k = false → graphB ⟨n, xs⟩ = false) := Lib.hid fun k hk h => graphB_no (g := ⟨n, xs⟩) hk h
      have hY : Hid ((∀ j, j < xs.length → edgK n xs j = true) → graphB ⟨n, xs⟩ = true) := Lib.hid fun h => graphB_ok (g := ⟨n, xs⟩) hn hl h
      have hn1 := hn.1
      have hn2 := hn.2
      clear hn
      go_enter Try.func64, Try.ntmps64
      go_wp2_with (go_at_call 94; refine (l01In_any _ _ _ _).mono ?_; rintro e w1 ⟨rfl, rfl⟩)
      go_loopw [3, 4] (fun i _ wr => ∃ k : Nat, k ≤ xs.length ∧ i = .int .i64 k ∧ Fr w wr ∧ Hid (∀ j, j < k → edgK n xs j = true) ∧ Box wr w.heap.size #[.int .i64 n, .slice ao xs.length ca] 32) (fun i _ _ => xs.length - (intOf i).toNat)
      case atStart => exact ⟨0, Nat.zero_le _, rfl, by repeat (first | (with_reducible exact Fr.refl _) | (with_reducible assumption) | (with_reducible refine Fr.drewN ?_ _) | (with_reducible refine Fr.drew ?_) | (with_reducible refine Fr.alloc ?_ _) | (with_reducible refine Fr.setCell ?_ (by (first | (with_reducible assumption) | omega | (simp only [World.size_alloc, World.size_setCell, World.size_drew, World.heap_drewN]; omega) | (simp; done) | (simp; omega))) _) | (with_reducible refine Fr.trans ?_ (by with_reducible assumption))), Lib.hid (fun j hj => absurd hj (by omega)), Box.new _ _ _⟩
      case round =>
        obtain ⟨k, hk, rfl, hfr, hj, BX⟩ := hrel
        have FX := BX.facts
        have zr := BX.lt
        by_cases hlt : k < xs.length
        · obtain ⟨rfl, hba, fa⟩ := FA.out (by omega); obtain ⟨x, hx⟩ : ∃ x, edgeAt xs k = x := ⟨_, rfl⟩; obtain ⟨y, hy⟩ : ∃ y, edgeAt xs (k - 1) = y := ⟨_, rfl⟩; obtain ⟨g0, g1, g2⟩ := fa k hlt; obtain ⟨e0, e1, e2⟩ := fa (k - 1) (by omega); rw [hx] at g0 g1 g2; rw [hy] at e0 e1 e2; have c0 := (hfr.cell (p := ⟨ba, _, none⟩) hba).trans g0; have c1 := (hfr.cell (p := ⟨ba, _, none⟩) hba).trans g1; have c2 := (hfr.cell (p := ⟨ba, _, none⟩) hba).trans g2; have E0 := Lib.hid e0; have E1 := Lib.hid e1; have E2 := Lib.hid e2; have hbw : ba < wr.heap.size := Nat.lt_of_lt_of_le hba hfr.size; have hl := x.f1.toNat_lt; have HX := Lib.hid hx; have HY := Lib.hid hy; clear g0 g1 g2 e0 e1 e2 fa hx hy
          have hwn : IntKind.i64.wrap (n - 1) = n - 1 := IntWalk.i64_in _ (by omega)
          by_cases hf : 0 ≤ x.f0 ∧ x.f0 < n
          · have gF : decide (0 ≤ x.f0 ∧ x.f0 ≤ n - 1) = true := by simp; omega
            by_cases ht : 0 ≤ x.f2 ∧ x.f2 < n
            · have gT : decide (0 ≤ x.f2 ∧ x.f2 ≤ n - 1) = true := by simp; omega
              by_cases hl1 : 97 ≤ x.f1.toNat
              · have gA : decide ((x.f1.toNat : Int) < 97) = false := by simp; omega
                by_cases hl2 : x.f1.toNat ≤ 100
                · have gB : decide (100 < (x.f1.toNat : Int)) = false := by simp; omega
                  have HK := Lib.hid (fun h => edgK_ok (n := n) HX.out HY.out hf ht ⟨hl1, hl2⟩ h)
                  clear hf ht
                  by_cases hz : k = 0
                  · have hF : Hid (edgK n xs k = true) := Lib.hid (HK.out (.inl hz))
                    subst hz
                    simp only [Nat.zero_mul, Nat.add_zero] at c0 c1 c2
                    go_wp2
                    go_quiet (first | (go_at_call 94; exact Calls.quiet_of_same ((l01In_any _ _ _ _).mono fun _ _ h => ⟨h.1, h.2.symm⟩)))
                    go_wp2
                    go_roundw
                    case rel => exact ⟨1, by omega, by go_num, by repeat (first | (with_reducible exact Fr.refl _) | (with_reducible assumption) | (with_reducible refine Fr.drewN ?_ _) | (with_reducible refine Fr.drew ?_) | (with_reducible refine Fr.alloc ?_ _) | (with_reducible refine Fr.setCell ?_ (by (first | (with_reducible assumption) | omega | (simp only [World.size_alloc, World.size_setCell, World.size_drew, World.heap_drewN]; omega) | (simp; done) | (simp; omega))) _) | (with_reducible refine Fr.trans ?_ (by with_reducible assumption))), Lib.hid (fun j h => by obtain rfl : j = 0 := (by omega); exact hF.out), BX.fr (by repeat (first | (with_reducible exact Fr.refl _) | (with_reducible assumption) | (with_reducible refine Fr.drewN ?_ _) | (with_reducible refine Fr.drew ?_) | (with_reducible refine Fr.alloc ?_ _) | (with_reducible refine Fr.setCell ?_ (by (first | (with_reducible assumption) | omega | (simp only [World.size_alloc, World.size_setCell, World.size_drew, World.heap_drewN]; omega) | (simp; done) | (simp; omega))) _) | (with_reducible refine Fr.trans ?_ (by with_reducible assumption))))⟩
                    case measure => (simp [intOf]; omega)
                  · have hk0 : 0 < k := by omega
                    have gk : decide (0 < (k : Int)) = true := by simp; omega
                    have hk2 : ((k - 1 : Nat) : Int) < xs.length := by omega
                    have hwk : IntKind.i64.wrap ((k : Int) - 1) = ((k - 1 : Nat) : Int) := by rw [IntWalk.i64_in _ (by omega)]; omega
                    have RG : ∀ w', Sf (wr.alloc (.cells #[.int .i64 x.f0, .int .u8 (x.f1.toNat : Int), .int .i64 x.f2] 157)) w' → ∀ o, w'.cell? ⟨w.heap.size, o, none⟩ = #[Value.int .i64 n, .slice (some ⟨ba, oa, none⟩) xs.length ca][o]? := fun w' h o => ((BX.alloc _).fr h.out).cell o
                    have RX : ∀ w', Sf (wr.alloc (.cells #[.int .i64 x.f0, .int .u8 (x.f1.toNat : Int), .int .i64 x.f2] 157)) w' → ∀ o, w'.cell? ⟨wr.heap.size, o, none⟩ = #[Value.int .i64 x.f0, .int .u8 (x.f1.toNat : Int), .int .i64 x.f2][o]? := fun w' h o => ((Box.new _ _ _).fr h.out).cell o
                    have P0 : ∀ w', Sf (wr.alloc (.cells #[.int .i64 x.f0, .int .u8 (x.f1.toNat : Int), .int .i64 x.f2] 157)) w' → w'.cell? _ = _ := fun w' h => ((hfr.trans (((Fr.refl _).alloc _).trans h.out)).cell (p := ⟨ba, _, none⟩) hba).trans E0.out
                    have P1 : ∀ w', Sf (wr.alloc (.cells #[.int .i64 x.f0, .int .u8 (x.f1.toNat : Int), .int .i64 x.f2] 157)) w' → w'.cell? _ = _ := fun w' h => ((hfr.trans (((Fr.refl _).alloc _).trans h.out)).cell (p := ⟨ba, _, none⟩) hba).trans E1.out
                    have P2 : ∀ w', Sf (wr.alloc (.cells #[.int .i64 x.f0, .int .u8 (x.f1.toNat : Int), .int .i64 x.f2] 157)) w' → w'.cell? _ = _ := fun w' h => ((hfr.trans (((Fr.refl _).alloc _).trans h.out)).cell (p := ⟨ba, _, none⟩) hba).trans E2.out
                    cases hL : edgeLt y x
                    · have hF := Lib.hid (hN.out k hlt (edgK_less HX.out HY.out hk0 hL))
                      have CT : Hid (∀ w', Calls Try.prog 131 #[.agg #[.int .i64 y.f0, .int .u8 (y.f1.toNat : Int), .int .i64 y.f2], .agg #[.int .i64 x.f0, .int .u8 (x.f1.toNat : Int), .int .i64 x.f2]] w' fun e w'' => e = .returned (.bool false) ∧ Fr w' w'') := Lib.hid fun w' => by rw [← hL]; exact specEdgeLess_any y x w'
                      clear hL
                      go_wp2_with fail
                      go_region_held3 (fun w' => Sf (wr.alloc (.cells #[.int .i64 x.f0, .int .u8 (x.f1.toNat : Int), .int .i64 x.f2] 157)) w') ((refine Sf.mk ?_; repeat (first | (with_reducible exact Fr.refl _) | (with_reducible assumption) | (with_reducible refine Fr.drewN ?_ _) | (with_reducible refine Fr.drew ?_) | (with_reducible refine Fr.alloc ?_ _) | (with_reducible refine Fr.setCell ?_ (by (first | (with_reducible assumption) | omega | (simp only [World.size_alloc, World.size_setCell, World.size_drew, World.heap_drewN]; omega) | (simp; done) | (simp; omega))) _) | (with_reducible refine Fr.trans ?_ (by with_reducible assumption))))) (first | (go_at_call 94; refine (l01In_any _ _ _ _).mono ?_; rintro e w1 ⟨rfl, rfl⟩) | (go_at_call 131; refine (CT.out _).mono ?_; rintro e w5 ⟨rfl, hf5⟩))
                      all_goals
                        go_wp2_with fail
                        go_ret
                        (exact ⟨ret_bool hF.out.symm, by repeat (first | (with_reducible exact Fr.refl _) | (with_reducible assumption) | (with_reducible refine Fr.drewN ?_ _) | (with_reducible refine Fr.drew ?_) | (with_reducible refine Fr.alloc ?_ _) | (with_reducible refine Fr.setCell ?_ (by (first | (with_reducible assumption) | omega | (simp only [World.size_alloc, World.size_setCell, World.size_drew, World.heap_drewN]; omega) | (simp; done) | (simp; omega))) _) | (with_reducible refine Fr.trans ?_ (by with_reducible assumption)))⟩)
                    · have hF : Hid (edgK n xs k = true) := Lib.hid (HK.out (.inr hL))
                      have CT : Hid (∀ w', Calls Try.prog 131 #[.agg #[.int .i64 y.f0, .int .u8 (y.f1.toNat : Int), .int .i64 y.f2], .agg #[.int .i64 x.f0, .int .u8 (x.f1.toNat : Int), .int .i64 x.f2]] w' fun e w'' => e = .returned (.bool true) ∧ Fr w' w'') := Lib.hid fun w' => by rw [← hL]; exact specEdgeLess_any y x w'
                      clear hL
                      go_wp2_with fail
                      go_region_held3 (fun w' => Sf (wr.alloc (.cells #[.int .i64 x.f0, .int .u8 (x.f1.toNat : Int), .int .i64 x.f2] 157)) w') ((refine Sf.mk ?_; repeat (first | (with_reducible exact Fr.refl _) | (with_reducible assumption) | (with_reducible refine Fr.drewN ?_ _) | (with_reducible refine Fr.drew ?_) | (with_reducible refine Fr.alloc ?_ _) | (with_reducible refine Fr.setCell ?_ (by (first | (with_reducible assumption) | omega | (simp only [World.size_alloc, World.size_setCell, World.size_drew, World.heap_drewN]; omega) | (simp; done) | (simp; omega))) _) | (with_reducible refine Fr.trans ?_ (by with_reducible assumption))))) (first | (go_at_call 94; refine (l01In_any _ _ _ _).mono ?_; rintro e w1 ⟨rfl, rfl⟩) | (go_at_call 131; refine (CT.out _).mono ?_; rintro e w5 ⟨rfl, hf5⟩))
                      all_goals
                        clear hwk
                        go_wp2_with fail
                        go_roundw
                        (case rel => exact ⟨k + 1, by omega, by go_num, by repeat (first | (with_reducible exact Fr.refl _) | (with_reducible assumption) | (with_reducible refine Fr.drewN ?_ _) | (with_reducible refine Fr.drew ?_) | (with_reducible refine Fr.alloc ?_ _) | (with_reducible refine Fr.setCell ?_ (by (first | (with_reducible assumption) | omega | (simp only [World.size_alloc, World.size_setCell, World.size_drew, World.heap_drewN]; omega) | (simp; done) | (simp; omega))) _) | (with_reducible refine Fr.trans ?_ (by with_reducible assumption))), Lib.hid (fun j h => (by rcases Nat.lt_succ_iff_lt_or_eq.1 h with h | rfl; exact hj.out j h; exact hF.out)), BX.fr (by repeat (first | (with_reducible exact Fr.refl _) | (with_reducible assumption) | (with_reducible refine Fr.drewN ?_ _) | (with_reducible refine Fr.drew ?_) | (with_reducible refine Fr.alloc ?_ _) | (with_reducible refine Fr.setCell ?_ (by (first | (with_reducible assumption) | omega | (simp only [World.size_alloc, World.size_setCell, World.size_drew, World.heap_drewN]; omega) | (simp; done) | (simp; omega))) _) | (with_reducible refine Fr.trans ?_ (by with_reducible assumption))))⟩); (case measure => (simp [intOf]; omega))
                · have gB : decide (100 < (x.f1.toNat : Int)) = true := by simp; omega
                  have hF := Lib.hid (hN.out k hlt (edgK_label HX.out (by omega)))
                  clear hf ht
                  go_wp2
                  go_quiet (first | (go_at_call 94; exact Calls.quiet_of_same ((l01In_any _ _ _ _).mono fun _ _ h => ⟨h.1, h.2.symm⟩)))
                  go_wp2
                  go_ret
                  (exact ⟨ret_bool hF.out.symm, by repeat (first | (with_reducible exact Fr.refl _) | (with_reducible assumption) | (with_reducible refine Fr.drewN ?_ _) | (with_reducible refine Fr.drew ?_) | (with_reducible refine Fr.alloc ?_ _) | (with_reducible refine Fr.setCell ?_ (by (first | (with_reducible assumption) | omega | (simp only [World.size_alloc, World.size_setCell, World.size_drew, World.heap_drewN]; omega) | (simp; done) | (simp; omega))) _) | (with_reducible refine Fr.trans ?_ (by with_reducible assumption)))⟩)
              · have gA : decide ((x.f1.toNat : Int) < 97) = true := by simp; omega
                have hF := Lib.hid (hN.out k hlt (edgK_label HX.out (by omega)))
                clear hf ht
                go_wp2
                go_quiet (first | (go_at_call 94; exact Calls.quiet_of_same ((l01In_any _ _ _ _).mono fun _ _ h => ⟨h.1, h.2.symm⟩)))
                go_wp2
                go_ret
                (exact ⟨ret_bool hF.out.symm, by repeat (first | (with_reducible exact Fr.refl _) | (with_reducible assumption) | (with_reducible refine Fr.drewN ?_ _) | (with_reducible refine Fr.drew ?_) | (with_reducible refine Fr.alloc ?_ _) | (with_reducible refine Fr.setCell ?_ (by (first | (with_reducible assumption) | omega | (simp only [World.size_alloc, World.size_setCell, World.size_drew, World.heap_drewN]; omega) | (simp; done) | (simp; omega))) _) | (with_reducible refine Fr.trans ?_ (by with_reducible assumption)))⟩)
            · have gT : decide (0 ≤ x.f2 ∧ x.f2 ≤ n - 1) = false := by rw [decide_eq_false_iff_not]; omega
              have hF := Lib.hid (hN.out k hlt (edgK_to HX.out ht))
              clear hf ht
              go_wp2
              go_quiet (first | (go_at_call 94; exact Calls.quiet_of_same ((l01In_any _ _ _ _).mono fun _ _ h => ⟨h.1, h.2.symm⟩)))
              go_wp2
              go_ret
              (exact ⟨ret_bool hF.out.symm, by repeat (first | (with_reducible exact Fr.refl _) | (with_reducible assumption) | (with_reducible refine Fr.drewN ?_ _) | (with_reducible refine Fr.drew ?_) | (with_reducible refine Fr.alloc ?_ _) | (with_reducible refine Fr.setCell ?_ (by (first | (with_reducible assumption) | omega | (simp only [World.size_alloc, World.size_setCell, World.size_drew, World.heap_drewN]; omega) | (simp; done) | (simp; omega))) _) | (with_reducible refine Fr.trans ?_ (by with_reducible assumption)))⟩)
          · have gF : decide (0 ≤ x.f0 ∧ x.f0 ≤ n - 1) = false := by rw [decide_eq_false_iff_not]; omega
            have hF := Lib.hid (hN.out k hlt (edgK_from HX.out hf))
            clear hf
            go_wp2
            go_quiet (first | (go_at_call 94; exact Calls.quiet_of_same ((l01In_any _ _ _ _).mono fun _ _ h => ⟨h.1, h.2.symm⟩)))
            go_wp2
            go_ret
            (exact ⟨ret_bool hF.out.symm, by repeat (first | (with_reducible exact Fr.refl _) | (with_reducible assumption) | (with_reducible refine Fr.drewN ?_ _) | (with_reducible refine Fr.drew ?_) | (with_reducible refine Fr.alloc ?_ _) | (with_reducible refine Fr.setCell ?_ (by (first | (with_reducible assumption) | omega | (simp only [World.size_alloc, World.size_setCell, World.size_drew, World.heap_drewN]; omega) | (simp; done) | (simp; omega))) _) | (with_reducible refine Fr.trans ?_ (by with_reducible assumption)))⟩)
        · have hF : Hid (graphB ⟨n, xs⟩ = true) := Lib.hid (hY.out (fun j h => hj.out j (by omega)))
          go_wp2
          go_ret
          (exact ⟨ret_bool hF.out.symm, by repeat (first | (with_reducible exact Fr.refl _) | (with_reducible assumption) | (with_reducible refine Fr.drewN ?_ _) | (with_reducible refine Fr.drew ?_) | (with_reducible refine Fr.alloc ?_ _) | (with_reducible refine Fr.setCell ?_ (by (first | (with_reducible assumption) | omega | (simp only [World.size_alloc, World.size_setCell, World.size_drew, World.heap_drewN]; omega) | (simp; done) | (simp; omega))) _) | (with_reducible refine Fr.trans ?_ (by with_reducible assumption)))⟩)
    · have hF : Hid (graphB ⟨n, xs⟩ = false) := Lib.hid (graphB_long (g := ⟨n, xs⟩) hl)
      clear hn
      go_enter Try.func64, Try.ntmps64
      go_wp2_with (go_at_call 94; refine (l01In_any _ _ _ _).mono ?_; rintro e w1 ⟨rfl, rfl⟩)
      go_ret
      (exact ⟨ret_bool hF.out.symm, by repeat (first | (with_reducible exact Fr.refl _) | (with_reducible assumption) | (with_reducible refine Fr.drewN ?_ _) | (with_reducible refine Fr.drew ?_) | (with_reducible refine Fr.alloc ?_ _) | (with_reducible refine Fr.setCell ?_ (by (first | (with_reducible assumption) | omega | (simp only [World.size_alloc, World.size_setCell, World.size_drew, World.heap_drewN]; omega) | (simp; done) | (simp; omega))) _) | (with_reducible refine Fr.trans ?_ (by with_reducible assumption)))⟩)
  · have gN : decide (1 ≤ n ∧ n ≤ 12) = false := by simpa using hn
    have hF : Hid (graphB ⟨n, xs⟩ = false) := Lib.hid (graphB_size (g := ⟨n, xs⟩) hn)
    clear hn
    go_enter Try.func64, Try.ntmps64
    go_wp2_with (go_at_call 94; refine (l01In_any _ _ _ _).mono ?_; rintro e w1 ⟨rfl, rfl⟩)
    go_ret
    (exact ⟨ret_bool hF.out.symm, by repeat (first | (with_reducible exact Fr.refl _) | (with_reducible assumption) | (with_reducible refine Fr.drewN ?_ _) | (with_reducible refine Fr.drew ?_) | (with_reducible refine Fr.alloc ?_ _) | (with_reducible refine Fr.setCell ?_ (by (first | (with_reducible assumption) | omega | (simp only [World.size_alloc, World.size_setCell, World.size_drew, World.heap_drewN]; omega) | (simp; done) | (simp; omega))) _) | (with_reducible refine Fr.trans ?_ (by with_reducible assumption)))⟩)
set_option maxHeartbeats 4000000 in
set_option maxRecDepth 100000 in
theorem implGraphOk_any (v : Value) (n : Int) (xs : List EdgeR) (w : World) (hv : EdgesR w v xs) :
    Calls Try.prog 90 #[.agg #[.int .i64 n, v]] w fun e w' => e = .returned (.bool (graphB ⟨n, xs⟩)) ∧ Fr w w' := by
  obtain ⟨ao, ba, oa, ca, rfl, hca, hma, fa⟩ := hv.one
  have FA := Lib.hid fa
  clear hv fa
  by_cases hn1 : 1 ≤ n
  · by_cases hn2 : n ≤ 12
    · by_cases hl : xs.length ≤ 40
      · have hN : Hid (∀ k, k < xs.length → edgK n xs k = false → graphB ⟨n, xs⟩ = false) := Lib.hid fun k hk h => graphB_no (g := ⟨n, xs⟩) hk h
        have hY : Hid ((∀ j, j < xs.length → edgK n xs j = true) → graphB ⟨n, xs⟩ = true) := Lib.hid fun h => graphB_ok (g := ⟨n, xs⟩) ⟨hn1, hn2⟩ hl h
        have CV : Hid (∀ (x : Int) w', Calls Try.prog 91 #[.agg #[.int .i64 n, .slice ao xs.length ca], .int .i64 x] w' fun e w'' => e = .returned (.bool (decide (0 ≤ x ∧ x < n))) ∧ Fr w' w'') := Lib.hid fun x w' => isVertex_any n _ x w'
        go_enter Try.func90, Try.ntmps90
        go_wp2
        go_loopw [3, 4, 22] (fun _ _ i wr => ∃ k : Nat, k ≤ xs.length ∧ i = .int .i64 k ∧ Fr w wr ∧ Hid (∀ j, j < k → edgK n xs j = true) ∧ Box wr w.heap.size #[.int .i64 n, .slice ao xs.length ca] 32) (fun _ _ i _ => xs.length - (intOf i).toNat)
        case atStart => exact ⟨0, Nat.zero_le _, rfl, by repeat (first | (with_reducible exact Fr.refl _) | (with_reducible assumption) | (with_reducible refine Fr.drewN ?_ _) | (with_reducible refine Fr.drew ?_) | (with_reducible refine Fr.alloc ?_ _) | (with_reducible refine Fr.setCell ?_ (by (first | (with_reducible assumption) | omega | (simp only [World.size_alloc, World.size_setCell, World.size_drew, World.heap_drewN]; omega) | (simp; done) | (simp; omega))) _) | (with_reducible refine Fr.trans ?_ (by with_reducible assumption))), Lib.hid (fun j hj => absurd hj (by omega)), Box.new _ _ _⟩
        case round =>
          obtain ⟨k, hk, rfl, hfr, hj, BX⟩ := hrel
          have FX := BX.facts
          have zr := BX.lt
          by_cases hlt : k < xs.length
          · obtain ⟨rfl, hba, fa⟩ := FA.out (by omega); obtain ⟨x, hx⟩ : ∃ x, edgeAt xs k = x := ⟨_, rfl⟩; obtain ⟨y, hy⟩ : ∃ y, edgeAt xs (k - 1) = y := ⟨_, rfl⟩; obtain ⟨g0, g1, g2⟩ := fa k hlt; obtain ⟨e0, e1, e2⟩ := fa (k - 1) (by omega); rw [hx] at g0 g1 g2; rw [hy] at e0 e1 e2; have c0 := (hfr.cell (p := ⟨ba, _, none⟩) hba).trans g0; have c1 := (hfr.cell (p := ⟨ba, _, none⟩) hba).trans g1; have c2 := (hfr.cell (p := ⟨ba, _, none⟩) hba).trans g2; have E0 := Lib.hid e0; have E1 := Lib.hid e1; have E2 := Lib.hid e2; have hbw : ba < wr.heap.size := Nat.lt_of_lt_of_le hba hfr.size; have hl := x.f1.toNat_lt; have HX := Lib.hid hx; have HY := Lib.hid hy; clear g0 g1 g2 e0 e1 e2 fa hx hy
            by_cases hf : 0 ≤ x.f0 ∧ x.f0 < n
            · have gF : decide (0 ≤ x.f0 ∧ x.f0 < n) = true := by simp [hf]
              by_cases ht : 0 ≤ x.f2 ∧ x.f2 < n
              · have gT : decide (0 ≤ x.f2 ∧ x.f2 < n) = true := by simp [ht]
                by_cases hl1 : 97 ≤ x.f1.toNat ∧ x.f1.toNat ≤ 100
                · have gA : decide (97 ≤ x.f1.toNat ∧ x.f1.toNat ≤ 100) = true := by simp [hl1]
                  have HK := Lib.hid (fun h => edgK_ok (n := n) HX.out HY.out hf ht hl1 h)
                  clear hf ht hl1
                  go_wp2_with fail
                  refine (CV.out _ _).mono ?_
                  rintro e w2 ⟨rfl, hf2⟩
                  have BG2 := ((BX.alloc (.cells #[.int .i64 x.f0, .int .u8 (x.f1.toNat : Int), .int .i64 x.f2] 157)).fr hf2)
                  have BE2 : Box w2 wr.heap.size #[.int .i64 x.f0, .int .u8 (x.f1.toNat : Int), .int .i64 x.f2] 157 := (Box.new _ _ _).fr hf2
                  have FG2 := BG2.facts
                  have FE2 := BE2.facts
                  rw [gF]
                  go_wp2_with fail
                  refine (CV.out _ _).mono ?_
                  rintro e w3 ⟨rfl, hf3⟩
                  have BG3 := BG2.fr hf3
                  have BE3 := BE2.fr hf3
                  clear FG2 FE2 FX
                  have FG3 := BG3.facts
                  have FE3 := BE3.facts
                  rw [gT]
                  go_wp2_with fail
                  refine (isLabel_any x.f1 _).mono ?_
                  rintro e w4 ⟨rfl, rfl⟩
                  rw [gA]
                  by_cases hz : k = 0
                  · have hF : Hid (edgK n xs k = true) := Lib.hid (HK.out (.inl hz))
                    subst hz
                    go_wp2
                    go_quiet (fail)
                    go_wp2
                    go_roundw
                    case rel => exact ⟨1, by omega, by go_num, by repeat (first | (with_reducible exact Fr.refl _) | (with_reducible assumption) | (with_reducible refine Fr.drewN ?_ _) | (with_reducible refine Fr.drew ?_) | (with_reducible refine Fr.alloc ?_ _) | (with_reducible refine Fr.setCell ?_ (by (first | (with_reducible assumption) | omega | (simp only [World.size_alloc, World.size_setCell, World.size_drew, World.heap_drewN]; omega) | (simp; done) | (simp; omega))) _) | (with_reducible refine Fr.trans ?_ (by with_reducible assumption))), Lib.hid (fun j h => by obtain rfl : j = 0 := (by omega); exact hF.out), BX.fr (by repeat (first | (with_reducible exact Fr.refl _) | (with_reducible assumption) | (with_reducible refine Fr.drewN ?_ _) | (with_reducible refine Fr.drew ?_) | (with_reducible refine Fr.alloc ?_ _) | (with_reducible refine Fr.setCell ?_ (by (first | (with_reducible assumption) | omega | (simp only [World.size_alloc, World.size_setCell, World.size_drew, World.heap_drewN]; omega) | (simp; done) | (simp; omega))) _) | (with_reducible refine Fr.trans ?_ (by with_reducible assumption))))⟩
                    case measure => (simp [intOf]; omega)
                  · have hk0 : 0 < k := by omega
                    have gk : decide (0 < (k : Int)) = true := by simp; omega
                    have hk2 : ((k - 1 : Nat) : Int) < xs.length := by omega
                    have hwk : IntKind.i64.wrap ((k : Int) - 1) = ((k - 1 : Nat) : Int) := by rw [IntWalk.i64_in _ (by omega)]; omega
                    have hfw : Hid (Fr w w4) := Lib.hid (by repeat (first | (with_reducible exact Fr.refl _) | (with_reducible assumption) | (with_reducible refine Fr.drewN ?_ _) | (with_reducible refine Fr.drew ?_) | (with_reducible refine Fr.alloc ?_ _) | (with_reducible refine Fr.setCell ?_ (by (first | (with_reducible assumption) | omega | (simp only [World.size_alloc, World.size_setCell, World.size_drew, World.heap_drewN]; omega) | (simp; done) | (simp; omega))) _) | (with_reducible refine Fr.trans ?_ (by with_reducible assumption))))
                    have RG : ∀ w', Sf w4 w' → ∀ o, w'.cell? ⟨w.heap.size, o, none⟩ = #[Value.int .i64 n, .slice (some ⟨ba, oa, none⟩) xs.length ca][o]? := fun w' h o => (BG3.fr h.out).cell o
                    have RX : ∀ w', Sf w4 w' → ∀ o, w'.cell? ⟨wr.heap.size, o, none⟩ = #[Value.int .i64 x.f0, .int .u8 (x.f1.toNat : Int), .int .i64 x.f2][o]? := fun w' h o => (BE3.fr h.out).cell o
                    have P0 : ∀ w', Sf w4 w' → w'.cell? _ = _ := fun w' h => ((hfw.out.trans h.out).cell (p := ⟨ba, _, none⟩) hba).trans E0.out
                    have P1 : ∀ w', Sf w4 w' → w'.cell? _ = _ := fun w' h => ((hfw.out.trans h.out).cell (p := ⟨ba, _, none⟩) hba).trans E1.out
                    have P2 : ∀ w', Sf w4 w' → w'.cell? _ = _ := fun w' h => ((hfw.out.trans h.out).cell (p := ⟨ba, _, none⟩) hba).trans E2.out
                    cases hL : edgeLt y x
                    · have hF := Lib.hid (hN.out k hlt (edgK_less HX.out HY.out hk0 hL))
                      have CT : Hid (∀ w', Calls Try.prog 164 #[.agg #[.int .i64 y.f0, .int .u8 (y.f1.toNat : Int), .int .i64 y.f2], .agg #[.int .i64 x.f0, .int .u8 (x.f1.toNat : Int), .int .i64 x.f2]] w' fun e w'' => e = .returned (.bool false) ∧ Fr w' w'') := Lib.hid fun w' => by rw [← hL]; exact implEdgeLess_any y x w'
                      clear hL
                      go_wp2_with fail
                      go_region_held3 (fun w' => Sf w4 w') ((refine Sf.mk ?_; repeat (first | (with_reducible exact Fr.refl _) | (with_reducible assumption) | (with_reducible refine Fr.drewN ?_ _) | (with_reducible refine Fr.drew ?_) | (with_reducible refine Fr.alloc ?_ _) | (with_reducible refine Fr.setCell ?_ (by (first | (with_reducible assumption) | omega | (simp only [World.size_alloc, World.size_setCell, World.size_drew, World.heap_drewN]; omega) | (simp; done) | (simp; omega))) _) | (with_reducible refine Fr.trans ?_ (by with_reducible assumption))))) (first | (go_at_call 164; refine (CT.out _).mono ?_; rintro e w5 ⟨rfl, hf5⟩))
                      all_goals
                        go_wp2_with fail
                        go_ret
                        (exact ⟨ret_bool hF.out.symm, by repeat (first | (with_reducible exact Fr.refl _) | (with_reducible assumption) | (with_reducible refine Fr.drewN ?_ _) | (with_reducible refine Fr.drew ?_) | (with_reducible refine Fr.alloc ?_ _) | (with_reducible refine Fr.setCell ?_ (by (first | (with_reducible assumption) | omega | (simp only [World.size_alloc, World.size_setCell, World.size_drew, World.heap_drewN]; omega) | (simp; done) | (simp; omega))) _) | (with_reducible refine Fr.trans ?_ (by with_reducible assumption)))⟩)
                    · have hF : Hid (edgK n xs k = true) := Lib.hid (HK.out (.inr hL))
                      have CT : Hid (∀ w', Calls Try.prog 164 #[.agg #[.int .i64 y.f0, .int .u8 (y.f1.toNat : Int), .int .i64 y.f2], .agg #[.int .i64 x.f0, .int .u8 (x.f1.toNat : Int), .int .i64 x.f2]] w' fun e w'' => e = .returned (.bool true) ∧ Fr w' w'') := Lib.hid fun w' => by rw [← hL]; exact implEdgeLess_any y x w'
                      clear hL
                      go_wp2_with fail
                      go_region_held3 (fun w' => Sf w4 w') ((refine Sf.mk ?_; repeat (first | (with_reducible exact Fr.refl _) | (with_reducible assumption) | (with_reducible refine Fr.drewN ?_ _) | (with_reducible refine Fr.drew ?_) | (with_reducible refine Fr.alloc ?_ _) | (with_reducible refine Fr.setCell ?_ (by (first | (with_reducible assumption) | omega | (simp only [World.size_alloc, World.size_setCell, World.size_drew, World.heap_drewN]; omega) | (simp; done) | (simp; omega))) _) | (with_reducible refine Fr.trans ?_ (by with_reducible assumption))))) (first | (go_at_call 164; refine (CT.out _).mono ?_; rintro e w5 ⟨rfl, hf5⟩))
                      all_goals
                        clear hwk
                        go_wp2_with fail
                        go_roundw
                        (case rel => exact ⟨k + 1, by omega, by go_num, by repeat (first | (with_reducible exact Fr.refl _) | (with_reducible assumption) | (with_reducible refine Fr.drewN ?_ _) | (with_reducible refine Fr.drew ?_) | (with_reducible refine Fr.alloc ?_ _) | (with_reducible refine Fr.setCell ?_ (by (first | (with_reducible assumption) | omega | (simp only [World.size_alloc, World.size_setCell, World.size_drew, World.heap_drewN]; omega) | (simp; done) | (simp; omega))) _) | (with_reducible refine Fr.trans ?_ (by with_reducible assumption))), Lib.hid (fun j h => (by rcases Nat.lt_succ_iff_lt_or_eq.1 h with h | rfl; exact hj.out j h; exact hF.out)), BX.fr (by repeat (first | (with_reducible exact Fr.refl _) | (with_reducible assumption) | (with_reducible refine Fr.drewN ?_ _) | (with_reducible refine Fr.drew ?_) | (with_reducible refine Fr.alloc ?_ _) | (with_reducible refine Fr.setCell ?_ (by (first | (with_reducible assumption) | omega | (simp only [World.size_alloc, World.size_setCell, World.size_drew, World.heap_drewN]; omega) | (simp; done) | (simp; omega))) _) | (with_reducible refine Fr.trans ?_ (by with_reducible assumption))))⟩); (case measure => (simp [intOf]; omega))
                · have gA : decide (97 ≤ x.f1.toNat ∧ x.f1.toNat ≤ 100) = false := by simpa using hl1
                  have hF := Lib.hid (hN.out k hlt (edgK_label HX.out hl1))
                  clear hf ht hl1
                  go_wp2_with fail
                  refine (CV.out _ _).mono ?_
                  rintro e w2 ⟨rfl, hf2⟩
                  have BG2 := ((BX.alloc (.cells #[.int .i64 x.f0, .int .u8 (x.f1.toNat : Int), .int .i64 x.f2] 157)).fr hf2)
                  have BE2 : Box w2 wr.heap.size #[.int .i64 x.f0, .int .u8 (x.f1.toNat : Int), .int .i64 x.f2] 157 := (Box.new _ _ _).fr hf2
                  have FG2 := BG2.facts
                  have FE2 := BE2.facts
                  rw [gF]
                  go_wp2_with fail
                  refine (CV.out _ _).mono ?_
                  rintro e w3 ⟨rfl, hf3⟩
                  have BG3 := BG2.fr hf3
                  have BE3 := BE2.fr hf3
                  clear FG2 FE2 FX
                  have FG3 := BG3.facts
                  have FE3 := BE3.facts
                  rw [gT]
                  go_wp2_with fail
                  refine (isLabel_any x.f1 _).mono ?_
                  rintro e w4 ⟨rfl, rfl⟩
                  rw [gA]
                  go_wp2
                  go_ret
                  (exact ⟨ret_bool hF.out.symm, by repeat (first | (with_reducible exact Fr.refl _) | (with_reducible assumption) | (with_reducible refine Fr.drewN ?_ _) | (with_reducible refine Fr.drew ?_) | (with_reducible refine Fr.alloc ?_ _) | (with_reducible refine Fr.setCell ?_ (by (first | (with_reducible assumption) | omega | (simp only [World.size_alloc, World.size_setCell, World.size_drew, World.heap_drewN]; omega) | (simp; done) | (simp; omega))) _) | (with_reducible refine Fr.trans ?_ (by with_reducible assumption)))⟩)
              · have gT : decide (0 ≤ x.f2 ∧ x.f2 < n) = false := by simpa using ht
                have hF := Lib.hid (hN.out k hlt (edgK_to HX.out ht))
                clear hf ht
                go_wp2_with fail
                refine (CV.out _ _).mono ?_
                rintro e w2 ⟨rfl, hf2⟩
                have BG2 := ((BX.alloc (.cells #[.int .i64 x.f0, .int .u8 (x.f1.toNat : Int), .int .i64 x.f2] 157)).fr hf2)
                have BE2 : Box w2 wr.heap.size #[.int .i64 x.f0, .int .u8 (x.f1.toNat : Int), .int .i64 x.f2] 157 := (Box.new _ _ _).fr hf2
                have FG2 := BG2.facts
                have FE2 := BE2.facts
                rw [gF]
                go_wp2_with fail
                refine (CV.out _ _).mono ?_
                rintro e w3 ⟨rfl, hf3⟩
                rw [gT]
                go_wp2
                go_ret
                (exact ⟨ret_bool hF.out.symm, by repeat (first | (with_reducible exact Fr.refl _) | (with_reducible assumption) | (with_reducible refine Fr.drewN ?_ _) | (with_reducible refine Fr.drew ?_) | (with_reducible refine Fr.alloc ?_ _) | (with_reducible refine Fr.setCell ?_ (by (first | (with_reducible assumption) | omega | (simp only [World.size_alloc, World.size_setCell, World.size_drew, World.heap_drewN]; omega) | (simp; done) | (simp; omega))) _) | (with_reducible refine Fr.trans ?_ (by with_reducible assumption)))⟩)
            · have gF : decide (0 ≤ x.f0 ∧ x.f0 < n) = false := by simpa using hf
              have hF := Lib.hid (hN.out k hlt (edgK_from HX.out hf))
              clear hf
              go_wp2_with fail
              refine (CV.out _ _).mono ?_
              rintro e w2 ⟨rfl, hf2⟩
              rw [gF]
              go_wp2
              go_ret
              (exact ⟨ret_bool hF.out.symm, by repeat (first | (with_reducible exact Fr.refl _) | (with_reducible assumption) | (with_reducible refine Fr.drewN ?_ _) | (with_reducible refine Fr.drew ?_) | (with_reducible refine Fr.alloc ?_ _) | (with_reducible refine Fr.setCell ?_ (by (first | (with_reducible assumption) | omega | (simp only [World.size_alloc, World.size_setCell, World.size_drew, World.heap_drewN]; omega) | (simp; done) | (simp; omega))) _) | (with_reducible refine Fr.trans ?_ (by with_reducible assumption)))⟩)
          · have hF : Hid (graphB ⟨n, xs⟩ = true) := Lib.hid (hY.out (fun j h => hj.out j (by omega)))
            go_wp2
            go_ret
            (exact ⟨ret_bool hF.out.symm, by repeat (first | (with_reducible exact Fr.refl _) | (with_reducible assumption) | (with_reducible refine Fr.drewN ?_ _) | (with_reducible refine Fr.drew ?_) | (with_reducible refine Fr.alloc ?_ _) | (with_reducible refine Fr.setCell ?_ (by (first | (with_reducible assumption) | omega | (simp only [World.size_alloc, World.size_setCell, World.size_drew, World.heap_drewN]; omega) | (simp; done) | (simp; omega))) _) | (with_reducible refine Fr.trans ?_ (by with_reducible assumption)))⟩)
      · have hF : Hid (graphB ⟨n, xs⟩ = false) := Lib.hid (graphB_long (g := ⟨n, xs⟩) hl)
        go_enter Try.func90, Try.ntmps90
        go_wp2
        go_ret
        (exact ⟨ret_bool hF.out.symm, by repeat (first | (with_reducible exact Fr.refl _) | (with_reducible assumption) | (with_reducible refine Fr.drewN ?_ _) | (with_reducible refine Fr.drew ?_) | (with_reducible refine Fr.alloc ?_ _) | (with_reducible refine Fr.setCell ?_ (by (first | (with_reducible assumption) | omega | (simp only [World.size_alloc, World.size_setCell, World.size_drew, World.heap_drewN]; omega) | (simp; done) | (simp; omega))) _) | (with_reducible refine Fr.trans ?_ (by with_reducible assumption)))⟩)
    · have hF : Hid (graphB ⟨n, xs⟩ = false) := Lib.hid (graphB_size (g := ⟨n, xs⟩) (by show ¬ (1 ≤ n ∧ n ≤ 12); omega))
      go_enter Try.func90, Try.ntmps90
      go_wp2
      go_ret
      (exact ⟨ret_bool hF.out.symm, by repeat (first | (with_reducible exact Fr.refl _) | (with_reducible assumption) | (with_reducible refine Fr.drewN ?_ _) | (with_reducible refine Fr.drew ?_) | (with_reducible refine Fr.alloc ?_ _) | (with_reducible refine Fr.setCell ?_ (by (first | (with_reducible assumption) | omega | (simp only [World.size_alloc, World.size_setCell, World.size_drew, World.heap_drewN]; omega) | (simp; done) | (simp; omega))) _) | (with_reducible refine Fr.trans ?_ (by with_reducible assumption)))⟩)
  · have hF : Hid (graphB ⟨n, xs⟩ = false) := Lib.hid (graphB_size (g := ⟨n, xs⟩) (by show ¬ (1 ≤ n ∧ n ≤ 12); omega))
    go_enter Try.func90, Try.ntmps90
    go_wp2
    go_ret
    (exact ⟨ret_bool hF.out.symm, by repeat (first | (with_reducible exact Fr.refl _) | (with_reducible assumption) | (with_reducible refine Fr.drewN ?_ _) | (with_reducible refine Fr.drew ?_) | (with_reducible refine Fr.alloc ?_ _) | (with_reducible refine Fr.setCell ?_ (by (first | (with_reducible assumption) | omega | (simp only [World.size_alloc, World.size_setCell, World.size_drew, World.heap_drewN]; omega) | (simp; done) | (simp; omega))) _) | (with_reducible refine Fr.trans ?_ (by with_reducible assumption)))⟩)
end Go.Proofs.Ytjgghiniajmfjaa
