/- Rows compared, bags held to be right: of both. No condition. -/
import Derived.Test.YtphjlecbhbcbcaaItem
namespace Go.Proofs.Ytphjlecbhbcbcaa
open Go.RowKit
set_option linter.unusedVariables false
set_option linter.unusedSimpArgs false
theorem specRowLess_any (va vb : Value) (a b : List Int) (w : World) (ha : IntsR w va a) (hb : IntsR w vb b) :
    Calls Try.prog 191 #[va, vb] w fun e w' => e = .returned (.bool (rowLt a b)) ∧ ∃ m, w' = w.drewN m := by
  obtain ⟨ao, ba, oa, ca, rfl, hca, hma, fa⟩ := ha.one
  obtain ⟨bo, bb, ob, cb, rfl, hcb, hmb, fb⟩ := hb.one
  have FA := Lib.hid fa
  have FB := Lib.hid fb
  clear ha hb fa fb
  obtain ⟨R, hR⟩ : ∃ R, cmpL a b = R := ⟨_, rfl⟩
  have HR : Hid (rowLt a b = decide (R < 0)) := by show rowLt a b = _; unfold rowLt; rw [hR]
  go_enter Try.func191, Try.ntmps191
  go_wp2
  go_loopw [5] (fun i wr => ∃ k : Nat, k ≤ a.length ∧ k ≤ b.length ∧ i = .int .i64 k ∧ (∃ m, wr = w.drewN m) ∧ Hid (cmpL (a.drop k) (b.drop k) = R)) (fun i _ => a.length - (intOf i).toNat)
  case atStart => exact ⟨0, Nat.zero_le _, Nat.zero_le _, rfl, ⟨0, rfl⟩, Lib.hid (by simpa using hR)⟩
  case round =>
    clear hR
    obtain ⟨k, hk1, hk2, rfl, ⟨md, rfl⟩, hj⟩ := hrel
    by_cases hlt1 : k < a.length
    · by_cases hlt2 : k < b.length
      · obtain ⟨rfl, hba, fa⟩ := FA.out (by omega)
        obtain ⟨rfl, hbb, fb⟩ := FB.out (by omega)
        obtain ⟨x, hx⟩ : ∃ x, iAt a k = x := ⟨_, rfl⟩
        obtain ⟨y, hy⟩ : ∃ y, iAt b k = y := ⟨_, rfl⟩
        have c1 := fa k hlt1
        have c2 := fb k hlt2
        rw [hx] at c1
        rw [hy] at c2
        have hst := Lib.hid (cmpL_step hlt1 hlt2 hx hy)
        clear fa fb hx hy
        by_cases he : x = y
        · have he' : (x != y) = false := by simpa using he
          have hj2 : Hid (cmpL (a.drop (k + 1)) (b.drop (k + 1)) = R) := Lib.hid (by have := hst.out; rw [hj.out, if_neg (by omega), if_neg (by omega)] at this; exact this.symm)
          clear he
          go_wp2
          go_quiet (fail)
          go_wp2
          go_roundw
          case rel => exact ⟨k + 1, by omega, by omega, by go_num, ⟨_, rfl⟩, hj2⟩
          case measure => (simp [intOf]; omega)
        · have he' : (x != y) = true := by simpa using he
          have hj2 : Hid (decide (R < 0) = decide (x < y)) := Lib.hid (by
            have := hst.out
            rw [hj.out] at this
            rw [this]
            by_cases h : x < y
            · simp [h]
            · rw [if_neg h, if_pos (by omega)]; simp [h])
          clear he
          go_wp2
          go_quiet (fail)
          go_wp2
          go_quiet (fail)
          go_wp2
          go_ret
          exact ⟨ret_bool (by rw [HR.out, hj2.out]), ⟨_, by simp only [World.drewN_drewN]; rfl⟩⟩
      · have hj2 : Hid (decide (R < 0) = decide (a.length < b.length)) := Lib.hid (by
          rw [← hj.out, cmpL_endB hlt1 (by omega)]
          symm; rw [decide_eq_false (by omega)]; rfl)
        go_wp2
        go_ret
        exact ⟨ret_bool (by rw [HR.out, hj2.out]), ⟨_, rfl⟩⟩
    · have hj2 : Hid (decide (R < 0) = decide (a.length < b.length)) := Lib.hid (by
        by_cases h : k < b.length
        · rw [← hj.out, cmpL_endA (by omega) h, decide_eq_true (by omega : a.length < b.length)]; rfl
        · rw [← hj.out, cmpL_end (by omega) (by omega), decide_eq_false (by omega : ¬ a.length < b.length)]; rfl)
      go_wp2
      go_ret
      exact ⟨ret_bool (by rw [HR.out, hj2.out]), ⟨_, rfl⟩⟩
theorem l03Row_any (v : Value) (l : List Int) (w : World) (hv : IntsR w v l) :
    Calls Try.prog 190 #[v] w fun e w' => e = .returned (.bool (rowB l)) ∧ w' = w := by
  obtain ⟨ao, ba, oa, ca, rfl, hca, hma, fa⟩ := hv.one
  have FA := Lib.hid fa
  clear hv fa
  go_enter Try.func190, Try.ntmps190
  go_wp2
  go_loop [3] (fun i => ∃ k : Nat, k ≤ l.length ∧ i = .int .i64 k ∧ Hid (∀ j, j < k → 0 ≤ iAt l j ∧ iAt l j ≤ 99)) (fun i => l.length - (intOf i).toNat)
  case atStart => exact ⟨0, Nat.zero_le _, rfl, fun j hj => absurd hj (by omega)⟩
  case round =>
    obtain ⟨k, hk, rfl, hj⟩ := hrel
    by_cases hlt : k < l.length
    · obtain ⟨rfl, hba, fa⟩ := FA.out (by omega)
      have c1 := fa k hlt
      obtain ⟨x, hx⟩ : ∃ x, iAt l k = x := ⟨_, rfl⟩
      rw [hx] at c1
      have HX := Lib.hid hx
      clear fa hx
      by_cases hb : 0 ≤ x ∧ x ≤ 99
      · have g1 : decide (0 ≤ x ∧ x ≤ 99) = true := by simp [hb]
        have HB := Lib.hid hb
        clear hb
        go_wp2_with (go_at_call 84; refine (l01In_any _ _ _ _).mono ?_; rintro e w1 ⟨rfl, rfl⟩)
        go_round
        case rel => exact ⟨k + 1, by omega, by go_num, fun j h => by rcases Nat.lt_succ_iff_lt_or_eq.1 h with h | rfl; exact hj.out j h; rw [HX.out]; exact HB.out⟩
        case measure => (simp [intOf]; omega)
      · have g1 : decide (0 ≤ x ∧ x ≤ 99) = false := by simpa using hb
        have HB : Hid (rowB l = false) := Lib.hid (rowB_no hlt HX.out hb)
        clear hb
        go_wp2_with (go_at_call 84; refine (l01In_any _ _ _ _).mono ?_; rintro e w1 ⟨rfl, rfl⟩)
        go_ret
        exact ⟨ret_bool HB.out.symm, rfl⟩
    · have HB : Hid (rowB l = decide ((l.length : Int) ≤ 4)) := Lib.hid (rowB_end (fun j h => hj.out j (by omega)))
      go_wp2
      go_ret
      exact ⟨ret_bool HB.out.symm, rfl⟩
theorem rowOk_any (v : Value) (l : List Int) (w : World) (hv : IntsR w v l) :
    Calls Try.prog 192 #[v] w fun e w' => e = .returned (.bool (rowB l)) ∧ w' = w := by
  obtain ⟨ao, ba, oa, ca, rfl, hca, hma, fa⟩ := hv.one
  have FA := Lib.hid fa
  clear hv fa
  by_cases hl : l.length ≤ 4
  · go_enter Try.func192, Try.ntmps192
    go_wp2
    go_loop [10] (fun i => ∃ k : Nat, k ≤ l.length ∧ i = .int .i64 k ∧ Hid (∀ j, j < k → 0 ≤ iAt l j ∧ iAt l j ≤ 99)) (fun i => l.length - (intOf i).toNat)
    case atStart => exact ⟨0, Nat.zero_le _, rfl, fun j hj => absurd hj (by omega)⟩
    case round =>
      obtain ⟨k, hk, rfl, hj⟩ := hrel
      by_cases hlt : k < l.length
      · obtain ⟨rfl, hba, fa⟩ := FA.out (by omega)
        have c1 := fa k hlt
        obtain ⟨x, hx⟩ : ∃ x, iAt l k = x := ⟨_, rfl⟩
        rw [hx] at c1
        have HX := Lib.hid hx
        clear fa hx
        by_cases h0 : x < 0
        · have HB : Hid (rowB l = false) := Lib.hid (rowB_no hlt HX.out (by omega))
          go_wp2
          go_ret
          exact ⟨ret_bool HB.out.symm, rfl⟩
        · by_cases h1 : 99 < x
          · have HB : Hid (rowB l = false) := Lib.hid (rowB_no hlt HX.out (by omega))
            go_wp2
            go_ret
            exact ⟨ret_bool HB.out.symm, rfl⟩
          · have HB : Hid (0 ≤ x ∧ x ≤ 99) := ⟨by omega, by omega⟩
            go_wp2
            go_round
            case rel => exact ⟨k + 1, by omega, by go_num, fun j h => by rcases Nat.lt_succ_iff_lt_or_eq.1 h with h | rfl; exact hj.out j h; rw [HX.out]; exact HB.out⟩
            case measure => (simp [intOf]; omega)
      · have HB : Hid (rowB l = true) := Lib.hid (by rw [rowB_end (fun j h => hj.out j (by omega)), decide_eq_true_eq]; omega)
        go_wp2
        go_ret
        exact ⟨ret_bool HB.out.symm, rfl⟩
  · have HB : Hid (rowB l = false) := Lib.hid (by unfold rowB; rw [decide_eq_false hl]; rfl)
    go_enter Try.func192, Try.ntmps192
    go_wp2
    go_ret
    exact ⟨ret_bool HB.out.symm, rfl⟩
theorem timesOk_any (n : Int) (w : World) :
    Calls Try.prog 193 #[.int .i64 n] w fun e w' => e = .returned (.bool (decide (1 ≤ n ∧ n ≤ 1000000))) ∧ w' = w := by
  by_cases h1 : 1 ≤ n
  · go_enter Try.func193, Try.ntmps193
    go_wp2
    go_ret
    exact ⟨ret_bool (by simp [h1]), rfl⟩
  · go_enter Try.func193, Try.ntmps193
    go_wp2
    go_ret
    exact ⟨ret_bool (by simp; omega), rfl⟩
def cmp1 (x y : Int) : Int := if x < y then -1 else if y < x then 1 else 0
theorem isNaN_any (x : Int) (w : World) :
    Calls Try.prog 223 #[.int .i64 x] w fun e w' => e = .returned (.bool false) ∧ w' = w := by
  have h : (x != x) = false := by simp
  go_enter Try.func223, Try.ntmps223
  go_wp2
  go_ret
  exact ⟨by simp, rfl⟩
theorem cmpCompare_any (x y : Int) (w : World) :
    Calls Try.prog 217 #[.int .i64 x, .int .i64 y] w fun e w' => e = .returned (.int .i64 (cmp1 x y)) ∧ w' = w := by
  by_cases h1 : x < y
  · have HC : Hid (cmp1 x y = -1) := Lib.hid (if_pos h1)
    go_enter Try.func217, Try.ntmps217
    go_wp2_with (go_at_call 223; refine (isNaN_any _ _).mono ?_; rintro e w1 ⟨rfl, rfl⟩)
    go_ret
    exact ⟨ret_int HC.out.symm, rfl⟩
  · by_cases h2 : y < x
    · have HC : Hid (cmp1 x y = 1) := Lib.hid (by unfold cmp1; rw [if_neg h1, if_pos h2])
      go_enter Try.func217, Try.ntmps217
      go_wp2_with (go_at_call 223; refine (isNaN_any _ _).mono ?_; rintro e w1 ⟨rfl, rfl⟩)
      go_ret
      exact ⟨ret_int HC.out.symm, rfl⟩
    · have HC : Hid (cmp1 x y = 0) := Lib.hid (by unfold cmp1; rw [if_neg h1, if_neg h2])
      go_enter Try.func217, Try.ntmps217
      go_wp2_with (go_at_call 223; refine (isNaN_any _ _).mono ?_; rintro e w1 ⟨rfl, rfl⟩)
      go_ret
      exact ⟨ret_int HC.out.symm, rfl⟩
theorem slicesCompare_any (va vb : Value) (a b : List Int) (w : World) (ha : IntsR w va a) (hb : IntsR w vb b) :
    Calls Try.prog 207 #[va, vb] w fun e w' => e = .returned (.int .i64 (cmpL a b)) ∧ w' = w := by
  obtain ⟨ao, ba, oa, ca, rfl, hca, hma, fa⟩ := ha.one
  obtain ⟨bo, bb, ob, cb, rfl, hcb, hmb, fb⟩ := hb.one
  have FA := Lib.hid fa
  have FB := Lib.hid fb
  clear ha hb fa fb
  obtain ⟨R, hR⟩ : ∃ R, cmpL a b = R := ⟨_, rfl⟩
  have HR := Lib.hid hR
  go_enter Try.func207, Try.ntmps207
  go_wp2
  go_loop [5, 6, 7, 8, 11] (fun _ _ _ _ i => ∃ k : Nat, k ≤ a.length ∧ k ≤ b.length ∧ i = .int .i64 k ∧ Hid (cmpL (a.drop k) (b.drop k) = R)) (fun _ _ _ _ i => a.length - (intOf i).toNat)
  case atStart => exact ⟨0, Nat.zero_le _, Nat.zero_le _, rfl, Lib.hid (by simpa using hR)⟩
  case round =>
    clear hR
    obtain ⟨k, hk1, hk2, rfl, hj⟩ := hrel
    by_cases hlt1 : k < a.length
    · obtain ⟨rfl, hba, fa⟩ := FA.out (by omega)
      have c1 := fa k hlt1
      obtain ⟨x, hx⟩ : ∃ x, iAt a k = x := ⟨_, rfl⟩
      rw [hx] at c1
      by_cases hlt2 : k < b.length
      · obtain ⟨rfl, hbb, fb⟩ := FB.out (by omega)
        obtain ⟨y, hy⟩ : ∃ y, iAt b k = y := ⟨_, rfl⟩
        have c2 := fb k hlt2
        rw [hy] at c2
        have hst := Lib.hid (cmpL_step hlt1 hlt2 hx hy)
        clear fa fb hx hy
        rcases Int.lt_trichotomy x y with he | he | he
        · have hc : cmp1 x y = -1 := if_pos he
          have hj2 : Hid (R = -1) := Lib.hid (by have := hst.out; rw [hj.out, if_pos he] at this; exact this)
          have CT : Hid (∀ w', Calls Try.prog 217 #[.int .i64 x, .int .i64 y] w' fun e w'' => e = .returned (.int .i64 (-1)) ∧ w'' = w') := fun w' => by have := cmpCompare_any x y w'; rw [hc] at this; exact this
          clear hc
          go_wp2_with (go_at_call 217; refine (CT.out _).mono ?_; rintro e w1 ⟨rfl, rfl⟩)
          go_ret
          exact ⟨ret_int (by rw [HR.out, hj2.out]), rfl⟩
        · have hc : cmp1 x y = 0 := by unfold cmp1; rw [if_neg (by omega), if_neg (by omega)]
          have hj2 : Hid (cmpL (a.drop (k + 1)) (b.drop (k + 1)) = R) := Lib.hid (by have := hst.out; rw [hj.out, if_neg (by omega), if_neg (by omega)] at this; exact this.symm)
          have CT : Hid (∀ w', Calls Try.prog 217 #[.int .i64 x, .int .i64 y] w' fun e w'' => e = .returned (.int .i64 0) ∧ w'' = w') := fun w' => by have := cmpCompare_any x y w'; rw [hc] at this; exact this
          clear hc he
          go_wp2_with (go_at_call 217; refine (CT.out _).mono ?_; rintro e w1 ⟨rfl, rfl⟩)
          go_round
          case rel => exact ⟨k + 1, by omega, by omega, by go_num, hj2⟩
          case measure => (simp [intOf]; omega)
        · have hc : cmp1 x y = 1 := by unfold cmp1; rw [if_neg (by omega), if_pos he]
          have hj2 : Hid (R = 1) := Lib.hid (by have := hst.out; rw [hj.out, if_neg (by omega), if_pos he] at this; exact this)
          have CT : Hid (∀ w', Calls Try.prog 217 #[.int .i64 x, .int .i64 y] w' fun e w'' => e = .returned (.int .i64 1) ∧ w'' = w') := fun w' => by have := cmpCompare_any x y w'; rw [hc] at this; exact this
          clear hc
          go_wp2_with (go_at_call 217; refine (CT.out _).mono ?_; rintro e w1 ⟨rfl, rfl⟩)
          go_ret
          exact ⟨ret_int (by rw [HR.out, hj2.out]), rfl⟩
      · have hj2 : Hid (R = 1) := Lib.hid (by rw [← hj.out, cmpL_endB hlt1 (by omega)])
        clear fa hx
        go_wp2
        go_ret
        exact ⟨ret_int (by rw [HR.out, hj2.out]), rfl⟩
    · by_cases h : a.length < b.length
      · have hj2 : Hid (R = -1) := Lib.hid (by rw [← hj.out, cmpL_endA (by omega) (by omega)])
        go_wp2
        go_ret
        exact ⟨ret_int (by rw [HR.out, hj2.out]), rfl⟩
      · have hj2 : Hid (R = 0) := Lib.hid (by rw [← hj.out, cmpL_end (by omega) (by omega)])
        go_wp2
        go_ret
        exact ⟨ret_int (by rw [HR.out, hj2.out]), rfl⟩
theorem implRowLess_any (va vb : Value) (a b : List Int) (w : World) (ha : IntsR w va a) (hb : IntsR w vb b) :
    Calls Try.prog 194 #[va, vb] w fun e w' => e = .returned (.bool (rowLt a b)) ∧ w' = w := by
  obtain ⟨c, hc⟩ : ∃ c, cmpL a b = c := ⟨_, rfl⟩
  have CT : Hid (∀ w', w' = w → Calls Try.prog 207 #[va, vb] w' fun e w'' => e = .returned (.int .i64 c) ∧ w'' = w') := fun w' h => by subst h; rw [← hc]; exact slicesCompare_any va vb a b w' ha hb
  have HR : Hid (rowLt a b = decide (c < 0)) := Lib.hid (by unfold rowLt; rw [hc])
  clear hc ha hb
  go_enter Try.func194, Try.ntmps194
  go_wp2_with (go_at_call 207; refine (CT.out _ rfl).mono ?_; rintro e w1 ⟨rfl, rfl⟩)
  go_ret
  exact ⟨ret_bool HR.out.symm, rfl⟩
theorem bagK_no {xs : List ItemD} {k : Nat} {x : ItemD} (hx : itmAt xs k = x) (h : itemB x = false) : bagK xs k = false := by
  unfold bagK; rw [hx, h]; rfl
theorem itemB_row {x : ItemD} (h : rowB x.f0 = false) : itemB x = false := by unfold itemB; rw [h]; rfl
theorem itemB_times {x : ItemD} (h : ¬ (1 ≤ x.f1 ∧ x.f1 ≤ 1000000)) : itemB x = false := by unfold itemB; rw [decide_eq_false h, Bool.and_false]
theorem itemB_ok {x : ItemD} (h0 : rowB x.f0 = true) (h : 1 ≤ x.f1 ∧ x.f1 ≤ 1000000) : itemB x = true := by unfold itemB; rw [decide_eq_true h, h0]; rfl
theorem bagK_less {xs : List ItemD} {k : Nat} {x y : ItemD} (hx : itmAt xs k = x) (hy : itmAt xs (k - 1) = y) (hk : 0 < k) (h : rowLt y.f0 x.f0 = false) : bagK xs k = false := by
  unfold bagK; rw [hx, hy, h, decide_eq_false (by omega : ¬ k = 0)]; simp
theorem bagK_wide {xs : List ItemD} {k : Nat} {x y : ItemD} (hx : itmAt xs k = x) (hy : itmAt xs (k - 1) = y) (hk : 0 < k) (h : y.f0.length ≠ x.f0.length) : bagK xs k = false := by
  unfold bagK; rw [hx, hy, decide_eq_false h, decide_eq_false (by omega : ¬ k = 0)]; simp
theorem bagK_ok {xs : List ItemD} {k : Nat} {x y : ItemD} (hx : itmAt xs k = x) (hy : itmAt xs (k - 1) = y) (h0 : itemB x = true) (h : k = 0 ∨ (rowLt y.f0 x.f0 = true ∧ y.f0.length = x.f0.length)) : bagK xs k = true := by
  unfold bagK; rw [hx, hy, h0, Bool.true_and]
  rcases h with h | ⟨h1, h2⟩
  · rw [decide_eq_true h]; rfl
  · rw [h1, decide_eq_true h2]; simp
theorem bagK_first {xs : List ItemD} {k : Nat} (h : ∀ j, j < k → bagK xs j = true) (hk : 0 < k) : (itmAt xs (k - 1)).f0.length = (itmAt xs 0).f0.length := by
  induction k with
  | zero => omega
  | succ k ih =>
    by_cases hk0 : k = 0
    · subst hk0; rfl
    · have h1 := ih (fun j hj => h j (by omega)) (by omega)
      have h2 := h k (by omega)
      unfold bagK at h2
      rw [decide_eq_false hk0, Bool.false_or, Bool.and_eq_true, Bool.and_eq_true, decide_eq_true_eq] at h2
      show (itmAt xs k).f0.length = _
      rw [← h1, h2.2.2]
set_option maxHeartbeats 2000000 in
set_option maxRecDepth 100000 in
theorem specBagOk_any (v : Value) (xs : List ItemD) (w : World) (hv : ItemSR w v xs) :
    Calls Try.prog 171 #[.agg #[v]] w fun e w' => e = .returned (.bool (bagB xs)) ∧ Fr w w' := by
  obtain ⟨ao, ba, oa, ca, rfl, hca, hma, fa⟩ := hv.one
  have FA := Lib.hid fa
  clear hv fa
  have hD : Hid ((decide ((xs.length : Int) ≤ 300) && (List.range xs.length).all (bagK xs)) = bagB xs) := Lib.hid (by
    unfold bagB; congr 1; rw [Bool.eq_iff_iff, decide_eq_true_eq, decide_eq_true_eq]; omega)
  have hN : Hid (∀ k, k < xs.length → bagK xs k = false → bagB xs = false) := Lib.hid fun k hk h => by
    rw [← hD.out, rng_not_all hk h, Bool.and_false]
  go_enter Try.func171, Try.ntmps171
  go_wp2
  go_loopw [3, 4] (fun i _ wr => ∃ k : Nat, k ≤ xs.length ∧ i = .int .i64 k ∧ Fr w wr ∧ Hid (∀ j, j < k → bagK xs j = true) ∧ Box wr w.heap.size #[.slice ao xs.length ca] 111) (fun i _ _ => xs.length - (intOf i).toNat)
  case atStart => exact ⟨0, Nat.zero_le _, rfl, by repeat (first | (with_reducible exact Fr.refl _) | (with_reducible assumption) | (with_reducible refine Fr.drewN ?_ _) | (with_reducible refine Fr.drew ?_) | (with_reducible refine Fr.alloc ?_ _) | (with_reducible refine Fr.setCell ?_ (by (first | (with_reducible assumption) | omega | (simp only [World.size_alloc, World.size_setCell, World.size_drew, World.heap_drewN]; omega) | (simp; done) | (simp; omega))) _) | (with_reducible refine Fr.trans ?_ (by with_reducible assumption))), Lib.hid (fun j hj => absurd hj (by omega)), Box.new _ _ _⟩
  case round =>
    obtain ⟨k, hk, rfl, hfr, hj, BX⟩ := hrel
    have FX := BX.facts
    have zr := BX.lt
    by_cases hlt : k < xs.length
    · obtain ⟨rfl, hba, fa⟩ := FA.out (by omega)
      obtain ⟨x, hx⟩ : ∃ x, itmAt xs k = x := ⟨_, rfl⟩
      obtain ⟨y, hy⟩ : ∃ y, itmAt xs (k - 1) = y := ⟨_, rfl⟩
      obtain ⟨a, ra, g0, g1⟩ := fa k hlt
      obtain ⟨a', rb, e0, e1⟩ := fa (k - 1) (by omega)
      rw [hx] at ra g1
      rw [hy] at rb e1
      obtain ⟨ao1, cap1, rfl, _⟩ := RdS.val ra
      obtain ⟨ao2, cap2, rfl, _⟩ := RdS.val rb
      have c0 := (hfr.cell (p := ⟨ba, _, none⟩) hba).trans g0
      have c1 := (hfr.cell (p := ⟨ba, _, none⟩) hba).trans g1
      have E0 := Lib.hid ((hfr.cell (p := ⟨ba, _, none⟩) hba).trans e0)
      have E1 := Lib.hid ((hfr.cell (p := ⟨ba, _, none⟩) hba).trans e1)
      have RA := Lib.hid (RdS.fr ra hfr)
      have RB := Lib.hid (RdS.fr rb hfr)
      have hbw : ba < wr.heap.size := Nat.lt_of_lt_of_le hba hfr.size
      have hx0 := RA.out.le
      have hy0 := RB.out.le
      clear g0 g1 e0 e1 ra rb fa
      cases hR : rowB x.f0
      · have C1 : Hid (∀ w', Fr wr w' → Calls Try.prog 190 #[.slice ao1 x.f0.length cap1] w' fun e w'' => e = .returned (.bool false) ∧ w'' = w') := Lib.hid fun w' hf => by rw [← hR]; exact l03Row_any _ _ _ (RdS.fr RA.out hf)
        have hF := Lib.hid (hN.out k hlt (bagK_no hx (itemB_row hR)))
        clear hR hx hy
        go_wp2
        go_quiet (first | (go_at_call 190; refine Calls.quiet_of_same (C1.out _ (by repeat (first | (with_reducible exact Fr.refl _) | (with_reducible assumption) | (with_reducible refine Fr.drewN ?_ _) | (with_reducible refine Fr.drew ?_) | (with_reducible refine Fr.alloc ?_ _) | (with_reducible refine Fr.setCell ?_ (by (first | (with_reducible assumption) | omega | (simp only [World.size_alloc, World.size_setCell, World.size_drew, World.heap_drewN]; omega) | (simp; done) | (simp; omega))) _) | (with_reducible refine Fr.trans ?_ (by with_reducible assumption)))))) | (go_at_call 84; exact Calls.quiet_of_same ((l01In_any _ _ _ _).mono fun _ _ h => ⟨h.1, h.2.symm⟩)) | (go_at_call 191; refine Calls.quiet_of (C2.out _ (by repeat (first | (with_reducible exact Fr.refl _) | (with_reducible assumption) | (with_reducible refine Fr.drewN ?_ _) | (with_reducible refine Fr.drew ?_) | (with_reducible refine Fr.alloc ?_ _) | (with_reducible refine Fr.setCell ?_ (by (first | (with_reducible assumption) | omega | (simp only [World.size_alloc, World.size_setCell, World.size_drew, World.heap_drewN]; omega) | (simp; done) | (simp; omega))) _) | (with_reducible refine Fr.trans ?_ (by with_reducible assumption)))))))
        go_wp2
        go_ret
        exact ⟨ret_bool hF.out.symm, by repeat (first | (with_reducible exact Fr.refl _) | (with_reducible assumption) | (with_reducible refine Fr.drewN ?_ _) | (with_reducible refine Fr.drew ?_) | (with_reducible refine Fr.alloc ?_ _) | (with_reducible refine Fr.setCell ?_ (by (first | (with_reducible assumption) | omega | (simp only [World.size_alloc, World.size_setCell, World.size_drew, World.heap_drewN]; omega) | (simp; done) | (simp; omega))) _) | (with_reducible refine Fr.trans ?_ (by with_reducible assumption)))⟩
      · have C1 : Hid (∀ w', Fr wr w' → Calls Try.prog 190 #[.slice ao1 x.f0.length cap1] w' fun e w'' => e = .returned (.bool true) ∧ w'' = w') := Lib.hid fun w' hf => by rw [← hR]; exact l03Row_any _ _ _ (RdS.fr RA.out hf)
        have HR := Lib.hid hR
        have HX := Lib.hid hx
        have HY := Lib.hid hy
        clear hR hx hy
        by_cases ht : 1 ≤ x.f1 ∧ x.f1 ≤ 1000000
        · have gT : decide (1 ≤ x.f1 ∧ x.f1 ≤ 1000000) = true := by simp [ht]
          have hI := Lib.hid (itemB_ok HR.out ht)
          clear ht
          by_cases hz : k = 0
          · have hF : Hid (bagK xs k = true) := Lib.hid (bagK_ok HX.out HY.out hI.out (.inl hz))
            subst hz
            simp only [Nat.zero_mul, Nat.add_zero] at c0 c1
            go_wp2
            go_quiet (first | (go_at_call 190; refine Calls.quiet_of_same (C1.out _ (by repeat (first | (with_reducible exact Fr.refl _) | (with_reducible assumption) | (with_reducible refine Fr.drewN ?_ _) | (with_reducible refine Fr.drew ?_) | (with_reducible refine Fr.alloc ?_ _) | (with_reducible refine Fr.setCell ?_ (by (first | (with_reducible assumption) | omega | (simp only [World.size_alloc, World.size_setCell, World.size_drew, World.heap_drewN]; omega) | (simp; done) | (simp; omega))) _) | (with_reducible refine Fr.trans ?_ (by with_reducible assumption)))))) | (go_at_call 84; exact Calls.quiet_of_same ((l01In_any _ _ _ _).mono fun _ _ h => ⟨h.1, h.2.symm⟩)) | (go_at_call 191; refine Calls.quiet_of (C2.out _ (by repeat (first | (with_reducible exact Fr.refl _) | (with_reducible assumption) | (with_reducible refine Fr.drewN ?_ _) | (with_reducible refine Fr.drew ?_) | (with_reducible refine Fr.alloc ?_ _) | (with_reducible refine Fr.setCell ?_ (by (first | (with_reducible assumption) | omega | (simp only [World.size_alloc, World.size_setCell, World.size_drew, World.heap_drewN]; omega) | (simp; done) | (simp; omega))) _) | (with_reducible refine Fr.trans ?_ (by with_reducible assumption)))))))
            go_wp2
            go_roundw
            case rel => exact ⟨1, by omega, by go_num, by repeat (first | (with_reducible exact Fr.refl _) | (with_reducible assumption) | (with_reducible refine Fr.drewN ?_ _) | (with_reducible refine Fr.drew ?_) | (with_reducible refine Fr.alloc ?_ _) | (with_reducible refine Fr.setCell ?_ (by (first | (with_reducible assumption) | omega | (simp only [World.size_alloc, World.size_setCell, World.size_drew, World.heap_drewN]; omega) | (simp; done) | (simp; omega))) _) | (with_reducible refine Fr.trans ?_ (by with_reducible assumption))), Lib.hid (fun j h => by obtain rfl : j = 0 := (by omega); exact hF.out), BX.fr (by repeat (first | (with_reducible exact Fr.refl _) | (with_reducible assumption) | (with_reducible refine Fr.drewN ?_ _) | (with_reducible refine Fr.drew ?_) | (with_reducible refine Fr.alloc ?_ _) | (with_reducible refine Fr.setCell ?_ (by (first | (with_reducible assumption) | omega | (simp only [World.size_alloc, World.size_setCell, World.size_drew, World.heap_drewN]; omega) | (simp; done) | (simp; omega))) _) | (with_reducible refine Fr.trans ?_ (by with_reducible assumption))))⟩
            case measure => (simp [intOf]; omega)
          · have hk0 : 0 < k := by omega
            have gk : decide (0 < (k : Int)) = true := by simp; omega
            have e0 := E0.out
            have e1 := E1.out
            cases hL : rowLt y.f0 x.f0
            · have C2 : Hid (∀ w', Fr wr w' → Calls Try.prog 191 #[.slice ao2 y.f0.length cap2, .slice ao1 x.f0.length cap1] w' fun e w'' => e = .returned (.bool false) ∧ ∃ m, w'' = w'.drewN m) := Lib.hid fun w' hf => by rw [← hL]; exact specRowLess_any _ _ _ _ _ (RdS.fr RB.out hf) (RdS.fr RA.out hf)
              have hF := Lib.hid (hN.out k hlt (bagK_less HX.out HY.out hk0 hL))
              clear hL
              go_wp2
              go_quiet (first | (go_at_call 190; refine Calls.quiet_of_same (C1.out _ (by repeat (first | (with_reducible exact Fr.refl _) | (with_reducible assumption) | (with_reducible refine Fr.drewN ?_ _) | (with_reducible refine Fr.drew ?_) | (with_reducible refine Fr.alloc ?_ _) | (with_reducible refine Fr.setCell ?_ (by (first | (with_reducible assumption) | omega | (simp only [World.size_alloc, World.size_setCell, World.size_drew, World.heap_drewN]; omega) | (simp; done) | (simp; omega))) _) | (with_reducible refine Fr.trans ?_ (by with_reducible assumption)))))) | (go_at_call 84; exact Calls.quiet_of_same ((l01In_any _ _ _ _).mono fun _ _ h => ⟨h.1, h.2.symm⟩)) | (go_at_call 191; refine Calls.quiet_of (C2.out _ (by repeat (first | (with_reducible exact Fr.refl _) | (with_reducible assumption) | (with_reducible refine Fr.drewN ?_ _) | (with_reducible refine Fr.drew ?_) | (with_reducible refine Fr.alloc ?_ _) | (with_reducible refine Fr.setCell ?_ (by (first | (with_reducible assumption) | omega | (simp only [World.size_alloc, World.size_setCell, World.size_drew, World.heap_drewN]; omega) | (simp; done) | (simp; omega))) _) | (with_reducible refine Fr.trans ?_ (by with_reducible assumption)))))))
              go_wp2
              go_ret
              exact ⟨ret_bool hF.out.symm, by repeat (first | (with_reducible exact Fr.refl _) | (with_reducible assumption) | (with_reducible refine Fr.drewN ?_ _) | (with_reducible refine Fr.drew ?_) | (with_reducible refine Fr.alloc ?_ _) | (with_reducible refine Fr.setCell ?_ (by (first | (with_reducible assumption) | omega | (simp only [World.size_alloc, World.size_setCell, World.size_drew, World.heap_drewN]; omega) | (simp; done) | (simp; omega))) _) | (with_reducible refine Fr.trans ?_ (by with_reducible assumption)))⟩
            · have C2 : Hid (∀ w', Fr wr w' → Calls Try.prog 191 #[.slice ao2 y.f0.length cap2, .slice ao1 x.f0.length cap1] w' fun e w'' => e = .returned (.bool true) ∧ ∃ m, w'' = w'.drewN m) := Lib.hid fun w' hf => by rw [← hL]; exact specRowLess_any _ _ _ _ _ (RdS.fr RB.out hf) (RdS.fr RA.out hf)
              have HL := Lib.hid hL
              clear hL
              by_cases hw : y.f0.length = x.f0.length
              · have hF : Hid (bagK xs k = true) := Lib.hid (bagK_ok HX.out HY.out hI.out (.inr ⟨HL.out, hw⟩))
                have gw : ((y.f0.length : Int) != (x.f0.length : Int)) = false := by rw [bne_eq_false_iff_eq]; omega
                clear hw
                go_wp2
                go_quiet (first | (go_at_call 190; refine Calls.quiet_of_same (C1.out _ (by repeat (first | (with_reducible exact Fr.refl _) | (with_reducible assumption) | (with_reducible refine Fr.drewN ?_ _) | (with_reducible refine Fr.drew ?_) | (with_reducible refine Fr.alloc ?_ _) | (with_reducible refine Fr.setCell ?_ (by (first | (with_reducible assumption) | omega | (simp only [World.size_alloc, World.size_setCell, World.size_drew, World.heap_drewN]; omega) | (simp; done) | (simp; omega))) _) | (with_reducible refine Fr.trans ?_ (by with_reducible assumption)))))) | (go_at_call 84; exact Calls.quiet_of_same ((l01In_any _ _ _ _).mono fun _ _ h => ⟨h.1, h.2.symm⟩)) | (go_at_call 191; refine Calls.quiet_of (C2.out _ (by repeat (first | (with_reducible exact Fr.refl _) | (with_reducible assumption) | (with_reducible refine Fr.drewN ?_ _) | (with_reducible refine Fr.drew ?_) | (with_reducible refine Fr.alloc ?_ _) | (with_reducible refine Fr.setCell ?_ (by (first | (with_reducible assumption) | omega | (simp only [World.size_alloc, World.size_setCell, World.size_drew, World.heap_drewN]; omega) | (simp; done) | (simp; omega))) _) | (with_reducible refine Fr.trans ?_ (by with_reducible assumption)))))))
                go_wp2
                go_roundw
                (case rel => exact ⟨k + 1, by omega, by go_num, by repeat (first | (with_reducible exact Fr.refl _) | (with_reducible assumption) | (with_reducible refine Fr.drewN ?_ _) | (with_reducible refine Fr.drew ?_) | (with_reducible refine Fr.alloc ?_ _) | (with_reducible refine Fr.setCell ?_ (by (first | (with_reducible assumption) | omega | (simp only [World.size_alloc, World.size_setCell, World.size_drew, World.heap_drewN]; omega) | (simp; done) | (simp; omega))) _) | (with_reducible refine Fr.trans ?_ (by with_reducible assumption))), Lib.hid (fun j h => (by rcases Nat.lt_succ_iff_lt_or_eq.1 h with h | rfl; exact hj.out j h; exact hF.out)), BX.fr (by repeat (first | (with_reducible exact Fr.refl _) | (with_reducible assumption) | (with_reducible refine Fr.drewN ?_ _) | (with_reducible refine Fr.drew ?_) | (with_reducible refine Fr.alloc ?_ _) | (with_reducible refine Fr.setCell ?_ (by (first | (with_reducible assumption) | omega | (simp only [World.size_alloc, World.size_setCell, World.size_drew, World.heap_drewN]; omega) | (simp; done) | (simp; omega))) _) | (with_reducible refine Fr.trans ?_ (by with_reducible assumption))))⟩); (case measure => (simp [intOf]; omega))
              · have hF := Lib.hid (hN.out k hlt (bagK_wide HX.out HY.out hk0 hw))
                have gw : ((y.f0.length : Int) != (x.f0.length : Int)) = true := by rw [bne_iff_ne]; omega
                clear hw
                go_wp2
                go_quiet (first | (go_at_call 190; refine Calls.quiet_of_same (C1.out _ (by repeat (first | (with_reducible exact Fr.refl _) | (with_reducible assumption) | (with_reducible refine Fr.drewN ?_ _) | (with_reducible refine Fr.drew ?_) | (with_reducible refine Fr.alloc ?_ _) | (with_reducible refine Fr.setCell ?_ (by (first | (with_reducible assumption) | omega | (simp only [World.size_alloc, World.size_setCell, World.size_drew, World.heap_drewN]; omega) | (simp; done) | (simp; omega))) _) | (with_reducible refine Fr.trans ?_ (by with_reducible assumption)))))) | (go_at_call 84; exact Calls.quiet_of_same ((l01In_any _ _ _ _).mono fun _ _ h => ⟨h.1, h.2.symm⟩)) | (go_at_call 191; refine Calls.quiet_of (C2.out _ (by repeat (first | (with_reducible exact Fr.refl _) | (with_reducible assumption) | (with_reducible refine Fr.drewN ?_ _) | (with_reducible refine Fr.drew ?_) | (with_reducible refine Fr.alloc ?_ _) | (with_reducible refine Fr.setCell ?_ (by (first | (with_reducible assumption) | omega | (simp only [World.size_alloc, World.size_setCell, World.size_drew, World.heap_drewN]; omega) | (simp; done) | (simp; omega))) _) | (with_reducible refine Fr.trans ?_ (by with_reducible assumption)))))))
                go_wp2
                go_ret
                exact ⟨ret_bool hF.out.symm, by repeat (first | (with_reducible exact Fr.refl _) | (with_reducible assumption) | (with_reducible refine Fr.drewN ?_ _) | (with_reducible refine Fr.drew ?_) | (with_reducible refine Fr.alloc ?_ _) | (with_reducible refine Fr.setCell ?_ (by (first | (with_reducible assumption) | omega | (simp only [World.size_alloc, World.size_setCell, World.size_drew, World.heap_drewN]; omega) | (simp; done) | (simp; omega))) _) | (with_reducible refine Fr.trans ?_ (by with_reducible assumption)))⟩
        · have gT : decide (1 ≤ x.f1 ∧ x.f1 ≤ 1000000) = false := by simpa using ht
          have hF := Lib.hid (hN.out k hlt (bagK_no HX.out (itemB_times ht)))
          clear ht
          go_wp2
          go_quiet (first | (go_at_call 190; refine Calls.quiet_of_same (C1.out _ (by repeat (first | (with_reducible exact Fr.refl _) | (with_reducible assumption) | (with_reducible refine Fr.drewN ?_ _) | (with_reducible refine Fr.drew ?_) | (with_reducible refine Fr.alloc ?_ _) | (with_reducible refine Fr.setCell ?_ (by (first | (with_reducible assumption) | omega | (simp only [World.size_alloc, World.size_setCell, World.size_drew, World.heap_drewN]; omega) | (simp; done) | (simp; omega))) _) | (with_reducible refine Fr.trans ?_ (by with_reducible assumption)))))) | (go_at_call 84; exact Calls.quiet_of_same ((l01In_any _ _ _ _).mono fun _ _ h => ⟨h.1, h.2.symm⟩)) | (go_at_call 191; refine Calls.quiet_of (C2.out _ (by repeat (first | (with_reducible exact Fr.refl _) | (with_reducible assumption) | (with_reducible refine Fr.drewN ?_ _) | (with_reducible refine Fr.drew ?_) | (with_reducible refine Fr.alloc ?_ _) | (with_reducible refine Fr.setCell ?_ (by (first | (with_reducible assumption) | omega | (simp only [World.size_alloc, World.size_setCell, World.size_drew, World.heap_drewN]; omega) | (simp; done) | (simp; omega))) _) | (with_reducible refine Fr.trans ?_ (by with_reducible assumption)))))))
          go_wp2
          go_ret
          exact ⟨ret_bool hF.out.symm, by repeat (first | (with_reducible exact Fr.refl _) | (with_reducible assumption) | (with_reducible refine Fr.drewN ?_ _) | (with_reducible refine Fr.drew ?_) | (with_reducible refine Fr.alloc ?_ _) | (with_reducible refine Fr.setCell ?_ (by (first | (with_reducible assumption) | omega | (simp only [World.size_alloc, World.size_setCell, World.size_drew, World.heap_drewN]; omega) | (simp; done) | (simp; omega))) _) | (with_reducible refine Fr.trans ?_ (by with_reducible assumption)))⟩
    · have hF : Hid (bagB xs = decide ((xs.length : Int) ≤ 300)) := Lib.hid (by rw [← hD.out, rng_all (n := xs.length) (fun j h => hj.out j (by omega)), Bool.and_true])
      go_wp2
      go_ret
      exact ⟨ret_bool hF.out.symm, by repeat (first | (with_reducible exact Fr.refl _) | (with_reducible assumption) | (with_reducible refine Fr.drewN ?_ _) | (with_reducible refine Fr.drew ?_) | (with_reducible refine Fr.alloc ?_ _) | (with_reducible refine Fr.setCell ?_ (by (first | (with_reducible assumption) | omega | (simp only [World.size_alloc, World.size_setCell, World.size_drew, World.heap_drewN]; omega) | (simp; done) | (simp; omega))) _) | (with_reducible refine Fr.trans ?_ (by with_reducible assumption)))⟩
set_option maxHeartbeats 2000000 in
set_option maxRecDepth 100000 in
theorem implBagOk_any (v : Value) (xs : List ItemD) (w : World) (hv : ItemSR w v xs) :
    Calls Try.prog 172 #[.agg #[v]] w fun e w' => e = .returned (.bool (bagB xs)) ∧ Fr w w' := by
  obtain ⟨ao, ba, oa, ca, rfl, hca, hma, fa⟩ := hv.one
  have FA := Lib.hid fa
  clear hv fa
  by_cases hl : xs.length ≤ 300
  · have hD : Hid ((List.range xs.length).all (bagK xs) = bagB xs) := Lib.hid (by
      unfold bagB; rw [decide_eq_true hl, Bool.true_and])
    have hN : Hid (∀ k, k < xs.length → bagK xs k = false → bagB xs = false) := Lib.hid fun k hk h => by
      rw [← hD.out, rng_not_all hk h]
    go_enter Try.func172, Try.ntmps172
    go_wp2
    go_loopw [3, 4, 12] (fun _ _ i wr => ∃ k : Nat, k ≤ xs.length ∧ i = .int .i64 k ∧ Fr w wr ∧ Hid (∀ j, j < k → bagK xs j = true) ∧ Box wr w.heap.size #[.slice ao xs.length ca] 111) (fun _ _ i _ => xs.length - (intOf i).toNat)
    case atStart => exact ⟨0, Nat.zero_le _, rfl, by repeat (first | (with_reducible exact Fr.refl _) | (with_reducible assumption) | (with_reducible refine Fr.drewN ?_ _) | (with_reducible refine Fr.drew ?_) | (with_reducible refine Fr.alloc ?_ _) | (with_reducible refine Fr.setCell ?_ (by (first | (with_reducible assumption) | omega | (simp only [World.size_alloc, World.size_setCell, World.size_drew, World.heap_drewN]; omega) | (simp; done) | (simp; omega))) _) | (with_reducible refine Fr.trans ?_ (by with_reducible assumption))), Lib.hid (fun j hj => absurd hj (by omega)), Box.new _ _ _⟩
    case round =>
      obtain ⟨k, hk, rfl, hfr, hj, BX⟩ := hrel
      have FX := BX.facts
      have zr := BX.lt
      by_cases hlt : k < xs.length
      · obtain ⟨rfl, hba, fa⟩ := FA.out (by omega)
        obtain ⟨x, hx⟩ : ∃ x, itmAt xs k = x := ⟨_, rfl⟩
        obtain ⟨y, hy⟩ : ∃ y, itmAt xs (k - 1) = y := ⟨_, rfl⟩
        obtain ⟨z, hzz⟩ : ∃ z, itmAt xs 0 = z := ⟨_, rfl⟩
        obtain ⟨a, ra, g0, g1⟩ := fa k hlt
        obtain ⟨a', rb, e0, e1⟩ := fa (k - 1) (by omega)
        obtain ⟨a'', rz, d0, d1⟩ := fa 0 (by omega)
        rw [hx] at ra g1
        rw [hy] at rb e1
        rw [hzz] at rz d1
        obtain ⟨ao1, cap1, rfl, _⟩ := RdS.val ra
        obtain ⟨ao2, cap2, rfl, _⟩ := RdS.val rb
        obtain ⟨ao3, cap3, rfl, _⟩ := RdS.val rz
        have c0 := (hfr.cell (p := ⟨ba, _, none⟩) hba).trans g0
        have c1 := (hfr.cell (p := ⟨ba, _, none⟩) hba).trans g1
        have E0 := Lib.hid ((hfr.cell (p := ⟨ba, _, none⟩) hba).trans e0)
        have d0 := (hfr.cell (p := ⟨ba, _, none⟩) hba).trans d0
        simp only [Nat.zero_mul, Nat.add_zero] at d0
        have D0 := Lib.hid d0
        have RA := Lib.hid (RdS.fr ra hfr)
        have RB := Lib.hid (RdS.fr rb hfr)
        have hbw : ba < wr.heap.size := Nat.lt_of_lt_of_le hba hfr.size
        have hx0 := RA.out.le
        have hz0 := rz.le
        have HZ := Lib.hid hzz
        clear g0 g1 e0 e1 d0 d1 ra rb rz fa hzz
        cases hR : rowB x.f0
        · have C1 : Hid (∀ w', Fr wr w' → Calls Try.prog 192 #[.slice ao1 x.f0.length cap1] w' fun e w'' => e = .returned (.bool false) ∧ w'' = w') := Lib.hid fun w' hf => by rw [← hR]; exact rowOk_any _ _ _ (RdS.fr RA.out hf)
          have hF := Lib.hid (hN.out k hlt (bagK_no hx (itemB_row hR)))
          clear hR hx hy
          go_wp2
          go_quiet (first | (go_at_call 192; refine Calls.quiet_of_same (C1.out _ (by repeat (first | (with_reducible exact Fr.refl _) | (with_reducible assumption) | (with_reducible refine Fr.drewN ?_ _) | (with_reducible refine Fr.drew ?_) | (with_reducible refine Fr.alloc ?_ _) | (with_reducible refine Fr.setCell ?_ (by (first | (with_reducible assumption) | omega | (simp only [World.size_alloc, World.size_setCell, World.size_drew, World.heap_drewN]; omega) | (simp; done) | (simp; omega))) _) | (with_reducible refine Fr.trans ?_ (by with_reducible assumption)))))) | (go_at_call 193; exact Calls.quiet_of_same ((timesOk_any _ _).mono fun _ _ h => ⟨h.1, h.2⟩)) | (go_at_call 194; first | refine Calls.quiet_of_same (C2.out _ (by repeat (first | (with_reducible exact Fr.refl _) | (with_reducible assumption) | (with_reducible refine Fr.drewN ?_ _) | (with_reducible refine Fr.drew ?_) | (with_reducible refine Fr.alloc ?_ _) | (with_reducible refine Fr.setCell ?_ (by (first | (with_reducible assumption) | omega | (simp only [World.size_alloc, World.size_setCell, World.size_drew, World.heap_drewN]; omega) | (simp; done) | (simp; omega))) _) | (with_reducible refine Fr.trans ?_ (by with_reducible assumption))))) | refine quiet2_same (C2.out _ (by repeat (first | (with_reducible exact Fr.refl _) | (with_reducible assumption) | (with_reducible refine Fr.drewN ?_ _) | (with_reducible refine Fr.drew ?_) | (with_reducible refine Fr.alloc ?_ _) | (with_reducible refine Fr.setCell ?_ (by (first | (with_reducible assumption) | omega | (simp only [World.size_alloc, World.size_setCell, World.size_drew, World.heap_drewN]; omega) | (simp; done) | (simp; omega))) _) | (with_reducible refine Fr.trans ?_ (by with_reducible assumption)))))))
          go_wp2
          go_ret
          exact ⟨ret_bool hF.out.symm, by repeat (first | (with_reducible exact Fr.refl _) | (with_reducible assumption) | (with_reducible refine Fr.drewN ?_ _) | (with_reducible refine Fr.drew ?_) | (with_reducible refine Fr.alloc ?_ _) | (with_reducible refine Fr.setCell ?_ (by (first | (with_reducible assumption) | omega | (simp only [World.size_alloc, World.size_setCell, World.size_drew, World.heap_drewN]; omega) | (simp; done) | (simp; omega))) _) | (with_reducible refine Fr.trans ?_ (by with_reducible assumption)))⟩
        · have C1 : Hid (∀ w', Fr wr w' → Calls Try.prog 192 #[.slice ao1 x.f0.length cap1] w' fun e w'' => e = .returned (.bool true) ∧ w'' = w') := Lib.hid fun w' hf => by rw [← hR]; exact rowOk_any _ _ _ (RdS.fr RA.out hf)
          have HR := Lib.hid hR
          have HX := Lib.hid hx
          have HY := Lib.hid hy
          clear hR hx hy
          by_cases ht : 1 ≤ x.f1 ∧ x.f1 ≤ 1000000
          · have gT : decide (1 ≤ x.f1 ∧ x.f1 ≤ 1000000) = true := by simp [ht]
            have hI := Lib.hid (itemB_ok HR.out ht)
            clear ht
            have d0 := D0.out
            by_cases hz : k = 0
            · have hF : Hid (bagK xs k = true) := Lib.hid (bagK_ok HX.out HY.out hI.out (.inl hz))
              have hxz : Hid (x = z) := Lib.hid (by rw [← HX.out, ← HZ.out, hz])
              subst hz
              simp only [Nat.zero_mul, Nat.add_zero] at c0 c1
              have hc0 := c0.symm.trans d0
              simp only [Option.some.injEq, Value.slice.injEq] at hc0
              obtain ⟨rfl, hc1, rfl⟩ := hc0
              rw [← hc1] at d0
              clear c0 hc1 D0
              have gw : ((x.f0.length : Int) != (x.f0.length : Int)) = false := by simp
              go_wp2
              go_quiet (first | (go_at_call 192; refine Calls.quiet_of_same (C1.out _ (by repeat (first | (with_reducible exact Fr.refl _) | (with_reducible assumption) | (with_reducible refine Fr.drewN ?_ _) | (with_reducible refine Fr.drew ?_) | (with_reducible refine Fr.alloc ?_ _) | (with_reducible refine Fr.setCell ?_ (by (first | (with_reducible assumption) | omega | (simp only [World.size_alloc, World.size_setCell, World.size_drew, World.heap_drewN]; omega) | (simp; done) | (simp; omega))) _) | (with_reducible refine Fr.trans ?_ (by with_reducible assumption)))))) | (go_at_call 193; exact Calls.quiet_of_same ((timesOk_any _ _).mono fun _ _ h => ⟨h.1, h.2⟩)) | (go_at_call 194; first | refine Calls.quiet_of_same (C2.out _ (by repeat (first | (with_reducible exact Fr.refl _) | (with_reducible assumption) | (with_reducible refine Fr.drewN ?_ _) | (with_reducible refine Fr.drew ?_) | (with_reducible refine Fr.alloc ?_ _) | (with_reducible refine Fr.setCell ?_ (by (first | (with_reducible assumption) | omega | (simp only [World.size_alloc, World.size_setCell, World.size_drew, World.heap_drewN]; omega) | (simp; done) | (simp; omega))) _) | (with_reducible refine Fr.trans ?_ (by with_reducible assumption))))) | refine quiet2_same (C2.out _ (by repeat (first | (with_reducible exact Fr.refl _) | (with_reducible assumption) | (with_reducible refine Fr.drewN ?_ _) | (with_reducible refine Fr.drew ?_) | (with_reducible refine Fr.alloc ?_ _) | (with_reducible refine Fr.setCell ?_ (by (first | (with_reducible assumption) | omega | (simp only [World.size_alloc, World.size_setCell, World.size_drew, World.heap_drewN]; omega) | (simp; done) | (simp; omega))) _) | (with_reducible refine Fr.trans ?_ (by with_reducible assumption)))))))
              go_wp2
              go_quiet (first | (go_at_call 192; refine Calls.quiet_of_same (C1.out _ (by repeat (first | (with_reducible exact Fr.refl _) | (with_reducible assumption) | (with_reducible refine Fr.drewN ?_ _) | (with_reducible refine Fr.drew ?_) | (with_reducible refine Fr.alloc ?_ _) | (with_reducible refine Fr.setCell ?_ (by (first | (with_reducible assumption) | omega | (simp only [World.size_alloc, World.size_setCell, World.size_drew, World.heap_drewN]; omega) | (simp; done) | (simp; omega))) _) | (with_reducible refine Fr.trans ?_ (by with_reducible assumption)))))) | (go_at_call 193; exact Calls.quiet_of_same ((timesOk_any _ _).mono fun _ _ h => ⟨h.1, h.2⟩)) | (go_at_call 194; first | refine Calls.quiet_of_same (C2.out _ (by repeat (first | (with_reducible exact Fr.refl _) | (with_reducible assumption) | (with_reducible refine Fr.drewN ?_ _) | (with_reducible refine Fr.drew ?_) | (with_reducible refine Fr.alloc ?_ _) | (with_reducible refine Fr.setCell ?_ (by (first | (with_reducible assumption) | omega | (simp only [World.size_alloc, World.size_setCell, World.size_drew, World.heap_drewN]; omega) | (simp; done) | (simp; omega))) _) | (with_reducible refine Fr.trans ?_ (by with_reducible assumption))))) | refine quiet2_same (C2.out _ (by repeat (first | (with_reducible exact Fr.refl _) | (with_reducible assumption) | (with_reducible refine Fr.drewN ?_ _) | (with_reducible refine Fr.drew ?_) | (with_reducible refine Fr.alloc ?_ _) | (with_reducible refine Fr.setCell ?_ (by (first | (with_reducible assumption) | omega | (simp only [World.size_alloc, World.size_setCell, World.size_drew, World.heap_drewN]; omega) | (simp; done) | (simp; omega))) _) | (with_reducible refine Fr.trans ?_ (by with_reducible assumption)))))))
              go_wp2
              go_roundw
              case rel => exact ⟨1, by omega, by go_num, by repeat (first | (with_reducible exact Fr.refl _) | (with_reducible assumption) | (with_reducible refine Fr.drewN ?_ _) | (with_reducible refine Fr.drew ?_) | (with_reducible refine Fr.alloc ?_ _) | (with_reducible refine Fr.setCell ?_ (by (first | (with_reducible assumption) | omega | (simp only [World.size_alloc, World.size_setCell, World.size_drew, World.heap_drewN]; omega) | (simp; done) | (simp; omega))) _) | (with_reducible refine Fr.trans ?_ (by with_reducible assumption))), Lib.hid (fun j h => by obtain rfl : j = 0 := (by omega); exact hF.out), BX.fr (by repeat (first | (with_reducible exact Fr.refl _) | (with_reducible assumption) | (with_reducible refine Fr.drewN ?_ _) | (with_reducible refine Fr.drew ?_) | (with_reducible refine Fr.alloc ?_ _) | (with_reducible refine Fr.setCell ?_ (by (first | (with_reducible assumption) | omega | (simp only [World.size_alloc, World.size_setCell, World.size_drew, World.heap_drewN]; omega) | (simp; done) | (simp; omega))) _) | (with_reducible refine Fr.trans ?_ (by with_reducible assumption))))⟩
              case measure => (simp [intOf]; omega)
            · have hk0 : 0 < k := by omega
              have gk : decide (0 < (k : Int)) = true := by simp; omega
              have e0 := E0.out
              have hfst : Hid (y.f0.length = z.f0.length) := Lib.hid (by have := bagK_first hj.out hk0; rw [HY.out, HZ.out] at this; exact this)
              by_cases hw : x.f0.length = z.f0.length
              · have gw : ((x.f0.length : Int) != (z.f0.length : Int)) = false := by rw [bne_eq_false_iff_eq]; omega
                have hyx : Hid (y.f0.length = x.f0.length) := Lib.hid (by rw [hfst.out, hw])
                clear hw
                cases hL : rowLt y.f0 x.f0
                · have C2 : Hid (∀ w', Fr wr w' → Calls Try.prog 194 #[.slice ao2 y.f0.length cap2, .slice ao1 x.f0.length cap1] w' fun e w'' => e = .returned (.bool false) ∧ w'' = w') := Lib.hid fun w' hf => by rw [← hL]; exact implRowLess_any _ _ _ _ _ (RdS.fr RB.out hf) (RdS.fr RA.out hf)
                  have hF := Lib.hid (hN.out k hlt (bagK_less HX.out HY.out hk0 hL))
                  clear hL
                  have hk2 : ((k - 1 : Nat) : Int) < xs.length := by omega
                  have hwk : IntKind.i64.wrap ((k : Int) - 1) = ((k - 1 : Nat) : Int) := by rw [IntWalk.i64_in _ (by omega)]; omega
                  go_wp2
                  go_quiet (first | (go_at_call 192; refine Calls.quiet_of_same (C1.out _ (by repeat (first | (with_reducible exact Fr.refl _) | (with_reducible assumption) | (with_reducible refine Fr.drewN ?_ _) | (with_reducible refine Fr.drew ?_) | (with_reducible refine Fr.alloc ?_ _) | (with_reducible refine Fr.setCell ?_ (by (first | (with_reducible assumption) | omega | (simp only [World.size_alloc, World.size_setCell, World.size_drew, World.heap_drewN]; omega) | (simp; done) | (simp; omega))) _) | (with_reducible refine Fr.trans ?_ (by with_reducible assumption)))))) | (go_at_call 193; exact Calls.quiet_of_same ((timesOk_any _ _).mono fun _ _ h => ⟨h.1, h.2⟩)) | (go_at_call 194; first | refine Calls.quiet_of_same (C2.out _ (by repeat (first | (with_reducible exact Fr.refl _) | (with_reducible assumption) | (with_reducible refine Fr.drewN ?_ _) | (with_reducible refine Fr.drew ?_) | (with_reducible refine Fr.alloc ?_ _) | (with_reducible refine Fr.setCell ?_ (by (first | (with_reducible assumption) | omega | (simp only [World.size_alloc, World.size_setCell, World.size_drew, World.heap_drewN]; omega) | (simp; done) | (simp; omega))) _) | (with_reducible refine Fr.trans ?_ (by with_reducible assumption))))) | refine quiet2_same (C2.out _ (by repeat (first | (with_reducible exact Fr.refl _) | (with_reducible assumption) | (with_reducible refine Fr.drewN ?_ _) | (with_reducible refine Fr.drew ?_) | (with_reducible refine Fr.alloc ?_ _) | (with_reducible refine Fr.setCell ?_ (by (first | (with_reducible assumption) | omega | (simp only [World.size_alloc, World.size_setCell, World.size_drew, World.heap_drewN]; omega) | (simp; done) | (simp; omega))) _) | (with_reducible refine Fr.trans ?_ (by with_reducible assumption)))))))
                  go_wp2
                  go_quiet (first | (go_at_call 192; refine Calls.quiet_of_same (C1.out _ (by repeat (first | (with_reducible exact Fr.refl _) | (with_reducible assumption) | (with_reducible refine Fr.drewN ?_ _) | (with_reducible refine Fr.drew ?_) | (with_reducible refine Fr.alloc ?_ _) | (with_reducible refine Fr.setCell ?_ (by (first | (with_reducible assumption) | omega | (simp only [World.size_alloc, World.size_setCell, World.size_drew, World.heap_drewN]; omega) | (simp; done) | (simp; omega))) _) | (with_reducible refine Fr.trans ?_ (by with_reducible assumption)))))) | (go_at_call 193; exact Calls.quiet_of_same ((timesOk_any _ _).mono fun _ _ h => ⟨h.1, h.2⟩)) | (go_at_call 194; first | refine Calls.quiet_of_same (C2.out _ (by repeat (first | (with_reducible exact Fr.refl _) | (with_reducible assumption) | (with_reducible refine Fr.drewN ?_ _) | (with_reducible refine Fr.drew ?_) | (with_reducible refine Fr.alloc ?_ _) | (with_reducible refine Fr.setCell ?_ (by (first | (with_reducible assumption) | omega | (simp only [World.size_alloc, World.size_setCell, World.size_drew, World.heap_drewN]; omega) | (simp; done) | (simp; omega))) _) | (with_reducible refine Fr.trans ?_ (by with_reducible assumption))))) | refine quiet2_same (C2.out _ (by repeat (first | (with_reducible exact Fr.refl _) | (with_reducible assumption) | (with_reducible refine Fr.drewN ?_ _) | (with_reducible refine Fr.drew ?_) | (with_reducible refine Fr.alloc ?_ _) | (with_reducible refine Fr.setCell ?_ (by (first | (with_reducible assumption) | omega | (simp only [World.size_alloc, World.size_setCell, World.size_drew, World.heap_drewN]; omega) | (simp; done) | (simp; omega))) _) | (with_reducible refine Fr.trans ?_ (by with_reducible assumption)))))))
                  clear hwk
                  go_wp2
                  go_ret
                  exact ⟨ret_bool hF.out.symm, by repeat (first | (with_reducible exact Fr.refl _) | (with_reducible assumption) | (with_reducible refine Fr.drewN ?_ _) | (with_reducible refine Fr.drew ?_) | (with_reducible refine Fr.alloc ?_ _) | (with_reducible refine Fr.setCell ?_ (by (first | (with_reducible assumption) | omega | (simp only [World.size_alloc, World.size_setCell, World.size_drew, World.heap_drewN]; omega) | (simp; done) | (simp; omega))) _) | (with_reducible refine Fr.trans ?_ (by with_reducible assumption)))⟩
                · have C2 : Hid (∀ w', Fr wr w' → Calls Try.prog 194 #[.slice ao2 y.f0.length cap2, .slice ao1 x.f0.length cap1] w' fun e w'' => e = .returned (.bool true) ∧ w'' = w') := Lib.hid fun w' hf => by rw [← hL]; exact implRowLess_any _ _ _ _ _ (RdS.fr RB.out hf) (RdS.fr RA.out hf)
                  have HL := Lib.hid hL
                  clear hL
                  have hF : Hid (bagK xs k = true) := Lib.hid (bagK_ok HX.out HY.out hI.out (.inr ⟨HL.out, hyx.out⟩))
                  have hk2 : ((k - 1 : Nat) : Int) < xs.length := by omega
                  have hwk : IntKind.i64.wrap ((k : Int) - 1) = ((k - 1 : Nat) : Int) := by rw [IntWalk.i64_in _ (by omega)]; omega
                  go_wp2
                  go_quiet (first | (go_at_call 192; refine Calls.quiet_of_same (C1.out _ (by repeat (first | (with_reducible exact Fr.refl _) | (with_reducible assumption) | (with_reducible refine Fr.drewN ?_ _) | (with_reducible refine Fr.drew ?_) | (with_reducible refine Fr.alloc ?_ _) | (with_reducible refine Fr.setCell ?_ (by (first | (with_reducible assumption) | omega | (simp only [World.size_alloc, World.size_setCell, World.size_drew, World.heap_drewN]; omega) | (simp; done) | (simp; omega))) _) | (with_reducible refine Fr.trans ?_ (by with_reducible assumption)))))) | (go_at_call 193; exact Calls.quiet_of_same ((timesOk_any _ _).mono fun _ _ h => ⟨h.1, h.2⟩)) | (go_at_call 194; first | refine Calls.quiet_of_same (C2.out _ (by repeat (first | (with_reducible exact Fr.refl _) | (with_reducible assumption) | (with_reducible refine Fr.drewN ?_ _) | (with_reducible refine Fr.drew ?_) | (with_reducible refine Fr.alloc ?_ _) | (with_reducible refine Fr.setCell ?_ (by (first | (with_reducible assumption) | omega | (simp only [World.size_alloc, World.size_setCell, World.size_drew, World.heap_drewN]; omega) | (simp; done) | (simp; omega))) _) | (with_reducible refine Fr.trans ?_ (by with_reducible assumption))))) | refine quiet2_same (C2.out _ (by repeat (first | (with_reducible exact Fr.refl _) | (with_reducible assumption) | (with_reducible refine Fr.drewN ?_ _) | (with_reducible refine Fr.drew ?_) | (with_reducible refine Fr.alloc ?_ _) | (with_reducible refine Fr.setCell ?_ (by (first | (with_reducible assumption) | omega | (simp only [World.size_alloc, World.size_setCell, World.size_drew, World.heap_drewN]; omega) | (simp; done) | (simp; omega))) _) | (with_reducible refine Fr.trans ?_ (by with_reducible assumption)))))))
                  go_wp2
                  go_quiet (first | (go_at_call 192; refine Calls.quiet_of_same (C1.out _ (by repeat (first | (with_reducible exact Fr.refl _) | (with_reducible assumption) | (with_reducible refine Fr.drewN ?_ _) | (with_reducible refine Fr.drew ?_) | (with_reducible refine Fr.alloc ?_ _) | (with_reducible refine Fr.setCell ?_ (by (first | (with_reducible assumption) | omega | (simp only [World.size_alloc, World.size_setCell, World.size_drew, World.heap_drewN]; omega) | (simp; done) | (simp; omega))) _) | (with_reducible refine Fr.trans ?_ (by with_reducible assumption)))))) | (go_at_call 193; exact Calls.quiet_of_same ((timesOk_any _ _).mono fun _ _ h => ⟨h.1, h.2⟩)) | (go_at_call 194; first | refine Calls.quiet_of_same (C2.out _ (by repeat (first | (with_reducible exact Fr.refl _) | (with_reducible assumption) | (with_reducible refine Fr.drewN ?_ _) | (with_reducible refine Fr.drew ?_) | (with_reducible refine Fr.alloc ?_ _) | (with_reducible refine Fr.setCell ?_ (by (first | (with_reducible assumption) | omega | (simp only [World.size_alloc, World.size_setCell, World.size_drew, World.heap_drewN]; omega) | (simp; done) | (simp; omega))) _) | (with_reducible refine Fr.trans ?_ (by with_reducible assumption))))) | refine quiet2_same (C2.out _ (by repeat (first | (with_reducible exact Fr.refl _) | (with_reducible assumption) | (with_reducible refine Fr.drewN ?_ _) | (with_reducible refine Fr.drew ?_) | (with_reducible refine Fr.alloc ?_ _) | (with_reducible refine Fr.setCell ?_ (by (first | (with_reducible assumption) | omega | (simp only [World.size_alloc, World.size_setCell, World.size_drew, World.heap_drewN]; omega) | (simp; done) | (simp; omega))) _) | (with_reducible refine Fr.trans ?_ (by with_reducible assumption)))))))
                  clear hwk
                  go_wp2
                  go_roundw
                  (case rel => exact ⟨k + 1, by omega, by go_num, by repeat (first | (with_reducible exact Fr.refl _) | (with_reducible assumption) | (with_reducible refine Fr.drewN ?_ _) | (with_reducible refine Fr.drew ?_) | (with_reducible refine Fr.alloc ?_ _) | (with_reducible refine Fr.setCell ?_ (by (first | (with_reducible assumption) | omega | (simp only [World.size_alloc, World.size_setCell, World.size_drew, World.heap_drewN]; omega) | (simp; done) | (simp; omega))) _) | (with_reducible refine Fr.trans ?_ (by with_reducible assumption))), Lib.hid (fun j h => (by rcases Nat.lt_succ_iff_lt_or_eq.1 h with h | rfl; exact hj.out j h; exact hF.out)), BX.fr (by repeat (first | (with_reducible exact Fr.refl _) | (with_reducible assumption) | (with_reducible refine Fr.drewN ?_ _) | (with_reducible refine Fr.drew ?_) | (with_reducible refine Fr.alloc ?_ _) | (with_reducible refine Fr.setCell ?_ (by (first | (with_reducible assumption) | omega | (simp only [World.size_alloc, World.size_setCell, World.size_drew, World.heap_drewN]; omega) | (simp; done) | (simp; omega))) _) | (with_reducible refine Fr.trans ?_ (by with_reducible assumption))))⟩); (case measure => (simp [intOf]; omega))
              · have hF := Lib.hid (hN.out k hlt (bagK_wide HX.out HY.out hk0 (by have := hfst.out; omega)))
                have gw : ((x.f0.length : Int) != (z.f0.length : Int)) = true := by rw [bne_iff_ne]; omega
                clear hw
                go_wp2
                go_quiet (first | (go_at_call 192; refine Calls.quiet_of_same (C1.out _ (by repeat (first | (with_reducible exact Fr.refl _) | (with_reducible assumption) | (with_reducible refine Fr.drewN ?_ _) | (with_reducible refine Fr.drew ?_) | (with_reducible refine Fr.alloc ?_ _) | (with_reducible refine Fr.setCell ?_ (by (first | (with_reducible assumption) | omega | (simp only [World.size_alloc, World.size_setCell, World.size_drew, World.heap_drewN]; omega) | (simp; done) | (simp; omega))) _) | (with_reducible refine Fr.trans ?_ (by with_reducible assumption)))))) | (go_at_call 193; exact Calls.quiet_of_same ((timesOk_any _ _).mono fun _ _ h => ⟨h.1, h.2⟩)) | (go_at_call 194; first | refine Calls.quiet_of_same (C2.out _ (by repeat (first | (with_reducible exact Fr.refl _) | (with_reducible assumption) | (with_reducible refine Fr.drewN ?_ _) | (with_reducible refine Fr.drew ?_) | (with_reducible refine Fr.alloc ?_ _) | (with_reducible refine Fr.setCell ?_ (by (first | (with_reducible assumption) | omega | (simp only [World.size_alloc, World.size_setCell, World.size_drew, World.heap_drewN]; omega) | (simp; done) | (simp; omega))) _) | (with_reducible refine Fr.trans ?_ (by with_reducible assumption))))) | refine quiet2_same (C2.out _ (by repeat (first | (with_reducible exact Fr.refl _) | (with_reducible assumption) | (with_reducible refine Fr.drewN ?_ _) | (with_reducible refine Fr.drew ?_) | (with_reducible refine Fr.alloc ?_ _) | (with_reducible refine Fr.setCell ?_ (by (first | (with_reducible assumption) | omega | (simp only [World.size_alloc, World.size_setCell, World.size_drew, World.heap_drewN]; omega) | (simp; done) | (simp; omega))) _) | (with_reducible refine Fr.trans ?_ (by with_reducible assumption)))))))
                go_wp2
                go_ret
                exact ⟨ret_bool hF.out.symm, by repeat (first | (with_reducible exact Fr.refl _) | (with_reducible assumption) | (with_reducible refine Fr.drewN ?_ _) | (with_reducible refine Fr.drew ?_) | (with_reducible refine Fr.alloc ?_ _) | (with_reducible refine Fr.setCell ?_ (by (first | (with_reducible assumption) | omega | (simp only [World.size_alloc, World.size_setCell, World.size_drew, World.heap_drewN]; omega) | (simp; done) | (simp; omega))) _) | (with_reducible refine Fr.trans ?_ (by with_reducible assumption)))⟩
          · have gT : decide (1 ≤ x.f1 ∧ x.f1 ≤ 1000000) = false := by simpa using ht
            have hF := Lib.hid (hN.out k hlt (bagK_no HX.out (itemB_times ht)))
            clear ht
            go_wp2
            go_quiet (first | (go_at_call 192; refine Calls.quiet_of_same (C1.out _ (by repeat (first | (with_reducible exact Fr.refl _) | (with_reducible assumption) | (with_reducible refine Fr.drewN ?_ _) | (with_reducible refine Fr.drew ?_) | (with_reducible refine Fr.alloc ?_ _) | (with_reducible refine Fr.setCell ?_ (by (first | (with_reducible assumption) | omega | (simp only [World.size_alloc, World.size_setCell, World.size_drew, World.heap_drewN]; omega) | (simp; done) | (simp; omega))) _) | (with_reducible refine Fr.trans ?_ (by with_reducible assumption)))))) | (go_at_call 193; exact Calls.quiet_of_same ((timesOk_any _ _).mono fun _ _ h => ⟨h.1, h.2⟩)) | (go_at_call 194; first | refine Calls.quiet_of_same (C2.out _ (by repeat (first | (with_reducible exact Fr.refl _) | (with_reducible assumption) | (with_reducible refine Fr.drewN ?_ _) | (with_reducible refine Fr.drew ?_) | (with_reducible refine Fr.alloc ?_ _) | (with_reducible refine Fr.setCell ?_ (by (first | (with_reducible assumption) | omega | (simp only [World.size_alloc, World.size_setCell, World.size_drew, World.heap_drewN]; omega) | (simp; done) | (simp; omega))) _) | (with_reducible refine Fr.trans ?_ (by with_reducible assumption))))) | refine quiet2_same (C2.out _ (by repeat (first | (with_reducible exact Fr.refl _) | (with_reducible assumption) | (with_reducible refine Fr.drewN ?_ _) | (with_reducible refine Fr.drew ?_) | (with_reducible refine Fr.alloc ?_ _) | (with_reducible refine Fr.setCell ?_ (by (first | (with_reducible assumption) | omega | (simp only [World.size_alloc, World.size_setCell, World.size_drew, World.heap_drewN]; omega) | (simp; done) | (simp; omega))) _) | (with_reducible refine Fr.trans ?_ (by with_reducible assumption)))))))
            go_wp2
            go_ret
            exact ⟨ret_bool hF.out.symm, by repeat (first | (with_reducible exact Fr.refl _) | (with_reducible assumption) | (with_reducible refine Fr.drewN ?_ _) | (with_reducible refine Fr.drew ?_) | (with_reducible refine Fr.alloc ?_ _) | (with_reducible refine Fr.setCell ?_ (by (first | (with_reducible assumption) | omega | (simp only [World.size_alloc, World.size_setCell, World.size_drew, World.heap_drewN]; omega) | (simp; done) | (simp; omega))) _) | (with_reducible refine Fr.trans ?_ (by with_reducible assumption)))⟩
      · have hF : Hid (bagB xs = true) := Lib.hid (by rw [← hD.out, rng_all (n := xs.length) (fun j h => hj.out j (by omega))])
        go_wp2
        go_ret
        exact ⟨ret_bool hF.out.symm, by repeat (first | (with_reducible exact Fr.refl _) | (with_reducible assumption) | (with_reducible refine Fr.drewN ?_ _) | (with_reducible refine Fr.drew ?_) | (with_reducible refine Fr.alloc ?_ _) | (with_reducible refine Fr.setCell ?_ (by (first | (with_reducible assumption) | omega | (simp only [World.size_alloc, World.size_setCell, World.size_drew, World.heap_drewN]; omega) | (simp; done) | (simp; omega))) _) | (with_reducible refine Fr.trans ?_ (by with_reducible assumption)))⟩
  · have hF : Hid (bagB xs = false) := Lib.hid (by unfold bagB; rw [decide_eq_false hl, Bool.false_and])
    go_enter Try.func172, Try.ntmps172
    go_wp2
    go_ret
    exact ⟨ret_bool hF.out.symm, by repeat (first | (with_reducible exact Fr.refl _) | (with_reducible assumption) | (with_reducible refine Fr.drewN ?_ _) | (with_reducible refine Fr.drew ?_) | (with_reducible refine Fr.alloc ?_ _) | (with_reducible refine Fr.setCell ?_ (by (first | (with_reducible assumption) | omega | (simp only [World.size_alloc, World.size_setCell, World.size_drew, World.heap_drewN]; omega) | (simp; done) | (simp; omega))) _) | (with_reducible refine Fr.trans ?_ (by with_reducible assumption)))⟩
end Go.Proofs.Ytphjlecbhbcbcaa
