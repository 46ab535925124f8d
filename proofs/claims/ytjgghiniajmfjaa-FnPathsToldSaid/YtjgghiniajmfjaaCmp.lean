/- Ints compared (cmp.Compare, slices.Compare); small lemmas on reading. No condition. -/
import Derived.Test.YtjgghiniajmfjaaScan
import Derived.Test.YtjgghiniajmfjaaSml
import Derived.Test.YtjgghiniajmfjaaTFlat
namespace Go.Proofs.Ytjgghiniajmfjaa
open Go.RowKit
set_option linter.unusedVariables false
set_option linter.unusedSimpArgs false
def cmpL : List Int → List Int → Int
  | [], [] => 0
  | [], _ :: _ => -1
  | _ :: _, [] => 1
  | a :: l, b :: m => if a < b then -1 else if b < a then 1 else cmpL l m
def rowLt (a b : List Int) : Bool := decide (cmpL a b < 0)
theorem cmpL_range (a b : List Int) : cmpL a b = -1 ∨ cmpL a b = 0 ∨ cmpL a b = 1 := by
  induction a generalizing b with
  | nil => cases b <;> simp [cmpL]
  | cons x l ih =>
    cases b with
    | nil => simp [cmpL]
    | cons y m =>
      rw [cmpL]
      split
      · simp
      · split
        · simp
        · exact ih m
theorem cmpL_eq (a b : List Int) : cmpL a b = 0 ↔ a = b := by
  induction a generalizing b with
  | nil => cases b <;> simp [cmpL]
  | cons x l ih =>
    cases b with
    | nil => simp [cmpL]
    | cons y m =>
      rw [cmpL]
      split
      · simp; omega
      · split
        · simp; omega
        · have : x = y := by omega
          subst this
          simp [ih]
theorem cmpL_step {a b : List Int} {k : Nat} (ha : k < a.length) (hb : k < b.length) {x y : Int} (hx : iAt a k = x) (hy : iAt b k = y) : cmpL (a.drop k) (b.drop k) = if x < y then -1 else if y < x then 1 else cmpL (a.drop (k + 1)) (b.drop (k + 1)) := by
  subst hx hy
  rw [List.drop_eq_getElem_cons ha, List.drop_eq_getElem_cons hb, cmpL]
  simp [iAt, List.getD, List.getElem?_eq_getElem ha, List.getElem?_eq_getElem hb]
theorem cmpL_endA {a b : List Int} {k : Nat} (ha : a.length ≤ k) (hb : k < b.length) : cmpL (a.drop k) (b.drop k) = -1 := by
  rw [List.drop_of_length_le ha, List.drop_eq_getElem_cons hb, cmpL]
theorem cmpL_endB {a b : List Int} {k : Nat} (ha : k < a.length) (hb : b.length ≤ k) : cmpL (a.drop k) (b.drop k) = 1 := by
  rw [List.drop_of_length_le hb, List.drop_eq_getElem_cons ha, cmpL]
theorem cmpL_end {a b : List Int} {k : Nat} (ha : a.length ≤ k) (hb : b.length ≤ k) : cmpL (a.drop k) (b.drop k) = 0 := by
  rw [List.drop_of_length_le hb, List.drop_of_length_le ha, cmpL]
theorem rng_all {n : Nat} {p : Nat → Bool} (h : ∀ j, j < n → p j = true) : (List.range n).all p = true := by
  rw [List.all_eq_true]; intro x hx; exact h x (by simpa using hx)
theorem rng_not_all {n : Nat} {p : Nat → Bool} {j : Nat} (hj : j < n) (h : p j = false) : (List.range n).all p = false := by
  rw [List.all_eq_false]; exact ⟨j, by simpa using hj, by simpa using h⟩
/-- A quiet call in a second quiet region. -/
theorem quiet2_same {P : Program} {f : FuncId} {args : Array Value} {w : World} {a n : Nat} {v : Value} (h : Calls P f args (w.drewN (a + n)) fun e w' => e = .returned v ∧ w' = w.drewN (a + n)) :
    Calls P f args (w.drewN (a + n)) fun e w'' => e = .returned v ∧ ∃ m, w'' = w.drewN (a + m) := h.mono fun _ _ ⟨he, hm⟩ => ⟨he, n, hm⟩
theorem quiet2 {P : Program} {f : FuncId} {args : Array Value} {w : World} {a n : Nat} {v : Value} (h : Calls P f args (w.drewN (a + n)) fun e w' => e = .returned v ∧ ∃ m, w' = (w.drewN (a + n)).drewN m) :
    Calls P f args (w.drewN (a + n)) fun e w'' => e = .returned v ∧ ∃ m, w'' = w.drewN (a + m) := h.mono fun _ _ ⟨he, m, hm⟩ => ⟨he, n + m, by rw [hm, World.drewN_drewN, Nat.add_assoc]⟩
theorem scVar_bad {s : ByteArray} {c : Sc} (h : c.bad = true) : (scVar s c).2.bad = true := by rw [scVar_no (.inl h)]
theorem drop_bytes {s : ByteArray} {a k : Nat} (h : a + k ≤ s.size) : s.data.toList.drop a = bytesAt s a k ++ s.data.toList.drop (a + k) := by
  unfold bytesAt
  rw [← List.drop_drop, List.take_append_drop]
/-- What was read and not refused are the bytes of what came out. -/
theorem scVar_text {s : ByteArray} {c : Sc} (hc : c.a ≤ s.size) (h : (scVar s c).2.bad = false) : c.bad = false ∧ ∃ n : Nat, (scVar s c).1 = (n : Int) ∧ n ≤ 1000000000 ∧ (scVar s c).2.a ≤ s.size ∧ s.data.toList.drop c.a = varL n ++ s.data.toList.drop (scVar s c).2.a := by
  obtain ⟨h1, n, j, h2, h3, h4, h5⟩ := scVar_read hc h
  rw [h2]
  refine ⟨h1, n, rfl, h4, h3, ?_⟩
  rw [h5]
  exact drop_bytes (k := j + 1) h3
theorem scVar_good {s : ByteArray} {c : Sc} (h : (scVar s c).2.bad = false) : c.bad = false := by
  cases hb : c.bad
  · rfl
  · rw [scVar_bad hb] at h; cases h
theorem bytes_append (s t : ByteArray) : (s ++ t).data.toList = s.data.toList ++ t.data.toList := by simp
theorem vText_list (n : Int) : (vText n).data.toList = varL n.toNat := by simp [vText]
theorem vText_sz {n : Int} (h : n < 1099511627776) : (vText n).size ≤ 6 := by rw [vText_size]; exact varL_len40 _ (by omega)
theorem app_size (s t : ByteArray) : (s ++ t).size = s.size + t.size := by simp
def cmp1 (x y : Int) : Int := if x < y then -1 else if y < x then 1 else 0
theorem isNaN_any (x : Int) (w : World) :
    Calls Try.prog 254 #[.int .i64 x] w fun e w' => e = .returned (.bool false) ∧ w' = w := by
  have h : (x != x) = false := by simp
  go_enter Try.func254, Try.ntmps254
  go_wp2
  go_ret
  exact ⟨by simp, rfl⟩
theorem cmpCompare_any (x y : Int) (w : World) :
    Calls Try.prog 232 #[.int .i64 x, .int .i64 y] w fun e w' => e = .returned (.int .i64 (cmp1 x y)) ∧ w' = w := by
  by_cases h1 : x < y
  · have HC : Hid (cmp1 x y = -1) := Lib.hid (if_pos h1)
    go_enter Try.func232, Try.ntmps232
    go_wp2_with (go_at_call 254; refine (isNaN_any _ _).mono ?_; rintro e w1 ⟨rfl, rfl⟩)
    go_ret
    exact ⟨ret_int HC.out.symm, rfl⟩
  · by_cases h2 : y < x
    · have HC : Hid (cmp1 x y = 1) := Lib.hid (by unfold cmp1; rw [if_neg h1, if_pos h2])
      go_enter Try.func232, Try.ntmps232
      go_wp2_with (go_at_call 254; refine (isNaN_any _ _).mono ?_; rintro e w1 ⟨rfl, rfl⟩)
      go_ret
      exact ⟨ret_int HC.out.symm, rfl⟩
    · have HC : Hid (cmp1 x y = 0) := Lib.hid (by unfold cmp1; rw [if_neg h1, if_neg h2])
      go_enter Try.func232, Try.ntmps232
      go_wp2_with (go_at_call 254; refine (isNaN_any _ _).mono ?_; rintro e w1 ⟨rfl, rfl⟩)
      go_ret
      exact ⟨ret_int HC.out.symm, rfl⟩
theorem slicesCompare_any (va vb : Value) (a b : List Int) (w : World) (ha : IntsR w va a) (hb : IntsR w vb b) :
    Calls Try.prog 194 #[va, vb] w fun e w' => e = .returned (.int .i64 (cmpL a b)) ∧ w' = w := by
  obtain ⟨ao, ba, oa, ca, rfl, hca, hma, fa⟩ := ha.one
  obtain ⟨bo, bb, ob, cb, rfl, hcb, hmb, fb⟩ := hb.one
  have FA := Lib.hid fa
  have FB := Lib.hid fb
  clear ha hb fa fb
  obtain ⟨R, hR⟩ : ∃ R, cmpL a b = R := ⟨_, rfl⟩
  have HR := Lib.hid hR
  go_enter Try.func194, Try.ntmps194
  go_wp2
  go_loop [5, 6, 7, 8, 11] (fun _ _ _ _ i => ∃ k : Nat, k ≤ a.length ∧ k ≤ b.length ∧ i = .int .i64 k ∧ Hid (cmpL (a.drop k) (b.drop k) = R)) (fun _ _ _ _ i => a.length - (intOf i).toNat)
  case atStart => exact ⟨0, Nat.zero_le _, Nat.zero_le _, rfl, Lib.hid (by simpa using hR)⟩
  case round =>
    clear hR
    obtain ⟨k, hk1, hk2, rfl, hj⟩ := hrel
    by_cases hlt1 : k < a.length
    · obtain ⟨rfl, hba, fa⟩ := FA.out (by omega)
      have c1 := fa k hlt1
      obtain ⟨x, hx⟩ : ∃ x, iAt a k = x := ⟨_, rfl⟩
      rw [hx] at c1
      by_cases hlt2 : k < b.length
      · obtain ⟨rfl, hbb, fb⟩ := FB.out (by omega)
        obtain ⟨y, hy⟩ : ∃ y, iAt b k = y := ⟨_, rfl⟩
        have c2 := fb k hlt2
        rw [hy] at c2
        have hst := Lib.hid (cmpL_step hlt1 hlt2 hx hy)
        clear fa fb hx hy
        rcases Int.lt_trichotomy x y with he | he | he
        · have hc : cmp1 x y = -1 := if_pos he
          have hj2 : Hid (R = -1) := Lib.hid (by have := hst.out; rw [hj.out, if_pos he] at this; exact this)
          have CT : Hid (∀ w', Calls Try.prog 232 #[.int .i64 x, .int .i64 y] w' fun e w'' => e = .returned (.int .i64 (-1)) ∧ w'' = w') := fun w' => by have := cmpCompare_any x y w'; rw [hc] at this; exact this
          clear hc
          go_wp2_with (go_at_call 232; refine (CT.out _).mono ?_; rintro e w1 ⟨rfl, rfl⟩)
          go_ret
          exact ⟨ret_int (by rw [HR.out, hj2.out]), rfl⟩
        · have hc : cmp1 x y = 0 := by unfold cmp1; rw [if_neg (by omega), if_neg (by omega)]
          have hj2 : Hid (cmpL (a.drop (k + 1)) (b.drop (k + 1)) = R) := Lib.hid (by have := hst.out; rw [hj.out, if_neg (by omega), if_neg (by omega)] at this; exact this.symm)
          have CT : Hid (∀ w', Calls Try.prog 232 #[.int .i64 x, .int .i64 y] w' fun e w'' => e = .returned (.int .i64 0) ∧ w'' = w') := fun w' => by have := cmpCompare_any x y w'; rw [hc] at this; exact this
          clear hc he
          go_wp2_with (go_at_call 232; refine (CT.out _).mono ?_; rintro e w1 ⟨rfl, rfl⟩)
          go_round
          case rel => exact ⟨k + 1, by omega, by omega, by go_num, hj2⟩
          case measure => (simp [intOf]; omega)
        · have hc : cmp1 x y = 1 := by unfold cmp1; rw [if_neg (by omega), if_pos he]
          have hj2 : Hid (R = 1) := Lib.hid (by have := hst.out; rw [hj.out, if_neg (by omega), if_pos he] at this; exact this)
          have CT : Hid (∀ w', Calls Try.prog 232 #[.int .i64 x, .int .i64 y] w' fun e w'' => e = .returned (.int .i64 1) ∧ w'' = w') := fun w' => by have := cmpCompare_any x y w'; rw [hc] at this; exact this
          clear hc
          go_wp2_with (go_at_call 232; refine (CT.out _).mono ?_; rintro e w1 ⟨rfl, rfl⟩)
          go_ret
          exact ⟨ret_int (by rw [HR.out, hj2.out]), rfl⟩
      · have hj2 : Hid (R = 1) := Lib.hid (by rw [← hj.out, cmpL_endB hlt1 (by omega)])
        clear fa hx
        go_wp2
        go_ret
        exact ⟨ret_int (by rw [HR.out, hj2.out]), rfl⟩
    · by_cases h : a.length < b.length
      · have hj2 : Hid (R = -1) := Lib.hid (by rw [← hj.out, cmpL_endA (by omega) (by omega)])
        go_wp2
        go_ret
        exact ⟨ret_int (by rw [HR.out, hj2.out]), rfl⟩
      · have hj2 : Hid (R = 0) := Lib.hid (by rw [← hj.out, cmpL_end (by omega) (by omega)])
        go_wp2
        go_ret
        exact ⟨ret_int (by rw [HR.out, hj2.out]), rfl⟩
end Go.Proofs.Ytjgghiniajmfjaa
