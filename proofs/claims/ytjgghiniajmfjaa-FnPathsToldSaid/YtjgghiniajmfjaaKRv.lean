/- Texts in one: Rv, Rv2. -/
import Derived.Test.YtjgghiniajmfjaaKApp
import Derived.Test.YtjgghiniajmfjaaOk
import Derived.Deep.RegionHeld3
import Derived.Deep.QuietTactic
import Derived.BigQuiet
/- Numbers read from bytes: impl.ReadVar and spec.ReadVar give the same. Condition: the text has at most 2^24 bytes. -/
namespace Go.Proofs.Ytjgghiniajmfjaa
open Go.RowKit
set_option linter.unusedVariables false
set_option linter.unusedSimpArgs false
/-- The number that bytes, low ones first, stand for. -/
def dec : List UInt8 → Nat
  | [] => 0
  | b :: l => b.toNat % 128 + 128 * dec l
theorem dec_snoc (l : List UInt8) (b : UInt8) : dec (l ++ [b]) = dec l + b.toNat % 128 * 128 ^ l.length := by
  induction l with
  | nil => simp [dec]
  | cons c l ih =>
    rw [List.cons_append]
    show c.toNat % 128 + 128 * dec (l ++ [b]) = c.toNat % 128 + 128 * dec l + b.toNat % 128 * 128 ^ (l.length + 1)
    rw [ih, Nat.pow_succ, Nat.mul_add, Nat.mul_comm 128 (b.toNat % 128 * 128 ^ l.length), Nat.mul_assoc (b.toNat % 128), Nat.add_assoc]
theorem dec_pos (l : List UInt8) (b : UInt8) (hb : b.toNat < 128) (h : b.toNat ≠ 0) : 0 < dec (l ++ [b]) := by
  rw [dec_snoc]
  have : 0 < 128 ^ l.length := Nat.pow_pos (by omega)
  have h2 : 0 < b.toNat % 128 * 128 ^ l.length := Nat.mul_pos (by omega) this
  omega
theorem varL_dec : ∀ (l : List UInt8) (b : UInt8), (∀ x ∈ l, 128 ≤ x.toNat) → b.toNat < 128 → (varL (dec (l ++ [b])) = l ++ [b] ↔ (l = [] ∨ b.toNat ≠ 0))
  | [], b, _, hb => by
    have h1 : dec ([] ++ [b]) = b.toNat := by simp [dec]; omega
    rw [h1, varL_small (by omega)]
    simp
  | c :: l, b, hl, hb => by
    have hc := hl c (by simp)
    have hcl := c.toNat_lt
    have ih := varL_dec l b (fun x hx => hl x (by simp [hx])) hb
    have h1 : dec ((c :: l) ++ [b]) = c.toNat % 128 + 128 * dec (l ++ [b]) := rfl
    by_cases hz : dec (l ++ [b]) = 0
    · rw [h1, hz, varL_small (by omega)]
      constructor
      · intro h
        have := congrArg List.length h
        simp at this
      · rintro (h | h)
        · cases h
        · exact absurd hz (by have := dec_pos l b hb h; omega)
    · rw [h1, varL_big (by omega)]
      have h2 : (c.toNat % 128 + 128 * dec (l ++ [b])) / 128 = dec (l ++ [b]) := by omega
      have h3 : UInt8.ofNat (128 + (c.toNat % 128 + 128 * dec (l ++ [b])) % 128) = c := by
        apply UInt8.toNat.inj
        simp
        omega
      rw [h2, h3, List.cons_append]
      simp only [List.cons.injEq, true_and, reduceCtorEq, false_or]
      rw [ih]
      constructor
      · rintro (h | h)
        · subst h
          intro h0
          apply hz
          simp [dec, h0]
        · exact h
      · exact fun h => .inr h
structure RvR where
  n : Int
  e : Int
  ok : Bool
def rvNo : RvR := ⟨0, 0, false⟩
def rvGo (s : ByteArray) (a i n u : Nat) : Nat → RvR
  | 0 => rvNo
  | f + 1 => if h : a + i < s.size then
      (if 128 ≤ s[a + i].toNat then rvGo s a (i + 1) (n + s[a + i].toNat % 128 * u) (u * 128) f
       else if (s[a + i].toNat = 0 ∧ 0 < i) ∨ 1000000000 < n + s[a + i].toNat % 128 * u then rvNo else ⟨(n + s[a + i].toNat % 128 * u : Nat), (a + i + 1 : Nat), true⟩)
    else rvNo
def rv (s : ByteArray) (at_ : Int) : RvR := if 0 ≤ at_ ∧ at_ ≤ s.size then rvGo s at_.toNat 0 0 1 5 else rvNo
theorem pow4 {i : Nat} (h : i ≤ 4) : 128 ^ i ≤ 268435456 := by
  have := Nat.pow_le_pow_right (show 0 < 128 by omega) h
  exact this
set_option maxRecDepth 100000 in
set_option maxHeartbeats 1000000 in
theorem implReadVar_any (s : ByteArray) (at_ : Int) (w : World) (hs : s.size ≤ 16777216) :
    Calls Try.prog 108 #[.string s, .int .i64 at_] w fun e w' => e = .returned (.tuple #[.int .i64 (rv s at_).n, .int .i64 (rv s at_).e, .bool (rv s at_).ok]) ∧ w = w' := by
  obtain ⟨r, hr⟩ : ∃ r, rv s at_ = r := ⟨_, rfl⟩
  have HR := Lib.hid hr
  rw [hr]
  clear hr
  by_cases ha : 0 ≤ at_ ∧ at_ ≤ s.size
  · obtain ⟨a, rfl⟩ := Int.eq_ofNat_of_zero_le ha.1
    obtain ⟨_, ha2⟩ := ha
    have ha3 : a ≤ s.size := by omega
    have H0 : Hid (rvGo s a 0 0 1 5 = r) := by rw [← HR.out]; unfold rv; rw [if_pos ⟨by omega, by omega⟩, Int.toNat_natCast]; exact rfl
    have hd0 : decide ((a : Int) < 0) = false := by simp
    have hd1 : decide (s.size < a) = false := by simp; omega
    go_enter Try.func108, Try.ntmps108
    go_wp2
    go_loop [7, 8, 9] (fun n u i => ∃ (k m v : Nat), k ≤ 5 ∧ i = .int .i64 k ∧ n = .int .i64 m ∧ u = .int .i64 v ∧ m ≤ v ∧ Hid (v = 128 ^ k) ∧ Hid (rvGo s a k m v (5 - k) = r)) (fun _ _ i => 5 - (intOf i).toNat)
    case atStart => exact ⟨0, 0, 1, by omega, rfl, rfl, rfl, by omega, rfl, H0⟩
    case round =>
      clear H0
      obtain ⟨k, m, v, hk, rfl, rfl, rfl, hmv, hv, hg⟩ := hrel
      by_cases hlt : k < 5 ∧ a + k < s.size
      · obtain ⟨hk5, hak⟩ := hlt
        have hv4 : v ≤ 268435456 := by rw [hv.out]; exact pow4 (by omega)
        obtain ⟨q, hq⟩ : ∃ q : Nat, s[a + k].toNat % 128 * v = q := ⟨_, rfl⟩
        have hq1 : q ≤ 127 * v := by rw [← hq]; exact Nat.mul_le_mul_right _ (by omega)
        have hqi : (s[a + k].toNat : Int) % 128 * (v : Int) = (q : Int) := by rw [← hq]; simp
        have hbl := s[a + k].toNat_lt
        have hstep : Hid (rvGo s a k m v (5 - k) = if 128 ≤ s[a + k].toNat then rvGo s a (k + 1) (m + q) (v * 128) (5 - (k + 1)) else if (s[a + k].toNat = 0 ∧ 0 < k) ∨ 1000000000 < m + q then rvNo else ⟨((m + q : Nat) : Int), ((a + k + 1 : Nat) : Int), true⟩) := by
          show _ = _
          rw [show 5 - k = (5 - (k + 1)) + 1 by omega, rvGo, dif_pos hak, hq]
        have HQ := Lib.hid hq
        clear hq
        by_cases hb : 128 ≤ s[a + k].toNat
        · go_wp2
          go_round
          case rel => exact ⟨k + 1, m + q, v * 128, by omega, by go_num, by go_num, by go_num, by omega, by show _ = _; rw [hv.out, Nat.pow_succ], by show _ = _; rw [← hg.out, hstep.out, if_pos hb]⟩
          case measure => simp [intOf]; omega
        · by_cases hz : (s[a + k].toNat = 0 ∧ 0 < k) ∨ 1000000000 < m + q
          · have HRN : Hid (r = rvNo) := by show _ = _; rw [← hg.out, hstep.out, if_neg hb, if_pos hz]
            rcases hz with hz | hz
            · obtain ⟨hz1, hz2⟩ := hz
              go_wp2
              go_ret3
              rw [HRN.out]
              exact ⟨rfl, rfl⟩
            · by_cases hz1 : s[a + k].toNat = 0 ∧ 0 < k
              · obtain ⟨hz2, hz3⟩ := hz1
                go_wp2
                go_ret3
                rw [HRN.out]
                exact ⟨rfl, rfl⟩
              · have hc : (decide ((s[a + k].toNat : Int) = 0) && decide ((0 : Int) < (k : Int))) = false := by
                  rw [Bool.and_eq_false_iff]; simp; omega
                go_wp2
                all_goals go_ret3
                all_goals rw [HRN.out]
                all_goals exact ⟨rfl, rfl⟩
          · have HRY : Hid (r = ⟨((m + q : Nat) : Int), ((a + k + 1 : Nat) : Int), true⟩) := by show _ = _; rw [← hg.out, hstep.out, if_neg hb, if_neg hz]
            have hz1 : ¬ (s[a + k].toNat = 0 ∧ 0 < k) := fun h => hz (.inl h)
            have hz2 : m + q ≤ 1000000000 := by omega
            clear hz
            by_cases hz3 : s[a + k].toNat = 0
            · have hz4 : k ≤ 0 := by omega
              have hz5 : q = 0 := by have := HQ.out; rw [hz3] at this; simpa using this.symm
              have HZ5 := Lib.hid hz5
              clear hz5
              go_wp2
              go_ret3
              rw [HRY.out, HZ5.out]
              exact ⟨by simp, rfl⟩
            · go_wp2
              go_ret3
              rw [HRY.out]
              exact ⟨by simp, rfl⟩
      · have HRN : Hid (r = rvNo) := by
          show _ = _
          rw [← hg.out]
          by_cases hk5 : k < 5
          · rw [show 5 - k = (5 - (k + 1)) + 1 by omega, rvGo, dif_neg (fun h => hlt ⟨hk5, h⟩)]
          · rw [show 5 - k = 0 by omega, rvGo]
        by_cases hk5 : k < 5
        · go_wp2
          go_ret3
          rw [HRN.out]
          exact ⟨rfl, rfl⟩
        · go_wp2
          go_ret3
          rw [HRN.out]
          exact ⟨rfl, rfl⟩
  · have HRN : Hid (r = rvNo) := by show _ = _; rw [← HR.out]; unfold rv; rw [if_neg ha]
    go_enter Try.func108, Try.ntmps108
    go_wp2
    all_goals go_ret3
    all_goals rw [HRN.out]
    all_goals exact ⟨rfl, rfl⟩
end Go.Proofs.Ytjgghiniajmfjaa

/- Numbers read from bytes: impl.ReadVar and spec.ReadVar give the same. Condition: the text has at most 2^24 bytes. -/
namespace Go.Proofs.Ytjgghiniajmfjaa
open Go.RowKit
set_option linter.unusedVariables false
set_option linter.unusedSimpArgs false
/-- The bytes of s from a on, k of them. -/
def bytesAt (s : ByteArray) (a k : Nat) : List UInt8 := (s.data.toList.drop a).take k
theorem bytesAt_length {s : ByteArray} {a k : Nat} (h : a + k ≤ s.size) : (bytesAt s a k).length = k := by
  have : s.data.toList.length = s.size := by rw [Array.length_toList]; rfl
  unfold bytesAt
  rw [List.length_take, List.length_drop]
  omega
theorem bytesAt_succ {s : ByteArray} {a k : Nat} (h : a + k < s.size) : bytesAt s a (k + 1) = bytesAt s a k ++ [s[a + k]] := by
  have hl : s.data.toList.length = s.size := by rw [Array.length_toList]; rfl
  unfold bytesAt
  rw [List.take_succ_eq_append_getElem (by rw [List.length_drop]; omega)]
  congr 1
  simp only [List.getElem_drop, Array.getElem_toList]
  rfl
theorem extract_bytes (s : ByteArray) (a k : Nat) : (s.extract a (a + k)).data.toList = bytesAt s a k := by
  unfold bytesAt
  rw [Lib.extract_data, Nat.add_sub_cancel_left]
set_option maxRecDepth 100000 in
set_option maxHeartbeats 1000000 in
theorem specReadVar_any (s : ByteArray) (at_ : Int) (w : World) (hs : s.size ≤ 16777216) :
    Calls Try.prog 101 #[.string s, .int .i64 at_] w fun e w' => e = .returned (.tuple #[.int .i64 (rv s at_).n, .int .i64 (rv s at_).e, .bool (rv s at_).ok]) ∧ Fr w w' := by
  obtain ⟨r, hr⟩ : ∃ r, rv s at_ = r := ⟨_, rfl⟩
  have HR := Lib.hid hr
  rw [hr]
  clear hr
  by_cases ha : 0 ≤ at_ ∧ at_ ≤ s.size
  · obtain ⟨a, rfl⟩ := Int.eq_ofNat_of_zero_le ha.1
    obtain ⟨_, ha2⟩ := ha
    have ha3 : a ≤ s.size := by omega
    have H0 : Hid (rvGo s a 0 0 1 5 = r) := by rw [← HR.out]; unfold rv; rw [if_pos ⟨by omega, by omega⟩, Int.toNat_natCast]; exact rfl
    have hd0 : decide ((0 : Int) ≤ (a : Int) ∧ (a : Int) ≤ (s.size : Int)) = true := by simp; omega
    go_enter Try.func101, Try.ntmps101
    go_wp2_with (go_at_call 94; refine (l01In_any _ _ _ _).mono ?_; rintro e w1 ⟨rfl, rfl⟩)
    go_loop [7, 8, 9] (fun n u i => ∃ (k m v : Nat), k ≤ 5 ∧ i = .int .i64 ((a : Int) + k) ∧ n = .int .i64 m ∧ u = .int .i64 v ∧ m ≤ v ∧ a + k ≤ s.size ∧ Hid (v = 128 ^ k) ∧ Hid (m = dec (bytesAt s a k)) ∧ Hid (∀ x ∈ bytesAt s a k, 128 ≤ x.toNat) ∧ Hid (rvGo s a k m v (5 - k) = r)) (fun _ _ i => a + 5 - (intOf i).toNat)
    case atStart => exact ⟨0, 0, 1, by omega, by go_num, rfl, rfl, by omega, ha3, rfl, by show _ = _; simp [bytesAt, dec], fun x hx => by simp [bytesAt] at hx, H0⟩
    case round =>
      clear H0
      obtain ⟨k, m, v, hk, rfl, rfl, rfl, hmv, hak0, hv, hm, hall, hg⟩ := hrel
      by_cases hlt : k < 5 ∧ a + k < s.size
      · obtain ⟨hk5, hak⟩ := hlt
        have hv4 : v ≤ 268435456 := by rw [hv.out]; exact pow4 (by omega)
        obtain ⟨q, hq⟩ : ∃ q : Nat, s[a + k].toNat % 128 * v = q := ⟨_, rfl⟩
        have hq1 : q ≤ 127 * v := by rw [← hq]; exact Nat.mul_le_mul_right _ (by omega)
        have hqi : (s[a + k].toNat : Int) % 128 * (v : Int) = (q : Int) := by rw [← hq]; simp
        have hbl := s[a + k].toNat_lt
        have hstep : Hid (rvGo s a k m v (5 - k) = if 128 ≤ s[a + k].toNat then rvGo s a (k + 1) (m + q) (v * 128) (5 - (k + 1)) else if (s[a + k].toNat = 0 ∧ 0 < k) ∨ 1000000000 < m + q then rvNo else ⟨((m + q : Nat) : Int), ((a + k + 1 : Nat) : Int), true⟩) := by
          show _ = _
          rw [show 5 - k = (5 - (k + 1)) + 1 by omega, rvGo, dif_pos hak, hq]
        have hdec : Hid (m + q = dec (bytesAt s a (k + 1))) := by
          show _ = _
          rw [bytesAt_succ hak, dec_snoc, bytesAt_length hak0, ← hv.out, hq, ← hm.out]
        have HQ := Lib.hid hq
        clear hq
        by_cases hb : 128 ≤ s[a + k].toNat
        · go_wp2_with fail
          go_round
          case rel => exact ⟨k + 1, m + q, v * 128, by omega, by go_num, by go_num, by go_num, by omega, by omega, by show _ = _; rw [hv.out, Nat.pow_succ], hdec, fun x hx => by rw [bytesAt_succ hak] at hx; rcases List.mem_append.1 hx with h | h; exact hall.out x h; simp at h; subst h; exact hb, by show _ = _; rw [← hg.out, hstep.out, if_pos hb]⟩
          case measure => simp [intOf]; omega
        · have hcan : Hid ((s[a + k].toNat = 0 ∧ 0 < k) ↔ ¬ varL (m + q) = bytesAt s a (k + 1)) := by
            show _ ↔ _
            rw [hdec.out, bytesAt_succ hak, varL_dec _ _ hall.out (by omega)]
            have h1 : bytesAt s a k = [] ↔ k = 0 := by rw [← List.length_eq_zero_iff, bytesAt_length hak0]
            rw [h1]
            omega
          by_cases hmx : 1000000000 < m + q
          · have HRN : Hid (r = rvNo) := by show _ = _; rw [← hg.out, hstep.out, if_neg hb, if_pos (.inr hmx)]
            have hd1 : decide ((1000000000 : Int) < (m : Int) + (q : Int)) = true := by simp; omega
            go_wp2_with fail
            try go_quiet (fail)
            try go_wp2_with fail
            go_ret3
            rw [HRN.out]
            exact ⟨rfl, by repeat (first | (with_reducible exact Fr.refl _) | (with_reducible assumption) | (with_reducible refine Fr.drewN ?_ _) | (with_reducible refine Fr.drew ?_) | (with_reducible refine Fr.alloc ?_ _) | (with_reducible refine Fr.setCell ?_ (by (first | (with_reducible assumption) | omega | (simp only [World.size_alloc, World.size_setCell, World.size_drew, World.heap_drewN]; omega) | (simp; done) | (simp; omega))) _) | (with_reducible refine Fr.trans ?_ (by with_reducible assumption)))⟩
          · have hd1 : decide ((1000000000 : Int) < (m : Int) + (q : Int)) = false := by simp; omega
            have hw0 : (0 : Int) ≤ (a : Int) := by omega
            have hw1 : (a : Int) ≤ (a : Int) + k + 1 := by omega
            have hw2 : (a : Int) + k + 1 ≤ s.size := by omega
            have hw4 : (0 : Int) ≤ (a : Int) + k + 1 := by omega
            have hw5 : ((a : Int) + k + 1).toNat = a + k + 1 := by omega
            have hw3 : IntKind.i64.wrap ((a : Int) + k + 1) = (a : Int) + k + 1 := IntWalk.i64_in _ (by omega)
            have hv0 : vText ((m : Int) + q) = ⟨(varL (m + q)).toArray⟩ := by unfold vText; rw [show ((m : Int) + q).toNat = m + q by omega]
            by_cases hc : varL (m + q) = bytesAt s a (k + 1)
            · have heq : vText ((m : Int) + q) = s.extract a (a + k + 1) := by
                rw [hv0, hc]
                apply WideShapes.bytes_inj
                rw [Nat.add_assoc, extract_bytes]
              have hq1 := bytes_beq heq
              have HRY : Hid (r = ⟨((m + q : Nat) : Int), ((a + k + 1 : Nat) : Int), true⟩) := by show _ = _; rw [← hg.out, hstep.out, if_neg hb, if_neg (by rintro (h | h); exact hcan.out.1 h hc; exact hmx h)]
              clear hc heq hv0
              go_wp2_with fail
              go_region_held3 (fun w' => Fr w w') (repeat (first | (with_reducible exact Fr.refl _) | (with_reducible assumption) | (with_reducible refine Fr.drewN ?_ _) | (with_reducible refine Fr.drew ?_) | (with_reducible refine Fr.alloc ?_ _) | (with_reducible refine Fr.setCell ?_ (by (first | (with_reducible assumption) | omega | (simp only [World.size_alloc, World.size_setCell, World.size_drew, World.heap_drewN]; omega) | (simp; done) | (simp; omega))) _) | (with_reducible refine Fr.trans ?_ (by with_reducible assumption)))) (first | (go_at_call 130; refine (l01Var_any _ _ (by omega) (by omega)).mono ?_; rintro e w2 ⟨rfl, hf2⟩))
              go_wp2_with fail
              go_ret3
              rw [HRY.out]
              exact ⟨by simp, by repeat (first | (with_reducible exact Fr.refl _) | (with_reducible assumption) | (with_reducible refine Fr.drewN ?_ _) | (with_reducible refine Fr.drew ?_) | (with_reducible refine Fr.alloc ?_ _) | (with_reducible refine Fr.setCell ?_ (by (first | (with_reducible assumption) | omega | (simp only [World.size_alloc, World.size_setCell, World.size_drew, World.heap_drewN]; omega) | (simp; done) | (simp; omega))) _) | (with_reducible refine Fr.trans ?_ (by with_reducible assumption)))⟩
            · have hne : ¬ vText ((m : Int) + q) = s.extract a (a + k + 1) := by
                rw [hv0]
                intro h
                apply hc
                have := congrArg (fun x => x.data.toList) h
                rw [Nat.add_assoc] at this
                simp only [extract_bytes] at this
                exact this
              have hq1 := bytes_bne hne
              have HRN : Hid (r = rvNo) := by show _ = _; rw [← hg.out, hstep.out, if_neg hb, if_pos (.inl (hcan.out.2 hc))]
              clear hc hne hv0
              go_wp2_with fail
              go_region_held3 (fun w' => Fr w w') (repeat (first | (with_reducible exact Fr.refl _) | (with_reducible assumption) | (with_reducible refine Fr.drewN ?_ _) | (with_reducible refine Fr.drew ?_) | (with_reducible refine Fr.alloc ?_ _) | (with_reducible refine Fr.setCell ?_ (by (first | (with_reducible assumption) | omega | (simp only [World.size_alloc, World.size_setCell, World.size_drew, World.heap_drewN]; omega) | (simp; done) | (simp; omega))) _) | (with_reducible refine Fr.trans ?_ (by with_reducible assumption)))) (first | (go_at_call 130; refine (l01Var_any _ _ (by omega) (by omega)).mono ?_; rintro e w2 ⟨rfl, hf2⟩))
              go_wp2_with fail
              go_ret3
              rw [HRN.out]
              exact ⟨rfl, by repeat (first | (with_reducible exact Fr.refl _) | (with_reducible assumption) | (with_reducible refine Fr.drewN ?_ _) | (with_reducible refine Fr.drew ?_) | (with_reducible refine Fr.alloc ?_ _) | (with_reducible refine Fr.setCell ?_ (by (first | (with_reducible assumption) | omega | (simp only [World.size_alloc, World.size_setCell, World.size_drew, World.heap_drewN]; omega) | (simp; done) | (simp; omega))) _) | (with_reducible refine Fr.trans ?_ (by with_reducible assumption)))⟩
      · have HRN : Hid (r = rvNo) := by
          show _ = _
          rw [← hg.out]
          by_cases hk5 : k < 5
          · rw [show 5 - k = (5 - (k + 1)) + 1 by omega, rvGo, dif_neg (fun h => hlt ⟨hk5, h⟩)]
          · rw [show 5 - k = 0 by omega, rvGo]
        by_cases hk5 : a + k < s.size
        · go_wp2
          go_ret3
          rw [HRN.out]
          exact ⟨rfl, by repeat (first | (with_reducible exact Fr.refl _) | (with_reducible assumption) | (with_reducible refine Fr.drewN ?_ _) | (with_reducible refine Fr.drew ?_) | (with_reducible refine Fr.alloc ?_ _) | (with_reducible refine Fr.setCell ?_ (by (first | (with_reducible assumption) | omega | (simp only [World.size_alloc, World.size_setCell, World.size_drew, World.heap_drewN]; omega) | (simp; done) | (simp; omega))) _) | (with_reducible refine Fr.trans ?_ (by with_reducible assumption)))⟩
        · go_wp2
          go_ret3
          rw [HRN.out]
          exact ⟨rfl, by repeat (first | (with_reducible exact Fr.refl _) | (with_reducible assumption) | (with_reducible refine Fr.drewN ?_ _) | (with_reducible refine Fr.drew ?_) | (with_reducible refine Fr.alloc ?_ _) | (with_reducible refine Fr.setCell ?_ (by (first | (with_reducible assumption) | omega | (simp only [World.size_alloc, World.size_setCell, World.size_drew, World.heap_drewN]; omega) | (simp; done) | (simp; omega))) _) | (with_reducible refine Fr.trans ?_ (by with_reducible assumption)))⟩
  · have HRN : Hid (r = rvNo) := by show _ = _; rw [← HR.out]; unfold rv; rw [if_neg ha]
    have hd0 : decide ((0 : Int) ≤ at_ ∧ at_ ≤ (s.size : Int)) = false := decide_eq_false ha
    go_enter Try.func101, Try.ntmps101
    go_wp2_with (go_at_call 94; refine (l01In_any _ _ _ _).mono ?_; rintro e w1 ⟨rfl, rfl⟩)
    all_goals go_ret3
    all_goals rw [HRN.out]
    all_goals exact ⟨rfl, by repeat (first | (with_reducible exact Fr.refl _) | (with_reducible assumption) | (with_reducible refine Fr.drewN ?_ _) | (with_reducible refine Fr.drew ?_) | (with_reducible refine Fr.alloc ?_ _) | (with_reducible refine Fr.setCell ?_ (by (first | (with_reducible assumption) | omega | (simp only [World.size_alloc, World.size_setCell, World.size_drew, World.heap_drewN]; omega) | (simp; done) | (simp; omega))) _) | (with_reducible refine Fr.trans ?_ (by with_reducible assumption)))⟩
end Go.Proofs.Ytjgghiniajmfjaa
