/- Readers of a text: spec's l03Var, l03Byte; impl's scanner (number, octet, rest). One plain model for both. No condition but the sizes. -/
import Derived.Test.YtjgghiniajmfjaaKUnf
import Derived.Test.YtjgghiniajmfjaaKRv
import Derived.Test.YtjgghiniajmfjaaKApp
import Derived.Deep.QuietTactic
import Derived.BigQuiet
import Derived.Deep.RegionHeld3
namespace Go.Proofs.Ytjgghiniajmfjaa
open Go.RowKit
set_option linter.unusedVariables false
set_option linter.unusedSimpArgs false

structure Sc where
  a : Nat
  bad : Bool
def scVar (s : ByteArray) (c : Sc) : Int × Sc := if c.bad = true ∨ (rv s c.a).ok = false then (0, ⟨c.a, true⟩) else ((rv s c.a).n, ⟨(rv s c.a).e.toNat, false⟩)
def scByte (s : ByteArray) (c : Sc) : Int × Sc := if h : c.bad = true ∨ s.size ≤ c.a then (0, ⟨c.a, true⟩) else (((s[c.a]'(by omega)).toNat : Int), ⟨c.a + 1, false⟩)
theorem scVar_no {s : ByteArray} {c : Sc} (h : c.bad = true ∨ (rv s c.a).ok = false) : scVar s c = (0, ⟨c.a, true⟩) := if_pos h
theorem scVar_ok {s : ByteArray} {c : Sc} (h : ¬ (c.bad = true ∨ (rv s c.a).ok = false)) : scVar s c = ((rv s c.a).n, ⟨(rv s c.a).e.toNat, false⟩) := if_neg h
theorem scByte_no {s : ByteArray} {c : Sc} (h : c.bad = true ∨ s.size ≤ c.a) : scByte s c = (0, ⟨c.a, true⟩) := dif_pos h
theorem scByte_ok {s : ByteArray} {c : Sc} (h : ¬ (c.bad = true ∨ s.size ≤ c.a)) : scByte s c = (((s[c.a]'(by omega)).toNat : Int), ⟨c.a + 1, false⟩) := dif_neg h
theorem scVar_le {s : ByteArray} {c : Sc} (hc : c.a ≤ s.size) : (scVar s c).2.a ≤ s.size := by
  by_cases h : c.bad = true ∨ (rv s c.a).ok = false
  · rw [scVar_no h]; exact hc
  · rw [scVar_ok h]
    obtain ⟨n, j, h1, h2, h3, _⟩ := rv_ok hc (by cases hh : (rv s c.a).ok <;> simp_all)
    rw [h2]
    show ((c.a + j + 1 : Nat) : Int).toNat ≤ _
    rw [Int.toNat_natCast]
    exact h3
theorem scByte_le {s : ByteArray} {c : Sc} (hc : c.a ≤ s.size) : (scByte s c).2.a ≤ s.size := by
  by_cases h : c.bad = true ∨ s.size ≤ c.a
  · rw [scByte_no h]; exact hc
  · rw [scByte_ok h]; show c.a + 1 ≤ s.size; omega
/-- A number that was read and not refused. -/
theorem scVar_read {s : ByteArray} {c : Sc} (hc : c.a ≤ s.size) (h : (scVar s c).2.bad = false) : c.bad = false ∧ ∃ (n j : Nat), scVar s c = ((n : Int), ⟨c.a + j + 1, false⟩) ∧ c.a + j + 1 ≤ s.size ∧ n ≤ 1000000000 ∧ varL n = bytesAt s c.a (j + 1) := by
  by_cases hh : c.bad = true ∨ (rv s c.a).ok = false
  · rw [scVar_no hh] at h; cases h
  · obtain ⟨n, j, h1, h2, h3, h4, h5⟩ := rv_ok hc (by cases hk : (rv s c.a).ok <;> simp_all)
    refine ⟨by cases hb : c.bad <;> simp_all, n, j, ?_, h3, h4, h5⟩
    rw [scVar_ok hh, h1, h2, Int.toNat_natCast]
theorem scByte_read {s : ByteArray} {c : Sc} (h : (scByte s c).2.bad = false) : c.bad = false ∧ ∃ (hlt : c.a < s.size), scByte s c = (((s[c.a]).toNat : Int), ⟨c.a + 1, false⟩) := by
  by_cases hh : c.bad = true ∨ s.size ≤ c.a
  · rw [scByte_no hh] at h; cases h
  · exact ⟨by cases hb : c.bad <;> simp_all, by omega, scByte_ok hh⟩
theorem scVar_nat (s : ByteArray) (c : Sc) (hc : c.a ≤ s.size) : 0 ≤ (scVar s c).1 ∧ (scVar s c).1 ≤ 1000000000 := by
  by_cases hh : c.bad = true ∨ (rv s c.a).ok = false
  · rw [scVar_no hh]; exact ⟨Int.le_refl _, by show (0 : Int) ≤ _; omega⟩
  · obtain ⟨n, j, h1, h2, h3, h4, h5⟩ := rv_ok hc (by cases hk : (rv s c.a).ok <;> simp_all)
    rw [scVar_ok hh, h1]
    exact ⟨by show (0 : Int) ≤ _; omega, by show (_ : Int) ≤ _; omega⟩
theorem scByte_nat (s : ByteArray) (c : Sc) : 0 ≤ (scByte s c).1 ∧ (scByte s c).1 ≤ 255 := by
  by_cases hh : c.bad = true ∨ s.size ≤ c.a
  · rw [scByte_no hh]; exact ⟨Int.le_refl _, by show (0 : Int) ≤ _; omega⟩
  · rw [scByte_ok hh]
    have := (s[c.a]'(by omega)).toNat_lt
    exact ⟨by show (0 : Int) ≤ _; omega, by show (_ : Int) ≤ _; omega⟩
theorem wrap_byte (x : UInt8) : wrap64 (x.toNat : Int) = (x.toNat : Int) := by rw [← IntWalk.i64_left]; exact IntWalk.i64_in _ (by have := x.toNat_lt; omega)
theorem ret_u8 {a b : Int} (h : a = b) : Ending.returned (.int .u8 a) = .returned (.int .u8 b) := by rw [h]
theorem Span.set1 {b i : Nat} {w : World} {v : Value} : Span b (b + 1) w (w.setCell ⟨b, i, none⟩ v) := by
  refine ⟨rfl, rfl, rfl, by simp, fun k hk ho => ?_⟩
  exact heap_setCell_other w ⟨b, i, none⟩ k v (by show k ≠ b; omega)
set_option maxHeartbeats 1000000 in
theorem l03Var_any (b a : Nat) (bad : Bool) (s : ByteArray) (w : World) (hb : Box w b #[.string s, .int .i64 (a : Int), .bool bad] 201) (hs : s.size ≤ 16777216) (hc : a ≤ s.size) :
    Calls Try.prog 153 #[.pointer (some ⟨b, 0, none⟩)] w fun e w' => e = .returned (.int .i64 (scVar s ⟨a, bad⟩).1) ∧ Box w' b #[.string s, .int .i64 ((scVar s ⟨a, bad⟩).2.a : Int), .bool (scVar s ⟨a, bad⟩).2.bad] 201 ∧ Span b (b + 1) w w' := by
  have HB := Lib.hid hb
  have F := hb.facts
  obtain ⟨r, hr⟩ : ∃ r, rv s (a : Int) = r := ⟨_, rfl⟩
  have HR := Lib.hid hr
  have CT : Hid (∀ w', Fr w w' → Calls Try.prog 101 #[.string s, .int .i64 (a : Int)] w' fun e w'' => e = .returned (.tuple #[.int .i64 r.n, .int .i64 r.e, .bool r.ok]) ∧ Fr w' w'') := fun w' hf => by rw [← hr]; exact specReadVar_any s a w' hs
  clear hr hb
  obtain ⟨rn, re, rok⟩ := r
  have RB : ∀ w', Sf w w' → ∀ o, w'.cell? ⟨b, o, none⟩ = #[Value.string s, .int .i64 (a : Int), .bool bad][o]? := fun w' h o => (HB.out.fr h.out).cell o
  cases hq : (bad || !rok)
  · obtain rfl : bad = false := by cases bad <;> simp_all
    obtain rfl : rok = true := by cases rok <;> simp_all
    have HK := Lib.hid (scVar_ok (s := s) (c := ⟨a, false⟩) (show ¬ ((⟨a, false⟩ : Sc).bad = true ∨ (rv s (a : Int)).ok = false) by rw [HR.out]; simp))
    obtain ⟨p, hp⟩ : ∃ p : Nat, re = (p : Int) := by
      obtain ⟨n, j, h1, h2, _⟩ := rv_ok hc (show (rv s (a : Int)).ok = true by rw [HR.out])
      rw [HR.out] at h2
      exact ⟨_, h2⟩
    subst hp
    go_enter Try.func153, Try.ntmps153
    go_wp2_with fail
    go_region_held3 (fun w' => Sf w w') ((refine Sf.mk ?_; repeat (first | (with_reducible exact Fr.refl _) | (with_reducible assumption) | (with_reducible refine Fr.drewN ?_ _) | (with_reducible refine Fr.drew ?_) | (with_reducible refine Fr.alloc ?_ _) | (with_reducible refine Fr.setCell ?_ (by (first | (with_reducible assumption) | omega | (simp only [World.size_alloc, World.size_setCell, World.size_drew, World.heap_drewN]; omega) | (simp; done) | (simp; omega))) _) | (with_reducible refine Fr.trans ?_ (by with_reducible assumption))))) (first | (go_at_call 101; refine (CT.out _ (by repeat (first | (with_reducible exact Fr.refl _) | (with_reducible assumption) | (with_reducible refine Fr.drewN ?_ _) | (with_reducible refine Fr.drew ?_) | (with_reducible refine Fr.alloc ?_ _) | (with_reducible refine Fr.setCell ?_ (by (first | (with_reducible assumption) | omega | (simp only [World.size_alloc, World.size_setCell, World.size_drew, World.heap_drewN]; omega) | (simp; done) | (simp; omega))) _) | (with_reducible refine Fr.trans ?_ (by with_reducible assumption))))).mono ?_; rintro e w1 ⟨rfl, hf1⟩))
    clear RB
    have hf2 : Fr w w1 := by repeat (first | (with_reducible exact Fr.refl _) | (with_reducible assumption) | (with_reducible refine Fr.drewN ?_ _) | (with_reducible refine Fr.drew ?_) | (with_reducible refine Fr.alloc ?_ _) | (with_reducible refine Fr.setCell ?_ (by (first | (with_reducible assumption) | omega | (simp only [World.size_alloc, World.size_setCell, World.size_drew, World.heap_drewN]; omega) | (simp; done) | (simp; omega))) _) | (with_reducible refine Fr.trans ?_ (by with_reducible assumption)))
    have B2 := HB.out.fr hf2
    have F2 := B2.facts
    go_wp2_with fail
    go_ret
    refine ⟨ret_int (by rw [HK.out, HR.out]), ?_, (Span.of_fr hf2).trans Span.set1⟩
    rw [HK.out]
    refine (B2.set_to (by simp only [HR.out]; simp))
  · have HK := Lib.hid (scVar_no (s := s) (c := ⟨a, bad⟩) (show (⟨a, bad⟩ : Sc).bad = true ∨ (rv s (a : Int)).ok = false by rw [HR.out]; cases bad <;> cases rok <;> simp_all))
    have HQ := Lib.hid hq
    clear hq
    cases bad
    · obtain rfl : rok = false := by have := HQ.out; cases rok <;> simp_all
      go_enter Try.func153, Try.ntmps153
      go_wp2_with fail
      go_region_held3 (fun w' => Sf w w') ((refine Sf.mk ?_; repeat (first | (with_reducible exact Fr.refl _) | (with_reducible assumption) | (with_reducible refine Fr.drewN ?_ _) | (with_reducible refine Fr.drew ?_) | (with_reducible refine Fr.alloc ?_ _) | (with_reducible refine Fr.setCell ?_ (by (first | (with_reducible assumption) | omega | (simp only [World.size_alloc, World.size_setCell, World.size_drew, World.heap_drewN]; omega) | (simp; done) | (simp; omega))) _) | (with_reducible refine Fr.trans ?_ (by with_reducible assumption))))) (first | (go_at_call 101; refine (CT.out _ (by repeat (first | (with_reducible exact Fr.refl _) | (with_reducible assumption) | (with_reducible refine Fr.drewN ?_ _) | (with_reducible refine Fr.drew ?_) | (with_reducible refine Fr.alloc ?_ _) | (with_reducible refine Fr.setCell ?_ (by (first | (with_reducible assumption) | omega | (simp only [World.size_alloc, World.size_setCell, World.size_drew, World.heap_drewN]; omega) | (simp; done) | (simp; omega))) _) | (with_reducible refine Fr.trans ?_ (by with_reducible assumption))))).mono ?_; rintro e w1 ⟨rfl, hf1⟩))
      clear RB
      have hf2 : Fr w w1 := by repeat (first | (with_reducible exact Fr.refl _) | (with_reducible assumption) | (with_reducible refine Fr.drewN ?_ _) | (with_reducible refine Fr.drew ?_) | (with_reducible refine Fr.alloc ?_ _) | (with_reducible refine Fr.setCell ?_ (by (first | (with_reducible assumption) | omega | (simp only [World.size_alloc, World.size_setCell, World.size_drew, World.heap_drewN]; omega) | (simp; done) | (simp; omega))) _) | (with_reducible refine Fr.trans ?_ (by with_reducible assumption)))
      have B2 := HB.out.fr hf2
      have F2 := B2.facts
      go_wp2_with fail
      go_ret
      refine ⟨ret_int (by rw [HK.out]), ?_, (Span.of_fr hf2).trans Span.set1⟩
      rw [HK.out]
      refine (B2.set_to (by simp))
    · cases rok
      · go_enter Try.func153, Try.ntmps153
        go_wp2_with fail
        go_region_held3 (fun w' => Sf w w') ((refine Sf.mk ?_; repeat (first | (with_reducible exact Fr.refl _) | (with_reducible assumption) | (with_reducible refine Fr.drewN ?_ _) | (with_reducible refine Fr.drew ?_) | (with_reducible refine Fr.alloc ?_ _) | (with_reducible refine Fr.setCell ?_ (by (first | (with_reducible assumption) | omega | (simp only [World.size_alloc, World.size_setCell, World.size_drew, World.heap_drewN]; omega) | (simp; done) | (simp; omega))) _) | (with_reducible refine Fr.trans ?_ (by with_reducible assumption))))) (first | (go_at_call 101; refine (CT.out _ (by repeat (first | (with_reducible exact Fr.refl _) | (with_reducible assumption) | (with_reducible refine Fr.drewN ?_ _) | (with_reducible refine Fr.drew ?_) | (with_reducible refine Fr.alloc ?_ _) | (with_reducible refine Fr.setCell ?_ (by (first | (with_reducible assumption) | omega | (simp only [World.size_alloc, World.size_setCell, World.size_drew, World.heap_drewN]; omega) | (simp; done) | (simp; omega))) _) | (with_reducible refine Fr.trans ?_ (by with_reducible assumption))))).mono ?_; rintro e w1 ⟨rfl, hf1⟩))
        clear RB
        have hf2 : Fr w w1 := by repeat (first | (with_reducible exact Fr.refl _) | (with_reducible assumption) | (with_reducible refine Fr.drewN ?_ _) | (with_reducible refine Fr.drew ?_) | (with_reducible refine Fr.alloc ?_ _) | (with_reducible refine Fr.setCell ?_ (by (first | (with_reducible assumption) | omega | (simp only [World.size_alloc, World.size_setCell, World.size_drew, World.heap_drewN]; omega) | (simp; done) | (simp; omega))) _) | (with_reducible refine Fr.trans ?_ (by with_reducible assumption)))
        have B2 := HB.out.fr hf2
        have F2 := B2.facts
        go_wp2_with fail
        go_ret
        refine ⟨ret_int (by rw [HK.out]), ?_, (Span.of_fr hf2).trans Span.set1⟩
        rw [HK.out]
        refine (B2.set_to (by simp))
      · go_enter Try.func153, Try.ntmps153
        go_wp2_with fail
        go_region_held3 (fun w' => Sf w w') ((refine Sf.mk ?_; repeat (first | (with_reducible exact Fr.refl _) | (with_reducible assumption) | (with_reducible refine Fr.drewN ?_ _) | (with_reducible refine Fr.drew ?_) | (with_reducible refine Fr.alloc ?_ _) | (with_reducible refine Fr.setCell ?_ (by (first | (with_reducible assumption) | omega | (simp only [World.size_alloc, World.size_setCell, World.size_drew, World.heap_drewN]; omega) | (simp; done) | (simp; omega))) _) | (with_reducible refine Fr.trans ?_ (by with_reducible assumption))))) (first | (go_at_call 101; refine (CT.out _ (by repeat (first | (with_reducible exact Fr.refl _) | (with_reducible assumption) | (with_reducible refine Fr.drewN ?_ _) | (with_reducible refine Fr.drew ?_) | (with_reducible refine Fr.alloc ?_ _) | (with_reducible refine Fr.setCell ?_ (by (first | (with_reducible assumption) | omega | (simp only [World.size_alloc, World.size_setCell, World.size_drew, World.heap_drewN]; omega) | (simp; done) | (simp; omega))) _) | (with_reducible refine Fr.trans ?_ (by with_reducible assumption))))).mono ?_; rintro e w1 ⟨rfl, hf1⟩))
        clear RB
        have hf2 : Fr w w1 := by repeat (first | (with_reducible exact Fr.refl _) | (with_reducible assumption) | (with_reducible refine Fr.drewN ?_ _) | (with_reducible refine Fr.drew ?_) | (with_reducible refine Fr.alloc ?_ _) | (with_reducible refine Fr.setCell ?_ (by (first | (with_reducible assumption) | omega | (simp only [World.size_alloc, World.size_setCell, World.size_drew, World.heap_drewN]; omega) | (simp; done) | (simp; omega))) _) | (with_reducible refine Fr.trans ?_ (by with_reducible assumption)))
        have B2 := HB.out.fr hf2
        have F2 := B2.facts
        go_wp2_with fail
        go_ret
        refine ⟨ret_int (by rw [HK.out]), ?_, (Span.of_fr hf2).trans Span.set1⟩
        rw [HK.out]
        refine (B2.set_to (by simp))
set_option maxHeartbeats 1000000 in
theorem number_any (b a : Nat) (bad : Bool) (s : ByteArray) (w : World) (hb : Box w b #[.string s, .int .i64 (a : Int), .bool bad] 193) (hs : s.size ≤ 16777216) (hc : a ≤ s.size) :
    Calls Try.prog 187 #[.pointer (some ⟨b, 0, none⟩)] w fun e w' => e = .returned (.int .i64 (scVar s ⟨a, bad⟩).1) ∧ Box w' b #[.string s, .int .i64 ((scVar s ⟨a, bad⟩).2.a : Int), .bool (scVar s ⟨a, bad⟩).2.bad] 193 ∧ Span b (b + 1) w w' := by
  have HB := Lib.hid hb
  have F := hb.facts
  obtain ⟨r, hr⟩ : ∃ r, rv s (a : Int) = r := ⟨_, rfl⟩
  have HR := Lib.hid hr
  have CT : Hid (∀ w', Fr w w' → Calls Try.prog 108 #[.string s, .int .i64 (a : Int)] w' fun e w'' => e = .returned (.tuple #[.int .i64 r.n, .int .i64 r.e, .bool r.ok]) ∧ Fr w' w'') := fun w' hf => by rw [← hr]; exact (implReadVar_any s a w' hs).mono fun e w'' h => ⟨h.1, h.2 ▸ Fr.refl _⟩
  clear hr hb
  obtain ⟨rn, re, rok⟩ := r
  have RB : ∀ w', Sf w w' → ∀ o, w'.cell? ⟨b, o, none⟩ = #[Value.string s, .int .i64 (a : Int), .bool bad][o]? := fun w' h o => (HB.out.fr h.out).cell o
  cases hq : (bad || !rok)
  · obtain rfl : bad = false := by cases bad <;> simp_all
    obtain rfl : rok = true := by cases rok <;> simp_all
    have HK := Lib.hid (scVar_ok (s := s) (c := ⟨a, false⟩) (show ¬ ((⟨a, false⟩ : Sc).bad = true ∨ (rv s (a : Int)).ok = false) by rw [HR.out]; simp))
    obtain ⟨p, hp⟩ : ∃ p : Nat, re = (p : Int) := by
      obtain ⟨n, j, h1, h2, _⟩ := rv_ok hc (show (rv s (a : Int)).ok = true by rw [HR.out])
      rw [HR.out] at h2
      exact ⟨_, h2⟩
    subst hp
    go_enter Try.func187, Try.ntmps187
    go_wp2_with fail
    go_region_held3 (fun w' => Sf w w') ((refine Sf.mk ?_; repeat (first | (with_reducible exact Fr.refl _) | (with_reducible assumption) | (with_reducible refine Fr.drewN ?_ _) | (with_reducible refine Fr.drew ?_) | (with_reducible refine Fr.alloc ?_ _) | (with_reducible refine Fr.setCell ?_ (by (first | (with_reducible assumption) | omega | (simp only [World.size_alloc, World.size_setCell, World.size_drew, World.heap_drewN]; omega) | (simp; done) | (simp; omega))) _) | (with_reducible refine Fr.trans ?_ (by with_reducible assumption))))) (first | (go_at_call 108; refine (CT.out _ (by repeat (first | (with_reducible exact Fr.refl _) | (with_reducible assumption) | (with_reducible refine Fr.drewN ?_ _) | (with_reducible refine Fr.drew ?_) | (with_reducible refine Fr.alloc ?_ _) | (with_reducible refine Fr.setCell ?_ (by (first | (with_reducible assumption) | omega | (simp only [World.size_alloc, World.size_setCell, World.size_drew, World.heap_drewN]; omega) | (simp; done) | (simp; omega))) _) | (with_reducible refine Fr.trans ?_ (by with_reducible assumption))))).mono ?_; rintro e w1 ⟨rfl, hf1⟩))
    clear RB
    have hf2 : Fr w w1 := by repeat (first | (with_reducible exact Fr.refl _) | (with_reducible assumption) | (with_reducible refine Fr.drewN ?_ _) | (with_reducible refine Fr.drew ?_) | (with_reducible refine Fr.alloc ?_ _) | (with_reducible refine Fr.setCell ?_ (by (first | (with_reducible assumption) | omega | (simp only [World.size_alloc, World.size_setCell, World.size_drew, World.heap_drewN]; omega) | (simp; done) | (simp; omega))) _) | (with_reducible refine Fr.trans ?_ (by with_reducible assumption)))
    have B2 := HB.out.fr hf2
    have F2 := B2.facts
    go_wp2_with fail
    go_ret
    refine ⟨ret_int (by rw [HK.out, HR.out]), ?_, (Span.of_fr hf2).trans Span.set1⟩
    rw [HK.out]
    refine (B2.set_to (by simp only [HR.out]; simp))
  · have HK := Lib.hid (scVar_no (s := s) (c := ⟨a, bad⟩) (show (⟨a, bad⟩ : Sc).bad = true ∨ (rv s (a : Int)).ok = false by rw [HR.out]; cases bad <;> cases rok <;> simp_all))
    have HQ := Lib.hid hq
    clear hq
    cases bad
    · obtain rfl : rok = false := by have := HQ.out; cases rok <;> simp_all
      go_enter Try.func187, Try.ntmps187
      go_wp2_with fail
      go_region_held3 (fun w' => Sf w w') ((refine Sf.mk ?_; repeat (first | (with_reducible exact Fr.refl _) | (with_reducible assumption) | (with_reducible refine Fr.drewN ?_ _) | (with_reducible refine Fr.drew ?_) | (with_reducible refine Fr.alloc ?_ _) | (with_reducible refine Fr.setCell ?_ (by (first | (with_reducible assumption) | omega | (simp only [World.size_alloc, World.size_setCell, World.size_drew, World.heap_drewN]; omega) | (simp; done) | (simp; omega))) _) | (with_reducible refine Fr.trans ?_ (by with_reducible assumption))))) (first | (go_at_call 108; refine (CT.out _ (by repeat (first | (with_reducible exact Fr.refl _) | (with_reducible assumption) | (with_reducible refine Fr.drewN ?_ _) | (with_reducible refine Fr.drew ?_) | (with_reducible refine Fr.alloc ?_ _) | (with_reducible refine Fr.setCell ?_ (by (first | (with_reducible assumption) | omega | (simp only [World.size_alloc, World.size_setCell, World.size_drew, World.heap_drewN]; omega) | (simp; done) | (simp; omega))) _) | (with_reducible refine Fr.trans ?_ (by with_reducible assumption))))).mono ?_; rintro e w1 ⟨rfl, hf1⟩))
      clear RB
      have hf2 : Fr w w1 := by repeat (first | (with_reducible exact Fr.refl _) | (with_reducible assumption) | (with_reducible refine Fr.drewN ?_ _) | (with_reducible refine Fr.drew ?_) | (with_reducible refine Fr.alloc ?_ _) | (with_reducible refine Fr.setCell ?_ (by (first | (with_reducible assumption) | omega | (simp only [World.size_alloc, World.size_setCell, World.size_drew, World.heap_drewN]; omega) | (simp; done) | (simp; omega))) _) | (with_reducible refine Fr.trans ?_ (by with_reducible assumption)))
      have B2 := HB.out.fr hf2
      have F2 := B2.facts
      go_wp2_with fail
      go_ret
      refine ⟨ret_int (by rw [HK.out]), ?_, (Span.of_fr hf2).trans Span.set1⟩
      rw [HK.out]
      refine (B2.set_to (by simp))
    · cases rok
      · go_enter Try.func187, Try.ntmps187
        go_wp2_with fail
        go_region_held3 (fun w' => Sf w w') ((refine Sf.mk ?_; repeat (first | (with_reducible exact Fr.refl _) | (with_reducible assumption) | (with_reducible refine Fr.drewN ?_ _) | (with_reducible refine Fr.drew ?_) | (with_reducible refine Fr.alloc ?_ _) | (with_reducible refine Fr.setCell ?_ (by (first | (with_reducible assumption) | omega | (simp only [World.size_alloc, World.size_setCell, World.size_drew, World.heap_drewN]; omega) | (simp; done) | (simp; omega))) _) | (with_reducible refine Fr.trans ?_ (by with_reducible assumption))))) (first | (go_at_call 108; refine (CT.out _ (by repeat (first | (with_reducible exact Fr.refl _) | (with_reducible assumption) | (with_reducible refine Fr.drewN ?_ _) | (with_reducible refine Fr.drew ?_) | (with_reducible refine Fr.alloc ?_ _) | (with_reducible refine Fr.setCell ?_ (by (first | (with_reducible assumption) | omega | (simp only [World.size_alloc, World.size_setCell, World.size_drew, World.heap_drewN]; omega) | (simp; done) | (simp; omega))) _) | (with_reducible refine Fr.trans ?_ (by with_reducible assumption))))).mono ?_; rintro e w1 ⟨rfl, hf1⟩))
        clear RB
        have hf2 : Fr w w1 := by repeat (first | (with_reducible exact Fr.refl _) | (with_reducible assumption) | (with_reducible refine Fr.drewN ?_ _) | (with_reducible refine Fr.drew ?_) | (with_reducible refine Fr.alloc ?_ _) | (with_reducible refine Fr.setCell ?_ (by (first | (with_reducible assumption) | omega | (simp only [World.size_alloc, World.size_setCell, World.size_drew, World.heap_drewN]; omega) | (simp; done) | (simp; omega))) _) | (with_reducible refine Fr.trans ?_ (by with_reducible assumption)))
        have B2 := HB.out.fr hf2
        have F2 := B2.facts
        go_wp2_with fail
        go_ret
        refine ⟨ret_int (by rw [HK.out]), ?_, (Span.of_fr hf2).trans Span.set1⟩
        rw [HK.out]
        refine (B2.set_to (by simp))
      · go_enter Try.func187, Try.ntmps187
        go_wp2_with fail
        go_region_held3 (fun w' => Sf w w') ((refine Sf.mk ?_; repeat (first | (with_reducible exact Fr.refl _) | (with_reducible assumption) | (with_reducible refine Fr.drewN ?_ _) | (with_reducible refine Fr.drew ?_) | (with_reducible refine Fr.alloc ?_ _) | (with_reducible refine Fr.setCell ?_ (by (first | (with_reducible assumption) | omega | (simp only [World.size_alloc, World.size_setCell, World.size_drew, World.heap_drewN]; omega) | (simp; done) | (simp; omega))) _) | (with_reducible refine Fr.trans ?_ (by with_reducible assumption))))) (first | (go_at_call 108; refine (CT.out _ (by repeat (first | (with_reducible exact Fr.refl _) | (with_reducible assumption) | (with_reducible refine Fr.drewN ?_ _) | (with_reducible refine Fr.drew ?_) | (with_reducible refine Fr.alloc ?_ _) | (with_reducible refine Fr.setCell ?_ (by (first | (with_reducible assumption) | omega | (simp only [World.size_alloc, World.size_setCell, World.size_drew, World.heap_drewN]; omega) | (simp; done) | (simp; omega))) _) | (with_reducible refine Fr.trans ?_ (by with_reducible assumption))))).mono ?_; rintro e w1 ⟨rfl, hf1⟩))
        clear RB
        have hf2 : Fr w w1 := by repeat (first | (with_reducible exact Fr.refl _) | (with_reducible assumption) | (with_reducible refine Fr.drewN ?_ _) | (with_reducible refine Fr.drew ?_) | (with_reducible refine Fr.alloc ?_ _) | (with_reducible refine Fr.setCell ?_ (by (first | (with_reducible assumption) | omega | (simp only [World.size_alloc, World.size_setCell, World.size_drew, World.heap_drewN]; omega) | (simp; done) | (simp; omega))) _) | (with_reducible refine Fr.trans ?_ (by with_reducible assumption)))
        have B2 := HB.out.fr hf2
        have F2 := B2.facts
        go_wp2_with fail
        go_ret
        refine ⟨ret_int (by rw [HK.out]), ?_, (Span.of_fr hf2).trans Span.set1⟩
        rw [HK.out]
        refine (B2.set_to (by simp))
set_option maxHeartbeats 1000000 in
theorem l03Byte_any (b a : Nat) (bad : Bool) (s : ByteArray) (w : World) (hb : Box w b #[.string s, .int .i64 (a : Int), .bool bad] 201) (hs : s.size ≤ 16777216) :
    Calls Try.prog 152 #[.pointer (some ⟨b, 0, none⟩)] w fun e w' => e = .returned (.int .i64 (scByte s ⟨a, bad⟩).1) ∧ Box w' b #[.string s, .int .i64 ((scByte s ⟨a, bad⟩).2.a : Int), .bool (scByte s ⟨a, bad⟩).2.bad] 201 ∧ Span b (b + 1) w w' := by
  have F := hb.facts
  cases bad
  · by_cases hlt : a < s.size
    · have HK := Lib.hid (scByte_ok (s := s) (c := ⟨a, false⟩) (show ¬ ((⟨a, false⟩ : Sc).bad = true ∨ s.size ≤ (⟨a, false⟩ : Sc).a) by simp; exact hlt))
      have hd : decide ((s.size : Int) ≤ (a : Int)) = false := by simp; omega
      go_enter Try.func152, Try.ntmps152
      go_wp2_with fail
      go_quiet (fail)
      go_wp2_with fail
      go_quiet (fail)
      go_wp2_with fail
      go_ret
      refine ⟨ret_int (by first | (rw [HK.out]; done) | (rw [HK.out]; exact wrap_byte _)), ?_, ?_⟩
      · rw [HK.out]
        exact Box.drewN ((hb.drewN _).set_to (by simp)) _
      · exact (Span.of_fr ((Fr.refl _).drewN _)).trans (Span.set1.trans (Span.of_fr ((Fr.refl _).drewN _)))
    · have HK := Lib.hid (scByte_no (s := s) (c := ⟨a, false⟩) (.inr (by show s.size ≤ a; omega)))
      have hd : decide ((s.size : Int) ≤ (a : Int)) = true := by simp; omega
      go_enter Try.func152, Try.ntmps152
      go_wp2_with fail
      go_quiet (fail)
      go_wp2_with fail
      go_ret
      refine ⟨ret_int (by first | (rw [HK.out]; done) | (rw [HK.out]; exact wrap_byte _)), ?_, ?_⟩
      · rw [HK.out]
        exact (hb.drewN _).set_to (by simp)
      · exact (Span.of_fr ((Fr.refl _).drewN _)).trans Span.set1
  · have HK := Lib.hid (scByte_no (s := s) (c := ⟨a, true⟩) (.inl rfl))
    go_enter Try.func152, Try.ntmps152
    go_wp2_with fail
    go_quiet (fail)
    go_wp2_with fail
    go_ret
    refine ⟨ret_int (by first | (rw [HK.out]; done) | (rw [HK.out]; exact wrap_byte _)), ?_, ?_⟩
    · rw [HK.out]
      exact (hb.drewN _).set_to (by simp)
    · exact (Span.of_fr ((Fr.refl _).drewN _)).trans Span.set1
set_option maxHeartbeats 1000000 in
theorem octet_any (b a : Nat) (bad : Bool) (s : ByteArray) (w : World) (hb : Box w b #[.string s, .int .i64 (a : Int), .bool bad] 193) (hs : s.size ≤ 16777216) :
    Calls Try.prog 148 #[.pointer (some ⟨b, 0, none⟩)] w fun e w' => e = .returned (.int .u8 (scByte s ⟨a, bad⟩).1) ∧ Box w' b #[.string s, .int .i64 ((scByte s ⟨a, bad⟩).2.a : Int), .bool (scByte s ⟨a, bad⟩).2.bad] 193 ∧ Span b (b + 1) w w' := by
  have F := hb.facts
  cases bad
  · by_cases hlt : a < s.size
    · have HK := Lib.hid (scByte_ok (s := s) (c := ⟨a, false⟩) (show ¬ ((⟨a, false⟩ : Sc).bad = true ∨ s.size ≤ (⟨a, false⟩ : Sc).a) by simp; exact hlt))
      have hd : decide ((s.size : Int) ≤ (a : Int)) = false := by simp; omega
      go_enter Try.func148, Try.ntmps148
      go_wp2_with fail
      go_quiet (fail)
      go_wp2_with fail
      go_quiet (fail)
      go_wp2_with fail
      go_ret
      refine ⟨ret_u8 (by rw [HK.out]), ?_, ?_⟩
      · rw [HK.out]
        exact Box.drewN ((hb.drewN _).set_to (by simp)) _
      · exact (Span.of_fr ((Fr.refl _).drewN _)).trans (Span.set1.trans (Span.of_fr ((Fr.refl _).drewN _)))
    · have HK := Lib.hid (scByte_no (s := s) (c := ⟨a, false⟩) (.inr (by show s.size ≤ a; omega)))
      have hd : decide ((s.size : Int) ≤ (a : Int)) = true := by simp; omega
      go_enter Try.func148, Try.ntmps148
      go_wp2_with fail
      go_quiet (fail)
      go_wp2_with fail
      go_ret
      refine ⟨ret_u8 (by rw [HK.out]), ?_, ?_⟩
      · rw [HK.out]
        exact (hb.drewN _).set_to (by simp)
      · exact (Span.of_fr ((Fr.refl _).drewN _)).trans Span.set1
  · have HK := Lib.hid (scByte_no (s := s) (c := ⟨a, true⟩) (.inl rfl))
    go_enter Try.func148, Try.ntmps148
    go_wp2_with fail
    go_quiet (fail)
    go_wp2_with fail
    go_ret
    refine ⟨ret_u8 (by rw [HK.out]), ?_, ?_⟩
    · rw [HK.out]
      exact (hb.drewN _).set_to (by simp)
    · exact (Span.of_fr ((Fr.refl _).drewN _)).trans Span.set1
set_option maxHeartbeats 1000000 in
theorem rest_any (b a : Nat) (bad : Bool) (s : ByteArray) (w : World) (hb : Box w b #[.string s, .int .i64 (a : Int), .bool bad] 193) (hs : s.size ≤ 16777216) (hc : a ≤ s.size) :
    Calls Try.prog 198 #[.pointer (some ⟨b, 0, none⟩)] w fun e w' => e = .returned (.string (if bad = true then ByteArray.empty else s.extract a s.size)) ∧ Box w' b #[.string s, .int .i64 ((if bad = true then a else s.size : Nat) : Int), .bool bad] 193 ∧ Span b (b + 1) w w' := by
  have F := hb.facts
  cases bad
  · go_enter Try.func198, Try.ntmps198
    go_wp2_with fail
    go_quiet (fail)
    go_wp2_with fail
    go_ret
    refine ⟨rfl, (hb.drewN _).set_to (by simp), (Span.of_fr ((Fr.refl _).drewN _)).trans Span.set1⟩
  · go_enter Try.func198, Try.ntmps198
    go_wp2_with fail
    go_ret
    exact ⟨rfl, by simpa using hb, Span.refl _ _ _⟩
end Go.Proofs.Ytjgghiniajmfjaa
