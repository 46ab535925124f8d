/- impl.scanLetter, impl.ReadLetter. Condition: the text is no longer than the laws allow. (Printed by mk_letr.py.) -/
import Derived.Test.YtphjlecbhbcbcaaLetR
import Derived.Test.YtphjlecbhbcbcaaBld
import Derived.Test.YtphjlecbhbcbcaaDraw2
namespace Go.Proofs.Ytphjlecbhbcbcaa
open Go.RowKit
set_option linter.unusedVariables false
set_option linter.unusedSimpArgs false
def ScanPost (s : ByteArray) (bs hx : Nat) (w : World) (e : Ending) (w' : World) : Prop :=
  ∃ (x : LetterD) (az : Nat) (b' : Bool) (ay : Option Addr) (cy : Nat) (a' : Int), lrP 61 s = (x, ⟨az, b'⟩) ∧ e = .returned (.tuple #[]) ∧ Box w' bs #[.string s, .int .i64 a', .bool b'] 141 ∧
    Box w' hx #[.int .i64 x.f0, .int .i64 x.f1, .int .i64 x.f2, .bool x.f3, .slice ay x.f4.length cy, .string x.f5] 38 ∧ WalksW w' w.heap.size w'.heap.size (.slice ay x.f4.length cy) x.f4 ∧ x.f4.length ≤ 61 ∧ x.f5.size ≤ s.size ∧ Span bs (hx + 1) w w'
set_option maxHeartbeats 8000000 in
set_option maxRecDepth 100000 in
theorem scanLet0 (s : ByteArray) (bs hx a1 : Nat) (b1 : Bool) (k : Int) (w : World) (BC : Box w bs #[.string s, .int .i64 (a1 : Int), .bool b1] 141) (BX : Box w hx #[.int .i64 k, .int .i64 0, .int .i64 0, .bool false, .slice none 0 0, .string ⟨#[]⟩] 38) (hlt : bs < hx) (hs : s.size ≤ 1048576) (ha1 : a1 ≤ s.size) (q1 : scByte s ⟨0, false⟩ = (k, ⟨a1, b1⟩)) (hk : k ≠ 1 ∧ k ≠ 2 ∧ k ≠ 3 ∧ k ≠ 5 ∧ k ≠ 6) :
    Calls Try.prog 107 #[.pointer (some ⟨bs, 0, none⟩), .pointer (some ⟨hx, 0, none⟩)] w fun e w' => ScanPost s bs hx w e w' := by
  have FC := BC.facts
  have FX := BX.facts
  have hxs := BX.lt
  have HPQ := Lib.hid (lrP_0 (F := 61) q1 hk)
  have g1 : (k == 1) = false := by simp; omega
  have g2 : (k == 2) = false := by simp; omega
  have g3 : (k == 3) = false := by simp; omega
  have g5 : (k == 5) = false := by simp; omega
  have g6 : (k == 6) = false := by simp; omega
  clear hk q1
  go_enter Try.func107, Try.ntmps107
  go_wp2_with fail
  go_end0
  exact ⟨_, _, _, none, 0, _, HPQ.out, rfl, BC, BX, OwW.nil _ _ _ _ _, Nat.zero_le _, Nat.zero_le _, Span.refl _ _ _⟩
set_option maxHeartbeats 8000000 in
set_option maxRecDepth 100000 in
theorem scanLet1 (s : ByteArray) (bs hx a1 : Nat) (b1 : Bool) (w : World) (BC : Box w bs #[.string s, .int .i64 (a1 : Int), .bool b1] 141) (BX : Box w hx #[.int .i64 1, .int .i64 0, .int .i64 0, .bool false, .slice none 0 0, .string ⟨#[]⟩] 38) (hlt : bs < hx) (hs : s.size ≤ 1048576) (ha1 : a1 ≤ s.size) (q1 : scByte s ⟨0, false⟩ = (1, ⟨a1, b1⟩)) :
    Calls Try.prog 107 #[.pointer (some ⟨bs, 0, none⟩), .pointer (some ⟨hx, 0, none⟩)] w fun e w' => ScanPost s bs hx w e w' := by
  have FC := BC.facts
  have FX := BX.facts
  have hxs := BX.lt
  have HPQ := Lib.hid (lrP_1 (F := 61) q1)
  have CR : Hid (∀ b w', Box w' b #[.string s, .int .i64 (a1 : Int), .bool b1] 141 → Calls Try.prog 148 #[.pointer (some ⟨b, 0, none⟩)] w' fun e w'' => e = .returned (.string (restT s ⟨a1, b1⟩)) ∧ Box w'' b #[.string s, .int .i64 ((if b1 = true then a1 else s.size : Nat) : Int), .bool b1] 141 ∧ Span b (b + 1) w' w'') := Lib.hid fun b w' hb => rest_any b a1 b1 s w' hb (by omega) ha1
  have hrs : (restT s ⟨a1, b1⟩).size ≤ s.size := by unfold restT; split <;> simp
  clear q1
  go_enter Try.func107, Try.ntmps107
  go_wp2_with fail
  refine (CR.out _ _ (BC)).mono ?_
  rintro e w2 ⟨rfl, BC', sp2⟩
  have zw2 := sp2.size; (try simp only [World.size_alloc, World.size_setCell] at zw2)
  have BX := (BX).span sp2 (.inr (by omega))
  have sww2 : Span bs (hx + 1) w w2 := (Span.refl bs (hx + 1) w).trans (sp2.wide3 (Nat.le_refl _) (by omega))
  have BC := BC'
  clear BC' FC FX
  have FC := BC.facts
  have FX := BX.facts
  go_wp2_with fail
  go_end0
  exact ⟨_, _, _, none, 0, _, HPQ.out, rfl, BC.far (by omega) _, BX.set_to (by simp), OwW.nil _ _ _ _ _, Nat.zero_le _, hrs, sww2.trans (Span.set1.wide3 (by omega) (Nat.le_refl _))⟩
set_option maxHeartbeats 8000000 in
set_option maxRecDepth 100000 in
theorem scanLet6 (s : ByteArray) (bs hx a1 : Nat) (b1 : Bool) (w : World) (BC : Box w bs #[.string s, .int .i64 (a1 : Int), .bool b1] 141) (BX : Box w hx #[.int .i64 6, .int .i64 0, .int .i64 0, .bool false, .slice none 0 0, .string ⟨#[]⟩] 38) (hlt : bs < hx) (hs : s.size ≤ 1048576) (ha1 : a1 ≤ s.size) (q1 : scByte s ⟨0, false⟩ = (6, ⟨a1, b1⟩)) :
    Calls Try.prog 107 #[.pointer (some ⟨bs, 0, none⟩), .pointer (some ⟨hx, 0, none⟩)] w fun e w' => ScanPost s bs hx w e w' := by
  have FC := BC.facts
  have FX := BX.facts
  have hxs := BX.lt
  have HPQ := Lib.hid (lrP_6 (F := 61) q1)
  have CR : Hid (∀ b w', Box w' b #[.string s, .int .i64 (a1 : Int), .bool b1] 141 → Calls Try.prog 148 #[.pointer (some ⟨b, 0, none⟩)] w' fun e w'' => e = .returned (.string (restT s ⟨a1, b1⟩)) ∧ Box w'' b #[.string s, .int .i64 ((if b1 = true then a1 else s.size : Nat) : Int), .bool b1] 141 ∧ Span b (b + 1) w' w'') := Lib.hid fun b w' hb => rest_any b a1 b1 s w' hb (by omega) ha1
  have hrs : (restT s ⟨a1, b1⟩).size ≤ s.size := by unfold restT; split <;> simp
  clear q1
  go_enter Try.func107, Try.ntmps107
  go_wp2_with fail
  refine (CR.out _ _ (BC)).mono ?_
  rintro e w2 ⟨rfl, BC', sp2⟩
  have zw2 := sp2.size; (try simp only [World.size_alloc, World.size_setCell] at zw2)
  have BX := (BX).span sp2 (.inr (by omega))
  have sww2 : Span bs (hx + 1) w w2 := (Span.refl bs (hx + 1) w).trans (sp2.wide3 (Nat.le_refl _) (by omega))
  have BC := BC'
  clear BC' FC FX
  have FC := BC.facts
  have FX := BX.facts
  go_wp2_with fail
  go_end0
  exact ⟨_, _, _, none, 0, _, HPQ.out, rfl, BC.far (by omega) _, BX.set_to (by simp), OwW.nil _ _ _ _ _, Nat.zero_le _, hrs, sww2.trans (Span.set1.wide3 (by omega) (Nat.le_refl _))⟩
set_option maxHeartbeats 8000000 in
set_option maxRecDepth 100000 in
theorem scanLet3 (s : ByteArray) (bs hx a1 : Nat) (b1 : Bool) (w : World) (BC : Box w bs #[.string s, .int .i64 (a1 : Int), .bool b1] 141) (BX : Box w hx #[.int .i64 3, .int .i64 0, .int .i64 0, .bool false, .slice none 0 0, .string ⟨#[]⟩] 38) (hlt : bs < hx) (hs : s.size ≤ 1048576) (ha1 : a1 ≤ s.size) (q1 : scByte s ⟨0, false⟩ = (3, ⟨a1, b1⟩)) :
    Calls Try.prog 107 #[.pointer (some ⟨bs, 0, none⟩), .pointer (some ⟨hx, 0, none⟩)] w fun e w' => ScanPost s bs hx w e w' := by
  have FC := BC.facts
  have FX := BX.facts
  have hxs := BX.lt
  obtain ⟨⟨n, ⟨a2, b2⟩⟩, q2⟩ : ∃ r, scVar s ⟨a1, b1⟩ = r := ⟨_, rfl⟩
  have hn := scVar_nat s ⟨a1, b1⟩ ha1
  have ha2 := scVar_le (s := s) (c := ⟨a1, b1⟩) ha1
  rw [q2] at hn ha2
  simp only [] at hn ha2
  obtain ⟨⟨v, ⟨a3, b3⟩⟩, q3⟩ : ∃ r, scByte s ⟨a2, b2⟩ = r := ⟨_, rfl⟩
  have hv := scByte_nat s ⟨a2, b2⟩
  have ha3 := scByte_le (s := s) (c := ⟨a2, b2⟩) ha2
  rw [q3] at hv ha3
  simp only [] at hv ha3
  have HPQ := Lib.hid (lrP_3 (F := 61) q1 q2 q3)
  have C1 : Hid (∀ b w', Box w' b #[.string s, .int .i64 (a1 : Int), .bool b1] 141 → Calls Try.prog 149 #[.pointer (some ⟨b, 0, none⟩)] w' fun e w'' => e = .returned (.int .i64 n) ∧ Box w'' b #[.string s, .int .i64 (a2 : Int), .bool b2] 141 ∧ Span b (b + 1) w' w'') := Lib.hid fun b w' hb => by have := number_any b a1 b1 s w' hb (by omega) ha1; rw [q2] at this; exact this
  have C2 : Hid (∀ b w', Box w' b #[.string s, .int .i64 (a2 : Int), .bool b2] 141 → Calls Try.prog 106 #[.pointer (some ⟨b, 0, none⟩)] w' fun e w'' => e = .returned (.int .u8 v) ∧ Box w'' b #[.string s, .int .i64 (a3 : Int), .bool b3] 141 ∧ Span b (b + 1) w' w'') := Lib.hid fun b w' hb => by have := octet_any b a2 b2 s w' hb (by omega); rw [q3] at this; exact this
  clear q1 q2 q3
  go_enter Try.func107, Try.ntmps107
  go_wp2_with fail
  refine (C1.out _ _ (BC)).mono ?_
  rintro e w2 ⟨rfl, BC', sp2⟩
  have zw2 := sp2.size; (try simp only [World.size_alloc, World.size_setCell] at zw2)
  have BX := (BX).span sp2 (.inr (by omega))
  have sww2 : Span bs (hx + 1) w w2 := (Span.refl bs (hx + 1) w).trans (sp2.wide3 (Nat.le_refl _) (by omega))
  have BC := BC'
  clear BC' FC FX
  have FC := BC.facts
  have FX := BX.facts
  go_wp2_with fail
  refine (C2.out _ _ (BC.far (q := hx) (i := 2) (by omega) (.int .i64 (n - 100000)))).mono ?_
  rintro e w3 ⟨rfl, BC', sp3⟩
  have zw3 := sp3.size; (try simp only [World.size_alloc, World.size_setCell] at zw3)
  have BX := (BX.set_to (X := #[.int .i64 3, .int .i64 0, .int .i64 (n - 100000), .bool false, .slice none 0 0, .string ⟨#[]⟩]) (i := 2) (v := .int .i64 (n - 100000)) (by simp)).span sp3 (.inr (by omega))
  have sww3 : Span bs (hx + 1) w w3 := (sww2.trans ((Span.set1 (b := hx) (i := 2) (v := .int .i64 (n - 100000))).wide3 (by omega) (Nat.le_refl _))).trans (sp3.wide3 (Nat.le_refl _) (by omega))
  have BC := BC'
  clear BC' FC FX
  have FC := BC.facts
  have FX := BX.facts
  go_wp2_with fail
  go_end0
  exact ⟨_, _, _, none, 0, _, HPQ.out, rfl, BC.far (by omega) _, BX.set_to (by simp), OwW.nil _ _ _ _ _, Nat.zero_le _, Nat.zero_le _, sww3.trans (Span.set1.wide3 (by omega) (Nat.le_refl _))⟩
set_option maxHeartbeats 8000000 in
set_option maxRecDepth 100000 in
theorem scanLet5 (s : ByteArray) (bs hx a1 : Nat) (b1 : Bool) (w : World) (BC : Box w bs #[.string s, .int .i64 (a1 : Int), .bool b1] 141) (BX : Box w hx #[.int .i64 5, .int .i64 0, .int .i64 0, .bool false, .slice none 0 0, .string ⟨#[]⟩] 38) (hlt : bs < hx) (hs : s.size ≤ 1048576) (ha1 : a1 ≤ s.size) (q1 : scByte s ⟨0, false⟩ = (5, ⟨a1, b1⟩)) :
    Calls Try.prog 107 #[.pointer (some ⟨bs, 0, none⟩), .pointer (some ⟨hx, 0, none⟩)] w fun e w' => ScanPost s bs hx w e w' := by
  have FC := BC.facts
  have FX := BX.facts
  have hxs := BX.lt
  obtain ⟨⟨v, ⟨a2, b2⟩⟩, q2⟩ : ∃ r, scByte s ⟨a1, b1⟩ = r := ⟨_, rfl⟩
  have hv := scByte_nat s ⟨a1, b1⟩
  have ha2 := scByte_le (s := s) (c := ⟨a1, b1⟩) ha1
  rw [q2] at hv ha2
  simp only [] at hv ha2
  have HPQ := Lib.hid (lrP_5 (F := 61) q1 q2)
  have C1 : Hid (∀ b w', Box w' b #[.string s, .int .i64 (a1 : Int), .bool b1] 141 → Calls Try.prog 106 #[.pointer (some ⟨b, 0, none⟩)] w' fun e w'' => e = .returned (.int .u8 v) ∧ Box w'' b #[.string s, .int .i64 (a2 : Int), .bool b2] 141 ∧ Span b (b + 1) w' w'') := Lib.hid fun b w' hb => by have := octet_any b a1 b1 s w' hb (by omega); rw [q2] at this; exact this
  have CR : Hid (∀ b w', Box w' b #[.string s, .int .i64 (a2 : Int), .bool b2] 141 → Calls Try.prog 148 #[.pointer (some ⟨b, 0, none⟩)] w' fun e w'' => e = .returned (.string (restT s ⟨a2, b2⟩)) ∧ Box w'' b #[.string s, .int .i64 ((if b2 = true then a2 else s.size : Nat) : Int), .bool b2] 141 ∧ Span b (b + 1) w' w'') := Lib.hid fun b w' hb => rest_any b a2 b2 s w' hb (by omega) ha2
  have hrs : (restT s ⟨a2, b2⟩).size ≤ s.size := by unfold restT; split <;> simp
  clear q1 q2
  go_enter Try.func107, Try.ntmps107
  go_wp2_with fail
  refine (C1.out _ _ (BC)).mono ?_
  rintro e w2 ⟨rfl, BC', sp2⟩
  have zw2 := sp2.size; (try simp only [World.size_alloc, World.size_setCell] at zw2)
  have BX := (BX).span sp2 (.inr (by omega))
  have sww2 : Span bs (hx + 1) w w2 := (Span.refl bs (hx + 1) w).trans (sp2.wide3 (Nat.le_refl _) (by omega))
  have BC := BC'
  clear BC' FC FX
  have FC := BC.facts
  have FX := BX.facts
  go_wp2_with fail
  refine (CR.out _ _ (BC.far (q := hx) (i := 1) (by omega) (.int .i64 v))).mono ?_
  rintro e w3 ⟨rfl, BC', sp3⟩
  have zw3 := sp3.size; (try simp only [World.size_alloc, World.size_setCell] at zw3)
  have BX := (BX.set_to (X := #[.int .i64 5, .int .i64 v, .int .i64 0, .bool false, .slice none 0 0, .string ⟨#[]⟩]) (i := 1) (v := .int .i64 v) (by simp)).span sp3 (.inr (by omega))
  have sww3 : Span bs (hx + 1) w w3 := (sww2.trans ((Span.set1 (b := hx) (i := 1) (v := .int .i64 v)).wide3 (by omega) (Nat.le_refl _))).trans (sp3.wide3 (Nat.le_refl _) (by omega))
  have BC := BC'
  clear BC' FC FX
  have FC := BC.facts
  have FX := BX.facts
  go_wp2_with fail
  go_end0
  exact ⟨_, _, _, none, 0, _, HPQ.out, rfl, BC.far (by omega) _, BX.set_to (by simp), OwW.nil _ _ _ _ _, Nat.zero_le _, hrs, sww3.trans (Span.set1.wide3 (by omega) (Nat.le_refl _))⟩
set_option maxHeartbeats 8000000 in
set_option maxRecDepth 100000 in
theorem scanLet2 (s : ByteArray) (bs hx a1 : Nat) (b1 : Bool) (w : World) (BC : Box w bs #[.string s, .int .i64 (a1 : Int), .bool b1] 141) (BX : Box w hx #[.int .i64 2, .int .i64 0, .int .i64 0, .bool false, .slice none 0 0, .string ⟨#[]⟩] 38) (hlt : bs < hx) (hs : s.size ≤ 1048576) (ha1 : a1 ≤ s.size) (q1 : scByte s ⟨0, false⟩ = (2, ⟨a1, b1⟩)) :
    Calls Try.prog 107 #[.pointer (some ⟨bs, 0, none⟩), .pointer (some ⟨hx, 0, none⟩)] w fun e w' => ScanPost s bs hx w e w' := by
  have FC := BC.facts
  have FX := BX.facts
  have hxs := BX.lt
  obtain ⟨⟨n, ⟨a2, b2⟩⟩, q2⟩ : ∃ r, scVar s ⟨a1, b1⟩ = r := ⟨_, rfl⟩
  have hn := scVar_nat s ⟨a1, b1⟩ ha1
  have ha2 := scVar_le (s := s) (c := ⟨a1, b1⟩) ha1
  rw [q2] at hn ha2
  simp only [] at hn ha2
  obtain ⟨M, hM⟩ : ∃ M, (min n (61 : Nat)).toNat = M := ⟨_, rfl⟩
  obtain ⟨⟨wz, ⟨az, bz⟩⟩, q3⟩ : ∃ r, wkG s M ⟨a2, b2⟩ = r := ⟨_, rfl⟩
  have haz := wkG_le (s := s) M ⟨a2, b2⟩ ha2
  rw [q3] at haz
  simp only [] at haz
  have HPQ := Lib.hid (lrP_2 (F := 61) (ws := wz) (e := ⟨az, bz⟩) q1 q2 (by rw [hM]; exact q3))
  have hMn : (M : Int) ≤ n ∧ M ≤ 61 ∧ ((M : Int) = n ∨ M = 61) := by omega
  have HQ3 := Lib.hid q3
  have C1 : Hid (∀ b w', Box w' b #[.string s, .int .i64 (a1 : Int), .bool b1] 141 → Calls Try.prog 149 #[.pointer (some ⟨b, 0, none⟩)] w' fun e w'' => e = .returned (.int .i64 n) ∧ Box w'' b #[.string s, .int .i64 (a2 : Int), .bool b2] 141 ∧ Span b (b + 1) w' w'') := Lib.hid fun b w' hb => by have := number_any b a1 b1 s w' hb (by omega) ha1; rw [q2] at this; exact this
  obtain ⟨i0, hi, hz0, hz1, hz2⟩ := info_parts info_Walk
  clear q1 q2 q3 hM
  go_enter Try.func107, Try.ntmps107
  go_wp2_with fail
  refine (C1.out _ _ (BC)).mono ?_
  rintro e w2 ⟨rfl, BC', sp2⟩
  have zw2 := sp2.size; (try simp only [World.size_alloc, World.size_setCell] at zw2)
  have BX := (BX).span sp2 (.inr (by omega))
  have sww2 : Span bs (hx + 1) w w2 := (Span.refl bs (hx + 1) w).trans (sp2.wide3 (Nat.le_refl _) (by omega))
  have BC := BC'
  clear BC' FC FX
  have FC := BC.facts
  have FX := BX.facts
  go_wp2_with fail
  go_loopw [5, 6] (fun i _ wr => ∃ (k a : Nat) (bad : Bool) (ys : List WalkR) (ay : Option Addr) (cy : Nat), k ≤ M ∧ i = .int .i64 k ∧ ys.length = k ∧ a ≤ s.size ∧ Hid ((wkG s (M - k) ⟨a, bad⟩).2 = ⟨az, bz⟩ ∧ ys ++ (wkG s (M - k) ⟨a, bad⟩).1 = wz) ∧ Box wr bs #[.string s, .int .i64 (a : Int), .bool bad] 141 ∧ Box wr hx #[.int .i64 2, .int .i64 0, .int .i64 0, .bool false, .slice ay ys.length cy, .string ⟨#[]⟩] 38 ∧ Hid (WalksW wr w.heap.size wr.heap.size (.slice ay ys.length cy) ys) ∧ w.heap.size ≤ wr.heap.size ∧ Span bs (hx + 1) w wr) (fun i _ _ => M - (intOf i).toNat)
  case atStart => exact ⟨0, a2, b2, [], none, 0, Nat.zero_le _, rfl, rfl, ha2, Lib.hid (by rw [Nat.sub_zero, HQ3.out]; exact ⟨rfl, rfl⟩), BC, BX, Lib.hid (OwW.nil _ _ _ _ _), sww2.size, sww2⟩
  case round =>
    clear BC BX FC FX HQ3
    obtain ⟨k, a, bad, ys, ay, cy, hk, rfl, hyl, ha, hd, BC, BX, HW, hzr, hsw⟩ := hrel
    have HYL := Lib.hid hyl
    have hyk : ys.length ≤ 70 := by omega
    clear hyl
    have FC := BC.facts
    have FX := BX.facts
    by_cases hgo : k < M ∧ bad = false
    · obtain ⟨hkM, rfl⟩ := hgo
      have hk1 : (k : Int) < n := by omega
      have hk2 : (k : Int) ≤ 60 := by omega
      obtain ⟨⟨v0, ⟨c0, d0⟩⟩, p0⟩ : ∃ r, scByte s ⟨a, false⟩ = r := ⟨_, rfl⟩
      have hv0 := scByte_nat s ⟨a, false⟩
      have hc0 := scByte_le (s := s) (c := ⟨a, false⟩) ha
      rw [p0] at hv0 hc0
      simp only [] at hv0 hc0
      have D0 : Hid (∀ b w', Box w' b #[.string s, .int .i64 (a : Int), .bool false] 141 → Calls Try.prog 106 #[.pointer (some ⟨b, 0, none⟩)] w' fun e w'' => e = .returned (.int .u8 v0) ∧ Box w'' b #[.string s, .int .i64 (c0 : Int), .bool d0] 141 ∧ Span b (b + 1) w' w'') := Lib.hid fun b w' hb => by have := octet_any b a false s w' hb (by omega); rw [p0] at this; exact this
      obtain ⟨⟨v1, ⟨c1, d1⟩⟩, p1⟩ : ∃ r, scByte s ⟨c0, d0⟩ = r := ⟨_, rfl⟩
      have hv1 := scByte_nat s ⟨c0, d0⟩
      have hc1 := scByte_le (s := s) (c := ⟨c0, d0⟩) hc0
      rw [p1] at hv1 hc1
      simp only [] at hv1 hc1
      have D1 : Hid (∀ b w', Box w' b #[.string s, .int .i64 (c0 : Int), .bool d0] 141 → Calls Try.prog 106 #[.pointer (some ⟨b, 0, none⟩)] w' fun e w'' => e = .returned (.int .u8 v1) ∧ Box w'' b #[.string s, .int .i64 (c1 : Int), .bool d1] 141 ∧ Span b (b + 1) w' w'') := Lib.hid fun b w' hb => by have := octet_any b c0 d0 s w' hb (by omega); rw [p1] at this; exact this
      obtain ⟨⟨v2, ⟨c2, d2⟩⟩, p2⟩ : ∃ r, scByte s ⟨c1, d1⟩ = r := ⟨_, rfl⟩
      have hv2 := scByte_nat s ⟨c1, d1⟩
      have hc2 := scByte_le (s := s) (c := ⟨c1, d1⟩) hc1
      rw [p2] at hv2 hc2
      simp only [] at hv2 hc2
      have D2 : Hid (∀ b w', Box w' b #[.string s, .int .i64 (c1 : Int), .bool d1] 141 → Calls Try.prog 106 #[.pointer (some ⟨b, 0, none⟩)] w' fun e w'' => e = .returned (.int .u8 v2) ∧ Box w'' b #[.string s, .int .i64 (c2 : Int), .bool d2] 141 ∧ Span b (b + 1) w' w'') := Lib.hid fun b w' hb => by have := octet_any b c1 d1 s w' hb (by omega); rw [p2] at this; exact this
      obtain ⟨⟨v3, ⟨c3, d3⟩⟩, p3⟩ : ∃ r, scByte s ⟨c2, d2⟩ = r := ⟨_, rfl⟩
      have hv3 := scByte_nat s ⟨c2, d2⟩
      have hc3 := scByte_le (s := s) (c := ⟨c2, d2⟩) hc2
      rw [p3] at hv3 hc3
      simp only [] at hv3 hc3
      have D3 : Hid (∀ b w', Box w' b #[.string s, .int .i64 (c2 : Int), .bool d2] 141 → Calls Try.prog 106 #[.pointer (some ⟨b, 0, none⟩)] w' fun e w'' => e = .returned (.int .u8 v3) ∧ Box w'' b #[.string s, .int .i64 (c3 : Int), .bool d3] 141 ∧ Span b (b + 1) w' w'') := Lib.hid fun b w' hb => by have := octet_any b c2 d2 s w' hb (by omega); rw [p3] at this; exact this
      have hd2 : Hid ((wkG s (M - (k + 1)) ⟨c3, d3⟩).2 = ⟨az, bz⟩ ∧ (ys ++ [⟨v0, v1, v2, v3⟩]) ++ (wkG s (M - (k + 1)) ⟨c3, d3⟩).1 = wz) := Lib.hid (by
        have := hd.out
        rw [wkG_next p0 p1 p2 p3 (by omega)] at this
        rw [List.append_assoc]
        exact this)
      have HCA := Lib.hid (walks_snoc ys ⟨v0, v1, v2, v3⟩)
      have HLA := Lib.hid (show (ys ++ [(⟨v0, v1, v2, v3⟩ : WalkR)]).length = ys.length + 1 by simp)
      clear p0 p1 p2 p3 hd
      go_wp2_with fail
      refine (D0.out _ _ BC).mono ?_
      rintro e w4 ⟨rfl, BC4, sp4⟩
      have z4 := sp4.size
      have BX4 := BX.span sp4 (.inr (by omega))
      have HW4 := Lib.hid (OwW.span HW.out sp4 (.inr (by omega)))
      have sw4 := hsw.trans (sp4.wide3 (Nat.le_refl _) (by omega : bs + 1 ≤ hx + 1))
      clear FC FX BC BX HW
      have BW4 : Box (w4.alloc (.cells #[.int .i64 v0, .int .i64 0, .int .i64 0, .int .i64 0] 97)) w4.heap.size #[.int .i64 v0, .int .i64 0, .int .i64 0, .int .i64 0] 97 := Box.new _ _ _
      go_wp2_with fail
      refine (D1.out _ _ (BC4.alloc _)).mono ?_
      rintro e w5 ⟨rfl, BC5, sp5⟩
      have z5 := sp5.size; (try simp only [World.size_alloc, World.size_setCell] at z5)
      have BW5 := (BW4).span sp5 (.inr (by omega))
      have BX5 := (BX4.alloc _).span sp5 (.inr (by omega))
      have HW5 := Lib.hid (OwW.span (OwW.alloc HW4.out _) sp5 (.inr (by omega)))
      have sw5 := (sw4.trans (Span.of_fr ((Fr.refl _).alloc _))).trans (sp5.wide3 (Nat.le_refl _) (by omega : bs + 1 ≤ hx + 1))
      have FW5 := BW5.facts
      go_wp2_with fail
      clear FW5
      refine (D2.out _ _ (BC5.far (q := w4.heap.size) (i := 1) (by omega) (.int .i64 v1))).mono ?_
      rintro e w6 ⟨rfl, BC6, sp6⟩
      have z6 := sp6.size; (try simp only [World.size_alloc, World.size_setCell] at z6)
      have BW6 := ((BW5.set_to (X := #[.int .i64 v0, .int .i64 v1, .int .i64 0, .int .i64 0]) (i := 1) (v := .int .i64 v1) (by simp))).span sp6 (.inr (by omega))
      have BX6 := (BX5.far (q := w4.heap.size) (i := 1) (by omega) (.int .i64 v1)).span sp6 (.inr (by omega))
      have HW6 := Lib.hid (OwW.span (OwW.set HW5.out (p := ⟨w4.heap.size, 1, none⟩) (.inr (by show _ ≤ w4.heap.size; omega)) (.int .i64 v1)) sp6 (.inr (by omega)))
      have sw6 := (sw5.above' (Span.setc (i := 1) (v := .int .i64 v1) (Span.refl _ _ _)) (by omega)).trans (sp6.wide3 (Nat.le_refl _) (by omega : bs + 1 ≤ hx + 1))
      have FW6 := BW6.facts
      go_wp2_with fail
      clear FW6
      refine (D3.out _ _ (BC6.far (q := w4.heap.size) (i := 2) (by omega) (.int .i64 v2))).mono ?_
      rintro e w7 ⟨rfl, BC7, sp7⟩
      have z7 := sp7.size; (try simp only [World.size_alloc, World.size_setCell] at z7)
      have BW7 := ((BW6.set_to (X := #[.int .i64 v0, .int .i64 v1, .int .i64 v2, .int .i64 0]) (i := 2) (v := .int .i64 v2) (by simp))).span sp7 (.inr (by omega))
      have BX7 := (BX6.far (q := w4.heap.size) (i := 2) (by omega) (.int .i64 v2)).span sp7 (.inr (by omega))
      have HW7 := Lib.hid (OwW.span (OwW.set HW6.out (p := ⟨w4.heap.size, 2, none⟩) (.inr (by show _ ≤ w4.heap.size; omega)) (.int .i64 v2)) sp7 (.inr (by omega)))
      have sw7 := (sw6.above' (Span.setc (i := 2) (v := .int .i64 v2) (Span.refl _ _ _)) (by omega)).trans (sp7.wide3 (Nat.le_refl _) (by omega : bs + 1 ≤ hx + 1))
      have FW7 := BW7.facts
      have BX8 := BX7.far (q := w4.heap.size) (i := 3) (by omega) (.int .i64 v3)
      have FX8 := BX8.facts
      have FX7 := BX7.facts
      have HW8 := Lib.hid (OwW.set HW7.out (p := ⟨w4.heap.size, 3, none⟩) (.inr (by show _ ≤ w4.heap.size; omega)) (.int .i64 v3))
      have BC8 := BC7.far (q := w4.heap.size) (i := 3) (by omega) (.int .i64 v3)
      have BW8 := (BW7.set_to (X := #[.int .i64 v0, .int .i64 v1, .int .i64 v2, .int .i64 v3]) (i := 3) (v := .int .i64 v3) (by simp))
      have FW8 := BW8.facts
      have sw8 : Span bs (hx + 1) w (w7.setCell ⟨w4.heap.size, 3, none⟩ (.int .i64 v3)) := sw7.above' (Span.setc (i := 3) (v := .int .i64 v3) (Span.refl _ _ _)) (by omega)
      go_wp2_with fail
      go_region_law ((refine step_append_rd (by rfl) _ _ 26 (by rfl) w.heap.size 97 i0 (.agg #[.int .i64 0, .int .i64 0, .int .i64 0, .int .i64 0]) 4 32 Try.underlying26 hi hz0 hz1 hz2 rfl (by decide) (.slice ay ys.length cy) ys.length (ys.flatMap WalkR.cells) (by rfl) ((OwW.alloc (OwW.drew HW8.out) _).1) _ 1 [.int .i64 v0, .int .i64 v1, .int .i64 v2, .int .i64 v3] (by rfl) (RdS.new (by first | rfl | (simp; done)) rfl) (by simp [Value.oneCell']) (by unfold maxLen; omega) (by omega) (by (first | (with_reducible assumption) | omega | (simp only [World.size_alloc, World.size_setCell, World.size_drew, World.heap_drewN]; omega) | (simp; done) | (simp; omega))) ?_; intro ay2 cy2 w9 hown hgrow hat; have BX9 := (BX8.drew.alloc (.cells #[.int .i64 v0, .int .i64 v1, .int .i64 v2, .int .i64 v3] 97)).row hgrow HW8.out.2 (.inl (by omega)); have FX9 := BX9.facts))
      all_goals
        have s9 : Span w.heap.size wr.heap.size ((w7.setCell ⟨w4.heap.size, 3, none⟩ (.int .i64 v3)).drew.alloc (.cells #[.int .i64 v0, .int .i64 v1, .int .i64 v2, .int .i64 v3] 97)) w9 := Span.of_gr hgrow (fun g hg => HW8.out.2 g hg)
        have z9 := s9.size
        simp only [World.size_alloc, World.size_drew, World.size_setCell] at z9
        have BC9 := (BC8.drew.alloc (.cells #[.int .i64 v0, .int .i64 v1, .int .i64 v2, .int .i64 v3] 97)).span s9 (.inl (by omega))
        have sw9 : Span bs (hx + 1) w w9 := (sw8.then_fr (((Fr.refl _).drew).alloc (.cells #[.int .i64 v0, .int .i64 v1, .int .i64 v2, .int .i64 v3] 97))).above' s9 (by omega)
        rw [← HCA.out] at hown
        have hW9 : WalksW w9 w.heap.size w9.heap.size (.slice ay2 (ys ++ [(⟨v0, v1, v2, v3⟩ : WalkR)]).length cy2) (ys ++ [⟨v0, v1, v2, v3⟩]) := by
          have := OwW.of_owns hown
          rw [← HLA.out] at this
          exact this
        go_wp2_with fail
        go_roundw
        case rel => exact ⟨k + 1, c3, d3, ys ++ [⟨v0, v1, v2, v3⟩], ay2, cy2, by omega, by go_num, by rw [HLA.out, HYL.out], hc3, hd2, BC9.far (by omega) _, by rw [HLA.out]; exact BX9.set_to (by simp), Lib.hid (by rw [World.size_setCell]; exact OwW.set hW9 (.inl (by show hx < w.heap.size; omega)) _), by simp; omega, sw9.trans (Span.set1.wide3 (by omega) (Nat.le_refl _))⟩
        case measure => (simp [intOf]; omega)
    · have hend : ys = wz ∧ a = az ∧ bad = bz := by
        have := hd.out
        by_cases hkM : k < M
        · have hb : bad = true := by cases bad <;> simp_all
          rw [wkG_stop hb] at this
          simpa using this.symm
        · rw [show M - k = 0 by omega] at this
          simpa [wkG] using this.symm
      obtain ⟨rfl, rfl, rfl⟩ := hend
      have hg : (¬ (k : Int) < n) ∨ ((k : Int) < n ∧ ¬ (k : Int) ≤ 60) ∨ ((k : Int) < n ∧ (k : Int) ≤ 60 ∧ bad = true) := by
        by_cases h1 : (k : Int) < n
        · by_cases h2 : (k : Int) ≤ 60
          · refine .inr (.inr ⟨h1, h2, ?_⟩)
            have h3 : k < M := by omega
            cases bad <;> simp_all
          · exact .inr (.inl ⟨h1, h2⟩)
        · exact .inl h1
      clear hgo hd
      have hy61 : ys.length ≤ 61 := by have := HYL.out; omega
      rcases hg with hg | ⟨hg1, hg2⟩ | ⟨hg1, hg2, hg3⟩
      rotate_right
      · subst hg3
        go_wp2_with fail
        go_end0
        exact ⟨_, _, _, ay, cy, _, HPQ.out, rfl, BC, BX, HW.out, hy61, Nat.zero_le _, hsw⟩
      all_goals
        go_wp2_with fail
        go_end0
        exact ⟨_, _, _, ay, cy, _, HPQ.out, rfl, BC, BX, HW.out, hy61, Nat.zero_le _, hsw⟩
theorem scanLetter_any (s : ByteArray) (bs hx a1 : Nat) (b1 : Bool) (k : Int) (w : World) (BC : Box w bs #[.string s, .int .i64 (a1 : Int), .bool b1] 141) (BX : Box w hx #[.int .i64 k, .int .i64 0, .int .i64 0, .bool false, .slice none 0 0, .string ⟨#[]⟩] 38) (hlt : bs < hx) (hs : s.size ≤ 1048576) (ha1 : a1 ≤ s.size) (q1 : scByte s ⟨0, false⟩ = (k, ⟨a1, b1⟩)) :
    Calls Try.prog 107 #[.pointer (some ⟨bs, 0, none⟩), .pointer (some ⟨hx, 0, none⟩)] w fun e w' => ScanPost s bs hx w e w' := by
  by_cases h1 : k = 1
  · subst h1; exact scanLet1 s bs hx a1 b1 w BC BX hlt hs ha1 q1
  by_cases h2 : k = 2
  · subst h2; exact scanLet2 s bs hx a1 b1 w BC BX hlt hs ha1 q1
  by_cases h3 : k = 3
  · subst h3; exact scanLet3 s bs hx a1 b1 w BC BX hlt hs ha1 q1
  by_cases h5 : k = 5
  · subst h5; exact scanLet5 s bs hx a1 b1 w BC BX hlt hs ha1 q1
  by_cases h6 : k = 6
  · subst h6; exact scanLet6 s bs hx a1 b1 w BC BX hlt hs ha1 q1
  exact scanLet0 s bs hx a1 b1 k w BC BX hlt hs ha1 q1 ⟨h1, h2, h3, h5, h6⟩
set_option maxHeartbeats 8000000 in
set_option maxRecDepth 100000 in
theorem implReadLetter_any (s : ByteArray) (w : World) (hs : s.size ≤ 1048576) :
    Calls Try.prog 40 #[.string s] w fun e w' => ∃ ao0 cap0, e = .returned (.tuple #[.agg #[.int .i64 (rdL s).f0, .int .i64 (rdL s).f1, .int .i64 (rdL s).f2, .bool (rdL s).f3, .slice ao0 (rdL s).f4.length cap0, .string (rdL s).f5], .bool (rdB s)]) ∧ LetterW w' w.heap.size w'.heap.size (.agg #[.int .i64 (rdL s).f0, .int .i64 (rdL s).f1, .int .i64 (rdL s).f2, .bool (rdL s).f3, .slice ao0 (rdL s).f4.length cap0, .string (rdL s).f5]) (rdL s) ∧ Fr w w' := by
  obtain ⟨⟨k, ⟨a1, b1⟩⟩, q1⟩ : ∃ r, scByte s ⟨0, false⟩ = r := ⟨_, rfl⟩
  have hk0 := scByte_nat s ⟨0, false⟩
  have ha1 := scByte_le (s := s) (c := ⟨0, false⟩) (Nat.zero_le _)
  rw [q1] at hk0 ha1
  simp only [] at hk0 ha1
  have C0 : Hid (∀ b w', Box w' b #[.string s, .int .i64 0, .bool false] 141 → Calls Try.prog 106 #[.pointer (some ⟨b, 0, none⟩)] w' fun e w'' => e = .returned (.int .u8 k) ∧ Box w'' b #[.string s, .int .i64 (a1 : Int), .bool b1] 141 ∧ Span b (b + 1) w' w'') := Lib.hid fun b w' hb => by have := octet_any b 0 false s w' hb (by omega); rw [q1] at this; exact this
  have HQ1 := Lib.hid q1
  clear q1
  go_enter Try.func40, Try.ntmps40
  go_wp2_with fail
  refine (C0.out _ _ (Box.new' (by simp))).mono ?_
  rintro e w1 ⟨rfl, BC, sp1⟩
  have z1 := sp1.size; (try simp only [World.size_alloc] at z1)
  have BR : Box w1 w.heap.size #[.int .i64 0, .int .i64 0, .int .i64 0, .bool false, .slice none 0 0, .string ⟨#[]⟩] 38 := ((Box.new _ _ _).alloc _).span sp1 (.inl (by omega))
  have hf1 : Fr w w1 := Span.fr (show Fr w _ by repeat (first | (with_reducible exact Fr.refl _) | (with_reducible assumption) | (with_reducible refine Fr.drewN ?_ _) | (with_reducible refine Fr.drew ?_) | (with_reducible refine Fr.alloc ?_ _) | (with_reducible refine Fr.setCell ?_ (by (first | (with_reducible assumption) | omega | (simp only [World.size_alloc, World.size_setCell, World.size_drew, World.heap_drewN]; omega) | (simp; done) | (simp; omega))) _) | (with_reducible refine Fr.trans ?_ (by with_reducible assumption)))) sp1 (by omega)
  obtain ⟨hx, hhx⟩ : ∃ hx, w1.heap.size = hx := ⟨_, rfl⟩
  have BX : Box (w1.alloc (.cells #[.int .i64 k, .int .i64 0, .int .i64 0, .bool false, .slice none 0 0, .string ⟨#[]⟩] 38)) hx #[.int .i64 k, .int .i64 0, .int .i64 0, .bool false, .slice none 0 0, .string ⟨#[]⟩] 38 := Box.new' hhx.symm
  have BR := BR.alloc (.cells #[.int .i64 k, .int .i64 0, .int .i64 0, .bool false, .slice none 0 0, .string ⟨#[]⟩] 38)
  have BC := BC.alloc (.cells #[.int .i64 k, .int .i64 0, .int .i64 0, .bool false, .slice none 0 0, .string ⟨#[]⟩] 38)
  have hfx : Fr w (w1.alloc (.cells #[.int .i64 k, .int .i64 0, .int .i64 0, .bool false, .slice none 0 0, .string ⟨#[]⟩] 38)) := by repeat (first | (with_reducible exact Fr.refl _) | (with_reducible assumption) | (with_reducible refine Fr.drewN ?_ _) | (with_reducible refine Fr.drew ?_) | (with_reducible refine Fr.alloc ?_ _) | (with_reducible refine Fr.setCell ?_ (by (first | (with_reducible assumption) | omega | (simp only [World.size_alloc, World.size_setCell, World.size_drew, World.heap_drewN]; omega) | (simp; done) | (simp; omega))) _) | (with_reducible refine Fr.trans ?_ (by with_reducible assumption)))
  have hzx : (w1.alloc (.cells #[.int .i64 k, .int .i64 0, .int .i64 0, .bool false, .slice none 0 0, .string ⟨#[]⟩] 38)).heap.size = hx + 1 := by simp [hhx]
  rw [hhx] at z1
  go_wp2_with fail
  refine (scanLetter_any s (w.heap.size + 1) hx a1 b1 k _ BC BX (by omega) hs ha1 HQ1.out).mono ?_
  rintro e w2 ⟨x, az, b', ay, cy, a', hP, rfl, BC2, BX2, HW, hxl, hxt, sp2⟩
  have z2 := sp2.size
  rw [hzx] at z2 HW
  have BR2 := BR.span sp2 (.inl (by omega))
  have hf2 : Fr w w2 := Span.fr hfx sp2 (by omega)
  have HW := Lib.hid HW
  have HRL : Hid (rdL s = lrX s (x, ⟨az, b'⟩)) := Lib.hid (by rw [← hP]; rfl)
  have HRB : Hid (rdB s = lrQ s (x, ⟨az, b'⟩)) := Lib.hid (by rw [← hP]; rfl)
  clear BC BX BR hfx hzx hP
  have FC := BC2.facts
  have FX := BX2.facts
  have FR0 := BR2.facts
  obtain ⟨x0, x1, x2, x3, ws, t⟩ := x
  simp only [] at HW hxl hxt BX2 FX
  have CT : Hid (∀ w', Fr w2 w' → Calls Try.prog 38 #[.agg #[.int .i64 x0, .int .i64 x1, .int .i64 x2, .bool x3, .slice ay ws.length cy, .string t]] w' fun e w'' => e = .returned (.tuple #[.string (letS ⟨x0, x1, x2, x3, ws, t⟩), .bool (letB ⟨x0, x1, x2, x3, ws, t⟩)]) ∧ Fr w' w'') := Lib.hid fun w' hf => implLetterText_any _ ⟨x0, x1, x2, x3, ws, t⟩ w' ⟨_, rfl, RdS.fr (OwW.rd HW.out) hf⟩ (by show t.size ≤ _; omega)
  obtain ⟨lt, hlt⟩ : ∃ lt, letS ⟨x0, x1, x2, x3, ws, t⟩ = lt := ⟨_, rfl⟩
  obtain ⟨lb, hlb⟩ : ∃ lb, letB ⟨x0, x1, x2, x3, ws, t⟩ = lb := ⟨_, rfl⟩
  rw [hlt, hlb] at CT
  have HLT := Lib.hid hlt
  have HLB := Lib.hid hlb
  clear hlt hlb
  go_wp2_with fail
  refine (CT.out _ (by repeat (first | (with_reducible exact Fr.refl _) | (with_reducible assumption) | (with_reducible refine Fr.drewN ?_ _) | (with_reducible refine Fr.drew ?_) | (with_reducible refine Fr.alloc ?_ _) | (with_reducible refine Fr.setCell ?_ (by (first | (with_reducible assumption) | omega | (simp only [World.size_alloc, World.size_setCell, World.size_drew, World.heap_drewN]; omega) | (simp; done) | (simp; omega))) _) | (with_reducible refine Fr.trans ?_ (by with_reducible assumption))))).mono ?_
  rintro e w9 ⟨rfl, hf9⟩
  have FC9 := (BC2.fr hf9).facts
  have FX9 := (BX2.fr hf9).facts
  have BR9 := BR2.fr hf9
  have FR9 := BR9.facts
  have z9 := hf9.size
  clear FC FX FR0
  cases b'
  · cases lb
    · have HF : Hid (lrQ s (⟨x0, x1, x2, x3, ws, t⟩, ⟨az, false⟩) = false) := Lib.hid (lrQ_no HLB.out)
      go_wp2_with fail
      rw [HRL.out, HRB.out, HF.out, lrX_no HF.out]
      refine bodyPost_ret (v := .tuple #[.agg #[.int .i64 0, .int .i64 0, .int .i64 0, .bool false, .slice none 0 0, .string ⟨#[]⟩], .bool false]) (by simp [results, Try.results40, go_sem, *]) rfl ⟨none, 0, rfl, ⟨none, 0, rfl, OwW.nil _ _ _ _ _⟩, by repeat (first | (with_reducible exact Fr.refl _) | (with_reducible assumption) | (with_reducible refine Fr.drewN ?_ _) | (with_reducible refine Fr.drew ?_) | (with_reducible refine Fr.alloc ?_ _) | (with_reducible refine Fr.setCell ?_ (by (first | (with_reducible assumption) | omega | (simp only [World.size_alloc, World.size_setCell, World.size_drew, World.heap_drewN]; omega) | (simp; done) | (simp; omega))) _) | (with_reducible refine Fr.trans ?_ (by with_reducible assumption)))⟩
    · by_cases he : lt = s
      · have HF : Hid (lrQ s (⟨x0, x1, x2, x3, ws, t⟩, ⟨az, false⟩) = true) := Lib.hid (lrQ_ok HLB.out (HLT.out.trans he))
        have hq := bytes_beq he
        clear he
        go_wp2_with fail
        rw [HRL.out, HRB.out, HF.out, lrX_ok HF.out]
        refine bodyPost_ret (v := .tuple #[.agg #[.int .i64 x0, .int .i64 x1, .int .i64 x2, .bool x3, .slice ay ws.length cy, .string t], .bool true]) (by simp [results, Try.results40, go_sem, *]) rfl ⟨_, _, rfl, ⟨_, _, rfl, ?_⟩, by repeat (first | (with_reducible exact Fr.refl _) | (with_reducible assumption) | (with_reducible refine Fr.drewN ?_ _) | (with_reducible refine Fr.drew ?_) | (with_reducible refine Fr.alloc ?_ _) | (with_reducible refine Fr.setCell ?_ (by (first | (with_reducible assumption) | omega | (simp only [World.size_alloc, World.size_setCell, World.size_drew, World.heap_drewN]; omega) | (simp; done) | (simp; omega))) _) | (with_reducible refine Fr.trans ?_ (by with_reducible assumption)))⟩
        have HO := Lib.hid (OwW.mono (OwW.fr HW.out hf9) (Nat.le_refl _) z9)
        refine OwW.mono (lo := hx + 1) (hi := w9.heap.size) ?_ (by omega) (by simp)
        change OwW _ _ _ _ _ _ _ _; (repeat (first | (with_reducible refine OwW.drewN ?_ _) | (with_reducible refine OwW.drew ?_) | (with_reducible refine OwW.alloc ?_ _) | (with_reducible refine OwW.set ?_ (by (first | (with_reducible assumption) | omega | (simp only [World.size_alloc, World.size_setCell, World.size_drew, World.heap_drewN]; omega) | (simp; done) | (simp; omega))) _) | (exact HO.out)))
      · have HF : Hid (lrQ s (⟨x0, x1, x2, x3, ws, t⟩, ⟨az, false⟩) = false) := Lib.hid (lrQ_ne (fun h => he (HLT.out.symm.trans h)))
        have hq := bytes_bne he
        clear he
        go_wp2_with fail
        rw [HRL.out, HRB.out, HF.out, lrX_no HF.out]
        refine bodyPost_ret (v := .tuple #[.agg #[.int .i64 0, .int .i64 0, .int .i64 0, .bool false, .slice none 0 0, .string ⟨#[]⟩], .bool false]) (by simp [results, Try.results40, go_sem, *]) rfl ⟨none, 0, rfl, ⟨none, 0, rfl, OwW.nil _ _ _ _ _⟩, by repeat (first | (with_reducible exact Fr.refl _) | (with_reducible assumption) | (with_reducible refine Fr.drewN ?_ _) | (with_reducible refine Fr.drew ?_) | (with_reducible refine Fr.alloc ?_ _) | (with_reducible refine Fr.setCell ?_ (by (first | (with_reducible assumption) | omega | (simp only [World.size_alloc, World.size_setCell, World.size_drew, World.heap_drewN]; omega) | (simp; done) | (simp; omega))) _) | (with_reducible refine Fr.trans ?_ (by with_reducible assumption)))⟩
  · have HF : Hid (lrQ s (⟨x0, x1, x2, x3, ws, t⟩, ⟨az, true⟩) = false) := Lib.hid lrQ_bad
    go_wp2_with fail
    rw [HRL.out, HRB.out, HF.out, lrX_no HF.out]
    refine bodyPost_ret (v := .tuple #[.agg #[.int .i64 0, .int .i64 0, .int .i64 0, .bool false, .slice none 0 0, .string ⟨#[]⟩], .bool false]) (by simp [results, Try.results40, go_sem, *]) rfl ⟨none, 0, rfl, ⟨none, 0, rfl, OwW.nil _ _ _ _ _⟩, by repeat (first | (with_reducible exact Fr.refl _) | (with_reducible assumption) | (with_reducible refine Fr.drewN ?_ _) | (with_reducible refine Fr.drew ?_) | (with_reducible refine Fr.alloc ?_ _) | (with_reducible refine Fr.setCell ?_ (by (first | (with_reducible assumption) | omega | (simp only [World.size_alloc, World.size_setCell, World.size_drew, World.heap_drewN]; omega) | (simp; done) | (simp; omega))) _) | (with_reducible refine Fr.trans ?_ (by with_reducible assumption)))⟩
end Go.Proofs.Ytphjlecbhbcbcaa
