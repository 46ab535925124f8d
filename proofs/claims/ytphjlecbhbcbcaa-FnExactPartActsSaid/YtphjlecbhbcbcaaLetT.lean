/- spec.LetterText. Condition: the letter's text is no longer than the laws allow. (Printed by mk_lett.py.) -/
import Derived.Test.YtphjlecbhbcbcaaLet2
import Derived.Deep.RegionLaw
import Derived.Deep.RegionHeld3
import Derived.BigRegion
namespace Go.Proofs.Ytphjlecbhbcbcaa
open Go.RowKit
set_option linter.unusedVariables false
set_option linter.unusedSimpArgs false
def walkT (x : WalkR) : List UInt8 := [UInt8.ofNat x.f0.toNat, UInt8.ofNat x.f1.toNat, UInt8.ofNat x.f2.toNat, UInt8.ofNat x.f3.toNat]
/-- The bytes of a letter. -/
def letL (x : LetterD) : List UInt8 :=
  UInt8.ofNat x.f0.toNat :: (if x.f0 = 2 then varL x.f4.length ++ x.f4.flatMap walkT
    else if x.f0 = 3 then varL (x.f2 + 100000).toNat ++ [if x.f3 = true then 1 else 0]
    else if x.f0 = 5 then UInt8.ofNat x.f1.toNat :: x.f5.data.toList
    else x.f5.data.toList)
def letS (x : LetterD) : ByteArray := if letB x = true then ⟨(letL x).toArray⟩ else ⟨#[]⟩
theorem letB_kind {x : LetterD} (h : letB x = true) : x.f0 = 1 ∨ x.f0 = 2 ∨ x.f0 = 3 ∨ x.f0 = 4 ∨ x.f0 = 5 ∨ x.f0 = 6 := by
  by_cases hk : 1 ≤ x.f0 ∧ x.f0 ≤ 6
  · omega
  · rw [let_no hk] at h; cases h
theorem letB_size {x : LetterD} (h : letB x = true) : x.f5.size ≤ 6000 := by
  have hk := letB_kind h
  obtain ⟨k, a, n, b, ws, s⟩ := x
  simp only at hk ⊢
  rcases hk with rfl | rfl | rfl | rfl | rfl | rfl
  · have h' : (decide (n = 0) && !b && decide (a = 0) && decide (ws.length = 0) && decide (s.size ≤ 6000)) = true := h
    simp only [Bool.and_eq_true, decide_eq_true_eq] at h'
    omega
  · have h' : (decide (n = 0) && !b && decide (a = 0) && decide (s.size = 0) && (walksB ws && decide (1 ≤ ws.length ∧ ws.length ≤ 60))) = true := h
    simp only [Bool.and_eq_true, decide_eq_true_eq] at h'
    omega
  · have h' : (decide (a = 0) && decide (ws.length = 0) && decide (s.size = 0) && decide (-100000 ≤ n ∧ n ≤ 100000)) = true := h
    simp only [Bool.and_eq_true, decide_eq_true_eq] at h'
    omega
  · have h' : (decide (n = 0) && !b && decide (a = 0) && decide (ws.length = 0) && decide (s.size = 0)) = true := h
    simp only [Bool.and_eq_true, decide_eq_true_eq] at h'
    omega
  · have h' : (decide (n = 0) && !b && decide (ws.length = 0) && decide (0 ≤ a ∧ a < 4) && (rbS s && decide (s.size ≤ 6000))) = true := h
    simp only [Bool.and_eq_true, decide_eq_true_eq] at h'
    omega
  · have h' : (decide (n = 0) && !b && decide (a = 0) && decide (ws.length = 0) && (rbS s && decide (s.size ≤ 6000))) = true := h
    simp only [Bool.and_eq_true, decide_eq_true_eq] at h'
    omega
theorem letB_2 {a n : Int} {b : Bool} {ws : List WalkR} {s : ByteArray} (h : letB ⟨2, a, n, b, ws, s⟩ = true) : (∀ k, k < ws.length → walkK ws k = true) ∧ ws.length ≤ 60 := by
  have h' : (decide (n = 0) && !b && decide (a = 0) && decide (s.size = 0) && (walksB ws && decide (1 ≤ ws.length ∧ ws.length ≤ 60))) = true := h
  simp only [Bool.and_eq_true, decide_eq_true_eq] at h'
  obtain ⟨_, h1, h2⟩ := h'
  unfold walksB at h1
  rw [List.all_eq_true] at h1
  exact ⟨fun k hk => h1 k (List.mem_range.2 hk), h2.2⟩
theorem letB_3 {a n : Int} {b : Bool} {ws : List WalkR} {s : ByteArray} (h : letB ⟨3, a, n, b, ws, s⟩ = true) : -100000 ≤ n ∧ n ≤ 100000 := by
  have h' : (decide (a = 0) && decide (ws.length = 0) && decide (s.size = 0) && decide (-100000 ≤ n ∧ n ≤ 100000)) = true := h
  simp only [Bool.and_eq_true, decide_eq_true_eq] at h'
  exact h'.2
theorem letB_4 {a n : Int} {b : Bool} {ws : List WalkR} {s : ByteArray} (h : letB ⟨4, a, n, b, ws, s⟩ = true) : s.data.toList = [] := by
  have h' : (decide (n = 0) && !b && decide (a = 0) && decide (ws.length = 0) && decide (s.size = 0)) = true := h
  simp only [Bool.and_eq_true, decide_eq_true_eq] at h'
  exact List.eq_nil_of_length_eq_zero (by rw [Array.length_toList]; exact h'.2)
theorem letB_5 {a n : Int} {b : Bool} {ws : List WalkR} {s : ByteArray} (h : letB ⟨5, a, n, b, ws, s⟩ = true) : 0 ≤ a ∧ a < 4 := by
  have h' : (decide (n = 0) && !b && decide (ws.length = 0) && decide (0 ≤ a ∧ a < 4) && (rbS s && decide (s.size ≤ 6000))) = true := h
  simp only [Bool.and_eq_true, decide_eq_true_eq] at h'
  exact h'.1.2
theorem walkK_rng {ws : List WalkR} {k : Nat} {x0 x1 x2 x3 : Int} (hx : walkAt ws k = ⟨x0, x1, x2, x3⟩) (h : walkK ws k = true) : 0 ≤ x0 ∧ x0 ≤ 3 ∧ 0 ≤ x1 ∧ x1 ≤ 11 ∧ 0 ≤ x2 ∧ x2 ≤ 11 ∧ 0 ≤ x3 ∧ x3 ≤ 23 := by
  unfold walkK walkB at h
  rw [hx, decide_eq_true_eq] at h
  exact h
theorem walkT_take {ws : List WalkR} {k : Nat} (h : k < ws.length) {x : WalkR} (hx : walkAt ws k = x) : (ws.take (k + 1)).flatMap walkT = (ws.take k).flatMap walkT ++ walkT x := by
  subst hx
  rw [List.take_succ_eq_append_getElem h, List.flatMap_append]
  simp [walkAt, List.getD, List.getElem?_eq_getElem h]
theorem walkT_len (ws : List WalkR) (k : Nat) : ((ws.take k).flatMap walkT).length ≤ 4 * k := by
  have h : ∀ l : List WalkR, (l.flatMap walkT).length = 4 * l.length := by
    intro l
    induction l with
    | nil => rfl
    | cons x l ih => rw [List.flatMap_cons, List.length_append, ih]; simp [walkT]; omega
  rw [h]
  have := List.length_take_le k ws
  omega
theorem str4 (x0 x1 x2 x3 : Int) : (strOfNums [x0, x1, x2, x3]).data.toList = walkT ⟨x0, x1, x2, x3⟩ := by simp [strOfNums, walkT]
theorem str1 (x : Int) : (strOfNums [x]).data.toList = [UInt8.ofNat x.toNat] := by simp [strOfNums]
theorem byte_of {s : ByteArray} {l : List UInt8} (h : s.data.toList = l) : s = ⟨l.toArray⟩ := by
  apply WideShapes.bytes_inj; rw [h]
theorem conv_lit' (xs : List Int) (w : World) (n B : Nat) (hn : xs.length = n) (hB : B = w.heap.size) :
    (convert 77 9 (.slice (some ⟨B, 0, none⟩) n n)).run Try.prog (w.alloc (.cells (xs.map (Value.int .u8)).toArray 5)) = .ok (.string (strOfNums xs)) (w.alloc (.cells (xs.map (Value.int .u8)).toArray 5)) := by
  subst hB; exact conv_lit xs w n hn
theorem conv_at1 (x : Int) (b : Nat) (w : World) (h0 : w.cell? ⟨b, 0, none⟩ = some (.int .u8 x)) :
    (convert 77 9 (.slice (some ⟨b, 0, none⟩) 1 1)).run Try.prog w = .ok (.string (strOfNums [x])) w := by
  refine run_convert_bytes_arg _ 77 5 Try.underlying77 Try.underlying5 b 0 1 1 [x] rfl (fun i hi => ?_) 9 Try.underlying9
  match i, hi with
  | 0, _ => simpa using h0
set_option maxHeartbeats 4000000 in
set_option maxRecDepth 100000 in
theorem specText1 (ao : Option Addr) (ca : Nat) (a n : Int) (b : Bool) (ws : List WalkR) (s : ByteArray) (w : World) (hu : WalksR w (.slice ao ws.length ca) ws) (hs : s.size ≤ 1048576) (hB : letB ⟨1, a, n, b, ws, s⟩ = true) :
    Calls Try.prog 37 #[.agg #[.int .i64 1, .int .i64 a, .int .i64 n, .bool b, .slice ao ws.length ca, .string s]] w fun e w' => e = .returned (.tuple #[.string ⟨(letL ⟨1, a, n, b, ws, s⟩).toArray⟩, .bool true]) ∧ Fr w w' := by
  have HU := Lib.hid hu
  have hl := hu.le
  have hsz := letB_size hB
  simp only at hsz
  have CB : Hid (∀ w', Fr w w' → Calls Try.prog 24 #[.agg #[.int .i64 1, .int .i64 a, .int .i64 n, .bool b, .slice ao ws.length ca, .string s]] w' fun e w'' => e = .returned (.bool true) ∧ Fr w' w'') := Lib.hid fun w' hf => by rw [← hB]; exact specLetterOk_any _ ⟨1, a, n, b, ws, s⟩ w' ⟨_, rfl, RdS.fr hu hf⟩ hs
  obtain ⟨p, hp⟩ : ∃ p, letL ⟨1, a, n, b, ws, s⟩ = p := ⟨_, rfl⟩
  rw [hp]
  have HP := Lib.hid hp
  have hcv := fun (x : Int) (w : World) (B : Nat) (hB : B = w.heap.size) => conv_lit' [x] w 1 B rfl hB
  simp only [List.map_cons, List.map_nil] at hcv
  have hk1 : (strOfNums [1]).size = 1 := by rw [strOfNums_size]; rfl
  have HK := Lib.hid (str1 1)
  clear hB hp hu
  go_enter Try.func37, Try.ntmps37
  go_wp2_with fail
  refine (CB.out _ (by repeat (first | (with_reducible exact Fr.refl _) | (with_reducible assumption) | (with_reducible refine Fr.drewN ?_ _) | (with_reducible refine Fr.drew ?_) | (with_reducible refine Fr.alloc ?_ _) | (with_reducible refine Fr.setCell ?_ (by (first | (with_reducible assumption) | omega | (simp only [World.size_alloc, World.size_setCell, World.size_drew, World.heap_drewN]; omega) | (simp; done) | (simp; omega))) _) | (with_reducible refine Fr.trans ?_ (by with_reducible assumption))))).mono ?_
  rintro e w1 ⟨rfl, hf1⟩
  have z1 := hf1.size; (try simp only [World.size_alloc] at z1)
  have BX : Box w1 w.heap.size #[.int .i64 1, .int .i64 a, .int .i64 n, .bool b, .slice ao ws.length ca, .string s] 38 := (Box.new _ _ _).fr hf1
  have FX := BX.facts
  go_wp2_with fail
  go_ret2
  refine ⟨?_, by repeat (first | (with_reducible exact Fr.refl _) | (with_reducible assumption) | (with_reducible refine Fr.drewN ?_ _) | (with_reducible refine Fr.drew ?_) | (with_reducible refine Fr.alloc ?_ _) | (with_reducible refine Fr.setCell ?_ (by (first | (with_reducible assumption) | omega | (simp only [World.size_alloc, World.size_setCell, World.size_drew, World.heap_drewN]; omega) | (simp; done) | (simp; omega))) _) | (with_reducible refine Fr.trans ?_ (by with_reducible assumption)))⟩
  have : strOfNums [1] ++ s = ⟨p.toArray⟩ := byte_of (by rw [← HP.out, bytes_append, HK.out]; rfl)
  rw [this]
  rfl
set_option maxHeartbeats 4000000 in
set_option maxRecDepth 100000 in
theorem specText2 (ao : Option Addr) (ca : Nat) (a n : Int) (b : Bool) (ws : List WalkR) (s : ByteArray) (w : World) (hu : WalksR w (.slice ao ws.length ca) ws) (hs : s.size ≤ 1048576) (hB : letB ⟨2, a, n, b, ws, s⟩ = true) :
    Calls Try.prog 37 #[.agg #[.int .i64 2, .int .i64 a, .int .i64 n, .bool b, .slice ao ws.length ca, .string s]] w fun e w' => e = .returned (.tuple #[.string ⟨(letL ⟨2, a, n, b, ws, s⟩).toArray⟩, .bool true]) ∧ Fr w w' := by
  have HU := Lib.hid hu
  have hl := hu.le
  have hsz := letB_size hB
  simp only at hsz
  have CB : Hid (∀ w', Fr w w' → Calls Try.prog 24 #[.agg #[.int .i64 2, .int .i64 a, .int .i64 n, .bool b, .slice ao ws.length ca, .string s]] w' fun e w'' => e = .returned (.bool true) ∧ Fr w' w'') := Lib.hid fun w' hf => by rw [← hB]; exact specLetterOk_any _ ⟨2, a, n, b, ws, s⟩ w' ⟨_, rfl, RdS.fr hu hf⟩ hs
  obtain ⟨p, hp⟩ : ∃ p, letL ⟨2, a, n, b, ws, s⟩ = p := ⟨_, rfl⟩
  rw [hp]
  have HP := Lib.hid hp
  obtain ⟨hw0, hw1⟩ := letB_2 hB
  have HW := Lib.hid hw0
  clear hw0
  obtain ⟨_, ba, oa, _, hv, hca, hma, fa⟩ := hu.one
  cases hv
  have FA := Lib.hid fa
  clear fa
  have hcv := fun (x : Int) (w : World) (B : Nat) (hB : B = w.heap.size) => conv_lit' [x] w 1 B rfl hB
  simp only [List.map_cons, List.map_nil] at hcv
  have hk1 : (strOfNums [2]).size = 1 := by rw [strOfNums_size]; rfl
  have HK := Lib.hid (str1 2)
  clear hB hp hu
  go_enter Try.func37, Try.ntmps37
  go_wp2_with fail
  refine (CB.out _ (by repeat (first | (with_reducible exact Fr.refl _) | (with_reducible assumption) | (with_reducible refine Fr.drewN ?_ _) | (with_reducible refine Fr.drew ?_) | (with_reducible refine Fr.alloc ?_ _) | (with_reducible refine Fr.setCell ?_ (by (first | (with_reducible assumption) | omega | (simp only [World.size_alloc, World.size_setCell, World.size_drew, World.heap_drewN]; omega) | (simp; done) | (simp; omega))) _) | (with_reducible refine Fr.trans ?_ (by with_reducible assumption))))).mono ?_
  rintro e w1 ⟨rfl, hf1⟩
  have z1 := hf1.size; (try simp only [World.size_alloc] at z1)
  have BX : Box w1 w.heap.size #[.int .i64 2, .int .i64 a, .int .i64 n, .bool b, .slice ao ws.length ca, .string s] 38 := (Box.new _ _ _).fr hf1
  have FX := BX.facts
  have hcv4 := fun (x y z t : Int) (w : World) (B : Nat) (hB : B = w.heap.size) => conv_lit' [x, y, z, t] w 4 B rfl hB
  simp only [List.map_cons, List.map_nil] at hcv4
  have hv6 : (vText (ws.length : Int)).size ≤ 6 := vText_sz (by omega)
  have hap : (strOfNums [2] ++ vText (ws.length : Int)).size ≤ 7 := by rw [app_size]; omega
  go_wp2_with fail
  refine (l01Var_any _ _ (by omega) (by omega)).mono ?_
  rintro e w2 ⟨rfl, hf2⟩
  have z2 := hf2.size; (try simp only [World.size_alloc] at z2)
  have BX := (BX.alloc (.cells #[.int .u8 2] 5)).fr hf2
  clear FX
  have FX := BX.facts
  have ht0 : Hid ((strOfNums [2] ++ vText (ws.length : Int)).data.toList = 2 :: varL ws.length) := Lib.hid (by rw [bytes_append, HK.out, vText_list]; rfl)
  go_wp2_with fail
  generalize strOfNums [2] ++ vText (ws.length : Int) = t0 at hap ht0 ⊢
  go_loopw [4, 5, 6] (fun sv i _ wr => ∃ (k : Nat) (t : ByteArray), k ≤ ws.length ∧ i = .int .i64 k ∧ sv = .string t ∧ t.size ≤ 7 + 4 * k ∧ Hid (t.data.toList = 2 :: varL ws.length ++ (ws.take k).flatMap walkT) ∧ Fr w wr ∧ Box wr w.heap.size #[.int .i64 2, .int .i64 a, .int .i64 n, .bool b, .slice ao ws.length ca, .string s] 38) (fun _ i _ _ => ws.length - (intOf i).toNat)
  case atStart => exact ⟨0, t0, Nat.zero_le _, rfl, rfl, by omega, Lib.hid (by rw [ht0.out]; simp), by repeat (first | (with_reducible exact Fr.refl _) | (with_reducible assumption) | (with_reducible refine Fr.drewN ?_ _) | (with_reducible refine Fr.drew ?_) | (with_reducible refine Fr.alloc ?_ _) | (with_reducible refine Fr.setCell ?_ (by (first | (with_reducible assumption) | omega | (simp only [World.size_alloc, World.size_setCell, World.size_drew, World.heap_drewN]; omega) | (simp; done) | (simp; omega))) _) | (with_reducible refine Fr.trans ?_ (by with_reducible assumption))), BX⟩
  case round =>
    clear BX FX
    obtain ⟨k, t, hk, rfl, rfl, hts, ht, hfr, BX⟩ := hrel
    have FX := BX.facts
    by_cases hlt : k < ws.length
    · obtain ⟨rfl, hba, fa⟩ := FA.out (by omega)
      obtain ⟨g0, g1, g2, g3⟩ := fa k hlt
      obtain ⟨x, hx⟩ : ∃ x, walkAt ws k = x := ⟨_, rfl⟩
      rw [hx] at g0 g1 g2 g3
      have c0 := (hfr.cell (p := ⟨ba, _, none⟩) hba).trans g0
      have c1 := (hfr.cell (p := ⟨ba, _, none⟩) hba).trans g1
      have c2 := (hfr.cell (p := ⟨ba, _, none⟩) hba).trans g2
      have c3 := (hfr.cell (p := ⟨ba, _, none⟩) hba).trans g3
      obtain ⟨x0, x1, x2, x3⟩ := x
      simp only [] at c0 c1 c2 c3
      obtain ⟨r0, r1, r2, r3, r4, r5, r6, r7⟩ := walkK_rng hx (HW.out k hlt)
      have HX := Lib.hid hx
      have hbw : ba < wr.heap.size := Nat.lt_of_lt_of_le hba hfr.size
      clear g0 g1 g2 g3 fa hx
      have hz4 : (strOfNums [x0, x1, x2, x3]).size = 4 := by rw [strOfNums_size]; rfl
      have hts2 : (t ++ strOfNums [x0, x1, x2, x3]).size ≤ 7 + 4 * (k + 1) := by rw [app_size, hz4]; omega
      have ht2 : Hid ((t ++ strOfNums [x0, x1, x2, x3]).data.toList = 2 :: varL ws.length ++ (ws.take (k + 1)).flatMap walkT) := Lib.hid (by rw [bytes_append, ht.out, str4, walkT_take hlt HX.out, List.append_assoc])
      go_wp2_with fail
      go_roundw
      case rel => exact ⟨k + 1, _, by omega, by go_num, rfl, hts2, ht2, by repeat (first | (with_reducible exact Fr.refl _) | (with_reducible assumption) | (with_reducible refine Fr.drewN ?_ _) | (with_reducible refine Fr.drew ?_) | (with_reducible refine Fr.alloc ?_ _) | (with_reducible refine Fr.setCell ?_ (by (first | (with_reducible assumption) | omega | (simp only [World.size_alloc, World.size_setCell, World.size_drew, World.heap_drewN]; omega) | (simp; done) | (simp; omega))) _) | (with_reducible refine Fr.trans ?_ (by with_reducible assumption))), (BX.alloc _).alloc _⟩
      case measure => (simp [intOf]; omega)
    · obtain rfl : k = ws.length := by omega
      go_wp2_with fail
      go_ret2
      refine ⟨?_, by repeat (first | (with_reducible exact Fr.refl _) | (with_reducible assumption) | (with_reducible refine Fr.drewN ?_ _) | (with_reducible refine Fr.drew ?_) | (with_reducible refine Fr.alloc ?_ _) | (with_reducible refine Fr.setCell ?_ (by (first | (with_reducible assumption) | omega | (simp only [World.size_alloc, World.size_setCell, World.size_drew, World.heap_drewN]; omega) | (simp; done) | (simp; omega))) _) | (with_reducible refine Fr.trans ?_ (by with_reducible assumption)))⟩
      rw [show t = ⟨p.toArray⟩ from byte_of (by rw [ht.out, List.take_length, ← HP.out]; rfl)]
      rfl
set_option maxHeartbeats 4000000 in
set_option maxRecDepth 100000 in
theorem specText3 (ao : Option Addr) (ca : Nat) (a n : Int) (b : Bool) (ws : List WalkR) (s : ByteArray) (w : World) (hu : WalksR w (.slice ao ws.length ca) ws) (hs : s.size ≤ 1048576) (hB : letB ⟨3, a, n, b, ws, s⟩ = true) :
    Calls Try.prog 37 #[.agg #[.int .i64 3, .int .i64 a, .int .i64 n, .bool b, .slice ao ws.length ca, .string s]] w fun e w' => e = .returned (.tuple #[.string ⟨(letL ⟨3, a, n, b, ws, s⟩).toArray⟩, .bool true]) ∧ Fr w w' := by
  have HU := Lib.hid hu
  have hl := hu.le
  have hsz := letB_size hB
  simp only at hsz
  have CB : Hid (∀ w', Fr w w' → Calls Try.prog 24 #[.agg #[.int .i64 3, .int .i64 a, .int .i64 n, .bool b, .slice ao ws.length ca, .string s]] w' fun e w'' => e = .returned (.bool true) ∧ Fr w' w'') := Lib.hid fun w' hf => by rw [← hB]; exact specLetterOk_any _ ⟨3, a, n, b, ws, s⟩ w' ⟨_, rfl, RdS.fr hu hf⟩ hs
  obtain ⟨p, hp⟩ : ∃ p, letL ⟨3, a, n, b, ws, s⟩ = p := ⟨_, rfl⟩
  rw [hp]
  have HP := Lib.hid hp
  obtain ⟨hn0, hn1⟩ := letB_3 hB
  have hcv := fun (x : Int) (w : World) (B : Nat) (hB : B = w.heap.size) => conv_lit' [x] w 1 B rfl hB
  simp only [List.map_cons, List.map_nil] at hcv
  have hk1 : (strOfNums [3]).size = 1 := by rw [strOfNums_size]; rfl
  have HK := Lib.hid (str1 3)
  clear hB hp hu
  go_enter Try.func37, Try.ntmps37
  go_wp2_with fail
  refine (CB.out _ (by repeat (first | (with_reducible exact Fr.refl _) | (with_reducible assumption) | (with_reducible refine Fr.drewN ?_ _) | (with_reducible refine Fr.drew ?_) | (with_reducible refine Fr.alloc ?_ _) | (with_reducible refine Fr.setCell ?_ (by (first | (with_reducible assumption) | omega | (simp only [World.size_alloc, World.size_setCell, World.size_drew, World.heap_drewN]; omega) | (simp; done) | (simp; omega))) _) | (with_reducible refine Fr.trans ?_ (by with_reducible assumption))))).mono ?_
  rintro e w1 ⟨rfl, hf1⟩
  have z1 := hf1.size; (try simp only [World.size_alloc] at z1)
  have BX : Box w1 w.heap.size #[.int .i64 3, .int .i64 a, .int .i64 n, .bool b, .slice ao ws.length ca, .string s] 38 := (Box.new _ _ _).fr hf1
  have FX := BX.facts
  have hv6 : (vText (n + 100000)).size ≤ 6 := vText_sz (by omega)
  have hwn : IntKind.i64.wrap (n + 100000) = n + 100000 := IntWalk.i64_in _ (by omega)
  have CV : Hid (∀ w', Calls Try.prog 98 #[.int .i64 (n + 100000)] w' fun e w'' => e = .returned (.string (vText (n + 100000))) ∧ Fr w' w'') := Lib.hid fun w' => l01Var_any _ _ (by omega) (by omega)
  have hcv0 := conv_at1 0
  have hcv1 := conv_at1 1
  have hz0 : (strOfNums [0]).size = 1 := by rw [strOfNums_size]; rfl
  have hz1 : (strOfNums [1]).size = 1 := by rw [strOfNums_size]; rfl
  have hap : (strOfNums [3] ++ vText (n + 100000)).size ≤ 7 := by rw [app_size]; omega
  have hq1 : (9223372036854775807 < 1 + (vText (n + 100000)).size) = False := by simp; omega
  have hq2 : (9223372036854775807 < 1 + (vText (n + 100000)).size + 1) = False := by simp; omega
  cases b
  · go_wp2_with fail
    go_region_law (go_simp; go_at_call 98; refine (CV.out _).mono ?_; rintro e w5 ⟨rfl, hf5⟩; have z5 := hf5.size; (try (have k5 := (Box.fr (Box.drew (Box.new _ _ _)) hf5).facts; simp only [World.size_alloc, World.size_drew] at k5)))
    all_goals
      go_wp2_with fail
      go_ret2
      refine ⟨?_, by repeat (first | (with_reducible exact Fr.refl _) | (with_reducible assumption) | (with_reducible refine Fr.drewN ?_ _) | (with_reducible refine Fr.drew ?_) | (with_reducible refine Fr.alloc ?_ _) | (with_reducible refine Fr.setCell ?_ (by (first | (with_reducible assumption) | omega | (simp only [World.size_alloc, World.size_setCell, World.size_drew, World.heap_drewN]; omega) | (simp; done) | (simp; omega))) _) | (with_reducible refine Fr.trans ?_ (by with_reducible assumption)))⟩
      have h3 := HP.out
      rw [show strOfNums [3] ++ vText (n + 100000) ++ strOfNums [0] = ⟨p.toArray⟩ from byte_of (by rw [bytes_append, bytes_append, HK.out, vText_list, str1, ← h3]; rfl)]
      rfl
  · go_wp2_with fail
    go_region_law (go_simp; go_at_call 98; refine (CV.out _).mono ?_; rintro e w5 ⟨rfl, hf5⟩; have z5 := hf5.size; (try (have k5 := (Box.fr (Box.drew (Box.new _ _ _)) hf5).facts; simp only [World.size_alloc, World.size_drew] at k5)))
    all_goals
      go_wp2_with fail
      go_ret2
      refine ⟨?_, by repeat (first | (with_reducible exact Fr.refl _) | (with_reducible assumption) | (with_reducible refine Fr.drewN ?_ _) | (with_reducible refine Fr.drew ?_) | (with_reducible refine Fr.alloc ?_ _) | (with_reducible refine Fr.setCell ?_ (by (first | (with_reducible assumption) | omega | (simp only [World.size_alloc, World.size_setCell, World.size_drew, World.heap_drewN]; omega) | (simp; done) | (simp; omega))) _) | (with_reducible refine Fr.trans ?_ (by with_reducible assumption)))⟩
      have h3 := HP.out
      rw [show strOfNums [3] ++ vText (n + 100000) ++ strOfNums [1] = ⟨p.toArray⟩ from byte_of (by rw [bytes_append, bytes_append, HK.out, vText_list, str1, ← h3]; rfl)]
      rfl
set_option maxHeartbeats 4000000 in
set_option maxRecDepth 100000 in
theorem specText4 (ao : Option Addr) (ca : Nat) (a n : Int) (b : Bool) (ws : List WalkR) (s : ByteArray) (w : World) (hu : WalksR w (.slice ao ws.length ca) ws) (hs : s.size ≤ 1048576) (hB : letB ⟨4, a, n, b, ws, s⟩ = true) :
    Calls Try.prog 37 #[.agg #[.int .i64 4, .int .i64 a, .int .i64 n, .bool b, .slice ao ws.length ca, .string s]] w fun e w' => e = .returned (.tuple #[.string ⟨(letL ⟨4, a, n, b, ws, s⟩).toArray⟩, .bool true]) ∧ Fr w w' := by
  have HU := Lib.hid hu
  have hl := hu.le
  have hsz := letB_size hB
  simp only at hsz
  have CB : Hid (∀ w', Fr w w' → Calls Try.prog 24 #[.agg #[.int .i64 4, .int .i64 a, .int .i64 n, .bool b, .slice ao ws.length ca, .string s]] w' fun e w'' => e = .returned (.bool true) ∧ Fr w' w'') := Lib.hid fun w' hf => by rw [← hB]; exact specLetterOk_any _ ⟨4, a, n, b, ws, s⟩ w' ⟨_, rfl, RdS.fr hu hf⟩ hs
  obtain ⟨p, hp⟩ : ∃ p, letL ⟨4, a, n, b, ws, s⟩ = p := ⟨_, rfl⟩
  rw [hp]
  have HP := Lib.hid hp
  have HE := Lib.hid (letB_4 hB)
  have hcv := fun (x : Int) (w : World) (B : Nat) (hB : B = w.heap.size) => conv_lit' [x] w 1 B rfl hB
  simp only [List.map_cons, List.map_nil] at hcv
  have hk1 : (strOfNums [4]).size = 1 := by rw [strOfNums_size]; rfl
  have HK := Lib.hid (str1 4)
  clear hB hp hu
  go_enter Try.func37, Try.ntmps37
  go_wp2_with fail
  refine (CB.out _ (by repeat (first | (with_reducible exact Fr.refl _) | (with_reducible assumption) | (with_reducible refine Fr.drewN ?_ _) | (with_reducible refine Fr.drew ?_) | (with_reducible refine Fr.alloc ?_ _) | (with_reducible refine Fr.setCell ?_ (by (first | (with_reducible assumption) | omega | (simp only [World.size_alloc, World.size_setCell, World.size_drew, World.heap_drewN]; omega) | (simp; done) | (simp; omega))) _) | (with_reducible refine Fr.trans ?_ (by with_reducible assumption))))).mono ?_
  rintro e w1 ⟨rfl, hf1⟩
  have z1 := hf1.size; (try simp only [World.size_alloc] at z1)
  have BX : Box w1 w.heap.size #[.int .i64 4, .int .i64 a, .int .i64 n, .bool b, .slice ao ws.length ca, .string s] 38 := (Box.new _ _ _).fr hf1
  have FX := BX.facts
  go_wp2_with fail
  go_ret2
  refine ⟨?_, by repeat (first | (with_reducible exact Fr.refl _) | (with_reducible assumption) | (with_reducible refine Fr.drewN ?_ _) | (with_reducible refine Fr.drew ?_) | (with_reducible refine Fr.alloc ?_ _) | (with_reducible refine Fr.setCell ?_ (by (first | (with_reducible assumption) | omega | (simp only [World.size_alloc, World.size_setCell, World.size_drew, World.heap_drewN]; omega) | (simp; done) | (simp; omega))) _) | (with_reducible refine Fr.trans ?_ (by with_reducible assumption)))⟩
  have : strOfNums [4] ++ s = ⟨p.toArray⟩ := byte_of (by rw [← HP.out, bytes_append, HK.out]; rfl)
  rw [this]
  rfl
set_option maxHeartbeats 4000000 in
set_option maxRecDepth 100000 in
theorem specText5 (ao : Option Addr) (ca : Nat) (a n : Int) (b : Bool) (ws : List WalkR) (s : ByteArray) (w : World) (hu : WalksR w (.slice ao ws.length ca) ws) (hs : s.size ≤ 1048576) (hB : letB ⟨5, a, n, b, ws, s⟩ = true) :
    Calls Try.prog 37 #[.agg #[.int .i64 5, .int .i64 a, .int .i64 n, .bool b, .slice ao ws.length ca, .string s]] w fun e w' => e = .returned (.tuple #[.string ⟨(letL ⟨5, a, n, b, ws, s⟩).toArray⟩, .bool true]) ∧ Fr w w' := by
  have HU := Lib.hid hu
  have hl := hu.le
  have hsz := letB_size hB
  simp only at hsz
  have CB : Hid (∀ w', Fr w w' → Calls Try.prog 24 #[.agg #[.int .i64 5, .int .i64 a, .int .i64 n, .bool b, .slice ao ws.length ca, .string s]] w' fun e w'' => e = .returned (.bool true) ∧ Fr w' w'') := Lib.hid fun w' hf => by rw [← hB]; exact specLetterOk_any _ ⟨5, a, n, b, ws, s⟩ w' ⟨_, rfl, RdS.fr hu hf⟩ hs
  obtain ⟨p, hp⟩ : ∃ p, letL ⟨5, a, n, b, ws, s⟩ = p := ⟨_, rfl⟩
  rw [hp]
  have HP := Lib.hid hp
  obtain ⟨hn0, hn1⟩ := letB_5 hB
  have hcv := fun (x : Int) (w : World) (B : Nat) (hB : B = w.heap.size) => conv_lit' [x] w 1 B rfl hB
  simp only [List.map_cons, List.map_nil] at hcv
  have hk1 : (strOfNums [5]).size = 1 := by rw [strOfNums_size]; rfl
  have HK := Lib.hid (str1 5)
  clear hB hp hu
  go_enter Try.func37, Try.ntmps37
  go_wp2_with fail
  refine (CB.out _ (by repeat (first | (with_reducible exact Fr.refl _) | (with_reducible assumption) | (with_reducible refine Fr.drewN ?_ _) | (with_reducible refine Fr.drew ?_) | (with_reducible refine Fr.alloc ?_ _) | (with_reducible refine Fr.setCell ?_ (by (first | (with_reducible assumption) | omega | (simp only [World.size_alloc, World.size_setCell, World.size_drew, World.heap_drewN]; omega) | (simp; done) | (simp; omega))) _) | (with_reducible refine Fr.trans ?_ (by with_reducible assumption))))).mono ?_
  rintro e w1 ⟨rfl, hf1⟩
  have z1 := hf1.size; (try simp only [World.size_alloc] at z1)
  have BX : Box w1 w.heap.size #[.int .i64 5, .int .i64 a, .int .i64 n, .bool b, .slice ao ws.length ca, .string s] 38 := (Box.new _ _ _).fr hf1
  have FX := BX.facts
  have ha1 : (strOfNums [a]).size = 1 := by rw [strOfNums_size]; rfl
  have HA := Lib.hid (str1 a)
  go_wp2_with fail
  go_ret2
  refine ⟨?_, by repeat (first | (with_reducible exact Fr.refl _) | (with_reducible assumption) | (with_reducible refine Fr.drewN ?_ _) | (with_reducible refine Fr.drew ?_) | (with_reducible refine Fr.alloc ?_ _) | (with_reducible refine Fr.setCell ?_ (by (first | (with_reducible assumption) | omega | (simp only [World.size_alloc, World.size_setCell, World.size_drew, World.heap_drewN]; omega) | (simp; done) | (simp; omega))) _) | (with_reducible refine Fr.trans ?_ (by with_reducible assumption)))⟩
  have : strOfNums [5] ++ strOfNums [a] ++ s = ⟨p.toArray⟩ := byte_of (by rw [← HP.out, bytes_append, bytes_append, HK.out, HA.out]; rfl)
  rw [this]
  rfl
set_option maxHeartbeats 4000000 in
set_option maxRecDepth 100000 in
theorem specText6 (ao : Option Addr) (ca : Nat) (a n : Int) (b : Bool) (ws : List WalkR) (s : ByteArray) (w : World) (hu : WalksR w (.slice ao ws.length ca) ws) (hs : s.size ≤ 1048576) (hB : letB ⟨6, a, n, b, ws, s⟩ = true) :
    Calls Try.prog 37 #[.agg #[.int .i64 6, .int .i64 a, .int .i64 n, .bool b, .slice ao ws.length ca, .string s]] w fun e w' => e = .returned (.tuple #[.string ⟨(letL ⟨6, a, n, b, ws, s⟩).toArray⟩, .bool true]) ∧ Fr w w' := by
  have HU := Lib.hid hu
  have hl := hu.le
  have hsz := letB_size hB
  simp only at hsz
  have CB : Hid (∀ w', Fr w w' → Calls Try.prog 24 #[.agg #[.int .i64 6, .int .i64 a, .int .i64 n, .bool b, .slice ao ws.length ca, .string s]] w' fun e w'' => e = .returned (.bool true) ∧ Fr w' w'') := Lib.hid fun w' hf => by rw [← hB]; exact specLetterOk_any _ ⟨6, a, n, b, ws, s⟩ w' ⟨_, rfl, RdS.fr hu hf⟩ hs
  obtain ⟨p, hp⟩ : ∃ p, letL ⟨6, a, n, b, ws, s⟩ = p := ⟨_, rfl⟩
  rw [hp]
  have HP := Lib.hid hp
  have hcv := fun (x : Int) (w : World) (B : Nat) (hB : B = w.heap.size) => conv_lit' [x] w 1 B rfl hB
  simp only [List.map_cons, List.map_nil] at hcv
  have hk1 : (strOfNums [6]).size = 1 := by rw [strOfNums_size]; rfl
  have HK := Lib.hid (str1 6)
  clear hB hp hu
  go_enter Try.func37, Try.ntmps37
  go_wp2_with fail
  refine (CB.out _ (by repeat (first | (with_reducible exact Fr.refl _) | (with_reducible assumption) | (with_reducible refine Fr.drewN ?_ _) | (with_reducible refine Fr.drew ?_) | (with_reducible refine Fr.alloc ?_ _) | (with_reducible refine Fr.setCell ?_ (by (first | (with_reducible assumption) | omega | (simp only [World.size_alloc, World.size_setCell, World.size_drew, World.heap_drewN]; omega) | (simp; done) | (simp; omega))) _) | (with_reducible refine Fr.trans ?_ (by with_reducible assumption))))).mono ?_
  rintro e w1 ⟨rfl, hf1⟩
  have z1 := hf1.size; (try simp only [World.size_alloc] at z1)
  have BX : Box w1 w.heap.size #[.int .i64 6, .int .i64 a, .int .i64 n, .bool b, .slice ao ws.length ca, .string s] 38 := (Box.new _ _ _).fr hf1
  have FX := BX.facts
  go_wp2_with fail
  go_ret2
  refine ⟨?_, by repeat (first | (with_reducible exact Fr.refl _) | (with_reducible assumption) | (with_reducible refine Fr.drewN ?_ _) | (with_reducible refine Fr.drew ?_) | (with_reducible refine Fr.alloc ?_ _) | (with_reducible refine Fr.setCell ?_ (by (first | (with_reducible assumption) | omega | (simp only [World.size_alloc, World.size_setCell, World.size_drew, World.heap_drewN]; omega) | (simp; done) | (simp; omega))) _) | (with_reducible refine Fr.trans ?_ (by with_reducible assumption)))⟩
  have : strOfNums [6] ++ s = ⟨p.toArray⟩ := byte_of (by rw [← HP.out, bytes_append, HK.out]; rfl)
  rw [this]
  rfl
theorem specLetterText_any (v : Value) (x : LetterD) (w : World) (hv : LetterRd w v x) (hs : x.f5.size ≤ 1048576) :
    Calls Try.prog 37 #[v] w fun e w' => e = .returned (.tuple #[.string (letS x), .bool (letB x)]) ∧ Fr w w' := by
  have hv0 := hv
  obtain ⟨u, rfl, hu⟩ := hv
  obtain ⟨ao, ca, rfl, _⟩ := RdS.val hu
  obtain ⟨k, a, n, b, ws, s⟩ := x
  simp only at hs hu hv0 ⊢
  cases hB : letB ⟨k, a, n, b, ws, s⟩
  · have CB : Hid (∀ w', Fr w w' → Calls Try.prog 24 #[.agg #[.int .i64 k, .int .i64 a, .int .i64 n, .bool b, .slice ao ws.length ca, .string s]] w' fun e w'' => e = .returned (.bool false) ∧ Fr w' w'') := Lib.hid fun w' hf => by rw [← hB]; exact specLetterOk_any _ ⟨k, a, n, b, ws, s⟩ w' (hv0.fr hf) hs
    have HS : Hid (letS ⟨k, a, n, b, ws, s⟩ = ⟨#[]⟩) := Lib.hid (if_neg (by simp [hB]))
    clear hB hu
    go_enter Try.func37, Try.ntmps37
    go_wp2_with (go_at_call 24; refine (CB.out _ (by repeat (first | (with_reducible exact Fr.refl _) | (with_reducible assumption) | (with_reducible refine Fr.drewN ?_ _) | (with_reducible refine Fr.drew ?_) | (with_reducible refine Fr.alloc ?_ _) | (with_reducible refine Fr.setCell ?_ (by (first | (with_reducible assumption) | omega | (simp only [World.size_alloc, World.size_setCell, World.size_drew, World.heap_drewN]; omega) | (simp; done) | (simp; omega))) _) | (with_reducible refine Fr.trans ?_ (by with_reducible assumption))))).mono ?_; rintro e w1 ⟨rfl, hf1⟩)
    go_ret2
    exact ⟨by rw [HS.out]; rfl, by repeat (first | (with_reducible exact Fr.refl _) | (with_reducible assumption) | (with_reducible refine Fr.drewN ?_ _) | (with_reducible refine Fr.drew ?_) | (with_reducible refine Fr.alloc ?_ _) | (with_reducible refine Fr.setCell ?_ (by (first | (with_reducible assumption) | omega | (simp only [World.size_alloc, World.size_setCell, World.size_drew, World.heap_drewN]; omega) | (simp; done) | (simp; omega))) _) | (with_reducible refine Fr.trans ?_ (by with_reducible assumption)))⟩
  · have hk := letB_kind hB
    have HS : letS ⟨k, a, n, b, ws, s⟩ = ⟨(letL ⟨k, a, n, b, ws, s⟩).toArray⟩ := if_pos hB
    rw [HS]
    simp only at hk
    rcases hk with rfl | rfl | rfl | rfl | rfl | rfl
    · exact specText1 ao ca a n b ws s w hu hs hB
    · exact specText2 ao ca a n b ws s w hu hs hB
    · exact specText3 ao ca a n b ws s w hu hs hB
    · exact specText4 ao ca a n b ws s w hu hs hB
    · exact specText5 ao ca a n b ws s w hu hs hB
    · exact specText6 ao ca a n b ws s w hu hs hB
end Go.Proofs.Ytphjlecbhbcbcaa
