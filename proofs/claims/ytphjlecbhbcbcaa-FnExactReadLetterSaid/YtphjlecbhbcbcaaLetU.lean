/- impl.LetterText. Condition: the letter's text is no longer than the laws allow. (Printed by mk_lett.py.) -/
import Derived.Test.YtphjlecbhbcbcaaLetT
import Derived.Test.YtphjlecbhbcbcaaBld
namespace Go.Proofs.Ytphjlecbhbcbcaa
open Go.RowKit
set_option linter.unusedVariables false
set_option linter.unusedSimpArgs false
set_option maxHeartbeats 4000000 in
set_option maxRecDepth 100000 in
theorem implText1 (ao : Option Addr) (ca : Nat) (a n : Int) (b : Bool) (ws : List WalkR) (s : ByteArray) (w : World) (hu : WalksR w (.slice ao ws.length ca) ws) (hs : s.size ≤ 1048576) (hB : letB ⟨1, a, n, b, ws, s⟩ = true) :
    Calls Try.prog 38 #[.agg #[.int .i64 1, .int .i64 a, .int .i64 n, .bool b, .slice ao ws.length ca, .string s]] w fun e w' => e = .returned (.tuple #[.string ⟨(letL ⟨1, a, n, b, ws, s⟩).toArray⟩, .bool true]) ∧ Fr w w' := by
  have HU := Lib.hid hu
  have hl := hu.le
  have hsz := letB_size hB
  simp only at hsz
  have CB : Hid (∀ w', Fr w w' → Calls Try.prog 26 #[.agg #[.int .i64 1, .int .i64 a, .int .i64 n, .bool b, .slice ao ws.length ca, .string s]] w' fun e w'' => e = .returned (.bool true) ∧ Fr w' w'') := Lib.hid fun w' hf => by rw [← hB]; exact implLetterOk_any _ ⟨1, a, n, b, ws, s⟩ w' ⟨_, rfl, RdS.fr hu hf⟩ hs
  obtain ⟨p, hp⟩ : ∃ p, letL ⟨1, a, n, b, ws, s⟩ = p := ⟨_, rfl⟩
  rw [hp]
  have HP := Lib.hid hp
  clear hB hp hu
  go_enter Try.func38, Try.ntmps38
  go_wp2_with fail
  refine (CB.out _ (by repeat (first | (with_reducible exact Fr.refl _) | (with_reducible assumption) | (with_reducible refine Fr.drewN ?_ _) | (with_reducible refine Fr.drew ?_) | (with_reducible refine Fr.alloc ?_ _) | (with_reducible refine Fr.setCell ?_ (by (first | (with_reducible assumption) | omega | (simp only [World.size_alloc, World.size_setCell, World.size_drew, World.heap_drewN]; omega) | (simp; done) | (simp; omega))) _) | (with_reducible refine Fr.trans ?_ (by with_reducible assumption))))).mono ?_
  rintro e w1 ⟨rfl, hf1⟩
  have z1 := hf1.size; (try simp only [World.size_alloc] at z1)
  have BX : Box w1 w.heap.size #[.int .i64 1, .int .i64 a, .int .i64 n, .bool b, .slice ao ws.length ca, .string s] 38 := (Box.new _ _ _).fr hf1
  have FX := BX.facts
  go_wp2_with fail
  obtain ⟨b0, hb0⟩ : ∃ b0, w1.heap.size = b0 := ⟨_, rfl⟩
  have BL1 : Bld (w1.alloc (.cells #[.pointer none, .slice none 0 0] 128)) b0 [] := Bld.new' hb0.symm
  have hfa : Fr w (w1.alloc (.cells #[.pointer none, .slice none 0 0] 128)) := by repeat (first | (with_reducible exact Fr.refl _) | (with_reducible assumption) | (with_reducible refine Fr.drewN ?_ _) | (with_reducible refine Fr.drew ?_) | (with_reducible refine Fr.alloc ?_ _) | (with_reducible refine Fr.setCell ?_ (by (first | (with_reducible assumption) | omega | (simp only [World.size_alloc, World.size_setCell, World.size_drew, World.heap_drewN]; omega) | (simp; done) | (simp; omega))) _) | (with_reducible refine Fr.trans ?_ (by with_reducible assumption)))
  have BX2 := BX.alloc (.cells #[.pointer none, .slice none 0 0] 128)
  clear FX BX
  have zb : w.heap.size + 1 ≤ b0 := by omega
  (try rw [hb0])
  refine (bldByte_any b0 [] _ 1 (by rfl) _ BL1 (by simp)).mono ?_
  rintro e w2 ⟨rfl, BL2, sp2⟩
  have BX2 := BX2.span sp2 (.inl (by omega))
  have hf2 : Fr w w2 := Span.fr hfa sp2 (by omega)
  have FX := BX2.facts
  clear BL1 hfa sp2 hb0
  go_wp2_with fail
  refine (bldString_any b0 _ s _ BL2 (by simp) (by omega)).mono ?_
  rintro e w3 ⟨rfl, BL3, sp3⟩
  have hf3 : Fr w w3 := Span.fr hf2 sp3 (by omega)
  clear FX
  go_wp2_with fail
  have BL9 : Bld w3 b0 p := by rw [← HP.out]; exact BL3
  have hne : p ≠ [] := by rw [← HP.out]; exact List.cons_ne_nil _ _
  refine (bldText_any b0 p _ BL9 hne).mono ?_
  rintro e w9 ⟨rfl, hf9⟩
  have hf9 := hf9 w (by omega) (show Fr w _ by repeat (first | (with_reducible exact Fr.refl _) | (with_reducible assumption) | (with_reducible refine Fr.drewN ?_ _) | (with_reducible refine Fr.drew ?_) | (with_reducible refine Fr.alloc ?_ _) | (with_reducible refine Fr.setCell ?_ (by (first | (with_reducible assumption) | omega | (simp only [World.size_alloc, World.size_setCell, World.size_drew, World.heap_drewN]; omega) | (simp; done) | (simp; omega))) _) | (with_reducible refine Fr.trans ?_ (by with_reducible assumption))))
  go_wp2_with fail
  go_ret2
  exact ⟨rfl, hf9⟩
set_option maxHeartbeats 4000000 in
set_option maxRecDepth 100000 in
theorem implText2 (ao : Option Addr) (ca : Nat) (a n : Int) (b : Bool) (ws : List WalkR) (s : ByteArray) (w : World) (hu : WalksR w (.slice ao ws.length ca) ws) (hs : s.size ≤ 1048576) (hB : letB ⟨2, a, n, b, ws, s⟩ = true) :
    Calls Try.prog 38 #[.agg #[.int .i64 2, .int .i64 a, .int .i64 n, .bool b, .slice ao ws.length ca, .string s]] w fun e w' => e = .returned (.tuple #[.string ⟨(letL ⟨2, a, n, b, ws, s⟩).toArray⟩, .bool true]) ∧ Fr w w' := by
  have HU := Lib.hid hu
  have hl := hu.le
  have hsz := letB_size hB
  simp only at hsz
  have CB : Hid (∀ w', Fr w w' → Calls Try.prog 26 #[.agg #[.int .i64 2, .int .i64 a, .int .i64 n, .bool b, .slice ao ws.length ca, .string s]] w' fun e w'' => e = .returned (.bool true) ∧ Fr w' w'') := Lib.hid fun w' hf => by rw [← hB]; exact implLetterOk_any _ ⟨2, a, n, b, ws, s⟩ w' ⟨_, rfl, RdS.fr hu hf⟩ hs
  obtain ⟨p, hp⟩ : ∃ p, letL ⟨2, a, n, b, ws, s⟩ = p := ⟨_, rfl⟩
  rw [hp]
  have HP := Lib.hid hp
  obtain ⟨hw0, hw1⟩ := letB_2 hB
  have HW := Lib.hid hw0
  clear hw0
  obtain ⟨_, ba, oa, _, hv, hca, hma, fa⟩ := hu.one
  cases hv
  have FA := Lib.hid fa
  clear fa
  clear hB hp hu
  go_enter Try.func38, Try.ntmps38
  go_wp2_with fail
  refine (CB.out _ (by repeat (first | (with_reducible exact Fr.refl _) | (with_reducible assumption) | (with_reducible refine Fr.drewN ?_ _) | (with_reducible refine Fr.drew ?_) | (with_reducible refine Fr.alloc ?_ _) | (with_reducible refine Fr.setCell ?_ (by (first | (with_reducible assumption) | omega | (simp only [World.size_alloc, World.size_setCell, World.size_drew, World.heap_drewN]; omega) | (simp; done) | (simp; omega))) _) | (with_reducible refine Fr.trans ?_ (by with_reducible assumption))))).mono ?_
  rintro e w1 ⟨rfl, hf1⟩
  have z1 := hf1.size; (try simp only [World.size_alloc] at z1)
  have BX : Box w1 w.heap.size #[.int .i64 2, .int .i64 a, .int .i64 n, .bool b, .slice ao ws.length ca, .string s] 38 := (Box.new _ _ _).fr hf1
  have FX := BX.facts
  go_wp2_with fail
  obtain ⟨b0, hb0⟩ : ∃ b0, w1.heap.size = b0 := ⟨_, rfl⟩
  have BL1 : Bld (w1.alloc (.cells #[.pointer none, .slice none 0 0] 128)) b0 [] := Bld.new' hb0.symm
  have hfa : Fr w (w1.alloc (.cells #[.pointer none, .slice none 0 0] 128)) := by repeat (first | (with_reducible exact Fr.refl _) | (with_reducible assumption) | (with_reducible refine Fr.drewN ?_ _) | (with_reducible refine Fr.drew ?_) | (with_reducible refine Fr.alloc ?_ _) | (with_reducible refine Fr.setCell ?_ (by (first | (with_reducible assumption) | omega | (simp only [World.size_alloc, World.size_setCell, World.size_drew, World.heap_drewN]; omega) | (simp; done) | (simp; omega))) _) | (with_reducible refine Fr.trans ?_ (by with_reducible assumption)))
  have BX2 := BX.alloc (.cells #[.pointer none, .slice none 0 0] 128)
  clear FX BX
  have zb : w.heap.size + 1 ≤ b0 := by omega
  (try rw [hb0])
  refine (bldByte_any b0 [] _ 2 (by rfl) _ BL1 (by simp)).mono ?_
  rintro e w2 ⟨rfl, BL2, sp2⟩
  have BX2 := BX2.span sp2 (.inl (by omega))
  have hf2 : Fr w w2 := Span.fr hfa sp2 (by omega)
  have FX := BX2.facts
  clear BL1 hfa sp2 hb0
  have hv6 : (vText (ws.length : Int)).size ≤ 6 := vText_sz (by omega)
  go_wp2_with fail
  refine (varText_any (ws.length : Int) _ (by omega) (by omega)).mono ?_
  rintro e w3 ⟨rfl, hf3⟩
  go_wp2_with fail
  refine (bldString_any b0 _ (vText (ws.length : Int)) _ (BL2.fr hf3) (by simp) (by omega)).mono ?_
  rintro e w4 ⟨rfl, BL4, sp4⟩
  have hf4 : Fr w w4 := Span.fr (show Fr w w3 by repeat (first | (with_reducible exact Fr.refl _) | (with_reducible assumption) | (with_reducible refine Fr.drewN ?_ _) | (with_reducible refine Fr.drew ?_) | (with_reducible refine Fr.alloc ?_ _) | (with_reducible refine Fr.setCell ?_ (by (first | (with_reducible assumption) | omega | (simp only [World.size_alloc, World.size_setCell, World.size_drew, World.heap_drewN]; omega) | (simp; done) | (simp; omega))) _) | (with_reducible refine Fr.trans ?_ (by with_reducible assumption)))) sp4 (by omega)
  have BX4 := (BX2.fr hf3).span sp4 (.inl (by omega))
  rw [vText_list, Int.toNat_natCast] at BL4
  have hv7 := varL_len40 ws.length (by omega)
  clear FX BX2
  have FX := BX4.facts
  go_wp2_with fail
  go_loopw [6, 32] (fun _ i wr => ∃ (k : Nat) (l : List UInt8), k ≤ ws.length ∧ i = .int .i64 k ∧ l.length ≤ 7 + 4 * k ∧ Hid (l = ([] ++ [(2 : UInt8)]) ++ varL ws.length ++ (ws.take k).flatMap walkT) ∧ Bld wr b0 l ∧ Fr w wr) (fun _ i _ => ws.length - (intOf i).toNat)
  case atStart => exact ⟨0, _, Nat.zero_le _, rfl, by simp; omega, Lib.hid (by simp), BL4, hf4⟩
  case round =>
    clear BX4 FX BL4 BL2
    obtain ⟨k, l, hk, rfl, hll, hL, BL, hfr⟩ := hrel
    have zb2 := BL.lt
    by_cases hlt : k < ws.length
    · obtain ⟨rfl, hba, fa⟩ := FA.out (by omega)
      obtain ⟨g0, g1, g2, g3⟩ := fa k hlt
      obtain ⟨x, hx⟩ : ∃ x, walkAt ws k = x := ⟨_, rfl⟩
      rw [hx] at g0 g1 g2 g3
      have c0 := (hfr.cell (p := ⟨ba, _, none⟩) hba).trans g0
      have c1 := (hfr.cell (p := ⟨ba, _, none⟩) hba).trans g1
      have c2 := (hfr.cell (p := ⟨ba, _, none⟩) hba).trans g2
      have c3 := (hfr.cell (p := ⟨ba, _, none⟩) hba).trans g3
      obtain ⟨x0, x1, x2, x3⟩ := x
      simp only [] at c0 c1 c2 c3
      obtain ⟨r0, r1, r2, r3, r4, r5, r6, r7⟩ := walkK_rng hx (HW.out k hlt)
      have HX := Lib.hid hx
      have hbw : ba < wr.heap.size := Nat.lt_of_lt_of_le hba hfr.size
      clear g0 g1 g2 g3 fa hx
      have hcells : ((nums (walkT ⟨x0, x1, x2, x3⟩)).map (Value.int .u8)).toArray = #[Value.int .u8 x0, .int .u8 x1, .int .u8 x2, .int .u8 x3] := by
        have e0 := num_byte x0.toNat (by omega)
        have e1 := num_byte x1.toNat (by omega)
        have e2 := num_byte x2.toNat (by omega)
        have e3 := num_byte x3.toNat (by omega)
        rw [Int.toNat_of_nonneg (by omega)] at e0 e1 e2 e3
        simp only [nums, walkT, List.map_cons, List.map_nil, e0, e1, e2, e3]
      have HC := Lib.hid hcells
      have hL2 : Hid (l ++ walkT ⟨x0, x1, x2, x3⟩ = ([] ++ [(2 : UInt8)]) ++ varL ws.length ++ (ws.take (k + 1)).flatMap walkT) := Lib.hid (by rw [hL.out, walkT_take hlt HX.out]; simp only [List.append_assoc])
      have hlen2 : (l ++ walkT ⟨x0, x1, x2, x3⟩).length = l.length + 4 := by simp [walkT]
      clear hcells
      go_wp2_with fail
      refine (bldWrite_any b0 (wr.heap.size + 1) l (walkT ⟨x0, x1, x2, x3⟩) 4 5 _ (BL.fr (by repeat (first | (with_reducible exact Fr.refl _) | (with_reducible assumption) | (with_reducible refine Fr.drewN ?_ _) | (with_reducible refine Fr.drew ?_) | (with_reducible refine Fr.alloc ?_ _) | (with_reducible refine Fr.setCell ?_ (by (first | (with_reducible assumption) | omega | (simp only [World.size_alloc, World.size_setCell, World.size_drew, World.heap_drewN]; omega) | (simp; done) | (simp; omega))) _) | (with_reducible refine Fr.trans ?_ (by with_reducible assumption))))) (by omega) (by simp [walkT]) (by rw [HC.out]; exact Box.new' (by simp)) (by omega) (by simp [walkT]) (by unfold maxLen; omega)).mono ?_
      rintro e w5 ⟨rfl, BL5, sp5⟩
      have hf5 : Fr w w5 := Span.fr (show Fr w _ by repeat (first | (with_reducible exact Fr.refl _) | (with_reducible assumption) | (with_reducible refine Fr.drewN ?_ _) | (with_reducible refine Fr.drew ?_) | (with_reducible refine Fr.alloc ?_ _) | (with_reducible refine Fr.setCell ?_ (by (first | (with_reducible assumption) | omega | (simp only [World.size_alloc, World.size_setCell, World.size_drew, World.heap_drewN]; omega) | (simp; done) | (simp; omega))) _) | (with_reducible refine Fr.trans ?_ (by with_reducible assumption)))) sp5 (by omega)
      go_wp2_with fail
      go_roundw
      case rel => exact ⟨k + 1, _, by omega, by go_num, by omega, hL2, BL5, hf5⟩
      case measure => (simp [intOf]; omega)
    · obtain rfl : k = ws.length := by omega
      have BL9 : Bld wr b0 p := by rw [← HP.out]; have := BL; rw [hL.out, List.take_length] at this; exact this
      have hne : p ≠ [] := by rw [← HP.out]; exact List.cons_ne_nil _ _
      go_wp2_with fail
      refine (bldText_any b0 p _ BL9 hne).mono ?_
      rintro e w9 ⟨rfl, hf9⟩
      have hf9 := hf9 w (by omega) (show Fr w _ by repeat (first | (with_reducible exact Fr.refl _) | (with_reducible assumption) | (with_reducible refine Fr.drewN ?_ _) | (with_reducible refine Fr.drew ?_) | (with_reducible refine Fr.alloc ?_ _) | (with_reducible refine Fr.setCell ?_ (by (first | (with_reducible assumption) | omega | (simp only [World.size_alloc, World.size_setCell, World.size_drew, World.heap_drewN]; omega) | (simp; done) | (simp; omega))) _) | (with_reducible refine Fr.trans ?_ (by with_reducible assumption))))
      go_wp2_with fail
      go_ret2
      exact ⟨rfl, hf9⟩
set_option maxHeartbeats 4000000 in
set_option maxRecDepth 100000 in
theorem implText3 (ao : Option Addr) (ca : Nat) (a n : Int) (b : Bool) (ws : List WalkR) (s : ByteArray) (w : World) (hu : WalksR w (.slice ao ws.length ca) ws) (hs : s.size ≤ 1048576) (hB : letB ⟨3, a, n, b, ws, s⟩ = true) :
    Calls Try.prog 38 #[.agg #[.int .i64 3, .int .i64 a, .int .i64 n, .bool b, .slice ao ws.length ca, .string s]] w fun e w' => e = .returned (.tuple #[.string ⟨(letL ⟨3, a, n, b, ws, s⟩).toArray⟩, .bool true]) ∧ Fr w w' := by
  have HU := Lib.hid hu
  have hl := hu.le
  have hsz := letB_size hB
  simp only at hsz
  have CB : Hid (∀ w', Fr w w' → Calls Try.prog 26 #[.agg #[.int .i64 3, .int .i64 a, .int .i64 n, .bool b, .slice ao ws.length ca, .string s]] w' fun e w'' => e = .returned (.bool true) ∧ Fr w' w'') := Lib.hid fun w' hf => by rw [← hB]; exact implLetterOk_any _ ⟨3, a, n, b, ws, s⟩ w' ⟨_, rfl, RdS.fr hu hf⟩ hs
  obtain ⟨p, hp⟩ : ∃ p, letL ⟨3, a, n, b, ws, s⟩ = p := ⟨_, rfl⟩
  rw [hp]
  have HP := Lib.hid hp
  obtain ⟨hn0, hn1⟩ := letB_3 hB
  clear hB hp hu
  go_enter Try.func38, Try.ntmps38
  go_wp2_with fail
  refine (CB.out _ (by repeat (first | (with_reducible exact Fr.refl _) | (with_reducible assumption) | (with_reducible refine Fr.drewN ?_ _) | (with_reducible refine Fr.drew ?_) | (with_reducible refine Fr.alloc ?_ _) | (with_reducible refine Fr.setCell ?_ (by (first | (with_reducible assumption) | omega | (simp only [World.size_alloc, World.size_setCell, World.size_drew, World.heap_drewN]; omega) | (simp; done) | (simp; omega))) _) | (with_reducible refine Fr.trans ?_ (by with_reducible assumption))))).mono ?_
  rintro e w1 ⟨rfl, hf1⟩
  have z1 := hf1.size; (try simp only [World.size_alloc] at z1)
  have BX : Box w1 w.heap.size #[.int .i64 3, .int .i64 a, .int .i64 n, .bool b, .slice ao ws.length ca, .string s] 38 := (Box.new _ _ _).fr hf1
  have FX := BX.facts
  go_wp2_with fail
  obtain ⟨b0, hb0⟩ : ∃ b0, w1.heap.size = b0 := ⟨_, rfl⟩
  have BL1 : Bld (w1.alloc (.cells #[.pointer none, .slice none 0 0] 128)) b0 [] := Bld.new' hb0.symm
  have hfa : Fr w (w1.alloc (.cells #[.pointer none, .slice none 0 0] 128)) := by repeat (first | (with_reducible exact Fr.refl _) | (with_reducible assumption) | (with_reducible refine Fr.drewN ?_ _) | (with_reducible refine Fr.drew ?_) | (with_reducible refine Fr.alloc ?_ _) | (with_reducible refine Fr.setCell ?_ (by (first | (with_reducible assumption) | omega | (simp only [World.size_alloc, World.size_setCell, World.size_drew, World.heap_drewN]; omega) | (simp; done) | (simp; omega))) _) | (with_reducible refine Fr.trans ?_ (by with_reducible assumption)))
  have BX2 := BX.alloc (.cells #[.pointer none, .slice none 0 0] 128)
  clear FX BX
  have zb : w.heap.size + 1 ≤ b0 := by omega
  (try rw [hb0])
  refine (bldByte_any b0 [] _ 3 (by rfl) _ BL1 (by simp)).mono ?_
  rintro e w2 ⟨rfl, BL2, sp2⟩
  have BX2 := BX2.span sp2 (.inl (by omega))
  have hf2 : Fr w w2 := Span.fr hfa sp2 (by omega)
  have FX := BX2.facts
  clear BL1 hfa sp2 hb0
  have hwn : IntKind.i64.wrap (n + 100000) = n + 100000 := IntWalk.i64_in _ (by omega)
  have hv6 : (vText (n + 100000)).size ≤ 6 := vText_sz (by omega)
  go_wp2_with fail
  refine (varText_any (n + 100000) _ (by omega) (by omega)).mono ?_
  rintro e w3 ⟨rfl, hf3⟩
  go_wp2_with fail
  refine (bldString_any b0 _ (vText (n + 100000)) _ (BL2.fr hf3) (by simp) (by omega)).mono ?_
  rintro e w4 ⟨rfl, BL4, sp4⟩
  have hf4 : Fr w w4 := Span.fr (show Fr w w3 by repeat (first | (with_reducible exact Fr.refl _) | (with_reducible assumption) | (with_reducible refine Fr.drewN ?_ _) | (with_reducible refine Fr.drew ?_) | (with_reducible refine Fr.alloc ?_ _) | (with_reducible refine Fr.setCell ?_ (by (first | (with_reducible assumption) | omega | (simp only [World.size_alloc, World.size_setCell, World.size_drew, World.heap_drewN]; omega) | (simp; done) | (simp; omega))) _) | (with_reducible refine Fr.trans ?_ (by with_reducible assumption)))) sp4 (by omega)
  have BX4 := (BX2.fr hf3).span sp4 (.inl (by omega))
  rw [vText_list] at BL4
  have hv7 := varL_len40 (n + 100000).toNat (by omega)
  clear FX
  have FX := BX4.facts
  cases b
  · go_wp2_with fail
    refine (bldByte_any b0 _ _ 0 (by rfl) _ BL4 (by simp; omega)).mono ?_
    rintro e w5 ⟨rfl, BL5, sp5⟩
    have hf5 : Fr w w5 := Span.fr hf4 sp5 (by omega)
    clear FX
    go_wp2_with fail
    have BL9 : Bld w5 b0 p := by rw [← HP.out]; exact BL5
    have hne : p ≠ [] := by rw [← HP.out]; exact List.cons_ne_nil _ _
    refine (bldText_any b0 p _ BL9 hne).mono ?_
    rintro e w9 ⟨rfl, hf9⟩
    have hf9 := hf9 w (by omega) (show Fr w _ by repeat (first | (with_reducible exact Fr.refl _) | (with_reducible assumption) | (with_reducible refine Fr.drewN ?_ _) | (with_reducible refine Fr.drew ?_) | (with_reducible refine Fr.alloc ?_ _) | (with_reducible refine Fr.setCell ?_ (by (first | (with_reducible assumption) | omega | (simp only [World.size_alloc, World.size_setCell, World.size_drew, World.heap_drewN]; omega) | (simp; done) | (simp; omega))) _) | (with_reducible refine Fr.trans ?_ (by with_reducible assumption))))
    go_wp2_with fail
    go_ret2
    exact ⟨rfl, hf9⟩
  · go_wp2_with fail
    refine (bldByte_any b0 _ _ 1 (by rfl) _ BL4 (by simp; omega)).mono ?_
    rintro e w5 ⟨rfl, BL5, sp5⟩
    have hf5 : Fr w w5 := Span.fr hf4 sp5 (by omega)
    clear FX
    go_wp2_with fail
    have BL9 : Bld w5 b0 p := by rw [← HP.out]; exact BL5
    have hne : p ≠ [] := by rw [← HP.out]; exact List.cons_ne_nil _ _
    refine (bldText_any b0 p _ BL9 hne).mono ?_
    rintro e w9 ⟨rfl, hf9⟩
    have hf9 := hf9 w (by omega) (show Fr w _ by repeat (first | (with_reducible exact Fr.refl _) | (with_reducible assumption) | (with_reducible refine Fr.drewN ?_ _) | (with_reducible refine Fr.drew ?_) | (with_reducible refine Fr.alloc ?_ _) | (with_reducible refine Fr.setCell ?_ (by (first | (with_reducible assumption) | omega | (simp only [World.size_alloc, World.size_setCell, World.size_drew, World.heap_drewN]; omega) | (simp; done) | (simp; omega))) _) | (with_reducible refine Fr.trans ?_ (by with_reducible assumption))))
    go_wp2_with fail
    go_ret2
    exact ⟨rfl, hf9⟩
set_option maxHeartbeats 4000000 in
set_option maxRecDepth 100000 in
theorem implText4 (ao : Option Addr) (ca : Nat) (a n : Int) (b : Bool) (ws : List WalkR) (s : ByteArray) (w : World) (hu : WalksR w (.slice ao ws.length ca) ws) (hs : s.size ≤ 1048576) (hB : letB ⟨4, a, n, b, ws, s⟩ = true) :
    Calls Try.prog 38 #[.agg #[.int .i64 4, .int .i64 a, .int .i64 n, .bool b, .slice ao ws.length ca, .string s]] w fun e w' => e = .returned (.tuple #[.string ⟨(letL ⟨4, a, n, b, ws, s⟩).toArray⟩, .bool true]) ∧ Fr w w' := by
  have HU := Lib.hid hu
  have hl := hu.le
  have hsz := letB_size hB
  simp only at hsz
  have CB : Hid (∀ w', Fr w w' → Calls Try.prog 26 #[.agg #[.int .i64 4, .int .i64 a, .int .i64 n, .bool b, .slice ao ws.length ca, .string s]] w' fun e w'' => e = .returned (.bool true) ∧ Fr w' w'') := Lib.hid fun w' hf => by rw [← hB]; exact implLetterOk_any _ ⟨4, a, n, b, ws, s⟩ w' ⟨_, rfl, RdS.fr hu hf⟩ hs
  obtain ⟨p, hp⟩ : ∃ p, letL ⟨4, a, n, b, ws, s⟩ = p := ⟨_, rfl⟩
  rw [hp]
  have HP := Lib.hid hp
  have HE := Lib.hid (letB_4 hB)
  clear hB hp hu
  go_enter Try.func38, Try.ntmps38
  go_wp2_with fail
  refine (CB.out _ (by repeat (first | (with_reducible exact Fr.refl _) | (with_reducible assumption) | (with_reducible refine Fr.drewN ?_ _) | (with_reducible refine Fr.drew ?_) | (with_reducible refine Fr.alloc ?_ _) | (with_reducible refine Fr.setCell ?_ (by (first | (with_reducible assumption) | omega | (simp only [World.size_alloc, World.size_setCell, World.size_drew, World.heap_drewN]; omega) | (simp; done) | (simp; omega))) _) | (with_reducible refine Fr.trans ?_ (by with_reducible assumption))))).mono ?_
  rintro e w1 ⟨rfl, hf1⟩
  have z1 := hf1.size; (try simp only [World.size_alloc] at z1)
  have BX : Box w1 w.heap.size #[.int .i64 4, .int .i64 a, .int .i64 n, .bool b, .slice ao ws.length ca, .string s] 38 := (Box.new _ _ _).fr hf1
  have FX := BX.facts
  go_wp2_with fail
  obtain ⟨b0, hb0⟩ : ∃ b0, w1.heap.size = b0 := ⟨_, rfl⟩
  have BL1 : Bld (w1.alloc (.cells #[.pointer none, .slice none 0 0] 128)) b0 [] := Bld.new' hb0.symm
  have hfa : Fr w (w1.alloc (.cells #[.pointer none, .slice none 0 0] 128)) := by repeat (first | (with_reducible exact Fr.refl _) | (with_reducible assumption) | (with_reducible refine Fr.drewN ?_ _) | (with_reducible refine Fr.drew ?_) | (with_reducible refine Fr.alloc ?_ _) | (with_reducible refine Fr.setCell ?_ (by (first | (with_reducible assumption) | omega | (simp only [World.size_alloc, World.size_setCell, World.size_drew, World.heap_drewN]; omega) | (simp; done) | (simp; omega))) _) | (with_reducible refine Fr.trans ?_ (by with_reducible assumption)))
  have BX2 := BX.alloc (.cells #[.pointer none, .slice none 0 0] 128)
  clear FX BX
  have zb : w.heap.size + 1 ≤ b0 := by omega
  (try rw [hb0])
  refine (bldByte_any b0 [] _ 4 (by rfl) _ BL1 (by simp)).mono ?_
  rintro e w2 ⟨rfl, BL2, sp2⟩
  have BX2 := BX2.span sp2 (.inl (by omega))
  have hf2 : Fr w w2 := Span.fr hfa sp2 (by omega)
  have FX := BX2.facts
  clear BL1 hfa sp2 hb0
  go_wp2_with fail
  have BL9 : Bld w2 b0 p := by rw [← HP.out]; show Bld w2 b0 (_ :: s.data.toList); rw [HE.out]; exact BL2
  have hne : p ≠ [] := by rw [← HP.out]; exact List.cons_ne_nil _ _
  refine (bldText_any b0 p _ BL9 hne).mono ?_
  rintro e w9 ⟨rfl, hf9⟩
  have hf9 := hf9 w (by omega) (show Fr w _ by repeat (first | (with_reducible exact Fr.refl _) | (with_reducible assumption) | (with_reducible refine Fr.drewN ?_ _) | (with_reducible refine Fr.drew ?_) | (with_reducible refine Fr.alloc ?_ _) | (with_reducible refine Fr.setCell ?_ (by (first | (with_reducible assumption) | omega | (simp only [World.size_alloc, World.size_setCell, World.size_drew, World.heap_drewN]; omega) | (simp; done) | (simp; omega))) _) | (with_reducible refine Fr.trans ?_ (by with_reducible assumption))))
  go_wp2_with fail
  go_ret2
  exact ⟨rfl, hf9⟩
set_option maxHeartbeats 4000000 in
set_option maxRecDepth 100000 in
theorem implText5 (ao : Option Addr) (ca : Nat) (a n : Int) (b : Bool) (ws : List WalkR) (s : ByteArray) (w : World) (hu : WalksR w (.slice ao ws.length ca) ws) (hs : s.size ≤ 1048576) (hB : letB ⟨5, a, n, b, ws, s⟩ = true) :
    Calls Try.prog 38 #[.agg #[.int .i64 5, .int .i64 a, .int .i64 n, .bool b, .slice ao ws.length ca, .string s]] w fun e w' => e = .returned (.tuple #[.string ⟨(letL ⟨5, a, n, b, ws, s⟩).toArray⟩, .bool true]) ∧ Fr w w' := by
  have HU := Lib.hid hu
  have hl := hu.le
  have hsz := letB_size hB
  simp only at hsz
  have CB : Hid (∀ w', Fr w w' → Calls Try.prog 26 #[.agg #[.int .i64 5, .int .i64 a, .int .i64 n, .bool b, .slice ao ws.length ca, .string s]] w' fun e w'' => e = .returned (.bool true) ∧ Fr w' w'') := Lib.hid fun w' hf => by rw [← hB]; exact implLetterOk_any _ ⟨5, a, n, b, ws, s⟩ w' ⟨_, rfl, RdS.fr hu hf⟩ hs
  obtain ⟨p, hp⟩ : ∃ p, letL ⟨5, a, n, b, ws, s⟩ = p := ⟨_, rfl⟩
  rw [hp]
  have HP := Lib.hid hp
  obtain ⟨hn0, hn1⟩ := letB_5 hB
  clear hB hp hu
  go_enter Try.func38, Try.ntmps38
  go_wp2_with fail
  refine (CB.out _ (by repeat (first | (with_reducible exact Fr.refl _) | (with_reducible assumption) | (with_reducible refine Fr.drewN ?_ _) | (with_reducible refine Fr.drew ?_) | (with_reducible refine Fr.alloc ?_ _) | (with_reducible refine Fr.setCell ?_ (by (first | (with_reducible assumption) | omega | (simp only [World.size_alloc, World.size_setCell, World.size_drew, World.heap_drewN]; omega) | (simp; done) | (simp; omega))) _) | (with_reducible refine Fr.trans ?_ (by with_reducible assumption))))).mono ?_
  rintro e w1 ⟨rfl, hf1⟩
  have z1 := hf1.size; (try simp only [World.size_alloc] at z1)
  have BX : Box w1 w.heap.size #[.int .i64 5, .int .i64 a, .int .i64 n, .bool b, .slice ao ws.length ca, .string s] 38 := (Box.new _ _ _).fr hf1
  have FX := BX.facts
  go_wp2_with fail
  obtain ⟨b0, hb0⟩ : ∃ b0, w1.heap.size = b0 := ⟨_, rfl⟩
  have BL1 : Bld (w1.alloc (.cells #[.pointer none, .slice none 0 0] 128)) b0 [] := Bld.new' hb0.symm
  have hfa : Fr w (w1.alloc (.cells #[.pointer none, .slice none 0 0] 128)) := by repeat (first | (with_reducible exact Fr.refl _) | (with_reducible assumption) | (with_reducible refine Fr.drewN ?_ _) | (with_reducible refine Fr.drew ?_) | (with_reducible refine Fr.alloc ?_ _) | (with_reducible refine Fr.setCell ?_ (by (first | (with_reducible assumption) | omega | (simp only [World.size_alloc, World.size_setCell, World.size_drew, World.heap_drewN]; omega) | (simp; done) | (simp; omega))) _) | (with_reducible refine Fr.trans ?_ (by with_reducible assumption)))
  have BX2 := BX.alloc (.cells #[.pointer none, .slice none 0 0] 128)
  clear FX BX
  have zb : w.heap.size + 1 ≤ b0 := by omega
  (try rw [hb0])
  refine (bldByte_any b0 [] _ 5 (by rfl) _ BL1 (by simp)).mono ?_
  rintro e w2 ⟨rfl, BL2, sp2⟩
  have BX2 := BX2.span sp2 (.inl (by omega))
  have hf2 : Fr w w2 := Span.fr hfa sp2 (by omega)
  have FX := BX2.facts
  clear BL1 hfa sp2 hb0
  go_wp2_with fail
  refine (bldByte_any b0 _ _ (UInt8.ofNat a.toNat) (by have := num_byte a.toNat (by omega); omega) _ BL2 (by simp)).mono ?_
  rintro e w3 ⟨rfl, BL3, sp3⟩
  have hf3 : Fr w w3 := Span.fr hf2 sp3 (by omega)
  have BX3 := BX2.span sp3 (.inl (by omega))
  clear FX
  have FX := BX3.facts
  go_wp2_with fail
  refine (bldString_any b0 _ s _ BL3 (by simp) (by omega)).mono ?_
  rintro e w4 ⟨rfl, BL4, sp4⟩
  have hf4 : Fr w w4 := Span.fr hf3 sp4 (by omega)
  clear FX
  go_wp2_with fail
  have BL9 : Bld w4 b0 p := by rw [← HP.out]; exact BL4
  have hne : p ≠ [] := by rw [← HP.out]; exact List.cons_ne_nil _ _
  refine (bldText_any b0 p _ BL9 hne).mono ?_
  rintro e w9 ⟨rfl, hf9⟩
  have hf9 := hf9 w (by omega) (show Fr w _ by repeat (first | (with_reducible exact Fr.refl _) | (with_reducible assumption) | (with_reducible refine Fr.drewN ?_ _) | (with_reducible refine Fr.drew ?_) | (with_reducible refine Fr.alloc ?_ _) | (with_reducible refine Fr.setCell ?_ (by (first | (with_reducible assumption) | omega | (simp only [World.size_alloc, World.size_setCell, World.size_drew, World.heap_drewN]; omega) | (simp; done) | (simp; omega))) _) | (with_reducible refine Fr.trans ?_ (by with_reducible assumption))))
  go_wp2_with fail
  go_ret2
  exact ⟨rfl, hf9⟩
set_option maxHeartbeats 4000000 in
set_option maxRecDepth 100000 in
theorem implText6 (ao : Option Addr) (ca : Nat) (a n : Int) (b : Bool) (ws : List WalkR) (s : ByteArray) (w : World) (hu : WalksR w (.slice ao ws.length ca) ws) (hs : s.size ≤ 1048576) (hB : letB ⟨6, a, n, b, ws, s⟩ = true) :
    Calls Try.prog 38 #[.agg #[.int .i64 6, .int .i64 a, .int .i64 n, .bool b, .slice ao ws.length ca, .string s]] w fun e w' => e = .returned (.tuple #[.string ⟨(letL ⟨6, a, n, b, ws, s⟩).toArray⟩, .bool true]) ∧ Fr w w' := by
  have HU := Lib.hid hu
  have hl := hu.le
  have hsz := letB_size hB
  simp only at hsz
  have CB : Hid (∀ w', Fr w w' → Calls Try.prog 26 #[.agg #[.int .i64 6, .int .i64 a, .int .i64 n, .bool b, .slice ao ws.length ca, .string s]] w' fun e w'' => e = .returned (.bool true) ∧ Fr w' w'') := Lib.hid fun w' hf => by rw [← hB]; exact implLetterOk_any _ ⟨6, a, n, b, ws, s⟩ w' ⟨_, rfl, RdS.fr hu hf⟩ hs
  obtain ⟨p, hp⟩ : ∃ p, letL ⟨6, a, n, b, ws, s⟩ = p := ⟨_, rfl⟩
  rw [hp]
  have HP := Lib.hid hp
  clear hB hp hu
  go_enter Try.func38, Try.ntmps38
  go_wp2_with fail
  refine (CB.out _ (by repeat (first | (with_reducible exact Fr.refl _) | (with_reducible assumption) | (with_reducible refine Fr.drewN ?_ _) | (with_reducible refine Fr.drew ?_) | (with_reducible refine Fr.alloc ?_ _) | (with_reducible refine Fr.setCell ?_ (by (first | (with_reducible assumption) | omega | (simp only [World.size_alloc, World.size_setCell, World.size_drew, World.heap_drewN]; omega) | (simp; done) | (simp; omega))) _) | (with_reducible refine Fr.trans ?_ (by with_reducible assumption))))).mono ?_
  rintro e w1 ⟨rfl, hf1⟩
  have z1 := hf1.size; (try simp only [World.size_alloc] at z1)
  have BX : Box w1 w.heap.size #[.int .i64 6, .int .i64 a, .int .i64 n, .bool b, .slice ao ws.length ca, .string s] 38 := (Box.new _ _ _).fr hf1
  have FX := BX.facts
  go_wp2_with fail
  obtain ⟨b0, hb0⟩ : ∃ b0, w1.heap.size = b0 := ⟨_, rfl⟩
  have BL1 : Bld (w1.alloc (.cells #[.pointer none, .slice none 0 0] 128)) b0 [] := Bld.new' hb0.symm
  have hfa : Fr w (w1.alloc (.cells #[.pointer none, .slice none 0 0] 128)) := by repeat (first | (with_reducible exact Fr.refl _) | (with_reducible assumption) | (with_reducible refine Fr.drewN ?_ _) | (with_reducible refine Fr.drew ?_) | (with_reducible refine Fr.alloc ?_ _) | (with_reducible refine Fr.setCell ?_ (by (first | (with_reducible assumption) | omega | (simp only [World.size_alloc, World.size_setCell, World.size_drew, World.heap_drewN]; omega) | (simp; done) | (simp; omega))) _) | (with_reducible refine Fr.trans ?_ (by with_reducible assumption)))
  have BX2 := BX.alloc (.cells #[.pointer none, .slice none 0 0] 128)
  clear FX BX
  have zb : w.heap.size + 1 ≤ b0 := by omega
  (try rw [hb0])
  refine (bldByte_any b0 [] _ 6 (by rfl) _ BL1 (by simp)).mono ?_
  rintro e w2 ⟨rfl, BL2, sp2⟩
  have BX2 := BX2.span sp2 (.inl (by omega))
  have hf2 : Fr w w2 := Span.fr hfa sp2 (by omega)
  have FX := BX2.facts
  clear BL1 hfa sp2 hb0
  go_wp2_with fail
  refine (bldString_any b0 _ s _ BL2 (by simp) (by omega)).mono ?_
  rintro e w3 ⟨rfl, BL3, sp3⟩
  have hf3 : Fr w w3 := Span.fr hf2 sp3 (by omega)
  clear FX
  go_wp2_with fail
  have BL9 : Bld w3 b0 p := by rw [← HP.out]; exact BL3
  have hne : p ≠ [] := by rw [← HP.out]; exact List.cons_ne_nil _ _
  refine (bldText_any b0 p _ BL9 hne).mono ?_
  rintro e w9 ⟨rfl, hf9⟩
  have hf9 := hf9 w (by omega) (show Fr w _ by repeat (first | (with_reducible exact Fr.refl _) | (with_reducible assumption) | (with_reducible refine Fr.drewN ?_ _) | (with_reducible refine Fr.drew ?_) | (with_reducible refine Fr.alloc ?_ _) | (with_reducible refine Fr.setCell ?_ (by (first | (with_reducible assumption) | omega | (simp only [World.size_alloc, World.size_setCell, World.size_drew, World.heap_drewN]; omega) | (simp; done) | (simp; omega))) _) | (with_reducible refine Fr.trans ?_ (by with_reducible assumption))))
  go_wp2_with fail
  go_ret2
  exact ⟨rfl, hf9⟩
theorem implLetterText_any (v : Value) (x : LetterD) (w : World) (hv : LetterRd w v x) (hs : x.f5.size ≤ 1048576) :
    Calls Try.prog 38 #[v] w fun e w' => e = .returned (.tuple #[.string (letS x), .bool (letB x)]) ∧ Fr w w' := by
  have hv0 := hv
  obtain ⟨u, rfl, hu⟩ := hv
  obtain ⟨ao, ca, rfl, _⟩ := RdS.val hu
  obtain ⟨k, a, n, b, ws, s⟩ := x
  simp only at hs hu hv0 ⊢
  cases hB : letB ⟨k, a, n, b, ws, s⟩
  · have CB : Hid (∀ w', Fr w w' → Calls Try.prog 26 #[.agg #[.int .i64 k, .int .i64 a, .int .i64 n, .bool b, .slice ao ws.length ca, .string s]] w' fun e w'' => e = .returned (.bool false) ∧ Fr w' w'') := Lib.hid fun w' hf => by rw [← hB]; exact implLetterOk_any _ ⟨k, a, n, b, ws, s⟩ w' (hv0.fr hf) hs
    have HS : Hid (letS ⟨k, a, n, b, ws, s⟩ = ⟨#[]⟩) := Lib.hid (if_neg (by simp [hB]))
    clear hB hu
    go_enter Try.func38, Try.ntmps38
    go_wp2_with (go_at_call 26; refine (CB.out _ (by repeat (first | (with_reducible exact Fr.refl _) | (with_reducible assumption) | (with_reducible refine Fr.drewN ?_ _) | (with_reducible refine Fr.drew ?_) | (with_reducible refine Fr.alloc ?_ _) | (with_reducible refine Fr.setCell ?_ (by (first | (with_reducible assumption) | omega | (simp only [World.size_alloc, World.size_setCell, World.size_drew, World.heap_drewN]; omega) | (simp; done) | (simp; omega))) _) | (with_reducible refine Fr.trans ?_ (by with_reducible assumption))))).mono ?_; rintro e w1 ⟨rfl, hf1⟩)
    go_ret2
    exact ⟨by rw [HS.out]; rfl, by repeat (first | (with_reducible exact Fr.refl _) | (with_reducible assumption) | (with_reducible refine Fr.drewN ?_ _) | (with_reducible refine Fr.drew ?_) | (with_reducible refine Fr.alloc ?_ _) | (with_reducible refine Fr.setCell ?_ (by (first | (with_reducible assumption) | omega | (simp only [World.size_alloc, World.size_setCell, World.size_drew, World.heap_drewN]; omega) | (simp; done) | (simp; omega))) _) | (with_reducible refine Fr.trans ?_ (by with_reducible assumption)))⟩
  · have hk := letB_kind hB
    have HS : letS ⟨k, a, n, b, ws, s⟩ = ⟨(letL ⟨k, a, n, b, ws, s⟩).toArray⟩ := if_pos hB
    rw [HS]
    simp only at hk
    rcases hk with rfl | rfl | rfl | rfl | rfl | rfl
    · exact implText1 ao ca a n b ws s w hu hs hB
    · exact implText2 ao ca a n b ws s w hu hs hB
    · exact implText3 ao ca a n b ws s w hu hs hB
    · exact implText4 ao ca a n b ws s w hu hs hB
    · exact implText5 ao ca a n b ws s w hu hs hB
    · exact implText6 ao ca a n b ws s w hu hs hB
end Go.Proofs.Ytphjlecbhbcbcaa
