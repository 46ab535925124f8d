/- spec.ReadLetter. Condition: the text is no longer than the laws allow. (Printed by mk_letr.py.) -/
import Derived.Test.YtphjlecbhbcbcaaLetP
import Derived.Test.YtphjlecbhbcbcaaPar
import Derived.Deep.RegionLaw
import Derived.Deep.RegionHeld3
import Derived.BigRegion
namespace Go.Proofs.Ytphjlecbhbcbcaa
open Go.RowKit
set_option linter.unusedVariables false
set_option linter.unusedSimpArgs false
set_option maxHeartbeats 8000000 in
set_option maxRecDepth 100000 in
theorem specRd0 (s : ByteArray) (w : World) (hs : s.size ≤ 1048576) (k : Int) (a1 : Nat) (b1 : Bool) (q1 : scByte s ⟨0, false⟩ = (k, ⟨a1, b1⟩)) (hk : k ≠ 1 ∧ k ≠ 2 ∧ k ≠ 3 ∧ k ≠ 5 ∧ k ≠ 6) :
    Calls Try.prog 39 #[.string s] w fun e w' => ∃ ao0 cap0, e = .returned (.tuple #[.agg #[.int .i64 (rdL s).f0, .int .i64 (rdL s).f1, .int .i64 (rdL s).f2, .bool (rdL s).f3, .slice ao0 (rdL s).f4.length cap0, .string (rdL s).f5], .bool (rdB s)]) ∧ LetterW w' w.heap.size w'.heap.size (.agg #[.int .i64 (rdL s).f0, .int .i64 (rdL s).f1, .int .i64 (rdL s).f2, .bool (rdL s).f3, .slice ao0 (rdL s).f4.length cap0, .string (rdL s).f5]) (rdL s) ∧ Fr w w' := by
  have ha1 := scByte_le (s := s) (c := ⟨0, false⟩) (Nat.zero_le _)
  rw [q1] at ha1
  simp only [] at ha1
  have C0 : Hid (∀ b w', Box w' b #[.string s, .int .i64 0, .bool false] 138 → Calls Try.prog 104 #[.pointer (some ⟨b, 0, none⟩)] w' fun e w'' => e = .returned (.int .i64 k) ∧ Box w'' b #[.string s, .int .i64 (a1 : Int), .bool b1] 138 ∧ Span b (b + 1) w' w'') := Lib.hid fun b w' hb => by have := l03Byte_any b 0 false s w' hb (by omega); rw [q1] at this; exact this
  have HPQ := lrP_0 (F := 70) q1 hk
  have g1 : (k == 1) = false := by simp; omega
  have g2 : (k == 2) = false := by simp; omega
  have g3 : (k == 3) = false := by simp; omega
  have g5 : (k == 5) = false := by simp; omega
  have g6 : (k == 6) = false := by simp; omega
  clear hk
  have HRL : Hid (rdL s = lrX s (lrP 70 s)) := Lib.hid (rdL_70 s).symm
  have HRB : Hid (rdB s = lrQ s (lrP 70 s)) := Lib.hid (rdB_70 s).symm
  rw [HPQ] at HRL HRB
  clear HPQ q1
  go_enter Try.func39, Try.ntmps39
  go_wp2_with fail
  refine (C0.out _ _ (Box.new' (by simp))).mono ?_
  rintro e w1 ⟨rfl, BC, sp1⟩
  have z1 := sp1.size; (try simp only [World.size_alloc] at z1)
  have BR : Box w1 w.heap.size #[.int .i64 0, .int .i64 0, .int .i64 0, .bool false, .slice none 0 0, .string ⟨#[]⟩] 38 := ((Box.new _ _ _).alloc _).span sp1 (.inl (by omega))
  have hf1 : Fr w w1 := Span.fr (show Fr w _ by repeat (first | (with_reducible exact Fr.refl _) | (with_reducible assumption) | (with_reducible refine Fr.drewN ?_ _) | (with_reducible refine Fr.drew ?_) | (with_reducible refine Fr.alloc ?_ _) | (with_reducible refine Fr.setCell ?_ (by (first | (with_reducible assumption) | omega | (simp only [World.size_alloc, World.size_setCell, World.size_drew, World.heap_drewN]; omega) | (simp; done) | (simp; omega))) _) | (with_reducible refine Fr.trans ?_ (by with_reducible assumption)))) sp1 (by omega)
  obtain ⟨hx, hhx⟩ : ∃ hx, w1.heap.size = hx := ⟨_, rfl⟩
  have BX : Box (w1.alloc (.cells #[.int .i64 k, .int .i64 0, .int .i64 0, .bool false, .slice none 0 0, .string ⟨#[]⟩] 38)) hx #[.int .i64 k, .int .i64 0, .int .i64 0, .bool false, .slice none 0 0, .string ⟨#[]⟩] 38 := Box.new' hhx.symm
  have BR0 := BR
  have BC0 := BC
  have BR := BR.alloc (.cells #[.int .i64 k, .int .i64 0, .int .i64 0, .bool false, .slice none 0 0, .string ⟨#[]⟩] 38)
  have BC := BC.alloc (.cells #[.int .i64 k, .int .i64 0, .int .i64 0, .bool false, .slice none 0 0, .string ⟨#[]⟩] 38)
  rw [hhx] at z1
  have hxb : w.heap.size + 1 < hx := by omega
  have hf2 : Fr w (w1.alloc (.cells #[.int .i64 k, .int .i64 0, .int .i64 0, .bool false, .slice none 0 0, .string ⟨#[]⟩] 38)) := by repeat (first | (with_reducible exact Fr.refl _) | (with_reducible assumption) | (with_reducible refine Fr.drewN ?_ _) | (with_reducible refine Fr.drew ?_) | (with_reducible refine Fr.alloc ?_ _) | (with_reducible refine Fr.setCell ?_ (by (first | (with_reducible assumption) | omega | (simp only [World.size_alloc, World.size_setCell, World.size_drew, World.heap_drewN]; omega) | (simp; done) | (simp; omega))) _) | (with_reducible refine Fr.trans ?_ (by with_reducible assumption)))
  have FC := BC.facts
  have FX := BX.facts
  have FR0 := BR.facts
  cases b1
  · skip
    have CT : Hid (∀ w', Fr (w1.alloc (.cells #[.int .i64 k, .int .i64 0, .int .i64 0, .bool false, .slice none 0 0, .string ⟨#[]⟩] 38)) w' → Calls Try.prog 37 #[.agg #[.int .i64 k, .int .i64 0, .int .i64 0, .bool false, .slice none 0 0, .string ⟨#[]⟩]] w' fun e w'' => e = .returned (.tuple #[.string (letS ⟨k, 0, 0, false, [], ⟨#[]⟩⟩), .bool (letB ⟨k, 0, 0, false, [], ⟨#[]⟩⟩)]) ∧ Fr w' w'') := Lib.hid fun w' hf => specLetterText_any _ ⟨k, 0, 0, false, [], ⟨#[]⟩⟩ w' ⟨_, rfl, RdS.fr (OwW.rd (OwW.nil w 0 0 97 4)) (Fr.trans (by repeat (first | (with_reducible exact Fr.refl _) | (with_reducible assumption) | (with_reducible refine Fr.drewN ?_ _) | (with_reducible refine Fr.drew ?_) | (with_reducible refine Fr.alloc ?_ _) | (with_reducible refine Fr.setCell ?_ (by (first | (with_reducible assumption) | omega | (simp only [World.size_alloc, World.size_setCell, World.size_drew, World.heap_drewN]; omega) | (simp; done) | (simp; omega))) _) | (with_reducible refine Fr.trans ?_ (by with_reducible assumption)))) hf)⟩ (by show ByteArray.size _ ≤ _; show (0 : Nat) ≤ 1048576; omega)
    obtain ⟨lt, hlt⟩ : ∃ lt, letS ⟨k, 0, 0, false, [], ⟨#[]⟩⟩ = lt := ⟨_, rfl⟩
    obtain ⟨lb, hlb⟩ : ∃ lb, letB ⟨k, 0, 0, false, [], ⟨#[]⟩⟩ = lb := ⟨_, rfl⟩
    rw [hlt, hlb] at CT
    have HLT := Lib.hid hlt
    have HLB := Lib.hid hlb
    clear hlt hlb
    cases lb
    · have HF : Hid (lrQ s (⟨k, 0, 0, false, [], ⟨#[]⟩⟩, ⟨a1, false⟩) = false) := Lib.hid (lrQ_no HLB.out)
      go_wp2_with fail
      refine (CT.out _ (by repeat (first | (with_reducible exact Fr.refl _) | (with_reducible assumption) | (with_reducible refine Fr.drewN ?_ _) | (with_reducible refine Fr.drew ?_) | (with_reducible refine Fr.alloc ?_ _) | (with_reducible refine Fr.setCell ?_ (by (first | (with_reducible assumption) | omega | (simp only [World.size_alloc, World.size_setCell, World.size_drew, World.heap_drewN]; omega) | (simp; done) | (simp; omega))) _) | (with_reducible refine Fr.trans ?_ (by with_reducible assumption))))).mono ?_
      rintro e w9 ⟨rfl, hf9⟩
      have FC9 := (BC.fr (Fr.trans (by repeat (first | (with_reducible exact Fr.refl _) | (with_reducible assumption) | (with_reducible refine Fr.drewN ?_ _) | (with_reducible refine Fr.drew ?_) | (with_reducible refine Fr.alloc ?_ _) | (with_reducible refine Fr.setCell ?_ (by (first | (with_reducible assumption) | omega | (simp only [World.size_alloc, World.size_setCell, World.size_drew, World.heap_drewN]; omega) | (simp; done) | (simp; omega))) _) | (with_reducible refine Fr.trans ?_ (by with_reducible assumption)))) hf9)).facts
      have FX9 := (BX.fr (Fr.trans (by repeat (first | (with_reducible exact Fr.refl _) | (with_reducible assumption) | (with_reducible refine Fr.drewN ?_ _) | (with_reducible refine Fr.drew ?_) | (with_reducible refine Fr.alloc ?_ _) | (with_reducible refine Fr.setCell ?_ (by (first | (with_reducible assumption) | omega | (simp only [World.size_alloc, World.size_setCell, World.size_drew, World.heap_drewN]; omega) | (simp; done) | (simp; omega))) _) | (with_reducible refine Fr.trans ?_ (by with_reducible assumption)))) hf9)).facts
      have BR9 := BR.fr (Fr.trans (by repeat (first | (with_reducible exact Fr.refl _) | (with_reducible assumption) | (with_reducible refine Fr.drewN ?_ _) | (with_reducible refine Fr.drew ?_) | (with_reducible refine Fr.alloc ?_ _) | (with_reducible refine Fr.setCell ?_ (by (first | (with_reducible assumption) | omega | (simp only [World.size_alloc, World.size_setCell, World.size_drew, World.heap_drewN]; omega) | (simp; done) | (simp; omega))) _) | (with_reducible refine Fr.trans ?_ (by with_reducible assumption)))) hf9)
      have FR9 := BR9.facts
      clear FC FX FR0
      go_wp2_with fail
      rw [HRL.out, HRB.out, HF.out, lrX_no HF.out]
      refine bodyPost_ret (v := .tuple #[.agg #[.int .i64 0, .int .i64 0, .int .i64 0, .bool false, .slice none 0 0, .string ⟨#[]⟩], .bool false]) (by simp [results, Try.results39, go_sem, *]) rfl ⟨none, 0, rfl, ⟨none, 0, rfl, OwW.nil _ _ _ _ _⟩, by repeat (first | (with_reducible exact Fr.refl _) | (with_reducible assumption) | (with_reducible refine Fr.drewN ?_ _) | (with_reducible refine Fr.drew ?_) | (with_reducible refine Fr.alloc ?_ _) | (with_reducible refine Fr.setCell ?_ (by (first | (with_reducible assumption) | omega | (simp only [World.size_alloc, World.size_setCell, World.size_drew, World.heap_drewN]; omega) | (simp; done) | (simp; omega))) _) | (with_reducible refine Fr.trans ?_ (by with_reducible assumption)))⟩
    · by_cases he : lt = s
      · have HF : Hid (lrQ s (⟨k, 0, 0, false, [], ⟨#[]⟩⟩, ⟨a1, false⟩) = true) := Lib.hid (lrQ_ok HLB.out (HLT.out.trans he))
        have hq := bytes_beq he
        clear he
        go_wp2_with fail
        refine (CT.out _ (by repeat (first | (with_reducible exact Fr.refl _) | (with_reducible assumption) | (with_reducible refine Fr.drewN ?_ _) | (with_reducible refine Fr.drew ?_) | (with_reducible refine Fr.alloc ?_ _) | (with_reducible refine Fr.setCell ?_ (by (first | (with_reducible assumption) | omega | (simp only [World.size_alloc, World.size_setCell, World.size_drew, World.heap_drewN]; omega) | (simp; done) | (simp; omega))) _) | (with_reducible refine Fr.trans ?_ (by with_reducible assumption))))).mono ?_
        rintro e w9 ⟨rfl, hf9⟩
        have FC9 := (BC.fr (Fr.trans (by repeat (first | (with_reducible exact Fr.refl _) | (with_reducible assumption) | (with_reducible refine Fr.drewN ?_ _) | (with_reducible refine Fr.drew ?_) | (with_reducible refine Fr.alloc ?_ _) | (with_reducible refine Fr.setCell ?_ (by (first | (with_reducible assumption) | omega | (simp only [World.size_alloc, World.size_setCell, World.size_drew, World.heap_drewN]; omega) | (simp; done) | (simp; omega))) _) | (with_reducible refine Fr.trans ?_ (by with_reducible assumption)))) hf9)).facts
        have FX9 := (BX.fr (Fr.trans (by repeat (first | (with_reducible exact Fr.refl _) | (with_reducible assumption) | (with_reducible refine Fr.drewN ?_ _) | (with_reducible refine Fr.drew ?_) | (with_reducible refine Fr.alloc ?_ _) | (with_reducible refine Fr.setCell ?_ (by (first | (with_reducible assumption) | omega | (simp only [World.size_alloc, World.size_setCell, World.size_drew, World.heap_drewN]; omega) | (simp; done) | (simp; omega))) _) | (with_reducible refine Fr.trans ?_ (by with_reducible assumption)))) hf9)).facts
        have BR9 := BR.fr (Fr.trans (by repeat (first | (with_reducible exact Fr.refl _) | (with_reducible assumption) | (with_reducible refine Fr.drewN ?_ _) | (with_reducible refine Fr.drew ?_) | (with_reducible refine Fr.alloc ?_ _) | (with_reducible refine Fr.setCell ?_ (by (first | (with_reducible assumption) | omega | (simp only [World.size_alloc, World.size_setCell, World.size_drew, World.heap_drewN]; omega) | (simp; done) | (simp; omega))) _) | (with_reducible refine Fr.trans ?_ (by with_reducible assumption)))) hf9)
        have FR9 := BR9.facts
        clear FC FX FR0
        go_wp2_with fail
        rw [HRL.out, HRB.out, HF.out, lrX_ok HF.out]
        refine bodyPost_ret (v := .tuple #[.agg #[.int .i64 k, .int .i64 0, .int .i64 0, .bool false, .slice none 0 0, .string ⟨#[]⟩], .bool true]) (by simp [results, Try.results39, go_sem, *]) rfl ⟨_, _, rfl, ⟨_, _, rfl, ?_⟩, by repeat (first | (with_reducible exact Fr.refl _) | (with_reducible assumption) | (with_reducible refine Fr.drewN ?_ _) | (with_reducible refine Fr.drew ?_) | (with_reducible refine Fr.alloc ?_ _) | (with_reducible refine Fr.setCell ?_ (by (first | (with_reducible assumption) | omega | (simp only [World.size_alloc, World.size_setCell, World.size_drew, World.heap_drewN]; omega) | (simp; done) | (simp; omega))) _) | (with_reducible refine Fr.trans ?_ (by with_reducible assumption)))⟩
        exact OwW.nil _ _ _ _ _
      · have HF : Hid (lrQ s (⟨k, 0, 0, false, [], ⟨#[]⟩⟩, ⟨a1, false⟩) = false) := Lib.hid (lrQ_ne (fun h => he (HLT.out.symm.trans h)))
        have hq := bytes_bne he
        clear he
        go_wp2_with fail
        refine (CT.out _ (by repeat (first | (with_reducible exact Fr.refl _) | (with_reducible assumption) | (with_reducible refine Fr.drewN ?_ _) | (with_reducible refine Fr.drew ?_) | (with_reducible refine Fr.alloc ?_ _) | (with_reducible refine Fr.setCell ?_ (by (first | (with_reducible assumption) | omega | (simp only [World.size_alloc, World.size_setCell, World.size_drew, World.heap_drewN]; omega) | (simp; done) | (simp; omega))) _) | (with_reducible refine Fr.trans ?_ (by with_reducible assumption))))).mono ?_
        rintro e w9 ⟨rfl, hf9⟩
        have FC9 := (BC.fr (Fr.trans (by repeat (first | (with_reducible exact Fr.refl _) | (with_reducible assumption) | (with_reducible refine Fr.drewN ?_ _) | (with_reducible refine Fr.drew ?_) | (with_reducible refine Fr.alloc ?_ _) | (with_reducible refine Fr.setCell ?_ (by (first | (with_reducible assumption) | omega | (simp only [World.size_alloc, World.size_setCell, World.size_drew, World.heap_drewN]; omega) | (simp; done) | (simp; omega))) _) | (with_reducible refine Fr.trans ?_ (by with_reducible assumption)))) hf9)).facts
        have FX9 := (BX.fr (Fr.trans (by repeat (first | (with_reducible exact Fr.refl _) | (with_reducible assumption) | (with_reducible refine Fr.drewN ?_ _) | (with_reducible refine Fr.drew ?_) | (with_reducible refine Fr.alloc ?_ _) | (with_reducible refine Fr.setCell ?_ (by (first | (with_reducible assumption) | omega | (simp only [World.size_alloc, World.size_setCell, World.size_drew, World.heap_drewN]; omega) | (simp; done) | (simp; omega))) _) | (with_reducible refine Fr.trans ?_ (by with_reducible assumption)))) hf9)).facts
        have BR9 := BR.fr (Fr.trans (by repeat (first | (with_reducible exact Fr.refl _) | (with_reducible assumption) | (with_reducible refine Fr.drewN ?_ _) | (with_reducible refine Fr.drew ?_) | (with_reducible refine Fr.alloc ?_ _) | (with_reducible refine Fr.setCell ?_ (by (first | (with_reducible assumption) | omega | (simp only [World.size_alloc, World.size_setCell, World.size_drew, World.heap_drewN]; omega) | (simp; done) | (simp; omega))) _) | (with_reducible refine Fr.trans ?_ (by with_reducible assumption)))) hf9)
        have FR9 := BR9.facts
        clear FC FX FR0
        go_wp2_with fail
        rw [HRL.out, HRB.out, HF.out, lrX_no HF.out]
        refine bodyPost_ret (v := .tuple #[.agg #[.int .i64 0, .int .i64 0, .int .i64 0, .bool false, .slice none 0 0, .string ⟨#[]⟩], .bool false]) (by simp [results, Try.results39, go_sem, *]) rfl ⟨none, 0, rfl, ⟨none, 0, rfl, OwW.nil _ _ _ _ _⟩, by repeat (first | (with_reducible exact Fr.refl _) | (with_reducible assumption) | (with_reducible refine Fr.drewN ?_ _) | (with_reducible refine Fr.drew ?_) | (with_reducible refine Fr.alloc ?_ _) | (with_reducible refine Fr.setCell ?_ (by (first | (with_reducible assumption) | omega | (simp only [World.size_alloc, World.size_setCell, World.size_drew, World.heap_drewN]; omega) | (simp; done) | (simp; omega))) _) | (with_reducible refine Fr.trans ?_ (by with_reducible assumption)))⟩
  · skip
    have HF : Hid (lrQ s (⟨k, 0, 0, false, [], ⟨#[]⟩⟩, ⟨a1, true⟩) = false) := Lib.hid lrQ_bad
    go_wp2_with fail
    rw [HRL.out, HRB.out, HF.out, lrX_no HF.out]
    refine bodyPost_ret (v := .tuple #[.agg #[.int .i64 0, .int .i64 0, .int .i64 0, .bool false, .slice none 0 0, .string ⟨#[]⟩], .bool false]) (by simp [results, Try.results39, go_sem, *]) rfl ⟨none, 0, rfl, ⟨none, 0, rfl, OwW.nil _ _ _ _ _⟩, by repeat (first | (with_reducible exact Fr.refl _) | (with_reducible assumption) | (with_reducible refine Fr.drewN ?_ _) | (with_reducible refine Fr.drew ?_) | (with_reducible refine Fr.alloc ?_ _) | (with_reducible refine Fr.setCell ?_ (by (first | (with_reducible assumption) | omega | (simp only [World.size_alloc, World.size_setCell, World.size_drew, World.heap_drewN]; omega) | (simp; done) | (simp; omega))) _) | (with_reducible refine Fr.trans ?_ (by with_reducible assumption)))⟩
set_option maxHeartbeats 8000000 in
set_option maxRecDepth 100000 in
theorem specRd1 (s : ByteArray) (w : World) (hs : s.size ≤ 1048576) (a1 : Nat) (b1 : Bool) (q1 : scByte s ⟨0, false⟩ = (1, ⟨a1, b1⟩)) :
    Calls Try.prog 39 #[.string s] w fun e w' => ∃ ao0 cap0, e = .returned (.tuple #[.agg #[.int .i64 (rdL s).f0, .int .i64 (rdL s).f1, .int .i64 (rdL s).f2, .bool (rdL s).f3, .slice ao0 (rdL s).f4.length cap0, .string (rdL s).f5], .bool (rdB s)]) ∧ LetterW w' w.heap.size w'.heap.size (.agg #[.int .i64 (rdL s).f0, .int .i64 (rdL s).f1, .int .i64 (rdL s).f2, .bool (rdL s).f3, .slice ao0 (rdL s).f4.length cap0, .string (rdL s).f5]) (rdL s) ∧ Fr w w' := by
  have ha1 := scByte_le (s := s) (c := ⟨0, false⟩) (Nat.zero_le _)
  rw [q1] at ha1
  simp only [] at ha1
  have C0 : Hid (∀ b w', Box w' b #[.string s, .int .i64 0, .bool false] 138 → Calls Try.prog 104 #[.pointer (some ⟨b, 0, none⟩)] w' fun e w'' => e = .returned (.int .i64 1) ∧ Box w'' b #[.string s, .int .i64 (a1 : Int), .bool b1] 138 ∧ Span b (b + 1) w' w'') := Lib.hid fun b w' hb => by have := l03Byte_any b 0 false s w' hb (by omega); rw [q1] at this; exact this
  have HPQ := lrP_1 (F := 70) q1
  have HRL : Hid (rdL s = lrX s (lrP 70 s)) := Lib.hid (rdL_70 s).symm
  have HRB : Hid (rdB s = lrQ s (lrP 70 s)) := Lib.hid (rdB_70 s).symm
  rw [HPQ] at HRL HRB
  clear HPQ q1
  go_enter Try.func39, Try.ntmps39
  go_wp2_with fail
  refine (C0.out _ _ (Box.new' (by simp))).mono ?_
  rintro e w1 ⟨rfl, BC, sp1⟩
  have z1 := sp1.size; (try simp only [World.size_alloc] at z1)
  have BR : Box w1 w.heap.size #[.int .i64 0, .int .i64 0, .int .i64 0, .bool false, .slice none 0 0, .string ⟨#[]⟩] 38 := ((Box.new _ _ _).alloc _).span sp1 (.inl (by omega))
  have hf1 : Fr w w1 := Span.fr (show Fr w _ by repeat (first | (with_reducible exact Fr.refl _) | (with_reducible assumption) | (with_reducible refine Fr.drewN ?_ _) | (with_reducible refine Fr.drew ?_) | (with_reducible refine Fr.alloc ?_ _) | (with_reducible refine Fr.setCell ?_ (by (first | (with_reducible assumption) | omega | (simp only [World.size_alloc, World.size_setCell, World.size_drew, World.heap_drewN]; omega) | (simp; done) | (simp; omega))) _) | (with_reducible refine Fr.trans ?_ (by with_reducible assumption)))) sp1 (by omega)
  obtain ⟨hx, hhx⟩ : ∃ hx, w1.heap.size = hx := ⟨_, rfl⟩
  have BX : Box (w1.alloc (.cells #[.int .i64 1, .int .i64 0, .int .i64 0, .bool false, .slice none 0 0, .string ⟨#[]⟩] 38)) hx #[.int .i64 1, .int .i64 0, .int .i64 0, .bool false, .slice none 0 0, .string ⟨#[]⟩] 38 := Box.new' hhx.symm
  have BR0 := BR
  have BC0 := BC
  have BR := BR.alloc (.cells #[.int .i64 1, .int .i64 0, .int .i64 0, .bool false, .slice none 0 0, .string ⟨#[]⟩] 38)
  have BC := BC.alloc (.cells #[.int .i64 1, .int .i64 0, .int .i64 0, .bool false, .slice none 0 0, .string ⟨#[]⟩] 38)
  rw [hhx] at z1
  have hxb : w.heap.size + 1 < hx := by omega
  have hf2 : Fr w (w1.alloc (.cells #[.int .i64 1, .int .i64 0, .int .i64 0, .bool false, .slice none 0 0, .string ⟨#[]⟩] 38)) := by repeat (first | (with_reducible exact Fr.refl _) | (with_reducible assumption) | (with_reducible refine Fr.drewN ?_ _) | (with_reducible refine Fr.drew ?_) | (with_reducible refine Fr.alloc ?_ _) | (with_reducible refine Fr.setCell ?_ (by (first | (with_reducible assumption) | omega | (simp only [World.size_alloc, World.size_setCell, World.size_drew, World.heap_drewN]; omega) | (simp; done) | (simp; omega))) _) | (with_reducible refine Fr.trans ?_ (by with_reducible assumption)))
  have FC := BC.facts
  have FX := BX.facts
  have FR0 := BR.facts
  cases b1
  · skip
    have HT : Hid (restT s ⟨a1, false⟩ = s.extract a1 s.size) := Lib.hid rfl
    have hts : (s.extract a1 s.size).size ≤ s.size := by simp
    rw [HT.out] at HRL HRB
    have BC := BC0.alloc (.cells #[.int .i64 1, .int .i64 0, .int .i64 0, .bool false, .slice none 0 0, .string (s.extract a1 s.size)] 38)
    have BR := BR0.alloc (.cells #[.int .i64 1, .int .i64 0, .int .i64 0, .bool false, .slice none 0 0, .string (s.extract a1 s.size)] 38)
    have BX : Box (w1.alloc (.cells #[.int .i64 1, .int .i64 0, .int .i64 0, .bool false, .slice none 0 0, .string (s.extract a1 s.size)] 38)) hx #[.int .i64 1, .int .i64 0, .int .i64 0, .bool false, .slice none 0 0, .string (s.extract a1 s.size)] 38 := Box.new' hhx.symm
    have hf8 : Fr w (w1.alloc (.cells #[.int .i64 1, .int .i64 0, .int .i64 0, .bool false, .slice none 0 0, .string (s.extract a1 s.size)] 38)) := by repeat (first | (with_reducible exact Fr.refl _) | (with_reducible assumption) | (with_reducible refine Fr.drewN ?_ _) | (with_reducible refine Fr.drew ?_) | (with_reducible refine Fr.alloc ?_ _) | (with_reducible refine Fr.setCell ?_ (by (first | (with_reducible assumption) | omega | (simp only [World.size_alloc, World.size_setCell, World.size_drew, World.heap_drewN]; omega) | (simp; done) | (simp; omega))) _) | (with_reducible refine Fr.trans ?_ (by with_reducible assumption)))
    have hsa : (a1 : Int) ≤ (s.size : Int) := by omega
    have CT : Hid (∀ w', Fr (w1.alloc (.cells #[.int .i64 1, .int .i64 0, .int .i64 0, .bool false, .slice none 0 0, .string (s.extract a1 s.size)] 38)) w' → Calls Try.prog 37 #[.agg #[.int .i64 1, .int .i64 0, .int .i64 0, .bool false, .slice none 0 0, .string (s.extract a1 s.size)]] w' fun e w'' => e = .returned (.tuple #[.string (letS ⟨1, 0, 0, false, [], (s.extract a1 s.size)⟩), .bool (letB ⟨1, 0, 0, false, [], (s.extract a1 s.size)⟩)]) ∧ Fr w' w'') := Lib.hid fun w' hf => specLetterText_any _ ⟨1, 0, 0, false, [], (s.extract a1 s.size)⟩ w' ⟨_, rfl, RdS.fr (OwW.rd (OwW.nil w 0 0 97 4)) (Fr.trans (by repeat (first | (with_reducible exact Fr.refl _) | (with_reducible assumption) | (with_reducible refine Fr.drewN ?_ _) | (with_reducible refine Fr.drew ?_) | (with_reducible refine Fr.alloc ?_ _) | (with_reducible refine Fr.setCell ?_ (by (first | (with_reducible assumption) | omega | (simp only [World.size_alloc, World.size_setCell, World.size_drew, World.heap_drewN]; omega) | (simp; done) | (simp; omega))) _) | (with_reducible refine Fr.trans ?_ (by with_reducible assumption)))) hf)⟩ (by show ByteArray.size _ ≤ _; have := hts; show (s.extract a1 s.size).size ≤ 1048576; omega)
    obtain ⟨lt, hlt⟩ : ∃ lt, letS ⟨1, 0, 0, false, [], (s.extract a1 s.size)⟩ = lt := ⟨_, rfl⟩
    obtain ⟨lb, hlb⟩ : ∃ lb, letB ⟨1, 0, 0, false, [], (s.extract a1 s.size)⟩ = lb := ⟨_, rfl⟩
    rw [hlt, hlb] at CT
    have HLT := Lib.hid hlt
    have HLB := Lib.hid hlb
    clear hlt hlb
    cases lb
    · have HF : Hid (lrQ s (⟨1, 0, 0, false, [], (s.extract a1 s.size)⟩, ⟨a1, false⟩) = false) := Lib.hid (lrQ_no HLB.out)
      go_wp2_with fail
      refine (CT.out _ (by repeat (first | (with_reducible exact Fr.refl _) | (with_reducible assumption) | (with_reducible refine Fr.drewN ?_ _) | (with_reducible refine Fr.drew ?_) | (with_reducible refine Fr.alloc ?_ _) | (with_reducible refine Fr.setCell ?_ (by (first | (with_reducible assumption) | omega | (simp only [World.size_alloc, World.size_setCell, World.size_drew, World.heap_drewN]; omega) | (simp; done) | (simp; omega))) _) | (with_reducible refine Fr.trans ?_ (by with_reducible assumption))))).mono ?_
      rintro e w9 ⟨rfl, hf9⟩
      have FC9 := (BC.fr (Fr.trans (by repeat (first | (with_reducible exact Fr.refl _) | (with_reducible assumption) | (with_reducible refine Fr.drewN ?_ _) | (with_reducible refine Fr.drew ?_) | (with_reducible refine Fr.alloc ?_ _) | (with_reducible refine Fr.setCell ?_ (by (first | (with_reducible assumption) | omega | (simp only [World.size_alloc, World.size_setCell, World.size_drew, World.heap_drewN]; omega) | (simp; done) | (simp; omega))) _) | (with_reducible refine Fr.trans ?_ (by with_reducible assumption)))) hf9)).facts
      have FX9 := (BX.fr (Fr.trans (by repeat (first | (with_reducible exact Fr.refl _) | (with_reducible assumption) | (with_reducible refine Fr.drewN ?_ _) | (with_reducible refine Fr.drew ?_) | (with_reducible refine Fr.alloc ?_ _) | (with_reducible refine Fr.setCell ?_ (by (first | (with_reducible assumption) | omega | (simp only [World.size_alloc, World.size_setCell, World.size_drew, World.heap_drewN]; omega) | (simp; done) | (simp; omega))) _) | (with_reducible refine Fr.trans ?_ (by with_reducible assumption)))) hf9)).facts
      have BR9 := BR.fr (Fr.trans (by repeat (first | (with_reducible exact Fr.refl _) | (with_reducible assumption) | (with_reducible refine Fr.drewN ?_ _) | (with_reducible refine Fr.drew ?_) | (with_reducible refine Fr.alloc ?_ _) | (with_reducible refine Fr.setCell ?_ (by (first | (with_reducible assumption) | omega | (simp only [World.size_alloc, World.size_setCell, World.size_drew, World.heap_drewN]; omega) | (simp; done) | (simp; omega))) _) | (with_reducible refine Fr.trans ?_ (by with_reducible assumption)))) hf9)
      have FR9 := BR9.facts
      clear FC FX FR0
      go_wp2_with fail
      rw [HRL.out, HRB.out, HF.out, lrX_no HF.out]
      refine bodyPost_ret (v := .tuple #[.agg #[.int .i64 0, .int .i64 0, .int .i64 0, .bool false, .slice none 0 0, .string ⟨#[]⟩], .bool false]) (by simp [results, Try.results39, go_sem, *]) rfl ⟨none, 0, rfl, ⟨none, 0, rfl, OwW.nil _ _ _ _ _⟩, by repeat (first | (with_reducible exact Fr.refl _) | (with_reducible assumption) | (with_reducible refine Fr.drewN ?_ _) | (with_reducible refine Fr.drew ?_) | (with_reducible refine Fr.alloc ?_ _) | (with_reducible refine Fr.setCell ?_ (by (first | (with_reducible assumption) | omega | (simp only [World.size_alloc, World.size_setCell, World.size_drew, World.heap_drewN]; omega) | (simp; done) | (simp; omega))) _) | (with_reducible refine Fr.trans ?_ (by with_reducible assumption)))⟩
    · by_cases he : lt = s
      · have HF : Hid (lrQ s (⟨1, 0, 0, false, [], (s.extract a1 s.size)⟩, ⟨a1, false⟩) = true) := Lib.hid (lrQ_ok HLB.out (HLT.out.trans he))
        have hq := bytes_beq he
        clear he
        go_wp2_with fail
        refine (CT.out _ (by repeat (first | (with_reducible exact Fr.refl _) | (with_reducible assumption) | (with_reducible refine Fr.drewN ?_ _) | (with_reducible refine Fr.drew ?_) | (with_reducible refine Fr.alloc ?_ _) | (with_reducible refine Fr.setCell ?_ (by (first | (with_reducible assumption) | omega | (simp only [World.size_alloc, World.size_setCell, World.size_drew, World.heap_drewN]; omega) | (simp; done) | (simp; omega))) _) | (with_reducible refine Fr.trans ?_ (by with_reducible assumption))))).mono ?_
        rintro e w9 ⟨rfl, hf9⟩
        have FC9 := (BC.fr (Fr.trans (by repeat (first | (with_reducible exact Fr.refl _) | (with_reducible assumption) | (with_reducible refine Fr.drewN ?_ _) | (with_reducible refine Fr.drew ?_) | (with_reducible refine Fr.alloc ?_ _) | (with_reducible refine Fr.setCell ?_ (by (first | (with_reducible assumption) | omega | (simp only [World.size_alloc, World.size_setCell, World.size_drew, World.heap_drewN]; omega) | (simp; done) | (simp; omega))) _) | (with_reducible refine Fr.trans ?_ (by with_reducible assumption)))) hf9)).facts
        have FX9 := (BX.fr (Fr.trans (by repeat (first | (with_reducible exact Fr.refl _) | (with_reducible assumption) | (with_reducible refine Fr.drewN ?_ _) | (with_reducible refine Fr.drew ?_) | (with_reducible refine Fr.alloc ?_ _) | (with_reducible refine Fr.setCell ?_ (by (first | (with_reducible assumption) | omega | (simp only [World.size_alloc, World.size_setCell, World.size_drew, World.heap_drewN]; omega) | (simp; done) | (simp; omega))) _) | (with_reducible refine Fr.trans ?_ (by with_reducible assumption)))) hf9)).facts
        have BR9 := BR.fr (Fr.trans (by repeat (first | (with_reducible exact Fr.refl _) | (with_reducible assumption) | (with_reducible refine Fr.drewN ?_ _) | (with_reducible refine Fr.drew ?_) | (with_reducible refine Fr.alloc ?_ _) | (with_reducible refine Fr.setCell ?_ (by (first | (with_reducible assumption) | omega | (simp only [World.size_alloc, World.size_setCell, World.size_drew, World.heap_drewN]; omega) | (simp; done) | (simp; omega))) _) | (with_reducible refine Fr.trans ?_ (by with_reducible assumption)))) hf9)
        have FR9 := BR9.facts
        clear FC FX FR0
        go_wp2_with fail
        rw [HRL.out, HRB.out, HF.out, lrX_ok HF.out]
        refine bodyPost_ret (v := .tuple #[.agg #[.int .i64 1, .int .i64 0, .int .i64 0, .bool false, .slice none 0 0, .string (s.extract a1 s.size)], .bool true]) (by simp [results, Try.results39, go_sem, *]) rfl ⟨_, _, rfl, ⟨_, _, rfl, ?_⟩, by repeat (first | (with_reducible exact Fr.refl _) | (with_reducible assumption) | (with_reducible refine Fr.drewN ?_ _) | (with_reducible refine Fr.drew ?_) | (with_reducible refine Fr.alloc ?_ _) | (with_reducible refine Fr.setCell ?_ (by (first | (with_reducible assumption) | omega | (simp only [World.size_alloc, World.size_setCell, World.size_drew, World.heap_drewN]; omega) | (simp; done) | (simp; omega))) _) | (with_reducible refine Fr.trans ?_ (by with_reducible assumption)))⟩
        exact OwW.nil _ _ _ _ _
      · have HF : Hid (lrQ s (⟨1, 0, 0, false, [], (s.extract a1 s.size)⟩, ⟨a1, false⟩) = false) := Lib.hid (lrQ_ne (fun h => he (HLT.out.symm.trans h)))
        have hq := bytes_bne he
        clear he
        go_wp2_with fail
        refine (CT.out _ (by repeat (first | (with_reducible exact Fr.refl _) | (with_reducible assumption) | (with_reducible refine Fr.drewN ?_ _) | (with_reducible refine Fr.drew ?_) | (with_reducible refine Fr.alloc ?_ _) | (with_reducible refine Fr.setCell ?_ (by (first | (with_reducible assumption) | omega | (simp only [World.size_alloc, World.size_setCell, World.size_drew, World.heap_drewN]; omega) | (simp; done) | (simp; omega))) _) | (with_reducible refine Fr.trans ?_ (by with_reducible assumption))))).mono ?_
        rintro e w9 ⟨rfl, hf9⟩
        have FC9 := (BC.fr (Fr.trans (by repeat (first | (with_reducible exact Fr.refl _) | (with_reducible assumption) | (with_reducible refine Fr.drewN ?_ _) | (with_reducible refine Fr.drew ?_) | (with_reducible refine Fr.alloc ?_ _) | (with_reducible refine Fr.setCell ?_ (by (first | (with_reducible assumption) | omega | (simp only [World.size_alloc, World.size_setCell, World.size_drew, World.heap_drewN]; omega) | (simp; done) | (simp; omega))) _) | (with_reducible refine Fr.trans ?_ (by with_reducible assumption)))) hf9)).facts
        have FX9 := (BX.fr (Fr.trans (by repeat (first | (with_reducible exact Fr.refl _) | (with_reducible assumption) | (with_reducible refine Fr.drewN ?_ _) | (with_reducible refine Fr.drew ?_) | (with_reducible refine Fr.alloc ?_ _) | (with_reducible refine Fr.setCell ?_ (by (first | (with_reducible assumption) | omega | (simp only [World.size_alloc, World.size_setCell, World.size_drew, World.heap_drewN]; omega) | (simp; done) | (simp; omega))) _) | (with_reducible refine Fr.trans ?_ (by with_reducible assumption)))) hf9)).facts
        have BR9 := BR.fr (Fr.trans (by repeat (first | (with_reducible exact Fr.refl _) | (with_reducible assumption) | (with_reducible refine Fr.drewN ?_ _) | (with_reducible refine Fr.drew ?_) | (with_reducible refine Fr.alloc ?_ _) | (with_reducible refine Fr.setCell ?_ (by (first | (with_reducible assumption) | omega | (simp only [World.size_alloc, World.size_setCell, World.size_drew, World.heap_drewN]; omega) | (simp; done) | (simp; omega))) _) | (with_reducible refine Fr.trans ?_ (by with_reducible assumption)))) hf9)
        have FR9 := BR9.facts
        clear FC FX FR0
        go_wp2_with fail
        rw [HRL.out, HRB.out, HF.out, lrX_no HF.out]
        refine bodyPost_ret (v := .tuple #[.agg #[.int .i64 0, .int .i64 0, .int .i64 0, .bool false, .slice none 0 0, .string ⟨#[]⟩], .bool false]) (by simp [results, Try.results39, go_sem, *]) rfl ⟨none, 0, rfl, ⟨none, 0, rfl, OwW.nil _ _ _ _ _⟩, by repeat (first | (with_reducible exact Fr.refl _) | (with_reducible assumption) | (with_reducible refine Fr.drewN ?_ _) | (with_reducible refine Fr.drew ?_) | (with_reducible refine Fr.alloc ?_ _) | (with_reducible refine Fr.setCell ?_ (by (first | (with_reducible assumption) | omega | (simp only [World.size_alloc, World.size_setCell, World.size_drew, World.heap_drewN]; omega) | (simp; done) | (simp; omega))) _) | (with_reducible refine Fr.trans ?_ (by with_reducible assumption)))⟩
  · skip
    have HF : Hid (lrQ s (⟨1, 0, 0, false, [], (restT s ⟨a1, true⟩)⟩, ⟨a1, true⟩) = false) := Lib.hid lrQ_bad
    go_wp2_with fail
    rw [HRL.out, HRB.out, HF.out, lrX_no HF.out]
    refine bodyPost_ret (v := .tuple #[.agg #[.int .i64 0, .int .i64 0, .int .i64 0, .bool false, .slice none 0 0, .string ⟨#[]⟩], .bool false]) (by simp [results, Try.results39, go_sem, *]) rfl ⟨none, 0, rfl, ⟨none, 0, rfl, OwW.nil _ _ _ _ _⟩, by repeat (first | (with_reducible exact Fr.refl _) | (with_reducible assumption) | (with_reducible refine Fr.drewN ?_ _) | (with_reducible refine Fr.drew ?_) | (with_reducible refine Fr.alloc ?_ _) | (with_reducible refine Fr.setCell ?_ (by (first | (with_reducible assumption) | omega | (simp only [World.size_alloc, World.size_setCell, World.size_drew, World.heap_drewN]; omega) | (simp; done) | (simp; omega))) _) | (with_reducible refine Fr.trans ?_ (by with_reducible assumption)))⟩
set_option maxHeartbeats 8000000 in
set_option maxRecDepth 100000 in
theorem specRd6 (s : ByteArray) (w : World) (hs : s.size ≤ 1048576) (a1 : Nat) (b1 : Bool) (q1 : scByte s ⟨0, false⟩ = (6, ⟨a1, b1⟩)) :
    Calls Try.prog 39 #[.string s] w fun e w' => ∃ ao0 cap0, e = .returned (.tuple #[.agg #[.int .i64 (rdL s).f0, .int .i64 (rdL s).f1, .int .i64 (rdL s).f2, .bool (rdL s).f3, .slice ao0 (rdL s).f4.length cap0, .string (rdL s).f5], .bool (rdB s)]) ∧ LetterW w' w.heap.size w'.heap.size (.agg #[.int .i64 (rdL s).f0, .int .i64 (rdL s).f1, .int .i64 (rdL s).f2, .bool (rdL s).f3, .slice ao0 (rdL s).f4.length cap0, .string (rdL s).f5]) (rdL s) ∧ Fr w w' := by
  have ha1 := scByte_le (s := s) (c := ⟨0, false⟩) (Nat.zero_le _)
  rw [q1] at ha1
  simp only [] at ha1
  have C0 : Hid (∀ b w', Box w' b #[.string s, .int .i64 0, .bool false] 138 → Calls Try.prog 104 #[.pointer (some ⟨b, 0, none⟩)] w' fun e w'' => e = .returned (.int .i64 6) ∧ Box w'' b #[.string s, .int .i64 (a1 : Int), .bool b1] 138 ∧ Span b (b + 1) w' w'') := Lib.hid fun b w' hb => by have := l03Byte_any b 0 false s w' hb (by omega); rw [q1] at this; exact this
  have HPQ := lrP_6 (F := 70) q1
  have HRL : Hid (rdL s = lrX s (lrP 70 s)) := Lib.hid (rdL_70 s).symm
  have HRB : Hid (rdB s = lrQ s (lrP 70 s)) := Lib.hid (rdB_70 s).symm
  rw [HPQ] at HRL HRB
  clear HPQ q1
  go_enter Try.func39, Try.ntmps39
  go_wp2_with fail
  refine (C0.out _ _ (Box.new' (by simp))).mono ?_
  rintro e w1 ⟨rfl, BC, sp1⟩
  have z1 := sp1.size; (try simp only [World.size_alloc] at z1)
  have BR : Box w1 w.heap.size #[.int .i64 0, .int .i64 0, .int .i64 0, .bool false, .slice none 0 0, .string ⟨#[]⟩] 38 := ((Box.new _ _ _).alloc _).span sp1 (.inl (by omega))
  have hf1 : Fr w w1 := Span.fr (show Fr w _ by repeat (first | (with_reducible exact Fr.refl _) | (with_reducible assumption) | (with_reducible refine Fr.drewN ?_ _) | (with_reducible refine Fr.drew ?_) | (with_reducible refine Fr.alloc ?_ _) | (with_reducible refine Fr.setCell ?_ (by (first | (with_reducible assumption) | omega | (simp only [World.size_alloc, World.size_setCell, World.size_drew, World.heap_drewN]; omega) | (simp; done) | (simp; omega))) _) | (with_reducible refine Fr.trans ?_ (by with_reducible assumption)))) sp1 (by omega)
  obtain ⟨hx, hhx⟩ : ∃ hx, w1.heap.size = hx := ⟨_, rfl⟩
  have BX : Box (w1.alloc (.cells #[.int .i64 6, .int .i64 0, .int .i64 0, .bool false, .slice none 0 0, .string ⟨#[]⟩] 38)) hx #[.int .i64 6, .int .i64 0, .int .i64 0, .bool false, .slice none 0 0, .string ⟨#[]⟩] 38 := Box.new' hhx.symm
  have BR0 := BR
  have BC0 := BC
  have BR := BR.alloc (.cells #[.int .i64 6, .int .i64 0, .int .i64 0, .bool false, .slice none 0 0, .string ⟨#[]⟩] 38)
  have BC := BC.alloc (.cells #[.int .i64 6, .int .i64 0, .int .i64 0, .bool false, .slice none 0 0, .string ⟨#[]⟩] 38)
  rw [hhx] at z1
  have hxb : w.heap.size + 1 < hx := by omega
  have hf2 : Fr w (w1.alloc (.cells #[.int .i64 6, .int .i64 0, .int .i64 0, .bool false, .slice none 0 0, .string ⟨#[]⟩] 38)) := by repeat (first | (with_reducible exact Fr.refl _) | (with_reducible assumption) | (with_reducible refine Fr.drewN ?_ _) | (with_reducible refine Fr.drew ?_) | (with_reducible refine Fr.alloc ?_ _) | (with_reducible refine Fr.setCell ?_ (by (first | (with_reducible assumption) | omega | (simp only [World.size_alloc, World.size_setCell, World.size_drew, World.heap_drewN]; omega) | (simp; done) | (simp; omega))) _) | (with_reducible refine Fr.trans ?_ (by with_reducible assumption)))
  have FC := BC.facts
  have FX := BX.facts
  have FR0 := BR.facts
  cases b1
  · skip
    have HT : Hid (restT s ⟨a1, false⟩ = s.extract a1 s.size) := Lib.hid rfl
    have hts : (s.extract a1 s.size).size ≤ s.size := by simp
    rw [HT.out] at HRL HRB
    have BC := BC0.alloc (.cells #[.int .i64 6, .int .i64 0, .int .i64 0, .bool false, .slice none 0 0, .string (s.extract a1 s.size)] 38)
    have BR := BR0.alloc (.cells #[.int .i64 6, .int .i64 0, .int .i64 0, .bool false, .slice none 0 0, .string (s.extract a1 s.size)] 38)
    have BX : Box (w1.alloc (.cells #[.int .i64 6, .int .i64 0, .int .i64 0, .bool false, .slice none 0 0, .string (s.extract a1 s.size)] 38)) hx #[.int .i64 6, .int .i64 0, .int .i64 0, .bool false, .slice none 0 0, .string (s.extract a1 s.size)] 38 := Box.new' hhx.symm
    have hf8 : Fr w (w1.alloc (.cells #[.int .i64 6, .int .i64 0, .int .i64 0, .bool false, .slice none 0 0, .string (s.extract a1 s.size)] 38)) := by repeat (first | (with_reducible exact Fr.refl _) | (with_reducible assumption) | (with_reducible refine Fr.drewN ?_ _) | (with_reducible refine Fr.drew ?_) | (with_reducible refine Fr.alloc ?_ _) | (with_reducible refine Fr.setCell ?_ (by (first | (with_reducible assumption) | omega | (simp only [World.size_alloc, World.size_setCell, World.size_drew, World.heap_drewN]; omega) | (simp; done) | (simp; omega))) _) | (with_reducible refine Fr.trans ?_ (by with_reducible assumption)))
    have hsa : (a1 : Int) ≤ (s.size : Int) := by omega
    have CT : Hid (∀ w', Fr (w1.alloc (.cells #[.int .i64 6, .int .i64 0, .int .i64 0, .bool false, .slice none 0 0, .string (s.extract a1 s.size)] 38)) w' → Calls Try.prog 37 #[.agg #[.int .i64 6, .int .i64 0, .int .i64 0, .bool false, .slice none 0 0, .string (s.extract a1 s.size)]] w' fun e w'' => e = .returned (.tuple #[.string (letS ⟨6, 0, 0, false, [], (s.extract a1 s.size)⟩), .bool (letB ⟨6, 0, 0, false, [], (s.extract a1 s.size)⟩)]) ∧ Fr w' w'') := Lib.hid fun w' hf => specLetterText_any _ ⟨6, 0, 0, false, [], (s.extract a1 s.size)⟩ w' ⟨_, rfl, RdS.fr (OwW.rd (OwW.nil w 0 0 97 4)) (Fr.trans (by repeat (first | (with_reducible exact Fr.refl _) | (with_reducible assumption) | (with_reducible refine Fr.drewN ?_ _) | (with_reducible refine Fr.drew ?_) | (with_reducible refine Fr.alloc ?_ _) | (with_reducible refine Fr.setCell ?_ (by (first | (with_reducible assumption) | omega | (simp only [World.size_alloc, World.size_setCell, World.size_drew, World.heap_drewN]; omega) | (simp; done) | (simp; omega))) _) | (with_reducible refine Fr.trans ?_ (by with_reducible assumption)))) hf)⟩ (by show ByteArray.size _ ≤ _; have := hts; show (s.extract a1 s.size).size ≤ 1048576; omega)
    obtain ⟨lt, hlt⟩ : ∃ lt, letS ⟨6, 0, 0, false, [], (s.extract a1 s.size)⟩ = lt := ⟨_, rfl⟩
    obtain ⟨lb, hlb⟩ : ∃ lb, letB ⟨6, 0, 0, false, [], (s.extract a1 s.size)⟩ = lb := ⟨_, rfl⟩
    rw [hlt, hlb] at CT
    have HLT := Lib.hid hlt
    have HLB := Lib.hid hlb
    clear hlt hlb
    cases lb
    · have HF : Hid (lrQ s (⟨6, 0, 0, false, [], (s.extract a1 s.size)⟩, ⟨a1, false⟩) = false) := Lib.hid (lrQ_no HLB.out)
      go_wp2_with fail
      refine (CT.out _ (by repeat (first | (with_reducible exact Fr.refl _) | (with_reducible assumption) | (with_reducible refine Fr.drewN ?_ _) | (with_reducible refine Fr.drew ?_) | (with_reducible refine Fr.alloc ?_ _) | (with_reducible refine Fr.setCell ?_ (by (first | (with_reducible assumption) | omega | (simp only [World.size_alloc, World.size_setCell, World.size_drew, World.heap_drewN]; omega) | (simp; done) | (simp; omega))) _) | (with_reducible refine Fr.trans ?_ (by with_reducible assumption))))).mono ?_
      rintro e w9 ⟨rfl, hf9⟩
      have FC9 := (BC.fr (Fr.trans (by repeat (first | (with_reducible exact Fr.refl _) | (with_reducible assumption) | (with_reducible refine Fr.drewN ?_ _) | (with_reducible refine Fr.drew ?_) | (with_reducible refine Fr.alloc ?_ _) | (with_reducible refine Fr.setCell ?_ (by (first | (with_reducible assumption) | omega | (simp only [World.size_alloc, World.size_setCell, World.size_drew, World.heap_drewN]; omega) | (simp; done) | (simp; omega))) _) | (with_reducible refine Fr.trans ?_ (by with_reducible assumption)))) hf9)).facts
      have FX9 := (BX.fr (Fr.trans (by repeat (first | (with_reducible exact Fr.refl _) | (with_reducible assumption) | (with_reducible refine Fr.drewN ?_ _) | (with_reducible refine Fr.drew ?_) | (with_reducible refine Fr.alloc ?_ _) | (with_reducible refine Fr.setCell ?_ (by (first | (with_reducible assumption) | omega | (simp only [World.size_alloc, World.size_setCell, World.size_drew, World.heap_drewN]; omega) | (simp; done) | (simp; omega))) _) | (with_reducible refine Fr.trans ?_ (by with_reducible assumption)))) hf9)).facts
      have BR9 := BR.fr (Fr.trans (by repeat (first | (with_reducible exact Fr.refl _) | (with_reducible assumption) | (with_reducible refine Fr.drewN ?_ _) | (with_reducible refine Fr.drew ?_) | (with_reducible refine Fr.alloc ?_ _) | (with_reducible refine Fr.setCell ?_ (by (first | (with_reducible assumption) | omega | (simp only [World.size_alloc, World.size_setCell, World.size_drew, World.heap_drewN]; omega) | (simp; done) | (simp; omega))) _) | (with_reducible refine Fr.trans ?_ (by with_reducible assumption)))) hf9)
      have FR9 := BR9.facts
      clear FC FX FR0
      go_wp2_with fail
      rw [HRL.out, HRB.out, HF.out, lrX_no HF.out]
      refine bodyPost_ret (v := .tuple #[.agg #[.int .i64 0, .int .i64 0, .int .i64 0, .bool false, .slice none 0 0, .string ⟨#[]⟩], .bool false]) (by simp [results, Try.results39, go_sem, *]) rfl ⟨none, 0, rfl, ⟨none, 0, rfl, OwW.nil _ _ _ _ _⟩, by repeat (first | (with_reducible exact Fr.refl _) | (with_reducible assumption) | (with_reducible refine Fr.drewN ?_ _) | (with_reducible refine Fr.drew ?_) | (with_reducible refine Fr.alloc ?_ _) | (with_reducible refine Fr.setCell ?_ (by (first | (with_reducible assumption) | omega | (simp only [World.size_alloc, World.size_setCell, World.size_drew, World.heap_drewN]; omega) | (simp; done) | (simp; omega))) _) | (with_reducible refine Fr.trans ?_ (by with_reducible assumption)))⟩
    · by_cases he : lt = s
      · have HF : Hid (lrQ s (⟨6, 0, 0, false, [], (s.extract a1 s.size)⟩, ⟨a1, false⟩) = true) := Lib.hid (lrQ_ok HLB.out (HLT.out.trans he))
        have hq := bytes_beq he
        clear he
        go_wp2_with fail
        refine (CT.out _ (by repeat (first | (with_reducible exact Fr.refl _) | (with_reducible assumption) | (with_reducible refine Fr.drewN ?_ _) | (with_reducible refine Fr.drew ?_) | (with_reducible refine Fr.alloc ?_ _) | (with_reducible refine Fr.setCell ?_ (by (first | (with_reducible assumption) | omega | (simp only [World.size_alloc, World.size_setCell, World.size_drew, World.heap_drewN]; omega) | (simp; done) | (simp; omega))) _) | (with_reducible refine Fr.trans ?_ (by with_reducible assumption))))).mono ?_
        rintro e w9 ⟨rfl, hf9⟩
        have FC9 := (BC.fr (Fr.trans (by repeat (first | (with_reducible exact Fr.refl _) | (with_reducible assumption) | (with_reducible refine Fr.drewN ?_ _) | (with_reducible refine Fr.drew ?_) | (with_reducible refine Fr.alloc ?_ _) | (with_reducible refine Fr.setCell ?_ (by (first | (with_reducible assumption) | omega | (simp only [World.size_alloc, World.size_setCell, World.size_drew, World.heap_drewN]; omega) | (simp; done) | (simp; omega))) _) | (with_reducible refine Fr.trans ?_ (by with_reducible assumption)))) hf9)).facts
        have FX9 := (BX.fr (Fr.trans (by repeat (first | (with_reducible exact Fr.refl _) | (with_reducible assumption) | (with_reducible refine Fr.drewN ?_ _) | (with_reducible refine Fr.drew ?_) | (with_reducible refine Fr.alloc ?_ _) | (with_reducible refine Fr.setCell ?_ (by (first | (with_reducible assumption) | omega | (simp only [World.size_alloc, World.size_setCell, World.size_drew, World.heap_drewN]; omega) | (simp; done) | (simp; omega))) _) | (with_reducible refine Fr.trans ?_ (by with_reducible assumption)))) hf9)).facts
        have BR9 := BR.fr (Fr.trans (by repeat (first | (with_reducible exact Fr.refl _) | (with_reducible assumption) | (with_reducible refine Fr.drewN ?_ _) | (with_reducible refine Fr.drew ?_) | (with_reducible refine Fr.alloc ?_ _) | (with_reducible refine Fr.setCell ?_ (by (first | (with_reducible assumption) | omega | (simp only [World.size_alloc, World.size_setCell, World.size_drew, World.heap_drewN]; omega) | (simp; done) | (simp; omega))) _) | (with_reducible refine Fr.trans ?_ (by with_reducible assumption)))) hf9)
        have FR9 := BR9.facts
        clear FC FX FR0
        go_wp2_with fail
        rw [HRL.out, HRB.out, HF.out, lrX_ok HF.out]
        refine bodyPost_ret (v := .tuple #[.agg #[.int .i64 6, .int .i64 0, .int .i64 0, .bool false, .slice none 0 0, .string (s.extract a1 s.size)], .bool true]) (by simp [results, Try.results39, go_sem, *]) rfl ⟨_, _, rfl, ⟨_, _, rfl, ?_⟩, by repeat (first | (with_reducible exact Fr.refl _) | (with_reducible assumption) | (with_reducible refine Fr.drewN ?_ _) | (with_reducible refine Fr.drew ?_) | (with_reducible refine Fr.alloc ?_ _) | (with_reducible refine Fr.setCell ?_ (by (first | (with_reducible assumption) | omega | (simp only [World.size_alloc, World.size_setCell, World.size_drew, World.heap_drewN]; omega) | (simp; done) | (simp; omega))) _) | (with_reducible refine Fr.trans ?_ (by with_reducible assumption)))⟩
        exact OwW.nil _ _ _ _ _
      · have HF : Hid (lrQ s (⟨6, 0, 0, false, [], (s.extract a1 s.size)⟩, ⟨a1, false⟩) = false) := Lib.hid (lrQ_ne (fun h => he (HLT.out.symm.trans h)))
        have hq := bytes_bne he
        clear he
        go_wp2_with fail
        refine (CT.out _ (by repeat (first | (with_reducible exact Fr.refl _) | (with_reducible assumption) | (with_reducible refine Fr.drewN ?_ _) | (with_reducible refine Fr.drew ?_) | (with_reducible refine Fr.alloc ?_ _) | (with_reducible refine Fr.setCell ?_ (by (first | (with_reducible assumption) | omega | (simp only [World.size_alloc, World.size_setCell, World.size_drew, World.heap_drewN]; omega) | (simp; done) | (simp; omega))) _) | (with_reducible refine Fr.trans ?_ (by with_reducible assumption))))).mono ?_
        rintro e w9 ⟨rfl, hf9⟩
        have FC9 := (BC.fr (Fr.trans (by repeat (first | (with_reducible exact Fr.refl _) | (with_reducible assumption) | (with_reducible refine Fr.drewN ?_ _) | (with_reducible refine Fr.drew ?_) | (with_reducible refine Fr.alloc ?_ _) | (with_reducible refine Fr.setCell ?_ (by (first | (with_reducible assumption) | omega | (simp only [World.size_alloc, World.size_setCell, World.size_drew, World.heap_drewN]; omega) | (simp; done) | (simp; omega))) _) | (with_reducible refine Fr.trans ?_ (by with_reducible assumption)))) hf9)).facts
        have FX9 := (BX.fr (Fr.trans (by repeat (first | (with_reducible exact Fr.refl _) | (with_reducible assumption) | (with_reducible refine Fr.drewN ?_ _) | (with_reducible refine Fr.drew ?_) | (with_reducible refine Fr.alloc ?_ _) | (with_reducible refine Fr.setCell ?_ (by (first | (with_reducible assumption) | omega | (simp only [World.size_alloc, World.size_setCell, World.size_drew, World.heap_drewN]; omega) | (simp; done) | (simp; omega))) _) | (with_reducible refine Fr.trans ?_ (by with_reducible assumption)))) hf9)).facts
        have BR9 := BR.fr (Fr.trans (by repeat (first | (with_reducible exact Fr.refl _) | (with_reducible assumption) | (with_reducible refine Fr.drewN ?_ _) | (with_reducible refine Fr.drew ?_) | (with_reducible refine Fr.alloc ?_ _) | (with_reducible refine Fr.setCell ?_ (by (first | (with_reducible assumption) | omega | (simp only [World.size_alloc, World.size_setCell, World.size_drew, World.heap_drewN]; omega) | (simp; done) | (simp; omega))) _) | (with_reducible refine Fr.trans ?_ (by with_reducible assumption)))) hf9)
        have FR9 := BR9.facts
        clear FC FX FR0
        go_wp2_with fail
        rw [HRL.out, HRB.out, HF.out, lrX_no HF.out]
        refine bodyPost_ret (v := .tuple #[.agg #[.int .i64 0, .int .i64 0, .int .i64 0, .bool false, .slice none 0 0, .string ⟨#[]⟩], .bool false]) (by simp [results, Try.results39, go_sem, *]) rfl ⟨none, 0, rfl, ⟨none, 0, rfl, OwW.nil _ _ _ _ _⟩, by repeat (first | (with_reducible exact Fr.refl _) | (with_reducible assumption) | (with_reducible refine Fr.drewN ?_ _) | (with_reducible refine Fr.drew ?_) | (with_reducible refine Fr.alloc ?_ _) | (with_reducible refine Fr.setCell ?_ (by (first | (with_reducible assumption) | omega | (simp only [World.size_alloc, World.size_setCell, World.size_drew, World.heap_drewN]; omega) | (simp; done) | (simp; omega))) _) | (with_reducible refine Fr.trans ?_ (by with_reducible assumption)))⟩
  · skip
    have HF : Hid (lrQ s (⟨6, 0, 0, false, [], (restT s ⟨a1, true⟩)⟩, ⟨a1, true⟩) = false) := Lib.hid lrQ_bad
    go_wp2_with fail
    rw [HRL.out, HRB.out, HF.out, lrX_no HF.out]
    refine bodyPost_ret (v := .tuple #[.agg #[.int .i64 0, .int .i64 0, .int .i64 0, .bool false, .slice none 0 0, .string ⟨#[]⟩], .bool false]) (by simp [results, Try.results39, go_sem, *]) rfl ⟨none, 0, rfl, ⟨none, 0, rfl, OwW.nil _ _ _ _ _⟩, by repeat (first | (with_reducible exact Fr.refl _) | (with_reducible assumption) | (with_reducible refine Fr.drewN ?_ _) | (with_reducible refine Fr.drew ?_) | (with_reducible refine Fr.alloc ?_ _) | (with_reducible refine Fr.setCell ?_ (by (first | (with_reducible assumption) | omega | (simp only [World.size_alloc, World.size_setCell, World.size_drew, World.heap_drewN]; omega) | (simp; done) | (simp; omega))) _) | (with_reducible refine Fr.trans ?_ (by with_reducible assumption)))⟩
set_option maxHeartbeats 8000000 in
set_option maxRecDepth 100000 in
theorem specRd3 (s : ByteArray) (w : World) (hs : s.size ≤ 1048576) (a1 : Nat) (b1 : Bool) (q1 : scByte s ⟨0, false⟩ = (3, ⟨a1, b1⟩)) :
    Calls Try.prog 39 #[.string s] w fun e w' => ∃ ao0 cap0, e = .returned (.tuple #[.agg #[.int .i64 (rdL s).f0, .int .i64 (rdL s).f1, .int .i64 (rdL s).f2, .bool (rdL s).f3, .slice ao0 (rdL s).f4.length cap0, .string (rdL s).f5], .bool (rdB s)]) ∧ LetterW w' w.heap.size w'.heap.size (.agg #[.int .i64 (rdL s).f0, .int .i64 (rdL s).f1, .int .i64 (rdL s).f2, .bool (rdL s).f3, .slice ao0 (rdL s).f4.length cap0, .string (rdL s).f5]) (rdL s) ∧ Fr w w' := by
  have ha1 := scByte_le (s := s) (c := ⟨0, false⟩) (Nat.zero_le _)
  rw [q1] at ha1
  simp only [] at ha1
  have C0 : Hid (∀ b w', Box w' b #[.string s, .int .i64 0, .bool false] 138 → Calls Try.prog 104 #[.pointer (some ⟨b, 0, none⟩)] w' fun e w'' => e = .returned (.int .i64 3) ∧ Box w'' b #[.string s, .int .i64 (a1 : Int), .bool b1] 138 ∧ Span b (b + 1) w' w'') := Lib.hid fun b w' hb => by have := l03Byte_any b 0 false s w' hb (by omega); rw [q1] at this; exact this
  obtain ⟨⟨n, ⟨a2, b2⟩⟩, q2⟩ : ∃ r, scVar s ⟨a1, b1⟩ = r := ⟨_, rfl⟩
  have hn := scVar_nat s ⟨a1, b1⟩ ha1
  have ha2 := scVar_le (s := s) (c := ⟨a1, b1⟩) ha1
  rw [q2] at hn ha2
  simp only [] at hn ha2
  obtain ⟨⟨v, ⟨a3, b3⟩⟩, q3⟩ : ∃ r, scByte s ⟨a2, b2⟩ = r := ⟨_, rfl⟩
  have hv := scByte_nat s ⟨a2, b2⟩
  have ha3 := scByte_le (s := s) (c := ⟨a2, b2⟩) ha2
  rw [q3] at hv ha3
  simp only [] at hv ha3
  have HPQ := lrP_3 (F := 70) q1 q2 q3
  have C1 : Hid (∀ b w', Box w' b #[.string s, .int .i64 (a1 : Int), .bool b1] 138 → Calls Try.prog 105 #[.pointer (some ⟨b, 0, none⟩)] w' fun e w'' => e = .returned (.int .i64 n) ∧ Box w'' b #[.string s, .int .i64 (a2 : Int), .bool b2] 138 ∧ Span b (b + 1) w' w'') := Lib.hid fun b w' hb => by have := l03Var_any b a1 b1 s w' hb (by omega) ha1; rw [q2] at this; exact this
  have C2 : Hid (∀ b w', Box w' b #[.string s, .int .i64 (a2 : Int), .bool b2] 138 → Calls Try.prog 104 #[.pointer (some ⟨b, 0, none⟩)] w' fun e w'' => e = .returned (.int .i64 v) ∧ Box w'' b #[.string s, .int .i64 (a3 : Int), .bool b3] 138 ∧ Span b (b + 1) w' w'') := Lib.hid fun b w' hb => by have := l03Byte_any b a2 b2 s w' hb (by omega); rw [q3] at this; exact this
  have HRL : Hid (rdL s = lrX s (lrP 70 s)) := Lib.hid (rdL_70 s).symm
  have HRB : Hid (rdB s = lrQ s (lrP 70 s)) := Lib.hid (rdB_70 s).symm
  rw [HPQ] at HRL HRB
  clear HPQ q1 q2 q3
  go_enter Try.func39, Try.ntmps39
  go_wp2_with fail
  refine (C0.out _ _ (Box.new' (by simp))).mono ?_
  rintro e w1 ⟨rfl, BC, sp1⟩
  have z1 := sp1.size; (try simp only [World.size_alloc] at z1)
  have BR : Box w1 w.heap.size #[.int .i64 0, .int .i64 0, .int .i64 0, .bool false, .slice none 0 0, .string ⟨#[]⟩] 38 := ((Box.new _ _ _).alloc _).span sp1 (.inl (by omega))
  have hf1 : Fr w w1 := Span.fr (show Fr w _ by repeat (first | (with_reducible exact Fr.refl _) | (with_reducible assumption) | (with_reducible refine Fr.drewN ?_ _) | (with_reducible refine Fr.drew ?_) | (with_reducible refine Fr.alloc ?_ _) | (with_reducible refine Fr.setCell ?_ (by (first | (with_reducible assumption) | omega | (simp only [World.size_alloc, World.size_setCell, World.size_drew, World.heap_drewN]; omega) | (simp; done) | (simp; omega))) _) | (with_reducible refine Fr.trans ?_ (by with_reducible assumption)))) sp1 (by omega)
  obtain ⟨hx, hhx⟩ : ∃ hx, w1.heap.size = hx := ⟨_, rfl⟩
  have BX : Box (w1.alloc (.cells #[.int .i64 3, .int .i64 0, .int .i64 0, .bool false, .slice none 0 0, .string ⟨#[]⟩] 38)) hx #[.int .i64 3, .int .i64 0, .int .i64 0, .bool false, .slice none 0 0, .string ⟨#[]⟩] 38 := Box.new' hhx.symm
  have BR0 := BR
  have BC0 := BC
  have BR := BR.alloc (.cells #[.int .i64 3, .int .i64 0, .int .i64 0, .bool false, .slice none 0 0, .string ⟨#[]⟩] 38)
  have BC := BC.alloc (.cells #[.int .i64 3, .int .i64 0, .int .i64 0, .bool false, .slice none 0 0, .string ⟨#[]⟩] 38)
  rw [hhx] at z1
  have hxb : w.heap.size + 1 < hx := by omega
  go_wp2_with fail
  refine (C1.out _ _ (BC)).mono ?_
  rintro e w2 ⟨rfl, BC', sp2⟩
  have zw2 := sp2.size; (try simp only [World.size_alloc, World.size_setCell] at zw2)
  have BX := (BX).span sp2 (.inr (by omega))
  have BR := (BR).span sp2 (.inl (by omega))
  have hfw2 : Fr w w2 := Span.fr (show Fr w _ by repeat (first | (with_reducible exact Fr.refl _) | (with_reducible assumption) | (with_reducible refine Fr.drewN ?_ _) | (with_reducible refine Fr.drew ?_) | (with_reducible refine Fr.alloc ?_ _) | (with_reducible refine Fr.setCell ?_ (by (first | (with_reducible assumption) | omega | (simp only [World.size_alloc, World.size_setCell, World.size_drew, World.heap_drewN]; omega) | (simp; done) | (simp; omega))) _) | (with_reducible refine Fr.trans ?_ (by with_reducible assumption)))) sp2 (by omega)
  have BC := BC'
  clear BC' 
  have FX := BX.facts
  go_wp2_with fail
  refine (C2.out _ _ (BC.far (by omega) _)).mono ?_
  rintro e w3 ⟨rfl, BC', sp3⟩
  have zw3 := sp3.size; (try simp only [World.size_alloc, World.size_setCell] at zw3)
  have BX := (BX.set_to (X := #[.int .i64 3, .int .i64 0, .int .i64 (n - 100000), .bool false, .slice none 0 0, .string ⟨#[]⟩]) (i := 2) (v := .int .i64 (n - 100000)) (by simp)).span sp3 (.inr (by omega))
  have BR := (BR.far (by omega) _).span sp3 (.inl (by omega))
  have hfw3 : Fr w w3 := Span.fr (show Fr w _ by repeat (first | (with_reducible exact Fr.refl _) | (with_reducible assumption) | (with_reducible refine Fr.drewN ?_ _) | (with_reducible refine Fr.drew ?_) | (with_reducible refine Fr.alloc ?_ _) | (with_reducible refine Fr.setCell ?_ (by (first | (with_reducible assumption) | omega | (simp only [World.size_alloc, World.size_setCell, World.size_drew, World.heap_drewN]; omega) | (simp; done) | (simp; omega))) _) | (with_reducible refine Fr.trans ?_ (by with_reducible assumption)))) sp3 (by omega)
  have BC := BC'
  clear BC' 
  clear FX
  have FC := BC.facts
  have FX := BX.facts
  have FR0 := BR.facts
  have BC := BC.far (i := 3) (show w.heap.size + 1 ≠ hx by omega) (.bool (v == 1))
  have BR := BR.far (i := 3) (show w.heap.size ≠ hx by omega) (.bool (v == 1))
  have BX : Box (w3.setCell ⟨hx, 3, none⟩ (.bool (v == 1))) hx #[.int .i64 3, .int .i64 0, .int .i64 (n - 100000), .bool (v == 1), .slice none 0 0, .string ⟨#[]⟩] 38 := BX.set_to (by simp)
  have hf4 : Fr w (w3.setCell ⟨hx, 3, none⟩ (.bool (v == 1))) := by repeat (first | (with_reducible exact Fr.refl _) | (with_reducible assumption) | (with_reducible refine Fr.drewN ?_ _) | (with_reducible refine Fr.drew ?_) | (with_reducible refine Fr.alloc ?_ _) | (with_reducible refine Fr.setCell ?_ (by (first | (with_reducible assumption) | omega | (simp only [World.size_alloc, World.size_setCell, World.size_drew, World.heap_drewN]; omega) | (simp; done) | (simp; omega))) _) | (with_reducible refine Fr.trans ?_ (by with_reducible assumption)))
  cases b3
  · skip
    have CT : Hid (∀ w', Fr (w3.setCell ⟨hx, 3, none⟩ (.bool (v == 1))) w' → Calls Try.prog 37 #[.agg #[.int .i64 3, .int .i64 0, .int .i64 (n - 100000), .bool (v == 1), .slice none 0 0, .string ⟨#[]⟩]] w' fun e w'' => e = .returned (.tuple #[.string (letS ⟨3, 0, (n - 100000), (v == 1), [], ⟨#[]⟩⟩), .bool (letB ⟨3, 0, (n - 100000), (v == 1), [], ⟨#[]⟩⟩)]) ∧ Fr w' w'') := Lib.hid fun w' hf => specLetterText_any _ ⟨3, 0, (n - 100000), (v == 1), [], ⟨#[]⟩⟩ w' ⟨_, rfl, RdS.fr (OwW.rd (OwW.nil w 0 0 97 4)) (Fr.trans (by repeat (first | (with_reducible exact Fr.refl _) | (with_reducible assumption) | (with_reducible refine Fr.drewN ?_ _) | (with_reducible refine Fr.drew ?_) | (with_reducible refine Fr.alloc ?_ _) | (with_reducible refine Fr.setCell ?_ (by (first | (with_reducible assumption) | omega | (simp only [World.size_alloc, World.size_setCell, World.size_drew, World.heap_drewN]; omega) | (simp; done) | (simp; omega))) _) | (with_reducible refine Fr.trans ?_ (by with_reducible assumption)))) hf)⟩ (by show ByteArray.size _ ≤ _; show (0 : Nat) ≤ 1048576; omega)
    obtain ⟨lt, hlt⟩ : ∃ lt, letS ⟨3, 0, (n - 100000), (v == 1), [], ⟨#[]⟩⟩ = lt := ⟨_, rfl⟩
    obtain ⟨lb, hlb⟩ : ∃ lb, letB ⟨3, 0, (n - 100000), (v == 1), [], ⟨#[]⟩⟩ = lb := ⟨_, rfl⟩
    rw [hlt, hlb] at CT
    have HLT := Lib.hid hlt
    have HLB := Lib.hid hlb
    clear hlt hlb
    cases lb
    · have HF : Hid (lrQ s (⟨3, 0, (n - 100000), (v == 1), [], ⟨#[]⟩⟩, ⟨a3, false⟩) = false) := Lib.hid (lrQ_no HLB.out)
      go_wp2_with fail
      refine (CT.out _ (by repeat (first | (with_reducible exact Fr.refl _) | (with_reducible assumption) | (with_reducible refine Fr.drewN ?_ _) | (with_reducible refine Fr.drew ?_) | (with_reducible refine Fr.alloc ?_ _) | (with_reducible refine Fr.setCell ?_ (by (first | (with_reducible assumption) | omega | (simp only [World.size_alloc, World.size_setCell, World.size_drew, World.heap_drewN]; omega) | (simp; done) | (simp; omega))) _) | (with_reducible refine Fr.trans ?_ (by with_reducible assumption))))).mono ?_
      rintro e w9 ⟨rfl, hf9⟩
      have FC9 := (BC.fr (Fr.trans (by repeat (first | (with_reducible exact Fr.refl _) | (with_reducible assumption) | (with_reducible refine Fr.drewN ?_ _) | (with_reducible refine Fr.drew ?_) | (with_reducible refine Fr.alloc ?_ _) | (with_reducible refine Fr.setCell ?_ (by (first | (with_reducible assumption) | omega | (simp only [World.size_alloc, World.size_setCell, World.size_drew, World.heap_drewN]; omega) | (simp; done) | (simp; omega))) _) | (with_reducible refine Fr.trans ?_ (by with_reducible assumption)))) hf9)).facts
      have FX9 := (BX.fr (Fr.trans (by repeat (first | (with_reducible exact Fr.refl _) | (with_reducible assumption) | (with_reducible refine Fr.drewN ?_ _) | (with_reducible refine Fr.drew ?_) | (with_reducible refine Fr.alloc ?_ _) | (with_reducible refine Fr.setCell ?_ (by (first | (with_reducible assumption) | omega | (simp only [World.size_alloc, World.size_setCell, World.size_drew, World.heap_drewN]; omega) | (simp; done) | (simp; omega))) _) | (with_reducible refine Fr.trans ?_ (by with_reducible assumption)))) hf9)).facts
      have BR9 := BR.fr (Fr.trans (by repeat (first | (with_reducible exact Fr.refl _) | (with_reducible assumption) | (with_reducible refine Fr.drewN ?_ _) | (with_reducible refine Fr.drew ?_) | (with_reducible refine Fr.alloc ?_ _) | (with_reducible refine Fr.setCell ?_ (by (first | (with_reducible assumption) | omega | (simp only [World.size_alloc, World.size_setCell, World.size_drew, World.heap_drewN]; omega) | (simp; done) | (simp; omega))) _) | (with_reducible refine Fr.trans ?_ (by with_reducible assumption)))) hf9)
      have FR9 := BR9.facts
      clear FC FX FR0
      go_wp2_with fail
      rw [HRL.out, HRB.out, HF.out, lrX_no HF.out]
      refine bodyPost_ret (v := .tuple #[.agg #[.int .i64 0, .int .i64 0, .int .i64 0, .bool false, .slice none 0 0, .string ⟨#[]⟩], .bool false]) (by simp [results, Try.results39, go_sem, *]) rfl ⟨none, 0, rfl, ⟨none, 0, rfl, OwW.nil _ _ _ _ _⟩, by repeat (first | (with_reducible exact Fr.refl _) | (with_reducible assumption) | (with_reducible refine Fr.drewN ?_ _) | (with_reducible refine Fr.drew ?_) | (with_reducible refine Fr.alloc ?_ _) | (with_reducible refine Fr.setCell ?_ (by (first | (with_reducible assumption) | omega | (simp only [World.size_alloc, World.size_setCell, World.size_drew, World.heap_drewN]; omega) | (simp; done) | (simp; omega))) _) | (with_reducible refine Fr.trans ?_ (by with_reducible assumption)))⟩
    · by_cases he : lt = s
      · have HF : Hid (lrQ s (⟨3, 0, (n - 100000), (v == 1), [], ⟨#[]⟩⟩, ⟨a3, false⟩) = true) := Lib.hid (lrQ_ok HLB.out (HLT.out.trans he))
        have hq := bytes_beq he
        clear he
        go_wp2_with fail
        refine (CT.out _ (by repeat (first | (with_reducible exact Fr.refl _) | (with_reducible assumption) | (with_reducible refine Fr.drewN ?_ _) | (with_reducible refine Fr.drew ?_) | (with_reducible refine Fr.alloc ?_ _) | (with_reducible refine Fr.setCell ?_ (by (first | (with_reducible assumption) | omega | (simp only [World.size_alloc, World.size_setCell, World.size_drew, World.heap_drewN]; omega) | (simp; done) | (simp; omega))) _) | (with_reducible refine Fr.trans ?_ (by with_reducible assumption))))).mono ?_
        rintro e w9 ⟨rfl, hf9⟩
        have FC9 := (BC.fr (Fr.trans (by repeat (first | (with_reducible exact Fr.refl _) | (with_reducible assumption) | (with_reducible refine Fr.drewN ?_ _) | (with_reducible refine Fr.drew ?_) | (with_reducible refine Fr.alloc ?_ _) | (with_reducible refine Fr.setCell ?_ (by (first | (with_reducible assumption) | omega | (simp only [World.size_alloc, World.size_setCell, World.size_drew, World.heap_drewN]; omega) | (simp; done) | (simp; omega))) _) | (with_reducible refine Fr.trans ?_ (by with_reducible assumption)))) hf9)).facts
        have FX9 := (BX.fr (Fr.trans (by repeat (first | (with_reducible exact Fr.refl _) | (with_reducible assumption) | (with_reducible refine Fr.drewN ?_ _) | (with_reducible refine Fr.drew ?_) | (with_reducible refine Fr.alloc ?_ _) | (with_reducible refine Fr.setCell ?_ (by (first | (with_reducible assumption) | omega | (simp only [World.size_alloc, World.size_setCell, World.size_drew, World.heap_drewN]; omega) | (simp; done) | (simp; omega))) _) | (with_reducible refine Fr.trans ?_ (by with_reducible assumption)))) hf9)).facts
        have BR9 := BR.fr (Fr.trans (by repeat (first | (with_reducible exact Fr.refl _) | (with_reducible assumption) | (with_reducible refine Fr.drewN ?_ _) | (with_reducible refine Fr.drew ?_) | (with_reducible refine Fr.alloc ?_ _) | (with_reducible refine Fr.setCell ?_ (by (first | (with_reducible assumption) | omega | (simp only [World.size_alloc, World.size_setCell, World.size_drew, World.heap_drewN]; omega) | (simp; done) | (simp; omega))) _) | (with_reducible refine Fr.trans ?_ (by with_reducible assumption)))) hf9)
        have FR9 := BR9.facts
        clear FC FX FR0
        go_wp2_with fail
        rw [HRL.out, HRB.out, HF.out, lrX_ok HF.out]
        refine bodyPost_ret (v := .tuple #[.agg #[.int .i64 3, .int .i64 0, .int .i64 (n - 100000), .bool (v == 1), .slice none 0 0, .string ⟨#[]⟩], .bool true]) (by simp [results, Try.results39, go_sem, *]) rfl ⟨_, _, rfl, ⟨_, _, rfl, ?_⟩, by repeat (first | (with_reducible exact Fr.refl _) | (with_reducible assumption) | (with_reducible refine Fr.drewN ?_ _) | (with_reducible refine Fr.drew ?_) | (with_reducible refine Fr.alloc ?_ _) | (with_reducible refine Fr.setCell ?_ (by (first | (with_reducible assumption) | omega | (simp only [World.size_alloc, World.size_setCell, World.size_drew, World.heap_drewN]; omega) | (simp; done) | (simp; omega))) _) | (with_reducible refine Fr.trans ?_ (by with_reducible assumption)))⟩
        exact OwW.nil _ _ _ _ _
      · have HF : Hid (lrQ s (⟨3, 0, (n - 100000), (v == 1), [], ⟨#[]⟩⟩, ⟨a3, false⟩) = false) := Lib.hid (lrQ_ne (fun h => he (HLT.out.symm.trans h)))
        have hq := bytes_bne he
        clear he
        go_wp2_with fail
        refine (CT.out _ (by repeat (first | (with_reducible exact Fr.refl _) | (with_reducible assumption) | (with_reducible refine Fr.drewN ?_ _) | (with_reducible refine Fr.drew ?_) | (with_reducible refine Fr.alloc ?_ _) | (with_reducible refine Fr.setCell ?_ (by (first | (with_reducible assumption) | omega | (simp only [World.size_alloc, World.size_setCell, World.size_drew, World.heap_drewN]; omega) | (simp; done) | (simp; omega))) _) | (with_reducible refine Fr.trans ?_ (by with_reducible assumption))))).mono ?_
        rintro e w9 ⟨rfl, hf9⟩
        have FC9 := (BC.fr (Fr.trans (by repeat (first | (with_reducible exact Fr.refl _) | (with_reducible assumption) | (with_reducible refine Fr.drewN ?_ _) | (with_reducible refine Fr.drew ?_) | (with_reducible refine Fr.alloc ?_ _) | (with_reducible refine Fr.setCell ?_ (by (first | (with_reducible assumption) | omega | (simp only [World.size_alloc, World.size_setCell, World.size_drew, World.heap_drewN]; omega) | (simp; done) | (simp; omega))) _) | (with_reducible refine Fr.trans ?_ (by with_reducible assumption)))) hf9)).facts
        have FX9 := (BX.fr (Fr.trans (by repeat (first | (with_reducible exact Fr.refl _) | (with_reducible assumption) | (with_reducible refine Fr.drewN ?_ _) | (with_reducible refine Fr.drew ?_) | (with_reducible refine Fr.alloc ?_ _) | (with_reducible refine Fr.setCell ?_ (by (first | (with_reducible assumption) | omega | (simp only [World.size_alloc, World.size_setCell, World.size_drew, World.heap_drewN]; omega) | (simp; done) | (simp; omega))) _) | (with_reducible refine Fr.trans ?_ (by with_reducible assumption)))) hf9)).facts
        have BR9 := BR.fr (Fr.trans (by repeat (first | (with_reducible exact Fr.refl _) | (with_reducible assumption) | (with_reducible refine Fr.drewN ?_ _) | (with_reducible refine Fr.drew ?_) | (with_reducible refine Fr.alloc ?_ _) | (with_reducible refine Fr.setCell ?_ (by (first | (with_reducible assumption) | omega | (simp only [World.size_alloc, World.size_setCell, World.size_drew, World.heap_drewN]; omega) | (simp; done) | (simp; omega))) _) | (with_reducible refine Fr.trans ?_ (by with_reducible assumption)))) hf9)
        have FR9 := BR9.facts
        clear FC FX FR0
        go_wp2_with fail
        rw [HRL.out, HRB.out, HF.out, lrX_no HF.out]
        refine bodyPost_ret (v := .tuple #[.agg #[.int .i64 0, .int .i64 0, .int .i64 0, .bool false, .slice none 0 0, .string ⟨#[]⟩], .bool false]) (by simp [results, Try.results39, go_sem, *]) rfl ⟨none, 0, rfl, ⟨none, 0, rfl, OwW.nil _ _ _ _ _⟩, by repeat (first | (with_reducible exact Fr.refl _) | (with_reducible assumption) | (with_reducible refine Fr.drewN ?_ _) | (with_reducible refine Fr.drew ?_) | (with_reducible refine Fr.alloc ?_ _) | (with_reducible refine Fr.setCell ?_ (by (first | (with_reducible assumption) | omega | (simp only [World.size_alloc, World.size_setCell, World.size_drew, World.heap_drewN]; omega) | (simp; done) | (simp; omega))) _) | (with_reducible refine Fr.trans ?_ (by with_reducible assumption)))⟩
  · skip
    have HF : Hid (lrQ s (⟨3, 0, (n - 100000), (v == 1), [], ⟨#[]⟩⟩, ⟨a3, true⟩) = false) := Lib.hid lrQ_bad
    go_wp2_with fail
    rw [HRL.out, HRB.out, HF.out, lrX_no HF.out]
    refine bodyPost_ret (v := .tuple #[.agg #[.int .i64 0, .int .i64 0, .int .i64 0, .bool false, .slice none 0 0, .string ⟨#[]⟩], .bool false]) (by simp [results, Try.results39, go_sem, *]) rfl ⟨none, 0, rfl, ⟨none, 0, rfl, OwW.nil _ _ _ _ _⟩, by repeat (first | (with_reducible exact Fr.refl _) | (with_reducible assumption) | (with_reducible refine Fr.drewN ?_ _) | (with_reducible refine Fr.drew ?_) | (with_reducible refine Fr.alloc ?_ _) | (with_reducible refine Fr.setCell ?_ (by (first | (with_reducible assumption) | omega | (simp only [World.size_alloc, World.size_setCell, World.size_drew, World.heap_drewN]; omega) | (simp; done) | (simp; omega))) _) | (with_reducible refine Fr.trans ?_ (by with_reducible assumption)))⟩
set_option maxHeartbeats 8000000 in
set_option maxRecDepth 100000 in
theorem specRd5 (s : ByteArray) (w : World) (hs : s.size ≤ 1048576) (a1 : Nat) (b1 : Bool) (q1 : scByte s ⟨0, false⟩ = (5, ⟨a1, b1⟩)) :
    Calls Try.prog 39 #[.string s] w fun e w' => ∃ ao0 cap0, e = .returned (.tuple #[.agg #[.int .i64 (rdL s).f0, .int .i64 (rdL s).f1, .int .i64 (rdL s).f2, .bool (rdL s).f3, .slice ao0 (rdL s).f4.length cap0, .string (rdL s).f5], .bool (rdB s)]) ∧ LetterW w' w.heap.size w'.heap.size (.agg #[.int .i64 (rdL s).f0, .int .i64 (rdL s).f1, .int .i64 (rdL s).f2, .bool (rdL s).f3, .slice ao0 (rdL s).f4.length cap0, .string (rdL s).f5]) (rdL s) ∧ Fr w w' := by
  have ha1 := scByte_le (s := s) (c := ⟨0, false⟩) (Nat.zero_le _)
  rw [q1] at ha1
  simp only [] at ha1
  have C0 : Hid (∀ b w', Box w' b #[.string s, .int .i64 0, .bool false] 138 → Calls Try.prog 104 #[.pointer (some ⟨b, 0, none⟩)] w' fun e w'' => e = .returned (.int .i64 5) ∧ Box w'' b #[.string s, .int .i64 (a1 : Int), .bool b1] 138 ∧ Span b (b + 1) w' w'') := Lib.hid fun b w' hb => by have := l03Byte_any b 0 false s w' hb (by omega); rw [q1] at this; exact this
  obtain ⟨⟨v, ⟨a2, b2⟩⟩, q2⟩ : ∃ r, scByte s ⟨a1, b1⟩ = r := ⟨_, rfl⟩
  have hv := scByte_nat s ⟨a1, b1⟩
  have ha2 := scByte_le (s := s) (c := ⟨a1, b1⟩) ha1
  rw [q2] at hv ha2
  simp only [] at hv ha2
  have HPQ := lrP_5 (F := 70) q1 q2
  have C1 : Hid (∀ b w', Box w' b #[.string s, .int .i64 (a1 : Int), .bool b1] 138 → Calls Try.prog 104 #[.pointer (some ⟨b, 0, none⟩)] w' fun e w'' => e = .returned (.int .i64 v) ∧ Box w'' b #[.string s, .int .i64 (a2 : Int), .bool b2] 138 ∧ Span b (b + 1) w' w'') := Lib.hid fun b w' hb => by have := l03Byte_any b a1 b1 s w' hb (by omega); rw [q2] at this; exact this
  have HRL : Hid (rdL s = lrX s (lrP 70 s)) := Lib.hid (rdL_70 s).symm
  have HRB : Hid (rdB s = lrQ s (lrP 70 s)) := Lib.hid (rdB_70 s).symm
  rw [HPQ] at HRL HRB
  clear HPQ q1 q2
  go_enter Try.func39, Try.ntmps39
  go_wp2_with fail
  refine (C0.out _ _ (Box.new' (by simp))).mono ?_
  rintro e w1 ⟨rfl, BC, sp1⟩
  have z1 := sp1.size; (try simp only [World.size_alloc] at z1)
  have BR : Box w1 w.heap.size #[.int .i64 0, .int .i64 0, .int .i64 0, .bool false, .slice none 0 0, .string ⟨#[]⟩] 38 := ((Box.new _ _ _).alloc _).span sp1 (.inl (by omega))
  have hf1 : Fr w w1 := Span.fr (show Fr w _ by repeat (first | (with_reducible exact Fr.refl _) | (with_reducible assumption) | (with_reducible refine Fr.drewN ?_ _) | (with_reducible refine Fr.drew ?_) | (with_reducible refine Fr.alloc ?_ _) | (with_reducible refine Fr.setCell ?_ (by (first | (with_reducible assumption) | omega | (simp only [World.size_alloc, World.size_setCell, World.size_drew, World.heap_drewN]; omega) | (simp; done) | (simp; omega))) _) | (with_reducible refine Fr.trans ?_ (by with_reducible assumption)))) sp1 (by omega)
  obtain ⟨hx, hhx⟩ : ∃ hx, w1.heap.size = hx := ⟨_, rfl⟩
  have BX : Box (w1.alloc (.cells #[.int .i64 5, .int .i64 0, .int .i64 0, .bool false, .slice none 0 0, .string ⟨#[]⟩] 38)) hx #[.int .i64 5, .int .i64 0, .int .i64 0, .bool false, .slice none 0 0, .string ⟨#[]⟩] 38 := Box.new' hhx.symm
  have BR0 := BR
  have BC0 := BC
  have BR := BR.alloc (.cells #[.int .i64 5, .int .i64 0, .int .i64 0, .bool false, .slice none 0 0, .string ⟨#[]⟩] 38)
  have BC := BC.alloc (.cells #[.int .i64 5, .int .i64 0, .int .i64 0, .bool false, .slice none 0 0, .string ⟨#[]⟩] 38)
  rw [hhx] at z1
  have hxb : w.heap.size + 1 < hx := by omega
  go_wp2_with fail
  refine (C1.out _ _ (BC)).mono ?_
  rintro e w2 ⟨rfl, BC', sp2⟩
  have zw2 := sp2.size; (try simp only [World.size_alloc, World.size_setCell] at zw2)
  have BX := (BX).span sp2 (.inr (by omega))
  have BR := (BR).span sp2 (.inl (by omega))
  have hfw2 : Fr w w2 := Span.fr (show Fr w _ by repeat (first | (with_reducible exact Fr.refl _) | (with_reducible assumption) | (with_reducible refine Fr.drewN ?_ _) | (with_reducible refine Fr.drew ?_) | (with_reducible refine Fr.alloc ?_ _) | (with_reducible refine Fr.setCell ?_ (by (first | (with_reducible assumption) | omega | (simp only [World.size_alloc, World.size_setCell, World.size_drew, World.heap_drewN]; omega) | (simp; done) | (simp; omega))) _) | (with_reducible refine Fr.trans ?_ (by with_reducible assumption)))) sp2 (by omega)
  have BC := BC'
  clear BC' 
  have FC := BC.facts
  have FX := BX.facts
  have FR0 := BR.facts
  have BC := BC.far (i := 1) (show w.heap.size + 1 ≠ hx by omega) (.int .i64 v)
  have BR := BR.far (i := 1) (show w.heap.size ≠ hx by omega) (.int .i64 v)
  have BX : Box (w2.setCell ⟨hx, 1, none⟩ (.int .i64 v)) hx #[.int .i64 5, .int .i64 v, .int .i64 0, .bool false, .slice none 0 0, .string ⟨#[]⟩] 38 := BX.set_to (by simp)
  have hf3 : Fr w (w2.setCell ⟨hx, 1, none⟩ (.int .i64 v)) := by repeat (first | (with_reducible exact Fr.refl _) | (with_reducible assumption) | (with_reducible refine Fr.drewN ?_ _) | (with_reducible refine Fr.drew ?_) | (with_reducible refine Fr.alloc ?_ _) | (with_reducible refine Fr.setCell ?_ (by (first | (with_reducible assumption) | omega | (simp only [World.size_alloc, World.size_setCell, World.size_drew, World.heap_drewN]; omega) | (simp; done) | (simp; omega))) _) | (with_reducible refine Fr.trans ?_ (by with_reducible assumption)))
  cases b2
  · skip
    have HT : Hid (restT s ⟨a2, false⟩ = s.extract a2 s.size) := Lib.hid rfl
    have hts : (s.extract a2 s.size).size ≤ s.size := by simp
    rw [HT.out] at HRL HRB
    have BC := BC.far (i := 5) (show w.heap.size + 1 ≠ hx by omega) (.string (s.extract a2 s.size))
    have BR := BR.far (i := 5) (show w.heap.size ≠ hx by omega) (.string (s.extract a2 s.size))
    have BX : Box ((w2.setCell ⟨hx, 1, none⟩ (.int .i64 v)).setCell ⟨hx, 5, none⟩ (.string (s.extract a2 s.size))) hx #[.int .i64 5, .int .i64 v, .int .i64 0, .bool false, .slice none 0 0, .string (s.extract a2 s.size)] 38 := BX.set_to (by simp)
    have hf8 : Fr w ((w2.setCell ⟨hx, 1, none⟩ (.int .i64 v)).setCell ⟨hx, 5, none⟩ (.string (s.extract a2 s.size))) := by repeat (first | (with_reducible exact Fr.refl _) | (with_reducible assumption) | (with_reducible refine Fr.drewN ?_ _) | (with_reducible refine Fr.drew ?_) | (with_reducible refine Fr.alloc ?_ _) | (with_reducible refine Fr.setCell ?_ (by (first | (with_reducible assumption) | omega | (simp only [World.size_alloc, World.size_setCell, World.size_drew, World.heap_drewN]; omega) | (simp; done) | (simp; omega))) _) | (with_reducible refine Fr.trans ?_ (by with_reducible assumption)))
    have hsa : (a2 : Int) ≤ (s.size : Int) := by omega
    have CT : Hid (∀ w', Fr ((w2.setCell ⟨hx, 1, none⟩ (.int .i64 v)).setCell ⟨hx, 5, none⟩ (.string (s.extract a2 s.size))) w' → Calls Try.prog 37 #[.agg #[.int .i64 5, .int .i64 v, .int .i64 0, .bool false, .slice none 0 0, .string (s.extract a2 s.size)]] w' fun e w'' => e = .returned (.tuple #[.string (letS ⟨5, v, 0, false, [], (s.extract a2 s.size)⟩), .bool (letB ⟨5, v, 0, false, [], (s.extract a2 s.size)⟩)]) ∧ Fr w' w'') := Lib.hid fun w' hf => specLetterText_any _ ⟨5, v, 0, false, [], (s.extract a2 s.size)⟩ w' ⟨_, rfl, RdS.fr (OwW.rd (OwW.nil w 0 0 97 4)) (Fr.trans (by repeat (first | (with_reducible exact Fr.refl _) | (with_reducible assumption) | (with_reducible refine Fr.drewN ?_ _) | (with_reducible refine Fr.drew ?_) | (with_reducible refine Fr.alloc ?_ _) | (with_reducible refine Fr.setCell ?_ (by (first | (with_reducible assumption) | omega | (simp only [World.size_alloc, World.size_setCell, World.size_drew, World.heap_drewN]; omega) | (simp; done) | (simp; omega))) _) | (with_reducible refine Fr.trans ?_ (by with_reducible assumption)))) hf)⟩ (by show ByteArray.size _ ≤ _; have := hts; show (s.extract a2 s.size).size ≤ 1048576; omega)
    obtain ⟨lt, hlt⟩ : ∃ lt, letS ⟨5, v, 0, false, [], (s.extract a2 s.size)⟩ = lt := ⟨_, rfl⟩
    obtain ⟨lb, hlb⟩ : ∃ lb, letB ⟨5, v, 0, false, [], (s.extract a2 s.size)⟩ = lb := ⟨_, rfl⟩
    rw [hlt, hlb] at CT
    have HLT := Lib.hid hlt
    have HLB := Lib.hid hlb
    clear hlt hlb
    cases lb
    · have HF : Hid (lrQ s (⟨5, v, 0, false, [], (s.extract a2 s.size)⟩, ⟨a2, false⟩) = false) := Lib.hid (lrQ_no HLB.out)
      go_wp2_with fail
      refine (CT.out _ (by repeat (first | (with_reducible exact Fr.refl _) | (with_reducible assumption) | (with_reducible refine Fr.drewN ?_ _) | (with_reducible refine Fr.drew ?_) | (with_reducible refine Fr.alloc ?_ _) | (with_reducible refine Fr.setCell ?_ (by (first | (with_reducible assumption) | omega | (simp only [World.size_alloc, World.size_setCell, World.size_drew, World.heap_drewN]; omega) | (simp; done) | (simp; omega))) _) | (with_reducible refine Fr.trans ?_ (by with_reducible assumption))))).mono ?_
      rintro e w9 ⟨rfl, hf9⟩
      have FC9 := (BC.fr (Fr.trans (by repeat (first | (with_reducible exact Fr.refl _) | (with_reducible assumption) | (with_reducible refine Fr.drewN ?_ _) | (with_reducible refine Fr.drew ?_) | (with_reducible refine Fr.alloc ?_ _) | (with_reducible refine Fr.setCell ?_ (by (first | (with_reducible assumption) | omega | (simp only [World.size_alloc, World.size_setCell, World.size_drew, World.heap_drewN]; omega) | (simp; done) | (simp; omega))) _) | (with_reducible refine Fr.trans ?_ (by with_reducible assumption)))) hf9)).facts
      have FX9 := (BX.fr (Fr.trans (by repeat (first | (with_reducible exact Fr.refl _) | (with_reducible assumption) | (with_reducible refine Fr.drewN ?_ _) | (with_reducible refine Fr.drew ?_) | (with_reducible refine Fr.alloc ?_ _) | (with_reducible refine Fr.setCell ?_ (by (first | (with_reducible assumption) | omega | (simp only [World.size_alloc, World.size_setCell, World.size_drew, World.heap_drewN]; omega) | (simp; done) | (simp; omega))) _) | (with_reducible refine Fr.trans ?_ (by with_reducible assumption)))) hf9)).facts
      have BR9 := BR.fr (Fr.trans (by repeat (first | (with_reducible exact Fr.refl _) | (with_reducible assumption) | (with_reducible refine Fr.drewN ?_ _) | (with_reducible refine Fr.drew ?_) | (with_reducible refine Fr.alloc ?_ _) | (with_reducible refine Fr.setCell ?_ (by (first | (with_reducible assumption) | omega | (simp only [World.size_alloc, World.size_setCell, World.size_drew, World.heap_drewN]; omega) | (simp; done) | (simp; omega))) _) | (with_reducible refine Fr.trans ?_ (by with_reducible assumption)))) hf9)
      have FR9 := BR9.facts
      clear FC FX FR0
      go_wp2_with fail
      rw [HRL.out, HRB.out, HF.out, lrX_no HF.out]
      refine bodyPost_ret (v := .tuple #[.agg #[.int .i64 0, .int .i64 0, .int .i64 0, .bool false, .slice none 0 0, .string ⟨#[]⟩], .bool false]) (by simp [results, Try.results39, go_sem, *]) rfl ⟨none, 0, rfl, ⟨none, 0, rfl, OwW.nil _ _ _ _ _⟩, by repeat (first | (with_reducible exact Fr.refl _) | (with_reducible assumption) | (with_reducible refine Fr.drewN ?_ _) | (with_reducible refine Fr.drew ?_) | (with_reducible refine Fr.alloc ?_ _) | (with_reducible refine Fr.setCell ?_ (by (first | (with_reducible assumption) | omega | (simp only [World.size_alloc, World.size_setCell, World.size_drew, World.heap_drewN]; omega) | (simp; done) | (simp; omega))) _) | (with_reducible refine Fr.trans ?_ (by with_reducible assumption)))⟩
    · by_cases he : lt = s
      · have HF : Hid (lrQ s (⟨5, v, 0, false, [], (s.extract a2 s.size)⟩, ⟨a2, false⟩) = true) := Lib.hid (lrQ_ok HLB.out (HLT.out.trans he))
        have hq := bytes_beq he
        clear he
        go_wp2_with fail
        refine (CT.out _ (by repeat (first | (with_reducible exact Fr.refl _) | (with_reducible assumption) | (with_reducible refine Fr.drewN ?_ _) | (with_reducible refine Fr.drew ?_) | (with_reducible refine Fr.alloc ?_ _) | (with_reducible refine Fr.setCell ?_ (by (first | (with_reducible assumption) | omega | (simp only [World.size_alloc, World.size_setCell, World.size_drew, World.heap_drewN]; omega) | (simp; done) | (simp; omega))) _) | (with_reducible refine Fr.trans ?_ (by with_reducible assumption))))).mono ?_
        rintro e w9 ⟨rfl, hf9⟩
        have FC9 := (BC.fr (Fr.trans (by repeat (first | (with_reducible exact Fr.refl _) | (with_reducible assumption) | (with_reducible refine Fr.drewN ?_ _) | (with_reducible refine Fr.drew ?_) | (with_reducible refine Fr.alloc ?_ _) | (with_reducible refine Fr.setCell ?_ (by (first | (with_reducible assumption) | omega | (simp only [World.size_alloc, World.size_setCell, World.size_drew, World.heap_drewN]; omega) | (simp; done) | (simp; omega))) _) | (with_reducible refine Fr.trans ?_ (by with_reducible assumption)))) hf9)).facts
        have FX9 := (BX.fr (Fr.trans (by repeat (first | (with_reducible exact Fr.refl _) | (with_reducible assumption) | (with_reducible refine Fr.drewN ?_ _) | (with_reducible refine Fr.drew ?_) | (with_reducible refine Fr.alloc ?_ _) | (with_reducible refine Fr.setCell ?_ (by (first | (with_reducible assumption) | omega | (simp only [World.size_alloc, World.size_setCell, World.size_drew, World.heap_drewN]; omega) | (simp; done) | (simp; omega))) _) | (with_reducible refine Fr.trans ?_ (by with_reducible assumption)))) hf9)).facts
        have BR9 := BR.fr (Fr.trans (by repeat (first | (with_reducible exact Fr.refl _) | (with_reducible assumption) | (with_reducible refine Fr.drewN ?_ _) | (with_reducible refine Fr.drew ?_) | (with_reducible refine Fr.alloc ?_ _) | (with_reducible refine Fr.setCell ?_ (by (first | (with_reducible assumption) | omega | (simp only [World.size_alloc, World.size_setCell, World.size_drew, World.heap_drewN]; omega) | (simp; done) | (simp; omega))) _) | (with_reducible refine Fr.trans ?_ (by with_reducible assumption)))) hf9)
        have FR9 := BR9.facts
        clear FC FX FR0
        go_wp2_with fail
        rw [HRL.out, HRB.out, HF.out, lrX_ok HF.out]
        refine bodyPost_ret (v := .tuple #[.agg #[.int .i64 5, .int .i64 v, .int .i64 0, .bool false, .slice none 0 0, .string (s.extract a2 s.size)], .bool true]) (by simp [results, Try.results39, go_sem, *]) rfl ⟨_, _, rfl, ⟨_, _, rfl, ?_⟩, by repeat (first | (with_reducible exact Fr.refl _) | (with_reducible assumption) | (with_reducible refine Fr.drewN ?_ _) | (with_reducible refine Fr.drew ?_) | (with_reducible refine Fr.alloc ?_ _) | (with_reducible refine Fr.setCell ?_ (by (first | (with_reducible assumption) | omega | (simp only [World.size_alloc, World.size_setCell, World.size_drew, World.heap_drewN]; omega) | (simp; done) | (simp; omega))) _) | (with_reducible refine Fr.trans ?_ (by with_reducible assumption)))⟩
        exact OwW.nil _ _ _ _ _
      · have HF : Hid (lrQ s (⟨5, v, 0, false, [], (s.extract a2 s.size)⟩, ⟨a2, false⟩) = false) := Lib.hid (lrQ_ne (fun h => he (HLT.out.symm.trans h)))
        have hq := bytes_bne he
        clear he
        go_wp2_with fail
        refine (CT.out _ (by repeat (first | (with_reducible exact Fr.refl _) | (with_reducible assumption) | (with_reducible refine Fr.drewN ?_ _) | (with_reducible refine Fr.drew ?_) | (with_reducible refine Fr.alloc ?_ _) | (with_reducible refine Fr.setCell ?_ (by (first | (with_reducible assumption) | omega | (simp only [World.size_alloc, World.size_setCell, World.size_drew, World.heap_drewN]; omega) | (simp; done) | (simp; omega))) _) | (with_reducible refine Fr.trans ?_ (by with_reducible assumption))))).mono ?_
        rintro e w9 ⟨rfl, hf9⟩
        have FC9 := (BC.fr (Fr.trans (by repeat (first | (with_reducible exact Fr.refl _) | (with_reducible assumption) | (with_reducible refine Fr.drewN ?_ _) | (with_reducible refine Fr.drew ?_) | (with_reducible refine Fr.alloc ?_ _) | (with_reducible refine Fr.setCell ?_ (by (first | (with_reducible assumption) | omega | (simp only [World.size_alloc, World.size_setCell, World.size_drew, World.heap_drewN]; omega) | (simp; done) | (simp; omega))) _) | (with_reducible refine Fr.trans ?_ (by with_reducible assumption)))) hf9)).facts
        have FX9 := (BX.fr (Fr.trans (by repeat (first | (with_reducible exact Fr.refl _) | (with_reducible assumption) | (with_reducible refine Fr.drewN ?_ _) | (with_reducible refine Fr.drew ?_) | (with_reducible refine Fr.alloc ?_ _) | (with_reducible refine Fr.setCell ?_ (by (first | (with_reducible assumption) | omega | (simp only [World.size_alloc, World.size_setCell, World.size_drew, World.heap_drewN]; omega) | (simp; done) | (simp; omega))) _) | (with_reducible refine Fr.trans ?_ (by with_reducible assumption)))) hf9)).facts
        have BR9 := BR.fr (Fr.trans (by repeat (first | (with_reducible exact Fr.refl _) | (with_reducible assumption) | (with_reducible refine Fr.drewN ?_ _) | (with_reducible refine Fr.drew ?_) | (with_reducible refine Fr.alloc ?_ _) | (with_reducible refine Fr.setCell ?_ (by (first | (with_reducible assumption) | omega | (simp only [World.size_alloc, World.size_setCell, World.size_drew, World.heap_drewN]; omega) | (simp; done) | (simp; omega))) _) | (with_reducible refine Fr.trans ?_ (by with_reducible assumption)))) hf9)
        have FR9 := BR9.facts
        clear FC FX FR0
        go_wp2_with fail
        rw [HRL.out, HRB.out, HF.out, lrX_no HF.out]
        refine bodyPost_ret (v := .tuple #[.agg #[.int .i64 0, .int .i64 0, .int .i64 0, .bool false, .slice none 0 0, .string ⟨#[]⟩], .bool false]) (by simp [results, Try.results39, go_sem, *]) rfl ⟨none, 0, rfl, ⟨none, 0, rfl, OwW.nil _ _ _ _ _⟩, by repeat (first | (with_reducible exact Fr.refl _) | (with_reducible assumption) | (with_reducible refine Fr.drewN ?_ _) | (with_reducible refine Fr.drew ?_) | (with_reducible refine Fr.alloc ?_ _) | (with_reducible refine Fr.setCell ?_ (by (first | (with_reducible assumption) | omega | (simp only [World.size_alloc, World.size_setCell, World.size_drew, World.heap_drewN]; omega) | (simp; done) | (simp; omega))) _) | (with_reducible refine Fr.trans ?_ (by with_reducible assumption)))⟩
  · skip
    have HF : Hid (lrQ s (⟨5, v, 0, false, [], (restT s ⟨a2, true⟩)⟩, ⟨a2, true⟩) = false) := Lib.hid lrQ_bad
    go_wp2_with fail
    rw [HRL.out, HRB.out, HF.out, lrX_no HF.out]
    refine bodyPost_ret (v := .tuple #[.agg #[.int .i64 0, .int .i64 0, .int .i64 0, .bool false, .slice none 0 0, .string ⟨#[]⟩], .bool false]) (by simp [results, Try.results39, go_sem, *]) rfl ⟨none, 0, rfl, ⟨none, 0, rfl, OwW.nil _ _ _ _ _⟩, by repeat (first | (with_reducible exact Fr.refl _) | (with_reducible assumption) | (with_reducible refine Fr.drewN ?_ _) | (with_reducible refine Fr.drew ?_) | (with_reducible refine Fr.alloc ?_ _) | (with_reducible refine Fr.setCell ?_ (by (first | (with_reducible assumption) | omega | (simp only [World.size_alloc, World.size_setCell, World.size_drew, World.heap_drewN]; omega) | (simp; done) | (simp; omega))) _) | (with_reducible refine Fr.trans ?_ (by with_reducible assumption)))⟩
set_option maxHeartbeats 8000000 in
set_option maxRecDepth 100000 in
theorem specRd2 (s : ByteArray) (w : World) (hs : s.size ≤ 1048576) (a1 : Nat) (b1 : Bool) (q1 : scByte s ⟨0, false⟩ = (2, ⟨a1, b1⟩)) :
    Calls Try.prog 39 #[.string s] w fun e w' => ∃ ao0 cap0, e = .returned (.tuple #[.agg #[.int .i64 (rdL s).f0, .int .i64 (rdL s).f1, .int .i64 (rdL s).f2, .bool (rdL s).f3, .slice ao0 (rdL s).f4.length cap0, .string (rdL s).f5], .bool (rdB s)]) ∧ LetterW w' w.heap.size w'.heap.size (.agg #[.int .i64 (rdL s).f0, .int .i64 (rdL s).f1, .int .i64 (rdL s).f2, .bool (rdL s).f3, .slice ao0 (rdL s).f4.length cap0, .string (rdL s).f5]) (rdL s) ∧ Fr w w' := by
  have ha1 := scByte_le (s := s) (c := ⟨0, false⟩) (Nat.zero_le _)
  rw [q1] at ha1
  simp only [] at ha1
  have C0 : Hid (∀ b w', Box w' b #[.string s, .int .i64 0, .bool false] 138 → Calls Try.prog 104 #[.pointer (some ⟨b, 0, none⟩)] w' fun e w'' => e = .returned (.int .i64 2) ∧ Box w'' b #[.string s, .int .i64 (a1 : Int), .bool b1] 138 ∧ Span b (b + 1) w' w'') := Lib.hid fun b w' hb => by have := l03Byte_any b 0 false s w' hb (by omega); rw [q1] at this; exact this
  obtain ⟨⟨n, ⟨a2, b2⟩⟩, q2⟩ : ∃ r, scVar s ⟨a1, b1⟩ = r := ⟨_, rfl⟩
  have hn := scVar_nat s ⟨a1, b1⟩ ha1
  have ha2 := scVar_le (s := s) (c := ⟨a1, b1⟩) ha1
  rw [q2] at hn ha2
  simp only [] at hn ha2
  obtain ⟨M, hM⟩ : ∃ M, (min n (70 : Nat)).toNat = M := ⟨_, rfl⟩
  obtain ⟨⟨wz, ⟨az, bz⟩⟩, q3⟩ : ∃ r, wkG s M ⟨a2, b2⟩ = r := ⟨_, rfl⟩
  have haz := wkG_le (s := s) M ⟨a2, b2⟩ ha2
  rw [q3] at haz
  simp only [] at haz
  have HPQ := lrP_2 (F := 70) (ws := wz) (e := ⟨az, bz⟩) q1 q2 (by rw [hM]; exact q3)
  have hMn : (M : Int) ≤ n ∧ M ≤ 70 ∧ ((M : Int) = n ∨ M = 70) := by omega
  have HQ3 := Lib.hid q3
  have C1 : Hid (∀ b w', Box w' b #[.string s, .int .i64 (a1 : Int), .bool b1] 138 → Calls Try.prog 105 #[.pointer (some ⟨b, 0, none⟩)] w' fun e w'' => e = .returned (.int .i64 n) ∧ Box w'' b #[.string s, .int .i64 (a2 : Int), .bool b2] 138 ∧ Span b (b + 1) w' w'') := Lib.hid fun b w' hb => by have := l03Var_any b a1 b1 s w' hb (by omega) ha1; rw [q2] at this; exact this
  obtain ⟨i0, hi, hz0, hz1, hz2⟩ := info_parts info_Walk
  have HRL : Hid (rdL s = lrX s (lrP 70 s)) := Lib.hid (rdL_70 s).symm
  have HRB : Hid (rdB s = lrQ s (lrP 70 s)) := Lib.hid (rdB_70 s).symm
  rw [HPQ] at HRL HRB
  clear HPQ q1 q2 q3 hM
  go_enter Try.func39, Try.ntmps39
  go_wp2_with fail
  refine (C0.out _ _ (Box.new' (by simp))).mono ?_
  rintro e w1 ⟨rfl, BC, sp1⟩
  have z1 := sp1.size; (try simp only [World.size_alloc] at z1)
  have BR : Box w1 w.heap.size #[.int .i64 0, .int .i64 0, .int .i64 0, .bool false, .slice none 0 0, .string ⟨#[]⟩] 38 := ((Box.new _ _ _).alloc _).span sp1 (.inl (by omega))
  have hf1 : Fr w w1 := Span.fr (show Fr w _ by repeat (first | (with_reducible exact Fr.refl _) | (with_reducible assumption) | (with_reducible refine Fr.drewN ?_ _) | (with_reducible refine Fr.drew ?_) | (with_reducible refine Fr.alloc ?_ _) | (with_reducible refine Fr.setCell ?_ (by (first | (with_reducible assumption) | omega | (simp only [World.size_alloc, World.size_setCell, World.size_drew, World.heap_drewN]; omega) | (simp; done) | (simp; omega))) _) | (with_reducible refine Fr.trans ?_ (by with_reducible assumption)))) sp1 (by omega)
  obtain ⟨hx, hhx⟩ : ∃ hx, w1.heap.size = hx := ⟨_, rfl⟩
  have BX : Box (w1.alloc (.cells #[.int .i64 2, .int .i64 0, .int .i64 0, .bool false, .slice none 0 0, .string ⟨#[]⟩] 38)) hx #[.int .i64 2, .int .i64 0, .int .i64 0, .bool false, .slice none 0 0, .string ⟨#[]⟩] 38 := Box.new' hhx.symm
  have BR0 := BR
  have BC0 := BC
  have BR := BR.alloc (.cells #[.int .i64 2, .int .i64 0, .int .i64 0, .bool false, .slice none 0 0, .string ⟨#[]⟩] 38)
  have BC := BC.alloc (.cells #[.int .i64 2, .int .i64 0, .int .i64 0, .bool false, .slice none 0 0, .string ⟨#[]⟩] 38)
  rw [hhx] at z1
  have hxb : w.heap.size + 1 < hx := by omega
  go_wp2_with fail
  refine (C1.out _ _ (BC)).mono ?_
  rintro e w2 ⟨rfl, BC', sp2⟩
  have zw2 := sp2.size; (try simp only [World.size_alloc, World.size_setCell] at zw2)
  have BX := (BX).span sp2 (.inr (by omega))
  have BR := (BR).span sp2 (.inl (by omega))
  have hfw2 : Fr w w2 := Span.fr (show Fr w _ by repeat (first | (with_reducible exact Fr.refl _) | (with_reducible assumption) | (with_reducible refine Fr.drewN ?_ _) | (with_reducible refine Fr.drew ?_) | (with_reducible refine Fr.alloc ?_ _) | (with_reducible refine Fr.setCell ?_ (by (first | (with_reducible assumption) | omega | (simp only [World.size_alloc, World.size_setCell, World.size_drew, World.heap_drewN]; omega) | (simp; done) | (simp; omega))) _) | (with_reducible refine Fr.trans ?_ (by with_reducible assumption)))) sp2 (by omega)
  have BC := BC'
  clear BC' 
  try rw [hhx]
  go_wp2_with fail
  go_loopw [7, 8] (fun i _ wr => ∃ (k a : Nat) (bad : Bool) (ys : List WalkR) (ay : Option Addr) (cy : Nat), k ≤ M ∧ i = .int .i64 k ∧ ys.length = k ∧ a ≤ s.size ∧ Hid ((wkG s (M - k) ⟨a, bad⟩).2 = ⟨az, bz⟩ ∧ ys ++ (wkG s (M - k) ⟨a, bad⟩).1 = wz) ∧ Box wr (w.heap.size + 1) #[.string s, .int .i64 (a : Int), .bool bad] 138 ∧ Box wr hx #[.int .i64 2, .int .i64 0, .int .i64 0, .bool false, .slice ay ys.length cy, .string ⟨#[]⟩] 38 ∧ Box wr w.heap.size #[.int .i64 0, .int .i64 0, .int .i64 0, .bool false, .slice none 0 0, .string ⟨#[]⟩] 38 ∧ Hid (WalksW wr (hx + 1) wr.heap.size (.slice ay ys.length cy) ys) ∧ hx + 1 ≤ wr.heap.size ∧ Fr w wr) (fun i _ _ => M - (intOf i).toNat)
  case atStart => exact ⟨0, a2, b2, [], none, 0, Nat.zero_le _, rfl, rfl, ha2, Lib.hid (by rw [Nat.sub_zero, HQ3.out]; exact ⟨rfl, rfl⟩), BC, BX, BR, Lib.hid (OwW.nil _ _ _ _ _), by omega, hfw2⟩
  case round =>
    clear BC BX BR HQ3
    obtain ⟨k, a, bad, ys, ay, cy, hk, rfl, hyl, ha, hd, BC, BX, BR, HW, hzr, hfr⟩ := hrel
    have HYL := Lib.hid hyl
    have hyk : ys.length ≤ 70 := by omega
    clear hyl
    have FC := BC.facts
    have FX := BX.facts
    have FR0 := BR.facts
    by_cases hgo : k < M ∧ bad = false
    · obtain ⟨hkM, rfl⟩ := hgo
      have hk1 : (k : Int) < n := by omega
      have hk2 : (k : Int) < 70 := by omega
      obtain ⟨⟨v0, ⟨c0, d0⟩⟩, p0⟩ : ∃ r, scByte s ⟨a, false⟩ = r := ⟨_, rfl⟩
      have hv0 := scByte_nat s ⟨a, false⟩
      have hc0 := scByte_le (s := s) (c := ⟨a, false⟩) ha
      rw [p0] at hv0 hc0
      simp only [] at hv0 hc0
      have D0 : Hid (∀ b w', Box w' b #[.string s, .int .i64 (a : Int), .bool false] 138 → Calls Try.prog 104 #[.pointer (some ⟨b, 0, none⟩)] w' fun e w'' => e = .returned (.int .i64 v0) ∧ Box w'' b #[.string s, .int .i64 (c0 : Int), .bool d0] 138 ∧ Span b (b + 1) w' w'') := Lib.hid fun b w' hb => by have := l03Byte_any b a false s w' hb (by omega); rw [p0] at this; exact this
      obtain ⟨⟨v1, ⟨c1, d1⟩⟩, p1⟩ : ∃ r, scByte s ⟨c0, d0⟩ = r := ⟨_, rfl⟩
      have hv1 := scByte_nat s ⟨c0, d0⟩
      have hc1 := scByte_le (s := s) (c := ⟨c0, d0⟩) hc0
      rw [p1] at hv1 hc1
      simp only [] at hv1 hc1
      have D1 : Hid (∀ b w', Box w' b #[.string s, .int .i64 (c0 : Int), .bool d0] 138 → Calls Try.prog 104 #[.pointer (some ⟨b, 0, none⟩)] w' fun e w'' => e = .returned (.int .i64 v1) ∧ Box w'' b #[.string s, .int .i64 (c1 : Int), .bool d1] 138 ∧ Span b (b + 1) w' w'') := Lib.hid fun b w' hb => by have := l03Byte_any b c0 d0 s w' hb (by omega); rw [p1] at this; exact this
      obtain ⟨⟨v2, ⟨c2, d2⟩⟩, p2⟩ : ∃ r, scByte s ⟨c1, d1⟩ = r := ⟨_, rfl⟩
      have hv2 := scByte_nat s ⟨c1, d1⟩
      have hc2 := scByte_le (s := s) (c := ⟨c1, d1⟩) hc1
      rw [p2] at hv2 hc2
      simp only [] at hv2 hc2
      have D2 : Hid (∀ b w', Box w' b #[.string s, .int .i64 (c1 : Int), .bool d1] 138 → Calls Try.prog 104 #[.pointer (some ⟨b, 0, none⟩)] w' fun e w'' => e = .returned (.int .i64 v2) ∧ Box w'' b #[.string s, .int .i64 (c2 : Int), .bool d2] 138 ∧ Span b (b + 1) w' w'') := Lib.hid fun b w' hb => by have := l03Byte_any b c1 d1 s w' hb (by omega); rw [p2] at this; exact this
      obtain ⟨⟨v3, ⟨c3, d3⟩⟩, p3⟩ : ∃ r, scByte s ⟨c2, d2⟩ = r := ⟨_, rfl⟩
      have hv3 := scByte_nat s ⟨c2, d2⟩
      have hc3 := scByte_le (s := s) (c := ⟨c2, d2⟩) hc2
      rw [p3] at hv3 hc3
      simp only [] at hv3 hc3
      have D3 : Hid (∀ b w', Box w' b #[.string s, .int .i64 (c2 : Int), .bool d2] 138 → Calls Try.prog 104 #[.pointer (some ⟨b, 0, none⟩)] w' fun e w'' => e = .returned (.int .i64 v3) ∧ Box w'' b #[.string s, .int .i64 (c3 : Int), .bool d3] 138 ∧ Span b (b + 1) w' w'') := Lib.hid fun b w' hb => by have := l03Byte_any b c2 d2 s w' hb (by omega); rw [p3] at this; exact this
      have hd2 : Hid ((wkG s (M - (k + 1)) ⟨c3, d3⟩).2 = ⟨az, bz⟩ ∧ (ys ++ [⟨v0, v1, v2, v3⟩]) ++ (wkG s (M - (k + 1)) ⟨c3, d3⟩).1 = wz) := Lib.hid (by
        have := hd.out
        rw [wkG_next p0 p1 p2 p3 (by omega)] at this
        rw [List.append_assoc]
        exact this)
      have HCA := Lib.hid (walks_snoc ys ⟨v0, v1, v2, v3⟩)
      have HLA := Lib.hid (show (ys ++ [(⟨v0, v1, v2, v3⟩ : WalkR)]).length = ys.length + 1 by simp)
      clear p0 p1 p2 p3 hd
      go_wp2_with fail
      refine (D0.out _ _ BC).mono ?_
      rintro e w4 ⟨rfl, BC4, sp4⟩
      have z4 := sp4.size
      have BX4 := BX.span sp4 (.inr (by omega))
      have BR4 := BR.span sp4 (.inl (by omega))
      have HW4 := Lib.hid (OwW.span HW.out sp4 (.inr (by omega)))
      have hf4 : Fr w w4 := Span.fr hfr sp4 (by omega)
      clear FC FX FR0 BC BX BR HW
      have BW4 : Box (w4.alloc (.cells #[.int .i64 v0, .int .i64 0, .int .i64 0, .int .i64 0] 97)) w4.heap.size #[.int .i64 v0, .int .i64 0, .int .i64 0, .int .i64 0] 97 := Box.new _ _ _
      go_wp2_with fail
      refine (D1.out _ _ (BC4.alloc _)).mono ?_
      rintro e w5 ⟨rfl, BC5, sp5⟩
      have z5 := sp5.size; (try simp only [World.size_alloc, World.size_setCell] at z5)
      have BW5 := (BW4).span sp5 (.inr (by omega))
      have BX5 := (BX4.alloc _).span sp5 (.inr (by omega))
      have BR5 := (BR4.alloc _).span sp5 (.inl (by omega))
      have HW5 := Lib.hid (OwW.span (OwW.alloc HW4.out _) sp5 (.inr (by omega)))
      have hf5 : Fr w w5 := Span.fr (show Fr w _ by repeat (first | (with_reducible exact Fr.refl _) | (with_reducible assumption) | (with_reducible refine Fr.drewN ?_ _) | (with_reducible refine Fr.drew ?_) | (with_reducible refine Fr.alloc ?_ _) | (with_reducible refine Fr.setCell ?_ (by (first | (with_reducible assumption) | omega | (simp only [World.size_alloc, World.size_setCell, World.size_drew, World.heap_drewN]; omega) | (simp; done) | (simp; omega))) _) | (with_reducible refine Fr.trans ?_ (by with_reducible assumption)))) sp5 (by omega)
      have FW5 := BW5.facts
      go_wp2_with fail
      clear FW5
      refine (D2.out _ _ (BC5.far (q := w4.heap.size) (i := 1) (by omega) (.int .i64 v1))).mono ?_
      rintro e w6 ⟨rfl, BC6, sp6⟩
      have z6 := sp6.size; (try simp only [World.size_alloc, World.size_setCell] at z6)
      have BW6 := ((BW5.set_to (X := #[.int .i64 v0, .int .i64 v1, .int .i64 0, .int .i64 0]) (i := 1) (v := .int .i64 v1) (by simp))).span sp6 (.inr (by omega))
      have BX6 := (BX5.far (q := w4.heap.size) (i := 1) (by omega) (.int .i64 v1)).span sp6 (.inr (by omega))
      have BR6 := (BR5.far (q := w4.heap.size) (i := 1) (by omega) (.int .i64 v1)).span sp6 (.inl (by omega))
      have HW6 := Lib.hid (OwW.span (OwW.set HW5.out (p := ⟨w4.heap.size, 1, none⟩) (.inr (by show _ ≤ w4.heap.size; omega)) (.int .i64 v1)) sp6 (.inr (by omega)))
      have hf6 : Fr w w6 := Span.fr (show Fr w _ by repeat (first | (with_reducible exact Fr.refl _) | (with_reducible assumption) | (with_reducible refine Fr.drewN ?_ _) | (with_reducible refine Fr.drew ?_) | (with_reducible refine Fr.alloc ?_ _) | (with_reducible refine Fr.setCell ?_ (by (first | (with_reducible assumption) | omega | (simp only [World.size_alloc, World.size_setCell, World.size_drew, World.heap_drewN]; omega) | (simp; done) | (simp; omega))) _) | (with_reducible refine Fr.trans ?_ (by with_reducible assumption)))) sp6 (by omega)
      have FW6 := BW6.facts
      go_wp2_with fail
      clear FW6
      refine (D3.out _ _ (BC6.far (q := w4.heap.size) (i := 2) (by omega) (.int .i64 v2))).mono ?_
      rintro e w7 ⟨rfl, BC7, sp7⟩
      have z7 := sp7.size; (try simp only [World.size_alloc, World.size_setCell] at z7)
      have BW7 := ((BW6.set_to (X := #[.int .i64 v0, .int .i64 v1, .int .i64 v2, .int .i64 0]) (i := 2) (v := .int .i64 v2) (by simp))).span sp7 (.inr (by omega))
      have BX7 := (BX6.far (q := w4.heap.size) (i := 2) (by omega) (.int .i64 v2)).span sp7 (.inr (by omega))
      have BR7 := (BR6.far (q := w4.heap.size) (i := 2) (by omega) (.int .i64 v2)).span sp7 (.inl (by omega))
      have HW7 := Lib.hid (OwW.span (OwW.set HW6.out (p := ⟨w4.heap.size, 2, none⟩) (.inr (by show _ ≤ w4.heap.size; omega)) (.int .i64 v2)) sp7 (.inr (by omega)))
      have hf7 : Fr w w7 := Span.fr (show Fr w _ by repeat (first | (with_reducible exact Fr.refl _) | (with_reducible assumption) | (with_reducible refine Fr.drewN ?_ _) | (with_reducible refine Fr.drew ?_) | (with_reducible refine Fr.alloc ?_ _) | (with_reducible refine Fr.setCell ?_ (by (first | (with_reducible assumption) | omega | (simp only [World.size_alloc, World.size_setCell, World.size_drew, World.heap_drewN]; omega) | (simp; done) | (simp; omega))) _) | (with_reducible refine Fr.trans ?_ (by with_reducible assumption)))) sp7 (by omega)
      have FW7 := BW7.facts
      have BX8 := BX7.far (q := w4.heap.size) (i := 3) (by omega) (.int .i64 v3)
      have FX8 := BX8.facts
      have HW8 := Lib.hid (OwW.set HW7.out (p := ⟨w4.heap.size, 3, none⟩) (.inr (by show _ ≤ w4.heap.size; omega)) (.int .i64 v3))
      have BC8 := BC7.far (q := w4.heap.size) (i := 3) (by omega) (.int .i64 v3)
      have BR8 := BR7.far (q := w4.heap.size) (i := 3) (by omega) (.int .i64 v3)
      have hf8 : Fr w (w7.setCell ⟨w4.heap.size, 3, none⟩ (.int .i64 v3)) := by repeat (first | (with_reducible exact Fr.refl _) | (with_reducible assumption) | (with_reducible refine Fr.drewN ?_ _) | (with_reducible refine Fr.drew ?_) | (with_reducible refine Fr.alloc ?_ _) | (with_reducible refine Fr.setCell ?_ (by (first | (with_reducible assumption) | omega | (simp only [World.size_alloc, World.size_setCell, World.size_drew, World.heap_drewN]; omega) | (simp; done) | (simp; omega))) _) | (with_reducible refine Fr.trans ?_ (by with_reducible assumption)))
      have FW8 := ((BW7.set_to (X := #[.int .i64 v0, .int .i64 v1, .int .i64 v2, .int .i64 v3]) (i := 3) (v := .int .i64 v3) (by simp))).facts
      go_wp2_with (at_builtin; (refine wpList_append_rd rfl _ _ 26 rfl (hx + 1) 97 i0 (.agg #[.int .i64 0, .int .i64 0, .int .i64 0, .int .i64 0]) 4 32 Try.underlying26 hi hz0 hz1 hz2 rfl (by decide) _ ys.length (ys.flatMap WalkR.cells) rfl (World.ownsRow.alloc HW8.out.1 _) _ 1 [.int .i64 v0, .int .i64 v1, .int .i64 v2, .int .i64 v3] rfl (RdS.new (by first | rfl | simp) rfl) (by simp [Value.oneCell']) (by unfold maxLen; omega) (by omega) (by (first | (with_reducible assumption) | omega | (simp only [World.size_alloc, World.size_setCell, World.size_drew, World.heap_drewN]; omega) | (simp; done) | (simp; omega))) ?_; intro ay2 cy2 w9 hown hgrow hat; have BX9 := (BX8.alloc (.cells #[.int .i64 v0, .int .i64 v1, .int .i64 v2, .int .i64 v3] 97)).row hgrow HW8.out.2 (.inl (by omega)); have FX9 := BX9.facts))
      have s9 : Span (hx + 1) wr.heap.size ((w7.setCell ⟨w4.heap.size, 3, none⟩ (.int .i64 v3)).alloc (.cells #[.int .i64 v0, .int .i64 v1, .int .i64 v2, .int .i64 v3] 97)) w9 := Span.of_gr hgrow (fun g hg => HW8.out.2 g hg)
      have z9 := s9.size
      simp only [World.size_alloc, World.size_setCell] at z9
      have BC9 := (BC8.alloc (.cells #[.int .i64 v0, .int .i64 v1, .int .i64 v2, .int .i64 v3] 97)).span s9 (.inl (by omega))
      have BR9 := (BR8.alloc (.cells #[.int .i64 v0, .int .i64 v1, .int .i64 v2, .int .i64 v3] 97)).span s9 (.inl (by omega))
      have hf9 : Fr w w9 := Span.fr (show Fr w _ by repeat (first | (with_reducible exact Fr.refl _) | (with_reducible assumption) | (with_reducible refine Fr.drewN ?_ _) | (with_reducible refine Fr.drew ?_) | (with_reducible refine Fr.alloc ?_ _) | (with_reducible refine Fr.setCell ?_ (by (first | (with_reducible assumption) | omega | (simp only [World.size_alloc, World.size_setCell, World.size_drew, World.heap_drewN]; omega) | (simp; done) | (simp; omega))) _) | (with_reducible refine Fr.trans ?_ (by with_reducible assumption)))) s9 (by omega)
      rw [← HCA.out] at hown
      have hW9 : WalksW w9 (hx + 1) w9.heap.size (.slice ay2 (ys ++ [(⟨v0, v1, v2, v3⟩ : WalkR)]).length cy2) (ys ++ [⟨v0, v1, v2, v3⟩]) := by
        have := OwW.of_owns hown
        rw [← HLA.out] at this
        exact this
      go_roundw
      case rel => exact ⟨k + 1, c3, d3, ys ++ [⟨v0, v1, v2, v3⟩], ay2, cy2, by omega, by go_num, by rw [HLA.out, HYL.out], hc3, hd2, BC9.far (by omega) _, by rw [HLA.out]; exact BX9.set_to (by simp), BR9.far (by omega) _, Lib.hid (by rw [World.size_setCell]; exact OwW.set hW9 (.inl (by show hx < hx + 1; omega)) _), by simp; omega, by repeat (first | (with_reducible exact Fr.refl _) | (with_reducible assumption) | (with_reducible refine Fr.drewN ?_ _) | (with_reducible refine Fr.drew ?_) | (with_reducible refine Fr.alloc ?_ _) | (with_reducible refine Fr.setCell ?_ (by (first | (with_reducible assumption) | omega | (simp only [World.size_alloc, World.size_setCell, World.size_drew, World.heap_drewN]; omega) | (simp; done) | (simp; omega))) _) | (with_reducible refine Fr.trans ?_ (by with_reducible assumption)))⟩
      case measure => (simp [intOf]; omega)
    · have hend : ys = wz ∧ a = az ∧ bad = bz := by
        have := hd.out
        by_cases hkM : k < M
        · have hb : bad = true := by cases bad <;> simp_all
          rw [wkG_stop hb] at this
          simpa using this.symm
        · rw [show M - k = 0 by omega] at this
          simpa [wkG] using this.symm
      obtain ⟨rfl, rfl, rfl⟩ := hend
      have hg : (¬ (k : Int) < n) ∨ ((k : Int) < n ∧ ¬ (k : Int) < 70) ∨ ((k : Int) < n ∧ (k : Int) < 70 ∧ bad = true) := by
        by_cases h1 : (k : Int) < n
        · by_cases h2 : (k : Int) < 70
          · refine .inr (.inr ⟨h1, h2, ?_⟩)
            have h3 : k < M := by omega
            cases bad <;> simp_all
          · exact .inr (.inl ⟨h1, h2⟩)
        · exact .inl h1
      clear hgo hd
      cases bad
      · rcases hg with hg | ⟨hg1, hg2⟩ | ⟨hg1, hg2, hg3⟩
        rotate_right
        · cases hg3
        all_goals
          have CT : Hid (∀ w', Fr wr w' → Calls Try.prog 37 #[.agg #[.int .i64 2, .int .i64 0, .int .i64 0, .bool false, .slice ay ys.length cy, .string ⟨#[]⟩]] w' fun e w'' => e = .returned (.tuple #[.string (letS ⟨2, 0, 0, false, ys, ⟨#[]⟩⟩), .bool (letB ⟨2, 0, 0, false, ys, ⟨#[]⟩⟩)]) ∧ Fr w' w'') := Lib.hid fun w' hf => specLetterText_any _ ⟨2, 0, 0, false, ys, ⟨#[]⟩⟩ w' ⟨_, rfl, RdS.fr (OwW.rd HW.out) hf⟩ (by show ByteArray.size _ ≤ _; show (0 : Nat) ≤ 1048576; omega)
          obtain ⟨lt, hlt⟩ : ∃ lt, letS ⟨2, 0, 0, false, ys, ⟨#[]⟩⟩ = lt := ⟨_, rfl⟩
          obtain ⟨lb, hlb⟩ : ∃ lb, letB ⟨2, 0, 0, false, ys, ⟨#[]⟩⟩ = lb := ⟨_, rfl⟩
          rw [hlt, hlb] at CT
          have HLT := Lib.hid hlt
          have HLB := Lib.hid hlb
          clear hlt hlb
          cases lb
          · have HF : Hid (lrQ s (⟨2, 0, 0, false, ys, ⟨#[]⟩⟩, ⟨a, false⟩) = false) := Lib.hid (lrQ_no HLB.out)
            go_wp2_with fail
            refine (CT.out _ (by repeat (first | (with_reducible exact Fr.refl _) | (with_reducible assumption) | (with_reducible refine Fr.drewN ?_ _) | (with_reducible refine Fr.drew ?_) | (with_reducible refine Fr.alloc ?_ _) | (with_reducible refine Fr.setCell ?_ (by (first | (with_reducible assumption) | omega | (simp only [World.size_alloc, World.size_setCell, World.size_drew, World.heap_drewN]; omega) | (simp; done) | (simp; omega))) _) | (with_reducible refine Fr.trans ?_ (by with_reducible assumption))))).mono ?_
            rintro e w9 ⟨rfl, hf9⟩
            have FC9 := (BC.fr (Fr.trans (by repeat (first | (with_reducible exact Fr.refl _) | (with_reducible assumption) | (with_reducible refine Fr.drewN ?_ _) | (with_reducible refine Fr.drew ?_) | (with_reducible refine Fr.alloc ?_ _) | (with_reducible refine Fr.setCell ?_ (by (first | (with_reducible assumption) | omega | (simp only [World.size_alloc, World.size_setCell, World.size_drew, World.heap_drewN]; omega) | (simp; done) | (simp; omega))) _) | (with_reducible refine Fr.trans ?_ (by with_reducible assumption)))) hf9)).facts
            have FX9 := (BX.fr (Fr.trans (by repeat (first | (with_reducible exact Fr.refl _) | (with_reducible assumption) | (with_reducible refine Fr.drewN ?_ _) | (with_reducible refine Fr.drew ?_) | (with_reducible refine Fr.alloc ?_ _) | (with_reducible refine Fr.setCell ?_ (by (first | (with_reducible assumption) | omega | (simp only [World.size_alloc, World.size_setCell, World.size_drew, World.heap_drewN]; omega) | (simp; done) | (simp; omega))) _) | (with_reducible refine Fr.trans ?_ (by with_reducible assumption)))) hf9)).facts
            have BR9 := BR.fr (Fr.trans (by repeat (first | (with_reducible exact Fr.refl _) | (with_reducible assumption) | (with_reducible refine Fr.drewN ?_ _) | (with_reducible refine Fr.drew ?_) | (with_reducible refine Fr.alloc ?_ _) | (with_reducible refine Fr.setCell ?_ (by (first | (with_reducible assumption) | omega | (simp only [World.size_alloc, World.size_setCell, World.size_drew, World.heap_drewN]; omega) | (simp; done) | (simp; omega))) _) | (with_reducible refine Fr.trans ?_ (by with_reducible assumption)))) hf9)
            have FR9 := BR9.facts
            clear FC FX FR0
            go_wp2_with fail
            rw [HRL.out, HRB.out, HF.out, lrX_no HF.out]
            refine bodyPost_ret (v := .tuple #[.agg #[.int .i64 0, .int .i64 0, .int .i64 0, .bool false, .slice none 0 0, .string ⟨#[]⟩], .bool false]) (by simp [results, Try.results39, go_sem, *]) rfl ⟨none, 0, rfl, ⟨none, 0, rfl, OwW.nil _ _ _ _ _⟩, by repeat (first | (with_reducible exact Fr.refl _) | (with_reducible assumption) | (with_reducible refine Fr.drewN ?_ _) | (with_reducible refine Fr.drew ?_) | (with_reducible refine Fr.alloc ?_ _) | (with_reducible refine Fr.setCell ?_ (by (first | (with_reducible assumption) | omega | (simp only [World.size_alloc, World.size_setCell, World.size_drew, World.heap_drewN]; omega) | (simp; done) | (simp; omega))) _) | (with_reducible refine Fr.trans ?_ (by with_reducible assumption)))⟩
          · by_cases he : lt = s
            · have HF : Hid (lrQ s (⟨2, 0, 0, false, ys, ⟨#[]⟩⟩, ⟨a, false⟩) = true) := Lib.hid (lrQ_ok HLB.out (HLT.out.trans he))
              have hq := bytes_beq he
              clear he
              go_wp2_with fail
              refine (CT.out _ (by repeat (first | (with_reducible exact Fr.refl _) | (with_reducible assumption) | (with_reducible refine Fr.drewN ?_ _) | (with_reducible refine Fr.drew ?_) | (with_reducible refine Fr.alloc ?_ _) | (with_reducible refine Fr.setCell ?_ (by (first | (with_reducible assumption) | omega | (simp only [World.size_alloc, World.size_setCell, World.size_drew, World.heap_drewN]; omega) | (simp; done) | (simp; omega))) _) | (with_reducible refine Fr.trans ?_ (by with_reducible assumption))))).mono ?_
              rintro e w9 ⟨rfl, hf9⟩
              have FC9 := (BC.fr (Fr.trans (by repeat (first | (with_reducible exact Fr.refl _) | (with_reducible assumption) | (with_reducible refine Fr.drewN ?_ _) | (with_reducible refine Fr.drew ?_) | (with_reducible refine Fr.alloc ?_ _) | (with_reducible refine Fr.setCell ?_ (by (first | (with_reducible assumption) | omega | (simp only [World.size_alloc, World.size_setCell, World.size_drew, World.heap_drewN]; omega) | (simp; done) | (simp; omega))) _) | (with_reducible refine Fr.trans ?_ (by with_reducible assumption)))) hf9)).facts
              have FX9 := (BX.fr (Fr.trans (by repeat (first | (with_reducible exact Fr.refl _) | (with_reducible assumption) | (with_reducible refine Fr.drewN ?_ _) | (with_reducible refine Fr.drew ?_) | (with_reducible refine Fr.alloc ?_ _) | (with_reducible refine Fr.setCell ?_ (by (first | (with_reducible assumption) | omega | (simp only [World.size_alloc, World.size_setCell, World.size_drew, World.heap_drewN]; omega) | (simp; done) | (simp; omega))) _) | (with_reducible refine Fr.trans ?_ (by with_reducible assumption)))) hf9)).facts
              have BR9 := BR.fr (Fr.trans (by repeat (first | (with_reducible exact Fr.refl _) | (with_reducible assumption) | (with_reducible refine Fr.drewN ?_ _) | (with_reducible refine Fr.drew ?_) | (with_reducible refine Fr.alloc ?_ _) | (with_reducible refine Fr.setCell ?_ (by (first | (with_reducible assumption) | omega | (simp only [World.size_alloc, World.size_setCell, World.size_drew, World.heap_drewN]; omega) | (simp; done) | (simp; omega))) _) | (with_reducible refine Fr.trans ?_ (by with_reducible assumption)))) hf9)
              have FR9 := BR9.facts
              clear FC FX FR0
              go_wp2_with fail
              rw [HRL.out, HRB.out, HF.out, lrX_ok HF.out]
              refine bodyPost_ret (v := .tuple #[.agg #[.int .i64 2, .int .i64 0, .int .i64 0, .bool false, .slice ay ys.length cy, .string ⟨#[]⟩], .bool true]) (by simp [results, Try.results39, go_sem, *]) rfl ⟨_, _, rfl, ⟨_, _, rfl, ?_⟩, by repeat (first | (with_reducible exact Fr.refl _) | (with_reducible assumption) | (with_reducible refine Fr.drewN ?_ _) | (with_reducible refine Fr.drew ?_) | (with_reducible refine Fr.alloc ?_ _) | (with_reducible refine Fr.setCell ?_ (by (first | (with_reducible assumption) | omega | (simp only [World.size_alloc, World.size_setCell, World.size_drew, World.heap_drewN]; omega) | (simp; done) | (simp; omega))) _) | (with_reducible refine Fr.trans ?_ (by with_reducible assumption)))⟩
              have HO := Lib.hid (OwW.mono (OwW.fr HW.out hf9) (Nat.le_refl _) hf9.size)
              refine OwW.mono (lo := hx + 1) (hi := w9.heap.size) ?_ (by omega) (by simp)
              change OwW _ _ _ _ _ _ _ _; (repeat (first | (with_reducible refine OwW.drewN ?_ _) | (with_reducible refine OwW.drew ?_) | (with_reducible refine OwW.alloc ?_ _) | (with_reducible refine OwW.set ?_ (by (first | (with_reducible assumption) | omega | (simp only [World.size_alloc, World.size_setCell, World.size_drew, World.heap_drewN]; omega) | (simp; done) | (simp; omega))) _) | (exact HO.out)))
            · have HF : Hid (lrQ s (⟨2, 0, 0, false, ys, ⟨#[]⟩⟩, ⟨a, false⟩) = false) := Lib.hid (lrQ_ne (fun h => he (HLT.out.symm.trans h)))
              have hq := bytes_bne he
              clear he
              go_wp2_with fail
              refine (CT.out _ (by repeat (first | (with_reducible exact Fr.refl _) | (with_reducible assumption) | (with_reducible refine Fr.drewN ?_ _) | (with_reducible refine Fr.drew ?_) | (with_reducible refine Fr.alloc ?_ _) | (with_reducible refine Fr.setCell ?_ (by (first | (with_reducible assumption) | omega | (simp only [World.size_alloc, World.size_setCell, World.size_drew, World.heap_drewN]; omega) | (simp; done) | (simp; omega))) _) | (with_reducible refine Fr.trans ?_ (by with_reducible assumption))))).mono ?_
              rintro e w9 ⟨rfl, hf9⟩
              have FC9 := (BC.fr (Fr.trans (by repeat (first | (with_reducible exact Fr.refl _) | (with_reducible assumption) | (with_reducible refine Fr.drewN ?_ _) | (with_reducible refine Fr.drew ?_) | (with_reducible refine Fr.alloc ?_ _) | (with_reducible refine Fr.setCell ?_ (by (first | (with_reducible assumption) | omega | (simp only [World.size_alloc, World.size_setCell, World.size_drew, World.heap_drewN]; omega) | (simp; done) | (simp; omega))) _) | (with_reducible refine Fr.trans ?_ (by with_reducible assumption)))) hf9)).facts
              have FX9 := (BX.fr (Fr.trans (by repeat (first | (with_reducible exact Fr.refl _) | (with_reducible assumption) | (with_reducible refine Fr.drewN ?_ _) | (with_reducible refine Fr.drew ?_) | (with_reducible refine Fr.alloc ?_ _) | (with_reducible refine Fr.setCell ?_ (by (first | (with_reducible assumption) | omega | (simp only [World.size_alloc, World.size_setCell, World.size_drew, World.heap_drewN]; omega) | (simp; done) | (simp; omega))) _) | (with_reducible refine Fr.trans ?_ (by with_reducible assumption)))) hf9)).facts
              have BR9 := BR.fr (Fr.trans (by repeat (first | (with_reducible exact Fr.refl _) | (with_reducible assumption) | (with_reducible refine Fr.drewN ?_ _) | (with_reducible refine Fr.drew ?_) | (with_reducible refine Fr.alloc ?_ _) | (with_reducible refine Fr.setCell ?_ (by (first | (with_reducible assumption) | omega | (simp only [World.size_alloc, World.size_setCell, World.size_drew, World.heap_drewN]; omega) | (simp; done) | (simp; omega))) _) | (with_reducible refine Fr.trans ?_ (by with_reducible assumption)))) hf9)
              have FR9 := BR9.facts
              clear FC FX FR0
              go_wp2_with fail
              rw [HRL.out, HRB.out, HF.out, lrX_no HF.out]
              refine bodyPost_ret (v := .tuple #[.agg #[.int .i64 0, .int .i64 0, .int .i64 0, .bool false, .slice none 0 0, .string ⟨#[]⟩], .bool false]) (by simp [results, Try.results39, go_sem, *]) rfl ⟨none, 0, rfl, ⟨none, 0, rfl, OwW.nil _ _ _ _ _⟩, by repeat (first | (with_reducible exact Fr.refl _) | (with_reducible assumption) | (with_reducible refine Fr.drewN ?_ _) | (with_reducible refine Fr.drew ?_) | (with_reducible refine Fr.alloc ?_ _) | (with_reducible refine Fr.setCell ?_ (by (first | (with_reducible assumption) | omega | (simp only [World.size_alloc, World.size_setCell, World.size_drew, World.heap_drewN]; omega) | (simp; done) | (simp; omega))) _) | (with_reducible refine Fr.trans ?_ (by with_reducible assumption)))⟩
      · rcases hg with hg | ⟨hg1, hg2⟩ | ⟨hg1, hg2, hg3⟩
        all_goals
          have HF : Hid (lrQ s (⟨2, 0, 0, false, ys, ⟨#[]⟩⟩, ⟨a, true⟩) = false) := Lib.hid lrQ_bad
          go_wp2_with fail
          rw [HRL.out, HRB.out, HF.out, lrX_no HF.out]
          refine bodyPost_ret (v := .tuple #[.agg #[.int .i64 0, .int .i64 0, .int .i64 0, .bool false, .slice none 0 0, .string ⟨#[]⟩], .bool false]) (by simp [results, Try.results39, go_sem, *]) rfl ⟨none, 0, rfl, ⟨none, 0, rfl, OwW.nil _ _ _ _ _⟩, by repeat (first | (with_reducible exact Fr.refl _) | (with_reducible assumption) | (with_reducible refine Fr.drewN ?_ _) | (with_reducible refine Fr.drew ?_) | (with_reducible refine Fr.alloc ?_ _) | (with_reducible refine Fr.setCell ?_ (by (first | (with_reducible assumption) | omega | (simp only [World.size_alloc, World.size_setCell, World.size_drew, World.heap_drewN]; omega) | (simp; done) | (simp; omega))) _) | (with_reducible refine Fr.trans ?_ (by with_reducible assumption)))⟩
theorem specReadLetter_any (s : ByteArray) (w : World) (hs : s.size ≤ 1048576) :
    Calls Try.prog 39 #[.string s] w fun e w' => ∃ ao0 cap0, e = .returned (.tuple #[.agg #[.int .i64 (rdL s).f0, .int .i64 (rdL s).f1, .int .i64 (rdL s).f2, .bool (rdL s).f3, .slice ao0 (rdL s).f4.length cap0, .string (rdL s).f5], .bool (rdB s)]) ∧ LetterW w' w.heap.size w'.heap.size (.agg #[.int .i64 (rdL s).f0, .int .i64 (rdL s).f1, .int .i64 (rdL s).f2, .bool (rdL s).f3, .slice ao0 (rdL s).f4.length cap0, .string (rdL s).f5]) (rdL s) ∧ Fr w w' := by
  obtain ⟨⟨k, ⟨a1, b1⟩⟩, q1⟩ : ∃ r, scByte s ⟨0, false⟩ = r := ⟨_, rfl⟩
  by_cases h1 : k = 1
  · subst h1; exact specRd1 s w hs a1 b1 q1
  by_cases h2 : k = 2
  · subst h2; exact specRd2 s w hs a1 b1 q1
  by_cases h3 : k = 3
  · subst h3; exact specRd3 s w hs a1 b1 q1
  by_cases h5 : k = 5
  · subst h5; exact specRd5 s w hs a1 b1 q1
  by_cases h6 : k = 6
  · subst h6; exact specRd6 s w hs a1 b1 q1
  exact specRd0 s w hs k a1 b1 q1 ⟨h1, h2, h3, h5, h6⟩
end Go.Proofs.Ytphjlecbhbcbcaa
