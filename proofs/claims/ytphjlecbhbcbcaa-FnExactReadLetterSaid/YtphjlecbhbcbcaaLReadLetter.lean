/- laws.FnExactReadLetter: its walk, out of the contracts of the two functions. No condition but the sizes that the reading gives. (Printed by mk_law.py.) -/
import Derived.Test.YtphjlecbhbcbcaaLetV
import Derived.Test.YtphjlecbhbcbcaaOLetter
import Derived.Deep.RegionHeld3
import Derived.Deep.Cut
namespace Go.Proofs.Ytphjlecbhbcbcaa
open Go.RowKit
set_option linter.unusedVariables false
set_option linter.unusedSimpArgs false
set_option maxHeartbeats 4000000 in
set_option maxRecDepth 100000 in
theorem fnReadLetter_of (a0 : ByteArray) (hz0 : a0.size ≤ maxLen) (w : World)  (r0 : LetterD) (hr0 : a0.size ≤ 1048576 → r0.cnt ≤ 100000000) (r1 : Bool)
    (hspec : a0.size ≤ 1048576 → ∀ (w : World), Calls Try.prog 39 #[.string a0] w fun e w' => ∃ ao0 cap0, e = .returned (.tuple #[.agg #[.int .i64 r0.f0, .int .i64 r0.f1, .int .i64 r0.f2, .bool r0.f3, .slice ao0 r0.f4.length cap0, .string r0.f5], .bool r1]) ∧ LetterW w' w.heap.size w'.heap.size (.agg #[.int .i64 r0.f0, .int .i64 r0.f1, .int .i64 r0.f2, .bool r0.f3, .slice ao0 r0.f4.length cap0, .string r0.f5]) r0 ∧ Fr w w')
    (himpl : a0.size ≤ 1048576 → ∀ (w : World), Calls Try.prog 40 #[.string a0] w fun e w' => ∃ ao0 cap0, e = .returned (.tuple #[.agg #[.int .i64 r0.f0, .int .i64 r0.f1, .int .i64 r0.f2, .bool r0.f3, .slice ao0 r0.f4.length cap0, .string r0.f5], .bool r1]) ∧ LetterW w' w.heap.size w'.heap.size (.agg #[.int .i64 r0.f0, .int .i64 r0.f1, .int .i64 r0.f2, .bool r0.f3, .slice ao0 r0.f4.length cap0, .string r0.f5]) r0 ∧ Fr w w') :
    Calls Try.prog 7 #[.string a0] w fun e w' => e = .returned (.bool true) ∧ Fr w w' := by
  by_cases hl0 : (a0.size : Int) ≤ 1048576
  · skip
    replace hr0 := hr0 (by omega)
    have HS := Lib.hid (hspec (by omega))
    have HI := Lib.hid (himpl (by omega))
    clear hspec himpl
    go_enter Try.func7, Try.ntmps7
    go_wp2_with fail
    refine (HS.out _).mono ?_
    rintro e w1 ⟨aow0, capw0, rfl, ow0, hf1⟩
    have zhf1 := hf1.size; (try simp only [World.size_alloc, World.size_setCell, World.size_drew] at zhf1)
    go_wp2_with fail
    refine (HI.out _).mono ?_
    rintro e w2 ⟨aog0, capg0, rfl, og0, hf2⟩
    have zhf2 := hf2.size; (try simp only [World.size_alloc, World.size_setCell, World.size_drew] at zhf2)
    have Bw0 : Box w2 (w1.heap.size) #[.int .i64 r0.f0, .int .i64 r0.f1, .int .i64 r0.f2, .bool r0.f3, .slice aow0 r0.f4.length capw0, .string r0.f5] 38 := (Box.new' (w := w1) (X := #[.int .i64 r0.f0, .int .i64 r0.f1, .int .i64 r0.f2, .bool r0.f3, .slice aow0 r0.f4.length capw0, .string r0.f5]) (T := 38) (by simp)).fr (by repeat (first | (with_reducible exact Fr.refl _) | (with_reducible assumption) | (with_reducible refine Fr.drewN ?_ _) | (with_reducible refine Fr.drew ?_) | (with_reducible refine Fr.alloc ?_ _) | (with_reducible refine Fr.setCell ?_ (by (first | (with_reducible assumption) | omega | (simp only [World.size_alloc, World.size_setCell, World.size_drew, World.heap_drewN]; omega) | (simp; done) | (simp; omega))) _) | (with_reducible refine Fr.trans ?_ (by with_reducible assumption))))
    have Fw0 := Bw0.facts
    go_wp2_with fail
    refine (eqLetter_same _ _ r0 _ (og0.rd.fr (by repeat (first | (with_reducible exact Fr.refl _) | (with_reducible assumption) | (with_reducible refine Fr.drewN ?_ _) | (with_reducible refine Fr.drew ?_) | (with_reducible refine Fr.alloc ?_ _) | (with_reducible refine Fr.setCell ?_ (by (first | (with_reducible assumption) | omega | (simp only [World.size_alloc, World.size_setCell, World.size_drew, World.heap_drewN]; omega) | (simp; done) | (simp; omega))) _) | (with_reducible refine Fr.trans ?_ (by with_reducible assumption))))) (ow0.rd.fr (by repeat (first | (with_reducible exact Fr.refl _) | (with_reducible assumption) | (with_reducible refine Fr.drewN ?_ _) | (with_reducible refine Fr.drew ?_) | (with_reducible refine Fr.alloc ?_ _) | (with_reducible refine Fr.setCell ?_ (by (first | (with_reducible assumption) | omega | (simp only [World.size_alloc, World.size_setCell, World.size_drew, World.heap_drewN]; omega) | (simp; done) | (simp; omega))) _) | (with_reducible refine Fr.trans ?_ (by with_reducible assumption)))))).mono ?_
    rintro e w3 ⟨rfl, hf3⟩
    have zhf3 := hf3.size; (try simp only [World.size_alloc, World.size_setCell, World.size_drew] at zhf3)
    have Bw0 := Bw0.fr (show Fr w2 w3 by repeat (first | (with_reducible exact Fr.refl _) | (with_reducible assumption) | (with_reducible refine Fr.drewN ?_ _) | (with_reducible refine Fr.drew ?_) | (with_reducible refine Fr.alloc ?_ _) | (with_reducible refine Fr.setCell ?_ (by (first | (with_reducible assumption) | omega | (simp only [World.size_alloc, World.size_setCell, World.size_drew, World.heap_drewN]; omega) | (simp; done) | (simp; omega))) _) | (with_reducible refine Fr.trans ?_ (by with_reducible assumption))))
    have Bg0 : Box w3 (w2.heap.size) #[.int .i64 r0.f0, .int .i64 r0.f1, .int .i64 r0.f2, .bool r0.f3, .slice aog0 r0.f4.length capg0, .string r0.f5] 38 := (Box.new' (w := w2) (X := #[.int .i64 r0.f0, .int .i64 r0.f1, .int .i64 r0.f2, .bool r0.f3, .slice aog0 r0.f4.length capg0, .string r0.f5]) (T := 38) (by simp)).fr (by repeat (first | (with_reducible exact Fr.refl _) | (with_reducible assumption) | (with_reducible refine Fr.drewN ?_ _) | (with_reducible refine Fr.drew ?_) | (with_reducible refine Fr.alloc ?_ _) | (with_reducible refine Fr.setCell ?_ (by (first | (with_reducible assumption) | omega | (simp only [World.size_alloc, World.size_setCell, World.size_drew, World.heap_drewN]; omega) | (simp; done) | (simp; omega))) _) | (with_reducible refine Fr.trans ?_ (by with_reducible assumption))))
    clear Fw0
    have Fw0 := Bw0.facts
    have Fg0 := Bg0.facts
    go_wp2_with fail
    refine (markLetter_w _ r0 1 ((w1.alloc (.cells #[.int .i64 r0.f0, .int .i64 r0.f1, .int .i64 r0.f2, .bool r0.f3, .slice aow0 r0.f4.length capw0, .string r0.f5] 38)).heap.size) (w2.heap.size) _ (og0.fr (by repeat (first | (with_reducible exact Fr.refl _) | (with_reducible assumption) | (with_reducible refine Fr.drewN ?_ _) | (with_reducible refine Fr.drew ?_) | (with_reducible refine Fr.alloc ?_ _) | (with_reducible refine Fr.setCell ?_ (by (first | (with_reducible assumption) | omega | (simp only [World.size_alloc, World.size_setCell, World.size_drew, World.heap_drewN]; omega) | (simp; done) | (simp; omega))) _) | (with_reducible refine Fr.trans ?_ (by with_reducible assumption))))) (by (first | (with_reducible assumption) | omega | (simp only [World.size_alloc, World.size_setCell, World.size_drew, World.heap_drewN]; omega) | (simp; done) | (simp; omega))) (by omega) (by omega)).mono ?_
    rintro e w4 ⟨rfl, omg0, sp4⟩
    have zsp4 := sp4.size; (try simp only [World.size_alloc, World.size_setCell, World.size_drew] at zsp4)
    have ow0_4 := (ow0.fr (show Fr w1 w3 by repeat (first | (with_reducible exact Fr.refl _) | (with_reducible assumption) | (with_reducible refine Fr.drewN ?_ _) | (with_reducible refine Fr.drew ?_) | (with_reducible refine Fr.alloc ?_ _) | (with_reducible refine Fr.setCell ?_ (by (first | (with_reducible assumption) | omega | (simp only [World.size_alloc, World.size_setCell, World.size_drew, World.heap_drewN]; omega) | (simp; done) | (simp; omega))) _) | (with_reducible refine Fr.trans ?_ (by with_reducible assumption))))).span sp4 (by (first | (with_reducible assumption) | omega | (simp only [World.size_alloc, World.size_setCell, World.size_drew, World.heap_drewN]; omega) | (simp; done) | (simp; omega)))
    have Bw0 := (Bw0.fr (show Fr w3 w3 by repeat (first | (with_reducible exact Fr.refl _) | (with_reducible assumption) | (with_reducible refine Fr.drewN ?_ _) | (with_reducible refine Fr.drew ?_) | (with_reducible refine Fr.alloc ?_ _) | (with_reducible refine Fr.setCell ?_ (by (first | (with_reducible assumption) | omega | (simp only [World.size_alloc, World.size_setCell, World.size_drew, World.heap_drewN]; omega) | (simp; done) | (simp; omega))) _) | (with_reducible refine Fr.trans ?_ (by with_reducible assumption))))).span sp4 (by (first | (with_reducible assumption) | omega | (simp only [World.size_alloc, World.size_setCell, World.size_drew, World.heap_drewN]; omega) | (simp; done) | (simp; omega)))
    have Bg0 := (Bg0.fr (show Fr w3 w3 by repeat (first | (with_reducible exact Fr.refl _) | (with_reducible assumption) | (with_reducible refine Fr.drewN ?_ _) | (with_reducible refine Fr.drew ?_) | (with_reducible refine Fr.alloc ?_ _) | (with_reducible refine Fr.setCell ?_ (by (first | (with_reducible assumption) | omega | (simp only [World.size_alloc, World.size_setCell, World.size_drew, World.heap_drewN]; omega) | (simp; done) | (simp; omega))) _) | (with_reducible refine Fr.trans ?_ (by with_reducible assumption))))).span sp4 (by (first | (with_reducible assumption) | omega | (simp only [World.size_alloc, World.size_setCell, World.size_drew, World.heap_drewN]; omega) | (simp; done) | (simp; omega)))
    have hF4 : Fr w w4 := Span.fr (show Fr w w3 by repeat (first | (with_reducible exact Fr.refl _) | (with_reducible assumption) | (with_reducible refine Fr.drewN ?_ _) | (with_reducible refine Fr.drew ?_) | (with_reducible refine Fr.alloc ?_ _) | (with_reducible refine Fr.setCell ?_ (by (first | (with_reducible assumption) | omega | (simp only [World.size_alloc, World.size_setCell, World.size_drew, World.heap_drewN]; omega) | (simp; done) | (simp; omega))) _) | (with_reducible refine Fr.trans ?_ (by with_reducible assumption)))) sp4 (by (first | (with_reducible assumption) | omega | (simp only [World.size_alloc, World.size_setCell, World.size_drew, World.heap_drewN]; omega) | (simp; done) | (simp; omega)))
    clear Fw0 Fg0
    have Fw0 := Bw0.facts
    have Fg0 := Bg0.facts
    obtain ⟨mg0, hmg0⟩ : ∃ q : Int, 1 + ((r0.cnt : Nat) : Int) = q := ⟨_, rfl⟩
    have hpmg0 : 0 < mg0 := by omega
    have hbmg0 : mg0 ≤ 150000000 := by omega
    have hdmg0 : decide (mg0 < 0) = false := by simp; omega
    rw [hmg0]
    have hheldg0 := fun (W : World) (hf : Fr w4 W) => heldLetter_w (.agg #[.int .i64 r0.f0, .int .i64 r0.f1, .int .i64 r0.f2, .bool r0.f3, .slice aog0 r0.f4.length capg0, .string r0.f5]) r0 1 W (omg0.rd.fr hf) (by omega) (by omega)
    rw [hmg0] at hheldg0
    have HHg0 := Lib.hid hheldg0
    clear hheldg0
    clear hmg0
    go_wp2_with fail
    refine (HHg0.out _ (by repeat (first | (with_reducible exact Fr.refl _) | (with_reducible assumption) | (with_reducible refine Fr.drewN ?_ _) | (with_reducible refine Fr.drew ?_) | (with_reducible refine Fr.alloc ?_ _) | (with_reducible refine Fr.setCell ?_ (by (first | (with_reducible assumption) | omega | (simp only [World.size_alloc, World.size_setCell, World.size_drew, World.heap_drewN]; omega) | (simp; done) | (simp; omega))) _) | (with_reducible refine Fr.trans ?_ (by with_reducible assumption))))).mono ?_
    rintro e w5 ⟨rfl, hf5⟩
    have zhf5 := hf5.size; (try simp only [World.size_alloc, World.size_setCell, World.size_drew] at zhf5)
    have Bw0 := Bw0.fr (show Fr w4 w5 by repeat (first | (with_reducible exact Fr.refl _) | (with_reducible assumption) | (with_reducible refine Fr.drewN ?_ _) | (with_reducible refine Fr.drew ?_) | (with_reducible refine Fr.alloc ?_ _) | (with_reducible refine Fr.setCell ?_ (by (first | (with_reducible assumption) | omega | (simp only [World.size_alloc, World.size_setCell, World.size_drew, World.heap_drewN]; omega) | (simp; done) | (simp; omega))) _) | (with_reducible refine Fr.trans ?_ (by with_reducible assumption))))
    have Bg0 := Bg0.fr (show Fr w4 w5 by repeat (first | (with_reducible exact Fr.refl _) | (with_reducible assumption) | (with_reducible refine Fr.drewN ?_ _) | (with_reducible refine Fr.drew ?_) | (with_reducible refine Fr.alloc ?_ _) | (with_reducible refine Fr.setCell ?_ (by (first | (with_reducible assumption) | omega | (simp only [World.size_alloc, World.size_setCell, World.size_drew, World.heap_drewN]; omega) | (simp; done) | (simp; omega))) _) | (with_reducible refine Fr.trans ?_ (by with_reducible assumption))))
    clear Fw0 Fg0
    have Fw0 := Bw0.facts
    have Fg0 := Bg0.facts
    go_wp2_with fail
    refine (HI.out _).mono ?_
    rintro e w6 ⟨aoh0, caph0, rfl, oh0, hf6⟩
    have zhf6 := hf6.size; (try simp only [World.size_alloc, World.size_setCell, World.size_drew] at zhf6)
    have Bw0 := Bw0.fr (show Fr w5 w6 by repeat (first | (with_reducible exact Fr.refl _) | (with_reducible assumption) | (with_reducible refine Fr.drewN ?_ _) | (with_reducible refine Fr.drew ?_) | (with_reducible refine Fr.alloc ?_ _) | (with_reducible refine Fr.setCell ?_ (by (first | (with_reducible assumption) | omega | (simp only [World.size_alloc, World.size_setCell, World.size_drew, World.heap_drewN]; omega) | (simp; done) | (simp; omega))) _) | (with_reducible refine Fr.trans ?_ (by with_reducible assumption))))
    have Bg0 := Bg0.fr (show Fr w5 w6 by repeat (first | (with_reducible exact Fr.refl _) | (with_reducible assumption) | (with_reducible refine Fr.drewN ?_ _) | (with_reducible refine Fr.drew ?_) | (with_reducible refine Fr.alloc ?_ _) | (with_reducible refine Fr.setCell ?_ (by (first | (with_reducible assumption) | omega | (simp only [World.size_alloc, World.size_setCell, World.size_drew, World.heap_drewN]; omega) | (simp; done) | (simp; omega))) _) | (with_reducible refine Fr.trans ?_ (by with_reducible assumption))))
    clear Fw0 Fg0
    have Fw0 := Bw0.facts
    have Fg0 := Bg0.facts
    go_wp2_with fail
    refine (eqLetter_same _ _ r0 _ (oh0.rd.fr (by repeat (first | (with_reducible exact Fr.refl _) | (with_reducible assumption) | (with_reducible refine Fr.drewN ?_ _) | (with_reducible refine Fr.drew ?_) | (with_reducible refine Fr.alloc ?_ _) | (with_reducible refine Fr.setCell ?_ (by (first | (with_reducible assumption) | omega | (simp only [World.size_alloc, World.size_setCell, World.size_drew, World.heap_drewN]; omega) | (simp; done) | (simp; omega))) _) | (with_reducible refine Fr.trans ?_ (by with_reducible assumption))))) (ow0_4.rd.fr (by repeat (first | (with_reducible exact Fr.refl _) | (with_reducible assumption) | (with_reducible refine Fr.drewN ?_ _) | (with_reducible refine Fr.drew ?_) | (with_reducible refine Fr.alloc ?_ _) | (with_reducible refine Fr.setCell ?_ (by (first | (with_reducible assumption) | omega | (simp only [World.size_alloc, World.size_setCell, World.size_drew, World.heap_drewN]; omega) | (simp; done) | (simp; omega))) _) | (with_reducible refine Fr.trans ?_ (by with_reducible assumption)))))).mono ?_
    rintro e w7 ⟨rfl, hf7⟩
    have zhf7 := hf7.size; (try simp only [World.size_alloc, World.size_setCell, World.size_drew] at zhf7)
    have Bw0 := Bw0.fr (show Fr w6 w7 by repeat (first | (with_reducible exact Fr.refl _) | (with_reducible assumption) | (with_reducible refine Fr.drewN ?_ _) | (with_reducible refine Fr.drew ?_) | (with_reducible refine Fr.alloc ?_ _) | (with_reducible refine Fr.setCell ?_ (by (first | (with_reducible assumption) | omega | (simp only [World.size_alloc, World.size_setCell, World.size_drew, World.heap_drewN]; omega) | (simp; done) | (simp; omega))) _) | (with_reducible refine Fr.trans ?_ (by with_reducible assumption))))
    have Bg0 := Bg0.fr (show Fr w6 w7 by repeat (first | (with_reducible exact Fr.refl _) | (with_reducible assumption) | (with_reducible refine Fr.drewN ?_ _) | (with_reducible refine Fr.drew ?_) | (with_reducible refine Fr.alloc ?_ _) | (with_reducible refine Fr.setCell ?_ (by (first | (with_reducible assumption) | omega | (simp only [World.size_alloc, World.size_setCell, World.size_drew, World.heap_drewN]; omega) | (simp; done) | (simp; omega))) _) | (with_reducible refine Fr.trans ?_ (by with_reducible assumption))))
    have Bh0 : Box w7 (w6.heap.size) #[.int .i64 r0.f0, .int .i64 r0.f1, .int .i64 r0.f2, .bool r0.f3, .slice aoh0 r0.f4.length caph0, .string r0.f5] 38 := (Box.new' (w := w6) (X := #[.int .i64 r0.f0, .int .i64 r0.f1, .int .i64 r0.f2, .bool r0.f3, .slice aoh0 r0.f4.length caph0, .string r0.f5]) (T := 38) (by simp)).fr (by repeat (first | (with_reducible exact Fr.refl _) | (with_reducible assumption) | (with_reducible refine Fr.drewN ?_ _) | (with_reducible refine Fr.drew ?_) | (with_reducible refine Fr.alloc ?_ _) | (with_reducible refine Fr.setCell ?_ (by (first | (with_reducible assumption) | omega | (simp only [World.size_alloc, World.size_setCell, World.size_drew, World.heap_drewN]; omega) | (simp; done) | (simp; omega))) _) | (with_reducible refine Fr.trans ?_ (by with_reducible assumption))))
    clear Fw0 Fg0
    have Fw0 := Bw0.facts
    have Fg0 := Bg0.facts
    have Fh0 := Bh0.facts
    go_wp2_with fail
    refine (HHg0.out _ (by repeat (first | (with_reducible exact Fr.refl _) | (with_reducible assumption) | (with_reducible refine Fr.drewN ?_ _) | (with_reducible refine Fr.drew ?_) | (with_reducible refine Fr.alloc ?_ _) | (with_reducible refine Fr.setCell ?_ (by (first | (with_reducible assumption) | omega | (simp only [World.size_alloc, World.size_setCell, World.size_drew, World.heap_drewN]; omega) | (simp; done) | (simp; omega))) _) | (with_reducible refine Fr.trans ?_ (by with_reducible assumption))))).mono ?_
    rintro e w8 ⟨rfl, hf8⟩
    have zhf8 := hf8.size; (try simp only [World.size_alloc, World.size_setCell, World.size_drew] at zhf8)
    have Bw0 := Bw0.fr (show Fr w7 w8 by repeat (first | (with_reducible exact Fr.refl _) | (with_reducible assumption) | (with_reducible refine Fr.drewN ?_ _) | (with_reducible refine Fr.drew ?_) | (with_reducible refine Fr.alloc ?_ _) | (with_reducible refine Fr.setCell ?_ (by (first | (with_reducible assumption) | omega | (simp only [World.size_alloc, World.size_setCell, World.size_drew, World.heap_drewN]; omega) | (simp; done) | (simp; omega))) _) | (with_reducible refine Fr.trans ?_ (by with_reducible assumption))))
    have Bg0 := Bg0.fr (show Fr w7 w8 by repeat (first | (with_reducible exact Fr.refl _) | (with_reducible assumption) | (with_reducible refine Fr.drewN ?_ _) | (with_reducible refine Fr.drew ?_) | (with_reducible refine Fr.alloc ?_ _) | (with_reducible refine Fr.setCell ?_ (by (first | (with_reducible assumption) | omega | (simp only [World.size_alloc, World.size_setCell, World.size_drew, World.heap_drewN]; omega) | (simp; done) | (simp; omega))) _) | (with_reducible refine Fr.trans ?_ (by with_reducible assumption))))
    have Bh0 := Bh0.fr (show Fr w7 w8 by repeat (first | (with_reducible exact Fr.refl _) | (with_reducible assumption) | (with_reducible refine Fr.drewN ?_ _) | (with_reducible refine Fr.drew ?_) | (with_reducible refine Fr.alloc ?_ _) | (with_reducible refine Fr.setCell ?_ (by (first | (with_reducible assumption) | omega | (simp only [World.size_alloc, World.size_setCell, World.size_drew, World.heap_drewN]; omega) | (simp; done) | (simp; omega))) _) | (with_reducible refine Fr.trans ?_ (by with_reducible assumption))))
    clear Fw0 Fg0 Fh0
    have Fw0 := Bw0.facts
    have Fg0 := Bg0.facts
    have Fh0 := Bh0.facts
    go_wp2_with fail
    go_ret
    exact ⟨rfl, by repeat (first | (with_reducible exact Fr.refl _) | (with_reducible assumption) | (with_reducible refine Fr.drewN ?_ _) | (with_reducible refine Fr.drew ?_) | (with_reducible refine Fr.alloc ?_ _) | (with_reducible refine Fr.setCell ?_ (by (first | (with_reducible assumption) | omega | (simp only [World.size_alloc, World.size_setCell, World.size_drew, World.heap_drewN]; omega) | (simp; done) | (simp; omega))) _) | (with_reducible refine Fr.trans ?_ (by with_reducible assumption)))⟩
  · skip
    clear hspec himpl
    go_enter Try.func7, Try.ntmps7
    go_wp2_with fail
    go_ret
    exact ⟨rfl, by repeat (first | (with_reducible exact Fr.refl _) | (with_reducible assumption) | (with_reducible refine Fr.drewN ?_ _) | (with_reducible refine Fr.drew ?_) | (with_reducible refine Fr.alloc ?_ _) | (with_reducible refine Fr.setCell ?_ (by (first | (with_reducible assumption) | omega | (simp only [World.size_alloc, World.size_setCell, World.size_drew, World.heap_drewN]; omega) | (simp; done) | (simp; omega))) _) | (with_reducible refine Fr.trans ?_ (by with_reducible assumption)))⟩
end Go.Proofs.Ytphjlecbhbcbcaa
