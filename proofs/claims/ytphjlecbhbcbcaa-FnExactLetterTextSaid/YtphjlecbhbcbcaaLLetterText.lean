/- laws.FnExactLetterText: its walk, out of the contracts of the two functions. No condition but the sizes that the reading gives. (Printed by mk_law.py.) -/
import Derived.Test.YtphjlecbhbcbcaaLetU
import Derived.Test.YtphjlecbhbcbcaaOLetter
import Derived.Deep.RegionHeld3
import Derived.Deep.Cut
namespace Go.Proofs.Ytphjlecbhbcbcaa
open Go.RowKit
set_option linter.unusedVariables false
set_option linter.unusedSimpArgs false
set_option maxHeartbeats 4000000 in
set_option maxRecDepth 100000 in
theorem fnLetterText_of (v0 : Value) (d0 : LetterD) (hs0 : d0.okSize) (w : World) (hv0 : LetterRd w v0 d0) (r0 : ByteArray) (r1 : Bool)
    (hspec : d0.f4.length ≤ 1048576 → d0.bulk ≤ 1048576 → ∀ (v0 : Value) (w : World), LetterRd w v0 d0 → Calls Try.prog 37 #[v0] w fun e w' => e = .returned (.tuple #[.string r0, .bool r1]) ∧ Fr w w')
    (himpl : d0.f4.length ≤ 1048576 → d0.bulk ≤ 1048576 → ∀ (v0 : Value) (w : World), LetterRd w v0 d0 → Calls Try.prog 38 #[v0] w fun e w' => e = .returned (.tuple #[.string r0, .bool r1]) ∧ Fr w w') :
    Calls Try.prog 6 #[v0] w fun e w' => e = .returned (.bool true) ∧ Fr w w' := by
  obtain ⟨u0, rfl, hu0⟩ := hv0
  have hv0 : LetterRd w _ d0 := ⟨_, rfl, hu0⟩
  by_cases hl0 : ((d0.bulk : Nat) : Int) ≤ 1048576
  · skip
    obtain ⟨q0, hq0⟩ : ∃ q : Int, szR 1048576 (d0.bulk) = q := ⟨_, rfl⟩
    have hqa0 : q0 = 1048576 - ((d0.bulk : Nat) : Int) := by rw [← hq0, szR_ok hl0]
    have HQ0 := Lib.hid hq0
    have hqb0 : 0 ≤ q0 := by omega
    have hqc0 : q0 ≤ 1048576 := by omega
    clear hq0 hqa0
    have hn0 : d0.f4.length ≤ 1048576 := by have := hl0; unfold LetterD.bulk at this; omega
    have hc0 : d0.cnt ≤ 100000000 := by unfold LetterD.cnt; omega
    have HS := Lib.hid (hspec hn0 (by omega))
    have HI := Lib.hid (himpl hn0 (by omega))
    clear hspec himpl
    go_enter Try.func6, Try.ntmps6
    go_wp2_with fail
    refine (szLetter_w _ d0 _ _ (hv0.fr (by repeat (first | (with_reducible exact Fr.refl _) | (with_reducible assumption) | (with_reducible refine Fr.drewN ?_ _) | (with_reducible refine Fr.drew ?_) | (with_reducible refine Fr.alloc ?_ _) | (with_reducible refine Fr.setCell ?_ (by (first | (with_reducible assumption) | omega | (simp only [World.size_alloc, World.size_setCell, World.size_drew, World.heap_drewN]; omega) | (simp; done) | (simp; omega))) _) | (with_reducible refine Fr.trans ?_ (by with_reducible assumption))))) hs0 (by omega) (by omega)).mono ?_
    rintro e w1 ⟨rfl, hf1⟩
    have zhf1 := hf1.size; (try simp only [World.size_alloc, World.size_setCell, World.size_drew] at zhf1)
    have BA0 : Box w1 (w.heap.size) #[.int .i64 d0.f0, .int .i64 d0.f1, .int .i64 d0.f2, .bool d0.f3, u0, .string d0.f5] 34 := (Box.new' (w := w) (X := #[.int .i64 d0.f0, .int .i64 d0.f1, .int .i64 d0.f2, .bool d0.f3, u0, .string d0.f5]) (T := 34) (by simp)).fr (by repeat (first | (with_reducible exact Fr.refl _) | (with_reducible assumption) | (with_reducible refine Fr.drewN ?_ _) | (with_reducible refine Fr.drew ?_) | (with_reducible refine Fr.alloc ?_ _) | (with_reducible refine Fr.setCell ?_ (by (first | (with_reducible assumption) | omega | (simp only [World.size_alloc, World.size_setCell, World.size_drew, World.heap_drewN]; omega) | (simp; done) | (simp; omega))) _) | (with_reducible refine Fr.trans ?_ (by with_reducible assumption))))
    have FA0 := BA0.facts
    rw [HQ0.out]
    go_wp2_with fail
    refine (toLetter_w _ d0 _ (hv0.fr (by repeat (first | (with_reducible exact Fr.refl _) | (with_reducible assumption) | (with_reducible refine Fr.drewN ?_ _) | (with_reducible refine Fr.drew ?_) | (with_reducible refine Fr.alloc ?_ _) | (with_reducible refine Fr.setCell ?_ (by (first | (with_reducible assumption) | omega | (simp only [World.size_alloc, World.size_setCell, World.size_drew, World.heap_drewN]; omega) | (simp; done) | (simp; omega))) _) | (with_reducible refine Fr.trans ?_ (by with_reducible assumption))))) hn0).mono ?_
    rintro e w2 ⟨aot2, capt2, rfl, ht2, hf2⟩
    have zhf2 := hf2.size; (try simp only [World.size_alloc, World.size_setCell, World.size_drew] at zhf2)
    have BA0 := BA0.fr (show Fr w1 w2 by repeat (first | (with_reducible exact Fr.refl _) | (with_reducible assumption) | (with_reducible refine Fr.drewN ?_ _) | (with_reducible refine Fr.drew ?_) | (with_reducible refine Fr.alloc ?_ _) | (with_reducible refine Fr.setCell ?_ (by (first | (with_reducible assumption) | omega | (simp only [World.size_alloc, World.size_setCell, World.size_drew, World.heap_drewN]; omega) | (simp; done) | (simp; omega))) _) | (with_reducible refine Fr.trans ?_ (by with_reducible assumption))))
    clear FA0
    have FA0 := BA0.facts
    go_wp2_with fail
    refine (HS.out _ _ (ht2.rd.fr (by repeat (first | (with_reducible exact Fr.refl _) | (with_reducible assumption) | (with_reducible refine Fr.drewN ?_ _) | (with_reducible refine Fr.drew ?_) | (with_reducible refine Fr.alloc ?_ _) | (with_reducible refine Fr.setCell ?_ (by (first | (with_reducible assumption) | omega | (simp only [World.size_alloc, World.size_setCell, World.size_drew, World.heap_drewN]; omega) | (simp; done) | (simp; omega))) _) | (with_reducible refine Fr.trans ?_ (by with_reducible assumption)))))).mono ?_
    rintro e w3 ⟨rfl, hf3⟩
    have zhf3 := hf3.size; (try simp only [World.size_alloc, World.size_setCell, World.size_drew] at zhf3)
    have BA0 := BA0.fr (show Fr w2 w3 by repeat (first | (with_reducible exact Fr.refl _) | (with_reducible assumption) | (with_reducible refine Fr.drewN ?_ _) | (with_reducible refine Fr.drew ?_) | (with_reducible refine Fr.alloc ?_ _) | (with_reducible refine Fr.setCell ?_ (by (first | (with_reducible assumption) | omega | (simp only [World.size_alloc, World.size_setCell, World.size_drew, World.heap_drewN]; omega) | (simp; done) | (simp; omega))) _) | (with_reducible refine Fr.trans ?_ (by with_reducible assumption))))
    clear FA0
    have FA0 := BA0.facts
    go_wp2_with fail
    refine (toLetter_w _ d0 _ (hv0.fr (by repeat (first | (with_reducible exact Fr.refl _) | (with_reducible assumption) | (with_reducible refine Fr.drewN ?_ _) | (with_reducible refine Fr.drew ?_) | (with_reducible refine Fr.alloc ?_ _) | (with_reducible refine Fr.setCell ?_ (by (first | (with_reducible assumption) | omega | (simp only [World.size_alloc, World.size_setCell, World.size_drew, World.heap_drewN]; omega) | (simp; done) | (simp; omega))) _) | (with_reducible refine Fr.trans ?_ (by with_reducible assumption))))) hn0).mono ?_
    rintro e w4 ⟨aot4, capt4, rfl, ht4, hf4⟩
    have zhf4 := hf4.size; (try simp only [World.size_alloc, World.size_setCell, World.size_drew] at zhf4)
    have BA0 := BA0.fr (show Fr w3 w4 by repeat (first | (with_reducible exact Fr.refl _) | (with_reducible assumption) | (with_reducible refine Fr.drewN ?_ _) | (with_reducible refine Fr.drew ?_) | (with_reducible refine Fr.alloc ?_ _) | (with_reducible refine Fr.setCell ?_ (by (first | (with_reducible assumption) | omega | (simp only [World.size_alloc, World.size_setCell, World.size_drew, World.heap_drewN]; omega) | (simp; done) | (simp; omega))) _) | (with_reducible refine Fr.trans ?_ (by with_reducible assumption))))
    clear FA0
    have FA0 := BA0.facts
    have ox0 := ht4
    go_wp2_with fail
    refine (HI.out _ _ (ox0.rd.fr (by repeat (first | (with_reducible exact Fr.refl _) | (with_reducible assumption) | (with_reducible refine Fr.drewN ?_ _) | (with_reducible refine Fr.drew ?_) | (with_reducible refine Fr.alloc ?_ _) | (with_reducible refine Fr.setCell ?_ (by (first | (with_reducible assumption) | omega | (simp only [World.size_alloc, World.size_setCell, World.size_drew, World.heap_drewN]; omega) | (simp; done) | (simp; omega))) _) | (with_reducible refine Fr.trans ?_ (by with_reducible assumption)))))).mono ?_
    rintro e w5 ⟨rfl, hf5⟩
    have zhf5 := hf5.size; (try simp only [World.size_alloc, World.size_setCell, World.size_drew] at zhf5)
    have BA0 := BA0.fr (show Fr w4 w5 by repeat (first | (with_reducible exact Fr.refl _) | (with_reducible assumption) | (with_reducible refine Fr.drewN ?_ _) | (with_reducible refine Fr.drew ?_) | (with_reducible refine Fr.alloc ?_ _) | (with_reducible refine Fr.setCell ?_ (by (first | (with_reducible assumption) | omega | (simp only [World.size_alloc, World.size_setCell, World.size_drew, World.heap_drewN]; omega) | (simp; done) | (simp; omega))) _) | (with_reducible refine Fr.trans ?_ (by with_reducible assumption))))
    have Bx0 : Box w5 (w4.heap.size) #[.int .i64 d0.f0, .int .i64 d0.f1, .int .i64 d0.f2, .bool d0.f3, .slice aot4 d0.f4.length capt4, .string d0.f5] 38 := (Box.new' (w := w4) (X := #[.int .i64 d0.f0, .int .i64 d0.f1, .int .i64 d0.f2, .bool d0.f3, .slice aot4 d0.f4.length capt4, .string d0.f5]) (T := 38) (by simp)).fr (by repeat (first | (with_reducible exact Fr.refl _) | (with_reducible assumption) | (with_reducible refine Fr.drewN ?_ _) | (with_reducible refine Fr.drew ?_) | (with_reducible refine Fr.alloc ?_ _) | (with_reducible refine Fr.setCell ?_ (by (first | (with_reducible assumption) | omega | (simp only [World.size_alloc, World.size_setCell, World.size_drew, World.heap_drewN]; omega) | (simp; done) | (simp; omega))) _) | (with_reducible refine Fr.trans ?_ (by with_reducible assumption))))
    clear FA0
    have FA0 := BA0.facts
    have Fx0 := Bx0.facts
    have RA0 : ∀ w', Sf w5 w' → ∀ o, w'.cell? ⟨w.heap.size, o, none⟩ = _ := fun w' h o => (BA0.fr h.out).cell o
    have Rx0 : ∀ w', Sf w5 w' → ∀ o, w'.cell? ⟨w4.heap.size, o, none⟩ = _ := fun w' h o => (Bx0.fr h.out).cell o
    go_wp2_with fail
    go_region_held3 (fun w' => Sf w5 w') ((refine Sf.mk ?_; repeat (first | (with_reducible exact Fr.refl _) | (with_reducible assumption) | (with_reducible refine Fr.drewN ?_ _) | (with_reducible refine Fr.drew ?_) | (with_reducible refine Fr.alloc ?_ _) | (with_reducible refine Fr.setCell ?_ (by (first | (with_reducible assumption) | omega | (simp only [World.size_alloc, World.size_setCell, World.size_drew, World.heap_drewN]; omega) | (simp; done) | (simp; omega))) _) | (with_reducible refine Fr.trans ?_ (by with_reducible assumption))))) (first | (go_at_call 25; refine (toLetter_w _ d0 _ (hv0.fr (by repeat (first | (with_reducible exact Fr.refl _) | (with_reducible assumption) | (with_reducible refine Fr.drewN ?_ _) | (with_reducible refine Fr.drew ?_) | (with_reducible refine Fr.alloc ?_ _) | (with_reducible refine Fr.setCell ?_ (by (first | (with_reducible assumption) | omega | (simp only [World.size_alloc, World.size_setCell, World.size_drew, World.heap_drewN]; omega) | (simp; done) | (simp; omega))) _) | (with_reducible refine Fr.trans ?_ (by with_reducible assumption))))) hn0).mono ?_; rintro e w6 ⟨aot6, capt6, rfl, ht6, hf6⟩) | (go_at_call 27; refine (eqLetter_same _ _ d0 _ (ox0.rd.fr (by repeat (first | (with_reducible exact Fr.refl _) | (with_reducible assumption) | (with_reducible refine Fr.drewN ?_ _) | (with_reducible refine Fr.drew ?_) | (with_reducible refine Fr.alloc ?_ _) | (with_reducible refine Fr.setCell ?_ (by (first | (with_reducible assumption) | omega | (simp only [World.size_alloc, World.size_setCell, World.size_drew, World.heap_drewN]; omega) | (simp; done) | (simp; omega))) _) | (with_reducible refine Fr.trans ?_ (by with_reducible assumption))))) (ht6.rd.fr (by repeat (first | (with_reducible exact Fr.refl _) | (with_reducible assumption) | (with_reducible refine Fr.drewN ?_ _) | (with_reducible refine Fr.drew ?_) | (with_reducible refine Fr.alloc ?_ _) | (with_reducible refine Fr.setCell ?_ (by (first | (with_reducible assumption) | omega | (simp only [World.size_alloc, World.size_setCell, World.size_drew, World.heap_drewN]; omega) | (simp; done) | (simp; omega))) _) | (with_reducible refine Fr.trans ?_ (by with_reducible assumption)))))).mono ?_; rintro e w7 ⟨rfl, hf7⟩))
    clear RA0
    clear Rx0
    have zhf6 := hf6.size; (try simp only [World.size_alloc, World.size_setCell, World.size_drew] at zhf6)
    have zhf7 := hf7.size; (try simp only [World.size_alloc, World.size_setCell, World.size_drew] at zhf7)
    have BA0 := BA0.fr (show Fr w5 w7 by repeat (first | (with_reducible exact Fr.refl _) | (with_reducible assumption) | (with_reducible refine Fr.drewN ?_ _) | (with_reducible refine Fr.drew ?_) | (with_reducible refine Fr.alloc ?_ _) | (with_reducible refine Fr.setCell ?_ (by (first | (with_reducible assumption) | omega | (simp only [World.size_alloc, World.size_setCell, World.size_drew, World.heap_drewN]; omega) | (simp; done) | (simp; omega))) _) | (with_reducible refine Fr.trans ?_ (by with_reducible assumption))))
    have Bx0 := Bx0.fr (show Fr w5 w7 by repeat (first | (with_reducible exact Fr.refl _) | (with_reducible assumption) | (with_reducible refine Fr.drewN ?_ _) | (with_reducible refine Fr.drew ?_) | (with_reducible refine Fr.alloc ?_ _) | (with_reducible refine Fr.setCell ?_ (by (first | (with_reducible assumption) | omega | (simp only [World.size_alloc, World.size_setCell, World.size_drew, World.heap_drewN]; omega) | (simp; done) | (simp; omega))) _) | (with_reducible refine Fr.trans ?_ (by with_reducible assumption))))
    clear FA0 Fx0
    have FA0 := BA0.facts
    have Fx0 := Bx0.facts
    go_wp2_with fail
    go_ret
    exact ⟨rfl, by repeat (first | (with_reducible exact Fr.refl _) | (with_reducible assumption) | (with_reducible refine Fr.drewN ?_ _) | (with_reducible refine Fr.drew ?_) | (with_reducible refine Fr.alloc ?_ _) | (with_reducible refine Fr.setCell ?_ (by (first | (with_reducible assumption) | omega | (simp only [World.size_alloc, World.size_setCell, World.size_drew, World.heap_drewN]; omega) | (simp; done) | (simp; omega))) _) | (with_reducible refine Fr.trans ?_ (by with_reducible assumption)))⟩
  · skip
    have hr : szR 1048576 (d0.bulk) = -1 := szR_no hl0
    have HR := Lib.hid hr
    clear hr hspec himpl
    go_enter Try.func6, Try.ntmps6
    go_wp2_with fail
    refine (szLetter_w _ d0 _ _ (hv0.fr (by repeat (first | (with_reducible exact Fr.refl _) | (with_reducible assumption) | (with_reducible refine Fr.drewN ?_ _) | (with_reducible refine Fr.drew ?_) | (with_reducible refine Fr.alloc ?_ _) | (with_reducible refine Fr.setCell ?_ (by (first | (with_reducible assumption) | omega | (simp only [World.size_alloc, World.size_setCell, World.size_drew, World.heap_drewN]; omega) | (simp; done) | (simp; omega))) _) | (with_reducible refine Fr.trans ?_ (by with_reducible assumption))))) hs0 (by omega) (by omega)).mono ?_
    rintro e w1 ⟨rfl, hf1⟩
    have zhf1 := hf1.size; (try simp only [World.size_alloc, World.size_setCell, World.size_drew] at zhf1)
    have BA0 : Box w1 (w.heap.size) #[.int .i64 d0.f0, .int .i64 d0.f1, .int .i64 d0.f2, .bool d0.f3, u0, .string d0.f5] 34 := (Box.new' (w := w) (X := #[.int .i64 d0.f0, .int .i64 d0.f1, .int .i64 d0.f2, .bool d0.f3, u0, .string d0.f5]) (T := 34) (by simp)).fr (by repeat (first | (with_reducible exact Fr.refl _) | (with_reducible assumption) | (with_reducible refine Fr.drewN ?_ _) | (with_reducible refine Fr.drew ?_) | (with_reducible refine Fr.alloc ?_ _) | (with_reducible refine Fr.setCell ?_ (by (first | (with_reducible assumption) | omega | (simp only [World.size_alloc, World.size_setCell, World.size_drew, World.heap_drewN]; omega) | (simp; done) | (simp; omega))) _) | (with_reducible refine Fr.trans ?_ (by with_reducible assumption))))
    have FA0 := BA0.facts
    rw [HR.out]
    go_wp2_with fail
    go_ret
    exact ⟨rfl, by repeat (first | (with_reducible exact Fr.refl _) | (with_reducible assumption) | (with_reducible refine Fr.drewN ?_ _) | (with_reducible refine Fr.drew ?_) | (with_reducible refine Fr.alloc ?_ _) | (with_reducible refine Fr.setCell ?_ (by (first | (with_reducible assumption) | omega | (simp only [World.size_alloc, World.size_setCell, World.size_drew, World.heap_drewN]; omega) | (simp; done) | (simp; omega))) _) | (with_reducible refine Fr.trans ?_ (by with_reducible assumption)))⟩
end Go.Proofs.Ytphjlecbhbcbcaa
