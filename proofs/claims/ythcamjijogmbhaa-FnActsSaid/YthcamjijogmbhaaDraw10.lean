/- The reference's drawn right disk (spec.l01Pick, l14Named, DrawRightDisk). No condition but the size of the draw. -/
import Derived.Test.YthcamjijogmbhaaDraw2
import Derived.Deep.RegionLaw
import Derived.Test.YthcamjijogmbhaaKpl2
namespace Go.Proofs.Ythcamjijogmbhaa
open Go.RowKit
set_option linter.unusedVariables false
set_option linter.unusedSimpArgs false
set_option maxHeartbeats 1000000 in
theorem l01Pick_any (b g : Nat) (xs : List ByteArray) (T : TypeId) (w : World) (hc : Cu w b) (hb : Box w g (xs.map Value.string).toArray T) (hg : b < g) (hx : 0 < xs.length) (hl : xs.length ≤ 256) :
    Calls Try.prog 129 #[.pointer (some ⟨b, 0, none⟩), .slice (some ⟨g, 0, none⟩) xs.length xs.length] w fun e w' => ∃ k, k < xs.length ∧ e = .returned (.string (sAt xs k)) ∧ Cu w' b ∧ Span b (b + 1) w w' := by
  go_enter Try.func129, Try.ntmps129
  go_wp2_with fail
  refine (l01Below_any b _ _ hc (by omega)).mono ?_
  rintro e w1 ⟨k, hk1, hk2, rfl, hc1, sp1⟩
  have hk3 : k < xs.length := by have := hk1 (by omega); omega
  have c0 : w1.cell? ⟨g, k, none⟩ = some (.string (sAt xs k)) := by
    rw [(hb.span sp1 (.inr (by omega))).cell]
    simp [sAt, List.getD, List.getElem?_eq_getElem hk3, hk3]
  clear hb
  go_wp2_with fail
  go_ret
  exact ⟨k, hk3, rfl, hc1, sp1⟩
def diskNames : List ByteArray := [⟨#[97]⟩, ⟨#[98]⟩, ⟨#[99]⟩, ⟨#[106, 48]⟩, ⟨#[106, 49]⟩, ⟨#[106, 43]⟩, ⟨#[115, 48]⟩, ⟨#[115, 43]⟩]
theorem diskNames_ok (k : Nat) (h : k < 8) : nameB (sAt diskNames k) = true := by
  rcases (show k = 0 ∨ k = 1 ∨ k = 2 ∨ k = 3 ∨ k = 4 ∨ k = 5 ∨ k = 6 ∨ k = 7 by omega) with rfl | rfl | rfl | rfl | rfl | rfl | rfl | rfl <;> decide
set_option maxHeartbeats 1000000 in
theorem l14Named_any (b : Nat) (w : World) (hc : Cu w b) :
    Calls Try.prog 127 #[.pointer (some ⟨b, 0, none⟩)] w fun e w' => ∃ nm : ByteArray, nameB nm = true ∧ e = .returned (.string nm) ∧ Cu w' b ∧ Span b (b + 1) w w' := by
  have hbl := hc.lt
  go_enter Try.func127, Try.ntmps127
  go_wp2_with fail
  refine (l01Pick_any b w.heap.size diskNames 9 _ (hc.fr (by repeat (first | (with_reducible exact Fr.refl _) | (with_reducible assumption) | (with_reducible refine Fr.drewN ?_ _) | (with_reducible refine Fr.drew ?_) | (with_reducible refine Fr.alloc ?_ _) | (with_reducible refine Fr.setCell ?_ (by (first | (with_reducible assumption) | omega | (simp only [World.size_alloc, World.size_setCell, World.size_drew, World.heap_drewN]; omega) | (simp; done) | (simp; omega))) _) | (with_reducible refine Fr.trans ?_ (by with_reducible assumption))))) (Box.new _ _ _) hbl (by decide) (by decide)).mono ?_
  rintro e w1 ⟨k, hk, rfl, hc1, sp1⟩
  have hn := diskNames_ok k hk
  obtain ⟨nm, hnm⟩ : ∃ nm, sAt diskNames k = nm := ⟨_, rfl⟩
  rw [hnm] at hn ⊢
  clear hnm
  go_wp2_with fail
  go_ret
  exact ⟨nm, hn, rfl, hc1, (Span.of_fr ((Fr.refl w).alloc _)).trans sp1⟩
end Go.Proofs.Ythcamjijogmbhaa
