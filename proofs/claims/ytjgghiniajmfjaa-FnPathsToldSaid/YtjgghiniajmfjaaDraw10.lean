/- The reference's drawn right disk (spec.l01Pick, l14Named, DrawRightDisk). No condition but the size of the draw. -/
import Derived.Test.YtjgghiniajmfjaaKDraw
import Derived.Deep.RegionLaw
import Derived.Test.YtjgghiniajmfjaaKpl2
namespace Go.Proofs.Ytjgghiniajmfjaa
open Go.RowKit
set_option linter.unusedVariables false
set_option linter.unusedSimpArgs false
set_option maxHeartbeats 1000000 in
theorem l01Pick_any (b g : Nat) (xs : List ByteArray) (T : TypeId) (w : World) (hc : Cu w b) (hb : Box w g (xs.map Value.string).toArray T) (hg : b < g) (hx : 0 < xs.length) (hl : xs.length ≤ 256) :
    Calls Try.prog 82 #[.pointer (some ⟨b, 0, none⟩), .slice (some ⟨g, 0, none⟩) xs.length xs.length] w fun e w' => ∃ k, k < xs.length ∧ e = .returned (.string (sAt xs k)) ∧ Cu w' b ∧ Span b (b + 1) w w' := by
  go_enter Try.func82, Try.ntmps82
  go_wp2_with fail
  refine (l01Below_any b _ _ hc (by omega)).mono ?_
  rintro e w1 ⟨k, hk1, hk2, rfl, hc1, sp1⟩
  have hk3 : k < xs.length := by have := hk1 (by omega); omega
  have c0 : w1.cell? ⟨g, k, none⟩ = some (.string (sAt xs k)) := by
    rw [(hb.span sp1 (.inr (by omega))).cell]
    simp [sAt, List.getD, List.getElem?_eq_getElem hk3, hk3]
  clear hb
  go_wp2_with fail
  go_ret
  exact ⟨k, hk3, rfl, hc1, sp1⟩
def diskNames : List ByteArray := [⟨#[97]⟩, ⟨#[98]⟩, ⟨#[99]⟩, ⟨#[106, 48]⟩, ⟨#[106, 49]⟩, ⟨#[106, 43]⟩, ⟨#[115, 48]⟩, ⟨#[115, 43]⟩]
theorem diskNames_ok (k : Nat) (h : k < 8) : nameB (sAt diskNames k) = true := by
  rcases (show k = 0 ∨ k = 1 ∨ k = 2 ∨ k = 3 ∨ k = 4 ∨ k = 5 ∨ k = 6 ∨ k = 7 by omega) with rfl | rfl | rfl | rfl | rfl | rfl | rfl | rfl <;> decide
end Go.Proofs.Ytjgghiniajmfjaa
