/- The reference's drawn packet (spec.l01PickInt, l18Packet): what bounds its fields keep. No condition but the size of the draw. -/
import Derived.Test.YthcamjijogmbhaaDraw2
import Derived.Deep.RegionLaw
namespace Go.Proofs.Ythcamjijogmbhaa
open Go.RowKit
set_option linter.unusedVariables false
set_option linter.unusedSimpArgs false

set_option maxHeartbeats 1000000 in
theorem l01PickInt_any (b g : Nat) (xs : List Int) (T : TypeId) (w : World) (hc : Cu w b) (hb : Box w g (xs.map (Value.int .i64)).toArray T) (hg : b < g) (hx : 0 < xs.length) (hl : xs.length ≤ 256) :
    Calls Try.prog 128 #[.pointer (some ⟨b, 0, none⟩), .slice (some ⟨g, 0, none⟩) xs.length xs.length] w fun e w' => ∃ k, k < xs.length ∧ e = .returned (.int .i64 (iAt xs k)) ∧ Cu w' b ∧ Span b (b + 1) w w' := by
  go_enter Try.func128, Try.ntmps128
  go_wp2_with fail
  refine (l01Below_any b _ _ hc (by omega)).mono ?_
  rintro e w1 ⟨k, hk1, hk2, rfl, hc1, sp1⟩
  have hk3 : k < xs.length := by have := hk1 (by omega); omega
  have c0 : w1.cell? ⟨g, k, none⟩ = some (.int .i64 (iAt xs k)) := by
    rw [(hb.span sp1 (.inr (by omega))).cell]
    simp [iAt, List.getD, List.getElem?_eq_getElem hk3, hk3]
  clear hb
  go_wp2_with fail
  go_ret
  exact ⟨k, hk3, rfl, hc1, sp1⟩
end Go.Proofs.Ythcamjijogmbhaa
