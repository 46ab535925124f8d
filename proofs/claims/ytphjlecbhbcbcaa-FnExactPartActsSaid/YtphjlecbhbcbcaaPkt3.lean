/- Packets as bytes: the reference's PacketText, and the law. No condition but the sizes that the reading gives. (Its region's moves: printed by mk_pkt3.py.) -/
import Derived.Test.YtphjlecbhbcbcaaPkt2
import Derived.Test.YtphjlecbhbcbcaaRow
import Derived.Deep.RegionHeld3
namespace Go.Proofs.Ytphjlecbhbcbcaa
open Go.RowKit
set_option linter.unusedVariables false
set_option linter.unusedSimpArgs false
/-- Behind a weaker condition the walk holds under a stronger one. -/
theorem wpAnyH_weaken {P : Program} {md : Region.Mode} {ops : Array Oper} {Q : Exit → Act → World → Prop} {S S' : World → Prop} (h : ∀ w, S' w → S w) :
    ∀ (fuel : Nat) (listed : Array Bool) (a : Act) (w : World), wpAnyH P md ops Q S' fuel listed a w → wpAnyH P md ops Q S fuel listed a w
  | 0, _, _, _, H => H
  | fuel + 1, _, _, _, H => ⟨H.1, fun i hi => wpOp_mono (fun a' w' h' => ⟨h w' h'.1, wpAnyH_weaken h fuel _ a' w' h'.2⟩) (H.2 i hi)⟩
def PkS (a : World) (b : Nat) (X : Array Value) (T : TypeId) (w : World) : Prop := Fr a w ∧ Box w b X T
theorem wpAnyH_box {P : Program} {md : Region.Mode} {ops : Array Oper} {Q : Exit → Act → World → Prop} {w1 w : World} {X : Array Value} {T : TypeId} {fuel : Nat} {listed : Array Bool} {a : Act}
    (hS : Fr w1 (w.alloc (.cells X T))) (h : PkS w1 w.heap.size X T (w.alloc (.cells X T)) → wpAnyH P md ops Q (PkS w1 w.heap.size X T) fuel listed a (w.alloc (.cells X T))) : wpAnyH P md ops Q (fun w' => Fr w1 w') fuel listed a (w.alloc (.cells X T)) :=
  wpAnyH_weaken (fun _ h => h.1) _ _ _ _ (h ⟨hS, Box.new _ _ _⟩)
theorem wpAnyH_boxd {P : Program} {md : Region.Mode} {ops : Array Oper} {Q : Exit → Act → World → Prop} {w1 w : World} {X : Array Value} {T : TypeId} {fuel : Nat} {listed : Array Bool} {a : Act}
    (hS : Fr w1 (w.alloc (.cells X T)).drew) (h : PkS w1 w.heap.size X T (w.alloc (.cells X T)).drew → wpAnyH P md ops Q (PkS w1 w.heap.size X T) fuel listed a (w.alloc (.cells X T)).drew) : wpAnyH P md ops Q (fun w' => Fr w1 w') fuel listed a (w.alloc (.cells X T)).drew :=
  wpAnyH_weaken (fun _ h => h.1) _ _ _ _ (h ⟨hS, Box.drew (Box.new _ _ _)⟩)
end Go.Proofs.Ytphjlecbhbcbcaa
