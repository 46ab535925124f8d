/- Marks of slices of Packet; their interface. (Printed by mk_types.py.) No condition but the sizes that the reading gives. -/
import Derived.Test.YtnlcgffffjjojaaSPacket
import Derived.Test.YtnlcgffffjjojaaApp
namespace Go.Proofs.Ytnlcgffffjjojaa
open Go.RowKit
set_option linter.unusedVariables false
set_option linter.unusedSimpArgs false

def mkPacket (k : Int) : PacketR := ⟨k, (k + 1), (k + 1 + 1), (k + 1 + 1 + 1), (k + 1 + 1 + 1 + 1), mTextI (k + 1 + 1 + 1 + 1 + 1)⟩
def mkPackets (k : Int) (n : Nat) : List PacketR := (List.range n).map fun i : Nat => mkPacket (k + 6 * i)
theorem mkPackets_length (k : Int) (n : Nat) : (mkPackets k n).length = n := by simp [mkPackets]
theorem mkPackets_at (k : Int) (n j : Nat) (h : j < n) : packetAt (mkPackets k n) j = mkPacket (k + 6 * j) := by simp [mkPackets, packetAt, List.getD, h]
theorem packet_oneCells (xs : List PacketR) : ∀ u ∈ xs.flatMap PacketR.cells, u.oneCell' = true := by
  intro u hu
  obtain ⟨x, _, h⟩ := List.mem_flatMap.1 hu
  simp only [PacketR.cells, List.mem_cons, List.not_mem_nil, or_false] at h
  rcases h with rfl | rfl | rfl | rfl | rfl | rfl <;> rfl
def PacketsW (w : World) (lo hi : Nat) (v : Value) (xs : List PacketR) : Prop := OwW w lo hi 27 6 v xs.length (xs.flatMap PacketR.cells)
theorem PacketsW.rd {w : World} {lo hi : Nat} {v : Value} {xs : List PacketR} (h : PacketsW w lo hi v xs) : PacketsR w v xs := OwW.rd h
theorem PacketsW.val {w : World} {lo hi : Nat} {v : Value} {xs : List PacketR} (h : PacketsW w lo hi v xs) : ∃ ao cap, v = .slice ao xs.length cap := OwW.val h
theorem PacketsW.fr {w w' : World} {lo hi : Nat} {v : Value} {xs : List PacketR} (h : PacketsW w lo hi v xs) (hf : Fr w w') : PacketsW w' lo hi v xs := OwW.fr h hf
theorem PacketsW.span {w w' : World} {lo hi : Nat} {v : Value} {xs : List PacketR} (h : PacketsW w lo hi v xs) {a b : Nat} (s : Span a b w w') (hd : hi ≤ a ∨ b ≤ lo) : PacketsW w' lo hi v xs := OwW.span h s hd
theorem PacketsW.nil (w : World) (lo hi : Nat) : PacketsW w lo hi (.slice none 0 0) [] := OwW.nil _ _ _ _ _
end Go.Proofs.Ytnlcgffffjjojaa
