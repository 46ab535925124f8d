/- The struct Link, which holds one row: the laws' helpers. (Printed by mk_types.py.) No condition but the sizes that the reading gives. -/
import Derived.Test.YtnlcgffffjjojaaTFlat
namespace Go.Proofs.Ytnlcgffffjjojaa
open Go.RowKit
set_option linter.unusedVariables false
set_option linter.unusedSimpArgs false

structure LinkD where
  f0 : List ByteArray
  f1 : Int
  f2 : Int
def LinkRd (w : World) (v : Value) (d : LinkD) : Prop := ∃ u, v = .agg #[u, .int .i64 d.f1, .int .i64 d.f2] ∧ StrsR w u d.f0
def LinkW (w : World) (lo hi : Nat) (v : Value) (d : LinkD) : Prop := ∃ ao cap, v = .agg #[.slice ao d.f0.length cap, .int .i64 d.f1, .int .i64 d.f2] ∧ StrsW w lo hi (.slice ao d.f0.length cap) d.f0
theorem LinkRd.fr {w w' : World} {v : Value} {d : LinkD} (h : LinkRd w v d) (hf : Fr w w') : LinkRd w' v d := by obtain ⟨u, h1, h2⟩ := h; exact ⟨u, h1, h2.fr hf⟩
theorem LinkW.fr {w w' : World} {lo hi : Nat} {v : Value} {d : LinkD} (h : LinkW w lo hi v d) (hf : Fr w w') : LinkW w' lo hi v d := by obtain ⟨a, c, h1, h2⟩ := h; exact ⟨a, c, h1, h2.fr hf⟩
theorem LinkW.rd {w : World} {lo hi : Nat} {v : Value} {d : LinkD} (h : LinkW w lo hi v d) : LinkRd w v d := by obtain ⟨a, c, h1, h2⟩ := h; exact ⟨_, h1, h2.rd⟩
theorem LinkW.span {w w' : World} {lo hi : Nat} {v : Value} {d : LinkD} (h : LinkW w lo hi v d) {a b : Nat} (s : Span a b w w') (hd : hi ≤ a ∨ b ≤ lo) : LinkW w' lo hi v d := by obtain ⟨x, c, h1, h2⟩ := h; exact ⟨x, c, h1, h2.span s hd⟩
theorem LinkW.val {w : World} {lo hi : Nat} {v : Value} {d : LinkD} (h : LinkW w lo hi v d) : ∃ ao cap, v = .agg #[.slice ao d.f0.length cap, .int .i64 d.f1, .int .i64 d.f2] := by obtain ⟨a, c, h1, h2⟩ := h; exact ⟨a, c, h1⟩
def LinkD.bulk (d : LinkD) : Nat := (strsBulk d.f0)
def LinkD.okSize (d : LinkD) : Prop := (∀ s ∈ d.f0, s.size ≤ maxLen)
def LinkD.cnt (d : LinkD) : Nat := 1 * d.f0.length
end Go.Proofs.Ytnlcgffffjjojaa
