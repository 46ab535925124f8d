/- Small lemmas on Span and Box (they lay in XDraw, XDraw2). No condition. -/
import Derived.Test.YtmdgdnkllclpcaaGreatGApp
namespace Go.Proofs.YtmdgdnkllclpcaaGreat
open Go.RowKit
set_option linter.unusedVariables false
set_option linter.unusedSimpArgs false
theorem Span.setc {b i : Nat} {a w : World} {v : Value} (h : Span b (b + 1) a w) : Span b (b + 1) a (w.setCell ⟨b, i, none⟩ v) := h.trans (by
  refine ⟨rfl, rfl, rfl, by simp, fun k hk ho => ?_⟩
  exact heap_setCell_other w ⟨b, i, none⟩ k v (by show k ≠ b; omega))
theorem Span.drewN' {b c n : Nat} {a w : World} (h : Span b c a w) : Span b c a (w.drewN n) := h.then_fr ((Fr.refl _).drewN _)
theorem Span.drew' {b c : Nat} {a w : World} (h : Span b c a w) : Span b c a w.drew := h.then_fr (Fr.refl _).drew
theorem Span.set2 {b i : Nat} {w : World} {v : Value} : Span b (b + 1) w (w.setCell ⟨b, i, none⟩ v) := by
  refine ⟨rfl, rfl, rfl, by simp, fun k hk ho => ?_⟩
  exact heap_setCell_other w ⟨b, i, none⟩ k v (by show k ≠ b; omega)
theorem cell_first {w : World} {u : Value} {T : TypeId} {b : Nat} (hb : b = w.heap.size) : ∀ (j : Nat) (v : Value), [u][j]? = some v → (w.alloc (.cells #[u] T)).cell? ((⟨b, 0, none⟩ : Addr).add j) = some v := cell_new hb
theorem Span.above {b : Nat} {a w w' : World} {v : Value} (s : Span b (b + 1) a w) (hg : w.grownBy w' v.ownBlock) (hv : ∀ g, v.ownBlock = some g → a.heap.size ≤ g) : Span b (b + 1) a w' :=
  s.app hg (fun k hk => .inr (hv k hk))
theorem Span.alloc' {b c : Nat} {a w : World} (h : Span b c a w) (o : Obj) : Span b c a (w.alloc o) := h.then_fr ((Fr.refl _).alloc _)
theorem Span.above' {lo hi L M : Nat} {a w w' : World} (h : Span lo hi a w) (k : Span L M w w') (hL : a.heap.size ≤ L) : Span lo hi a w' :=
  ⟨k.os.trans h.os, k.tape.trans h.tape, k.output.trans h.output, Nat.le_trans h.size k.size, fun i hi ho => (k.block i (Nat.lt_of_lt_of_le hi h.size) (.inl (by omega))).trans (h.block i hi ho)⟩
theorem Span.setb {lo hi q i : Nat} {a w : World} {v : Value} (h : Span lo hi a w) (h1 : lo ≤ q) (h2 : q < hi) : Span lo hi a (w.setCell ⟨q, i, none⟩ v) := h.trans (by
  refine ⟨rfl, rfl, rfl, by simp, fun k hk ho => ?_⟩
  exact heap_setCell_other w ⟨q, i, none⟩ k v (by show k ≠ q; omega))
theorem Box.far' {w : World} {b q i : Nat} {X : Array Value} {T : TypeId} (h : Box w b X T) (hp : b ≠ q) (v : Value) : Box (w.setCell ⟨q, i, none⟩ v) b X T := h.other (p := ⟨q, i, none⟩) hp v
end Go.Proofs.YtmdgdnkllclpcaaGreat
