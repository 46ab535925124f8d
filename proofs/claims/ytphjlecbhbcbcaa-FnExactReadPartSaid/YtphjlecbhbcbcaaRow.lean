/- Footprints: what a call may have turned (Span), owned rows between two bounds (..W), marking and reading marks of whole slices. No condition. (Printed by mk_row.py.) -/
import Derived.Test.YtphjlecbhbcbcaaFlat
import Derived.Test.YtphjlecbhbcbcaaStr
import Derived.Deep.AppendLies
import Derived.Test.YtphjlecbhbcbcaaNum
namespace Go.Proofs.Ytphjlecbhbcbcaa
open Go.RowKit
set_option linter.unusedVariables false
set_option linter.unusedSimpArgs false

/-- From w to w' only blocks in [lo, hi) have turned. -/
structure Span (lo hi : Nat) (w w' : World) : Prop where
  os : w'.os = w.os
  tape : w'.tape = w.tape
  output : w'.output = w.output
  size : w.heap.size ≤ w'.heap.size
  block : ∀ k, k < w.heap.size → (k < lo ∨ hi ≤ k) → w'.heap[k]? = w.heap[k]?
theorem Span.refl (lo hi : Nat) (w : World) : Span lo hi w w := ⟨rfl, rfl, rfl, Nat.le_refl _, fun _ _ _ => rfl⟩
theorem Span.trans {lo hi : Nat} {a b c : World} (h : Span lo hi a b) (k : Span lo hi b c) : Span lo hi a c :=
  ⟨k.os.trans h.os, k.tape.trans h.tape, k.output.trans h.output, Nat.le_trans h.size k.size, fun i hi ho => (k.block i (Nat.lt_of_lt_of_le hi h.size) ho).trans (h.block i hi ho)⟩
theorem Span.of_fr {lo hi : Nat} {w w' : World} (h : Fr w w') : Span lo hi w w' := ⟨h.out.os, h.out.tape, h.out.output, h.size, fun k hk _ => h.out.block k hk⟩
theorem Span.then_fr {lo hi : Nat} {a w w' : World} (h : Span lo hi a w) (hf : Fr w w') : Span lo hi a w' := h.trans (Span.of_fr hf)
theorem Span.of_gr {lo hi : Nat} {w w' : World} {row : Option Nat} (h : w.grownBy w' row) (hr : ∀ k, row = some k → lo ≤ k ∧ k < hi) : Span lo hi w w' :=
  ⟨h.os, h.tape, h.output, h.size, fun k hk ho => h.block k hk (fun e => by have := hr k e.symm; omega)⟩
theorem Span.mono {lo hi lo' hi' : Nat} {w w' : World} (h : Span lo hi w w') (h1 : lo' ≤ lo) (h2 : hi ≤ hi') : Span lo' hi' w w' :=
  ⟨h.os, h.tape, h.output, h.size, fun k hk ho => h.block k hk (by omega)⟩
theorem Span.fr {lo hi : Nat} {a w w' : World} (h : Fr a w) (k : Span lo hi w w') (hl : a.heap.size ≤ lo) : Fr a w' :=
  ⟨k.os.trans h.out.os, k.tape.trans h.out.tape, k.output.trans h.out.output, Nat.le_trans h.size k.size, fun i hi => (k.block i (Nat.lt_of_lt_of_le hi h.size) (.inl (Nat.lt_of_lt_of_le hi hl))).trans (h.out.block i hi)⟩
theorem Span.owns {lo hi : Nat} {w w' : World} {b : Nat} {e : TypeId} {sz : Nat} {v : Value} {n : Nat} {xs : List Value} (k : Span lo hi w w') (h : w.ownsRow b e sz v n xs) (hv : ∀ g, v.ownBlock = some g → g < lo ∨ hi ≤ g) : w'.ownsRow b e sz v n xs := by
  obtain ⟨h1, h2 | ⟨g, cap, cur, hv', hg, hh, hr⟩⟩ := h
  · exact ⟨h1, .inl h2⟩
  · exact ⟨h1, .inr ⟨g, cap, cur, hv', hg, (k.block g (Array.getElem?_eq_some_iff.1 hh).1 (hv g (by rw [hv']; rfl))).trans hh, hr⟩⟩
theorem Span.blk {lo hi : Nat} {w w' : World} (k : Span lo hi w w') (b : Nat) (hb : b < w.heap.size) (ho : b < lo ∨ hi ≤ b) : (∀ o, w'.cell? ⟨b, o, none⟩ = w.cell? ⟨b, o, none⟩) ∧ (∀ o, w'.frozen? ⟨b, o, none⟩ = w.frozen? ⟨b, o, none⟩) :=
  ⟨fun o => World.cell?_of_block (k.block b hb ho), fun o => World.frozen?_of_block (k.block b hb ho)⟩
/-- What a slice reads as stays where nothing of the span is its block. -/
theorem Span.rd {lo hi : Nat} {w w' : World} {sz n : Nat} {v : Value} {xs : List Value} (k : Span lo hi w w') (h : RdS w sz v n xs) (hv : ∀ g, v.ownBlock = some g → g < lo ∨ hi ≤ g) (ho : ∀ a m c, v = .slice (some a) m c → a.off = 0) : RdS w' sz v n xs := by
  obtain ⟨h1, ao, cap, rfl, h2, h3, h4⟩ := h
  refine ⟨h1, ao, cap, rfl, h2, h3, fun hn => ?_⟩
  obtain ⟨b, o, rfl, hb, hc⟩ := h4 hn
  have h0 : o = 0 := ho ⟨b, o, none⟩ n cap rfl
  subst h0
  exact ⟨b, 0, rfl, Nat.lt_of_lt_of_le hb k.size, fun j hj => ((k.blk b hb (hv b rfl)).1 _).trans (hc j hj)⟩
/-- The row of v lies in [lo, hi). -/
def RowIn (lo hi : Nat) (v : Value) : Prop := ∀ g, v.ownBlock = some g → lo ≤ g ∧ g < hi
theorem RowIn.of_owns {w : World} {b : Nat} {e : TypeId} {sz : Nat} {v : Value} {n : Nat} {xs : List Value} (h : w.ownsRow b e sz v n xs) : RowIn b w.heap.size v := h.lt
theorem RowIn.mono {lo hi lo' hi' : Nat} {v : Value} (h : RowIn lo hi v) (h1 : lo' ≤ lo) (h2 : hi ≤ hi') : RowIn lo' hi' v := fun g hg => by have := h g hg; omega
def Apart (u v : Value) : Prop := ∀ g, u.ownBlock = some g → v.ownBlock = some g → False
theorem Apart.symm {u v : Value} (h : Apart u v) : Apart v u := fun g a b => h g b a
theorem Apart.of_in {lo hi lo' hi' : Nat} {u v : Value} (h : RowIn lo hi u) (k : RowIn lo' hi' v) (hh : hi ≤ lo' ∨ hi' ≤ lo) : Apart u v := fun g a b => by have := h g a; have := k g b; omega
theorem Apart.ne {u v : Value} (h : Apart u v) : u.ownBlock = none ∨ u.ownBlock ≠ v.ownBlock := by
  cases hu : u.ownBlock with
  | none => exact .inl rfl
  | some g => exact .inr fun e => h g hu e.symm
theorem owns_zero {w : World} {b : Nat} {e : TypeId} {sz : Nat} {v : Value} {n : Nat} {xs : List Value} (h : w.ownsRow b e sz v n xs) : ∀ a m c, v = .slice (some a) m c → a.off = 0 := by
  intro a m c hv
  obtain ⟨h1, ⟨h2, _⟩ | ⟨g, cap, cur, h2, _⟩⟩ := h
  · rw [h2] at hv; cases hv
  · rw [h2] at hv; cases hv; rfl

/-- Block b is a box of these cells, none frozen. -/
def Box (w : World) (b : Nat) (X : Array Value) (T : TypeId) : Prop := w.heap[b]? = some (.cells X T (0, 0))
theorem Box.lt {w : World} {b : Nat} {X : Array Value} {T : TypeId} (h : Box w b X T) : b < w.heap.size := (Array.getElem?_eq_some_iff.1 h).1
theorem Box.new (w : World) (X : Array Value) (T : TypeId) : Box (w.alloc (.cells X T)) w.heap.size X T := by unfold Box World.alloc; simp
theorem Box.new' {w : World} {X : Array Value} {T : TypeId} {b : Nat} (hb : b = w.heap.size) : Box (w.alloc (.cells X T)) b X T := hb ▸ Box.new w X T
theorem Box.cell {w : World} {b : Nat} {X : Array Value} {T : TypeId} (h : Box w b X T) (o : Nat) : w.cell? ⟨b, o, none⟩ = X[o]? := by simp [World.cell?, show w.heap[b]? = _ from h]
theorem Box.frozen {w : World} {b : Nat} {X : Array Value} {T : TypeId} (h : Box w b X T) (o : Nat) : w.frozen? ⟨b, o, none⟩ = false := by simp [World.frozen?, show w.heap[b]? = _ from h]
theorem Box.facts {w : World} {b : Nat} {X : Array Value} {T : TypeId} (h : Box w b X T) : (∀ o, w.cell? ⟨b, o, none⟩ = X[o]?) ∧ (∀ o, w.frozen? ⟨b, o, none⟩ = false) ∧ b < w.heap.size := ⟨h.cell, h.frozen, h.lt⟩
theorem Box.fr {w w' : World} {b : Nat} {X : Array Value} {T : TypeId} (h : Box w b X T) (hf : Fr w w') : Box w' b X T := (hf.out.block b h.lt).trans h
theorem Box.alloc {w : World} {b : Nat} {X : Array Value} {T : TypeId} (h : Box w b X T) (o : Obj) : Box (w.alloc o) b X T := h.fr ((Fr.refl _).alloc o)
theorem Box.drew {w : World} {b : Nat} {X : Array Value} {T : TypeId} (h : Box w b X T) : Box w.drew b X T := h
theorem Box.drewN {w : World} {b : Nat} {X : Array Value} {T : TypeId} (h : Box w b X T) (n : Nat) : Box (w.drewN n) b X T := h.fr ((Fr.refl _).drewN n)
theorem Box.gr {w w' : World} {b : Nat} {X : Array Value} {T : TypeId} {row : Option Nat} (h : Box w b X T) (hg : w.grownBy w' row) (hr : row ≠ some b) : Box w' b X T := (hg.block b h.lt (fun e => hr e.symm)).trans h
theorem Box.row {w w' : World} {b lo hi : Nat} {X : Array Value} {T : TypeId} {v : Value} (h : Box w b X T) (hg : w.grownBy w' v.ownBlock) (hr : RowIn lo hi v) (hb : b < lo ∨ hi ≤ b) : Box w' b X T := h.gr hg (fun e => by have := hr b e; omega)
theorem Box.span {w w' : World} {b lo hi : Nat} {X : Array Value} {T : TypeId} (h : Box w b X T) (hs : Span lo hi w w') (hb : b < lo ∨ hi ≤ b) : Box w' b X T := (hs.block b h.lt hb).trans h
theorem Box.set {w : World} {b : Nat} {X : Array Value} {T : TypeId} (h : Box w b X T) (i : Nat) (v : Value) : Box (w.setCell ⟨b, i, none⟩ v) b (X.setIfInBounds i v) T := heap_setCell_same w b i X T v h
theorem Box.set_to {w : World} {b : Nat} {X Y : Array Value} {T : TypeId} {i : Nat} {v : Value} (h : Box w b Y T) (e : Y.setIfInBounds i v = X) : Box (w.setCell ⟨b, i, none⟩ v) b X T := e ▸ h.set i v
theorem Box.other {w : World} {b : Nat} {X : Array Value} {T : TypeId} (h : Box w b X T) {p : Addr} (hp : b ≠ p.block) (v : Value) : Box (w.setCell p v) b X T := (heap_setCell_other w p b v hp).trans h
/-- Behind an append: where the new row lies. -/
theorem RowIn.app {lo g n c : Nat} {v : Value} {H hi : Nat} (hat : v.ownBlock = some g ∨ g = H) (hr : RowIn lo H v) (hl : lo ≤ H) (hg : g < hi) : RowIn lo hi (.slice (some ⟨g, 0, none⟩) n c) := by
  intro k hk
  have hk' : g = k := by simpa [Value.ownBlock] using hk
  subst hk'
  rcases hat with h | h
  · exact ⟨(hr g h).1, hg⟩
  · omega
theorem Apart.app {lo g n c : Nat} {u v : Value} {H : Nat} (h : Apart v u) (hat : v.ownBlock = some g ∨ g = H) (hu : RowIn lo H u) : Apart (.slice (some ⟨g, 0, none⟩) n c) u := by
  intro k hk hk2
  have hk' : g = k := by simpa [Value.ownBlock] using hk
  subst hk'
  rcases hat with e | e
  · exact h g e hk2
  · have := hu g hk2; omega
theorem Apart.none (u : Value) (n c : Nat) : Apart (.slice none n c) u := fun _ h => by simp [Value.ownBlock] at h
theorem cell_new {w : World} {u : Value} {T : TypeId} {b : Nat} (hb : b = w.heap.size) : ∀ (j : Nat) (v : Value), [u][j]? = some v → (w.alloc (.cells #[u] T)).cell? ((⟨b, 0, none⟩ : Addr).add j) = some v := hb ▸ cell_one_new w u T
theorem made_list (z : Value) (n : Nat) : (madeCells #[z] n).toList = List.replicate n z := by simpa [fillR, List.flatten_replicate_singleton] using made_fill (List.replicate n ()) (fun _ => [z]) [z] 1 rfl (by omega)
theorem made_new {w : World} {lo b n : Nat} {e : TypeId} {z : Value} (hb : b = w.heap.size) (hl : lo ≤ b) (hn : n ≤ 1048576) : (w.alloc (.cells (madeCells #[z] n) e)).ownsRow lo e 1 (.slice (some ⟨b, 0, none⟩) n n) n (List.replicate n z) := by
  subst hb
  rw [← made_list]
  exact World.ownsRow_lit w _ n hl (by unfold maxLen; omega) (by rw [← Array.length_toList, made_list]; simp)
theorem owns_set {w : World} {lo : Nat} {e : TypeId} {sz : Nat} {v : Value} {n : Nat} {xs : List Value} (h : w.ownsRow lo e sz v n xs) {p : Addr} (hp : p.block < lo) (u : Value) : (w.setCell p u).ownsRow lo e sz v n xs :=
  owns_ab h ((Ab.refl lo w).setCell hp u)
end Go.Proofs.Ytphjlecbhbcbcaa
