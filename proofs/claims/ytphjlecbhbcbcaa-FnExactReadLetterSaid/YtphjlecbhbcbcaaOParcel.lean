/- The struct Parcel, which holds one row: the laws' helpers. (Printed by mk_types.py.) No condition but the sizes that the reading gives. -/
import Derived.Test.YtphjlecbhbcbcaaTWalk
namespace Go.Proofs.Ytphjlecbhbcbcaa
open Go.RowKit
set_option linter.unusedVariables false
set_option linter.unusedSimpArgs false

structure ParcelD where
  f0 : Int
  f1 : List WalkR
def ParcelRd (w : World) (v : Value) (d : ParcelD) : Prop := ∃ u, v = .agg #[.int .i64 d.f0, u] ∧ WalksR w u d.f1
def ParcelW (w : World) (lo hi : Nat) (v : Value) (d : ParcelD) : Prop := ∃ ao cap, v = .agg #[.int .i64 d.f0, .slice ao d.f1.length cap] ∧ WalksW w lo hi (.slice ao d.f1.length cap) d.f1
theorem ParcelRd.fr {w w' : World} {v : Value} {d : ParcelD} (h : ParcelRd w v d) (hf : Fr w w') : ParcelRd w' v d := by obtain ⟨u, h1, h2⟩ := h; exact ⟨u, h1, h2.fr hf⟩
theorem ParcelW.fr {w w' : World} {lo hi : Nat} {v : Value} {d : ParcelD} (h : ParcelW w lo hi v d) (hf : Fr w w') : ParcelW w' lo hi v d := by obtain ⟨a, c, h1, h2⟩ := h; exact ⟨a, c, h1, h2.fr hf⟩
theorem ParcelW.rd {w : World} {lo hi : Nat} {v : Value} {d : ParcelD} (h : ParcelW w lo hi v d) : ParcelRd w v d := by obtain ⟨a, c, h1, h2⟩ := h; exact ⟨_, h1, h2.rd⟩
theorem ParcelW.span {w w' : World} {lo hi : Nat} {v : Value} {d : ParcelD} (h : ParcelW w lo hi v d) {a b : Nat} (s : Span a b w w') (hd : hi ≤ a ∨ b ≤ lo) : ParcelW w' lo hi v d := by obtain ⟨x, c, h1, h2⟩ := h; exact ⟨x, c, h1, h2.span s hd⟩
theorem ParcelW.val {w : World} {lo hi : Nat} {v : Value} {d : ParcelD} (h : ParcelW w lo hi v d) : ∃ ao cap, v = .agg #[.int .i64 d.f0, .slice ao d.f1.length cap] := by obtain ⟨a, c, h1, h2⟩ := h; exact ⟨a, c, h1⟩
set_option maxHeartbeats 1000000 in
theorem eqParcel_same (a b : Value) (d : ParcelD) (w : World) (ha : ParcelRd w a d) (hb : ParcelRd w b d) :
    Calls Try.prog 81 #[a, b] w fun e w' => e = .returned (.bool true) ∧ Fr w w' := by
  obtain ⟨u, rfl, hu⟩ := ha
  obtain ⟨v, rfl, hv⟩ := hb
  go_enter Try.func81, Try.ntmps81
  go_wp2_with (go_at_call 19; refine (eqWalkS_same _ _ d.f1 _ (hu.fr (by repeat (first | (with_reducible exact Fr.refl _) | (with_reducible assumption) | (with_reducible refine Fr.drewN ?_ _) | (with_reducible refine Fr.drew ?_) | (with_reducible refine Fr.alloc ?_ _) | (with_reducible refine Fr.setCell ?_ (by (first | (with_reducible assumption) | omega | (simp only [World.size_alloc, World.size_setCell, World.size_drew, World.heap_drewN]; omega) | (simp; done) | (simp; omega))) _) | (with_reducible refine Fr.trans ?_ (by with_reducible assumption))))) (hv.fr (by repeat (first | (with_reducible exact Fr.refl _) | (with_reducible assumption) | (with_reducible refine Fr.drewN ?_ _) | (with_reducible refine Fr.drew ?_) | (with_reducible refine Fr.alloc ?_ _) | (with_reducible refine Fr.setCell ?_ (by (first | (with_reducible assumption) | omega | (simp only [World.size_alloc, World.size_setCell, World.size_drew, World.heap_drewN]; omega) | (simp; done) | (simp; omega))) _) | (with_reducible refine Fr.trans ?_ (by with_reducible assumption)))))).mono ?_; rintro e w1 ⟨rfl, hf⟩; have z1 := hf.size; (try simp only [World.size_alloc, World.size_setCell, World.size_drew] at z1); have k0 := hf.blk w.heap.size (by (first | (with_reducible assumption) | omega | (simp only [World.size_alloc, World.size_setCell, World.size_drew, World.heap_drewN]; omega) | (simp; done) | (simp; omega))); have k1 := hf.blk (w.heap.size + 1) (by (first | (with_reducible assumption) | omega | (simp only [World.size_alloc, World.size_setCell, World.size_drew, World.heap_drewN]; omega) | (simp; done) | (simp; omega))))
  go_ret
  exact ⟨rfl, by repeat (first | (with_reducible exact Fr.refl _) | (with_reducible assumption) | (with_reducible refine Fr.drewN ?_ _) | (with_reducible refine Fr.drew ?_) | (with_reducible refine Fr.alloc ?_ _) | (with_reducible refine Fr.setCell ?_ (by (first | (with_reducible assumption) | omega | (simp only [World.size_alloc, World.size_setCell, World.size_drew, World.heap_drewN]; omega) | (simp; done) | (simp; omega))) _) | (with_reducible refine Fr.trans ?_ (by with_reducible assumption)))⟩
def ParcelD.bulk (d : ParcelD) : Nat := (d.f1.length)
def ParcelD.okSize (d : ParcelD) : Prop := True
def ParcelD.cnt (d : ParcelD) : Nat := 4 * d.f1.length
end Go.Proofs.Ytphjlecbhbcbcaa
