/- Drawn arguments of LinkPackets (spec.DrawLinkPackets). No condition but the size of the draw. -/
import Derived.Test.YtnlcgffffjjojaaDraw4
import Derived.Test.YtnlcgffffjjojaaDraw6
namespace Go.Proofs.Ytnlcgffffjjojaa
open Go.RowKit
set_option linter.unusedVariables false
set_option linter.unusedSimpArgs false
set_option maxHeartbeats 2000000 in
set_option maxRecDepth 100000 in
theorem DrawLinkPackets_any (ao : Option Addr) (n cap : Nat) (w : World) (hy : ByR w w.heap.size ao n cap) :
    Calls Try.prog 41 #[.slice ao n cap] w fun e w' => ∃ (d : LinkD) (ao' : Option Addr) (cap' : Nat) (x y z : Int), d.f0.length ≤ 300 ∧
      e = .returned (.tuple #[.agg #[.slice ao' d.f0.length cap', .int .i64 d.f1, .int .i64 d.f2], .int .i64 x, .int .i64 y, .int .i64 z]) ∧ StrsR w' (.slice ao' d.f0.length cap') d.f0 ∧ Fr w w' := by
  have HY := Lib.hid hy
  clear hy
  go_enter Try.func41, Try.ntmps41
  go_wp2_with fail
  refine (l01New_any ao n cap _ (HY.out.here (by repeat (first | (with_reducible exact Fr.refl _) | (with_reducible assumption) | (with_reducible refine Fr.drewN ?_ _) | (with_reducible refine Fr.drew ?_) | (with_reducible refine Fr.alloc ?_ _) | (with_reducible refine Fr.setCell ?_ (by (first | (with_reducible assumption) | omega | (simp only [World.size_alloc, World.size_setCell, World.size_drew, World.heap_drewN]; omega) | (simp; done) | (simp; omega))) _) | (with_reducible refine Fr.trans ?_ (by with_reducible assumption)))))).mono ?_
  rintro e w1 ⟨b, rfl, hb, hc1, hf1⟩
  have hs1 := hf1.size
  simp only [World.size_alloc] at hs1 hb
  have BR := (Box.new w #[.slice none 0 0, .int .i64 0, .int .i64 0] 53).fr hf1
  have hbl := hc1.lt
  go_wp2_with fail
  refine (l01PickInt_any b w1.heap.size [1, 2, 3, 0] 3 _ (hc1.fr (by repeat (first | (with_reducible exact Fr.refl _) | (with_reducible assumption) | (with_reducible refine Fr.drewN ?_ _) | (with_reducible refine Fr.drew ?_) | (with_reducible refine Fr.alloc ?_ _) | (with_reducible refine Fr.setCell ?_ (by (first | (with_reducible assumption) | omega | (simp only [World.size_alloc, World.size_setCell, World.size_drew, World.heap_drewN]; omega) | (simp; done) | (simp; omega))) _) | (with_reducible refine Fr.trans ?_ (by with_reducible assumption))))) (Box.new _ _ _) hbl (by decide) (by decide)).mono ?_
  rintro e w2 ⟨k1, _, rfl, hc2, sp2⟩
  have hs2 := sp2.size
  simp only [World.size_alloc] at hs2
  obtain ⟨x, hx⟩ : ∃ x, iAt [1, 2, 3, 0] k1 = x := ⟨_, rfl⟩
  rw [hx]
  go_wp2_with fail
  refine (l01Below_any b _ _ hc2 (by omega)).mono ?_
  rintro e w3 ⟨y, _, _, rfl, hc3, sp3⟩
  have hs3 := sp3.size
  go_wp2_with fail
  refine (l01PickInt_any b w3.heap.size [1, 2, 3, 9] 3 _ (hc3.fr (by repeat (first | (with_reducible exact Fr.refl _) | (with_reducible assumption) | (with_reducible refine Fr.drewN ?_ _) | (with_reducible refine Fr.drew ?_) | (with_reducible refine Fr.alloc ?_ _) | (with_reducible refine Fr.setCell ?_ (by (first | (with_reducible assumption) | omega | (simp only [World.size_alloc, World.size_setCell, World.size_drew, World.heap_drewN]; omega) | (simp; done) | (simp; omega))) _) | (with_reducible refine Fr.trans ?_ (by with_reducible assumption))))) (Box.new _ _ _) hc3.lt (by decide) (by decide)).mono ?_
  rintro e w4 ⟨k2, _, rfl, hc4, sp4⟩
  have hs4 := sp4.size
  simp only [World.size_alloc] at hs4
  obtain ⟨z, hz⟩ : ∃ x, iAt [1, 2, 3, 9] k2 = x := ⟨_, rfl⟩
  rw [hz]
  go_wp2_with fail
  refine (l18Any_any b _ hc4).mono ?_
  rintro e w5 ⟨d, ao', cap', lo, hi, h1, rfl, hr, hlo, hc5, sp5⟩
  have hs5 := sp5.size
  have BR5 := (((((BR.alloc _).span sp2 (.inl (by omega))).span sp3 (.inl (by omega))).alloc _).span sp4 (.inl (by omega))).span sp5 (.inl (by omega))
  have FB5 := BR5.facts
  have HR := Lib.hid hr
  have hf3 : Fr w w3 := sp3.fr (sp2.fr (show Fr w (w1.alloc _) by repeat (first | (with_reducible exact Fr.refl _) | (with_reducible assumption) | (with_reducible refine Fr.drewN ?_ _) | (with_reducible refine Fr.drew ?_) | (with_reducible refine Fr.alloc ?_ _) | (with_reducible refine Fr.setCell ?_ (by (first | (with_reducible assumption) | omega | (simp only [World.size_alloc, World.size_setCell, World.size_drew, World.heap_drewN]; omega) | (simp; done) | (simp; omega))) _) | (with_reducible refine Fr.trans ?_ (by with_reducible assumption)))) (by omega)) (by omega)
  have hf5 : Fr w w5 := sp5.fr (sp4.fr (show Fr w (w3.alloc _) by repeat (first | (with_reducible exact Fr.refl _) | (with_reducible assumption) | (with_reducible refine Fr.drewN ?_ _) | (with_reducible refine Fr.drew ?_) | (with_reducible refine Fr.alloc ?_ _) | (with_reducible refine Fr.setCell ?_ (by (first | (with_reducible assumption) | omega | (simp only [World.size_alloc, World.size_setCell, World.size_drew, World.heap_drewN]; omega) | (simp; done) | (simp; omega))) _) | (with_reducible refine Fr.trans ?_ (by with_reducible assumption)))) (by omega)) (by omega)
  clear hr BR hx hz
  go_wp2_with fail
  refine bodyPost_ret (v := .tuple #[.agg #[.slice ao' d.f0.length cap', .int .i64 d.f1, .int .i64 d.f2], .int .i64 x, .int .i64 y, .int .i64 z]) (by simp [results, Try.results41, go_sem, *]) rfl ⟨d, ao', cap', x, y, z, h1, rfl, ?_, by repeat (first | (with_reducible exact Fr.refl _) | (with_reducible assumption) | (with_reducible refine Fr.drewN ?_ _) | (with_reducible refine Fr.drew ?_) | (with_reducible refine Fr.alloc ?_ _) | (with_reducible refine Fr.setCell ?_ (by (first | (with_reducible assumption) | omega | (simp only [World.size_alloc, World.size_setCell, World.size_drew, World.heap_drewN]; omega) | (simp; done) | (simp; omega))) _) | (with_reducible refine Fr.trans ?_ (by with_reducible assumption)))⟩
  refine StrsW.rd (lo := lo) (hi := hi) ?_
  change OwW _ _ _ _ _ _ _ _; (repeat (first | (with_reducible refine OwW.drewN ?_ _) | (with_reducible refine OwW.drew ?_) | (with_reducible refine OwW.alloc ?_ _) | (with_reducible refine OwW.set ?_ (by (first | (with_reducible assumption) | omega | (simp only [World.size_alloc, World.size_setCell, World.size_drew, World.heap_drewN]; omega) | (simp; done) | (simp; omega))) _) | (exact HR.out)))
end Go.Proofs.Ytnlcgffffjjojaa
