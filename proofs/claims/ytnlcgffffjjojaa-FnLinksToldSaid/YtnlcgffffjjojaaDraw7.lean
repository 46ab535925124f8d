/- Drawn arguments of LinkPut (spec.DrawLinkPut). No condition but the size of the draw. -/
import Derived.Test.YtnlcgffffjjojaaDraw6
namespace Go.Proofs.Ytnlcgffffjjojaa
open Go.RowKit
set_option linter.unusedVariables false
set_option linter.unusedSimpArgs false
set_option maxHeartbeats 2000000 in
set_option maxRecDepth 100000 in
theorem DrawLinkPut_any (ao : Option Addr) (n cap : Nat) (w : World) (hy : ByR w w.heap.size ao n cap) :
    Calls Try.prog 42 #[.slice ao n cap] w fun e w' => ∃ (d : LinkD) (ao' : Option Addr) (cap' : Nat) (s : ByteArray), d.f0.length ≤ 300 ∧ s.size ≤ 3 ∧
      e = .returned (.tuple #[.agg #[.slice ao' d.f0.length cap', .int .i64 d.f1, .int .i64 d.f2], .string s]) ∧ StrsR w' (.slice ao' d.f0.length cap') d.f0 ∧ Fr w w' := by
  have HY := Lib.hid hy
  clear hy
  go_enter Try.func42, Try.ntmps42
  go_wp2_with fail
  refine (l01New_any ao n cap _ (HY.out.here (by repeat (first | (with_reducible exact Fr.refl _) | (with_reducible assumption) | (with_reducible refine Fr.drewN ?_ _) | (with_reducible refine Fr.drew ?_) | (with_reducible refine Fr.alloc ?_ _) | (with_reducible refine Fr.setCell ?_ (by (first | (with_reducible assumption) | omega | (simp only [World.size_alloc, World.size_setCell, World.size_drew, World.heap_drewN]; omega) | (simp; done) | (simp; omega))) _) | (with_reducible refine Fr.trans ?_ (by with_reducible assumption)))))).mono ?_
  rintro e w1 ⟨b, rfl, hb, hc1, hf1⟩
  have hs1 := hf1.size
  simp only [World.size_alloc] at hs1 hb
  have BR := (Box.new w #[.slice none 0 0, .int .i64 0, .int .i64 0] 53).fr hf1
  go_wp2_with fail
  refine (l01Below_any b _ _ hc1 (by omega)).mono ?_
  rintro e w2 ⟨x, hx, _, rfl, hc2, sp2⟩
  have hx := hx (by omega)
  have hs2 := sp2.size
  go_wp2_with fail
  refine (l01Text_any b _ _ hc2).mono ?_
  rintro e w3 ⟨s, hs, rfl, hc3, sp3⟩
  have hs3 := sp3.size
  go_wp2_with fail
  refine (l18Any_any b _ hc3).mono ?_
  rintro e w4 ⟨d, ao', cap', lo, hi, h1, rfl, hr, hlo, hc4, sp4⟩
  have hs4 := sp4.size
  have BR4 := ((BR.span sp2 (.inl (by omega))).span sp3 (.inl (by omega))).span sp4 (.inl (by omega))
  have FB4 := BR4.facts
  have HR := Lib.hid hr
  have hf4 : Fr w w4 := sp4.fr (sp3.fr (sp2.fr (show Fr w w1 by repeat (first | (with_reducible exact Fr.refl _) | (with_reducible assumption) | (with_reducible refine Fr.drewN ?_ _) | (with_reducible refine Fr.drew ?_) | (with_reducible refine Fr.alloc ?_ _) | (with_reducible refine Fr.setCell ?_ (by (first | (with_reducible assumption) | omega | (simp only [World.size_alloc, World.size_setCell, World.size_drew, World.heap_drewN]; omega) | (simp; done) | (simp; omega))) _) | (with_reducible refine Fr.trans ?_ (by with_reducible assumption)))) (by omega)) (by omega)) (by omega)
  clear hr BR
  go_wp2_with fail
  refine bodyPost_ret (v := .tuple #[.agg #[.slice ao' d.f0.length cap', .int .i64 d.f1, .int .i64 d.f2], .string s]) (by simp [results, Try.results42, go_sem, *]) rfl ⟨d, ao', cap', s, h1, by omega, rfl, ?_, by repeat (first | (with_reducible exact Fr.refl _) | (with_reducible assumption) | (with_reducible refine Fr.drewN ?_ _) | (with_reducible refine Fr.drew ?_) | (with_reducible refine Fr.alloc ?_ _) | (with_reducible refine Fr.setCell ?_ (by (first | (with_reducible assumption) | omega | (simp only [World.size_alloc, World.size_setCell, World.size_drew, World.heap_drewN]; omega) | (simp; done) | (simp; omega))) _) | (with_reducible refine Fr.trans ?_ (by with_reducible assumption)))⟩
  refine StrsW.rd (lo := lo) (hi := hi) ?_
  change OwW _ _ _ _ _ _ _ _; (repeat (first | (with_reducible refine OwW.drewN ?_ _) | (with_reducible refine OwW.drew ?_) | (with_reducible refine OwW.alloc ?_ _) | (with_reducible refine OwW.set ?_ (by (first | (with_reducible assumption) | omega | (simp only [World.size_alloc, World.size_setCell, World.size_drew, World.heap_drewN]; omega) | (simp; done) | (simp; omega))) _) | (exact HR.out)))
end Go.Proofs.Ytnlcgffffjjojaa
