/- Drawn arguments of LinkTake (spec.DrawLinkTake). No condition but the size of the draw. -/
import Derived.Test.YtnlcgffffjjojaaDraw5
import Derived.Test.YtnlcgffffjjojaaDraw6
import Derived.RegionTactic
namespace Go.Proofs.Ytnlcgffffjjojaa
open Go.RowKit
set_option linter.unusedVariables false
set_option linter.unusedSimpArgs false
set_option maxHeartbeats 8000000 in
set_option maxRecDepth 100000 in
theorem DrawLinkTake_any (ao : Option Addr) (n cap : Nat) (w : World) (hy : ByR w w.heap.size ao n cap) :
    Calls Try.prog 39 #[.slice ao n cap] w fun e w' => ∃ (d : LinkD) (ao' : Option Addr) (cap' : Nat) (p : PacketR), d.f0.length ≤ 300 ∧ p.f5.size ≤ 5 ∧
      e = .returned (.tuple #[.agg #[.slice ao' d.f0.length cap', .int .i64 d.f1, .int .i64 d.f2], .agg #[.int .i64 p.f0, .int .i64 p.f1, .int .i64 p.f2, .int .i64 p.f3, .int .i64 p.f4, .string p.f5]]) ∧ StrsR w' (.slice ao' d.f0.length cap') d.f0 ∧ Fr w w' := by
  have HY := Lib.hid hy
  clear hy
  go_enter Try.func39, Try.ntmps39
  go_wp2_with fail
  refine (l01New_any ao n cap _ (HY.out.here (by repeat (first | (with_reducible exact Fr.refl _) | (with_reducible assumption) | (with_reducible refine Fr.drewN ?_ _) | (with_reducible refine Fr.drew ?_) | (with_reducible refine Fr.alloc ?_ _) | (with_reducible refine Fr.setCell ?_ (by (first | (with_reducible assumption) | omega | (simp only [World.size_alloc, World.size_setCell, World.size_drew, World.heap_drewN]; omega) | (simp; done) | (simp; omega))) _) | (with_reducible refine Fr.trans ?_ (by with_reducible assumption)))))).mono ?_
  rintro e w1 ⟨b, rfl, hb, hc1, hf1⟩
  have hs1 := hf1.size
  simp only [World.size_alloc] at hs1 hb
  have BR := ((Box.new w #[.slice none 0 0, .int .i64 0, .int .i64 0] 53).alloc (.cells #[.int .i64 0, .int .i64 0, .int .i64 0, .int .i64 0, .int .i64 0, .string ⟨#[]⟩] 27)).fr hf1
  have BS := (Box.new (w.alloc (.cells #[.slice none 0 0, .int .i64 0, .int .i64 0] 53)) #[.int .i64 0, .int .i64 0, .int .i64 0, .int .i64 0, .int .i64 0, .string ⟨#[]⟩] 27).fr hf1
  simp only [World.size_alloc] at BS
  go_wp2_with fail
  refine (l01Below_any b _ _ hc1 (by omega)).mono ?_
  rintro e w2 ⟨x, hx, _, rfl, hc2, sp2⟩
  have hx := hx (by omega)
  have hs2 := sp2.size
  go_wp2_with fail
  refine (l18AnyPacket_any b _ hc2).mono ?_
  rintro e w3 ⟨p, hp5, rfl, hc3, sp3⟩
  have hs3 := sp3.size
  have hlt3 := hc3.lt
  go_wp2_with fail
  refine (l18Any_any b _ (hc3.fr (by repeat (first | (with_reducible exact Fr.refl _) | (with_reducible assumption) | (with_reducible refine Fr.drewN ?_ _) | (with_reducible refine Fr.drew ?_) | (with_reducible refine Fr.alloc ?_ _) | (with_reducible refine Fr.setCell ?_ (by (first | (with_reducible assumption) | omega | (simp only [World.size_alloc, World.size_setCell, World.size_drew, World.heap_drewN]; omega) | (simp; done) | (simp; omega))) _) | (with_reducible refine Fr.trans ?_ (by with_reducible assumption)))))).mono ?_
  rintro e w4 ⟨d, ao', cap', lo, hi, h1, rfl, hr, hlo, hc4, sp4⟩
  have hs4 := sp4.size
  simp only [World.size_alloc] at hs4 hlo
  have BR4 := (((BR.span sp2 (.inl (by omega))).span sp3 (.inl (by omega))).alloc (.cells #[.int .i64 p.f0, .int .i64 p.f1, .int .i64 p.f2, .int .i64 p.f3, .int .i64 p.f4, .string p.f5] 27)).span sp4 (.inl (by omega))
  have BS4 := (((BS.span sp2 (.inl (by omega))).span sp3 (.inl (by omega))).alloc (.cells #[.int .i64 p.f0, .int .i64 p.f1, .int .i64 p.f2, .int .i64 p.f3, .int .i64 p.f4, .string p.f5] 27)).span sp4 (.inl (by omega))
  have BP4 := (Box.new w3 #[.int .i64 p.f0, .int .i64 p.f1, .int .i64 p.f2, .int .i64 p.f3, .int .i64 p.f4, .string p.f5] 27).span sp4 (.inr (by omega))
  have FB4 := BR4.facts
  have FS4 := BS4.facts
  have FP4 := BP4.facts
  have HR := Lib.hid hr
  have hf3 : Fr w w3 := sp3.fr (sp2.fr (show Fr w w1 by repeat (first | (with_reducible exact Fr.refl _) | (with_reducible assumption) | (with_reducible refine Fr.drewN ?_ _) | (with_reducible refine Fr.drew ?_) | (with_reducible refine Fr.alloc ?_ _) | (with_reducible refine Fr.setCell ?_ (by (first | (with_reducible assumption) | omega | (simp only [World.size_alloc, World.size_setCell, World.size_drew, World.heap_drewN]; omega) | (simp; done) | (simp; omega))) _) | (with_reducible refine Fr.trans ?_ (by with_reducible assumption)))) (by omega)) (by omega)
  have hf4 : Fr w w4 := sp4.fr (show Fr w (w3.alloc _) by repeat (first | (with_reducible exact Fr.refl _) | (with_reducible assumption) | (with_reducible refine Fr.drewN ?_ _) | (with_reducible refine Fr.drew ?_) | (with_reducible refine Fr.alloc ?_ _) | (with_reducible refine Fr.setCell ?_ (by (first | (with_reducible assumption) | omega | (simp only [World.size_alloc, World.size_setCell, World.size_drew, World.heap_drewN]; omega) | (simp; done) | (simp; omega))) _) | (with_reducible refine Fr.trans ?_ (by with_reducible assumption)))) (by omega)
  clear hr BR BS
  by_cases hk : x = 0
  · subst hk
    by_cases h2 : 0 ≤ d.f2
    · by_cases h3 : d.f2 < 200
      · have hwt : IntKind.i64.wrap (d.f2 + 1) = d.f2 + 1 := IntWalk.i64_in _ (by omega)
        go_wp2_with fail; go_region; all_goals (go_wp2_with fail; refine bodyPost_ret (v := .tuple #[.agg #[.slice ao' d.f0.length cap', .int .i64 d.f1, .int .i64 d.f2], .agg #[.int .i64 p.f0, .int .i64 p.f1, .int .i64 p.f2, .int .i64 (d.f2 + 1), .int .i64 p.f4, .string ⟨#[110, 101, 120, 116]⟩]]) (by simp [results, Try.results39, go_sem, *]) rfl ⟨d, ao', cap', ⟨p.f0, p.f1, p.f2, (d.f2 + 1), p.f4, ⟨#[110, 101, 120, 116]⟩⟩, h1, (by show 4 ≤ 5; omega), rfl, ?_, by repeat (first | (with_reducible exact Fr.refl _) | (with_reducible assumption) | (with_reducible refine Fr.drewN ?_ _) | (with_reducible refine Fr.drew ?_) | (with_reducible refine Fr.alloc ?_ _) | (with_reducible refine Fr.setCell ?_ (by (first | (with_reducible assumption) | omega | (simp only [World.size_alloc, World.size_setCell, World.size_drew, World.heap_drewN]; omega) | (simp; done) | (simp; omega))) _) | (with_reducible refine Fr.trans ?_ (by with_reducible assumption)))⟩; refine StrsW.rd (lo := lo) (hi := hi) ?_; change OwW _ _ _ _ _ _ _ _; (repeat (first | (with_reducible refine OwW.drewN ?_ _) | (with_reducible refine OwW.drew ?_) | (with_reducible refine OwW.alloc ?_ _) | (with_reducible refine OwW.set ?_ (by (first | (with_reducible assumption) | omega | (simp only [World.size_alloc, World.size_setCell, World.size_drew, World.heap_drewN]; omega) | (simp; done) | (simp; omega))) _) | (exact HR.out))))
      · go_wp2_with fail; go_region; all_goals (go_wp2_with fail; refine bodyPost_ret (v := .tuple #[.agg #[.slice ao' d.f0.length cap', .int .i64 d.f1, .int .i64 d.f2], .agg #[.int .i64 p.f0, .int .i64 p.f1, .int .i64 p.f2, .int .i64 p.f3, .int .i64 p.f4, .string p.f5]]) (by simp [results, Try.results39, go_sem, *]) rfl ⟨d, ao', cap', ⟨p.f0, p.f1, p.f2, p.f3, p.f4, p.f5⟩, h1, hp5, rfl, ?_, by repeat (first | (with_reducible exact Fr.refl _) | (with_reducible assumption) | (with_reducible refine Fr.drewN ?_ _) | (with_reducible refine Fr.drew ?_) | (with_reducible refine Fr.alloc ?_ _) | (with_reducible refine Fr.setCell ?_ (by (first | (with_reducible assumption) | omega | (simp only [World.size_alloc, World.size_setCell, World.size_drew, World.heap_drewN]; omega) | (simp; done) | (simp; omega))) _) | (with_reducible refine Fr.trans ?_ (by with_reducible assumption)))⟩; refine StrsW.rd (lo := lo) (hi := hi) ?_; change OwW _ _ _ _ _ _ _ _; (repeat (first | (with_reducible refine OwW.drewN ?_ _) | (with_reducible refine OwW.drew ?_) | (with_reducible refine OwW.alloc ?_ _) | (with_reducible refine OwW.set ?_ (by (first | (with_reducible assumption) | omega | (simp only [World.size_alloc, World.size_setCell, World.size_drew, World.heap_drewN]; omega) | (simp; done) | (simp; omega))) _) | (exact HR.out))))
    · go_wp2_with fail; go_region; all_goals (go_wp2_with fail; refine bodyPost_ret (v := .tuple #[.agg #[.slice ao' d.f0.length cap', .int .i64 d.f1, .int .i64 d.f2], .agg #[.int .i64 p.f0, .int .i64 p.f1, .int .i64 p.f2, .int .i64 p.f3, .int .i64 p.f4, .string p.f5]]) (by simp [results, Try.results39, go_sem, *]) rfl ⟨d, ao', cap', ⟨p.f0, p.f1, p.f2, p.f3, p.f4, p.f5⟩, h1, hp5, rfl, ?_, by repeat (first | (with_reducible exact Fr.refl _) | (with_reducible assumption) | (with_reducible refine Fr.drewN ?_ _) | (with_reducible refine Fr.drew ?_) | (with_reducible refine Fr.alloc ?_ _) | (with_reducible refine Fr.setCell ?_ (by (first | (with_reducible assumption) | omega | (simp only [World.size_alloc, World.size_setCell, World.size_drew, World.heap_drewN]; omega) | (simp; done) | (simp; omega))) _) | (with_reducible refine Fr.trans ?_ (by with_reducible assumption)))⟩; refine StrsW.rd (lo := lo) (hi := hi) ?_; change OwW _ _ _ _ _ _ _ _; (repeat (first | (with_reducible refine OwW.drewN ?_ _) | (with_reducible refine OwW.drew ?_) | (with_reducible refine OwW.alloc ?_ _) | (with_reducible refine OwW.set ?_ (by (first | (with_reducible assumption) | omega | (simp only [World.size_alloc, World.size_setCell, World.size_drew, World.heap_drewN]; omega) | (simp; done) | (simp; omega))) _) | (exact HR.out))))
  · have hk0 : ((x : Int) == 0) = false := by rw [beq_eq_false_iff_ne]; omega
    go_wp2_with fail; go_region; all_goals (go_wp2_with fail; refine bodyPost_ret (v := .tuple #[.agg #[.slice ao' d.f0.length cap', .int .i64 d.f1, .int .i64 d.f2], .agg #[.int .i64 p.f0, .int .i64 p.f1, .int .i64 p.f2, .int .i64 p.f3, .int .i64 p.f4, .string p.f5]]) (by simp [results, Try.results39, go_sem, *]) rfl ⟨d, ao', cap', ⟨p.f0, p.f1, p.f2, p.f3, p.f4, p.f5⟩, h1, hp5, rfl, ?_, by repeat (first | (with_reducible exact Fr.refl _) | (with_reducible assumption) | (with_reducible refine Fr.drewN ?_ _) | (with_reducible refine Fr.drew ?_) | (with_reducible refine Fr.alloc ?_ _) | (with_reducible refine Fr.setCell ?_ (by (first | (with_reducible assumption) | omega | (simp only [World.size_alloc, World.size_setCell, World.size_drew, World.heap_drewN]; omega) | (simp; done) | (simp; omega))) _) | (with_reducible refine Fr.trans ?_ (by with_reducible assumption)))⟩; refine StrsW.rd (lo := lo) (hi := hi) ?_; change OwW _ _ _ _ _ _ _ _; (repeat (first | (with_reducible refine OwW.drewN ?_ _) | (with_reducible refine OwW.drew ?_) | (with_reducible refine OwW.alloc ?_ _) | (with_reducible refine OwW.set ?_ (by (first | (with_reducible assumption) | omega | (simp only [World.size_alloc, World.size_setCell, World.size_drew, World.heap_drewN]; omega) | (simp; done) | (simp; omega))) _) | (exact HR.out))))
end Go.Proofs.Ytnlcgffffjjojaa
