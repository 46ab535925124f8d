/- Texts in one: Pes, Pla, Psm, Ptl. -/
import Derived.Test.YtjgghiniajmfjaaSfg
import Derived.Test.YtjgghiniajmfjaaPen
import Derived.Test.YtjgghiniajmfjaaPan
import Derived.Test.YtjgghiniajmfjaaDrg2
import Derived.Deep.RegionLaw
import Derived.Deep.RegionHeld3
import Derived.Test.YtjgghiniajmfjaaSrr
/- PathEnds, PathPairs, StepOnly of the reference. No condition but the reading. -/
namespace Go.Proofs.Ytjgghiniajmfjaa
open Go.RowKit
set_option linter.unusedVariables false
set_option linter.unusedSimpArgs false
theorem RdS.empty (w : World) (sz : Nat) (a : Option Addr) : RdS w sz (.slice a 0 0) 0 [] := ⟨by simp, a, 0, rfl, Nat.le_refl _, by unfold maxLen; omega, fun h => absurd h (by decide)⟩
theorem SqSW.nth2 {n : Nat} {w : World} {lo hi g : Nat} {k cz : Nat} {acc : List (Nat → Nat → Bool)} (h : SqSW n w lo hi (.slice (some ⟨g, 0, none⟩) k cz) acc) (hn : 0 < n) (hk : k = acc.length) {j : Nat} (hj : j < k) : ∃ ga ca, (lo ≤ ga ∧ lo ≤ g) ∧ ga < w.heap.size ∧ g < w.heap.size ∧ w.cell? ⟨g, j, none⟩ = some (.slice (some ⟨ga, 0, none⟩) (n * n) ca) ∧ SqR w (.slice (some ⟨ga, 0, none⟩) (n * n) ca) n (nAt acc j) := by
  obtain ⟨g', cap, hv, h1, h2, h3, u, l1, h1', hu, ⟨x, rfl, hx⟩, hl1, hh1, _, hc, _⟩ := NestW.turn (E := SqEW n) (fun a b c => SqEW.span a b c) h (show j < acc.length by omega) (by omega)
  cases hv
  rcases owns_shape hx.1 with ⟨rfl, h0, _⟩ | ⟨ga, ca, rfl, h5, h6, _⟩
  · have := Nat.mul_pos hn hn
    omega
  · have h7 := hx.2 ga rfl
    have c0 := (hc 0 _ (by omega) rfl).1
    rw [show j * 1 + 0 = j by omega] at c0
    exact ⟨ga, ca, ⟨by omega, h1⟩, h6, h3, c0, hx.rd⟩
set_option maxHeartbeats 8000000 in
set_option maxRecDepth 100000 in
theorem specPathEnds_any (g : GraphD) (ev : Value) (v : Value) (ps : List PieceD) (x : Int) (w : World) (he : EdgesR w ev g.f1) (hv : PiecesR w v ps) (hx : -9223372036854775808 ≤ x ∧ x ≤ 9223372036854775807) :
    Calls Try.prog 21 #[.agg #[.int .i64 g.f0, ev], .agg #[v], .int .i64 x] w fun e w' => ∃ ao cap, e = .returned (.slice ao (endsL g ps x).length cap) ∧ IntsO w' w.heap.size (.slice ao (endsL g ps x).length cap) (endsL g ps x) ∧ Fr w w' := by
  obtain ⟨i0, hi, hz0, hz1, hz2⟩ := info_parts info_int
  obtain ⟨gb, hgb⟩ : ∃ gb, graphB g = gb := ⟨_, rfl⟩
  obtain ⟨pb, hpb⟩ : ∃ pb, pathB ps = pb := ⟨_, rfl⟩
  obtain ⟨vb, hvb⟩ : ∃ vb, decide (0 ≤ x ∧ x ≤ g.f0 - 1) = vb := ⟨_, rfl⟩
  have HE := Lib.hid he
  have HV := Lib.hid hv
  have CG : Hid (∀ w', Fr w w' → Calls Try.prog 64 #[.agg #[.int .i64 g.f0, ev]] w' fun e w'' => e = .returned (.bool gb) ∧ Fr w' w'') := Lib.hid fun w' h => by rw [← hgb]; exact specGraphOk_any ev g.f0 g.f1 w' (HE.out.fr h)
  have CP : Hid (∀ w', Fr w w' → Calls Try.prog 26 #[.agg #[v]] w' fun e w'' => e = .returned (.bool pb) ∧ Fr w' w'') := Lib.hid fun w' h => by rw [← hpb]; exact specPathOk_any v ps w' (HV.out.fr h)
  have CV : Hid (∀ w', Calls Try.prog 94 #[.int .i64 x, .int .i64 0, .int .i64 (g.f0 - 1)] w' fun e w'' => e = .returned (.bool vb) ∧ w' = w'') := Lib.hid fun w' => by rw [← hvb]; exact l01In_any x 0 (g.f0 - 1) w'
  have HNO : Hid (¬ (gb = true ∧ pb = true ∧ vb = true) → endsL g ps x = []) := Lib.hid fun h => by
    unfold endsL
    rw [if_neg]
    rintro ⟨h1, h2, h3⟩
    exact h ⟨hgb ▸ h1, hpb ▸ h2, hvb ▸ decide_eq_true (by omega)⟩
  obtain ⟨ae, be, oe, ce, rfl, hce, hme, fe⟩ := he.one
  obtain ⟨av, bv, ov, cv, rfl, hcv, hmv, fv⟩ := hv.one
  clear he hv fe fv
  cases gb
  · have hL := HNO.out (by simp)
    rw [hL]
    clear HNO hgb hpb hvb hL
    go_enter Try.func21, Try.ntmps21
    go_wp2_with fail
    refine (CG.out _ (by repeat (first | (with_reducible exact Fr.refl _) | (with_reducible assumption) | (with_reducible refine Fr.drewN ?_ _) | (with_reducible refine Fr.drew ?_) | (with_reducible refine Fr.alloc ?_ _) | (with_reducible refine Fr.setCell ?_ (by (first | (with_reducible assumption) | omega | (simp only [World.size_alloc, World.size_setCell, World.size_drew, World.heap_drewN]; omega) | (simp; done) | (simp; omega))) _) | (with_reducible refine Fr.trans ?_ (by with_reducible assumption))))).mono ?_
    rintro e w1 ⟨rfl, hf1⟩
    have BP1 := ((Box.new' (w := w.alloc (.cells #[.int .i64 (g.f0), .slice ae g.f1.length ce] 32)) (X := #[.slice av ps.length cv]) (T := 27) (b := w.heap.size + 1) (by simp)).alloc (.cells #[] 3)).fr hf1
    have BG1 := (((Box.new w #[.int .i64 (g.f0), .slice ae g.f1.length ce] 32).alloc (.cells #[.slice av ps.length cv] 27)).alloc (.cells #[] 3)).fr hf1
    have FP1 := BP1.facts
    go_wp2_with fail
    go_ret
    exact ⟨_, _, rfl, owns_lo ((owns_fr (made_empty (w := (w.alloc (.cells #[.int .i64 g.f0, .slice ae g.f1.length ce] 32)).alloc (.cells #[.slice av ps.length cv] 27)) (lo := w.heap.size + 2) (sz := 1) (e := 3) (by simp) (Nat.le_refl _)) hf1).kept (Fr.gr (show Fr w1 _ by repeat (first | (with_reducible exact Fr.refl _) | (with_reducible assumption) | (with_reducible refine Fr.drewN ?_ _) | (with_reducible refine Fr.drew ?_) | (with_reducible refine Fr.alloc ?_ _) | (with_reducible refine Fr.setCell ?_ (by (first | (with_reducible assumption) | omega | (simp only [World.size_alloc, World.size_setCell, World.size_drew, World.heap_drewN]; omega) | (simp; done) | (simp; omega))) _) | (with_reducible refine Fr.trans ?_ (by with_reducible assumption)))) none) (by simp [Value.ownBlock])) (by omega), by repeat (first | (with_reducible exact Fr.refl _) | (with_reducible assumption) | (with_reducible refine Fr.drewN ?_ _) | (with_reducible refine Fr.drew ?_) | (with_reducible refine Fr.alloc ?_ _) | (with_reducible refine Fr.setCell ?_ (by (first | (with_reducible assumption) | omega | (simp only [World.size_alloc, World.size_setCell, World.size_drew, World.heap_drewN]; omega) | (simp; done) | (simp; omega))) _) | (with_reducible refine Fr.trans ?_ (by with_reducible assumption)))⟩
  cases pb
  · have hL := HNO.out (by simp)
    rw [hL]
    clear HNO hgb hpb hvb hL
    go_enter Try.func21, Try.ntmps21
    go_wp2_with fail
    refine (CG.out _ (by repeat (first | (with_reducible exact Fr.refl _) | (with_reducible assumption) | (with_reducible refine Fr.drewN ?_ _) | (with_reducible refine Fr.drew ?_) | (with_reducible refine Fr.alloc ?_ _) | (with_reducible refine Fr.setCell ?_ (by (first | (with_reducible assumption) | omega | (simp only [World.size_alloc, World.size_setCell, World.size_drew, World.heap_drewN]; omega) | (simp; done) | (simp; omega))) _) | (with_reducible refine Fr.trans ?_ (by with_reducible assumption))))).mono ?_
    rintro e w1 ⟨rfl, hf1⟩
    have BP1 := ((Box.new' (w := w.alloc (.cells #[.int .i64 (g.f0), .slice ae g.f1.length ce] 32)) (X := #[.slice av ps.length cv]) (T := 27) (b := w.heap.size + 1) (by simp)).alloc (.cells #[] 3)).fr hf1
    have BG1 := (((Box.new w #[.int .i64 (g.f0), .slice ae g.f1.length ce] 32).alloc (.cells #[.slice av ps.length cv] 27)).alloc (.cells #[] 3)).fr hf1
    have FP1 := BP1.facts
    go_wp2_with fail
    refine (CP.out _ (by repeat (first | (with_reducible exact Fr.refl _) | (with_reducible assumption) | (with_reducible refine Fr.drewN ?_ _) | (with_reducible refine Fr.drew ?_) | (with_reducible refine Fr.alloc ?_ _) | (with_reducible refine Fr.setCell ?_ (by (first | (with_reducible assumption) | omega | (simp only [World.size_alloc, World.size_setCell, World.size_drew, World.heap_drewN]; omega) | (simp; done) | (simp; omega))) _) | (with_reducible refine Fr.trans ?_ (by with_reducible assumption))))).mono ?_
    rintro e w2 ⟨rfl, hf2⟩
    have FG2 := (BG1.fr hf2).facts
    go_wp2_with fail
    go_ret
    exact ⟨_, _, rfl, owns_lo ((owns_fr (made_empty (w := (w.alloc (.cells #[.int .i64 g.f0, .slice ae g.f1.length ce] 32)).alloc (.cells #[.slice av ps.length cv] 27)) (lo := w.heap.size + 2) (sz := 1) (e := 3) (by simp) (Nat.le_refl _)) hf1).kept (Fr.gr (show Fr w1 _ by repeat (first | (with_reducible exact Fr.refl _) | (with_reducible assumption) | (with_reducible refine Fr.drewN ?_ _) | (with_reducible refine Fr.drew ?_) | (with_reducible refine Fr.alloc ?_ _) | (with_reducible refine Fr.setCell ?_ (by (first | (with_reducible assumption) | omega | (simp only [World.size_alloc, World.size_setCell, World.size_drew, World.heap_drewN]; omega) | (simp; done) | (simp; omega))) _) | (with_reducible refine Fr.trans ?_ (by with_reducible assumption)))) none) (by simp [Value.ownBlock])) (by omega), by repeat (first | (with_reducible exact Fr.refl _) | (with_reducible assumption) | (with_reducible refine Fr.drewN ?_ _) | (with_reducible refine Fr.drew ?_) | (with_reducible refine Fr.alloc ?_ _) | (with_reducible refine Fr.setCell ?_ (by (first | (with_reducible assumption) | omega | (simp only [World.size_alloc, World.size_setCell, World.size_drew, World.heap_drewN]; omega) | (simp; done) | (simp; omega))) _) | (with_reducible refine Fr.trans ?_ (by with_reducible assumption)))⟩
  have hwl : IntKind.i64.wrap (g.f0 - 1) = g.f0 - 1 := IntWalk.i64_in _ (by have := (graphB_out hgb).1; omega)
  cases vb
  · have hL := HNO.out (by simp)
    rw [hL]
    clear HNO hgb hpb hvb hL
    go_enter Try.func21, Try.ntmps21
    go_wp2_with fail
    refine (CG.out _ (by repeat (first | (with_reducible exact Fr.refl _) | (with_reducible assumption) | (with_reducible refine Fr.drewN ?_ _) | (with_reducible refine Fr.drew ?_) | (with_reducible refine Fr.alloc ?_ _) | (with_reducible refine Fr.setCell ?_ (by (first | (with_reducible assumption) | omega | (simp only [World.size_alloc, World.size_setCell, World.size_drew, World.heap_drewN]; omega) | (simp; done) | (simp; omega))) _) | (with_reducible refine Fr.trans ?_ (by with_reducible assumption))))).mono ?_
    rintro e w1 ⟨rfl, hf1⟩
    have BP1 := ((Box.new' (w := w.alloc (.cells #[.int .i64 (g.f0), .slice ae g.f1.length ce] 32)) (X := #[.slice av ps.length cv]) (T := 27) (b := w.heap.size + 1) (by simp)).alloc (.cells #[] 3)).fr hf1
    have BG1 := (((Box.new w #[.int .i64 (g.f0), .slice ae g.f1.length ce] 32).alloc (.cells #[.slice av ps.length cv] 27)).alloc (.cells #[] 3)).fr hf1
    have FP1 := BP1.facts
    go_wp2_with fail
    refine (CP.out _ (by repeat (first | (with_reducible exact Fr.refl _) | (with_reducible assumption) | (with_reducible refine Fr.drewN ?_ _) | (with_reducible refine Fr.drew ?_) | (with_reducible refine Fr.alloc ?_ _) | (with_reducible refine Fr.setCell ?_ (by (first | (with_reducible assumption) | omega | (simp only [World.size_alloc, World.size_setCell, World.size_drew, World.heap_drewN]; omega) | (simp; done) | (simp; omega))) _) | (with_reducible refine Fr.trans ?_ (by with_reducible assumption))))).mono ?_
    rintro e w2 ⟨rfl, hf2⟩
    have FG2 := (BG1.fr hf2).facts
    go_wp2_with fail
    refine (CV.out _).mono ?_
    rintro e w3 ⟨rfl, rfl⟩
    go_wp2_with fail
    go_ret
    exact ⟨_, _, rfl, owns_lo ((owns_fr (made_empty (w := (w.alloc (.cells #[.int .i64 g.f0, .slice ae g.f1.length ce] 32)).alloc (.cells #[.slice av ps.length cv] 27)) (lo := w.heap.size + 2) (sz := 1) (e := 3) (by simp) (Nat.le_refl _)) hf1).kept (Fr.gr (show Fr w1 _ by repeat (first | (with_reducible exact Fr.refl _) | (with_reducible assumption) | (with_reducible refine Fr.drewN ?_ _) | (with_reducible refine Fr.drew ?_) | (with_reducible refine Fr.alloc ?_ _) | (with_reducible refine Fr.setCell ?_ (by (first | (with_reducible assumption) | omega | (simp only [World.size_alloc, World.size_setCell, World.size_drew, World.heap_drewN]; omega) | (simp; done) | (simp; omega))) _) | (with_reducible refine Fr.trans ?_ (by with_reducible assumption)))) none) (by simp [Value.ownBlock])) (by omega), by repeat (first | (with_reducible exact Fr.refl _) | (with_reducible assumption) | (with_reducible refine Fr.drewN ?_ _) | (with_reducible refine Fr.drew ?_) | (with_reducible refine Fr.alloc ?_ _) | (with_reducible refine Fr.setCell ?_ (by (first | (with_reducible assumption) | omega | (simp only [World.size_alloc, World.size_setCell, World.size_drew, World.heap_drewN]; omega) | (simp; done) | (simp; omega))) _) | (with_reducible refine Fr.trans ?_ (by with_reducible assumption)))⟩
  obtain ⟨n, hn, hn0, hn1, hin⟩ := graph_nat hgb
  have hx := of_decide_eq_true hvb
  obtain ⟨p, rfl⟩ := Int.eq_ofNat_of_zero_le hx.1
  have hpn : p < n := by omega
  have hps := (pathB_out hpb).1
  have hps1 := hps.1
  have hps2 := hps.2
  obtain ⟨R, hR⟩ : ∃ R, endR n (stR g.f1) ps = R := ⟨_, rfl⟩
  have HL : Hid (endsL g ps (p : Int) = reachL n (R p)) := Lib.hid (by
    unfold endsL
    rw [if_pos ⟨hgb, hpb, by omega⟩, hn]
    simp [hR])
  have CF : Hid (∀ w', Fr w w' → Calls Try.prog 95 #[.agg #[.int .i64 (n : Int), .slice ae g.f1.length ce], .agg #[.slice av ps.length cv]] w' fun e w'' => ∃ az cz, e = .returned (.slice az ps.length cz) ∧ SqSW n w'' (w'.heap.size + 2) w''.heap.size (.slice az ps.length cz) (denR n (stR g.f1) ps ps.length) ∧ Fr w' w'') := Lib.hid fun w' h => l06Full_any _ ps n _ g.f1 w' ⟨hn0, hn1⟩ (HV.out.fr h) hpb (HE.out.fr h) hin
  have HR2 : Hid (nAt (denR n (stR g.f1) ps ps.length) (ps.length - 1) = R) := Lib.hid hR
  have hdl := denR_len n (stR g.f1) ps ps.length
  have HDL := Lib.hid hdl
  rw [HL.out]
  rw [hn] at CG CV hwl ⊢
  have hw1 := wrap_mul (i := p) (n := n) (by omega) hn1
  have hwl2 : IntKind.i64.wrap ((ps.length : Int) - 1) = ((ps.length - 1 : Nat) : Int) := by rw [show (ps.length : Int) - 1 = ((ps.length - 1 : Nat) : Int) by omega]; exact IntWalk.i64_in _ (by omega)
  have hlt1 : ps.length - 1 < ps.length := by omega
  clear HNO hgb hpb hvb hn hin hx hR hps HL hdl
  go_enter Try.func21, Try.ntmps21
  go_wp2_with fail
  refine (CG.out _ (by repeat (first | (with_reducible exact Fr.refl _) | (with_reducible assumption) | (with_reducible refine Fr.drewN ?_ _) | (with_reducible refine Fr.drew ?_) | (with_reducible refine Fr.alloc ?_ _) | (with_reducible refine Fr.setCell ?_ (by (first | (with_reducible assumption) | omega | (simp only [World.size_alloc, World.size_setCell, World.size_drew, World.heap_drewN]; omega) | (simp; done) | (simp; omega))) _) | (with_reducible refine Fr.trans ?_ (by with_reducible assumption))))).mono ?_
  rintro e w1 ⟨rfl, hf1⟩
  have BG1 := (((Box.new w #[.int .i64 ((n : Int)), .slice ae g.f1.length ce] 32).alloc (.cells #[.slice av ps.length cv] 27)).alloc (.cells #[] 3)).fr hf1
  have BP1 := ((Box.new' (w := w.alloc (.cells #[.int .i64 ((n : Int)), .slice ae g.f1.length ce] 32)) (X := #[.slice av ps.length cv]) (T := 27) (b := w.heap.size + 1) (by simp)).alloc (.cells #[] 3)).fr hf1
  have FP1 := BP1.facts
  go_wp2_with fail
  refine (CP.out _ (by repeat (first | (with_reducible exact Fr.refl _) | (with_reducible assumption) | (with_reducible refine Fr.drewN ?_ _) | (with_reducible refine Fr.drew ?_) | (with_reducible refine Fr.alloc ?_ _) | (with_reducible refine Fr.setCell ?_ (by (first | (with_reducible assumption) | omega | (simp only [World.size_alloc, World.size_setCell, World.size_drew, World.heap_drewN]; omega) | (simp; done) | (simp; omega))) _) | (with_reducible refine Fr.trans ?_ (by with_reducible assumption))))).mono ?_
  rintro e w2 ⟨rfl, hf2⟩
  have BG2 := BG1.fr hf2
  have BP2 := BP1.fr hf2
  have FG2 := BG2.facts
  have FP2 := BP2.facts
  go_wp2_with fail
  refine (CV.out _).mono ?_
  rintro e w3 ⟨rfl, rfl⟩
  go_wp2_with fail
  refine (CF.out _ (by repeat (first | (with_reducible exact Fr.refl _) | (with_reducible assumption) | (with_reducible refine Fr.drewN ?_ _) | (with_reducible refine Fr.drew ?_) | (with_reducible refine Fr.alloc ?_ _) | (with_reducible refine Fr.setCell ?_ (by (first | (with_reducible assumption) | omega | (simp only [World.size_alloc, World.size_setCell, World.size_drew, World.heap_drewN]; omega) | (simp; done) | (simp; omega))) _) | (with_reducible refine Fr.trans ?_ (by with_reducible assumption))))).mono ?_
  rintro e w4 ⟨az, cz, rfl, hq, hf4⟩
  obtain ⟨gz, rfl⟩ := hq.shape hn0 (by rw [HDL.out]; omega)
  obtain ⟨ga, ca, ⟨hga1, hgz1⟩, hga2, hgz, s4, r4⟩ := hq.nth2 hn0 HDL.out.symm (j := ps.length - 1) (by omega)
  rw [HR2.out] at r4
  obtain ⟨ab, bb, ob, cb, hv, hcb, hmb, fb⟩ := r4.one
  cases hv
  obtain ⟨e0, hbb, _, fb2⟩ := fb (Nat.mul_pos hn0 hn0)
  cases e0
  have BG4 := BG2.fr hf4
  have BP4 := BP2.fr hf4
  have HB := Lib.hid fb2
  have hfw4 : Fr w w4 := by repeat (first | (with_reducible exact Fr.refl _) | (with_reducible assumption) | (with_reducible refine Fr.drewN ?_ _) | (with_reducible refine Fr.drew ?_) | (with_reducible refine Fr.alloc ?_ _) | (with_reducible refine Fr.setCell ?_ (by (first | (with_reducible assumption) | omega | (simp only [World.size_alloc, World.size_setCell, World.size_drew, World.heap_drewN]; omega) | (simp; done) | (simp; omega))) _) | (with_reducible refine Fr.trans ?_ (by with_reducible assumption)))
  have HFW := Lib.hid hfw4
  have HBG := Lib.hid BG4
  have HBP := Lib.hid BP4
  have hW2 : w.heap.size + 3 ≤ w2.heap.size := by have := hf2.size; have := hf1.size; simp at this; omega
  have hW4 : w.heap.size + 3 ≤ w4.heap.size := by have := hf4.size; have := hf2.size; have := hf1.size; simp at this; omega
  have E4 : w4.ownsRow (w.heap.size + 2) 3 1 (.slice (some ⟨w.heap.size + 2, 0, none⟩) 0 0) 0 [] := (owns_fr (made_empty (w := (w.alloc (.cells #[.int .i64 ((n : Int)), .slice ae g.f1.length ce] 32)).alloc (.cells #[.slice av ps.length cv] 27)) (lo := w.heap.size + 2) (sz := 1) (e := 3) (by simp) (Nat.le_refl _)) hf1).kept ((hf2.trans hf4).gr none) (by simp [Value.ownBlock])
  have HE4 := Lib.hid E4
  clear hq r4 fb fb2 BG1 BG2 BP1 BP2 BG4 BP4 FG2 FP2 FP1 hf1 hf2 hf4 hfw4 E4 HR2 HDL CF CG CP CV
  go_wp2_with fail
  go_loopw [7, 9] (fun z i wr => ∃ (k : Nat) (ao : Option Addr) (co : Nat), k ≤ n ∧ i = .int .i64 k ∧ z = .slice ao (reachL k (R p)).length co ∧ Hid (IntsO wr (w.heap.size + 2) (.slice ao (reachL k (R p)).length co) (reachL k (R p))) ∧ Hid (Box wr w.heap.size #[.int .i64 (n : Int), .slice ae g.f1.length ce] 32) ∧ Hid (Box wr (w.heap.size + 1) #[.slice av ps.length cv] 27) ∧ Hid (Fr w wr) ∧ Hid ((∀ o, wr.cell? ⟨gz, o, none⟩ = w4.cell? ⟨gz, o, none⟩) ∧ (∀ o, wr.cell? ⟨ga, o, none⟩ = w4.cell? ⟨ga, o, none⟩)) ∧ w4.heap.size ≤ wr.heap.size ∧ Hid (∀ g', (Value.slice ao (reachL k (R p)).length co).ownBlock = some g' → g' = w.heap.size + 2 ∨ w4.heap.size ≤ g')) (fun _ i _ => n - (intOf i).toNat)
  case atStart => exact ⟨0, _, 0, Nat.zero_le _, rfl, rfl, HE4, HBG, HBP, HFW, Lib.hid ⟨fun _ => rfl, fun _ => rfl⟩, Nat.le_refl _, Lib.hid (fun g' e => by first | (simp [reachL, Value.ownBlock] at e; omega) | (cases e; exact .inl rfl))⟩
  case round =>
    clear HE4 HBG HBP HFW
    obtain ⟨k, ao, co, hk, rfl, rfl, HO, HBG, HBP, HFW, hzz, hsz, hblk⟩ := hrel
    have FG := HBG.out.facts
    have FP := HBP.out.facts
    by_cases hlt : k < n
    · have s5 : wr.cell? ⟨gz, ps.length - 1, none⟩ = some (.slice (some ⟨ga, 0, none⟩) (n * n) ca) := (hzz.out.1 _).trans s4
      have d5 : wr.cell? ⟨ga, p * n + k, none⟩ = some (.bool (R p k)) := (hzz.out.2 _).trans (by have := HB.out p k hpn hlt; simpa using this)
      have hw2 := wrap_at (i := p) (n := n) (k := k) (by omega) hn1 (by omega)
      have hpk := sq_lt hpn hlt
      have hs := reachL_succ k (R p)
      have hl := reachL_len k (R p)
      have hga' : ga < wr.heap.size := by omega
      have hgz' : gz < wr.heap.size := by omega
      obtain ⟨y, hy⟩ : ∃ y, R p k = y := ⟨_, rfl⟩
      rw [hy] at d5
      cases y
      · rw [if_neg (by rw [hy]; simp)] at hs
        have HS := Lib.hid hs
        clear hs hy
        go_wp2_with fail
        go_quiet (fail)
        go_wp2_with fail
        go_roundw
        case rel => exact ⟨k + 1, ao, co, by omega, by go_num, by rw [HS.out], by rw [HS.out]; exact Lib.hid (HO.out.fr (by repeat (first | (with_reducible exact Fr.refl _) | (with_reducible assumption) | (with_reducible refine Fr.drewN ?_ _) | (with_reducible refine Fr.drew ?_) | (with_reducible refine Fr.alloc ?_ _) | (with_reducible refine Fr.setCell ?_ (by (first | (with_reducible assumption) | omega | (simp only [World.size_alloc, World.size_setCell, World.size_drew, World.heap_drewN]; omega) | (simp; done) | (simp; omega))) _) | (with_reducible refine Fr.trans ?_ (by with_reducible assumption))))), Lib.hid (HBG.out.fr (by repeat (first | (with_reducible exact Fr.refl _) | (with_reducible assumption) | (with_reducible refine Fr.drewN ?_ _) | (with_reducible refine Fr.drew ?_) | (with_reducible refine Fr.alloc ?_ _) | (with_reducible refine Fr.setCell ?_ (by (first | (with_reducible assumption) | omega | (simp only [World.size_alloc, World.size_setCell, World.size_drew, World.heap_drewN]; omega) | (simp; done) | (simp; omega))) _) | (with_reducible refine Fr.trans ?_ (by with_reducible assumption))))), Lib.hid (HBP.out.fr (by repeat (first | (with_reducible exact Fr.refl _) | (with_reducible assumption) | (with_reducible refine Fr.drewN ?_ _) | (with_reducible refine Fr.drew ?_) | (with_reducible refine Fr.alloc ?_ _) | (with_reducible refine Fr.setCell ?_ (by (first | (with_reducible assumption) | omega | (simp only [World.size_alloc, World.size_setCell, World.size_drew, World.heap_drewN]; omega) | (simp; done) | (simp; omega))) _) | (with_reducible refine Fr.trans ?_ (by with_reducible assumption))))), Lib.hid (HFW.out.trans (by repeat (first | (with_reducible exact Fr.refl _) | (with_reducible assumption) | (with_reducible refine Fr.drewN ?_ _) | (with_reducible refine Fr.drew ?_) | (with_reducible refine Fr.alloc ?_ _) | (with_reducible refine Fr.setCell ?_ (by (first | (with_reducible assumption) | omega | (simp only [World.size_alloc, World.size_setCell, World.size_drew, World.heap_drewN]; omega) | (simp; done) | (simp; omega))) _) | (with_reducible refine Fr.trans ?_ (by with_reducible assumption))))), Lib.hid ⟨fun o => by first | exact hzz.out.1 o | simpa using hzz.out.1 o, fun o => by first | exact hzz.out.2 o | simpa using hzz.out.2 o⟩, by first | exact hsz | simpa using hsz, by rw [HS.out]; exact hblk⟩
        case measure => (simp [intOf]; omega)
      · rw [if_pos hy] at hs
        have HS := Lib.hid hs
        clear hs hy
        go_wp2_with fail
        go_quiet (fail)
        go_wp2_with (at_builtin; (refine wpList_append_rd rfl _ _ 38 rfl (w.heap.size + 2) 3 i0 (.int .i64 0) 1 8 Try.underlying38 hi hz0 hz1 hz2 rfl (by decide) (.slice ao (reachL k (R p)).length co) (reachL k (R p)).length ((reachL k (R p)).map (Value.int .i64)) rfl (World.ownsRow.alloc (owns_fr HO.out (by repeat (first | (with_reducible exact Fr.refl _) | (with_reducible assumption) | (with_reducible refine Fr.drewN ?_ _) | (with_reducible refine Fr.drew ?_) | (with_reducible refine Fr.alloc ?_ _) | (with_reducible refine Fr.setCell ?_ (by (first | (with_reducible assumption) | omega | (simp only [World.size_alloc, World.size_setCell, World.size_drew, World.heap_drewN]; omega) | (simp; done) | (simp; omega))) _) | (with_reducible refine Fr.trans ?_ (by with_reducible assumption))))) _) _ 1 [.int .i64 k] rfl (RdS.new (by first | rfl | (simp; done)) rfl) (by simp [Value.oneCell']) (by unfold maxLen; omega) (by omega) (by (first | (with_reducible assumption) | omega | (simp only [World.size_alloc, World.size_setCell, World.size_drew, World.heap_drewN]; omega) | (simp; done) | (simp; omega))) ?_; intro ay cy w9 hown hgrow hat))
        have z9 := hgrow.size
        have HO9 : Hid (IntsO w9 (w.heap.size + 2) (.slice ay (reachL (k + 1) (R p)).length cy) (reachL (k + 1) (R p))) := Lib.hid (by rw [HS.out]; simpa [IntsO] using hown)
        have hl2 : (reachL (k + 1) (R p)).length = (reachL k (R p)).length + 1 := by rw [HS.out]; simp
        have hne : ∀ c, c < w4.heap.size → c ≠ w.heap.size + 2 → (Value.slice ao (reachL k (R p)).length co).ownBlock ≠ some c := fun c h1 h2 e => by have := hblk.out c e; omega
        have hB9 := Box.gr (HBG.out.fr (show Fr wr _ by repeat (first | (with_reducible exact Fr.refl _) | (with_reducible assumption) | (with_reducible refine Fr.drewN ?_ _) | (with_reducible refine Fr.drew ?_) | (with_reducible refine Fr.alloc ?_ _) | (with_reducible refine Fr.setCell ?_ (by (first | (with_reducible assumption) | omega | (simp only [World.size_alloc, World.size_setCell, World.size_drew, World.heap_drewN]; omega) | (simp; done) | (simp; omega))) _) | (with_reducible refine Fr.trans ?_ (by with_reducible assumption))))) hgrow (hne _ (by omega) (by omega))
        have hP9 := Box.gr (HBP.out.fr (show Fr wr _ by repeat (first | (with_reducible exact Fr.refl _) | (with_reducible assumption) | (with_reducible refine Fr.drewN ?_ _) | (with_reducible refine Fr.drew ?_) | (with_reducible refine Fr.alloc ?_ _) | (with_reducible refine Fr.setCell ?_ (by (first | (with_reducible assumption) | omega | (simp only [World.size_alloc, World.size_setCell, World.size_drew, World.heap_drewN]; omega) | (simp; done) | (simp; omega))) _) | (with_reducible refine Fr.trans ?_ (by with_reducible assumption))))) hgrow (hne _ (by omega) (by omega))
        have hW9 : Fr w w9 := Fr.app (HFW.out.trans (show Fr wr _ by repeat (first | (with_reducible exact Fr.refl _) | (with_reducible assumption) | (with_reducible refine Fr.drewN ?_ _) | (with_reducible refine Fr.drew ?_) | (with_reducible refine Fr.alloc ?_ _) | (with_reducible refine Fr.setCell ?_ (by (first | (with_reducible assumption) | omega | (simp only [World.size_alloc, World.size_setCell, World.size_drew, World.heap_drewN]; omega) | (simp; done) | (simp; omega))) _) | (with_reducible refine Fr.trans ?_ (by with_reducible assumption))))) hgrow (RowIn.of_owns HO.out) (by omega)
        have hC9 : ∀ c, c < w4.heap.size → c ≠ w.heap.size + 2 → ∀ o, w9.cell? ⟨c, o, none⟩ = wr.cell? ⟨c, o, none⟩ := fun c h1 h2 o => by
          rw [grown_cell hgrow (b := c) (by simp; omega) (hne c h1 h2) o]
          exact (show Fr wr _ by repeat (first | (with_reducible exact Fr.refl _) | (with_reducible assumption) | (with_reducible refine Fr.drewN ?_ _) | (with_reducible refine Fr.drew ?_) | (with_reducible refine Fr.alloc ?_ _) | (with_reducible refine Fr.setCell ?_ (by (first | (with_reducible assumption) | omega | (simp only [World.size_alloc, World.size_setCell, World.size_drew, World.heap_drewN]; omega) | (simp; done) | (simp; omega))) _) | (with_reducible refine Fr.trans ?_ (by with_reducible assumption)))).cell (p := ⟨c, _, none⟩) (by show c < wr.heap.size; omega)
        have hz9 : w4.heap.size ≤ w9.heap.size := by simp at z9; omega
        have hK9 : ∀ g', (Value.slice ay ((reachL k (R p)).length + 1) cy).ownBlock = some g' → g' = w.heap.size + 2 ∨ w4.heap.size ≤ g' := fun g' e => by
          rcases hat with h | h
          · rw [h] at e; exact hblk.out g' e
          · rw [h] at e; simp at e; omega
        go_roundw
        case rel => exact ⟨k + 1, ay, cy, by omega, by go_num, by rw [hl2], HO9, Lib.hid hB9, Lib.hid hP9, Lib.hid hW9, Lib.hid ⟨fun o => (hC9 gz hgz (by omega) o).trans (hzz.out.1 o), fun o => (hC9 ga hga2 (by omega) o).trans (hzz.out.2 o)⟩, hz9, Lib.hid (by rw [hl2]; exact hK9)⟩
        case measure => (simp [intOf]; omega)
    · obtain rfl : k = n := by omega
      go_wp2_with fail
      go_ret
      exact ⟨_, _, rfl, owns_lo HO.out (by omega), HFW.out⟩
set_option maxHeartbeats 16000000 in
set_option maxRecDepth 100000 in
theorem specPathPairs_any (g : GraphD) (ev : Value) (v : Value) (ps : List PieceD) (w : World) (he : EdgesR w ev g.f1) (hv : PiecesR w v ps) :
    Calls Try.prog 24 #[.agg #[.int .i64 g.f0, ev], .agg #[v]] w fun e w' => ∃ u, e = .returned u ∧ IntSSR w' u (pairsM g ps) ∧ Fr w w' := by
  obtain ⟨k0, ki, kz0, kz1, kz2⟩ := info_parts info_ints
  obtain ⟨gb, hgb⟩ : ∃ gb, graphB g = gb := ⟨_, rfl⟩
  obtain ⟨pb, hpb⟩ : ∃ pb, pathB ps = pb := ⟨_, rfl⟩
  have HE := Lib.hid he
  have HV := Lib.hid hv
  have CG : Hid (∀ w', Fr w w' → Calls Try.prog 64 #[.agg #[.int .i64 g.f0, ev]] w' fun e w'' => e = .returned (.bool gb) ∧ Fr w' w'') := Lib.hid fun w' h => by rw [← hgb]; exact specGraphOk_any ev g.f0 g.f1 w' (HE.out.fr h)
  have CP : Hid (∀ w', Fr w w' → Calls Try.prog 26 #[.agg #[v]] w' fun e w'' => e = .returned (.bool pb) ∧ Fr w' w'') := Lib.hid fun w' h => by rw [← hpb]; exact specPathOk_any v ps w' (HV.out.fr h)
  have HNO : Hid (¬ (gb = true ∧ pb = true) → pairsM g ps = []) := Lib.hid fun h => by
    unfold pairsM
    rw [if_neg]
    rintro ⟨h1, h2⟩
    exact h ⟨hgb ▸ h1, hpb ▸ h2⟩
  have NE : ∀ (W : World) (a : Option Addr), IntSSR W (.slice a 0 0) [] := fun W a => ⟨[], rfl, RdS.empty _ _ _, fun k u x h => by simp at h⟩
  obtain ⟨ae, be, oe, ce, rfl, hce, hme, fe⟩ := he.one
  obtain ⟨av, bv, ov, cv, rfl, hcv, hmv, fv⟩ := hv.one
  clear he hv fe fv
  cases gb
  · have hL := HNO.out (by simp)
    rw [hL]
    clear HNO hgb hpb hL
    go_enter Try.func24, Try.ntmps24
    go_wp2_with fail
    refine (CG.out _ (by repeat (first | (with_reducible exact Fr.refl _) | (with_reducible assumption) | (with_reducible refine Fr.drewN ?_ _) | (with_reducible refine Fr.drew ?_) | (with_reducible refine Fr.alloc ?_ _) | (with_reducible refine Fr.setCell ?_ (by (first | (with_reducible assumption) | omega | (simp only [World.size_alloc, World.size_setCell, World.size_drew, World.heap_drewN]; omega) | (simp; done) | (simp; omega))) _) | (with_reducible refine Fr.trans ?_ (by with_reducible assumption))))).mono ?_
    rintro e w1 ⟨rfl, hf1⟩
    have FP1 := (((Box.new' (w := w.alloc (.cells #[.int .i64 (g.f0), .slice ae g.f1.length ce] 32)) (X := #[.slice av ps.length cv]) (T := 27) (b := w.heap.size + 1) (by simp)).alloc (.cells #[] 38)).fr hf1).facts
    go_wp2_with fail
    go_ret
    exact ⟨_, rfl, NE _ _, by repeat (first | (with_reducible exact Fr.refl _) | (with_reducible assumption) | (with_reducible refine Fr.drewN ?_ _) | (with_reducible refine Fr.drew ?_) | (with_reducible refine Fr.alloc ?_ _) | (with_reducible refine Fr.setCell ?_ (by (first | (with_reducible assumption) | omega | (simp only [World.size_alloc, World.size_setCell, World.size_drew, World.heap_drewN]; omega) | (simp; done) | (simp; omega))) _) | (with_reducible refine Fr.trans ?_ (by with_reducible assumption)))⟩
  cases pb
  · have hL := HNO.out (by simp)
    rw [hL]
    clear HNO hgb hpb hL
    go_enter Try.func24, Try.ntmps24
    go_wp2_with fail
    refine (CG.out _ (by repeat (first | (with_reducible exact Fr.refl _) | (with_reducible assumption) | (with_reducible refine Fr.drewN ?_ _) | (with_reducible refine Fr.drew ?_) | (with_reducible refine Fr.alloc ?_ _) | (with_reducible refine Fr.setCell ?_ (by (first | (with_reducible assumption) | omega | (simp only [World.size_alloc, World.size_setCell, World.size_drew, World.heap_drewN]; omega) | (simp; done) | (simp; omega))) _) | (with_reducible refine Fr.trans ?_ (by with_reducible assumption))))).mono ?_
    rintro e w1 ⟨rfl, hf1⟩
    have FP1 := (((Box.new' (w := w.alloc (.cells #[.int .i64 (g.f0), .slice ae g.f1.length ce] 32)) (X := #[.slice av ps.length cv]) (T := 27) (b := w.heap.size + 1) (by simp)).alloc (.cells #[] 38)).fr hf1).facts
    go_wp2_with fail
    refine (CP.out _ (by repeat (first | (with_reducible exact Fr.refl _) | (with_reducible assumption) | (with_reducible refine Fr.drewN ?_ _) | (with_reducible refine Fr.drew ?_) | (with_reducible refine Fr.alloc ?_ _) | (with_reducible refine Fr.setCell ?_ (by (first | (with_reducible assumption) | omega | (simp only [World.size_alloc, World.size_setCell, World.size_drew, World.heap_drewN]; omega) | (simp; done) | (simp; omega))) _) | (with_reducible refine Fr.trans ?_ (by with_reducible assumption))))).mono ?_
    rintro e w2 ⟨rfl, hf2⟩
    go_wp2_with fail
    go_ret
    exact ⟨_, rfl, NE _ _, by repeat (first | (with_reducible exact Fr.refl _) | (with_reducible assumption) | (with_reducible refine Fr.drewN ?_ _) | (with_reducible refine Fr.drew ?_) | (with_reducible refine Fr.alloc ?_ _) | (with_reducible refine Fr.setCell ?_ (by (first | (with_reducible assumption) | omega | (simp only [World.size_alloc, World.size_setCell, World.size_drew, World.heap_drewN]; omega) | (simp; done) | (simp; omega))) _) | (with_reducible refine Fr.trans ?_ (by with_reducible assumption)))⟩
  obtain ⟨n, hn, hn0, hn1, hin⟩ := graph_nat hgb
  obtain ⟨R, hR⟩ : ∃ R, endR n (stR g.f1) ps = R := ⟨_, rfl⟩
  have HL : Hid (pairsM g ps = pairsL R n n) := Lib.hid (by
    unfold pairsM
    rw [if_pos ⟨hgb, hpb⟩, hn]
    simp [hR])
  have HEL : Hid (∀ p : Nat, p < n → endsL g ps (p : Int) = reachL n (R p)) := Lib.hid fun p hp => by
    unfold endsL
    rw [if_pos ⟨hgb, hpb, by omega⟩, hn]
    simp [hR]
  have CR : Hid (∀ (p : Nat) w', p < n → Fr w w' → Calls Try.prog 21 #[.agg #[.int .i64 (n : Int), .slice ae g.f1.length ce], .agg #[.slice av ps.length cv], .int .i64 (p : Int)] w' fun e w'' => ∃ ao cap, e = .returned (.slice ao (reachL n (R p)).length cap) ∧ IntsO w'' w'.heap.size (.slice ao (reachL n (R p)).length cap) (reachL n (R p)) ∧ Fr w' w'') := Lib.hid fun p w' hp h => by
    have := specPathEnds_any g _ _ ps (p : Int) w' (HE.out.fr h) (HV.out.fr h) (by omega)
    rw [HEL.out p hp, hn] at this
    exact this
  rw [HL.out]
  rw [hn] at CG ⊢
  clear HNO hgb hpb hn hin hR HL HEL NE
  go_enter Try.func24, Try.ntmps24
  go_wp2_with fail
  refine (CG.out _ (by repeat (first | (with_reducible exact Fr.refl _) | (with_reducible assumption) | (with_reducible refine Fr.drewN ?_ _) | (with_reducible refine Fr.drew ?_) | (with_reducible refine Fr.alloc ?_ _) | (with_reducible refine Fr.setCell ?_ (by (first | (with_reducible assumption) | omega | (simp only [World.size_alloc, World.size_setCell, World.size_drew, World.heap_drewN]; omega) | (simp; done) | (simp; omega))) _) | (with_reducible refine Fr.trans ?_ (by with_reducible assumption))))).mono ?_
  rintro e w1 ⟨rfl, hf1⟩
  have BG1 := (((Box.new w #[.int .i64 ((n : Int)), .slice ae g.f1.length ce] 32).alloc (.cells #[.slice av ps.length cv] 27)).alloc (.cells #[] 38)).fr hf1
  have BP1 := ((Box.new' (w := w.alloc (.cells #[.int .i64 ((n : Int)), .slice ae g.f1.length ce] 32)) (X := #[.slice av ps.length cv]) (T := 27) (b := w.heap.size + 1) (by simp)).alloc (.cells #[] 38)).fr hf1
  have FP1 := BP1.facts
  go_wp2_with fail
  refine (CP.out _ (by repeat (first | (with_reducible exact Fr.refl _) | (with_reducible assumption) | (with_reducible refine Fr.drewN ?_ _) | (with_reducible refine Fr.drew ?_) | (with_reducible refine Fr.alloc ?_ _) | (with_reducible refine Fr.setCell ?_ (by (first | (with_reducible assumption) | omega | (simp only [World.size_alloc, World.size_setCell, World.size_drew, World.heap_drewN]; omega) | (simp; done) | (simp; omega))) _) | (with_reducible refine Fr.trans ?_ (by with_reducible assumption))))).mono ?_
  rintro e w2 ⟨rfl, hf2⟩
  have HBG := Lib.hid (BG1.fr hf2)
  have HBP := Lib.hid (BP1.fr hf2)
  have hfw2 : Fr w w2 := by repeat (first | (with_reducible exact Fr.refl _) | (with_reducible assumption) | (with_reducible refine Fr.drewN ?_ _) | (with_reducible refine Fr.drew ?_) | (with_reducible refine Fr.alloc ?_ _) | (with_reducible refine Fr.setCell ?_ (by (first | (with_reducible assumption) | omega | (simp only [World.size_alloc, World.size_setCell, World.size_drew, World.heap_drewN]; omega) | (simp; done) | (simp; omega))) _) | (with_reducible refine Fr.trans ?_ (by with_reducible assumption)))
  have HFW := Lib.hid hfw2
  have hw2 : w.heap.size + 3 ≤ w2.heap.size := by have := hf2.size; have := hf1.size; simp at this; omega
  have hE2 : w2.ownsRow (w.heap.size + 2) 38 1 (.slice (some ⟨w.heap.size + 2, 0, none⟩) 0 0) 0 [] := (owns_fr (made_empty (w := (w.alloc (.cells #[.int .i64 ((n : Int)), .slice ae g.f1.length ce] 32)).alloc (.cells #[.slice av ps.length cv] 27)) (lo := w.heap.size + 2) (sz := 1) (e := 38) (by simp) (Nat.le_refl _)) hf1).kept (hf2.gr none) (by simp [Value.ownBlock])
  have HE2 : Hid (IntSSW w2 (w.heap.size + 2) w2.heap.size (.slice (some ⟨w.heap.size + 2, 0, none⟩) 0 0) []) := Lib.hid (NestP.none_yet ⟨hE2, RowIn.one (by omega) (by omega)⟩)
  clear FP1 BG1 BP1 hf1 hf2 hfw2 hE2 CG CP
  obtain ⟨W2, hW2⟩ : ∃ W2 : World, W2.heap.size = w.heap.size + 2 ∧ True := ⟨(w.alloc (.cells #[.int .i64 ((n : Int)), .slice ae g.f1.length ce] 32)).alloc (.cells #[.slice av ps.length cv] 27), by simp, trivial⟩
  go_wp2_with fail
  go_loopw [5, 6] (fun z i wr => ∃ (k : Nat) (az : Option Addr) (cz : Nat), k ≤ n ∧ i = .int .i64 k ∧ z = .slice az (pairsTo R n k 0).length cz ∧ Hid (IntSSW wr (w.heap.size + 2) wr.heap.size (.slice az (pairsTo R n k 0).length cz) (pairsTo R n k 0)) ∧ Hid (Box wr w.heap.size #[.int .i64 (n : Int), .slice ae g.f1.length ce] 32) ∧ Hid (Box wr (w.heap.size + 1) #[.slice av ps.length cv] 27) ∧ Hid (Fr w wr) ∧ w.heap.size + 3 ≤ wr.heap.size) (fun _ i _ => n - (intOf i).toNat)
  case atStart => exact ⟨0, _, 0, Nat.zero_le _, rfl, rfl, HE2, HBG, HBP, HFW, hw2⟩
  case round =>
    clear HE2 HBG HBP HFW hw2
    obtain ⟨k, az, cz, hk, rfl, rfl, HP, HBG, HBP, HFW, hw2⟩ := hrel
    have FG := HBG.out.facts
    have FP := HBP.out.facts
    by_cases hlt : k < n
    · go_wp2_with fail
      refine (CR.out k _ hlt (HFW.out.trans (by repeat (first | (with_reducible exact Fr.refl _) | (with_reducible assumption) | (with_reducible refine Fr.drewN ?_ _) | (with_reducible refine Fr.drew ?_) | (with_reducible refine Fr.alloc ?_ _) | (with_reducible refine Fr.setCell ?_ (by (first | (with_reducible assumption) | omega | (simp only [World.size_alloc, World.size_setCell, World.size_drew, World.heap_drewN]; omega) | (simp; done) | (simp; omega))) _) | (with_reducible refine Fr.trans ?_ (by with_reducible assumption)))))).mono ?_
      rintro e w5 ⟨a5, c5, rfl, h5, hf5⟩
      have hl32 := reachL_len n (R k)
      obtain ⟨bb, hbb⟩ := IntsO.get h5
      have zf5 := hf5.size
      have hrow := NestW.rowIn HP.out
      have HRD : Hid (0 < (reachL n (R k)).length → bb < w5.heap.size ∧ (Value.slice az (pairsTo R n k 0).length cz).ownBlock ≠ some bb ∧ ∀ q, q < (reachL n (R k)).length → w5.cell? ⟨bb, q, none⟩ = some (.int .i64 (iAt (reachL n (R k)) q))) := Lib.hid fun h => ⟨(hbb h).2.2.1, fun e => by have := hrow bb e; have := (hbb h).2.1; omega, (hbb h).2.2.2⟩
      have HAD : Hid (0 < (reachL n (R k)).length → a5 = some ⟨bb, 0, none⟩) := Lib.hid fun h => (hbb h).1
      have HP5 : Hid (IntSSW w5 (w.heap.size + 2) w5.heap.size (.slice az (pairsTo R n k 0).length cz) (pairsTo R n k 0)) := Lib.hid ((HP.out.fr hf5).mono hf5.size)
      have HBG5 := Lib.hid (HBG.out.fr hf5)
      have HBP5 := Lib.hid (HBP.out.fr hf5)
      have HFW5 := Lib.hid (HFW.out.trans hf5)
      have hw5 : w.heap.size + 3 ≤ w5.heap.size := by omega
      clear h5 hbb hrow FG FP
      go_wp2_with fail
      go_loopw [5, 8] (fun z i wr => ∃ (q : Nat) (az : Option Addr) (cz : Nat), q ≤ (reachL n (R k)).length ∧ i = .int .i64 q ∧ z = .slice az (pairsTo R n k q).length cz ∧ Hid (IntSSW wr (w.heap.size + 2) wr.heap.size (.slice az (pairsTo R n k q).length cz) (pairsTo R n k q)) ∧ Hid (Box wr w.heap.size #[.int .i64 (n : Int), .slice ae g.f1.length ce] 32) ∧ Hid (Box wr (w.heap.size + 1) #[.slice av ps.length cv] 27) ∧ Hid (Fr w wr) ∧ w.heap.size + 3 ≤ wr.heap.size ∧ Hid (0 < (reachL n (R k)).length → bb < wr.heap.size ∧ (Value.slice az (pairsTo R n k q).length cz).ownBlock ≠ some bb ∧ ∀ q, q < (reachL n (R k)).length → wr.cell? ⟨bb, q, none⟩ = some (.int .i64 (iAt (reachL n (R k)) q)))) (fun _ i _ => (reachL n (R k)).length - (intOf i).toNat)
      case atStart => exact ⟨0, az, cz, Nat.zero_le _, rfl, rfl, HP5, HBG5, HBP5, HFW5, hw5, HRD⟩
      case round =>
        clear HP5 HBG5 HBP5 HFW5 HP HBG HBP HFW hf5 HRD zf5 hw5 hw2
        obtain ⟨q, az, cz, hq, rfl, rfl, HP, HBG, HBP, HFW, hw2, hrd⟩ := hrel
        by_cases hqt : q < (reachL n (R k)).length
        · obtain rfl := HAD.out (by omega)
          obtain ⟨hb1, hb2, hb3⟩ := hrd.out (by omega)
          have d0 := hb3 q hqt
          have HB3 := Lib.hid hb3
          have HB2 := Lib.hid hb2
          obtain ⟨y, hy⟩ : ∃ y, iAt (reachL n (R k)) q = y := ⟨_, rfl⟩
          have hst := pairsTo_step (m := n) (R := R) hqt
          rw [hy] at d0 hst
          have HST := Lib.hid hst
          have hle := pairsTo_len R n k q
          have hle2 : (k + 1) * n ≤ 12 * 12 := Nat.mul_le_mul (by omega) hn1
          have hrow := NestW.rowIn HP.out
          have HROW := Lib.hid hrow
          obtain ⟨ys, hys, happ⟩ := NestW.app (E := IntsEW) (fun a b c => IntsEW.span a b c) HP.out
          have HYS := Lib.hid hys
          have HAPP := Lib.hid happ
          clear hys happ hst hy hb3 hrd hb2 hrow
          go_wp2_with (at_builtin; (refine wpList_append_rd rfl _ _ 41 rfl (w.heap.size + 2) 38 k0 (.slice none 0 0) 1 24 Try.underlying41 ki kz0 kz1 kz2 rfl (by decide) (.slice az (pairsTo R n k q).length cz) (pairsTo R n k q).length ys rfl (World.ownsRow.alloc (World.ownsRow.alloc HYS.out.1 _) _) _ 1 [.slice (some ⟨wr.heap.size, 0, none⟩) 2 2] rfl (RdS.new (by first | rfl | (simp; done)) rfl) (by simp [Value.oneCell']) (by unfold maxLen; omega) (by omega) (by (first | (with_reducible assumption) | omega | (simp only [World.size_alloc, World.size_setCell, World.size_drew, World.heap_drewN]; omega) | (simp; done) | (simp; omega))) ?_; intro ay cy w9 hown9 hgrow9 hat9))
          have hz9 := hgrow9.size
          have HE := Lib.hid (IntSSW.pair (W := w) (a := (k : Int)) (b := y) HP.out rfl (by omega) (by omega) HFW.out HAPP.out rfl ⟨_, rfl⟩ hown9 hgrow9 hat9)
          have hlen : (pairsTo R n k (q + 1)).length = (pairsTo R n k q).length + 1 := by rw [HST.out]; simp
          have hB9 := Box.gr ((HBG.out.alloc _).alloc _) hgrow9 (fun e => by have := HROW.out _ e; omega)
          have hP9 := Box.gr ((HBP.out.alloc _).alloc _) hgrow9 (fun e => by have := HROW.out _ e; omega)
          have HRD : Hid (0 < (reachL n (R k)).length → bb < w9.heap.size ∧ (Value.slice ay ((pairsTo R n k q).length + 1) cy).ownBlock ≠ some bb ∧ ∀ q, q < (reachL n (R k)).length → w9.cell? ⟨bb, q, none⟩ = some (.int .i64 (iAt (reachL n (R k)) q))) := Lib.hid fun _ => ⟨by have := hgrow9.size; simp at this; omega, fun e => by
            rcases hat9 with h | h
            · rw [h] at e; exact HB2.out e
            · rw [h] at e; simp at e; omega, fun q hq => by
            rw [grown_cell hgrow9 (b := bb) (by simp; omega) HB2.out q, ← HB3.out q hq]
            exact (show Fr wr _ by repeat (first | (with_reducible exact Fr.refl _) | (with_reducible assumption) | (with_reducible refine Fr.drewN ?_ _) | (with_reducible refine Fr.drew ?_) | (with_reducible refine Fr.alloc ?_ _) | (with_reducible refine Fr.setCell ?_ (by (first | (with_reducible assumption) | omega | (simp only [World.size_alloc, World.size_setCell, World.size_drew, World.heap_drewN]; omega) | (simp; done) | (simp; omega))) _) | (with_reducible refine Fr.trans ?_ (by with_reducible assumption)))).cell (p := ⟨bb, _, none⟩) hb1⟩
          go_roundw
          case rel =>
            refine ⟨q + 1, ay, cy, by omega, by go_num, by rw [hlen], Lib.hid ?_, Lib.hid hB9, Lib.hid hP9, Lib.hid HE.out.2, by simp at hz9; omega, Lib.hid ?_⟩
            · rw [hlen, HST.out]; exact HE.out.1
            · rw [hlen]; exact HRD.out
          case measure => (simp [intOf]; omega)
        · have HN : Hid (pairsTo R n k q = pairsTo R n (k + 1) 0) := Lib.hid (by rw [pairsTo_all (by omega), pairsTo_0])
          clear hrd
          go_wp2_with fail
          go_roundw
          case rel => exact ⟨k + 1, az, cz, by omega, by go_num, by rw [HN.out], by rw [← HN.out]; exact HP, HBG, HBP, HFW, hw2⟩
          case measure => (simp [intOf]; omega)
    · obtain rfl : k = n := by omega
      go_wp2_with fail
      go_ret
      refine ⟨_, rfl, ?_, HFW.out⟩
      rw [← pairsTo_0]
      exact HP.out.rd
set_option maxHeartbeats 4000000 in
set_option maxRecDepth 100000 in
theorem specStepOnly_any (v : Value) (ps : List PieceD) (w : World) (hv : PiecesR w v ps) :
    Calls Try.prog 28 #[.agg #[v]] w fun e w' => e = .returned (.bool (stepB ps)) ∧ Fr w w' := by
  obtain ⟨pb, hpb⟩ : ∃ pb, pathB ps = pb := ⟨_, rfl⟩
  have CP : Hid (∀ w', Fr w w' → Calls Try.prog 26 #[.agg #[v]] w' fun e w'' => e = .returned (.bool pb) ∧ Fr w' w'') := Lib.hid fun w' h => by rw [← hpb]; exact specPathOk_any v ps w' (hv.fr h)
  have HB : Hid (stepB ps = (pb && decide ((nAt ps (ps.length - 1)).f0 = 1))) := Lib.hid (by unfold stepB; rw [hpb])
  obtain ⟨av, bv, ov, cv, rfl, hcv, hmv, fv⟩ := hv.one
  rw [HB.out]
  cases pb
  · clear fv hv hpb HB
    go_enter Try.func28, Try.ntmps28
    go_wp2_with fail
    refine (CP.out _ (by repeat (first | (with_reducible exact Fr.refl _) | (with_reducible assumption) | (with_reducible refine Fr.drewN ?_ _) | (with_reducible refine Fr.drew ?_) | (with_reducible refine Fr.alloc ?_ _) | (with_reducible refine Fr.setCell ?_ (by (first | (with_reducible assumption) | omega | (simp only [World.size_alloc, World.size_setCell, World.size_drew, World.heap_drewN]; omega) | (simp; done) | (simp; omega))) _) | (with_reducible refine Fr.trans ?_ (by with_reducible assumption))))).mono ?_
    rintro e w1 ⟨rfl, hf1⟩
    go_wp2_with fail
    go_ret
    exact ⟨ret_bool (by simp), by repeat (first | (with_reducible exact Fr.refl _) | (with_reducible assumption) | (with_reducible refine Fr.drewN ?_ _) | (with_reducible refine Fr.drew ?_) | (with_reducible refine Fr.alloc ?_ _) | (with_reducible refine Fr.setCell ?_ (by (first | (with_reducible assumption) | omega | (simp only [World.size_alloc, World.size_setCell, World.size_drew, World.heap_drewN]; omega) | (simp; done) | (simp; omega))) _) | (with_reducible refine Fr.trans ?_ (by with_reducible assumption)))⟩
  · have hl := (pathB_out hpb).1
    obtain ⟨rfl, hbv, fv⟩ := fv (by omega)
    obtain ⟨va, ha, g0, g1, g2⟩ := fv (ps.length - 1) (by omega)
    obtain ⟨y, hy⟩ : ∃ y, (nAt ps (ps.length - 1)).f0 = y := ⟨_, rfl⟩
    rw [hy] at g0 ⊢
    have hwl : IntKind.i64.wrap ((ps.length : Int) - 1) = ((ps.length - 1 : Nat) : Int) := by rw [show (ps.length : Int) - 1 = ((ps.length - 1 : Nat) : Int) by omega]; exact IntWalk.i64_in _ (by omega)
    have hlt : ps.length - 1 < ps.length := by omega
    have hl1 := hl.1
    clear fv hv hpb HB hy ha g1 g2 hl
    go_enter Try.func28, Try.ntmps28
    go_wp2_with fail
    refine (CP.out _ (by repeat (first | (with_reducible exact Fr.refl _) | (with_reducible assumption) | (with_reducible refine Fr.drewN ?_ _) | (with_reducible refine Fr.drew ?_) | (with_reducible refine Fr.alloc ?_ _) | (with_reducible refine Fr.setCell ?_ (by (first | (with_reducible assumption) | omega | (simp only [World.size_alloc, World.size_setCell, World.size_drew, World.heap_drewN]; omega) | (simp; done) | (simp; omega))) _) | (with_reducible refine Fr.trans ?_ (by with_reducible assumption))))).mono ?_
    rintro e w1 ⟨rfl, hf1⟩
    have F1 := ((Box.new w #[.slice (some ⟨bv, ov, none⟩) ps.length cv] 27).fr hf1).facts
    have c0 : w1.cell? ⟨bv, ov + (ps.length - 1) * 3, none⟩ = some (.int .i64 y) := ((show Fr w w1 by repeat (first | (with_reducible exact Fr.refl _) | (with_reducible assumption) | (with_reducible refine Fr.drewN ?_ _) | (with_reducible refine Fr.drew ?_) | (with_reducible refine Fr.alloc ?_ _) | (with_reducible refine Fr.setCell ?_ (by (first | (with_reducible assumption) | omega | (simp only [World.size_alloc, World.size_setCell, World.size_drew, World.heap_drewN]; omega) | (simp; done) | (simp; omega))) _) | (with_reducible refine Fr.trans ?_ (by with_reducible assumption)))).cell (p := ⟨bv, _, none⟩) hbv).trans g0
    go_wp2_with fail
    go_ret
    exact ⟨ret_bool (by rw [Bool.eq_iff_iff]; simp), by repeat (first | (with_reducible exact Fr.refl _) | (with_reducible assumption) | (with_reducible refine Fr.drewN ?_ _) | (with_reducible refine Fr.drew ?_) | (with_reducible refine Fr.alloc ?_ _) | (with_reducible refine Fr.setCell ?_ (by (first | (with_reducible assumption) | omega | (simp only [World.size_alloc, World.size_setCell, World.size_drew, World.heap_drewN]; omega) | (simp; done) | (simp; omega))) _) | (with_reducible refine Fr.trans ?_ (by with_reducible assumption)))⟩
end Go.Proofs.Ytjgghiniajmfjaa

/- Drawn paths, texts, places for the law on paths. No condition but the size of the draw. -/
namespace Go.Proofs.Ytjgghiniajmfjaa
open Go.RowKit
set_option linter.unusedVariables false
set_option linter.unusedSimpArgs false
set_option maxHeartbeats 1000000 in
theorem l01PickIntP_any (b g : Nat) (xs : List Int) (T : TypeId) (w : World) (hc : Cu w b) (hb : Box w g (xs.map (Value.int .i64)).toArray T) (hg : b < g) (hx : 0 < xs.length) (hl : xs.length ≤ 256) :
    Calls Try.prog 129 #[.pointer (some ⟨b, 0, none⟩), .slice (some ⟨g, 0, none⟩) xs.length xs.length] w fun e w' => ∃ k, k < xs.length ∧ e = .returned (.int .i64 (iAt xs k)) ∧ Cu w' b ∧ Span b (b + 1) w w' := by
  go_enter Try.func129, Try.ntmps129
  go_wp2_with fail
  refine (l01Below_any b _ _ hc (by omega)).mono ?_
  rintro e w1 ⟨k, hk1, hk2, rfl, hc1, sp1⟩
  have hk3 : k < xs.length := by have := hk1 (by omega); omega
  have c0 : w1.cell? ⟨g, k, none⟩ = some (.int .i64 (iAt xs k)) := by
    rw [(hb.span sp1 (.inr (by omega))).cell]
    simp [iAt, List.getD, List.getElem?_eq_getElem hk3, hk3]
  clear hb
  go_wp2_with fail
  go_ret
  exact ⟨k, hk3, rfl, hc1, sp1⟩
set_option maxHeartbeats 2000000 in
theorem l01PlaceP_any (b : Nat) (n : Int) (w : World) (hc : Cu w b) (h0 : 0 ≤ n) (hn : n ≤ 1048576) :
    Calls Try.prog 87 #[.pointer (some ⟨b, 0, none⟩), .int .i64 n] w fun e w' => ∃ p : Int, (-9223372036854775808 ≤ p ∧ p ≤ 9223372036854775807) ∧ e = .returned (.int .i64 p) ∧ Cu w' b ∧ Span b (b + 1) w w' := by
  have hbl := hc.lt
  have u1 : IntKind.i64.wrap (n + 1) = n + 1 := IntWalk.i64_in _ (by omega)
  go_enter Try.func87, Try.ntmps87
  go_wp2_with fail
  refine (l01Once_any b _ _ hc (by omega)).mono ?_
  rintro e w1 ⟨x, rfl, hc1, sp1⟩
  have hs1 := sp1.size
  cases x
  · go_wp2_with fail
    refine (l01Below_any b _ _ hc1 (by omega)).mono ?_
    rintro e w2 ⟨y, hy1, hy0, rfl, hc2, sp2⟩
    have hyb : (y : Int) ≤ n := by
      by_cases h : 0 < n
      · have := hy1 h; omega
      · have := hy0 (by omega); omega
    clear hy1 hy0
    go_wp2_with fail
    go_ret
    exact ⟨_, by omega, rfl, hc2, sp1.trans sp2⟩
  · go_wp2_with fail
    refine (l01PickIntP_any b w1.heap.size [-1, n, n + 1, 9223372036854775807, -9223372036854775808] 3 _ (hc1.fr (by repeat (first | (with_reducible exact Fr.refl _) | (with_reducible assumption) | (with_reducible refine Fr.drewN ?_ _) | (with_reducible refine Fr.drew ?_) | (with_reducible refine Fr.alloc ?_ _) | (with_reducible refine Fr.setCell ?_ (by (first | (with_reducible assumption) | omega | (simp only [World.size_alloc, World.size_setCell, World.size_drew, World.heap_drewN]; omega) | (simp; done) | (simp; omega))) _) | (with_reducible refine Fr.trans ?_ (by with_reducible assumption))))) (Box.new _ _ _) (by omega) (by simp) (by simp)).mono ?_
    rintro e w2 ⟨j, hj, rfl, hc2, sp2⟩
    go_wp2_with fail
    go_ret
    exact ⟨_, by
      simp only [List.length_cons, List.length_nil] at hj
      rcases (show j = 0 ∨ j = 1 ∨ j = 2 ∨ j = 3 ∨ j = 4 by omega) with rfl | rfl | rfl | rfl | rfl <;> simp [iAt] <;> omega, rfl, hc2, (sp1.alloc' _).trans sp2⟩
theorem Ab.of_span1 {lo b : Nat} {w w' : World} (s : Span b (b + 1) w w') (h : b < lo) : Ab lo w w' := ⟨s.size, fun k hk hs => s.block k hs (.inr (by omega))⟩
theorem Ab.cell_below {lo : Nat} {w : World} {p : Addr} {u : Value} (hp : p.block < lo) : Ab lo w (w.setCell p u) := Ab.setCell (Ab.refl _ _) hp u
set_option maxHeartbeats 4000000 in
set_option maxRecDepth 100000 in
theorem DrawPathOk_any (ao : Option Addr) (n cap : Nat) (w : World) (hy : ByR w w.heap.size ao n cap) :
    Calls Try.prog 16 #[.slice ao n cap] w fun e w' => ∃ v ps, e = .returned (.agg #[v]) ∧ PiecesR w' v ps ∧ Fr w w' := by
  have HY := Lib.hid hy
  clear hy
  go_enter Try.func16, Try.ntmps16
  go_wp2_with fail
  refine (l01New_any ao n cap _ (HY.out.here (by repeat (first | (with_reducible exact Fr.refl _) | (with_reducible assumption) | (with_reducible refine Fr.drewN ?_ _) | (with_reducible refine Fr.drew ?_) | (with_reducible refine Fr.alloc ?_ _) | (with_reducible refine Fr.setCell ?_ (by (first | (with_reducible assumption) | omega | (simp only [World.size_alloc, World.size_setCell, World.size_drew, World.heap_drewN]; omega) | (simp; done) | (simp; omega))) _) | (with_reducible refine Fr.trans ?_ (by with_reducible assumption)))))).mono ?_
  rintro e w1 ⟨b, rfl, hb, hc1, hf1⟩
  have z1 := hf1.size
  simp only [World.size_alloc] at z1 hb
  have BR := (Box.new w #[.slice none 0 0] 27).fr hf1
  go_wp2_with fail
  have hblc := hc1.lt
  refine (l06Any_any b _ hc1).mono ?_
  rintro e w2 ⟨v, ps, rfl, hp, hc2, sp2⟩
  have z2 := sp2.size
  have BR2 := BR.span sp2 (.inl (by omega))
  have FB := BR2.facts
  have hf2 : Fr w w2 := sp2.fr (show Fr w w1 by repeat (first | (with_reducible exact Fr.refl _) | (with_reducible assumption) | (with_reducible refine Fr.drewN ?_ _) | (with_reducible refine Fr.drew ?_) | (with_reducible refine Fr.alloc ?_ _) | (with_reducible refine Fr.setCell ?_ (by (first | (with_reducible assumption) | omega | (simp only [World.size_alloc, World.size_setCell, World.size_drew, World.heap_drewN]; omega) | (simp; done) | (simp; omega))) _) | (with_reducible refine Fr.trans ?_ (by with_reducible assumption)))) (by omega)
  have hp2 := hp _ (Ab.refl _ _)
  obtain ⟨av, bv, ov, cv, rfl, _, _, _⟩ := hp2.one
  have HP := Lib.hid hp
  clear hp hp2 BR
  go_wp2_with fail
  refine bodyPost_ret (v := .agg #[.slice av ps.length cv]) (by simp [results, Try.results16, go_sem, *]) rfl ⟨_, ps, rfl, HP.out _ (Ab.cell_below (by show w.heap.size < w1.heap.size; omega)), by repeat (first | (with_reducible exact Fr.refl _) | (with_reducible assumption) | (with_reducible refine Fr.drewN ?_ _) | (with_reducible refine Fr.drew ?_) | (with_reducible refine Fr.alloc ?_ _) | (with_reducible refine Fr.setCell ?_ (by (first | (with_reducible assumption) | omega | (simp only [World.size_alloc, World.size_setCell, World.size_drew, World.heap_drewN]; omega) | (simp; done) | (simp; omega))) _) | (with_reducible refine Fr.trans ?_ (by with_reducible assumption)))⟩
set_option maxHeartbeats 4000000 in
set_option maxRecDepth 100000 in
theorem DrawStepOnly_any (ao : Option Addr) (n cap : Nat) (w : World) (hy : ByR w w.heap.size ao n cap) :
    Calls Try.prog 17 #[.slice ao n cap] w fun e w' => ∃ v ps, e = .returned (.agg #[v]) ∧ PiecesR w' v ps ∧ Fr w w' := by
  have HY := Lib.hid hy
  clear hy
  go_enter Try.func17, Try.ntmps17
  go_wp2_with fail
  refine (l01New_any ao n cap _ (HY.out.here (by repeat (first | (with_reducible exact Fr.refl _) | (with_reducible assumption) | (with_reducible refine Fr.drewN ?_ _) | (with_reducible refine Fr.drew ?_) | (with_reducible refine Fr.alloc ?_ _) | (with_reducible refine Fr.setCell ?_ (by (first | (with_reducible assumption) | omega | (simp only [World.size_alloc, World.size_setCell, World.size_drew, World.heap_drewN]; omega) | (simp; done) | (simp; omega))) _) | (with_reducible refine Fr.trans ?_ (by with_reducible assumption)))))).mono ?_
  rintro e w1 ⟨b, rfl, hb, hc1, hf1⟩
  have z1 := hf1.size
  simp only [World.size_alloc] at z1 hb
  have BR := (Box.new w #[.slice none 0 0] 27).fr hf1
  go_wp2_with fail
  have hblc := hc1.lt
  refine (l06Any_any b _ hc1).mono ?_
  rintro e w2 ⟨v, ps, rfl, hp, hc2, sp2⟩
  have z2 := sp2.size
  have BR2 := BR.span sp2 (.inl (by omega))
  have FB := BR2.facts
  have hf2 : Fr w w2 := sp2.fr (show Fr w w1 by repeat (first | (with_reducible exact Fr.refl _) | (with_reducible assumption) | (with_reducible refine Fr.drewN ?_ _) | (with_reducible refine Fr.drew ?_) | (with_reducible refine Fr.alloc ?_ _) | (with_reducible refine Fr.setCell ?_ (by (first | (with_reducible assumption) | omega | (simp only [World.size_alloc, World.size_setCell, World.size_drew, World.heap_drewN]; omega) | (simp; done) | (simp; omega))) _) | (with_reducible refine Fr.trans ?_ (by with_reducible assumption)))) (by omega)
  have hp2 := hp _ (Ab.refl _ _)
  obtain ⟨av, bv, ov, cv, rfl, _, _, _⟩ := hp2.one
  have HP := Lib.hid hp
  clear hp hp2 BR
  go_wp2_with fail
  refine bodyPost_ret (v := .agg #[.slice av ps.length cv]) (by simp [results, Try.results17, go_sem, *]) rfl ⟨_, ps, rfl, HP.out _ (Ab.cell_below (by show w.heap.size < w1.heap.size; omega)), by repeat (first | (with_reducible exact Fr.refl _) | (with_reducible assumption) | (with_reducible refine Fr.drewN ?_ _) | (with_reducible refine Fr.drew ?_) | (with_reducible refine Fr.alloc ?_ _) | (with_reducible refine Fr.setCell ?_ (by (first | (with_reducible assumption) | omega | (simp only [World.size_alloc, World.size_setCell, World.size_drew, World.heap_drewN]; omega) | (simp; done) | (simp; omega))) _) | (with_reducible refine Fr.trans ?_ (by with_reducible assumption)))⟩
def moreTexts : List ByteArray := [⟨#[]⟩, ⟨#[40]⟩, ⟨#[41]⟩, ⟨#[97, 124]⟩, ⟨#[124, 97]⟩, ⟨#[42]⟩, ⟨#[101]⟩, ⟨#[97, 42, 42]⟩, ⟨#[40, 97, 41]⟩, ⟨#[40, 40, 97, 41, 41]⟩, ⟨#[97, 63, 42, 43]⟩, ⟨#[97, 98, 99, 100, 97, 98, 99, 100, 97, 98, 99, 100, 97, 98, 99, 100, 97, 98, 99, 100, 97]⟩, ⟨#[40, 41]⟩, ⟨#[97, 32, 98]⟩]
theorem more_sz (k : Nat) (h : k < 14) : (sAt moreTexts k).size ≤ 21 := by
  have : ∀ k, k < 14 → (sAt moreTexts k).size ≤ 21 := by decide
  exact this k h
set_option maxHeartbeats 8000000 in
set_option maxRecDepth 100000 in
theorem DrawReadPath_any (ao : Option Addr) (n cap : Nat) (w : World) (hy : ByR w w.heap.size ao n cap) :
    Calls Try.prog 12 #[.slice ao n cap] w fun e w' => ∃ t : ByteArray, e = .returned (.string t) ∧ t.size ≤ 1000 ∧ Fr w w' := by
  have HY := Lib.hid hy
  clear hy
  go_enter Try.func12, Try.ntmps12
  go_wp2_with fail
  refine (l01New_any ao n cap _ (HY.out.here (by repeat (first | (with_reducible exact Fr.refl _) | (with_reducible assumption) | (with_reducible refine Fr.drewN ?_ _) | (with_reducible refine Fr.drew ?_) | (with_reducible refine Fr.alloc ?_ _) | (with_reducible refine Fr.setCell ?_ (by (first | (with_reducible assumption) | omega | (simp only [World.size_alloc, World.size_setCell, World.size_drew, World.heap_drewN]; omega) | (simp; done) | (simp; omega))) _) | (with_reducible refine Fr.trans ?_ (by with_reducible assumption)))))).mono ?_
  rintro e w1 ⟨b, rfl, hb, hc1, hf1⟩
  have z1 := hf1.size
  go_wp2_with fail
  refine (l01Below_any b 5 _ hc1 (by omega)).mono ?_
  rintro e w2 ⟨x1, hx1, _, rfl, hc2, sp2⟩
  have hx1 := hx1 (by omega)
  have z2 := sp2.size
  have hbl := hc2.lt
  go_wp2_with fail
  refine (l01Pick_any b w2.heap.size moreTexts 9 _ (hc2.fr (by repeat (first | (with_reducible exact Fr.refl _) | (with_reducible assumption) | (with_reducible refine Fr.drewN ?_ _) | (with_reducible refine Fr.drew ?_) | (with_reducible refine Fr.alloc ?_ _) | (with_reducible refine Fr.setCell ?_ (by (first | (with_reducible assumption) | omega | (simp only [World.size_alloc, World.size_setCell, World.size_drew, World.heap_drewN]; omega) | (simp; done) | (simp; omega))) _) | (with_reducible refine Fr.trans ?_ (by with_reducible assumption))))) (Box.new _ _ _) hbl (by decide) (by decide)).mono ?_
  rintro e w3 ⟨k3, hk3, rfl, hc3, sp3⟩
  have z3 := sp3.size
  simp only [World.size_alloc] at z3
  have hs3 := more_sz k3 hk3
  have hf3 : Fr w w3 := sp3.fr (Fr.alloc (sp2.fr hf1 hb) _) (by omega)
  obtain ⟨m, hm⟩ : ∃ m, sAt moreTexts k3 = m := ⟨_, rfl⟩
  rw [hm] at hs3 ⊢
  clear hm
  have hcase : x1 = 0 ∨ x1 = 1 ∨ 1 < x1 := by omega
  rcases hcase with rfl | rfl | h1
  · go_wp2_with fail
    go_ret
    exact ⟨_, rfl, by omega, hf3⟩
  · go_wp2_with fail
    refine (l06Text_any b _ hc3).mono ?_
    rintro e w4 ⟨k4, hk4, rfl, hc4, sp4⟩
    have hs4 := (pa_ok hk4).2.2.2.2
    have z4 := sp4.size
    obtain ⟨s, hs⟩ : ∃ s, sAt paTexts k4 = s := ⟨_, rfl⟩
    rw [hs] at hs4 ⊢
    clear hs
    have hf4 : Fr w w4 := sp4.fr hf3 hb
    have hsum1 := fun w' => run_string_add_sum (P := Try.prog) (w := w') (⟨#[40]⟩ : ByteArray) s (by have q1 : (⟨#[40]⟩ : ByteArray).size = 1 := rfl; omega)
    have hsum2 := fun w' => run_string_add_sum (P := Try.prog) (w := w') ((⟨#[40]⟩ : ByteArray) ++ s) (⟨#[41]⟩ : ByteArray) (by rw [app_size]; have q1 : (⟨#[40]⟩ : ByteArray).size = 1 := rfl; have q2 : (⟨#[41]⟩ : ByteArray).size = 1 := rfl; omega)
    go_wp2_with fail
    refine (l06Text_any b _ hc4).mono ?_
    rintro e w5 ⟨k5, hk5, rfl, hc5, sp5⟩
    have hs5 := (pa_ok hk5).2.2.2.2
    obtain ⟨r, hr⟩ : ∃ r, sAt paTexts k5 = r := ⟨_, rfl⟩
    rw [hr] at hs5 ⊢
    clear hr
    have hf5 : Fr w w5 := sp5.fr hf4 hb
    have hsz : ((⟨#[40]⟩ : ByteArray) ++ s ++ (⟨#[41]⟩ : ByteArray)).size = 2 + s.size := by rw [app_size, app_size]; have q1 : (⟨#[40]⟩ : ByteArray).size = 1 := rfl; have q2 : (⟨#[41]⟩ : ByteArray).size = 1 := rfl; omega
    have hsum3 := fun w' => run_string_add_sum (P := Try.prog) (w := w') ((⟨#[40]⟩ : ByteArray) ++ s ++ (⟨#[41]⟩ : ByteArray)) r (by omega)
    go_wp2_with fail
    go_ret
    exact ⟨_, rfl, by rw [app_size, hsz]; omega, hf5⟩
  · have e0 : ((x1 : Int) == 0) = false := by rw [beq_eq_false_iff_ne]; omega
    have e1 : ((x1 : Int) == 1) = false := by rw [beq_eq_false_iff_ne]; omega
    go_wp2_with fail
    refine (l06Text_any b _ hc3).mono ?_
    rintro e w4 ⟨k4, hk4, rfl, hc4, sp4⟩
    have hs4 := (pa_ok hk4).2.2.2.2
    obtain ⟨s, hs⟩ : ∃ s, sAt paTexts k4 = s := ⟨_, rfl⟩
    rw [hs] at hs4 ⊢
    clear hs
    have hf4 : Fr w w4 := sp4.fr hf3 hb
    go_wp2_with fail
    go_ret
    exact ⟨_, rfl, by omega, hf4⟩
set_option maxHeartbeats 16000000 in
set_option maxRecDepth 100000 in
theorem DrawPathEnds_any (ao : Option Addr) (n cap : Nat) (w : World) (hy : ByR w w.heap.size ao n cap) :
    Calls Try.prog 15 #[.slice ao n cap] w fun e w' => ∃ (g : GraphD) (ev v : Value) (ps : List PieceD) (x : Int), (-9223372036854775808 ≤ x ∧ x ≤ 9223372036854775807) ∧ e = .returned (.tuple #[.agg #[.int .i64 g.f0, ev], .agg #[v], .int .i64 x]) ∧ EdgesR w' ev g.f1 ∧ PiecesR w' v ps ∧ Fr w w' := by
  have HY := Lib.hid hy
  clear hy
  go_enter Try.func15, Try.ntmps15
  go_wp2_with fail
  refine (l01New_any ao n cap _ (HY.out.here (by repeat (first | (with_reducible exact Fr.refl _) | (with_reducible assumption) | (with_reducible refine Fr.drewN ?_ _) | (with_reducible refine Fr.drew ?_) | (with_reducible refine Fr.alloc ?_ _) | (with_reducible refine Fr.setCell ?_ (by (first | (with_reducible assumption) | omega | (simp only [World.size_alloc, World.size_setCell, World.size_drew, World.heap_drewN]; omega) | (simp; done) | (simp; omega))) _) | (with_reducible refine Fr.trans ?_ (by with_reducible assumption)))))).mono ?_
  rintro e w1 ⟨b, rfl, hb, hc1, hf1⟩
  have z1 := hf1.size
  simp only [World.size_alloc] at z1 hb
  have BG := ((Box.new w #[.int .i64 0, .slice none 0 0] 32).alloc (.cells #[.slice none 0 0] 27)).fr hf1
  have BP := (Box.new' (w := w.alloc (.cells #[.int .i64 0, .slice none 0 0] 32)) (X := #[.slice none 0 0]) (T := 27) (b := w.heap.size + 1) (by simp)).fr hf1
  have hfw1 : Fr w w1 := by repeat (first | (with_reducible exact Fr.refl _) | (with_reducible assumption) | (with_reducible refine Fr.drewN ?_ _) | (with_reducible refine Fr.drew ?_) | (with_reducible refine Fr.alloc ?_ _) | (with_reducible refine Fr.setCell ?_ (by (first | (with_reducible assumption) | omega | (simp only [World.size_alloc, World.size_setCell, World.size_drew, World.heap_drewN]; omega) | (simp; done) | (simp; omega))) _) | (with_reducible refine Fr.trans ?_ (by with_reducible assumption)))
  clear hf1
  go_wp2_with fail
  refine (l01Below_any b 4 _ hc1 (by omega)).mono ?_
  rintro e w2 ⟨x1, hx1, _, rfl, hc2, sp2⟩
  have hx1 := hx1 (by omega)
  have z2 := sp2.size
  have BG := BG.span sp2 (.inl (by omega))
  have BP := BP.span sp2 (.inl (by omega))
  have hfw2 : Fr w w2 := sp2.fr hfw1 (by omega)
  go_wp2_with fail
  refine (l01Once_any b 10 _ hc2 (by omega)).mono ?_
  rintro e w3 ⟨x, rfl, hc3, sp3⟩
  have z3 := sp3.size
  have BG := BG.span sp3 (.inl (by omega))
  have BP := BP.span sp3 (.inl (by omega))
  have hfw3 : Fr w w3 := sp3.fr hfw2 (by omega)
  cases x
  · go_wp2_with fail
    have hblc := hc3.lt
    refine (l06Any_any b _ hc3).mono ?_
    rintro e w5 ⟨v, ps, rfl, hp, hc5, sp5⟩
    have z5 := sp5.size
    have hbl5 := hc5.lt
    have BG5 := BG.span sp5 (.inl (by omega))
    have BP5 := BP.span sp5 (.inl (by omega))
    have hfw5 : Fr w w5 := sp5.fr hfw3 (by omega)
    have hp5 := hp _ (Ab.refl _ _)
    obtain ⟨av, bv, ov, cv, rfl, _, _, _⟩ := hp5.one
    have HP := Lib.hid hp
    clear hp hp5
    have BV : Box (w5.alloc (.cells #[.slice av ps.length cv] 27)) w5.heap.size #[.slice av ps.length cv] 27 := Box.new _ _ _
    have FV := BV.facts
    have BG6 := BG5.alloc (.cells #[.slice av ps.length cv] 27)
    have BP6 := BP5.alloc (.cells #[.slice av ps.length cv] 27)
    have FG6 := BG6.facts
    have FP6 := BP6.facts
    go_wp2_with fail
    go_region_law ((go_simp; go_at_call 89; refine (l04Any_any b _ (hc5.fr (by repeat (first | (with_reducible exact Fr.refl _) | (with_reducible assumption) | (with_reducible refine Fr.drewN ?_ _) | (with_reducible refine Fr.drew ?_) | (with_reducible refine Fr.alloc ?_ _) | (with_reducible refine Fr.setCell ?_ (by (first | (with_reducible assumption) | omega | (simp only [World.size_alloc, World.size_setCell, World.size_drew, World.heap_drewN]; omega) | (simp; done) | (simp; omega))) _) | (with_reducible refine Fr.trans ?_ (by with_reducible assumption)))))).mono ?_; rintro e w7 ⟨g, ax, cx, _, rfl, ho, hc7, sp7⟩; have HO := Lib.hid ho; have z7 := sp7.size; (try simp only [World.size_alloc, World.size_drew, World.heap_drewN] at z7); have BG7 : Box w7 w.heap.size #[.int .i64 0, .slice none 0 0] 32 := (by first | exact Box.span BG6 sp7 (.inl (by omega)) | exact Box.span (Box.drew BG6) sp7 (.inl (by omega))); have BP7 : Box w7 (w.heap.size + 1) #[.slice none 0 0] 27 := (by first | exact Box.span BP6 sp7 (.inl (by omega)) | exact Box.span (Box.drew BP6) sp7 (.inl (by omega))); have BV7 : Box w7 w5.heap.size #[.slice av ps.length cv] 27 := (by first | exact Box.span BV sp7 (.inr (by omega)) | exact Box.span (Box.drew BV) sp7 (.inr (by omega))); have FG7 := BG7.facts; have FP7 := BP7.facts; have FV7 := BV7.facts; have hab7 : Ab w3.heap.size w5 w7 := ((Ab.of_fr (show Fr w5 _ by repeat (first | (with_reducible exact Fr.refl _) | (with_reducible assumption) | (with_reducible refine Fr.drewN ?_ _) | (with_reducible refine Fr.drew ?_) | (with_reducible refine Fr.alloc ?_ _) | (with_reducible refine Fr.setCell ?_ (by (first | (with_reducible assumption) | omega | (simp only [World.size_alloc, World.size_setCell, World.size_drew, World.heap_drewN]; omega) | (simp; done) | (simp; omega))) _) | (with_reducible refine Fr.trans ?_ (by with_reducible assumption))))).trans (Ab.of_span1 sp7 (by omega))); have hfw7 : Fr w w7 := sp7.fr (show Fr w _ by repeat (first | (with_reducible exact Fr.refl _) | (with_reducible assumption) | (with_reducible refine Fr.drewN ?_ _) | (with_reducible refine Fr.drew ?_) | (with_reducible refine Fr.alloc ?_ _) | (with_reducible refine Fr.setCell ?_ (by (first | (with_reducible assumption) | omega | (simp only [World.size_alloc, World.size_setCell, World.size_drew, World.heap_drewN]; omega) | (simp; done) | (simp; omega))) _) | (with_reducible refine Fr.trans ?_ (by with_reducible assumption)))) (by omega); clear ho))
    all_goals
      have HAB := Lib.hid hab7
      go_wp2_with fail
      refine bodyPost_ret (v := .tuple #[.agg #[.int .i64 g.f0, .slice ax g.f1.length cx], .agg #[.slice av ps.length cv], .int .i64 (x1 : Int)]) (by simp [results, Try.results15, go_sem, *]) rfl ?_
      refine ⟨g, _, _, ps, _, by omega, rfl, EdgesW.rd (OwW.ab HO.out (by repeat (first | (with_reducible exact Ab.refl _ _) | (with_reducible assumption) | (with_reducible refine Ab.drewN ?_ _) | (with_reducible refine Ab.drew ?_) | (with_reducible refine Ab.alloc ?_ _) | (with_reducible refine Ab.setCell ?_ (by (first | (with_reducible assumption) | omega | (simp only [World.size_alloc, World.size_setCell, World.size_drew, World.heap_drewN]; omega) | (simp; done) | (simp; omega))) _) | (with_reducible refine Ab.fr ?_ (by with_reducible assumption))))), HP.out _ (HAB.out.trans (by repeat (first | (with_reducible exact Ab.refl _ _) | (with_reducible assumption) | (with_reducible refine Ab.drewN ?_ _) | (with_reducible refine Ab.drew ?_) | (with_reducible refine Ab.alloc ?_ _) | (with_reducible refine Ab.setCell ?_ (by (first | (with_reducible assumption) | omega | (simp only [World.size_alloc, World.size_setCell, World.size_drew, World.heap_drewN]; omega) | (simp; done) | (simp; omega))) _) | (with_reducible refine Ab.fr ?_ (by with_reducible assumption))))), by repeat (first | (with_reducible exact Fr.refl _) | (with_reducible assumption) | (with_reducible refine Fr.drewN ?_ _) | (with_reducible refine Fr.drew ?_) | (with_reducible refine Fr.alloc ?_ _) | (with_reducible refine Fr.setCell ?_ (by (first | (with_reducible assumption) | omega | (simp only [World.size_alloc, World.size_setCell, World.size_drew, World.heap_drewN]; omega) | (simp; done) | (simp; omega))) _) | (with_reducible refine Fr.trans ?_ (by with_reducible assumption)))⟩
  · go_wp2_with fail
    refine (l01PlaceP_any b 6 _ hc3 (by omega) (by omega)).mono ?_
    rintro e w4 ⟨x, hx, rfl, hc4, sp4⟩
    have z4 := sp4.size
    have BG := BG.span sp4 (.inl (by omega))
    have BP := BP.span sp4 (.inl (by omega))
    have hfw4 : Fr w w4 := sp4.fr hfw3 (by omega)
    go_wp2_with fail
    have hblc := hc4.lt
    refine (l06Any_any b _ hc4).mono ?_
    rintro e w5 ⟨v, ps, rfl, hp, hc5, sp5⟩
    have z5 := sp5.size
    have hbl5 := hc5.lt
    have BG5 := BG.span sp5 (.inl (by omega))
    have BP5 := BP.span sp5 (.inl (by omega))
    have hfw5 : Fr w w5 := sp5.fr hfw4 (by omega)
    have hp5 := hp _ (Ab.refl _ _)
    obtain ⟨av, bv, ov, cv, rfl, _, _, _⟩ := hp5.one
    have HP := Lib.hid hp
    clear hp hp5
    have BV : Box (w5.alloc (.cells #[.slice av ps.length cv] 27)) w5.heap.size #[.slice av ps.length cv] 27 := Box.new _ _ _
    have FV := BV.facts
    have BG6 := BG5.alloc (.cells #[.slice av ps.length cv] 27)
    have BP6 := BP5.alloc (.cells #[.slice av ps.length cv] 27)
    have FG6 := BG6.facts
    have FP6 := BP6.facts
    go_wp2_with fail
    go_region_law ((go_simp; go_at_call 89; refine (l04Any_any b _ (hc5.fr (by repeat (first | (with_reducible exact Fr.refl _) | (with_reducible assumption) | (with_reducible refine Fr.drewN ?_ _) | (with_reducible refine Fr.drew ?_) | (with_reducible refine Fr.alloc ?_ _) | (with_reducible refine Fr.setCell ?_ (by (first | (with_reducible assumption) | omega | (simp only [World.size_alloc, World.size_setCell, World.size_drew, World.heap_drewN]; omega) | (simp; done) | (simp; omega))) _) | (with_reducible refine Fr.trans ?_ (by with_reducible assumption)))))).mono ?_; rintro e w7 ⟨g, ax, cx, _, rfl, ho, hc7, sp7⟩; have HO := Lib.hid ho; have z7 := sp7.size; (try simp only [World.size_alloc, World.size_drew, World.heap_drewN] at z7); have BG7 : Box w7 w.heap.size #[.int .i64 0, .slice none 0 0] 32 := (by first | exact Box.span BG6 sp7 (.inl (by omega)) | exact Box.span (Box.drew BG6) sp7 (.inl (by omega))); have BP7 : Box w7 (w.heap.size + 1) #[.slice none 0 0] 27 := (by first | exact Box.span BP6 sp7 (.inl (by omega)) | exact Box.span (Box.drew BP6) sp7 (.inl (by omega))); have BV7 : Box w7 w5.heap.size #[.slice av ps.length cv] 27 := (by first | exact Box.span BV sp7 (.inr (by omega)) | exact Box.span (Box.drew BV) sp7 (.inr (by omega))); have FG7 := BG7.facts; have FP7 := BP7.facts; have FV7 := BV7.facts; have hab7 : Ab w4.heap.size w5 w7 := ((Ab.of_fr (show Fr w5 _ by repeat (first | (with_reducible exact Fr.refl _) | (with_reducible assumption) | (with_reducible refine Fr.drewN ?_ _) | (with_reducible refine Fr.drew ?_) | (with_reducible refine Fr.alloc ?_ _) | (with_reducible refine Fr.setCell ?_ (by (first | (with_reducible assumption) | omega | (simp only [World.size_alloc, World.size_setCell, World.size_drew, World.heap_drewN]; omega) | (simp; done) | (simp; omega))) _) | (with_reducible refine Fr.trans ?_ (by with_reducible assumption))))).trans (Ab.of_span1 sp7 (by omega))); have hfw7 : Fr w w7 := sp7.fr (show Fr w _ by repeat (first | (with_reducible exact Fr.refl _) | (with_reducible assumption) | (with_reducible refine Fr.drewN ?_ _) | (with_reducible refine Fr.drew ?_) | (with_reducible refine Fr.alloc ?_ _) | (with_reducible refine Fr.setCell ?_ (by (first | (with_reducible assumption) | omega | (simp only [World.size_alloc, World.size_setCell, World.size_drew, World.heap_drewN]; omega) | (simp; done) | (simp; omega))) _) | (with_reducible refine Fr.trans ?_ (by with_reducible assumption)))) (by omega); clear ho))
    all_goals
      have HAB := Lib.hid hab7
      go_wp2_with fail
      refine bodyPost_ret (v := .tuple #[.agg #[.int .i64 g.f0, .slice ax g.f1.length cx], .agg #[.slice av ps.length cv], .int .i64 x]) (by simp [results, Try.results15, go_sem, *]) rfl ?_
      refine ⟨g, _, _, ps, _, by omega, rfl, EdgesW.rd (OwW.ab HO.out (by repeat (first | (with_reducible exact Ab.refl _ _) | (with_reducible assumption) | (with_reducible refine Ab.drewN ?_ _) | (with_reducible refine Ab.drew ?_) | (with_reducible refine Ab.alloc ?_ _) | (with_reducible refine Ab.setCell ?_ (by (first | (with_reducible assumption) | omega | (simp only [World.size_alloc, World.size_setCell, World.size_drew, World.heap_drewN]; omega) | (simp; done) | (simp; omega))) _) | (with_reducible refine Ab.fr ?_ (by with_reducible assumption))))), HP.out _ (HAB.out.trans (by repeat (first | (with_reducible exact Ab.refl _ _) | (with_reducible assumption) | (with_reducible refine Ab.drewN ?_ _) | (with_reducible refine Ab.drew ?_) | (with_reducible refine Ab.alloc ?_ _) | (with_reducible refine Ab.setCell ?_ (by (first | (with_reducible assumption) | omega | (simp only [World.size_alloc, World.size_setCell, World.size_drew, World.heap_drewN]; omega) | (simp; done) | (simp; omega))) _) | (with_reducible refine Ab.fr ?_ (by with_reducible assumption))))), by repeat (first | (with_reducible exact Fr.refl _) | (with_reducible assumption) | (with_reducible refine Fr.drewN ?_ _) | (with_reducible refine Fr.drew ?_) | (with_reducible refine Fr.alloc ?_ _) | (with_reducible refine Fr.setCell ?_ (by (first | (with_reducible assumption) | omega | (simp only [World.size_alloc, World.size_setCell, World.size_drew, World.heap_drewN]; omega) | (simp; done) | (simp; omega))) _) | (with_reducible refine Fr.trans ?_ (by with_reducible assumption)))⟩
end Go.Proofs.Ytjgghiniajmfjaa

/- The laws' own comparisons of paths, ints, pairs: what reads alike is told the same. No condition but the reading. -/
namespace Go.Proofs.Ytjgghiniajmfjaa
open Go.RowKit
set_option linter.unusedVariables false
set_option linter.unusedSimpArgs false
set_option maxHeartbeats 2000000 in
theorem sameInts_same (a b : Value) (xs : List Int) (w : World) (ha : IntsR w a xs) (hb : IntsR w b xs) :
    Calls Try.prog 19 #[a, b] w fun e w' => e = .returned (.bool true) ∧ ∃ m, w' = w.drewN m := by
  obtain ⟨ao, ba, oa, ca, rfl, hca, hma, fa⟩ := ha.one
  obtain ⟨bo, bb, ob, cb, rfl, hcb, hmb, fb⟩ := hb.one
  clear ha hb
  go_enter Try.func19, Try.ntmps19
  go_wp2
  go_loopw [5] (fun i wr => ∃ k : Nat, k ≤ xs.length ∧ i = .int .i64 k ∧ (∃ m, wr = w.drewN m)) (fun i _ => xs.length - (intOf i).toNat)
  case atStart => exact ⟨0, Nat.zero_le _, rfl, ⟨0, rfl⟩⟩
  case round =>
    obtain ⟨k, hk, rfl, ⟨md, rfl⟩⟩ := hrel
    by_cases hlt : k < xs.length
    · obtain ⟨rfl, hba, fa⟩ := fa (by omega)
      obtain ⟨rfl, hbb, fb⟩ := fb (by omega)
      obtain ⟨y, hy⟩ : ∃ y, iAt xs k = y := ⟨_, rfl⟩
      have c1 := fa k hlt
      have c2 := fb k hlt
      rw [hy] at c1 c2
      clear fa fb hy
      go_wp2
      go_quiet (fail)
      go_wp2
      go_roundw
      case rel => exact ⟨k + 1, by omega, by go_num, ⟨_, rfl⟩⟩
      case measure => (simp [intOf]; omega)
    · clear fa fb
      go_wp2
      go_ret
      exact ⟨rfl, ⟨_, rfl⟩⟩
set_option maxHeartbeats 4000000 in
set_option maxRecDepth 100000 in
theorem samePairs_same (a b : Value) (xs : List (List Int)) (w : World) (ha : IntSSR w a xs) (hb : IntSSR w b xs) :
    Calls Try.prog 22 #[a, b] w fun e w' => e = .returned (.bool true) ∧ Fr w w' := by
  obtain ⟨ao, ba, oa, ca, rfl, hca, hma, fa⟩ := ha.one
  obtain ⟨bo, bb, ob, cb, rfl, hcb, hmb, fb⟩ := hb.one
  have FA := Lib.hid fa
  have FB := Lib.hid fb
  clear fa fb ha hb
  go_enter Try.func22, Try.ntmps22
  go_wp2
  go_loopw [5] (fun i wr => ∃ k : Nat, k ≤ xs.length ∧ i = .int .i64 k ∧ Fr w wr) (fun i _ => xs.length - (intOf i).toNat)
  case atStart => exact ⟨0, Nat.zero_le _, rfl, by repeat (first | (with_reducible exact Fr.refl _) | (with_reducible assumption) | (with_reducible refine Fr.drewN ?_ _) | (with_reducible refine Fr.drew ?_) | (with_reducible refine Fr.alloc ?_ _) | (with_reducible refine Fr.setCell ?_ (by (first | (with_reducible assumption) | omega | (simp only [World.size_alloc, World.size_setCell, World.size_drew, World.heap_drewN]; omega) | (simp; done) | (simp; omega))) _) | (with_reducible refine Fr.trans ?_ (by with_reducible assumption)))⟩
  case round =>
    obtain ⟨k, hk, rfl, hfr⟩ := hrel
    by_cases hlt : k < xs.length
    · obtain ⟨rfl, hba, fa⟩ := FA.out (by omega)
      obtain ⟨rfl, hbb, fb⟩ := FB.out (by omega)
      obtain ⟨va, ra, c0⟩ := fa k hlt
      obtain ⟨vb, rb, c1⟩ := fb k hlt
      have c0 := (hfr.cell (p := ⟨ba, _, none⟩) hba).trans c0
      have c1 := (hfr.cell (p := ⟨bb, _, none⟩) hbb).trans c1
      have CI : Hid (∀ w', Fr w w' → Calls Try.prog 19 #[va, vb] w' fun e w'' => e = .returned (.bool true) ∧ ∃ m, w'' = w'.drewN m) := Lib.hid fun w' h => sameInts_same va vb _ w' (ra.fr h) (rb.fr h)
      clear fa fb ra rb
      go_wp2_with fail
      go_quiet ((go_at_call 19; refine Calls.quiet_of (CI.out _ (by repeat (first | (with_reducible exact Fr.refl _) | (with_reducible assumption) | (with_reducible refine Fr.drewN ?_ _) | (with_reducible refine Fr.drew ?_) | (with_reducible refine Fr.alloc ?_ _) | (with_reducible refine Fr.setCell ?_ (by (first | (with_reducible assumption) | omega | (simp only [World.size_alloc, World.size_setCell, World.size_drew, World.heap_drewN]; omega) | (simp; done) | (simp; omega))) _) | (with_reducible refine Fr.trans ?_ (by with_reducible assumption)))))))
      go_wp2_with fail
      go_roundw
      case rel => exact ⟨k + 1, by omega, by go_num, by repeat (first | (with_reducible exact Fr.refl _) | (with_reducible assumption) | (with_reducible refine Fr.drewN ?_ _) | (with_reducible refine Fr.drew ?_) | (with_reducible refine Fr.alloc ?_ _) | (with_reducible refine Fr.setCell ?_ (by (first | (with_reducible assumption) | omega | (simp only [World.size_alloc, World.size_setCell, World.size_drew, World.heap_drewN]; omega) | (simp; done) | (simp; omega))) _) | (with_reducible refine Fr.trans ?_ (by with_reducible assumption)))⟩
      case measure => (simp [intOf]; omega)
    · go_wp2
      go_ret
      exact ⟨rfl, by repeat (first | (with_reducible exact Fr.refl _) | (with_reducible assumption) | (with_reducible refine Fr.drewN ?_ _) | (with_reducible refine Fr.drew ?_) | (with_reducible refine Fr.alloc ?_ _) | (with_reducible refine Fr.setCell ?_ (by (first | (with_reducible assumption) | omega | (simp only [World.size_alloc, World.size_setCell, World.size_drew, World.heap_drewN]; omega) | (simp; done) | (simp; omega))) _) | (with_reducible refine Fr.trans ?_ (by with_reducible assumption)))⟩
set_option maxHeartbeats 8000000 in
set_option maxRecDepth 100000 in
theorem samePath_same (a b : Value) (ps : List PieceD) (w : World) (ha : PiecesR w a ps) (hb : PiecesR w b ps) :
    Calls Try.prog 18 #[.agg #[a], .agg #[b]] w fun e w' => e = .returned (.bool true) ∧ Fr w w' := by
  obtain ⟨ao, ba, oa, ca, rfl, hca, hma, fa⟩ := ha.one
  obtain ⟨bo, bb, ob, cb, rfl, hcb, hmb, fb⟩ := hb.one
  have FA := Lib.hid fa
  have FB := Lib.hid fb
  clear fa fb ha hb
  go_enter Try.func18, Try.ntmps18
  go_wp2
  go_loopw [5] (fun i wr => ∃ k : Nat, k ≤ ps.length ∧ i = .int .i64 k ∧ Fr w wr ∧ Box wr w.heap.size #[.slice ao ps.length ca] 27 ∧ Box wr (w.heap.size + 1) #[.slice bo ps.length cb] 27) (fun i _ => ps.length - (intOf i).toNat)
  case atStart => exact ⟨0, Nat.zero_le _, rfl, by repeat (first | (with_reducible exact Fr.refl _) | (with_reducible assumption) | (with_reducible refine Fr.drewN ?_ _) | (with_reducible refine Fr.drew ?_) | (with_reducible refine Fr.alloc ?_ _) | (with_reducible refine Fr.setCell ?_ (by (first | (with_reducible assumption) | omega | (simp only [World.size_alloc, World.size_setCell, World.size_drew, World.heap_drewN]; omega) | (simp; done) | (simp; omega))) _) | (with_reducible refine Fr.trans ?_ (by with_reducible assumption))), (Box.new _ _ _).alloc _, Box.new' (by simp)⟩
  case round =>
    obtain ⟨k, hk, rfl, hfr, BA, BB⟩ := hrel
    have F1 := BA.facts
    have F2 := BB.facts
    by_cases hlt : k < ps.length
    · obtain ⟨rfl, hba, fa⟩ := FA.out (by omega)
      obtain ⟨rfl, hbb, fb⟩ := FB.out (by omega)
      obtain ⟨va, ra, c0, c1, c2⟩ := fa k hlt
      obtain ⟨vb, rb, d0, d1, d2⟩ := fb k hlt
      have CI : Hid (∀ w', Fr w w' → Calls Try.prog 19 #[va, vb] w' fun e w'' => e = .returned (.bool true) ∧ ∃ m, w'' = w'.drewN m) := Lib.hid fun w' h => sameInts_same va vb _ w' (ra.fr h) (rb.fr h)
      obtain ⟨x, hx⟩ : ∃ x, nAt ps k = x := ⟨_, rfl⟩
      rw [hx] at c0 c1 d0 d1
      have c0 := (hfr.cell (p := ⟨ba, _, none⟩) hba).trans c0
      have c1 := (hfr.cell (p := ⟨ba, _, none⟩) hba).trans c1
      have c2 := (hfr.cell (p := ⟨ba, _, none⟩) hba).trans c2
      have d0 := (hfr.cell (p := ⟨bb, _, none⟩) hbb).trans d0
      have d1 := (hfr.cell (p := ⟨bb, _, none⟩) hbb).trans d1
      have d2 := (hfr.cell (p := ⟨bb, _, none⟩) hbb).trans d2
      clear fa fb ra rb hx
      have hxl := x.f1.toNat_lt
      go_wp2_with fail
      go_quiet ((go_at_call 19; refine Calls.quiet_of (CI.out _ (by repeat (first | (with_reducible exact Fr.refl _) | (with_reducible assumption) | (with_reducible refine Fr.drewN ?_ _) | (with_reducible refine Fr.drew ?_) | (with_reducible refine Fr.alloc ?_ _) | (with_reducible refine Fr.setCell ?_ (by (first | (with_reducible assumption) | omega | (simp only [World.size_alloc, World.size_setCell, World.size_drew, World.heap_drewN]; omega) | (simp; done) | (simp; omega))) _) | (with_reducible refine Fr.trans ?_ (by with_reducible assumption)))))))
      go_wp2_with fail
      go_roundw
      case rel => exact ⟨k + 1, by omega, by go_num, by repeat (first | (with_reducible exact Fr.refl _) | (with_reducible assumption) | (with_reducible refine Fr.drewN ?_ _) | (with_reducible refine Fr.drew ?_) | (with_reducible refine Fr.alloc ?_ _) | (with_reducible refine Fr.setCell ?_ (by (first | (with_reducible assumption) | omega | (simp only [World.size_alloc, World.size_setCell, World.size_drew, World.heap_drewN]; omega) | (simp; done) | (simp; omega))) _) | (with_reducible refine Fr.trans ?_ (by with_reducible assumption))), BA.drewN _, BB.drewN _⟩
      case measure => (simp [intOf]; omega)
    · go_wp2
      go_ret
      exact ⟨rfl, by repeat (first | (with_reducible exact Fr.refl _) | (with_reducible assumption) | (with_reducible refine Fr.drewN ?_ _) | (with_reducible refine Fr.drew ?_) | (with_reducible refine Fr.alloc ?_ _) | (with_reducible refine Fr.setCell ?_ (by (first | (with_reducible assumption) | omega | (simp only [World.size_alloc, World.size_setCell, World.size_drew, World.heap_drewN]; omega) | (simp; done) | (simp; omega))) _) | (with_reducible refine Fr.trans ?_ (by with_reducible assumption)))⟩
end Go.Proofs.Ytjgghiniajmfjaa

/- laws.FnPathsTold: its walk. No condition but the reading of the draw. -/
namespace Go.Proofs.Ytjgghiniajmfjaa
open Go.RowKit
set_option linter.unusedVariables false
set_option linter.unusedSimpArgs false
theorem bigP_any (ao : Option Addr) (n cap : Nat) (w : World) (hn : n ≤ 9223372036854775807) :
    Calls Try.prog 11 #[.slice ao n cap] w fun e w' => e = .returned (.bool (decide (1048576 < (n : Int)))) ∧ w = w' := by
  go_enter Try.func11, Try.ntmps11
  go_wp2
  go_ret
  exact ⟨rfl, rfl⟩
theorem rp_a1 : (rpM ⟨#[99]⟩).1 = [⟨1, 99, []⟩] := by decide
theorem rp_a2 : (rpM ⟨#[99]⟩).2 = true := by decide
theorem step_a : stepB [⟨1, 99, []⟩] = true := by decide
set_option maxHeartbeats 60000000 in
set_option maxRecDepth 100000 in
theorem fnPathsTold_any (ao : Option Addr) (n cap : Nat) (w : World) (hy : ByR w w.heap.size ao n cap) :
    Calls Try.prog 3 #[.slice ao n cap] w fun e w' => e = .returned (.bool true) ∧ Fr w w' := by
  have HY := Lib.hid hy
  have hn : n ≤ 9223372036854775807 := by have := hy.1; have := hy.2.1; omega
  clear hy
  by_cases hbig : n ≤ 1048576
  · go_enter Try.func3, Try.ntmps3
    go_wp2_with (go_at_call 11; refine (bigP_any _ _ _ _ hn).mono ?_; rintro e w0 ⟨rfl, rfl⟩)
    refine (DrawReadPath_any ao n cap _ HY.out).mono ?_
    rintro e w1 ⟨t, rfl, ht, hf1⟩
    have z1 := hf1.size
    obtain ⟨RB, hRB⟩ : ∃ b, (rpM t).2 = b := ⟨_, rfl⟩
    obtain ⟨RP, hRP⟩ : ∃ b, (rpM t).1 = b := ⟨_, rfl⟩
    have C1 : Hid (∀ w', Calls Try.prog 13 #[.string t] w' fun e w'' => ∃ v, e = .returned (.tuple #[.agg #[v], .bool RB]) ∧ PiecesR w'' v RP ∧ Fr w' w'') := Lib.hid fun w' => by rw [← hRB, ← hRP]; exact implReadPath_any t w' (by omega)
    have C2 : Hid (∀ w', Calls Try.prog 14 #[.string t] w' fun e w'' => ∃ v, e = .returned (.tuple #[.agg #[v], .bool RB]) ∧ PiecesR w'' v RP ∧ Fr w' w'') := Lib.hid fun w' => by rw [← hRB, ← hRP]; exact specReadPath_any t w' (by omega)
    have C3 : Hid (∀ w', Calls Try.prog 13 #[.string ⟨#[99]⟩] w' fun e w'' => ∃ a7 c7, e = .returned (.tuple #[.agg #[.slice a7 1 c7], .bool true]) ∧ PiecesR w'' (.slice a7 1 c7) [⟨1, 99, []⟩] ∧ Fr w' w'') := Lib.hid fun w' => (implReadPath_any ⟨#[99]⟩ w' (by decide)).mono fun e w'' h => by rw [rp_a1, rp_a2] at h; obtain ⟨v, h1, h2, h3⟩ := h; obtain ⟨a7, _, _, c7, rfl, _⟩ := h2.one; exact ⟨a7, c7, h1, h2, h3⟩
    clear hRB hRP ht
    go_wp2_with fail
    refine (C1.out _).mono ?_
    rintro e w2 ⟨v2, rfl, hp2, hf2⟩
    obtain ⟨a2, _, _, c2, rfl, _⟩ := hp2.one
    have HP2 := Lib.hid hp2
    clear hp2
    have z2 := hf2.size
    go_wp2_with fail
    refine (C2.out _).mono ?_
    rintro e w3 ⟨v3, rfl, hp3, hf3⟩
    obtain ⟨a3, _, _, c3, rfl, _⟩ := hp3.one
    have HP3 := Lib.hid hp3
    clear hp3
    have z3 := hf3.size
    simp only [World.size_alloc] at z3
    have B4 : Box w3 w2.heap.size #[.slice a2 RP.length c2] 27 := (Box.new _ _ _).fr hf3
    go_wp2_with fail
    refine (DrawPathEnds_any ao n cap _ (HY.out.here (by repeat (first | (with_reducible exact Fr.refl _) | (with_reducible assumption) | (with_reducible refine Fr.drewN ?_ _) | (with_reducible refine Fr.drew ?_) | (with_reducible refine Fr.alloc ?_ _) | (with_reducible refine Fr.setCell ?_ (by (first | (with_reducible assumption) | omega | (simp only [World.size_alloc, World.size_setCell, World.size_drew, World.heap_drewN]; omega) | (simp; done) | (simp; omega))) _) | (with_reducible refine Fr.trans ?_ (by with_reducible assumption)))))).mono ?_
    rintro e w4 ⟨g, ev, pv, ps, x, hx, rfl, he4, hq4, hf4⟩
    obtain ⟨a8, _, _, c8, rfl, _⟩ := he4.one
    obtain ⟨a9, _, _, c9, rfl, _⟩ := hq4.one
    have HE := Lib.hid he4
    have HQ := Lib.hid hq4
    clear he4 hq4
    have z4 := hf4.size
    simp only [World.size_alloc] at z4
    have B6 : Box w4 w3.heap.size #[.slice a3 RP.length c3] 27 := (Box.new _ _ _).fr hf4
    have B4 := (B4.alloc _).fr hf4
    go_wp2_with fail
    refine (DrawPathOk_any ao n cap _ (HY.out.here (by repeat (first | (with_reducible exact Fr.refl _) | (with_reducible assumption) | (with_reducible refine Fr.drewN ?_ _) | (with_reducible refine Fr.drew ?_) | (with_reducible refine Fr.alloc ?_ _) | (with_reducible refine Fr.setCell ?_ (by (first | (with_reducible assumption) | omega | (simp only [World.size_alloc, World.size_setCell, World.size_drew, World.heap_drewN]; omega) | (simp; done) | (simp; omega))) _) | (with_reducible refine Fr.trans ?_ (by with_reducible assumption)))))).mono ?_
    rintro e w5 ⟨v5, p5, rfl, hp5, hf5⟩
    obtain ⟨a5, _, _, c5, rfl, _⟩ := hp5.one
    have HP5 := Lib.hid hp5
    clear hp5
    have z5 := hf5.size
    simp only [World.size_alloc] at z5
    have B8 : Box w5 w4.heap.size #[.int .i64 g.f0, (.slice a8 g.f1.length c8)] 32 := ((Box.new _ _ _).alloc _).fr hf5
    have B9 : Box w5 (w4.heap.size + 1) #[.slice a9 ps.length c9] 27 := (Box.new' (by simp)).fr hf5
    have B4 := ((B4.alloc _).alloc _).fr hf5
    have B6 := ((B6.alloc _).alloc _).fr hf5
    go_wp2_with fail
    refine (DrawStepOnly_any ao n cap _ (HY.out.here (by repeat (first | (with_reducible exact Fr.refl _) | (with_reducible assumption) | (with_reducible refine Fr.drewN ?_ _) | (with_reducible refine Fr.drew ?_) | (with_reducible refine Fr.alloc ?_ _) | (with_reducible refine Fr.setCell ?_ (by (first | (with_reducible assumption) | omega | (simp only [World.size_alloc, World.size_setCell, World.size_drew, World.heap_drewN]; omega) | (simp; done) | (simp; omega))) _) | (with_reducible refine Fr.trans ?_ (by with_reducible assumption)))))).mono ?_
    rintro e w6 ⟨v6, p6, rfl, hp6, hf6⟩
    obtain ⟨a6, _, _, c6, rfl, _⟩ := hp6.one
    have HP6 := Lib.hid hp6
    clear hp6
    have z6 := hf6.size
    simp only [World.size_alloc] at z6
    have B11 : Box w6 w5.heap.size #[.slice a5 p5.length c5] 27 := (Box.new _ _ _).fr hf6
    have B4 := (B4.alloc _).fr hf6
    have B6 := (B6.alloc _).fr hf6
    have B8 := (B8.alloc _).fr hf6
    have B9 := (B9.alloc _).fr hf6
    go_wp2_with fail
    refine (C3.out _).mono ?_
    rintro e w7 ⟨a7, c7, rfl, hp7, hf7⟩
    have HP7 := Lib.hid hp7
    clear hp7
    have z7 := hf7.size
    simp only [World.size_alloc] at z7
    have B12 : Box w7 w6.heap.size #[.slice a6 p6.length c6] 27 := (Box.new _ _ _).fr hf7
    have B4 := (B4.alloc _).fr hf7
    have B6 := (B6.alloc _).fr hf7
    have B8 := (B8.alloc _).fr hf7
    have B9 := (B9.alloc _).fr hf7
    have B11 := (B11.alloc _).fr hf7
    have HP2 : Hid (PiecesR w7 (.slice a2 RP.length c2) RP) := Lib.hid (HP2.out.fr (by repeat (first | (with_reducible exact Fr.refl _) | (with_reducible assumption) | (with_reducible refine Fr.drewN ?_ _) | (with_reducible refine Fr.drew ?_) | (with_reducible refine Fr.alloc ?_ _) | (with_reducible refine Fr.setCell ?_ (by (first | (with_reducible assumption) | omega | (simp only [World.size_alloc, World.size_setCell, World.size_drew, World.heap_drewN]; omega) | (simp; done) | (simp; omega))) _) | (with_reducible refine Fr.trans ?_ (by with_reducible assumption)))))
    have HP3 : Hid (PiecesR w7 (.slice a3 RP.length c3) RP) := Lib.hid (HP3.out.fr (by repeat (first | (with_reducible exact Fr.refl _) | (with_reducible assumption) | (with_reducible refine Fr.drewN ?_ _) | (with_reducible refine Fr.drew ?_) | (with_reducible refine Fr.alloc ?_ _) | (with_reducible refine Fr.setCell ?_ (by (first | (with_reducible assumption) | omega | (simp only [World.size_alloc, World.size_setCell, World.size_drew, World.heap_drewN]; omega) | (simp; done) | (simp; omega))) _) | (with_reducible refine Fr.trans ?_ (by with_reducible assumption)))))
    have HE : Hid (EdgesR w7 (.slice a8 g.f1.length c8) g.f1) := Lib.hid (HE.out.fr (by repeat (first | (with_reducible exact Fr.refl _) | (with_reducible assumption) | (with_reducible refine Fr.drewN ?_ _) | (with_reducible refine Fr.drew ?_) | (with_reducible refine Fr.alloc ?_ _) | (with_reducible refine Fr.setCell ?_ (by (first | (with_reducible assumption) | omega | (simp only [World.size_alloc, World.size_setCell, World.size_drew, World.heap_drewN]; omega) | (simp; done) | (simp; omega))) _) | (with_reducible refine Fr.trans ?_ (by with_reducible assumption)))))
    have HQ : Hid (PiecesR w7 (.slice a9 ps.length c9) ps) := Lib.hid (HQ.out.fr (by repeat (first | (with_reducible exact Fr.refl _) | (with_reducible assumption) | (with_reducible refine Fr.drewN ?_ _) | (with_reducible refine Fr.drew ?_) | (with_reducible refine Fr.alloc ?_ _) | (with_reducible refine Fr.setCell ?_ (by (first | (with_reducible assumption) | omega | (simp only [World.size_alloc, World.size_setCell, World.size_drew, World.heap_drewN]; omega) | (simp; done) | (simp; omega))) _) | (with_reducible refine Fr.trans ?_ (by with_reducible assumption)))))
    have HP5 : Hid (PiecesR w7 (.slice a5 p5.length c5) p5) := Lib.hid (HP5.out.fr (by repeat (first | (with_reducible exact Fr.refl _) | (with_reducible assumption) | (with_reducible refine Fr.drewN ?_ _) | (with_reducible refine Fr.drew ?_) | (with_reducible refine Fr.alloc ?_ _) | (with_reducible refine Fr.setCell ?_ (by (first | (with_reducible assumption) | omega | (simp only [World.size_alloc, World.size_setCell, World.size_drew, World.heap_drewN]; omega) | (simp; done) | (simp; omega))) _) | (with_reducible refine Fr.trans ?_ (by with_reducible assumption)))))
    have HP6 : Hid (PiecesR w7 (.slice a6 p6.length c6) p6) := Lib.hid (HP6.out.fr (by repeat (first | (with_reducible exact Fr.refl _) | (with_reducible assumption) | (with_reducible refine Fr.drewN ?_ _) | (with_reducible refine Fr.drew ?_) | (with_reducible refine Fr.alloc ?_ _) | (with_reducible refine Fr.setCell ?_ (by (first | (with_reducible assumption) | omega | (simp only [World.size_alloc, World.size_setCell, World.size_drew, World.heap_drewN]; omega) | (simp; done) | (simp; omega))) _) | (with_reducible refine Fr.trans ?_ (by with_reducible assumption)))))
    have hf07 : Fr w w7 := by repeat (first | (with_reducible exact Fr.refl _) | (with_reducible assumption) | (with_reducible refine Fr.drewN ?_ _) | (with_reducible refine Fr.drew ?_) | (with_reducible refine Fr.alloc ?_ _) | (with_reducible refine Fr.setCell ?_ (by (first | (with_reducible assumption) | omega | (simp only [World.size_alloc, World.size_setCell, World.size_drew, World.heap_drewN]; omega) | (simp; done) | (simp; omega))) _) | (with_reducible refine Fr.trans ?_ (by with_reducible assumption)))
    clear hf1 hf2 hf3 hf4 hf5 hf6 hf7 C1 C2 C3
    go_upto_region 10 with fail
    have B13 := Box.new w7 #[.slice a7 1 c7] 27
    have B4 := B4.alloc (.cells #[.slice a7 1 c7] 27)
    have B6 := B6.alloc (.cells #[.slice a7 1 c7] 27)
    have B8 := B8.alloc (.cells #[.slice a7 1 c7] 27)
    have B9 := B9.alloc (.cells #[.slice a7 1 c7] 27)
    have B11 := B11.alloc (.cells #[.slice a7 1 c7] 27)
    have B12 := B12.alloc (.cells #[.slice a7 1 c7] 27)
    have hf78 : Fr w7 (w7.alloc (.cells #[.slice a7 1 c7] 27)) := by repeat (first | (with_reducible exact Fr.refl _) | (with_reducible assumption) | (with_reducible refine Fr.drewN ?_ _) | (with_reducible refine Fr.drew ?_) | (with_reducible refine Fr.alloc ?_ _) | (with_reducible refine Fr.setCell ?_ (by (first | (with_reducible assumption) | omega | (simp only [World.size_alloc, World.size_setCell, World.size_drew, World.heap_drewN]; omega) | (simp; done) | (simp; omega))) _) | (with_reducible refine Fr.trans ?_ (by with_reducible assumption)))
    have hf08 : Fr w (w7.alloc (.cells #[.slice a7 1 c7] 27)) := hf07.trans hf78
    have HP2 : Hid (PiecesR (w7.alloc (.cells #[.slice a7 1 c7] 27)) (.slice a2 RP.length c2) RP) := Lib.hid (HP2.out.fr hf78)
    have HP3 : Hid (PiecesR (w7.alloc (.cells #[.slice a7 1 c7] 27)) (.slice a3 RP.length c3) RP) := Lib.hid (HP3.out.fr hf78)
    have HE : Hid (EdgesR (w7.alloc (.cells #[.slice a7 1 c7] 27)) (.slice a8 g.f1.length c8) g.f1) := Lib.hid (HE.out.fr hf78)
    have HQ : Hid (PiecesR (w7.alloc (.cells #[.slice a7 1 c7] 27)) (.slice a9 ps.length c9) ps) := Lib.hid (HQ.out.fr hf78)
    have HP5 : Hid (PiecesR (w7.alloc (.cells #[.slice a7 1 c7] 27)) (.slice a5 p5.length c5) p5) := Lib.hid (HP5.out.fr hf78)
    have HP6 : Hid (PiecesR (w7.alloc (.cells #[.slice a7 1 c7] 27)) (.slice a6 p6.length c6) p6) := Lib.hid (HP6.out.fr hf78)
    have HP7 : Hid (PiecesR (w7.alloc (.cells #[.slice a7 1 c7] 27)) (.slice a7 1 c7) [⟨1, 99, []⟩]) := Lib.hid (HP7.out.fr hf78)
    obtain ⟨b13, hb13⟩ : ∃ k, w7.heap.size = k := ⟨_, rfl⟩
    rw [hb13] at B13
    obtain ⟨w8, hw8⟩ : ∃ u, w7.alloc (.cells #[.slice a7 1 c7] 27) = u := ⟨_, rfl⟩
    rw [hw8] at B13 B4 B6 B8 B9 B11 B12 hf08 HP2 HP3 HE HQ HP5 HP6 HP7
    (try rw [hb13]); rw [hw8]
    clear hw8 hb13 hf78 hf07 z7 z6 z5 z4 z3 z2 z1
    generalize w2.heap.size = b4 at *
    generalize w3.heap.size = b6 at *
    generalize w4.heap.size + 1 = b9 at *
    generalize w4.heap.size = b8 at *
    generalize w5.heap.size = b11 at *
    generalize w6.heap.size = b12 at *
    obtain ⟨EL, hEL⟩ : ∃ l, endsL g ps x = l := ⟨_, rfl⟩
    obtain ⟨PL, hPL⟩ : ∃ l, pairsM g ps = l := ⟨_, rfl⟩
    obtain ⟨OB, hOB⟩ : ∃ b, pathB p5 = b := ⟨_, rfl⟩
    obtain ⟨SB, hSB⟩ : ∃ b, stepB p6 = b := ⟨_, rfl⟩
    have D1 : Hid (∀ w', Fr w8 w' → Calls Try.prog 18 #[.agg #[.slice a2 RP.length c2], .agg #[.slice a3 RP.length c3]] w' fun e w'' => e = .returned (.bool true) ∧ Fr w' w'') := Lib.hid fun w' h => samePath_same (.slice a2 RP.length c2) (.slice a3 RP.length c3) RP w' (HP2.out.fr h) (HP3.out.fr h)
    have D2 : Hid (∀ w', Fr w8 w' → Calls Try.prog 20 #[.agg #[.int .i64 g.f0, (.slice a8 g.f1.length c8)], .agg #[.slice a9 ps.length c9], .int .i64 x] w' fun e w'' => ∃ v, e = .returned v ∧ IntsR w'' v EL ∧ Fr w' w'') := Lib.hid fun w' h => (implPathEnds_any g (.slice a8 g.f1.length c8) (.slice a9 ps.length c9) ps x w' (HE.out.fr h) (HQ.out.fr h)).mono fun e w'' h => by rw [← hEL]; obtain ⟨a1, c1, h1, h2, h3⟩ := h; exact ⟨_, h1, h2, h3⟩
    have D3 : Hid (∀ w', Fr w8 w' → Calls Try.prog 21 #[.agg #[.int .i64 g.f0, (.slice a8 g.f1.length c8)], .agg #[.slice a9 ps.length c9], .int .i64 x] w' fun e w'' => ∃ v, e = .returned v ∧ IntsR w'' v EL ∧ Fr w' w'') := Lib.hid fun w' h => (specPathEnds_any g (.slice a8 g.f1.length c8) (.slice a9 ps.length c9) ps x w' (HE.out.fr h) (HQ.out.fr h) hx).mono fun e w'' h => by rw [← hEL]; obtain ⟨a1, c1, h1, h2, h3⟩ := h; exact ⟨_, h1, h2.rd, h3⟩
    have D4 : Hid (∀ w', Fr w8 w' → Calls Try.prog 23 #[.agg #[.int .i64 g.f0, (.slice a8 g.f1.length c8)], .agg #[.slice a9 ps.length c9]] w' fun e w'' => ∃ v, e = .returned v ∧ IntSSR w'' v PL ∧ Fr w' w'') := Lib.hid fun w' h => by rw [← hPL]; exact implPathPairs_any g (.slice a8 g.f1.length c8) (.slice a9 ps.length c9) ps w' (HE.out.fr h) (HQ.out.fr h)
    have D5 : Hid (∀ w', Fr w8 w' → Calls Try.prog 24 #[.agg #[.int .i64 g.f0, (.slice a8 g.f1.length c8)], .agg #[.slice a9 ps.length c9]] w' fun e w'' => ∃ v, e = .returned v ∧ IntSSR w'' v PL ∧ Fr w' w'') := Lib.hid fun w' h => by rw [← hPL]; exact specPathPairs_any g (.slice a8 g.f1.length c8) (.slice a9 ps.length c9) ps w' (HE.out.fr h) (HQ.out.fr h)
    have D6 : Hid (∀ w', Fr w8 w' → Calls Try.prog 25 #[.agg #[.slice a5 p5.length c5]] w' fun e w'' => e = .returned (.bool OB) ∧ Fr w' w'') := Lib.hid fun w' h => by rw [← hOB]; exact implPathOk_any (.slice a5 p5.length c5) p5 w' (HP5.out.fr h)
    have D7 : Hid (∀ w', Fr w8 w' → Calls Try.prog 26 #[.agg #[.slice a5 p5.length c5]] w' fun e w'' => e = .returned (.bool OB) ∧ Fr w' w'') := Lib.hid fun w' h => by rw [← hOB]; exact specPathOk_any (.slice a5 p5.length c5) p5 w' (HP5.out.fr h)
    have D8 : Hid (∀ w', Fr w8 w' → Calls Try.prog 27 #[.agg #[.slice a6 p6.length c6]] w' fun e w'' => e = .returned (.bool SB) ∧ Fr w' w'') := Lib.hid fun w' h => by rw [← hSB]; exact implStepOnly_any (.slice a6 p6.length c6) p6 w' (HP6.out.fr h)
    have D9 : Hid (∀ w', Fr w8 w' → Calls Try.prog 28 #[.agg #[.slice a6 p6.length c6]] w' fun e w'' => e = .returned (.bool SB) ∧ Fr w' w'') := Lib.hid fun w' h => by rw [← hSB]; exact specStepOnly_any (.slice a6 p6.length c6) p6 w' (HP6.out.fr h)
    have D10 : Hid (∀ w', Fr w8 w' → Calls Try.prog 27 #[.agg #[.slice a7 1 c7]] w' fun e w'' => e = .returned (.bool true) ∧ Fr w' w'') := Lib.hid fun w' h => by have h1 := implStepOnly_any (.slice a7 1 c7) _ w' (HP7.out.fr h); rw [step_a] at h1; exact h1
    clear HP2 HP3 HE HQ HP5 HP6 HP7 hEL hPL hOB hSB hx
    have E4 : ∀ w', Sf w8 w' → ∀ o, w'.cell? ⟨b4, o, none⟩ = _ := fun w' h o => (B4.fr h.out).cell o
    have E6 : ∀ w', Sf w8 w' → ∀ o, w'.cell? ⟨b6, o, none⟩ = _ := fun w' h o => (B6.fr h.out).cell o
    have E8 : ∀ w', Sf w8 w' → ∀ o, w'.cell? ⟨b8, o, none⟩ = _ := fun w' h o => (B8.fr h.out).cell o
    have E9 : ∀ w', Sf w8 w' → ∀ o, w'.cell? ⟨b9, o, none⟩ = _ := fun w' h o => (B9.fr h.out).cell o
    have E11 : ∀ w', Sf w8 w' → ∀ o, w'.cell? ⟨b11, o, none⟩ = _ := fun w' h o => (B11.fr h.out).cell o
    have E12 : ∀ w', Sf w8 w' → ∀ o, w'.cell? ⟨b12, o, none⟩ = _ := fun w' h o => (B12.fr h.out).cell o
    have E13 : ∀ w', Sf w8 w' → ∀ o, w'.cell? ⟨b13, o, none⟩ = _ := fun w' h o => (B13.fr h.out).cell o
    clear B4 B6 B8 B9 B11 B12 B13
    have q1 : (RB == RB) = true := beq_self_eq_true _
    have q2 : (OB == OB) = true := beq_self_eq_true _
    have q3 : (SB == SB) = true := beq_self_eq_true _
    go_region_held3 (fun w' => Sf w8 w') ((refine Sf.mk ?_; repeat (first | (with_reducible exact Fr.refl _) | (with_reducible assumption) | (with_reducible refine Fr.drewN ?_ _) | (with_reducible refine Fr.drew ?_) | (with_reducible refine Fr.alloc ?_ _) | (with_reducible refine Fr.setCell ?_ (by (first | (with_reducible assumption) | omega | (simp only [World.size_alloc, World.size_setCell, World.size_drew, World.heap_drewN]; omega) | (simp; done) | (simp; omega))) _) | (with_reducible refine Fr.trans ?_ (by with_reducible assumption))))) (first | (go_at_call 18; with_reducible refine (D1.out _ (by repeat (first | (with_reducible exact Fr.refl _) | (with_reducible assumption) | (with_reducible refine Fr.drewN ?_ _) | (with_reducible refine Fr.drew ?_) | (with_reducible refine Fr.alloc ?_ _) | (with_reducible refine Fr.setCell ?_ (by (first | (with_reducible assumption) | omega | (simp only [World.size_alloc, World.size_setCell, World.size_drew, World.heap_drewN]; omega) | (simp; done) | (simp; omega))) _) | (with_reducible refine Fr.trans ?_ (by with_reducible assumption))))).mono ?_; rintro e wa ⟨rfl, hfa⟩) | (go_at_call 20; with_reducible refine (D2.out _ (by repeat (first | (with_reducible exact Fr.refl _) | (with_reducible assumption) | (with_reducible refine Fr.drewN ?_ _) | (with_reducible refine Fr.drew ?_) | (with_reducible refine Fr.alloc ?_ _) | (with_reducible refine Fr.setCell ?_ (by (first | (with_reducible assumption) | omega | (simp only [World.size_alloc, World.size_setCell, World.size_drew, World.heap_drewN]; omega) | (simp; done) | (simp; omega))) _) | (with_reducible refine Fr.trans ?_ (by with_reducible assumption))))).mono ?_; rintro e wb ⟨vb, rfl, hs1, hfb⟩; have HS1 := Lib.hid hs1; clear hs1) | (go_at_call 21; with_reducible refine (D3.out _ (by repeat (first | (with_reducible exact Fr.refl _) | (with_reducible assumption) | (with_reducible refine Fr.drewN ?_ _) | (with_reducible refine Fr.drew ?_) | (with_reducible refine Fr.alloc ?_ _) | (with_reducible refine Fr.setCell ?_ (by (first | (with_reducible assumption) | omega | (simp only [World.size_alloc, World.size_setCell, World.size_drew, World.heap_drewN]; omega) | (simp; done) | (simp; omega))) _) | (with_reducible refine Fr.trans ?_ (by with_reducible assumption))))).mono ?_; rintro e wc ⟨vc, rfl, hs2, hfc⟩; have HS2 := Lib.hid hs2; clear hs2) | (go_at_call 19; refine (sameInts_same _ _ EL _ (HS1.out.fr (by repeat (first | (with_reducible exact Fr.refl _) | (with_reducible assumption) | (with_reducible refine Fr.drewN ?_ _) | (with_reducible refine Fr.drew ?_) | (with_reducible refine Fr.alloc ?_ _) | (with_reducible refine Fr.setCell ?_ (by (first | (with_reducible assumption) | omega | (simp only [World.size_alloc, World.size_setCell, World.size_drew, World.heap_drewN]; omega) | (simp; done) | (simp; omega))) _) | (with_reducible refine Fr.trans ?_ (by with_reducible assumption))))) (HS2.out.fr (by repeat (first | (with_reducible exact Fr.refl _) | (with_reducible assumption) | (with_reducible refine Fr.drewN ?_ _) | (with_reducible refine Fr.drew ?_) | (with_reducible refine Fr.alloc ?_ _) | (with_reducible refine Fr.setCell ?_ (by (first | (with_reducible assumption) | omega | (simp only [World.size_alloc, World.size_setCell, World.size_drew, World.heap_drewN]; omega) | (simp; done) | (simp; omega))) _) | (with_reducible refine Fr.trans ?_ (by with_reducible assumption)))))).mono ?_; rintro e wd ⟨rfl, md, rfl⟩) | (go_at_call 23; with_reducible refine (D4.out _ (by repeat (first | (with_reducible exact Fr.refl _) | (with_reducible assumption) | (with_reducible refine Fr.drewN ?_ _) | (with_reducible refine Fr.drew ?_) | (with_reducible refine Fr.alloc ?_ _) | (with_reducible refine Fr.setCell ?_ (by (first | (with_reducible assumption) | omega | (simp only [World.size_alloc, World.size_setCell, World.size_drew, World.heap_drewN]; omega) | (simp; done) | (simp; omega))) _) | (with_reducible refine Fr.trans ?_ (by with_reducible assumption))))).mono ?_; rintro e wf ⟨vf, rfl, hs3, hff⟩; have HS3 := Lib.hid hs3; clear hs3) | (go_at_call 24; with_reducible refine (D5.out _ (by repeat (first | (with_reducible exact Fr.refl _) | (with_reducible assumption) | (with_reducible refine Fr.drewN ?_ _) | (with_reducible refine Fr.drew ?_) | (with_reducible refine Fr.alloc ?_ _) | (with_reducible refine Fr.setCell ?_ (by (first | (with_reducible assumption) | omega | (simp only [World.size_alloc, World.size_setCell, World.size_drew, World.heap_drewN]; omega) | (simp; done) | (simp; omega))) _) | (with_reducible refine Fr.trans ?_ (by with_reducible assumption))))).mono ?_; rintro e wg ⟨vg, rfl, hs4, hfg⟩; have HS4 := Lib.hid hs4; clear hs4) | (go_at_call 22; refine (samePairs_same _ _ PL _ (HS3.out.fr (by repeat (first | (with_reducible exact Fr.refl _) | (with_reducible assumption) | (with_reducible refine Fr.drewN ?_ _) | (with_reducible refine Fr.drew ?_) | (with_reducible refine Fr.alloc ?_ _) | (with_reducible refine Fr.setCell ?_ (by (first | (with_reducible assumption) | omega | (simp only [World.size_alloc, World.size_setCell, World.size_drew, World.heap_drewN]; omega) | (simp; done) | (simp; omega))) _) | (with_reducible refine Fr.trans ?_ (by with_reducible assumption))))) (HS4.out.fr (by repeat (first | (with_reducible exact Fr.refl _) | (with_reducible assumption) | (with_reducible refine Fr.drewN ?_ _) | (with_reducible refine Fr.drew ?_) | (with_reducible refine Fr.alloc ?_ _) | (with_reducible refine Fr.setCell ?_ (by (first | (with_reducible assumption) | omega | (simp only [World.size_alloc, World.size_setCell, World.size_drew, World.heap_drewN]; omega) | (simp; done) | (simp; omega))) _) | (with_reducible refine Fr.trans ?_ (by with_reducible assumption)))))).mono ?_; rintro e wh ⟨rfl, hfh⟩) | (go_at_call 25; with_reducible refine (D6.out _ (by repeat (first | (with_reducible exact Fr.refl _) | (with_reducible assumption) | (with_reducible refine Fr.drewN ?_ _) | (with_reducible refine Fr.drew ?_) | (with_reducible refine Fr.alloc ?_ _) | (with_reducible refine Fr.setCell ?_ (by (first | (with_reducible assumption) | omega | (simp only [World.size_alloc, World.size_setCell, World.size_drew, World.heap_drewN]; omega) | (simp; done) | (simp; omega))) _) | (with_reducible refine Fr.trans ?_ (by with_reducible assumption))))).mono ?_; rintro e wi ⟨rfl, hfi⟩) | (go_at_call 26; with_reducible refine (D7.out _ (by repeat (first | (with_reducible exact Fr.refl _) | (with_reducible assumption) | (with_reducible refine Fr.drewN ?_ _) | (with_reducible refine Fr.drew ?_) | (with_reducible refine Fr.alloc ?_ _) | (with_reducible refine Fr.setCell ?_ (by (first | (with_reducible assumption) | omega | (simp only [World.size_alloc, World.size_setCell, World.size_drew, World.heap_drewN]; omega) | (simp; done) | (simp; omega))) _) | (with_reducible refine Fr.trans ?_ (by with_reducible assumption))))).mono ?_; rintro e wj ⟨rfl, hfj⟩) | (go_at_call 27; with_reducible refine (D8.out _ (by repeat (first | (with_reducible exact Fr.refl _) | (with_reducible assumption) | (with_reducible refine Fr.drewN ?_ _) | (with_reducible refine Fr.drew ?_) | (with_reducible refine Fr.alloc ?_ _) | (with_reducible refine Fr.setCell ?_ (by (first | (with_reducible assumption) | omega | (simp only [World.size_alloc, World.size_setCell, World.size_drew, World.heap_drewN]; omega) | (simp; done) | (simp; omega))) _) | (with_reducible refine Fr.trans ?_ (by with_reducible assumption))))).mono ?_; rintro e wk ⟨rfl, hfk⟩) | (go_at_call 27; with_reducible refine (D10.out _ (by repeat (first | (with_reducible exact Fr.refl _) | (with_reducible assumption) | (with_reducible refine Fr.drewN ?_ _) | (with_reducible refine Fr.drew ?_) | (with_reducible refine Fr.alloc ?_ _) | (with_reducible refine Fr.setCell ?_ (by (first | (with_reducible assumption) | omega | (simp only [World.size_alloc, World.size_setCell, World.size_drew, World.heap_drewN]; omega) | (simp; done) | (simp; omega))) _) | (with_reducible refine Fr.trans ?_ (by with_reducible assumption))))).mono ?_; rintro e wl ⟨rfl, hfl⟩) | (go_at_call 28; with_reducible refine (D9.out _ (by repeat (first | (with_reducible exact Fr.refl _) | (with_reducible assumption) | (with_reducible refine Fr.drewN ?_ _) | (with_reducible refine Fr.drew ?_) | (with_reducible refine Fr.alloc ?_ _) | (with_reducible refine Fr.setCell ?_ (by (first | (with_reducible assumption) | omega | (simp only [World.size_alloc, World.size_setCell, World.size_drew, World.heap_drewN]; omega) | (simp; done) | (simp; omega))) _) | (with_reducible refine Fr.trans ?_ (by with_reducible assumption))))).mono ?_; rintro e wm ⟨rfl, hfm⟩))
    go_wp2_with fail
    go_ret
    exact ⟨rfl, by repeat (first | (with_reducible exact Fr.refl _) | (with_reducible assumption) | (with_reducible refine Fr.drewN ?_ _) | (with_reducible refine Fr.drew ?_) | (with_reducible refine Fr.alloc ?_ _) | (with_reducible refine Fr.setCell ?_ (by (first | (with_reducible assumption) | omega | (simp only [World.size_alloc, World.size_setCell, World.size_drew, World.heap_drewN]; omega) | (simp; done) | (simp; omega))) _) | (with_reducible refine Fr.trans ?_ (by with_reducible assumption)))⟩
  · go_enter Try.func3, Try.ntmps3
    go_wp2_with (go_at_call 11; refine (bigP_any _ _ _ _ hn).mono ?_; rintro e w0 ⟨rfl, rfl⟩)
    go_ret
    exact ⟨rfl, by repeat (first | (with_reducible exact Fr.refl _) | (with_reducible assumption) | (with_reducible refine Fr.drewN ?_ _) | (with_reducible refine Fr.drew ?_) | (with_reducible refine Fr.alloc ?_ _) | (with_reducible refine Fr.setCell ?_ (by (first | (with_reducible assumption) | omega | (simp only [World.size_alloc, World.size_setCell, World.size_drew, World.heap_drewN]; omega) | (simp; done) | (simp; omega))) _) | (with_reducible refine Fr.trans ?_ (by with_reducible assumption)))⟩
end Go.Proofs.Ytjgghiniajmfjaa
