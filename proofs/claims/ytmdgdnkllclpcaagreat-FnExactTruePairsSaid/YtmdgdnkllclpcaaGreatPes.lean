/- PathEnds, PathPairs, StepOnly of the reference. No condition but the reading. -/
import Derived.Test.YtmdgdnkllclpcaaGreatSfg
import Derived.Test.YtmdgdnkllclpcaaGreatGPen
namespace Go.Proofs.YtmdgdnkllclpcaaGreat
open Go.RowKit
set_option linter.unusedVariables false
set_option linter.unusedSimpArgs false
theorem RdS.empty (w : World) (sz : Nat) (a : Option Addr) : RdS w sz (.slice a 0 0) 0 [] := ⟨by simp, a, 0, rfl, Nat.le_refl _, by unfold maxLen; omega, fun h => absurd h (by decide)⟩
theorem SqSW.nth2 {n : Nat} {w : World} {lo hi g : Nat} {k cz : Nat} {acc : List (Nat → Nat → Bool)} (h : SqSW n w lo hi (.slice (some ⟨g, 0, none⟩) k cz) acc) (hn : 0 < n) (hk : k = acc.length) {j : Nat} (hj : j < k) : ∃ ga ca, (lo ≤ ga ∧ lo ≤ g) ∧ ga < w.heap.size ∧ g < w.heap.size ∧ w.cell? ⟨g, j, none⟩ = some (.slice (some ⟨ga, 0, none⟩) (n * n) ca) ∧ SqR w (.slice (some ⟨ga, 0, none⟩) (n * n) ca) n (nAt acc j) := by
  obtain ⟨g', cap, hv, h1, h2, h3, u, l1, h1', hu, ⟨x, rfl, hx⟩, hl1, hh1, _, hc, _⟩ := NestW.turn (E := SqEW n) (fun a b c => SqEW.span a b c) h (show j < acc.length by omega) (by omega)
  cases hv
  rcases owns_shape hx.1 with ⟨rfl, h0, _⟩ | ⟨ga, ca, rfl, h5, h6, _⟩
  · have := Nat.mul_pos hn hn
    omega
  · have h7 := hx.2 ga rfl
    have c0 := (hc 0 _ (by omega) rfl).1
    rw [show j * 1 + 0 = j by omega] at c0
    exact ⟨ga, ca, ⟨by omega, h1⟩, h6, h3, c0, hx.rd⟩
set_option maxHeartbeats 8000000 in
set_option maxRecDepth 100000 in
theorem specPathEnds_any (g : GraphD) (ev : Value) (v : Value) (ps : List PieceD) (x : Int) (w : World) (he : EdgesR w ev g.f1) (hv : PiecesR w v ps) (hx : -9223372036854775808 ≤ x ∧ x ≤ 9223372036854775807) :
    Calls Tryz.prog 151 #[.agg #[.int .i64 g.f0, ev], .agg #[v], .int .i64 x] w fun e w' => ∃ ao cap, e = .returned (.slice ao (endsL g ps x).length cap) ∧ IntsO w' w.heap.size (.slice ao (endsL g ps x).length cap) (endsL g ps x) ∧ Fr w w' := by
  obtain ⟨i0, hi, hz0, hz1, hz2⟩ := info_parts info_int
  obtain ⟨gb, hgb⟩ : ∃ gb, graphB g = gb := ⟨_, rfl⟩
  obtain ⟨pb, hpb⟩ : ∃ pb, pathB ps = pb := ⟨_, rfl⟩
  obtain ⟨vb, hvb⟩ : ∃ vb, decide (0 ≤ x ∧ x ≤ g.f0 - 1) = vb := ⟨_, rfl⟩
  have HE := Lib.hid he
  have HV := Lib.hid hv
  have CG : Hid (∀ w', Fr w w' → Calls Tryz.prog 81 #[.agg #[.int .i64 g.f0, ev]] w' fun e w'' => e = .returned (.bool gb) ∧ Fr w' w'') := Lib.hid fun w' h => by rw [← hgb]; exact specGraphOk_any ev g.f0 g.f1 w' (HE.out.fr h)
  have CP : Hid (∀ w', Fr w w' → Calls Tryz.prog 150 #[.agg #[v]] w' fun e w'' => e = .returned (.bool pb) ∧ Fr w' w'') := Lib.hid fun w' h => by rw [← hpb]; exact specPathOk_any v ps w' (HV.out.fr h)
  have CV : Hid (∀ w', Calls Tryz.prog 56 #[.int .i64 x, .int .i64 0, .int .i64 (g.f0 - 1)] w' fun e w'' => e = .returned (.bool vb) ∧ w' = w'') := Lib.hid fun w' => by rw [← hvb]; exact l01In_any x 0 (g.f0 - 1) w'
  have HNO : Hid (¬ (gb = true ∧ pb = true ∧ vb = true) → endsL g ps x = []) := Lib.hid fun h => by
    unfold endsL
    rw [if_neg]
    rintro ⟨h1, h2, h3⟩
    exact h ⟨hgb ▸ h1, hpb ▸ h2, hvb ▸ decide_eq_true (by omega)⟩
  obtain ⟨ae, be, oe, ce, rfl, hce, hme, fe⟩ := he.one
  obtain ⟨av, bv, ov, cv, rfl, hcv, hmv, fv⟩ := hv.one
  clear he hv fe fv
  cases gb
  · have hL := HNO.out (by simp)
    rw [hL]
    clear HNO hgb hpb hvb hL
    go_enter Tryz.func151, Tryz.ntmps151
    go_wp2_with fail
    refine (CG.out _ (by exact Qf)).mono ?_
    rintro e w1 ⟨rfl, hf1⟩
    have BP1 := ((Box.new' (w := w.alloc (.cells #[.int .i64 (g.f0), .slice ae g.f1.length ce] 55)) (X := #[.slice av ps.length cv]) (T := 138) (b := w.heap.size + 1) (by simp)).alloc (.cells #[] 3)).fr hf1
    have BG1 := (((Box.new w #[.int .i64 (g.f0), .slice ae g.f1.length ce] 55).alloc (.cells #[.slice av ps.length cv] 138)).alloc (.cells #[] 3)).fr hf1
    have FP1 := BP1.facts
    go_wp2_with fail
    go_ret
    exact ⟨_, _, rfl, owns_lo ((owns_fr (made_empty (w := (w.alloc (.cells #[.int .i64 g.f0, .slice ae g.f1.length ce] 55)).alloc (.cells #[.slice av ps.length cv] 138)) (lo := w.heap.size + 2) (sz := 1) (e := 3) (by simp) (Nat.le_refl _)) hf1).kept (Fr.gr (show Fr w1 _ by exact Qf) none) (by simp [Value.ownBlock])) (by omega), by exact Qf⟩
  cases pb
  · have hL := HNO.out (by simp)
    rw [hL]
    clear HNO hgb hpb hvb hL
    go_enter Tryz.func151, Tryz.ntmps151
    go_wp2_with fail
    refine (CG.out _ (by exact Qf)).mono ?_
    rintro e w1 ⟨rfl, hf1⟩
    have BP1 := ((Box.new' (w := w.alloc (.cells #[.int .i64 (g.f0), .slice ae g.f1.length ce] 55)) (X := #[.slice av ps.length cv]) (T := 138) (b := w.heap.size + 1) (by simp)).alloc (.cells #[] 3)).fr hf1
    have BG1 := (((Box.new w #[.int .i64 (g.f0), .slice ae g.f1.length ce] 55).alloc (.cells #[.slice av ps.length cv] 138)).alloc (.cells #[] 3)).fr hf1
    have FP1 := BP1.facts
    go_wp2_with fail
    refine (CP.out _ (by exact Qf)).mono ?_
    rintro e w2 ⟨rfl, hf2⟩
    have FG2 := (BG1.fr hf2).facts
    go_wp2_with fail
    go_ret
    exact ⟨_, _, rfl, owns_lo ((owns_fr (made_empty (w := (w.alloc (.cells #[.int .i64 g.f0, .slice ae g.f1.length ce] 55)).alloc (.cells #[.slice av ps.length cv] 138)) (lo := w.heap.size + 2) (sz := 1) (e := 3) (by simp) (Nat.le_refl _)) hf1).kept (Fr.gr (show Fr w1 _ by exact Qf) none) (by simp [Value.ownBlock])) (by omega), by exact Qf⟩
  have hwl : IntKind.i64.wrap (g.f0 - 1) = g.f0 - 1 := IntWalk.i64_in _ (by have := (graphB_out hgb).1; omega)
  cases vb
  · have hL := HNO.out (by simp)
    rw [hL]
    clear HNO hgb hpb hvb hL
    go_enter Tryz.func151, Tryz.ntmps151
    go_wp2_with fail
    refine (CG.out _ (by exact Qf)).mono ?_
    rintro e w1 ⟨rfl, hf1⟩
    have BP1 := ((Box.new' (w := w.alloc (.cells #[.int .i64 (g.f0), .slice ae g.f1.length ce] 55)) (X := #[.slice av ps.length cv]) (T := 138) (b := w.heap.size + 1) (by simp)).alloc (.cells #[] 3)).fr hf1
    have BG1 := (((Box.new w #[.int .i64 (g.f0), .slice ae g.f1.length ce] 55).alloc (.cells #[.slice av ps.length cv] 138)).alloc (.cells #[] 3)).fr hf1
    have FP1 := BP1.facts
    go_wp2_with fail
    refine (CP.out _ (by exact Qf)).mono ?_
    rintro e w2 ⟨rfl, hf2⟩
    have FG2 := (BG1.fr hf2).facts
    go_wp2_with fail
    refine (CV.out _).mono ?_
    rintro e w3 ⟨rfl, rfl⟩
    go_wp2_with fail
    go_ret
    exact ⟨_, _, rfl, owns_lo ((owns_fr (made_empty (w := (w.alloc (.cells #[.int .i64 g.f0, .slice ae g.f1.length ce] 55)).alloc (.cells #[.slice av ps.length cv] 138)) (lo := w.heap.size + 2) (sz := 1) (e := 3) (by simp) (Nat.le_refl _)) hf1).kept (Fr.gr (show Fr w1 _ by exact Qf) none) (by simp [Value.ownBlock])) (by omega), by exact Qf⟩
  obtain ⟨n, hn, hn0, hn1, hin⟩ := graph_nat hgb
  have hx := of_decide_eq_true hvb
  obtain ⟨p, rfl⟩ := Int.eq_ofNat_of_zero_le hx.1
  have hpn : p < n := by omega
  have hps := (pathB_out hpb).1
  have hps1 := hps.1
  have hps2 := hps.2
  obtain ⟨R, hR⟩ : ∃ R, endR n (stR g.f1) ps = R := ⟨_, rfl⟩
  have HL : Hid (endsL g ps (p : Int) = reachL n (R p)) := Lib.hid (by
    unfold endsL
    rw [if_pos ⟨hgb, hpb, by omega⟩, hn]
    simp [hR])
  have CF : Hid (∀ w', Fr w w' → Calls Tryz.prog 184 #[.agg #[.int .i64 (n : Int), .slice ae g.f1.length ce], .agg #[.slice av ps.length cv]] w' fun e w'' => ∃ az cz, e = .returned (.slice az ps.length cz) ∧ SqSW n w'' (w'.heap.size + 2) w''.heap.size (.slice az ps.length cz) (denR n (stR g.f1) ps ps.length) ∧ Fr w' w'') := Lib.hid fun w' h => l06Full_any _ ps n _ g.f1 w' ⟨hn0, hn1⟩ (HV.out.fr h) hpb (HE.out.fr h) hin
  have HR2 : Hid (nAt (denR n (stR g.f1) ps ps.length) (ps.length - 1) = R) := Lib.hid hR
  have hdl := denR_len n (stR g.f1) ps ps.length
  have HDL := Lib.hid hdl
  rw [HL.out]
  rw [hn] at CG CV hwl ⊢
  have hw1 := wrap_mul (i := p) (n := n) (by omega) hn1
  have hwl2 : IntKind.i64.wrap ((ps.length : Int) - 1) = ((ps.length - 1 : Nat) : Int) := by rw [show (ps.length : Int) - 1 = ((ps.length - 1 : Nat) : Int) by omega]; exact IntWalk.i64_in _ (by omega)
  have hlt1 : ps.length - 1 < ps.length := by omega
  clear HNO hgb hpb hvb hn hin hx hR hps HL hdl
  go_enter Tryz.func151, Tryz.ntmps151
  go_wp2_with fail
  refine (CG.out _ (by exact Qf)).mono ?_
  rintro e w1 ⟨rfl, hf1⟩
  have BG1 := (((Box.new w #[.int .i64 ((n : Int)), .slice ae g.f1.length ce] 55).alloc (.cells #[.slice av ps.length cv] 138)).alloc (.cells #[] 3)).fr hf1
  have BP1 := ((Box.new' (w := w.alloc (.cells #[.int .i64 ((n : Int)), .slice ae g.f1.length ce] 55)) (X := #[.slice av ps.length cv]) (T := 138) (b := w.heap.size + 1) (by simp)).alloc (.cells #[] 3)).fr hf1
  have FP1 := BP1.facts
  go_wp2_with fail
  refine (CP.out _ (by exact Qf)).mono ?_
  rintro e w2 ⟨rfl, hf2⟩
  have BG2 := BG1.fr hf2
  have BP2 := BP1.fr hf2
  have FG2 := BG2.facts
  have FP2 := BP2.facts
  go_wp2_with fail
  refine (CV.out _).mono ?_
  rintro e w3 ⟨rfl, rfl⟩
  go_wp2_with fail
  refine (CF.out _ (by exact Qf)).mono ?_
  rintro e w4 ⟨az, cz, rfl, hq, hf4⟩
  obtain ⟨gz, rfl⟩ := hq.shape hn0 (by rw [HDL.out]; omega)
  obtain ⟨ga, ca, ⟨hga1, hgz1⟩, hga2, hgz, s4, r4⟩ := hq.nth2 hn0 HDL.out.symm (j := ps.length - 1) (by omega)
  rw [HR2.out] at r4
  obtain ⟨ab, bb, ob, cb, hv, hcb, hmb, fb⟩ := r4.one
  cases hv
  obtain ⟨e0, hbb, _, fb2⟩ := fb (Nat.mul_pos hn0 hn0)
  cases e0
  have BG4 := BG2.fr hf4
  have BP4 := BP2.fr hf4
  have HB := Lib.hid fb2
  have hfw4 : Fr w w4 := by exact Qf
  have HFW := Lib.hid hfw4
  have HBG := Lib.hid BG4
  have HBP := Lib.hid BP4
  have hW2 : w.heap.size + 3 ≤ w2.heap.size := by have := hf2.size; have := hf1.size; simp at this; omega
  have hW4 : w.heap.size + 3 ≤ w4.heap.size := by have := hf4.size; have := hf2.size; have := hf1.size; simp at this; omega
  have E4 : w4.ownsRow (w.heap.size + 2) 3 1 (.slice (some ⟨w.heap.size + 2, 0, none⟩) 0 0) 0 [] := (owns_fr (made_empty (w := (w.alloc (.cells #[.int .i64 ((n : Int)), .slice ae g.f1.length ce] 55)).alloc (.cells #[.slice av ps.length cv] 138)) (lo := w.heap.size + 2) (sz := 1) (e := 3) (by simp) (Nat.le_refl _)) hf1).kept ((hf2.trans hf4).gr none) (by simp [Value.ownBlock])
  have HE4 := Lib.hid E4
  clear hq r4 fb fb2 BG1 BG2 BP1 BP2 BG4 BP4 FG2 FP2 FP1 hf1 hf2 hf4 hfw4 E4 HR2 HDL CF CG CP CV
  go_wp2_with fail
  go_loopw [7, 9] (fun z i wr => ∃ (k : Nat) (ao : Option Addr) (co : Nat), k ≤ n ∧ i = .int .i64 k ∧ z = .slice ao (reachL k (R p)).length co ∧ Hid (IntsO wr (w.heap.size + 2) (.slice ao (reachL k (R p)).length co) (reachL k (R p))) ∧ Hid (Box wr w.heap.size #[.int .i64 (n : Int), .slice ae g.f1.length ce] 55) ∧ Hid (Box wr (w.heap.size + 1) #[.slice av ps.length cv] 138) ∧ Hid (Fr w wr) ∧ Hid ((∀ o, wr.cell? ⟨gz, o, none⟩ = w4.cell? ⟨gz, o, none⟩) ∧ (∀ o, wr.cell? ⟨ga, o, none⟩ = w4.cell? ⟨ga, o, none⟩)) ∧ w4.heap.size ≤ wr.heap.size ∧ Hid (∀ g', (Value.slice ao (reachL k (R p)).length co).ownBlock = some g' → g' = w.heap.size + 2 ∨ w4.heap.size ≤ g')) (fun _ i _ => n - (intOf i).toNat)
  case atStart => exact ⟨0, _, 0, Nat.zero_le _, rfl, rfl, HE4, HBG, HBP, HFW, Lib.hid ⟨fun _ => rfl, fun _ => rfl⟩, Nat.le_refl _, Lib.hid (fun g' e => by first | (simp [reachL, Value.ownBlock] at e; omega) | (cases e; exact .inl rfl))⟩
  case round =>
    clear HE4 HBG HBP HFW
    obtain ⟨k, ao, co, hk, rfl, rfl, HO, HBG, HBP, HFW, hzz, hsz, hblk⟩ := hrel
    have FG := HBG.out.facts
    have FP := HBP.out.facts
    by_cases hlt : k < n
    · have s5 : wr.cell? ⟨gz, ps.length - 1, none⟩ = some (.slice (some ⟨ga, 0, none⟩) (n * n) ca) := (hzz.out.1 _).trans s4
      have d5 : wr.cell? ⟨ga, p * n + k, none⟩ = some (.bool (R p k)) := (hzz.out.2 _).trans (by have := HB.out p k hpn hlt; simpa using this)
      have hw2 := wrap_at (i := p) (n := n) (k := k) (by omega) hn1 (by omega)
      have hpk := sq_lt hpn hlt
      have hs := reachL_succ k (R p)
      have hl := reachL_len k (R p)
      have hga' : ga < wr.heap.size := by omega
      have hgz' : gz < wr.heap.size := by omega
      obtain ⟨y, hy⟩ : ∃ y, R p k = y := ⟨_, rfl⟩
      rw [hy] at d5
      cases y
      · rw [if_neg (by rw [hy]; simp)] at hs
        have HS := Lib.hid hs
        clear hs hy
        go_wp2_with fail
        go_quiet (fail)
        go_wp2_with fail
        go_roundw
        case rel => exact ⟨k + 1, ao, co, by omega, by go_num, by rw [HS.out], by rw [HS.out]; exact Lib.hid (HO.out.fr (by exact Qf)), Lib.hid (HBG.out.fr (by exact Qf)), Lib.hid (HBP.out.fr (by exact Qf)), Lib.hid (HFW.out.trans (by exact Qf)), Lib.hid ⟨fun o => by first | exact hzz.out.1 o | simpa using hzz.out.1 o, fun o => by first | exact hzz.out.2 o | simpa using hzz.out.2 o⟩, by first | exact hsz | simpa using hsz, by rw [HS.out]; exact hblk⟩
        case measure => (simp [intOf]; omega)
      · rw [if_pos hy] at hs
        have HS := Lib.hid hs
        clear hs hy
        go_wp2_with fail
        go_quiet (fail)
        go_wp2_with (at_builtin; (refine wpList_append_rd rfl _ _ 86 rfl (w.heap.size + 2) 3 i0 (.int .i64 0) 1 8 Tryz.underlying86 hi hz0 hz1 hz2 rfl (by decide) (.slice ao (reachL k (R p)).length co) (reachL k (R p)).length ((reachL k (R p)).map (Value.int .i64)) rfl (World.ownsRow.alloc (owns_fr HO.out (by exact Qf)) _) _ 1 [.int .i64 k] rfl (RdS.new (by first | rfl | (simp; done)) rfl) (by simp [Value.oneCell']) (by unfold maxLen; omega) (by omega) (by exact Qz) ?_; intro ay cy w9 hown hgrow hat))
        have z9 := hgrow.size
        have HO9 : Hid (IntsO w9 (w.heap.size + 2) (.slice ay (reachL (k + 1) (R p)).length cy) (reachL (k + 1) (R p))) := Lib.hid (by rw [HS.out]; simpa [IntsO] using hown)
        have hl2 : (reachL (k + 1) (R p)).length = (reachL k (R p)).length + 1 := by rw [HS.out]; simp
        have hne : ∀ c, c < w4.heap.size → c ≠ w.heap.size + 2 → (Value.slice ao (reachL k (R p)).length co).ownBlock ≠ some c := fun c h1 h2 e => by have := hblk.out c e; omega
        have hB9 := Box.gr (HBG.out.fr (show Fr wr _ by exact Qf)) hgrow (hne _ (by omega) (by omega))
        have hP9 := Box.gr (HBP.out.fr (show Fr wr _ by exact Qf)) hgrow (hne _ (by omega) (by omega))
        have hW9 : Fr w w9 := Fr.app (HFW.out.trans (show Fr wr _ by exact Qf)) hgrow (RowIn.of_owns HO.out) (by omega)
        have hC9 : ∀ c, c < w4.heap.size → c ≠ w.heap.size + 2 → ∀ o, w9.cell? ⟨c, o, none⟩ = wr.cell? ⟨c, o, none⟩ := fun c h1 h2 o => by
          rw [grown_cell hgrow (b := c) (by simp; omega) (hne c h1 h2) o]
          exact (show Fr wr _ by exact Qf).cell (p := ⟨c, _, none⟩) (by show c < wr.heap.size; omega)
        have hz9 : w4.heap.size ≤ w9.heap.size := by simp at z9; omega
        have hK9 : ∀ g', (Value.slice ay ((reachL k (R p)).length + 1) cy).ownBlock = some g' → g' = w.heap.size + 2 ∨ w4.heap.size ≤ g' := fun g' e => by
          rcases hat with h | h
          · rw [h] at e; exact hblk.out g' e
          · rw [h] at e; simp at e; omega
        go_roundw
        case rel => exact ⟨k + 1, ay, cy, by omega, by go_num, by rw [hl2], HO9, Lib.hid hB9, Lib.hid hP9, Lib.hid hW9, Lib.hid ⟨fun o => (hC9 gz hgz (by omega) o).trans (hzz.out.1 o), fun o => (hC9 ga hga2 (by omega) o).trans (hzz.out.2 o)⟩, hz9, Lib.hid (by rw [hl2]; exact hK9)⟩
        case measure => (simp [intOf]; omega)
    · obtain rfl : k = n := by omega
      go_wp2_with fail
      go_ret
      exact ⟨_, _, rfl, owns_lo HO.out (by omega), HFW.out⟩
set_option maxHeartbeats 16000000 in
set_option maxRecDepth 100000 in
theorem specPathPairs_w (g : GraphD) (ev : Value) (v : Value) (ps : List PieceD) (w : World) (he : EdgesR w ev g.f1) (hv : PiecesR w v ps) :
    Calls Tryz.prog 95 #[.agg #[.int .i64 g.f0, ev], .agg #[v]] w fun e w' => ∃ ao cap, e = .returned (.slice ao (pairsM g ps).length cap) ∧ IntSSW w' w.heap.size w'.heap.size (.slice ao (pairsM g ps).length cap) (pairsM g ps) ∧ Fr w w' := by
  obtain ⟨k0, ki, kz0, kz1, kz2⟩ := info_parts info_ints
  obtain ⟨gb, hgb⟩ : ∃ gb, graphB g = gb := ⟨_, rfl⟩
  obtain ⟨pb, hpb⟩ : ∃ pb, pathB ps = pb := ⟨_, rfl⟩
  have HE := Lib.hid he
  have HV := Lib.hid hv
  have CG : Hid (∀ w', Fr w w' → Calls Tryz.prog 81 #[.agg #[.int .i64 g.f0, ev]] w' fun e w'' => e = .returned (.bool gb) ∧ Fr w' w'') := Lib.hid fun w' h => by rw [← hgb]; exact specGraphOk_any ev g.f0 g.f1 w' (HE.out.fr h)
  have CP : Hid (∀ w', Fr w w' → Calls Tryz.prog 150 #[.agg #[v]] w' fun e w'' => e = .returned (.bool pb) ∧ Fr w' w'') := Lib.hid fun w' h => by rw [← hpb]; exact specPathOk_any v ps w' (HV.out.fr h)
  have HNO : Hid (¬ (gb = true ∧ pb = true) → pairsM g ps = []) := Lib.hid fun h => by
    unfold pairsM
    rw [if_neg]
    rintro ⟨h1, h2⟩
    exact h ⟨hgb ▸ h1, hpb ▸ h2⟩
  obtain ⟨ae, be, oe, ce, rfl, hce, hme, fe⟩ := he.one
  obtain ⟨av, bv, ov, cv, rfl, hcv, hmv, fv⟩ := hv.one
  clear he hv fe fv
  cases gb
  · have hL := HNO.out (by simp)
    rw [hL]
    clear HNO hgb hpb hL
    go_enter Tryz.func95, Tryz.ntmps95
    go_wp2_with fail
    refine (CG.out _ (by exact Qf)).mono ?_
    rintro e w1 ⟨rfl, hf1⟩
    have FP1 := (((Box.new' (w := w.alloc (.cells #[.int .i64 (g.f0), .slice ae g.f1.length ce] 55)) (X := #[.slice av ps.length cv]) (T := 138) (b := w.heap.size + 1) (by simp)).alloc (.cells #[] 86)).fr hf1).facts
    have z1 := hf1.size
    (try simp only [World.size_alloc] at z1)
    have HM := Lib.hid (owns_fr (made_empty (w := (w.alloc (.cells #[.int .i64 (g.f0), .slice ae g.f1.length ce] 55)).alloc (.cells #[.slice av ps.length cv] 138)) (lo := w.heap.size) (sz := 1) (e := 86) (b := w.heap.size + 2) (by simp) (by omega)) hf1)
    go_wp2_with fail
    go_ret
    exact ⟨_, _, rfl, NestP.none_yet ⟨HM.out, RowIn.one (by omega) (by omega)⟩, by exact Qf⟩
  cases pb
  · have hL := HNO.out (by simp)
    rw [hL]
    clear HNO hgb hpb hL
    go_enter Tryz.func95, Tryz.ntmps95
    go_wp2_with fail
    refine (CG.out _ (by exact Qf)).mono ?_
    rintro e w1 ⟨rfl, hf1⟩
    have FP1 := (((Box.new' (w := w.alloc (.cells #[.int .i64 (g.f0), .slice ae g.f1.length ce] 55)) (X := #[.slice av ps.length cv]) (T := 138) (b := w.heap.size + 1) (by simp)).alloc (.cells #[] 86)).fr hf1).facts
    have z1 := hf1.size
    (try simp only [World.size_alloc] at z1)
    have HM := Lib.hid (owns_fr (made_empty (w := (w.alloc (.cells #[.int .i64 (g.f0), .slice ae g.f1.length ce] 55)).alloc (.cells #[.slice av ps.length cv] 138)) (lo := w.heap.size) (sz := 1) (e := 86) (b := w.heap.size + 2) (by simp) (by omega)) hf1)
    go_wp2_with fail
    refine (CP.out _ (by exact Qf)).mono ?_
    rintro e w2 ⟨rfl, hf2⟩
    go_wp2_with fail
    go_ret
    have z2 := hf2.size
    exact ⟨_, _, rfl, NestP.none_yet ⟨owns_fr HM.out hf2, RowIn.one (by omega) (by omega)⟩, by exact Qf⟩
  obtain ⟨n, hn, hn0, hn1, hin⟩ := graph_nat hgb
  obtain ⟨R, hR⟩ : ∃ R, endR n (stR g.f1) ps = R := ⟨_, rfl⟩
  have HL : Hid (pairsM g ps = pairsL R n n) := Lib.hid (by
    unfold pairsM
    rw [if_pos ⟨hgb, hpb⟩, hn]
    simp [hR])
  have HEL : Hid (∀ p : Nat, p < n → endsL g ps (p : Int) = reachL n (R p)) := Lib.hid fun p hp => by
    unfold endsL
    rw [if_pos ⟨hgb, hpb, by omega⟩, hn]
    simp [hR]
  have CR : Hid (∀ (p : Nat) w', p < n → Fr w w' → Calls Tryz.prog 151 #[.agg #[.int .i64 (n : Int), .slice ae g.f1.length ce], .agg #[.slice av ps.length cv], .int .i64 (p : Int)] w' fun e w'' => ∃ ao cap, e = .returned (.slice ao (reachL n (R p)).length cap) ∧ IntsO w'' w'.heap.size (.slice ao (reachL n (R p)).length cap) (reachL n (R p)) ∧ Fr w' w'') := Lib.hid fun p w' hp h => by
    have := specPathEnds_any g _ _ ps (p : Int) w' (HE.out.fr h) (HV.out.fr h) (by omega)
    rw [HEL.out p hp, hn] at this
    exact this
  rw [HL.out]
  rw [hn] at CG ⊢
  clear HNO hgb hpb hn hin hR HL HEL
  go_enter Tryz.func95, Tryz.ntmps95
  go_wp2_with fail
  refine (CG.out _ (by exact Qf)).mono ?_
  rintro e w1 ⟨rfl, hf1⟩
  have BG1 := (((Box.new w #[.int .i64 ((n : Int)), .slice ae g.f1.length ce] 55).alloc (.cells #[.slice av ps.length cv] 138)).alloc (.cells #[] 86)).fr hf1
  have BP1 := ((Box.new' (w := w.alloc (.cells #[.int .i64 ((n : Int)), .slice ae g.f1.length ce] 55)) (X := #[.slice av ps.length cv]) (T := 138) (b := w.heap.size + 1) (by simp)).alloc (.cells #[] 86)).fr hf1
  have FP1 := BP1.facts
  go_wp2_with fail
  refine (CP.out _ (by exact Qf)).mono ?_
  rintro e w2 ⟨rfl, hf2⟩
  have HBG := Lib.hid (BG1.fr hf2)
  have HBP := Lib.hid (BP1.fr hf2)
  have hfw2 : Fr w w2 := by exact Qf
  have HFW := Lib.hid hfw2
  have hw2 : w.heap.size + 3 ≤ w2.heap.size := by have := hf2.size; have := hf1.size; simp at this; omega
  have hE2 : w2.ownsRow (w.heap.size + 2) 86 1 (.slice (some ⟨w.heap.size + 2, 0, none⟩) 0 0) 0 [] := (owns_fr (made_empty (w := (w.alloc (.cells #[.int .i64 ((n : Int)), .slice ae g.f1.length ce] 55)).alloc (.cells #[.slice av ps.length cv] 138)) (lo := w.heap.size + 2) (sz := 1) (e := 86) (by simp) (Nat.le_refl _)) hf1).kept (hf2.gr none) (by simp [Value.ownBlock])
  have HE2 : Hid (IntSSW w2 (w.heap.size + 2) w2.heap.size (.slice (some ⟨w.heap.size + 2, 0, none⟩) 0 0) []) := Lib.hid (NestP.none_yet ⟨hE2, RowIn.one (by omega) (by omega)⟩)
  clear FP1 BG1 BP1 hf1 hf2 hfw2 hE2 CG CP
  obtain ⟨W2, hW2⟩ : ∃ W2 : World, W2.heap.size = w.heap.size + 2 ∧ True := ⟨(w.alloc (.cells #[.int .i64 ((n : Int)), .slice ae g.f1.length ce] 55)).alloc (.cells #[.slice av ps.length cv] 138), by simp, trivial⟩
  go_wp2_with fail
  go_loopw [5, 6] (fun z i wr => ∃ (k : Nat) (az : Option Addr) (cz : Nat), k ≤ n ∧ i = .int .i64 k ∧ z = .slice az (pairsTo R n k 0).length cz ∧ Hid (IntSSW wr (w.heap.size + 2) wr.heap.size (.slice az (pairsTo R n k 0).length cz) (pairsTo R n k 0)) ∧ Hid (Box wr w.heap.size #[.int .i64 (n : Int), .slice ae g.f1.length ce] 55) ∧ Hid (Box wr (w.heap.size + 1) #[.slice av ps.length cv] 138) ∧ Hid (Fr w wr) ∧ w.heap.size + 3 ≤ wr.heap.size) (fun _ i _ => n - (intOf i).toNat)
  case atStart => exact ⟨0, _, 0, Nat.zero_le _, rfl, rfl, HE2, HBG, HBP, HFW, hw2⟩
  case round =>
    clear HE2 HBG HBP HFW hw2
    obtain ⟨k, az, cz, hk, rfl, rfl, HP, HBG, HBP, HFW, hw2⟩ := hrel
    have FG := HBG.out.facts
    have FP := HBP.out.facts
    by_cases hlt : k < n
    · go_wp2_with fail
      refine (CR.out k _ hlt (HFW.out.trans (by exact Qf))).mono ?_
      rintro e w5 ⟨a5, c5, rfl, h5, hf5⟩
      have hl32 := reachL_len n (R k)
      obtain ⟨bb, hbb⟩ := IntsO.get h5
      have zf5 := hf5.size
      have hrow := NestW.rowIn HP.out
      have HRD : Hid (0 < (reachL n (R k)).length → bb < w5.heap.size ∧ (Value.slice az (pairsTo R n k 0).length cz).ownBlock ≠ some bb ∧ ∀ q, q < (reachL n (R k)).length → w5.cell? ⟨bb, q, none⟩ = some (.int .i64 (iAt (reachL n (R k)) q))) := Lib.hid fun h => ⟨(hbb h).2.2.1, fun e => by have := hrow bb e; have := (hbb h).2.1; omega, (hbb h).2.2.2⟩
      have HAD : Hid (0 < (reachL n (R k)).length → a5 = some ⟨bb, 0, none⟩) := Lib.hid fun h => (hbb h).1
      have HP5 : Hid (IntSSW w5 (w.heap.size + 2) w5.heap.size (.slice az (pairsTo R n k 0).length cz) (pairsTo R n k 0)) := Lib.hid ((HP.out.fr hf5).mono hf5.size)
      have HBG5 := Lib.hid (HBG.out.fr hf5)
      have HBP5 := Lib.hid (HBP.out.fr hf5)
      have HFW5 := Lib.hid (HFW.out.trans hf5)
      have hw5 : w.heap.size + 3 ≤ w5.heap.size := by omega
      clear h5 hbb hrow FG FP
      go_wp2_with fail
      go_loopw [5, 8] (fun z i wr => ∃ (q : Nat) (az : Option Addr) (cz : Nat), q ≤ (reachL n (R k)).length ∧ i = .int .i64 q ∧ z = .slice az (pairsTo R n k q).length cz ∧ Hid (IntSSW wr (w.heap.size + 2) wr.heap.size (.slice az (pairsTo R n k q).length cz) (pairsTo R n k q)) ∧ Hid (Box wr w.heap.size #[.int .i64 (n : Int), .slice ae g.f1.length ce] 55) ∧ Hid (Box wr (w.heap.size + 1) #[.slice av ps.length cv] 138) ∧ Hid (Fr w wr) ∧ w.heap.size + 3 ≤ wr.heap.size ∧ Hid (0 < (reachL n (R k)).length → bb < wr.heap.size ∧ (Value.slice az (pairsTo R n k q).length cz).ownBlock ≠ some bb ∧ ∀ q, q < (reachL n (R k)).length → wr.cell? ⟨bb, q, none⟩ = some (.int .i64 (iAt (reachL n (R k)) q)))) (fun _ i _ => (reachL n (R k)).length - (intOf i).toNat)
      case atStart => exact ⟨0, az, cz, Nat.zero_le _, rfl, rfl, HP5, HBG5, HBP5, HFW5, hw5, HRD⟩
      case round =>
        clear HP5 HBG5 HBP5 HFW5 HP HBG HBP HFW hf5 HRD zf5 hw5 hw2
        obtain ⟨q, az, cz, hq, rfl, rfl, HP, HBG, HBP, HFW, hw2, hrd⟩ := hrel
        by_cases hqt : q < (reachL n (R k)).length
        · obtain rfl := HAD.out (by omega)
          obtain ⟨hb1, hb2, hb3⟩ := hrd.out (by omega)
          have d0 := hb3 q hqt
          have HB3 := Lib.hid hb3
          have HB2 := Lib.hid hb2
          obtain ⟨y, hy⟩ : ∃ y, iAt (reachL n (R k)) q = y := ⟨_, rfl⟩
          have hst := pairsTo_step (m := n) (R := R) hqt
          rw [hy] at d0 hst
          have HST := Lib.hid hst
          have hle := pairsTo_len R n k q
          have hle2 : (k + 1) * n ≤ 12 * 12 := Nat.mul_le_mul (by omega) hn1
          have hrow := NestW.rowIn HP.out
          have HROW := Lib.hid hrow
          obtain ⟨ys, hys, happ⟩ := NestW.app (E := IntsEW) (fun a b c => IntsEW.span a b c) HP.out
          have HYS := Lib.hid hys
          have HAPP := Lib.hid happ
          clear hys happ hst hy hb3 hrd hb2 hrow
          go_wp2_with (at_builtin; (refine wpList_append_rd rfl _ _ 30 rfl (w.heap.size + 2) 86 k0 (.slice none 0 0) 1 24 Tryz.underlying30 ki kz0 kz1 kz2 rfl (by decide) (.slice az (pairsTo R n k q).length cz) (pairsTo R n k q).length ys rfl (World.ownsRow.alloc (World.ownsRow.alloc HYS.out.1 _) _) _ 1 [.slice (some ⟨wr.heap.size, 0, none⟩) 2 2] rfl (RdS.new (by first | rfl | (simp; done)) rfl) (by simp [Value.oneCell']) (by unfold maxLen; omega) (by omega) (by exact Qz) ?_; intro ay cy w9 hown9 hgrow9 hat9))
          have hz9 := hgrow9.size
          have HE := Lib.hid (IntSSW.pair (W := w) (a := (k : Int)) (b := y) HP.out rfl (by omega) (by omega) HFW.out HAPP.out rfl ⟨_, rfl⟩ hown9 hgrow9 hat9)
          have hlen : (pairsTo R n k (q + 1)).length = (pairsTo R n k q).length + 1 := by rw [HST.out]; simp
          have hB9 := Box.gr ((HBG.out.alloc _).alloc _) hgrow9 (fun e => by have := HROW.out _ e; omega)
          have hP9 := Box.gr ((HBP.out.alloc _).alloc _) hgrow9 (fun e => by have := HROW.out _ e; omega)
          have HRD : Hid (0 < (reachL n (R k)).length → bb < w9.heap.size ∧ (Value.slice ay ((pairsTo R n k q).length + 1) cy).ownBlock ≠ some bb ∧ ∀ q, q < (reachL n (R k)).length → w9.cell? ⟨bb, q, none⟩ = some (.int .i64 (iAt (reachL n (R k)) q))) := Lib.hid fun _ => ⟨by have := hgrow9.size; simp at this; omega, fun e => by
            rcases hat9 with h | h
            · rw [h] at e; exact HB2.out e
            · rw [h] at e; simp at e; omega, fun q hq => by
            rw [grown_cell hgrow9 (b := bb) (by simp; omega) HB2.out q, ← HB3.out q hq]
            exact (show Fr wr _ by exact Qf).cell (p := ⟨bb, _, none⟩) hb1⟩
          go_roundw
          case rel =>
            refine ⟨q + 1, ay, cy, by omega, by go_num, by rw [hlen], Lib.hid ?_, Lib.hid hB9, Lib.hid hP9, Lib.hid HE.out.2, by simp at hz9; omega, Lib.hid ?_⟩
            · rw [hlen, HST.out]; exact HE.out.1
            · rw [hlen]; exact HRD.out
          case measure => (simp [intOf]; omega)
        · have HN : Hid (pairsTo R n k q = pairsTo R n (k + 1) 0) := Lib.hid (by rw [pairsTo_all (by omega), pairsTo_0])
          clear hrd
          go_wp2_with fail
          go_roundw
          case rel => exact ⟨k + 1, az, cz, by omega, by go_num, by rw [HN.out], by rw [← HN.out]; exact HP, HBG, HBP, HFW, hw2⟩
          case measure => (simp [intOf]; omega)
    · obtain rfl : k = n := by omega
      go_wp2_with fail
      go_ret
      refine ⟨az, cz, by rw [pairsTo_0]; rfl, ?_, HFW.out⟩
      rw [← pairsTo_0]
      exact NestP.mono HP.out (by omega) (Nat.le_refl _)
theorem specPathPairs_any (g : GraphD) (ev : Value) (v : Value) (ps : List PieceD) (w : World) (he : EdgesR w ev g.f1) (hv : PiecesR w v ps) :
    Calls Tryz.prog 95 #[.agg #[.int .i64 g.f0, ev], .agg #[v]] w fun e w' => ∃ u, e = .returned u ∧ IntSSR w' u (pairsM g ps) ∧ Fr w w' :=
  (specPathPairs_w g ev v ps w he hv).mono fun e w' ⟨_, _, h1, h2, h3⟩ => ⟨_, h1, h2.rd, h3⟩
end Go.Proofs.YtmdgdnkllclpcaaGreat
