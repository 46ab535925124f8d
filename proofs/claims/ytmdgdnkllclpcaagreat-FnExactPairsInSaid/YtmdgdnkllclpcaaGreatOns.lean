/- l20On of the reference: how a walk goes on. Conditions: bounds on the edges and on the arcs. -/
import Derived.Test.YtmdgdnkllclpcaaGreatOnw
import Derived.Deep.RegionHeld3
namespace Go.Proofs.YtmdgdnkllclpcaaGreat
open Go.RowKit
set_option linter.unusedVariables false
set_option linter.unusedSimpArgs false
def onQ (es : List EdgeR) (nfs : List NfaD) (x : WalkR) : List WalkR := if 0 ≤ x.f0 ∧ x.f0 < (nfs.length : Int) then onL es (nAt nfs x.f0.toNat).f1 x else []
theorem onQ_in {es : List EdgeR} {nfs : List NfaD} {k0 : Nat} {x1 x2 x3 : Int} (h : k0 < nfs.length) : onQ es nfs ⟨k0, x1, x2, x3⟩ = onL es (nAt nfs k0).f1 ⟨k0, x1, x2, x3⟩ := by unfold onQ; rw [if_pos (by simp; omega)]; simp
theorem onQ_out {es : List EdgeR} {nfs : List NfaD} {x : WalkR} (h : ¬ (0 ≤ x.f0 ∧ x.f0 < (nfs.length : Int))) : onQ es nfs x = [] := if_neg h
set_option maxHeartbeats 4000000 in
theorem l20On_no (ev av : Value) (n0 : Int) (es : List EdgeR) (nfs : List NfaD) (x0 x1 x2 x3 : Int) (w : World) (he : EdgesR w ev es) (ha : NfasR w av nfs) (hno : ¬ (0 ≤ x0 ∧ x0 < (nfs.length : Int))) :
    Calls Tryz.prog 82 #[.agg #[.int .i64 n0, ev], av, .agg #[.int .i64 x0, .int .i64 x1, .int .i64 x2, .int .i64 x3]] w fun e w' => ∃ ao cap, e = .returned (.slice ao 0 cap) ∧ WalksW w' w.heap.size w'.heap.size (.slice ao 0 cap) [] ∧ Fr w w' := by
  obtain ⟨ae, be, oe, ce, rfl, hce, hme, fe⟩ := he.one
  obtain ⟨aa, ba, oa, ca, rfl, hca, hma, fa⟩ := ha.one
  have g1 : decide (0 ≤ x0 ∧ x0 ≤ (nfs.length : Int) - 1) = false := by simp only [decide_eq_false_iff_not]; omega
  have hal := ha.le
  have HME : Hid (WalksW ((((w.alloc (.cells #[.int .i64 n0, .slice ae es.length ce] 55)).alloc (.cells #[.int .i64 x0, .int .i64 x1, .int .i64 x2, .int .i64 x3] 57)).alloc (.cells #[] 57))) w.heap.size (w.heap.size + 1 + 1 + 1) (.slice (some ⟨w.heap.size + 1 + 1, 0, none⟩) 0 0) []) := Lib.hid ⟨made_empty (by simp) (by omega), RowIn.one (by omega) (by omega)⟩
  clear he ha fe fa hno
  go_enter Tryz.func82, Tryz.ntmps82
  go_wp2_with fail
  refine (l01In_any _ _ _ _).mono ?_
  rintro e w1 ⟨rfl, rfl⟩
  rw [g1]
  go_wp2_with fail
  go_ret
  exact ⟨_, _, rfl, OwW.mono HME.out (Nat.le_refl _) (by simp), by exact Qf⟩
set_option maxHeartbeats 16000000 in
set_option maxRecDepth 100000 in
theorem l20On_in (ev av : Value) (n0 : Int) (es : List EdgeR) (nfs : List NfaD) (k0 : Nat) (x1 x2 x3 : Int) (w : World) (he : EdgesR w ev es) (ha : NfasR w av nfs) (hk0 : k0 < nfs.length) (he40 : es.length ≤ 40) (hcs : (nAt nfs k0).f1.length ≤ 262144) :
    Calls Tryz.prog 82 #[.agg #[.int .i64 n0, ev], av, .agg #[.int .i64 (k0 : Int), .int .i64 x1, .int .i64 x2, .int .i64 x3]] w fun e w' => ∃ ao cap, e = .returned (.slice ao (onL es (nAt nfs k0).f1 ⟨k0, x1, x2, x3⟩).length cap) ∧ WalksW w' w.heap.size w'.heap.size (.slice ao (onL es (nAt nfs k0).f1 ⟨k0, x1, x2, x3⟩).length cap) (onL es (nAt nfs k0).f1 ⟨k0, x1, x2, x3⟩) ∧ Fr w w' := by
  obtain ⟨i0, hi, hz0, hz1, hz2⟩ := info_parts info_Walk
  obtain ⟨ae, be, oe, ce, rfl, hce, hme, fe⟩ := he.one
  have HE0 := Lib.hid fe
  have hal := ha.le
  obtain ⟨aa, ba, oa, ca, rfl, hca, hma, fa⟩ := ha.one
  obtain ⟨rfl, hba, fa2⟩ := fa (by omega)
  obtain ⟨ua, ue, hua, hue, q0, q1, q2⟩ := fa2 k0 hk0
  obtain ⟨cs, hcs'⟩ : ∃ cs, (nAt nfs k0).f1 = cs := ⟨_, rfl⟩
  rw [hcs'] at hua hcs ⊢
  obtain ⟨n1, hn1⟩ : ∃ n1, (nAt nfs k0).f0 = n1 := ⟨_, rfl⟩
  rw [hn1] at q0
  obtain ⟨ac, bc, oc, cc, rfl, hcc, hmc, fc⟩ := hua.one
  obtain ⟨au, cu, rfl, hau⟩ := RdS.val hue
  clear hau
  have HC0 := Lib.hid fc
  generalize (nAt nfs k0).f2.length = nu at *
  clear he ha fe fa fa2 hua hue fc hcs' hn1
  obtain ⟨W, hW⟩ : ∃ W : WalkR, W = ⟨(k0 : Int), x1, x2, x3⟩ := ⟨_, rfl⟩
  rw [← hW]
  have HW0 := Lib.hid hW
  clear hW
  have hmul : es.length * cs.length ≤ 40 * 262144 := Nat.mul_le_mul he40 hcs
  have g1 : decide (0 ≤ (k0 : Int) ∧ (k0 : Int) ≤ (nfs.length : Int) - 1) = true := by simp only [decide_eq_true_eq]; omega
  go_enter Tryz.func82, Tryz.ntmps82
  go_wp2_with fail
  refine (l01In_any _ _ _ _).mono ?_
  rintro e w1 ⟨rfl, rfl⟩
  rw [g1]
  have hba1 : ba < w.heap.size + 1 := by omega
  have hba2 : ba < w.heap.size + 1 + 1 := by omega
  go_wp2_with fail
  clear q0 q1 q2
  go_loopw [7, 9] (fun o i wr => ∃ (j c : Nat) (a : Option Addr) (l : List WalkR), j ≤ es.length ∧ i = .int .i64 j ∧ o = .slice a l.length c ∧ Hid (l = onL (es.take j) cs W) ∧ Hid (WalksW wr (w.heap.size + 1 + 1) wr.heap.size (.slice a l.length c) l) ∧ Hid ((Value.slice a l.length c).ownBlock ≠ some (w.heap.size + 1 + 1 + 1)) ∧ w.heap.size + 1 + 1 + 1 < wr.heap.size ∧ Box wr w.heap.size #[.int .i64 n0, .slice ae es.length ce] 55 ∧ Box wr (w.heap.size + 1) #[.int .i64 (k0 : Int), .int .i64 x1, .int .i64 x2, .int .i64 x3] 57 ∧ Box wr (w.heap.size + 1 + 1 + 1) #[.int .i64 n1, .slice ac cs.length cc, .slice au nu cu] 103 ∧ Fr w wr) (fun _ i _ => es.length - (intOf i).toNat)
  case atStart => exact ⟨0, 0, some ⟨w.heap.size + 1 + 1, 0, none⟩, [], Nat.zero_le _, rfl, rfl, Lib.hid (by simp [onL]), Lib.hid (OwW.mono (OwW.alloc (OwW.of_owns (made_empty (by simp) (Nat.le_refl _))) _) (by simp) (by simp)), Lib.hid (by simp [Value.ownBlock]), by simp, ((Box.new _ _ _).alloc _).alloc _ |>.alloc _, ((Box.new' (by simp)).alloc _).alloc _, Box.new' (by simp), by exact Qf⟩
  case round =>
    obtain ⟨j, c, a, l, hj, rfl, rfl, HE, HO, HNN, hnn, hG, hB, hN, hfr⟩ := hrel
    have FG := hG.facts
    have FB := hB.facts
    have FN := hN.facts
    have zr := hfr.size
    by_cases hlt : j < es.length
    · obtain ⟨rfl, hb, hf⟩ := HE0.out (by omega)
      obtain ⟨g0, g1, g2⟩ := hf j hlt
      have hskip := onL_skip (cs := cs) (w := W) hlt
      have hhit := onL_hit (cs := cs) (w := W) hlt
      obtain ⟨x, hx⟩ : ∃ x, edgeAt es j = x := ⟨_, rfl⟩
      rw [hx] at g0 g1 g2 hskip hhit
      obtain ⟨e0, e1, e2⟩ := x
      have he1 := e1.toNat_lt
      simp only [] at g0 g1 g2 hskip hhit
      have q0 := (hfr.cell (p := ⟨be, _, none⟩) hb).trans g0
      have q1 := (hfr.cell (p := ⟨be, _, none⟩) hb).trans g1
      have q2 := (hfr.cell (p := ⟨be, _, none⟩) hb).trans g2
      have HX := Lib.hid hx
      rw [HW0.out] at hskip hhit
      simp only [] at hskip hhit
      rw [← HW0.out] at hskip hhit
      have HSK := Lib.hid hskip
      have HHI := Lib.hid hhit
      clear hf g0 g1 g2 hx hskip hhit
      by_cases hm : e0 = x2
      · have qm : (e0 == x2) = true := by simpa using hm
        have HM := Lib.hid (HHI.out hm)
        clear HSK HHI hm
        go_wp2_with fail
        obtain ⟨wo, rfl⟩ : ∃ wo : World, wo = wr := ⟨_, rfl⟩
        go_loopw [7, 11] (fun o i wr => ∃ (k c : Nat) (a : Option Addr) (l : List WalkR), k ≤ cs.length ∧ i = .int .i64 k ∧ o = .slice a l.length c ∧ Hid (l = onTo es cs W j k) ∧ Hid (WalksW wr (w.heap.size + 1 + 1) wr.heap.size (.slice a l.length c) l) ∧ Hid ((Value.slice a l.length c).ownBlock ≠ some (w.heap.size + 1 + 1 + 1)) ∧ Hid ((Value.slice a l.length c).ownBlock ≠ some wo.heap.size) ∧ w.heap.size + 1 + 1 + 1 < wr.heap.size ∧ wo.heap.size < wr.heap.size ∧ Box wr w.heap.size #[.int .i64 n0, .slice (some ⟨be, oe, none⟩) es.length ce] 55 ∧ Box wr (w.heap.size + 1) #[.int .i64 (k0 : Int), .int .i64 x1, .int .i64 x2, .int .i64 x3] 57 ∧ Box wr (w.heap.size + 1 + 1 + 1) #[.int .i64 n1, .slice ac cs.length cc, .slice au nu cu] 103 ∧ Box wr wo.heap.size #[.int .i64 e0, .int .u8 (e1.toNat : Int), .int .i64 e2] 184 ∧ Fr w wr) (fun _ i _ => cs.length - (intOf i).toNat)
        case atStart => exact ⟨0, c, a, l, Nat.zero_le _, rfl, rfl, Lib.hid (by rw [onTo_0]; exact HE.out), Lib.hid (OwW.mono (OwW.alloc HO.out _) (Nat.le_refl _) (by simp)), HNN, Lib.hid (fun e => by have := HO.out.2 _ e; omega), by simp; omega, by simp, hG.alloc _, hB.alloc _, hN.alloc _, Box.new _ _ _, by exact Qf⟩
        case round =>
          clear HE HO HNN hnn hG hB hN FG FB FN zr hfr q0 q1 q2
          obtain ⟨k, c, a, l, hk, rfl, rfl, HE, HO, HNN, HNE, hnn, hwo, hG, hB, hN, hBE, hfr⟩ := hrel
          have FG := hG.facts
          have FB := hB.facts
          have FN := hN.facts
          have FE := hBE.facts
          have zr := hfr.size
          have hll : l.length ≤ 10485760 := by
            rw [HE.out]
            have := onTo_len (es := es) (cs := cs) (w := W) (k := k) hlt
            omega
          by_cases hltk : k < cs.length
          · obtain ⟨rfl, hbc, hfc⟩ := HC0.out (by omega)
            obtain ⟨g0, g1, g2⟩ := hfc k hltk
            have hst := onTo_step (es := es) (w := W) (i := j) hltk
            obtain ⟨y, hy⟩ : ∃ y, edgeAt cs k = y := ⟨_, rfl⟩
            rw [hy, HX.out] at hst
            rw [hy] at g0 g1 g2
            obtain ⟨c0, c1, c2⟩ := y
            have hc1 := c1.toNat_lt
            simp only [] at g0 g1 g2
            have q0 := (hfr.cell (p := ⟨bc, _, none⟩) hbc).trans g0
            have q1 := (hfr.cell (p := ⟨bc, _, none⟩) hbc).trans g1
            have q2 := (hfr.cell (p := ⟨bc, _, none⟩) hbc).trans g2
            have HST := Lib.hid hst
            have HQ2 : Hid (∀ w', Fr w w' → w'.cell? ⟨bc, oc + k * 3 + 2, none⟩ = some (.int .i64 c2)) := Lib.hid fun w' h => (h.cell (p := ⟨bc, _, none⟩) hbc).trans g2
            clear hfc g0 g1 g2 hy hst
            by_cases h3 : c0 = x3
            · have t3 : (c0 == x3) = true := by simpa using h3
              by_cases h1 : c1 = e1
              · have t1 : ((c1.toNat : Int) == (e1.toNat : Int)) = true := by simpa using (byte_eq.2 h1)
                have HS : Hid (l ++ [⟨(k0 : Int), x1, e2, c2⟩] = onTo es cs W j (k + 1)) := Lib.hid (by rw [HST.out, HE.out, HW0.out]; simp [arcOn, h3, h1])
                have HLN := Lib.hid (show (l ++ [(⟨(k0 : Int), x1, e2, c2⟩ : WalkR)]).length = l.length + 1 by simp)
                have HCA := Lib.hid (wlk_snoc l ⟨(k0 : Int), x1, e2, c2⟩)
                clear h3 h1
                go_wp2_with fail
                go_quiet (fail)
                have hBd := hB.drewN nq
                have hEd := hBE.drewN nq
                have hNd := hN.drewN nq
                have hGd := hG.drewN nq
                have HOd := Lib.hid (OwW.drewN HO.out nq)
                have hfd := hfr.drewN nq
                have hzd : (wr.drewN nq).heap.size = wr.heap.size := by simp
                go_wp2_with fail
                obtain ⟨wd, hwd⟩ : ∃ wd : World, wr.drewN nq = wd := ⟨_, rfl⟩
                rw [hwd] at hBd hEd hNd hGd HOd hfd hzd ⊢
                clear hwd hB hBE hN hG FG FB FN FE q0 q1 q2 HO hfr
                have hzd1 : wr.heap.size ≤ wd.heap.size := by omega
                clear hzd
                have RB : ∀ w', Tch (RowB (.slice a l.length c)) wd w' → ∀ o, w'.cell? ⟨w.heap.size + 1, o, none⟩ = _ := fun w' h o => (Tch.box h hBd (fun e => by have := HOd.out.2 _ e; omega)).cell o
                have RE : ∀ w', Tch (RowB (.slice a l.length c)) wd w' → ∀ o, w'.cell? ⟨wo.heap.size, o, none⟩ = _ := fun w' h o => (Tch.box h hEd HNE.out).cell o
                have RN : ∀ w', Tch (RowB (.slice a l.length c)) wd w' → ∀ o, w'.cell? ⟨w.heap.size + 1 + 1 + 1, o, none⟩ = _ := fun w' h o => (Tch.box h hNd HNN.out).cell o
                have RC : ∀ w', Tch (RowB (.slice a l.length c)) wd w' → w'.cell? ⟨bc, oc + k * 3 + 2, none⟩ = some (.int .i64 c2) := fun w' h => HQ2.out _ (RowB.old h hfd HOd.out.2 (by omega))
                go_region_held3 (fun w' => Tch (RowB (.slice a l.length c)) wd w') (first | (focus ((refine Tch.of_fr ?_; repeat (first | (with_reducible exact Fr.refl _) | (with_reducible assumption) | (with_reducible refine Fr.drewN ?_ _) | (with_reducible refine Fr.drew ?_) | (with_reducible refine Fr.alloc ?_ _) | (with_reducible refine Fr.setCell ?_ (by exact Qz) _) | (with_reducible refine Fr.trans ?_ (by with_reducible assumption)))); done)) | (with_reducible assumption)) ((refine step_append_rd (by rfl) _ _ 37 (by rfl) (w.heap.size + 1 + 1) 57 i0 (.agg #[.int .i64 0, .int .i64 0, .int .i64 0, .int .i64 0]) 4 32 Tryz.underlying37 hi hz0 hz1 hz2 rfl (by decide) (.slice a l.length c) l.length (l.flatMap WalkR.cells) (by rfl) (by exact owns_lo (owns_ab HOd.out.1 (by exact Qa)) (by exact Qz)) _ 1 [.int .i64 (k0 : Int), .int .i64 x1, .int .i64 e2, .int .i64 c2] (by rfl) (RdS.new (by first | rfl | (simp; done)) rfl) (by simp [Value.oneCell']) (by unfold maxLen; omega) (by omega) (by exact Qz) ?_; intro a6 c6 w6 hown hgrow hat; have T6 := RowB.tch (w := wd) (by exact Qf) hgrow))
                have hB6 := Tch.box T6 hBd (fun e => by have := HOd.out.2 _ e; omega)
                have hG6 := Tch.box T6 hGd (fun e => by have := HOd.out.2 _ e; omega)
                have hE6 := Tch.box T6 hEd HNE.out
                have hN6 := Tch.box T6 hNd HNN.out
                have hf6 : Fr w w6 := RowB.old T6 hfd HOd.out.2 (by omega)
                have z6 := T6.size
                clear RB RE RN RC
                have HN6 : Hid ((Value.slice a6 (l ++ [(⟨(k0 : Int), x1, e2, c2⟩ : WalkR)]).length c6).ownBlock ≠ some wo.heap.size) := Lib.hid (by
                  rw [HLN.out]
                  rcases hat with e | e
                  · rw [e]; exact HNE.out
                  · rw [e]; simp; omega)
                have HM6 : Hid ((Value.slice a6 (l ++ [(⟨(k0 : Int), x1, e2, c2⟩ : WalkR)]).length c6).ownBlock ≠ some (w.heap.size + 1 + 1 + 1)) := Lib.hid (by
                  rw [HLN.out]
                  rcases hat with e | e
                  · rw [e]; exact HNN.out
                  · rw [e]; simp; omega)
                have HW6 : Hid (WalksW w6 (w.heap.size + 1 + 1) w6.heap.size (.slice a6 (l ++ [(⟨(k0 : Int), x1, e2, c2⟩ : WalkR)]).length c6) (l ++ [⟨(k0 : Int), x1, e2, c2⟩])) := Lib.hid (by
                  have := OwW.of_owns hown
                  rw [← HCA.out, ← HLN.out] at this
                  exact this)
                clear hown hgrow hat T6
                go_wp2_with fail
                go_roundw
                case rel => exact ⟨k + 1, c6, a6, l ++ [⟨(k0 : Int), x1, e2, c2⟩], by omega, by go_num, by rw [HLN.out], HS, HW6, HM6, HN6, by omega, by omega, hG6, hB6, hN6, hE6, hf6⟩
                case measure => (simp [intOf]; omega)
              · have t1 : ((c1.toNat : Int) == (e1.toNat : Int)) = false := by simp; exact fun h => h1 (byte_eq.1 (by omega))
                have HS : Hid (l = onTo es cs W j (k + 1)) := Lib.hid (by rw [HST.out, HE.out]; simp [arcOn, h1])
                clear h3 h1
                go_wp2_with fail
                go_quiet (fail)
                go_wp2_with fail
                go_roundw
                case rel => exact ⟨k + 1, c, a, l, by omega, by go_num, rfl, HS, Lib.hid (OwW.drewN HO.out _), HNN, HNE, hnn, hwo, hG.drewN _, hB.drewN _, hN.drewN _, hBE.drewN _, by exact Qf⟩
                case measure => (simp [intOf]; omega)
            · have t3 : (c0 == x3) = false := by simpa using h3
              have HS : Hid (l = onTo es cs W j (k + 1)) := Lib.hid (by rw [HST.out, HE.out, HW0.out]; simp [arcOn, h3])
              clear h3
              go_wp2_with fail
              go_quiet (fail)
              go_wp2_with fail
              go_roundw
              case rel => exact ⟨k + 1, c, a, l, by omega, by go_num, rfl, HS, Lib.hid (OwW.drewN HO.out _), HNN, HNE, hnn, hwo, hG.drewN _, hB.drewN _, hN.drewN _, hBE.drewN _, by exact Qf⟩
              case measure => (simp [intOf]; omega)
          · obtain rfl : k = cs.length := by omega
            go_wp2_with fail
            go_roundw
            case rel => exact ⟨j + 1, c, a, l, by omega, by go_num, rfl, Lib.hid (by rw [HE.out, HM.out]), HO, HNN, hnn, hG, hB, hN, hfr⟩
            case measure => (simp [intOf]; omega)
      · have qm : (e0 == x2) = false := by simpa using hm
        have HS := Lib.hid (HSK.out hm)
        clear hm HSK HHI
        go_wp2_with fail
        obtain ⟨wo, rfl⟩ : ∃ wo : World, wo = wr := ⟨_, rfl⟩
        have hB1 := hB.alloc (.cells #[.int .i64 e0, .int .u8 (e1.toNat : Int), .int .i64 e2] 184)
        have FB1 := hB1.facts
        have hN1 := hN.alloc (.cells #[.int .i64 e0, .int .u8 (e1.toNat : Int), .int .i64 e2] 184)
        have FN1 := hN1.facts
        go_loopw [7, 11] (fun o i wr => o = .slice a l.length c ∧ i = .int .i64 0 ∧ wr = wo.alloc (.cells #[.int .i64 e0, .int .u8 (e1.toNat : Int), .int .i64 e2] 184)) (fun _ _ _ => 0)
        case atStart => exact ⟨rfl, rfl, rfl⟩
        case round =>
          obtain ⟨rfl, rfl, rfl⟩ := hrel
          by_cases hc0 : 0 < cs.length
          all_goals
            go_wp2_with fail
            go_roundw
            case rel => exact ⟨j + 1, c, a, l, by omega, by go_num, rfl, Lib.hid (by rw [HE.out, HS.out]), Lib.hid (OwW.mono (OwW.alloc HO.out _) (Nat.le_refl _) (by simp)), HNN, by simp; omega, hG.alloc _, hB.alloc _, hN.alloc _, by exact Qf⟩
            case measure => (simp [intOf]; omega)
    · obtain rfl : j = es.length := by omega
      have HS : Hid (onL es cs W = l) := Lib.hid (by rw [HE.out, List.take_length])
      go_wp2_with fail
      go_ret
      refine ⟨_, _, by rw [HS.out]; try rfl, ?_, hfr⟩
      rw [HS.out]
      exact OwW.mono HO.out (by omega) (Nat.le_refl _)
end Go.Proofs.YtmdgdnkllclpcaaGreat
