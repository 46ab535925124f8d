/- walksOn of the program: how a walk of an atom that is there goes on. Conditions: bounds on the edges and on the arcs. -/
import Derived.Test.YtmdgdnkllclpcaaGreatNfl
import Derived.Test.YtmdgdnkllclpcaaGreatGOParcel
import Derived.Test.YtmdgdnkllclpcaaGreatGPrw
import Derived.Test.YtmdgdnkllclpcaaGreatGSta2
namespace Go.Proofs.YtmdgdnkllclpcaaGreat
open Go.RowKit
set_option linter.unusedVariables false
set_option linter.unusedSimpArgs false
def RowB (v : Value) : Nat → Prop := fun i => v.ownBlock = some i
theorem RowB.tch {w w1 w2 : World} {v : Value} (h : Fr w w1) (hg : w1.grownBy w2 v.ownBlock) : Tch (RowB v) w w2 := (Tch.of_fr h).trans (Tch.of_gr hg fun i e => e)
theorem RowB.old {w0 w w' : World} {v : Value} {lo hi : Nat} (h : Tch (RowB v) w w') (k : Fr w0 w) (hr : RowIn lo hi v) (hl : w0.heap.size ≤ lo) : Fr w0 w' := h.old k fun i hi e => by have := hr i e; omega
set_option maxHeartbeats 8000000 in
set_option maxRecDepth 100000 in
theorem walksOn_any (ev av : Value) (n0 : Int) (es : List EdgeR) (nfs : List NfaD) (k0 : Nat) (x1 x2 x3 : Int) (w : World) (he : EdgesR w ev es) (ha : NfasR w av nfs) (hk0 : k0 < nfs.length) (he40 : es.length ≤ 40) (hcs : (nAt nfs k0).f1.length ≤ 262144) :
    Calls Tryz.prog 85 #[.agg #[.int .i64 n0, ev], av, .agg #[.int .i64 (k0 : Int), .int .i64 x1, .int .i64 x2, .int .i64 x3]] w fun e w' => ∃ ao cap, e = .returned (.slice ao (onL es (nAt nfs k0).f1 ⟨k0, x1, x2, x3⟩).length cap) ∧ WalksW w' w.heap.size w'.heap.size (.slice ao (onL es (nAt nfs k0).f1 ⟨k0, x1, x2, x3⟩).length cap) (onL es (nAt nfs k0).f1 ⟨k0, x1, x2, x3⟩) ∧ Fr w w' := by
  obtain ⟨i0, hi, hz0, hz1, hz2⟩ := info_parts info_Walk
  obtain ⟨ae, be, oe, ce, rfl, hce, hme, fe⟩ := he.one
  have HE0 := Lib.hid fe
  obtain ⟨aa, ba, oa, ca, rfl, hca, hma, fa⟩ := ha.one
  obtain ⟨rfl, hba, fa2⟩ := fa (by omega)
  obtain ⟨ua, ue, hua, hue, q0, q1, q2⟩ := fa2 k0 hk0
  obtain ⟨cs, hcs'⟩ : ∃ cs, (nAt nfs k0).f1 = cs := ⟨_, rfl⟩
  rw [hcs'] at hua hcs ⊢
  obtain ⟨ac, bc, oc, cc, rfl, hcc, hmc, fc⟩ := hua.one
  have HC0 := Lib.hid fc
  have HQ1 : Hid (∀ w', Fr w w' → w'.cell? ⟨ba, oa + k0 * 3 + 1, none⟩ = some (.slice ac cs.length cc)) := Lib.hid fun w' h => (h.cell (p := ⟨ba, _, none⟩) hba).trans q1
  clear he ha fe fa fa2 hua hue fc q0 q1 q2 hcs'
  obtain ⟨W, hW⟩ : ∃ W : WalkR, W = ⟨(k0 : Int), x1, x2, x3⟩ := ⟨_, rfl⟩
  rw [← hW]
  have HW0 := Lib.hid hW
  clear hW
  have hmul : es.length * cs.length ≤ 40 * 262144 := Nat.mul_le_mul he40 hcs
  go_enter Tryz.func85, Tryz.ntmps85
  go_wp2_with fail
  go_loopw [7, 15] (fun o i wr => ∃ (j c : Nat) (a : Option Addr) (l : List WalkR), j ≤ es.length ∧ i = .int .i64 j ∧ o = .slice a l.length c ∧ Hid (l = onL (es.take j) cs W) ∧ Hid (WalksW wr (w.heap.size + 1 + 1) wr.heap.size (.slice a l.length c) l) ∧ Box wr (w.heap.size + 1) #[.int .i64 (k0 : Int), .int .i64 x1, .int .i64 x2, .int .i64 x3] 57 ∧ Fr w wr) (fun _ i _ => es.length - (intOf i).toNat)
  case atStart => exact ⟨0, 0, none, [], Nat.zero_le _, rfl, rfl, Lib.hid (by simp [onL]), Lib.hid (WalksW.nil _ _ _), Box.new' (by simp), by exact Qf⟩
  case round =>
    obtain ⟨j, c, a, l, hj, rfl, rfl, HE, HO, hB, hfr⟩ := hrel
    have FB := hB.facts
    have zr := hfr.size
    by_cases hlt : j < es.length
    · obtain ⟨rfl, hb, hf⟩ := HE0.out (by omega)
      obtain ⟨g0, g1, g2⟩ := hf j hlt
      have hskip := onL_skip (cs := cs) (w := W) hlt
      have hhit := onL_hit (cs := cs) (w := W) hlt
      obtain ⟨x, hx⟩ : ∃ x, edgeAt es j = x := ⟨_, rfl⟩
      rw [hx] at g0 g1 g2 hskip hhit
      obtain ⟨e0, e1, e2⟩ := x
      have he1 := e1.toNat_lt
      simp only [] at g0 g1 g2 hskip hhit
      have q0 := (hfr.cell (p := ⟨be, _, none⟩) hb).trans g0
      have q1 := (hfr.cell (p := ⟨be, _, none⟩) hb).trans g1
      have q2 := (hfr.cell (p := ⟨be, _, none⟩) hb).trans g2
      have HX := Lib.hid hx
      rw [HW0.out] at hskip hhit
      simp only [] at hskip hhit
      rw [← HW0.out] at hskip hhit
      have HSK := Lib.hid hskip
      have HHI := Lib.hid hhit
      clear hf g0 g1 g2 hx hskip hhit
      by_cases hm : e0 = x2
      · have qm : (e0 != x2) = false := by simpa using hm
        have HM := Lib.hid (HHI.out hm)
        have p1 := HQ1.out _ (show Fr w wr from hfr)
        have hbaw : ba < wr.heap.size := Nat.lt_of_lt_of_le hba zr
        clear HSK HHI
        have HM0 := Lib.hid hm
        clear hm
        go_wp2_with fail
        obtain ⟨wo, rfl⟩ : ∃ wo : World, wo = wr := ⟨_, rfl⟩
        go_loopw [7, 31] (fun o i wr => ∃ (k c : Nat) (a : Option Addr) (l : List WalkR), k ≤ cs.length ∧ i = .int .i64 k ∧ o = .slice a l.length c ∧ Hid (l = onTo es cs W j k) ∧ Hid (WalksW wr (w.heap.size + 1 + 1) wr.heap.size (.slice a l.length c) l) ∧ Hid ((Value.slice a l.length c).ownBlock ≠ some wo.heap.size) ∧ wo.heap.size < wr.heap.size ∧ Box wr (w.heap.size + 1) #[.int .i64 (k0 : Int), .int .i64 x1, .int .i64 x2, .int .i64 x3] 57 ∧ Box wr wo.heap.size #[.int .i64 e0, .int .u8 (e1.toNat : Int), .int .i64 e2] 184 ∧ Fr w wr) (fun _ i _ => cs.length - (intOf i).toNat)
        case atStart => exact ⟨0, c, a, l, Nat.zero_le _, rfl, rfl, Lib.hid (by rw [onTo_0]; exact HE.out), Lib.hid (OwW.mono (OwW.alloc HO.out _) (Nat.le_refl _) (by simp)), Lib.hid (fun e => by have := HO.out.2 _ e; omega), by simp, hB.alloc _, Box.new _ _ _, by exact Qf⟩
        case round =>
          clear HE HO hB FB zr hfr q0 q1 q2 p1
          obtain ⟨k, c, a, l, hk, rfl, rfl, HE, HO, HNE, hwo, hB, hBE, hfr⟩ := hrel
          have FB := hB.facts
          have FE := hBE.facts
          have zr := hfr.size
          have hll : l.length ≤ 10485760 := by
            rw [HE.out]
            have := onTo_len (es := es) (cs := cs) (w := W) (k := k) hlt
            omega
          by_cases hltk : k < cs.length
          · obtain ⟨rfl, hbc, hfc⟩ := HC0.out (by omega)
            obtain ⟨g0, g1, g2⟩ := hfc k hltk
            have hst := onTo_step (es := es) (w := W) (i := j) hltk
            obtain ⟨y, hy⟩ : ∃ y, edgeAt cs k = y := ⟨_, rfl⟩
            rw [hy, HX.out] at hst
            rw [hy] at g0 g1 g2
            obtain ⟨c0, c1, c2⟩ := y
            have hc1 := c1.toNat_lt
            simp only [] at g0 g1 g2
            have q0 := (hfr.cell (p := ⟨bc, _, none⟩) hbc).trans g0
            have q1 := (hfr.cell (p := ⟨bc, _, none⟩) hbc).trans g1
            have q2 := (hfr.cell (p := ⟨bc, _, none⟩) hbc).trans g2
            have HST := Lib.hid hst
            clear hfc g0 g1 g2 hy hst
            by_cases h3 : c0 = x3
            · have t3 : (c0 == x3) = true := by simpa using h3
              by_cases h1 : c1 = e1
              · have t1 : ((c1.toNat : Int) == (e1.toNat : Int)) = true := by simpa using (byte_eq.2 h1)
                have HS : Hid (l ++ [⟨(k0 : Int), x1, e2, c2⟩] = onTo es cs W j (k + 1)) := Lib.hid (by rw [HST.out, HE.out, HW0.out]; simp [arcOn, h3, h1])
                have HLN := Lib.hid (show (l ++ [(⟨(k0 : Int), x1, e2, c2⟩ : WalkR)]).length = l.length + 1 by simp)
                have HCA := Lib.hid (wlk_snoc l ⟨(k0 : Int), x1, e2, c2⟩)
                clear h3 h1
                go_wp2_with (at_builtin; refine wpList_append_rd rfl _ _ 37 rfl (w.heap.size + 1 + 1) 57 i0 (.agg #[.int .i64 0, .int .i64 0, .int .i64 0, .int .i64 0]) 4 32 Tryz.underlying37 hi hz0 hz1 hz2 rfl (by decide) (.slice a l.length c) l.length (l.flatMap WalkR.cells) rfl (World.ownsRow.alloc (HO.out.1.alloc _) _) _ 1 [.int .i64 (k0 : Int), .int .i64 x1, .int .i64 e2, .int .i64 c2] rfl (RdS.new (by first | rfl | (simp; done)) rfl) (by simp [Value.oneCell']) (by unfold maxLen; omega) (by omega) (by exact Qz) ?_; intro a6 c6 w6 hown hgrow hat)
                have z6 := hgrow.size
                (try simp only [World.size_alloc, World.size_drew] at z6)
                have hB6 := Box.gr ((hB.alloc _).alloc _) hgrow (fun e => by have := HO.out.2 _ e; omega)
                have hE6 := Box.gr ((hBE.alloc _).alloc _) hgrow HNE.out
                have hf6 : Fr w w6 := Fr.app (by exact Qf) hgrow HO.out.2 (by omega)
                have HN6 : Hid ((Value.slice a6 (l ++ [(⟨(k0 : Int), x1, e2, c2⟩ : WalkR)]).length c6).ownBlock ≠ some wo.heap.size) := Lib.hid (by
                  rw [HLN.out]
                  rcases hat with e | e
                  · rw [e]; exact HNE.out
                  · rw [e]; simp; omega)
                have HW6 : Hid (WalksW w6 (w.heap.size + 1 + 1) w6.heap.size (.slice a6 (l ++ [(⟨(k0 : Int), x1, e2, c2⟩ : WalkR)]).length c6) (l ++ [⟨(k0 : Int), x1, e2, c2⟩])) := Lib.hid (by
                  have := OwW.of_owns hown
                  rw [← HCA.out, ← HLN.out] at this
                  exact this)
                go_wp2_with fail
                go_roundw
                case rel => exact ⟨k + 1, c6, a6, l ++ [⟨(k0 : Int), x1, e2, c2⟩], by omega, by go_num, by rw [HLN.out], HS, HW6, HN6, by omega, hB6, hE6, hf6⟩
                case measure => (simp [intOf]; omega)
              · have t1 : ((c1.toNat : Int) == (e1.toNat : Int)) = false := by simp; exact fun h => h1 (byte_eq.1 (by omega))
                have HS : Hid (l = onTo es cs W j (k + 1)) := Lib.hid (by rw [HST.out, HE.out]; simp [arcOn, h1])
                clear h3 h1
                go_wp2_with fail
                go_roundw
                case rel => exact ⟨k + 1, c, a, l, by omega, by go_num, rfl, HS, Lib.hid (OwW.mono (OwW.alloc HO.out _) (Nat.le_refl _) (by simp)), HNE, by simp; omega, hB.alloc _, hBE.alloc _, by exact Qf⟩
                case measure => (simp [intOf]; omega)
            · have t3 : (c0 == x3) = false := by simpa using h3
              have HS : Hid (l = onTo es cs W j (k + 1)) := Lib.hid (by rw [HST.out, HE.out, HW0.out]; simp [arcOn, h3])
              clear h3
              go_wp2_with fail
              go_roundw
              case rel => exact ⟨k + 1, c, a, l, by omega, by go_num, rfl, HS, Lib.hid (OwW.mono (OwW.alloc HO.out _) (Nat.le_refl _) (by simp)), HNE, by simp; omega, hB.alloc _, hBE.alloc _, by exact Qf⟩
              case measure => (simp [intOf]; omega)
          · obtain rfl : k = cs.length := by omega
            go_wp2_with fail
            go_roundw
            case rel => exact ⟨j + 1, c, a, l, by omega, by go_num, rfl, Lib.hid (by rw [HE.out, HM.out]), HO, hB, hfr⟩
            case measure => (simp [intOf]; omega)
      · have qm : (e0 != x2) = true := by simpa using hm
        have HS := Lib.hid (HSK.out hm)
        clear hm HSK HHI
        go_wp2_with fail
        go_roundw
        case rel => exact ⟨j + 1, c, a, l, by omega, by go_num, rfl, Lib.hid (by rw [HE.out, HS.out]), Lib.hid (OwW.mono (OwW.alloc HO.out _) (Nat.le_refl _) (by simp)), hB.alloc _, by exact Qf⟩
        case measure => (simp [intOf]; omega)
    · obtain rfl : j = es.length := by omega
      have HS : Hid (onL es cs W = l) := Lib.hid (by rw [HE.out, List.take_length])
      go_wp2_with fail
      go_ret
      refine ⟨_, _, by rw [HS.out]; try rfl, ?_, hfr⟩
      rw [HS.out]
      exact OwW.mono HO.out (by omega) (Nat.le_refl _)
end Go.Proofs.YtmdgdnkllclpcaaGreat
