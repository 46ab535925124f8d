/- PairRight of both. No condition. -/
import Derived.Test.YtfokiabkebpblaaPair
namespace Go.Proofs.Ytfokiabkebpblaa
open Go.RowKit
set_option linter.unusedVariables false
set_option linter.unusedSimpArgs false

theorem StrsR.take {w : World} {ao : Option Addr} {n cap : Nat} {ss : List ByteArray} (h : StrsR w (.slice ao n cap) ss) (m : Nat) (hm : m ≤ ss.length) : StrsR w (.slice ao m cap) (ss.take m) := by
  obtain ⟨h1, ao', cap', hv, h2, h3, h4⟩ := h
  cases hv
  have hl : (ss.take m).length = m := by simp; omega
  refine ⟨by simp, ao, cap, by rw [hl], by rw [hl]; omega, h3, fun hn => ?_⟩
  rw [hl] at hn
  obtain ⟨b, o, hb, hs, hc⟩ := h4 (by omega)
  refine ⟨b, o, hb, hs, fun j hj => ?_⟩
  rw [hl] at hj
  rw [hc j (by omega)]
  rw [List.getElem?_map, List.getElem?_map, List.getElem?_take_of_lt (by omega)]
def sideRight (h : List ByteArray) (z o : LinkD) : Bool := decide ((h.length : Int) = z.f2) && decide (h.length ≤ o.f0.length) && decide (h = o.f0.take h.length) && decide (o.f1 ≤ h.length)
def pairRightB (d : PairD) : Bool := decide (d.f0.length = 2) && decide (d.f2.length = 2) && sideRight (nAt d.f2 0) (nAt d.f0 0) (nAt d.f0 1) && sideRight (nAt d.f2 1) (nAt d.f0 1) (nAt d.f0 0)
theorem pairRightB_no (d : PairD) (h : ¬ (d.f0.length = 2 ∧ d.f2.length = 2)) : pairRightB d = false := by
  unfold pairRightB
  by_cases h0 : d.f0.length = 2
  · rw [decide_eq_false (fun h2 => h ⟨h0, h2⟩)]; simp
  · rw [decide_eq_false h0]; simp
theorem right_at {p : Nat → Nat → Bool} (k : Nat) (hk : k < 2) (h : p k (1 - k) = false) : (p 0 1 && p 1 0) = false := done_at true true k hk h
set_option maxHeartbeats 4000000 in
set_option maxRecDepth 100000 in
theorem specPairRight_any (v : Value) (d : PairD) (w : World) (hv : PairRd w v d) :
    Calls Try.prog 56 #[v] w fun e w' => e = .returned (.bool (pairRightB d)) ∧ Fr w w' := by
  obtain ⟨u0, u1, u2, u3, rfl, r0, r1, r2, r3⟩ := hv
  obtain ⟨ae, be, oe, ce, rfl, hce, hme, fe⟩ := LinkSR.one r0
  obtain ⟨ah, bh, oh, ch, rfl, hch, hmh, fh⟩ := StringSSR.one r2
  clear r0 r1 r2 r3
  by_cases hl : d.f0.length = 2 ∧ d.f2.length = 2
  · obtain ⟨hl0, hl2⟩ := hl
    obtain ⟨rfl, hbe, fe⟩ := fe (by omega)
    obtain ⟨rfl, hbh, fh⟩ := fh (by omega)
    have HD : Hid (pairRightB d = (sideRight (nAt d.f2 0) (nAt d.f0 0) (nAt d.f0 1) && sideRight (nAt d.f2 1) (nAt d.f0 1) (nAt d.f0 0))) := by unfold pairRightB; rw [decide_eq_true hl0, decide_eq_true hl2]; rfl
    rw [hl0] at fe hce ⊢
    rw [hl2] at fh hch ⊢
    clear hl0 hl2
    have FE := Lib.hid fe
    have FH := Lib.hid fh
    clear fe fh
    go_enter Try.func56, Try.ntmps56
    go_wp2
    go_loopw [3] (fun i wr => ∃ k : Nat, k ≤ 2 ∧ i = .int .i64 k ∧ Fr (w.alloc (.cells #[.slice (some ⟨be, oe, none⟩) 2 ce, u1, .slice (some ⟨bh, oh, none⟩) 2 ch, u3] 84)) wr ∧ Hid (∀ j, j < k → sideRight (nAt d.f2 j) (nAt d.f0 j) (nAt d.f0 (1 - j)) = true)) (fun i _ => 2 - (intOf i).toNat)
    case atStart => exact ⟨0, by omega, rfl, Fr.refl _, fun j hj => absurd hj (by omega)⟩
    case round =>
      obtain ⟨k, hk, rfl, hfr, hj⟩ := hrel
      have BX := (Box.new w #[.slice (some ⟨be, oe, none⟩) 2 ce, u1, .slice (some ⟨bh, oh, none⟩) 2 ch, u3] 84).fr hfr
      have FX := BX.facts
      have hfw : Fr w wr := (Fr.refl w).alloc _ |>.trans hfr
      by_cases hlt : k < 2
      · obtain ⟨m, hm, hm2⟩ : ∃ m : Nat, (1 : Int) - (k : Int) = m ∧ m < 2 := ⟨1 - k, by omega, by omega⟩
        obtain ⟨a1, ra, g0, g1, g2⟩ := FE.out m hm2
        obtain ⟨a2, rb, gh⟩ := FH.out k hlt
        obtain ⟨x, hx⟩ : ∃ x, nAt d.f0 m = x := ⟨_, rfl⟩
        obtain ⟨y, hy⟩ : ∃ y, nAt d.f2 k = y := ⟨_, rfl⟩
        rw [hx] at ra g1 g2
        rw [hy] at rb
        have hmk : 1 - k = m := by omega
        have HX : Hid (nAt d.f0 (1 - k) = x) := by rw [hmk]; exact hx
        have HY := Lib.hid hy
        clear hx hy
        have hw : IntKind.i64.wrap (1 - (k : Int)) = (m : Int) := by rw [hm]; exact IntWalk.i64_in _ (by omega)
        obtain ⟨a3, rz, e0, e1, e2⟩ := FE.out k hlt
        obtain ⟨z, hz⟩ : ∃ z, nAt d.f0 k = z := ⟨_, rfl⟩
        rw [hz] at rz e1 e2
        have HZ := Lib.hid hz
        clear hz rz
        obtain ⟨ao1, cap1, rfl, hnil1⟩ := RdS.val ra
        have hcap1 : x.f0.length ≤ cap1 ∧ cap1 ≤ 9223372036854775807 := by
          obtain ⟨_, _, _, hv', h2, h3, _⟩ := ra
          cases hv'
          exact ⟨h2, by unfold maxLen at h3; omega⟩
        obtain ⟨ao2, cap2, rfl, _⟩ := RdS.val rb
        have c0 : wr.cell? ⟨be, oe + m * 3, none⟩ = some (.slice ao1 x.f0.length cap1) := (hfw.cell (p := ⟨be, _, none⟩) hbe).trans g0
        have c1 : wr.cell? ⟨be, oe + m * 3 + 1, none⟩ = some (.int .i64 x.f1) := (hfw.cell (p := ⟨be, _, none⟩) hbe).trans g1
        have c2 : wr.cell? ⟨be, oe + m * 3 + 2, none⟩ = some (.int .i64 x.f2) := (hfw.cell (p := ⟨be, _, none⟩) hbe).trans g2
        have k2 : wr.cell? ⟨be, oe + k * 3 + 2, none⟩ = some (.int .i64 z.f2) := (hfw.cell (p := ⟨be, _, none⟩) hbe).trans e2
        have gh' : wr.cell? ⟨bh, oh + k, none⟩ = some (.slice ao2 y.length cap2) := (hfw.cell (p := ⟨bh, _, none⟩) hbh).trans gh
        have RA := Lib.hid (RdS.fr ra hfw)
        have RB := Lib.hid (RdS.fr rb hfw)
        clear ra rb
        have hyl : y.length ≤ 9223372036854775807 := by have := RB.out.le; exact this
        by_cases p1 : (y.length : Int) = z.f2
        · have q1 : ((y.length : Int) != z.f2) = false := by simpa using p1
          have HP1 := Lib.hid p1
          by_cases p2 : y.length ≤ x.f0.length
          · have HP2 := Lib.hid p2
            have htn : ((y.length : Int)).toNat = y.length := by simp
            have htn2 : (z.f2).toNat = y.length := by rw [← p1]; simp
            by_cases p3 : y = x.f0.take y.length
            · have CT : Hid (∀ w', Fr wr w' → Calls Try.prog 119 #[.slice ao2 y.length cap2, .slice ao1 y.length cap1] w' fun e w'' => e = .returned (.bool true) ∧ ∃ m, w'' = w'.drewN m) :=
                fun w' hf => (l08Texts_any _ _ y (x.f0.take y.length) w' (RdS.fr RB.out hf) ((StrsR.take RA.out y.length p2).fr hf)).mono fun e w'' h => ⟨by rw [h.1, decide_eq_true p3], h.2⟩
              have HP3 := Lib.hid p3
              clear p3
              by_cases p4 : x.f1 ≤ y.length
              · have HP4 := Lib.hid p4
                cases ao1 with
                | none =>
                  have hx0 : x.f0.length = 0 := hnil1 rfl
                  go_wp2_with (go_at_call 119; refine (CT.out _ (by repeat (first | (with_reducible exact Fr.refl _) | (with_reducible assumption) | (with_reducible refine Fr.drewN ?_ _) | (with_reducible refine Fr.drew ?_) | (with_reducible refine Fr.alloc ?_ _) | (with_reducible refine Fr.setCell ?_ (by (first | (with_reducible assumption) | omega | (simp only [World.size_alloc, World.size_setCell, World.size_drew, World.heap_drewN]; omega) | (simp; done) | (simp; omega))) _) | (with_reducible refine Fr.trans ?_ (by with_reducible assumption))))).mono ?_; rintro e w7 ⟨rfl, md, rfl⟩)
                  go_roundw
                  case rel => exact ⟨k + 1, by omega, by go_num, by repeat (first | (with_reducible exact Fr.refl _) | (with_reducible assumption) | (with_reducible refine Fr.drewN ?_ _) | (with_reducible refine Fr.drew ?_) | (with_reducible refine Fr.alloc ?_ _) | (with_reducible refine Fr.setCell ?_ (by (first | (with_reducible assumption) | omega | (simp only [World.size_alloc, World.size_setCell, World.size_drew, World.heap_drewN]; omega) | (simp; done) | (simp; omega))) _) | (with_reducible refine Fr.trans ?_ (by with_reducible assumption))), fun j h => by
                    rcases Nat.lt_succ_iff_lt_or_eq.1 h with h | rfl
                    · exact hj.out j h
                    · rw [HX.out, HY.out, HZ.out]; unfold sideRight; rw [decide_eq_true HP1.out, decide_eq_true HP2.out, decide_eq_true HP3.out, decide_eq_true HP4.out]; rfl⟩
                  case measure => (simp [intOf]; omega)
                | some ad =>
                  go_wp2_with (go_at_call 119; refine (CT.out _ (by repeat (first | (with_reducible exact Fr.refl _) | (with_reducible assumption) | (with_reducible refine Fr.drewN ?_ _) | (with_reducible refine Fr.drew ?_) | (with_reducible refine Fr.alloc ?_ _) | (with_reducible refine Fr.setCell ?_ (by (first | (with_reducible assumption) | omega | (simp only [World.size_alloc, World.size_setCell, World.size_drew, World.heap_drewN]; omega) | (simp; done) | (simp; omega))) _) | (with_reducible refine Fr.trans ?_ (by with_reducible assumption))))).mono ?_; rintro e w7 ⟨rfl, md, rfl⟩)
                  go_roundw
                  case rel => exact ⟨k + 1, by omega, by go_num, by repeat (first | (with_reducible exact Fr.refl _) | (with_reducible assumption) | (with_reducible refine Fr.drewN ?_ _) | (with_reducible refine Fr.drew ?_) | (with_reducible refine Fr.alloc ?_ _) | (with_reducible refine Fr.setCell ?_ (by (first | (with_reducible assumption) | omega | (simp only [World.size_alloc, World.size_setCell, World.size_drew, World.heap_drewN]; omega) | (simp; done) | (simp; omega))) _) | (with_reducible refine Fr.trans ?_ (by with_reducible assumption))), fun j h => by
                    rcases Nat.lt_succ_iff_lt_or_eq.1 h with h | rfl
                    · exact hj.out j h
                    · rw [HX.out, HY.out, HZ.out]; unfold sideRight; rw [decide_eq_true HP1.out, decide_eq_true HP2.out, decide_eq_true HP3.out, decide_eq_true HP4.out]; rfl⟩
                  case measure => (simp [intOf]; omega)
              · have HNO : Hid (sideRight y z x = false) := by unfold sideRight; rw [decide_eq_false p4, Bool.and_false]; exact rfl
                cases ao1 with
                | none =>
                  have hx0 : x.f0.length = 0 := hnil1 rfl
                  go_wp2_with (go_at_call 119; refine (CT.out _ (by repeat (first | (with_reducible exact Fr.refl _) | (with_reducible assumption) | (with_reducible refine Fr.drewN ?_ _) | (with_reducible refine Fr.drew ?_) | (with_reducible refine Fr.alloc ?_ _) | (with_reducible refine Fr.setCell ?_ (by (first | (with_reducible assumption) | omega | (simp only [World.size_alloc, World.size_setCell, World.size_drew, World.heap_drewN]; omega) | (simp; done) | (simp; omega))) _) | (with_reducible refine Fr.trans ?_ (by with_reducible assumption))))).mono ?_; rintro e w7 ⟨rfl, md, rfl⟩)
                  all_goals (go_ret; exact ⟨ret_bool (by rw [HD.out]; symm; refine right_at (p := fun i j => sideRight (nAt d.f2 i) (nAt d.f0 i) (nAt d.f0 j)) k hlt ?_; show sideRight _ _ _ = false; rw [HX.out, HY.out, HZ.out]; exact HNO.out), by repeat (first | (with_reducible exact Fr.refl _) | (with_reducible assumption) | (with_reducible refine Fr.drewN ?_ _) | (with_reducible refine Fr.drew ?_) | (with_reducible refine Fr.alloc ?_ _) | (with_reducible refine Fr.setCell ?_ (by (first | (with_reducible assumption) | omega | (simp only [World.size_alloc, World.size_setCell, World.size_drew, World.heap_drewN]; omega) | (simp; done) | (simp; omega))) _) | (with_reducible refine Fr.trans ?_ (by with_reducible assumption)))⟩)
                | some ad =>
                  go_wp2_with (go_at_call 119; refine (CT.out _ (by repeat (first | (with_reducible exact Fr.refl _) | (with_reducible assumption) | (with_reducible refine Fr.drewN ?_ _) | (with_reducible refine Fr.drew ?_) | (with_reducible refine Fr.alloc ?_ _) | (with_reducible refine Fr.setCell ?_ (by (first | (with_reducible assumption) | omega | (simp only [World.size_alloc, World.size_setCell, World.size_drew, World.heap_drewN]; omega) | (simp; done) | (simp; omega))) _) | (with_reducible refine Fr.trans ?_ (by with_reducible assumption))))).mono ?_; rintro e w7 ⟨rfl, md, rfl⟩)
                  all_goals (go_ret; exact ⟨ret_bool (by rw [HD.out]; symm; refine right_at (p := fun i j => sideRight (nAt d.f2 i) (nAt d.f0 i) (nAt d.f0 j)) k hlt ?_; show sideRight _ _ _ = false; rw [HX.out, HY.out, HZ.out]; exact HNO.out), by repeat (first | (with_reducible exact Fr.refl _) | (with_reducible assumption) | (with_reducible refine Fr.drewN ?_ _) | (with_reducible refine Fr.drew ?_) | (with_reducible refine Fr.alloc ?_ _) | (with_reducible refine Fr.setCell ?_ (by (first | (with_reducible assumption) | omega | (simp only [World.size_alloc, World.size_setCell, World.size_drew, World.heap_drewN]; omega) | (simp; done) | (simp; omega))) _) | (with_reducible refine Fr.trans ?_ (by with_reducible assumption)))⟩)
            · have CT : Hid (∀ w', Fr wr w' → Calls Try.prog 119 #[.slice ao2 y.length cap2, .slice ao1 y.length cap1] w' fun e w'' => e = .returned (.bool false) ∧ ∃ m, w'' = w'.drewN m) :=
                fun w' hf => (l08Texts_any _ _ y (x.f0.take y.length) w' (RdS.fr RB.out hf) ((StrsR.take RA.out y.length p2).fr hf)).mono fun e w'' h => ⟨by rw [h.1, decide_eq_false p3], h.2⟩
              have HNO : Hid (sideRight y z x = false) := by unfold sideRight; rw [decide_eq_false p3, Bool.and_false, Bool.false_and]; exact rfl
              clear p3
              cases ao1 with
              | none =>
                have hx0 : x.f0.length = 0 := hnil1 rfl
                go_wp2_with (go_at_call 119; refine (CT.out _ (by repeat (first | (with_reducible exact Fr.refl _) | (with_reducible assumption) | (with_reducible refine Fr.drewN ?_ _) | (with_reducible refine Fr.drew ?_) | (with_reducible refine Fr.alloc ?_ _) | (with_reducible refine Fr.setCell ?_ (by (first | (with_reducible assumption) | omega | (simp only [World.size_alloc, World.size_setCell, World.size_drew, World.heap_drewN]; omega) | (simp; done) | (simp; omega))) _) | (with_reducible refine Fr.trans ?_ (by with_reducible assumption))))).mono ?_; rintro e w7 ⟨rfl, md, rfl⟩)
                all_goals (go_ret; exact ⟨ret_bool (by rw [HD.out]; symm; refine right_at (p := fun i j => sideRight (nAt d.f2 i) (nAt d.f0 i) (nAt d.f0 j)) k hlt ?_; show sideRight _ _ _ = false; rw [HX.out, HY.out, HZ.out]; exact HNO.out), by repeat (first | (with_reducible exact Fr.refl _) | (with_reducible assumption) | (with_reducible refine Fr.drewN ?_ _) | (with_reducible refine Fr.drew ?_) | (with_reducible refine Fr.alloc ?_ _) | (with_reducible refine Fr.setCell ?_ (by (first | (with_reducible assumption) | omega | (simp only [World.size_alloc, World.size_setCell, World.size_drew, World.heap_drewN]; omega) | (simp; done) | (simp; omega))) _) | (with_reducible refine Fr.trans ?_ (by with_reducible assumption)))⟩)
              | some ad =>
                go_wp2_with (go_at_call 119; refine (CT.out _ (by repeat (first | (with_reducible exact Fr.refl _) | (with_reducible assumption) | (with_reducible refine Fr.drewN ?_ _) | (with_reducible refine Fr.drew ?_) | (with_reducible refine Fr.alloc ?_ _) | (with_reducible refine Fr.setCell ?_ (by (first | (with_reducible assumption) | omega | (simp only [World.size_alloc, World.size_setCell, World.size_drew, World.heap_drewN]; omega) | (simp; done) | (simp; omega))) _) | (with_reducible refine Fr.trans ?_ (by with_reducible assumption))))).mono ?_; rintro e w7 ⟨rfl, md, rfl⟩)
                all_goals (go_ret; exact ⟨ret_bool (by rw [HD.out]; symm; refine right_at (p := fun i j => sideRight (nAt d.f2 i) (nAt d.f0 i) (nAt d.f0 j)) k hlt ?_; show sideRight _ _ _ = false; rw [HX.out, HY.out, HZ.out]; exact HNO.out), by repeat (first | (with_reducible exact Fr.refl _) | (with_reducible assumption) | (with_reducible refine Fr.drewN ?_ _) | (with_reducible refine Fr.drew ?_) | (with_reducible refine Fr.alloc ?_ _) | (with_reducible refine Fr.setCell ?_ (by (first | (with_reducible assumption) | omega | (simp only [World.size_alloc, World.size_setCell, World.size_drew, World.heap_drewN]; omega) | (simp; done) | (simp; omega))) _) | (with_reducible refine Fr.trans ?_ (by with_reducible assumption)))⟩)
          · have HNO : Hid (sideRight y z x = false) := by unfold sideRight; rw [decide_eq_false p2, Bool.and_false, Bool.false_and, Bool.false_and]; exact rfl
            go_wp2_with fail
            all_goals (go_ret; exact ⟨ret_bool (by rw [HD.out]; symm; refine right_at (p := fun i j => sideRight (nAt d.f2 i) (nAt d.f0 i) (nAt d.f0 j)) k hlt ?_; show sideRight _ _ _ = false; rw [HX.out, HY.out, HZ.out]; exact HNO.out), by repeat (first | (with_reducible exact Fr.refl _) | (with_reducible assumption) | (with_reducible refine Fr.drewN ?_ _) | (with_reducible refine Fr.drew ?_) | (with_reducible refine Fr.alloc ?_ _) | (with_reducible refine Fr.setCell ?_ (by (first | (with_reducible assumption) | omega | (simp only [World.size_alloc, World.size_setCell, World.size_drew, World.heap_drewN]; omega) | (simp; done) | (simp; omega))) _) | (with_reducible refine Fr.trans ?_ (by with_reducible assumption)))⟩)
        · have q1 : ((y.length : Int) != z.f2) = true := by simpa using p1
          have HNO : Hid (sideRight y z x = false) := by unfold sideRight; rw [decide_eq_false p1, Bool.false_and, Bool.false_and, Bool.false_and]; exact rfl
          go_wp2_with fail
          all_goals (go_ret; exact ⟨ret_bool (by rw [HD.out]; symm; refine right_at (p := fun i j => sideRight (nAt d.f2 i) (nAt d.f0 i) (nAt d.f0 j)) k hlt ?_; show sideRight _ _ _ = false; rw [HX.out, HY.out, HZ.out]; exact HNO.out), by repeat (first | (with_reducible exact Fr.refl _) | (with_reducible assumption) | (with_reducible refine Fr.drewN ?_ _) | (with_reducible refine Fr.drew ?_) | (with_reducible refine Fr.alloc ?_ _) | (with_reducible refine Fr.setCell ?_ (by (first | (with_reducible assumption) | omega | (simp only [World.size_alloc, World.size_setCell, World.size_drew, World.heap_drewN]; omega) | (simp; done) | (simp; omega))) _) | (with_reducible refine Fr.trans ?_ (by with_reducible assumption)))⟩)
      · obtain rfl : k = 2 := by omega
        go_wp2_with fail
        go_ret
        exact ⟨ret_bool (by rw [HD.out, hj.out 0 (by omega), hj.out 1 (by omega)]; rfl), by repeat (first | (with_reducible exact Fr.refl _) | (with_reducible assumption) | (with_reducible refine Fr.drewN ?_ _) | (with_reducible refine Fr.drew ?_) | (with_reducible refine Fr.alloc ?_ _) | (with_reducible refine Fr.setCell ?_ (by (first | (with_reducible assumption) | omega | (simp only [World.size_alloc, World.size_setCell, World.size_drew, World.heap_drewN]; omega) | (simp; done) | (simp; omega))) _) | (with_reducible refine Fr.trans ?_ (by with_reducible assumption)))⟩
  · go_enter Try.func56, Try.ntmps56
    go_wp2
    all_goals go_ret
    all_goals exact ⟨ret_bool (by symm; rw [pairRightB_no _ hl]), by repeat (first | (with_reducible exact Fr.refl _) | (with_reducible assumption) | (with_reducible refine Fr.drewN ?_ _) | (with_reducible refine Fr.drew ?_) | (with_reducible refine Fr.alloc ?_ _) | (with_reducible refine Fr.setCell ?_ (by (first | (with_reducible assumption) | omega | (simp only [World.size_alloc, World.size_setCell, World.size_drew, World.heap_drewN]; omega) | (simp; done) | (simp; omega))) _) | (with_reducible refine Fr.trans ?_ (by with_reducible assumption)))⟩
set_option maxHeartbeats 4000000 in
set_option maxRecDepth 100000 in
theorem implPairRight_any (v : Value) (d : PairD) (w : World) (hv : PairRd w v d) :
    Calls Try.prog 57 #[v] w fun e w' => e = .returned (.bool (pairRightB d)) ∧ Fr w w' := by
  have HV := Lib.hid hv
  obtain ⟨u0, u1, u2, u3, rfl, r0, r1, r2, r3⟩ := hv
  obtain ⟨ae, be, oe, ce, rfl, hce, hme, fe⟩ := LinkSR.one r0
  obtain ⟨ah, bh, oh, ch, rfl, hch, hmh, fh⟩ := StringSSR.one r2
  clear r0 r1 r2 r3
  by_cases hl : d.f0.length = 2 ∧ d.f2.length = 2
  · have hip : decide (d.f0.length = 2 ∧ d.f2.length = 2) = true := decide_eq_true hl
    obtain ⟨hl0, hl2⟩ := hl
    obtain ⟨rfl, hbe, fe⟩ := fe (by omega)
    obtain ⟨rfl, hbh, fh⟩ := fh (by omega)
    have HD : Hid (pairRightB d = (sideRight (nAt d.f2 0) (nAt d.f0 0) (nAt d.f0 1) && sideRight (nAt d.f2 1) (nAt d.f0 1) (nAt d.f0 0))) := by unfold pairRightB; rw [decide_eq_true hl0, decide_eq_true hl2]; rfl
    have CT : Hid (∀ w', Fr w w' → Calls Try.prog 122 #[.agg #[.slice (some ⟨be, oe, none⟩) d.f0.length ce, u1, .slice (some ⟨bh, oh, none⟩) d.f2.length ch, u3]] w' fun e w'' => e = .returned (.bool true) ∧ Fr w' w'') :=
      fun w' hf => (isPair_any _ d w' (HV.out.fr hf)).mono fun e w'' h => ⟨by rw [h.1, hip], h.2⟩
    rw [hl0, hl2] at CT
    clear hip HV
    rw [hl0] at fe hce ⊢
    rw [hl2] at fh hch ⊢
    clear hl0 hl2
    have FE := Lib.hid fe
    have FH := Lib.hid fh
    clear fe fh
    go_enter Try.func57, Try.ntmps57
    go_wp2_with (go_at_call 122; refine (CT.out _ (by repeat (first | (with_reducible exact Fr.refl _) | (with_reducible assumption) | (with_reducible refine Fr.drewN ?_ _) | (with_reducible refine Fr.drew ?_) | (with_reducible refine Fr.alloc ?_ _) | (with_reducible refine Fr.setCell ?_ (by (first | (with_reducible assumption) | omega | (simp only [World.size_alloc, World.size_setCell, World.size_drew, World.heap_drewN]; omega) | (simp; done) | (simp; omega))) _) | (with_reducible refine Fr.trans ?_ (by with_reducible assumption))))).mono ?_; rintro e w0 ⟨rfl, hf0⟩; have k0 := hf0.blk w.heap.size (by (first | (with_reducible assumption) | omega | (simp only [World.size_alloc, World.size_setCell, World.size_drew, World.heap_drewN]; omega) | (simp; done) | (simp; omega))); have z1 := hf0.size; (try simp only [World.size_alloc, World.size_setCell, World.size_drew] at z1))
    have B0 := (Box.new w #[.slice (some ⟨be, oe, none⟩) 2 ce, u1, .slice (some ⟨bh, oh, none⟩) 2 ch, u3] 84).fr hf0
    go_loopw [13] (fun i wr => ∃ k : Nat, k ≤ 2 ∧ i = .int .i64 k ∧ Fr w0 wr ∧ Hid (∀ j, j < k → sideRight (nAt d.f2 j) (nAt d.f0 j) (nAt d.f0 (1 - j)) = true)) (fun i _ => 2 - (intOf i).toNat)
    case atStart => exact ⟨0, by omega, rfl, Fr.refl _, fun j hj => absurd hj (by omega)⟩
    case round =>
      obtain ⟨k, hk, rfl, hfr, hj⟩ := hrel
      have BX := B0.fr hfr
      have FX := BX.facts
      have hfw : Fr w wr := by repeat (first | (with_reducible exact Fr.refl _) | (with_reducible assumption) | (with_reducible refine Fr.drewN ?_ _) | (with_reducible refine Fr.drew ?_) | (with_reducible refine Fr.alloc ?_ _) | (with_reducible refine Fr.setCell ?_ (by (first | (with_reducible assumption) | omega | (simp only [World.size_alloc, World.size_setCell, World.size_drew, World.heap_drewN]; omega) | (simp; done) | (simp; omega))) _) | (with_reducible refine Fr.trans ?_ (by with_reducible assumption)))
      by_cases hlt : k < 2
      · obtain ⟨m, hm, hm2⟩ : ∃ m : Nat, (1 : Int) - (k : Int) = m ∧ m < 2 := ⟨1 - k, by omega, by omega⟩
        obtain ⟨a1, ra, g0, g1, g2⟩ := FE.out m hm2
        obtain ⟨a2, rb, gh⟩ := FH.out k hlt
        obtain ⟨x, hx⟩ : ∃ x, nAt d.f0 m = x := ⟨_, rfl⟩
        obtain ⟨y, hy⟩ : ∃ y, nAt d.f2 k = y := ⟨_, rfl⟩
        rw [hx] at ra g1 g2
        rw [hy] at rb
        have hmk : 1 - k = m := by omega
        have HX : Hid (nAt d.f0 (1 - k) = x) := by rw [hmk]; exact hx
        have HY := Lib.hid hy
        clear hx hy
        have hw : IntKind.i64.wrap (1 - (k : Int)) = (m : Int) := by rw [hm]; exact IntWalk.i64_in _ (by omega)
        obtain ⟨a3, rz, e0, e1, e2⟩ := FE.out k hlt
        obtain ⟨z, hz⟩ : ∃ z, nAt d.f0 k = z := ⟨_, rfl⟩
        rw [hz] at rz e1 e2
        have HZ := Lib.hid hz
        clear hz
        obtain ⟨ao3, cap3, rfl, _⟩ := RdS.val rz
        clear rz
        obtain ⟨ao1, cap1, rfl, hnil1⟩ := RdS.val ra
        have hcap1 : x.f0.length ≤ cap1 ∧ cap1 ≤ 9223372036854775807 := by
          obtain ⟨_, _, _, hv', h2, h3, _⟩ := ra
          cases hv'
          exact ⟨h2, by unfold maxLen at h3; omega⟩
        obtain ⟨ao2, cap2, rfl, _⟩ := RdS.val rb
        have c0 : wr.cell? ⟨be, oe + m * 3, none⟩ = some (.slice ao1 x.f0.length cap1) := (hfw.cell (p := ⟨be, _, none⟩) hbe).trans g0
        have c1 : wr.cell? ⟨be, oe + m * 3 + 1, none⟩ = some (.int .i64 x.f1) := (hfw.cell (p := ⟨be, _, none⟩) hbe).trans g1
        have c2 : wr.cell? ⟨be, oe + m * 3 + 2, none⟩ = some (.int .i64 x.f2) := (hfw.cell (p := ⟨be, _, none⟩) hbe).trans g2
        have k0 : wr.cell? ⟨be, oe + k * 3, none⟩ = some (.slice ao3 z.f0.length cap3) := (hfw.cell (p := ⟨be, _, none⟩) hbe).trans e0
        have k1 : wr.cell? ⟨be, oe + k * 3 + 1, none⟩ = some (.int .i64 z.f1) := (hfw.cell (p := ⟨be, _, none⟩) hbe).trans e1
        have k2 : wr.cell? ⟨be, oe + k * 3 + 2, none⟩ = some (.int .i64 z.f2) := (hfw.cell (p := ⟨be, _, none⟩) hbe).trans e2
        have hbe' : be < wr.heap.size := Nat.lt_of_lt_of_le hbe hfw.size
        have hbh' : bh < wr.heap.size := Nat.lt_of_lt_of_le hbh hfw.size
        have gh' : wr.cell? ⟨bh, oh + k, none⟩ = some (.slice ao2 y.length cap2) := (hfw.cell (p := ⟨bh, _, none⟩) hbh).trans gh
        have RA := Lib.hid (RdS.fr ra hfw)
        have RB := Lib.hid (RdS.fr rb hfw)
        clear ra rb
        have hyl : y.length ≤ 9223372036854775807 := by have := RB.out.le; exact this
        by_cases p1 : (y.length : Int) = z.f2
        · have q1 : ((y.length : Int) != z.f2) = false := by simpa using p1
          have HP1 := Lib.hid p1
          by_cases p2 : y.length ≤ x.f0.length
          · have HP2 := Lib.hid p2
            have htn : ((y.length : Int)).toNat = y.length := by simp
            have htn2 : (z.f2).toNat = y.length := by rw [← p1]; simp
            by_cases p3 : y = x.f0.take y.length
            · have CT : Hid (∀ w', Fr wr w' → Calls Try.prog 123 #[.slice ao2 y.length cap2, .slice ao1 y.length cap1] w' fun e w'' => e = .returned (.bool true) ∧ ∃ m, w'' = w'.drewN m) :=
                fun w' hf => (equalStr_any _ _ y (x.f0.take y.length) w' (RdS.fr RB.out hf) ((StrsR.take RA.out y.length p2).fr hf)).mono fun e w'' h => ⟨by rw [h.1, decide_eq_true p3], h.2⟩
              have HP3 := Lib.hid p3
              clear p3
              by_cases p4 : x.f1 ≤ y.length
              · have HP4 := Lib.hid p4
                cases ao1 with
                | none =>
                  have hx0 : x.f0.length = 0 := hnil1 rfl
                  go_wp2_with (go_at_call 123; refine (CT.out _ (by repeat (first | (with_reducible exact Fr.refl _) | (with_reducible assumption) | (with_reducible refine Fr.drewN ?_ _) | (with_reducible refine Fr.drew ?_) | (with_reducible refine Fr.alloc ?_ _) | (with_reducible refine Fr.setCell ?_ (by (first | (with_reducible assumption) | omega | (simp only [World.size_alloc, World.size_setCell, World.size_drew, World.heap_drewN]; omega) | (simp; done) | (simp; omega))) _) | (with_reducible refine Fr.trans ?_ (by with_reducible assumption))))).mono ?_; rintro e w7 ⟨rfl, md, rfl⟩)
                  go_roundw
                  case rel => exact ⟨k + 1, by omega, by go_num, by repeat (first | (with_reducible exact Fr.refl _) | (with_reducible assumption) | (with_reducible refine Fr.drewN ?_ _) | (with_reducible refine Fr.drew ?_) | (with_reducible refine Fr.alloc ?_ _) | (with_reducible refine Fr.setCell ?_ (by (first | (with_reducible assumption) | omega | (simp only [World.size_alloc, World.size_setCell, World.size_drew, World.heap_drewN]; omega) | (simp; done) | (simp; omega))) _) | (with_reducible refine Fr.trans ?_ (by with_reducible assumption))), fun j h => by
                    rcases Nat.lt_succ_iff_lt_or_eq.1 h with h | rfl
                    · exact hj.out j h
                    · rw [HX.out, HY.out, HZ.out]; unfold sideRight; rw [decide_eq_true HP1.out, decide_eq_true HP2.out, decide_eq_true HP3.out, decide_eq_true HP4.out]; rfl⟩
                  case measure => (simp [intOf]; omega)
                | some ad =>
                  go_wp2_with (go_at_call 123; refine (CT.out _ (by repeat (first | (with_reducible exact Fr.refl _) | (with_reducible assumption) | (with_reducible refine Fr.drewN ?_ _) | (with_reducible refine Fr.drew ?_) | (with_reducible refine Fr.alloc ?_ _) | (with_reducible refine Fr.setCell ?_ (by (first | (with_reducible assumption) | omega | (simp only [World.size_alloc, World.size_setCell, World.size_drew, World.heap_drewN]; omega) | (simp; done) | (simp; omega))) _) | (with_reducible refine Fr.trans ?_ (by with_reducible assumption))))).mono ?_; rintro e w7 ⟨rfl, md, rfl⟩)
                  go_roundw
                  case rel => exact ⟨k + 1, by omega, by go_num, by repeat (first | (with_reducible exact Fr.refl _) | (with_reducible assumption) | (with_reducible refine Fr.drewN ?_ _) | (with_reducible refine Fr.drew ?_) | (with_reducible refine Fr.alloc ?_ _) | (with_reducible refine Fr.setCell ?_ (by (first | (with_reducible assumption) | omega | (simp only [World.size_alloc, World.size_setCell, World.size_drew, World.heap_drewN]; omega) | (simp; done) | (simp; omega))) _) | (with_reducible refine Fr.trans ?_ (by with_reducible assumption))), fun j h => by
                    rcases Nat.lt_succ_iff_lt_or_eq.1 h with h | rfl
                    · exact hj.out j h
                    · rw [HX.out, HY.out, HZ.out]; unfold sideRight; rw [decide_eq_true HP1.out, decide_eq_true HP2.out, decide_eq_true HP3.out, decide_eq_true HP4.out]; rfl⟩
                  case measure => (simp [intOf]; omega)
              · have HNO : Hid (sideRight y z x = false) := by unfold sideRight; rw [decide_eq_false p4, Bool.and_false]; exact rfl
                cases ao1 with
                | none =>
                  have hx0 : x.f0.length = 0 := hnil1 rfl
                  go_wp2_with (go_at_call 123; refine (CT.out _ (by repeat (first | (with_reducible exact Fr.refl _) | (with_reducible assumption) | (with_reducible refine Fr.drewN ?_ _) | (with_reducible refine Fr.drew ?_) | (with_reducible refine Fr.alloc ?_ _) | (with_reducible refine Fr.setCell ?_ (by (first | (with_reducible assumption) | omega | (simp only [World.size_alloc, World.size_setCell, World.size_drew, World.heap_drewN]; omega) | (simp; done) | (simp; omega))) _) | (with_reducible refine Fr.trans ?_ (by with_reducible assumption))))).mono ?_; rintro e w7 ⟨rfl, md, rfl⟩)
                  all_goals (go_ret; exact ⟨ret_bool (by rw [HD.out]; symm; refine right_at (p := fun i j => sideRight (nAt d.f2 i) (nAt d.f0 i) (nAt d.f0 j)) k hlt ?_; show sideRight _ _ _ = false; rw [HX.out, HY.out, HZ.out]; exact HNO.out), by repeat (first | (with_reducible exact Fr.refl _) | (with_reducible assumption) | (with_reducible refine Fr.drewN ?_ _) | (with_reducible refine Fr.drew ?_) | (with_reducible refine Fr.alloc ?_ _) | (with_reducible refine Fr.setCell ?_ (by (first | (with_reducible assumption) | omega | (simp only [World.size_alloc, World.size_setCell, World.size_drew, World.heap_drewN]; omega) | (simp; done) | (simp; omega))) _) | (with_reducible refine Fr.trans ?_ (by with_reducible assumption)))⟩)
                | some ad =>
                  go_wp2_with (go_at_call 123; refine (CT.out _ (by repeat (first | (with_reducible exact Fr.refl _) | (with_reducible assumption) | (with_reducible refine Fr.drewN ?_ _) | (with_reducible refine Fr.drew ?_) | (with_reducible refine Fr.alloc ?_ _) | (with_reducible refine Fr.setCell ?_ (by (first | (with_reducible assumption) | omega | (simp only [World.size_alloc, World.size_setCell, World.size_drew, World.heap_drewN]; omega) | (simp; done) | (simp; omega))) _) | (with_reducible refine Fr.trans ?_ (by with_reducible assumption))))).mono ?_; rintro e w7 ⟨rfl, md, rfl⟩)
                  all_goals (go_ret; exact ⟨ret_bool (by rw [HD.out]; symm; refine right_at (p := fun i j => sideRight (nAt d.f2 i) (nAt d.f0 i) (nAt d.f0 j)) k hlt ?_; show sideRight _ _ _ = false; rw [HX.out, HY.out, HZ.out]; exact HNO.out), by repeat (first | (with_reducible exact Fr.refl _) | (with_reducible assumption) | (with_reducible refine Fr.drewN ?_ _) | (with_reducible refine Fr.drew ?_) | (with_reducible refine Fr.alloc ?_ _) | (with_reducible refine Fr.setCell ?_ (by (first | (with_reducible assumption) | omega | (simp only [World.size_alloc, World.size_setCell, World.size_drew, World.heap_drewN]; omega) | (simp; done) | (simp; omega))) _) | (with_reducible refine Fr.trans ?_ (by with_reducible assumption)))⟩)
            · have CT : Hid (∀ w', Fr wr w' → Calls Try.prog 123 #[.slice ao2 y.length cap2, .slice ao1 y.length cap1] w' fun e w'' => e = .returned (.bool false) ∧ ∃ m, w'' = w'.drewN m) :=
                fun w' hf => (equalStr_any _ _ y (x.f0.take y.length) w' (RdS.fr RB.out hf) ((StrsR.take RA.out y.length p2).fr hf)).mono fun e w'' h => ⟨by rw [h.1, decide_eq_false p3], h.2⟩
              have HNO : Hid (sideRight y z x = false) := by unfold sideRight; rw [decide_eq_false p3, Bool.and_false, Bool.false_and]; exact rfl
              clear p3
              cases ao1 with
              | none =>
                have hx0 : x.f0.length = 0 := hnil1 rfl
                go_wp2_with (go_at_call 123; refine (CT.out _ (by repeat (first | (with_reducible exact Fr.refl _) | (with_reducible assumption) | (with_reducible refine Fr.drewN ?_ _) | (with_reducible refine Fr.drew ?_) | (with_reducible refine Fr.alloc ?_ _) | (with_reducible refine Fr.setCell ?_ (by (first | (with_reducible assumption) | omega | (simp only [World.size_alloc, World.size_setCell, World.size_drew, World.heap_drewN]; omega) | (simp; done) | (simp; omega))) _) | (with_reducible refine Fr.trans ?_ (by with_reducible assumption))))).mono ?_; rintro e w7 ⟨rfl, md, rfl⟩)
                all_goals (go_ret; exact ⟨ret_bool (by rw [HD.out]; symm; refine right_at (p := fun i j => sideRight (nAt d.f2 i) (nAt d.f0 i) (nAt d.f0 j)) k hlt ?_; show sideRight _ _ _ = false; rw [HX.out, HY.out, HZ.out]; exact HNO.out), by repeat (first | (with_reducible exact Fr.refl _) | (with_reducible assumption) | (with_reducible refine Fr.drewN ?_ _) | (with_reducible refine Fr.drew ?_) | (with_reducible refine Fr.alloc ?_ _) | (with_reducible refine Fr.setCell ?_ (by (first | (with_reducible assumption) | omega | (simp only [World.size_alloc, World.size_setCell, World.size_drew, World.heap_drewN]; omega) | (simp; done) | (simp; omega))) _) | (with_reducible refine Fr.trans ?_ (by with_reducible assumption)))⟩)
              | some ad =>
                go_wp2_with (go_at_call 123; refine (CT.out _ (by repeat (first | (with_reducible exact Fr.refl _) | (with_reducible assumption) | (with_reducible refine Fr.drewN ?_ _) | (with_reducible refine Fr.drew ?_) | (with_reducible refine Fr.alloc ?_ _) | (with_reducible refine Fr.setCell ?_ (by (first | (with_reducible assumption) | omega | (simp only [World.size_alloc, World.size_setCell, World.size_drew, World.heap_drewN]; omega) | (simp; done) | (simp; omega))) _) | (with_reducible refine Fr.trans ?_ (by with_reducible assumption))))).mono ?_; rintro e w7 ⟨rfl, md, rfl⟩)
                all_goals (go_ret; exact ⟨ret_bool (by rw [HD.out]; symm; refine right_at (p := fun i j => sideRight (nAt d.f2 i) (nAt d.f0 i) (nAt d.f0 j)) k hlt ?_; show sideRight _ _ _ = false; rw [HX.out, HY.out, HZ.out]; exact HNO.out), by repeat (first | (with_reducible exact Fr.refl _) | (with_reducible assumption) | (with_reducible refine Fr.drewN ?_ _) | (with_reducible refine Fr.drew ?_) | (with_reducible refine Fr.alloc ?_ _) | (with_reducible refine Fr.setCell ?_ (by (first | (with_reducible assumption) | omega | (simp only [World.size_alloc, World.size_setCell, World.size_drew, World.heap_drewN]; omega) | (simp; done) | (simp; omega))) _) | (with_reducible refine Fr.trans ?_ (by with_reducible assumption)))⟩)
          · have HNO : Hid (sideRight y z x = false) := by unfold sideRight; rw [decide_eq_false p2, Bool.and_false, Bool.false_and, Bool.false_and]; exact rfl
            go_wp2_with fail
            all_goals (go_ret; exact ⟨ret_bool (by rw [HD.out]; symm; refine right_at (p := fun i j => sideRight (nAt d.f2 i) (nAt d.f0 i) (nAt d.f0 j)) k hlt ?_; show sideRight _ _ _ = false; rw [HX.out, HY.out, HZ.out]; exact HNO.out), by repeat (first | (with_reducible exact Fr.refl _) | (with_reducible assumption) | (with_reducible refine Fr.drewN ?_ _) | (with_reducible refine Fr.drew ?_) | (with_reducible refine Fr.alloc ?_ _) | (with_reducible refine Fr.setCell ?_ (by (first | (with_reducible assumption) | omega | (simp only [World.size_alloc, World.size_setCell, World.size_drew, World.heap_drewN]; omega) | (simp; done) | (simp; omega))) _) | (with_reducible refine Fr.trans ?_ (by with_reducible assumption)))⟩)
        · have q1 : ((y.length : Int) != z.f2) = true := by simpa using p1
          have HNO : Hid (sideRight y z x = false) := by unfold sideRight; rw [decide_eq_false p1, Bool.false_and, Bool.false_and, Bool.false_and]; exact rfl
          go_wp2_with fail
          all_goals (go_ret; exact ⟨ret_bool (by rw [HD.out]; symm; refine right_at (p := fun i j => sideRight (nAt d.f2 i) (nAt d.f0 i) (nAt d.f0 j)) k hlt ?_; show sideRight _ _ _ = false; rw [HX.out, HY.out, HZ.out]; exact HNO.out), by repeat (first | (with_reducible exact Fr.refl _) | (with_reducible assumption) | (with_reducible refine Fr.drewN ?_ _) | (with_reducible refine Fr.drew ?_) | (with_reducible refine Fr.alloc ?_ _) | (with_reducible refine Fr.setCell ?_ (by (first | (with_reducible assumption) | omega | (simp only [World.size_alloc, World.size_setCell, World.size_drew, World.heap_drewN]; omega) | (simp; done) | (simp; omega))) _) | (with_reducible refine Fr.trans ?_ (by with_reducible assumption)))⟩)
      · obtain rfl : k = 2 := by omega
        go_wp2_with fail
        go_ret
        exact ⟨ret_bool (by rw [HD.out, hj.out 0 (by omega), hj.out 1 (by omega)]; rfl), by repeat (first | (with_reducible exact Fr.refl _) | (with_reducible assumption) | (with_reducible refine Fr.drewN ?_ _) | (with_reducible refine Fr.drew ?_) | (with_reducible refine Fr.alloc ?_ _) | (with_reducible refine Fr.setCell ?_ (by (first | (with_reducible assumption) | omega | (simp only [World.size_alloc, World.size_setCell, World.size_drew, World.heap_drewN]; omega) | (simp; done) | (simp; omega))) _) | (with_reducible refine Fr.trans ?_ (by with_reducible assumption)))⟩
  · have hip : decide (d.f0.length = 2 ∧ d.f2.length = 2) = false := decide_eq_false hl
    have CT : Hid (∀ w', Fr w w' → Calls Try.prog 122 #[.agg #[.slice ae d.f0.length ce, u1, .slice ah d.f2.length ch, u3]] w' fun e w'' => e = .returned (.bool false) ∧ Fr w' w'') :=
      fun w' hf => (isPair_any _ d w' (HV.out.fr hf)).mono fun e w'' h => ⟨by rw [h.1, hip], h.2⟩
    go_enter Try.func57, Try.ntmps57
    go_wp2_with (go_at_call 122; refine (CT.out _ (by repeat (first | (with_reducible exact Fr.refl _) | (with_reducible assumption) | (with_reducible refine Fr.drewN ?_ _) | (with_reducible refine Fr.drew ?_) | (with_reducible refine Fr.alloc ?_ _) | (with_reducible refine Fr.setCell ?_ (by (first | (with_reducible assumption) | omega | (simp only [World.size_alloc, World.size_setCell, World.size_drew, World.heap_drewN]; omega) | (simp; done) | (simp; omega))) _) | (with_reducible refine Fr.trans ?_ (by with_reducible assumption))))).mono ?_; rintro e w0 ⟨rfl, hf0⟩; have k0 := hf0.blk w.heap.size (by (first | (with_reducible assumption) | omega | (simp only [World.size_alloc, World.size_setCell, World.size_drew, World.heap_drewN]; omega) | (simp; done) | (simp; omega))); have z1 := hf0.size; (try simp only [World.size_alloc, World.size_setCell, World.size_drew] at z1))
    go_ret
    exact ⟨ret_bool (by symm; rw [pairRightB_no _ hl]), by repeat (first | (with_reducible exact Fr.refl _) | (with_reducible assumption) | (with_reducible refine Fr.drewN ?_ _) | (with_reducible refine Fr.drew ?_) | (with_reducible refine Fr.alloc ?_ _) | (with_reducible refine Fr.setCell ?_ (by (first | (with_reducible assumption) | omega | (simp only [World.size_alloc, World.size_setCell, World.size_drew, World.heap_drewN]; omega) | (simp; done) | (simp; omega))) _) | (with_reducible refine Fr.trans ?_ (by with_reducible assumption)))⟩
end Go.Proofs.Ytfokiabkebpblaa
