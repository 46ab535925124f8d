/- PairDone and PairRight of both; comparison of two slices of strings (spec.l08Texts, slices.Equal). No condition. -/
import Derived.Test.YtfokiabkebpblaaMPair
namespace Go.Proofs.Ytfokiabkebpblaa
open Go.RowKit
set_option linter.unusedVariables false
set_option linter.unusedSimpArgs false

theorem l08Texts_any (a b : Value) (ss ts : List ByteArray) (w : World) (ha : StrsR w a ss) (hb : StrsR w b ts) :
    Calls Try.prog 119 #[a, b] w fun e w' => e = .returned (.bool (decide (ss = ts))) ∧ ∃ m, w' = w.drewN m := by
  obtain ⟨ao, ba, oa, ca, rfl, hca, hma, fa⟩ := ha.one
  obtain ⟨bo, bb, ob, cb, rfl, hcb, hmb, fb⟩ := hb.one
  clear ha hb
  by_cases hl : ss.length = ts.length
  · have HL : Hid (ss.length = ts.length) := hl
    rw [← hl] at fb hcb ⊢
    clear hl
    go_enter Try.func119, Try.ntmps119
    go_wp2
    go_loopw [5] (fun i wr => ∃ k : Nat, k ≤ ss.length ∧ i = .int .i64 k ∧ (∃ m, wr = w.drewN m) ∧ Hid (∀ j, j < k → sAt ss j = sAt ts j)) (fun i _ => ss.length - (intOf i).toNat)
    case atStart => exact ⟨0, Nat.zero_le _, rfl, ⟨0, rfl⟩, fun j hj => absurd hj (by omega)⟩
    case round =>
      obtain ⟨k, hk, rfl, ⟨md, rfl⟩, hj⟩ := hrel
      by_cases hlt : k < ss.length
      · obtain ⟨rfl, hba, fa⟩ := fa (by omega)
        obtain ⟨rfl, hbb, fb⟩ := fb (by omega)
        have c1 := fa k hlt
        have c2 := fb k hlt
        clear fa fb
        by_cases he : sAt ss k = sAt ts k
        · have he' := bytes_beq he
          have HE : Hid (sAt ss k = sAt ts k) := he
          clear he
          go_wp2
          go_quiet (fail)
          go_wp2
          go_roundw
          case rel => exact ⟨k + 1, by omega, by go_num, ⟨_, rfl⟩, fun j h => by rcases Nat.lt_succ_iff_lt_or_eq.1 h with h | rfl; exact hj.out j h; exact HE.out⟩
          case measure => (simp [intOf]; omega)
        · have he' := bytes_bne he
          go_wp2
          go_quiet (fail)
          go_wp2
          go_ret
          exact ⟨ret_bool (by symm; rw [decide_eq_false_iff_not]; rintro rfl; exact he rfl), ⟨_, World.drewN_drewN _ _ _⟩⟩
      · clear fa fb
        go_wp2
        go_ret
        exact ⟨ret_bool (by symm; rw [decide_eq_true_eq]; exact ext_getD ByteArray.empty HL.out (fun j h => hj.out j (by omega))), ⟨_, rfl⟩⟩
  · go_enter Try.func119, Try.ntmps119
    go_wp2
    go_ret
    exact ⟨ret_bool (by symm; rw [decide_eq_false_iff_not]; rintro rfl; exact hl rfl), ⟨0, rfl⟩⟩
theorem equalStr_any (a b : Value) (ss ts : List ByteArray) (w : World) (ha : StrsR w a ss) (hb : StrsR w b ts) :
    Calls Try.prog 123 #[a, b] w fun e w' => e = .returned (.bool (decide (ss = ts))) ∧ ∃ m, w' = w.drewN m := by
  obtain ⟨ao, ba, oa, ca, rfl, hca, hma, fa⟩ := ha.one
  obtain ⟨bo, bb, ob, cb, rfl, hcb, hmb, fb⟩ := hb.one
  clear ha hb
  by_cases hl : ss.length = ts.length
  · have HL : Hid (ss.length = ts.length) := hl
    rw [← hl] at fb hcb ⊢
    clear hl
    go_enter Try.func123, Try.ntmps123
    go_wp2
    go_loopw [13] (fun i wr => ∃ k : Nat, k ≤ ss.length ∧ i = .int .i64 k ∧ (∃ m, wr = w.drewN m) ∧ Hid (∀ j, j < k → sAt ss j = sAt ts j)) (fun i _ => ss.length - (intOf i).toNat)
    case atStart => exact ⟨0, Nat.zero_le _, rfl, ⟨0, rfl⟩, fun j hj => absurd hj (by omega)⟩
    case round =>
      obtain ⟨k, hk, rfl, ⟨md, rfl⟩, hj⟩ := hrel
      by_cases hlt : k < ss.length
      · obtain ⟨rfl, hba, fa⟩ := fa (by omega)
        obtain ⟨rfl, hbb, fb⟩ := fb (by omega)
        have c1 := fa k hlt
        have c2 := fb k hlt
        clear fa fb
        by_cases he : sAt ss k = sAt ts k
        · have he' := bytes_beq he
          have HE : Hid (sAt ss k = sAt ts k) := he
          clear he
          go_wp2
          go_quiet (fail)
          go_wp2
          go_roundw
          case rel => exact ⟨k + 1, by omega, by go_num, ⟨_, rfl⟩, fun j h => by rcases Nat.lt_succ_iff_lt_or_eq.1 h with h | rfl; exact hj.out j h; exact HE.out⟩
          case measure => (simp [intOf]; omega)
        · have he' := bytes_bne he
          go_wp2
          go_quiet (fail)
          go_wp2
          go_ret
          exact ⟨ret_bool (by symm; rw [decide_eq_false_iff_not]; rintro rfl; exact he rfl), ⟨_, World.drewN_drewN _ _ _⟩⟩
      · clear fa fb
        go_wp2
        go_ret
        exact ⟨ret_bool (by symm; rw [decide_eq_true_eq]; exact ext_getD ByteArray.empty HL.out (fun j h => hj.out j (by omega))), ⟨_, rfl⟩⟩
  · go_enter Try.func123, Try.ntmps123
    go_wp2
    go_ret
    exact ⟨ret_bool (by symm; rw [decide_eq_false_iff_not]; rintro rfl; exact hl rfl), ⟨0, rfl⟩⟩
/-- What a drawn region beside a new box holds throughout. -/
def SB (a : World) (b : Nat) (X : Array Value) (T : TypeId) (w : World) : Prop := Fr a w ∧ Box w b X T
theorem SB.out {a w : World} {b : Nat} {X : Array Value} {T : TypeId} (h : SB a b X T w) : Fr a w := h.1
theorem SB.box {a w : World} {b : Nat} {X : Array Value} {T : TypeId} (h : SB a b X T w) : Box w b X T := h.2
theorem SB.mk {a w : World} {b : Nat} {X : Array Value} {T : TypeId} (h : Fr a w) (k : Box w b X T) : SB a b X T w := ⟨h, k⟩
def sideDone (h : List ByteArray) (o : LinkD) : Bool := decide (h = o.f0) && decide (o.f1 = o.f0.length)
def pairDoneB (d : PairD) : Bool := decide (d.f0.length = 2) && decide (d.f2.length = 2) && sideDone (nAt d.f2 0) (nAt d.f0 1) && sideDone (nAt d.f2 1) (nAt d.f0 0)
theorem done_at {p : Nat → Nat → Bool} (a b : Bool) (k : Nat) (hk : k < 2) (h : p k (1 - k) = false) : (p 0 1 && p 1 0) = false := by
  match k, hk with
  | 0, _ => rw [h]; rfl
  | 1, _ => rw [h]; exact Bool.and_false _
theorem pairDoneB_no (d : PairD) (h : ¬ (d.f0.length = 2 ∧ d.f2.length = 2)) : pairDoneB d = false := by
  unfold pairDoneB
  by_cases h0 : d.f0.length = 2
  · rw [decide_eq_false (fun h2 => h ⟨h0, h2⟩)]; simp
  · rw [decide_eq_false h0]; simp
set_option maxHeartbeats 2000000 in
set_option maxRecDepth 100000 in
theorem specPairDone_any (v : Value) (d : PairD) (w : World) (hv : PairRd w v d) :
    Calls Try.prog 52 #[v] w fun e w' => e = .returned (.bool (pairDoneB d)) ∧ Fr w w' := by
  obtain ⟨u0, u1, u2, u3, rfl, r0, r1, r2, r3⟩ := hv
  obtain ⟨ae, be, oe, ce, rfl, hce, hme, fe⟩ := LinkSR.one r0
  obtain ⟨ah, bh, oh, ch, rfl, hch, hmh, fh⟩ := StringSSR.one r2
  clear r0 r1 r2 r3
  by_cases hl : d.f0.length = 2 ∧ d.f2.length = 2
  · obtain ⟨hl0, hl2⟩ := hl
    obtain ⟨rfl, hbe, fe⟩ := fe (by omega)
    obtain ⟨rfl, hbh, fh⟩ := fh (by omega)
    have HD : Hid (pairDoneB d = (sideDone (nAt d.f2 0) (nAt d.f0 1) && sideDone (nAt d.f2 1) (nAt d.f0 0))) := by unfold pairDoneB; rw [decide_eq_true hl0, decide_eq_true hl2]; rfl
    rw [hl0] at fe hce ⊢
    rw [hl2] at fh hch ⊢
    clear hl0 hl2
    have FE := Lib.hid fe
    have FH := Lib.hid fh
    clear fe fh
    go_enter Try.func52, Try.ntmps52
    go_wp2
    go_loopw [3] (fun i wr => ∃ k : Nat, k ≤ 2 ∧ i = .int .i64 k ∧ Fr (w.alloc (.cells #[.slice (some ⟨be, oe, none⟩) 2 ce, u1, .slice (some ⟨bh, oh, none⟩) 2 ch, u3] 84)) wr ∧ Hid (∀ j, j < k → sideDone (nAt d.f2 j) (nAt d.f0 (1 - j)) = true)) (fun i _ => 2 - (intOf i).toNat)
    case atStart => exact ⟨0, by omega, rfl, Fr.refl _, fun j hj => absurd hj (by omega)⟩
    case round =>
      obtain ⟨k, hk, rfl, hfr, hj⟩ := hrel
      have BX := (Box.new w #[.slice (some ⟨be, oe, none⟩) 2 ce, u1, .slice (some ⟨bh, oh, none⟩) 2 ch, u3] 84).fr hfr
      have FX := BX.facts
      have hfw : Fr w wr := (Fr.refl w).alloc _ |>.trans hfr
      by_cases hlt : k < 2
      · obtain ⟨m, hm, hm2⟩ : ∃ m : Nat, (1 : Int) - (k : Int) = m ∧ m < 2 := ⟨1 - k, by omega, by omega⟩
        obtain ⟨a1, ra, g0, g1, g2⟩ := FE.out m hm2
        obtain ⟨a2, rb, gh⟩ := FH.out k hlt
        obtain ⟨x, hx⟩ : ∃ x, nAt d.f0 m = x := ⟨_, rfl⟩
        obtain ⟨y, hy⟩ : ∃ y, nAt d.f2 k = y := ⟨_, rfl⟩
        rw [hx] at ra g1 g2
        rw [hy] at rb
        have hmk : 1 - k = m := by omega
        have HX : Hid (nAt d.f0 (1 - k) = x) := by rw [hmk]; exact hx
        have HY := Lib.hid hy
        clear hx hy
        have hw : IntKind.i64.wrap (1 - (k : Int)) = (m : Int) := by rw [hm]; exact IntWalk.i64_in _ (by omega)
        obtain ⟨ao1, cap1, rfl, _⟩ := RdS.val ra
        obtain ⟨ao2, cap2, rfl, _⟩ := RdS.val rb
        have c0 : wr.cell? ⟨be, oe + m * 3, none⟩ = some (.slice ao1 x.f0.length cap1) := (hfw.cell (p := ⟨be, _, none⟩) hbe).trans g0
        have c1 : wr.cell? ⟨be, oe + m * 3 + 1, none⟩ = some (.int .i64 x.f1) := (hfw.cell (p := ⟨be, _, none⟩) hbe).trans g1
        have c2 : wr.cell? ⟨be, oe + m * 3 + 2, none⟩ = some (.int .i64 x.f2) := (hfw.cell (p := ⟨be, _, none⟩) hbe).trans g2
        have RA := Lib.hid (RdS.fr ra hfw)
        have RB := Lib.hid (RdS.fr rb hfw)
        clear ra rb
        by_cases he : y = x.f0
        · have CT : Hid (∀ w', Fr wr w' → Calls Try.prog 119 #[.slice ao2 y.length cap2, .slice ao1 x.f0.length cap1] w' fun e w'' => e = .returned (.bool true) ∧ ∃ m, w'' = w'.drewN m) :=
            fun w' hf => (l08Texts_any _ _ y x.f0 w' (RdS.fr RB.out hf) (RdS.fr RA.out hf)).mono fun e w'' h => ⟨by rw [h.1, decide_eq_true he], h.2⟩
          have HE := Lib.hid he
          clear he
          go_wp2_with fail
          have hbh' : bh < wr.heap.size := Nat.lt_of_lt_of_le hbh hfw.size
          have gh' : wr.cell? ⟨bh, oh + k, none⟩ = some (.slice ao2 y.length cap2) := (hfw.cell (p := ⟨bh, _, none⟩) hbh).trans gh
          go_quiet ((go_at_call 119; refine Calls.quiet_of (CT.out _ (by repeat (first | (with_reducible exact Fr.refl _) | (with_reducible assumption) | (with_reducible refine Fr.drewN ?_ _) | (with_reducible refine Fr.drew ?_) | (with_reducible refine Fr.alloc ?_ _) | (with_reducible refine Fr.setCell ?_ (by (first | (with_reducible assumption) | omega | (simp only [World.size_alloc, World.size_setCell, World.size_drew, World.heap_drewN]; omega) | (simp; done) | (simp; omega))) _) | (with_reducible refine Fr.trans ?_ (by with_reducible assumption)))))))
          by_cases hn : x.f1 = x.f0.length
          · have hq : (x.f1 != (x.f0.length : Int)) = false := by simpa using hn
            have HN := Lib.hid hn
            clear hn
            go_wp2_with fail
            go_roundw
            case rel => exact ⟨k + 1, by omega, by go_num, by repeat (first | (with_reducible exact Fr.refl _) | (with_reducible assumption) | (with_reducible refine Fr.drewN ?_ _) | (with_reducible refine Fr.drew ?_) | (with_reducible refine Fr.alloc ?_ _) | (with_reducible refine Fr.setCell ?_ (by (first | (with_reducible assumption) | omega | (simp only [World.size_alloc, World.size_setCell, World.size_drew, World.heap_drewN]; omega) | (simp; done) | (simp; omega))) _) | (with_reducible refine Fr.trans ?_ (by with_reducible assumption))), fun j h => by
              rcases Nat.lt_succ_iff_lt_or_eq.1 h with h | rfl
              · exact hj.out j h
              · rw [HX.out, HY.out]; unfold sideDone; rw [decide_eq_true HE.out, decide_eq_true HN.out]; rfl⟩
            case measure => (simp [intOf]; omega)
          · have hq : (x.f1 != (x.f0.length : Int)) = true := by simpa using hn
            go_wp2_with fail
            go_ret
            exact ⟨ret_bool (by rw [HD.out]; symm; refine done_at (p := fun i j => sideDone (nAt d.f2 i) (nAt d.f0 j)) true true k hlt ?_; show sideDone _ _ = false; rw [HX.out, HY.out]; unfold sideDone; rw [decide_eq_false hn, Bool.and_false]), by repeat (first | (with_reducible exact Fr.refl _) | (with_reducible assumption) | (with_reducible refine Fr.drewN ?_ _) | (with_reducible refine Fr.drew ?_) | (with_reducible refine Fr.alloc ?_ _) | (with_reducible refine Fr.setCell ?_ (by (first | (with_reducible assumption) | omega | (simp only [World.size_alloc, World.size_setCell, World.size_drew, World.heap_drewN]; omega) | (simp; done) | (simp; omega))) _) | (with_reducible refine Fr.trans ?_ (by with_reducible assumption)))⟩
        · have CT : Hid (∀ w', Fr wr w' → Calls Try.prog 119 #[.slice ao2 y.length cap2, .slice ao1 x.f0.length cap1] w' fun e w'' => e = .returned (.bool false) ∧ ∃ m, w'' = w'.drewN m) :=
            fun w' hf => (l08Texts_any _ _ y x.f0 w' (RdS.fr RB.out hf) (RdS.fr RA.out hf)).mono fun e w'' h => ⟨by rw [h.1, decide_eq_false he], h.2⟩
          have HE := Lib.hid he
          clear he
          go_wp2_with fail
          have hbh' : bh < wr.heap.size := Nat.lt_of_lt_of_le hbh hfw.size
          have gh' : wr.cell? ⟨bh, oh + k, none⟩ = some (.slice ao2 y.length cap2) := (hfw.cell (p := ⟨bh, _, none⟩) hbh).trans gh
          go_quiet ((go_at_call 119; refine Calls.quiet_of (CT.out _ (by repeat (first | (with_reducible exact Fr.refl _) | (with_reducible assumption) | (with_reducible refine Fr.drewN ?_ _) | (with_reducible refine Fr.drew ?_) | (with_reducible refine Fr.alloc ?_ _) | (with_reducible refine Fr.setCell ?_ (by (first | (with_reducible assumption) | omega | (simp only [World.size_alloc, World.size_setCell, World.size_drew, World.heap_drewN]; omega) | (simp; done) | (simp; omega))) _) | (with_reducible refine Fr.trans ?_ (by with_reducible assumption)))))))
          go_wp2_with fail
          go_ret
          exact ⟨ret_bool (by rw [HD.out]; symm; refine done_at (p := fun i j => sideDone (nAt d.f2 i) (nAt d.f0 j)) true true k hlt ?_; show sideDone _ _ = false; rw [HX.out, HY.out]; unfold sideDone; rw [decide_eq_false HE.out, Bool.false_and]), by repeat (first | (with_reducible exact Fr.refl _) | (with_reducible assumption) | (with_reducible refine Fr.drewN ?_ _) | (with_reducible refine Fr.drew ?_) | (with_reducible refine Fr.alloc ?_ _) | (with_reducible refine Fr.setCell ?_ (by (first | (with_reducible assumption) | omega | (simp only [World.size_alloc, World.size_setCell, World.size_drew, World.heap_drewN]; omega) | (simp; done) | (simp; omega))) _) | (with_reducible refine Fr.trans ?_ (by with_reducible assumption)))⟩
      · obtain rfl : k = 2 := by omega
        go_wp2_with fail
        go_ret
        exact ⟨ret_bool (by rw [HD.out, hj.out 0 (by omega), hj.out 1 (by omega)]; rfl), by repeat (first | (with_reducible exact Fr.refl _) | (with_reducible assumption) | (with_reducible refine Fr.drewN ?_ _) | (with_reducible refine Fr.drew ?_) | (with_reducible refine Fr.alloc ?_ _) | (with_reducible refine Fr.setCell ?_ (by (first | (with_reducible assumption) | omega | (simp only [World.size_alloc, World.size_setCell, World.size_drew, World.heap_drewN]; omega) | (simp; done) | (simp; omega))) _) | (with_reducible refine Fr.trans ?_ (by with_reducible assumption)))⟩
  · go_enter Try.func52, Try.ntmps52
    go_wp2
    all_goals go_ret
    all_goals exact ⟨ret_bool (by symm; rw [pairDoneB_no _ hl]), by repeat (first | (with_reducible exact Fr.refl _) | (with_reducible assumption) | (with_reducible refine Fr.drewN ?_ _) | (with_reducible refine Fr.drew ?_) | (with_reducible refine Fr.alloc ?_ _) | (with_reducible refine Fr.setCell ?_ (by (first | (with_reducible assumption) | omega | (simp only [World.size_alloc, World.size_setCell, World.size_drew, World.heap_drewN]; omega) | (simp; done) | (simp; omega))) _) | (with_reducible refine Fr.trans ?_ (by with_reducible assumption)))⟩
theorem isPair_any (v : Value) (d : PairD) (w : World) (hv : PairRd w v d) :
    Calls Try.prog 122 #[v] w fun e w' => e = .returned (.bool (decide (d.f0.length = 2 ∧ d.f2.length = 2))) ∧ Fr w w' := by
  obtain ⟨u0, u1, u2, u3, rfl, r0, r1, r2, r3⟩ := hv
  obtain ⟨ae, be, oe, ce, rfl, hce, hme, fe⟩ := LinkSR.one r0
  obtain ⟨ah, bh, oh, ch, rfl, hch, hmh, fh⟩ := StringSSR.one r2
  clear r0 r1 r2 r3 fe fh
  go_enter Try.func122, Try.ntmps122
  go_wp2
  all_goals go_ret
  all_goals exact ⟨ret_bool (by rw [Bool.eq_iff_iff]; simp; omega), by repeat (first | (with_reducible exact Fr.refl _) | (with_reducible assumption) | (with_reducible refine Fr.drewN ?_ _) | (with_reducible refine Fr.drew ?_) | (with_reducible refine Fr.alloc ?_ _) | (with_reducible refine Fr.setCell ?_ (by (first | (with_reducible assumption) | omega | (simp only [World.size_alloc, World.size_setCell, World.size_drew, World.heap_drewN]; omega) | (simp; done) | (simp; omega))) _) | (with_reducible refine Fr.trans ?_ (by with_reducible assumption)))⟩
set_option maxHeartbeats 2000000 in
set_option maxRecDepth 100000 in
theorem implPairDone_any (v : Value) (d : PairD) (w : World) (hv : PairRd w v d) :
    Calls Try.prog 54 #[v] w fun e w' => e = .returned (.bool (pairDoneB d)) ∧ Fr w w' := by
  have HV := Lib.hid hv
  obtain ⟨u0, u1, u2, u3, rfl, r0, r1, r2, r3⟩ := hv
  obtain ⟨ae, be, oe, ce, rfl, hce, hme, fe⟩ := LinkSR.one r0
  obtain ⟨ah, bh, oh, ch, rfl, hch, hmh, fh⟩ := StringSSR.one r2
  clear r0 r1 r2 r3
  by_cases hl : d.f0.length = 2 ∧ d.f2.length = 2
  · have hip : decide (d.f0.length = 2 ∧ d.f2.length = 2) = true := decide_eq_true hl
    obtain ⟨hl0, hl2⟩ := hl
    obtain ⟨rfl, hbe, fe⟩ := fe (by omega)
    obtain ⟨rfl, hbh, fh⟩ := fh (by omega)
    have HD : Hid (pairDoneB d = (sideDone (nAt d.f2 0) (nAt d.f0 1) && sideDone (nAt d.f2 1) (nAt d.f0 0))) := by unfold pairDoneB; rw [decide_eq_true hl0, decide_eq_true hl2]; rfl
    have CT : Hid (∀ w', Fr w w' → Calls Try.prog 122 #[.agg #[.slice (some ⟨be, oe, none⟩) d.f0.length ce, u1, .slice (some ⟨bh, oh, none⟩) d.f2.length ch, u3]] w' fun e w'' => e = .returned (.bool true) ∧ Fr w' w'') :=
      fun w' hf => (isPair_any _ d w' (HV.out.fr hf)).mono fun e w'' h => ⟨by rw [h.1, hip], h.2⟩
    rw [hl0, hl2] at CT
    clear hip HV
    rw [hl0] at fe hce ⊢
    rw [hl2] at fh hch ⊢
    clear hl0 hl2
    have FE := Lib.hid fe
    have FH := Lib.hid fh
    clear fe fh
    go_enter Try.func54, Try.ntmps54
    go_wp2_with (go_at_call 122; refine (CT.out _ (by repeat (first | (with_reducible exact Fr.refl _) | (with_reducible assumption) | (with_reducible refine Fr.drewN ?_ _) | (with_reducible refine Fr.drew ?_) | (with_reducible refine Fr.alloc ?_ _) | (with_reducible refine Fr.setCell ?_ (by (first | (with_reducible assumption) | omega | (simp only [World.size_alloc, World.size_setCell, World.size_drew, World.heap_drewN]; omega) | (simp; done) | (simp; omega))) _) | (with_reducible refine Fr.trans ?_ (by with_reducible assumption))))).mono ?_; rintro e w0 ⟨rfl, hf0⟩; have k0 := hf0.blk w.heap.size (by (first | (with_reducible assumption) | omega | (simp only [World.size_alloc, World.size_setCell, World.size_drew, World.heap_drewN]; omega) | (simp; done) | (simp; omega))); have z1 := hf0.size; (try simp only [World.size_alloc, World.size_setCell, World.size_drew] at z1))
    have B0 := (Box.new w #[.slice (some ⟨be, oe, none⟩) 2 ce, u1, .slice (some ⟨bh, oh, none⟩) 2 ch, u3] 84).fr hf0
    go_loopw [12] (fun i wr => ∃ k : Nat, k ≤ 2 ∧ i = .int .i64 k ∧ Fr w0 wr ∧ Hid (∀ j, j < k → sideDone (nAt d.f2 j) (nAt d.f0 (1 - j)) = true)) (fun i _ => 2 - (intOf i).toNat)
    case atStart => exact ⟨0, by omega, rfl, Fr.refl _, fun j hj => absurd hj (by omega)⟩
    case round =>
      obtain ⟨k, hk, rfl, hfr, hj⟩ := hrel
      have BX := B0.fr hfr
      have FX := BX.facts
      have hfw : Fr w wr := by repeat (first | (with_reducible exact Fr.refl _) | (with_reducible assumption) | (with_reducible refine Fr.drewN ?_ _) | (with_reducible refine Fr.drew ?_) | (with_reducible refine Fr.alloc ?_ _) | (with_reducible refine Fr.setCell ?_ (by (first | (with_reducible assumption) | omega | (simp only [World.size_alloc, World.size_setCell, World.size_drew, World.heap_drewN]; omega) | (simp; done) | (simp; omega))) _) | (with_reducible refine Fr.trans ?_ (by with_reducible assumption)))
      by_cases hlt : k < 2
      · obtain ⟨m, hm, hm2⟩ : ∃ m : Nat, (1 : Int) - (k : Int) = m ∧ m < 2 := ⟨1 - k, by omega, by omega⟩
        obtain ⟨a1, ra, g0, g1, g2⟩ := FE.out m hm2
        obtain ⟨a2, rb, gh⟩ := FH.out k hlt
        obtain ⟨x, hx⟩ : ∃ x, nAt d.f0 m = x := ⟨_, rfl⟩
        obtain ⟨y, hy⟩ : ∃ y, nAt d.f2 k = y := ⟨_, rfl⟩
        rw [hx] at ra g1 g2
        rw [hy] at rb
        have hmk : 1 - k = m := by omega
        have HX : Hid (nAt d.f0 (1 - k) = x) := by rw [hmk]; exact hx
        have HY := Lib.hid hy
        clear hx hy
        have hw : IntKind.i64.wrap (1 - (k : Int)) = (m : Int) := by rw [hm]; exact IntWalk.i64_in _ (by omega)
        obtain ⟨ao1, cap1, rfl, _⟩ := RdS.val ra
        obtain ⟨ao2, cap2, rfl, _⟩ := RdS.val rb
        have c0 : wr.cell? ⟨be, oe + m * 3, none⟩ = some (.slice ao1 x.f0.length cap1) := (hfw.cell (p := ⟨be, _, none⟩) hbe).trans g0
        have c1 : wr.cell? ⟨be, oe + m * 3 + 1, none⟩ = some (.int .i64 x.f1) := (hfw.cell (p := ⟨be, _, none⟩) hbe).trans g1
        have c2 : wr.cell? ⟨be, oe + m * 3 + 2, none⟩ = some (.int .i64 x.f2) := (hfw.cell (p := ⟨be, _, none⟩) hbe).trans g2
        have hbh' : bh < wr.heap.size := Nat.lt_of_lt_of_le hbh hfw.size
        have gh' : wr.cell? ⟨bh, oh + k, none⟩ = some (.slice ao2 y.length cap2) := (hfw.cell (p := ⟨bh, _, none⟩) hbh).trans gh
        have RA := Lib.hid (RdS.fr ra hfw)
        have RB := Lib.hid (RdS.fr rb hfw)
        clear ra rb
        by_cases he : y = x.f0
        · have CT : Hid (∀ w', Fr wr w' → Calls Try.prog 123 #[.slice ao2 y.length cap2, .slice ao1 x.f0.length cap1] w' fun e w'' => e = .returned (.bool true) ∧ ∃ m, w'' = w'.drewN m) :=
            fun w' hf => (equalStr_any _ _ y x.f0 w' (RdS.fr RB.out hf) (RdS.fr RA.out hf)).mono fun e w'' h => ⟨by rw [h.1, decide_eq_true he], h.2⟩
          have HE := Lib.hid he
          clear he
          by_cases hn : x.f1 = x.f0.length
          · have hq : (x.f1 != (x.f0.length : Int)) = false := by simpa using hn
            have HN := Lib.hid hn
            clear hn
            go_wp2_with (go_at_call 123; refine (CT.out _ (by repeat (first | (with_reducible exact Fr.refl _) | (with_reducible assumption) | (with_reducible refine Fr.drewN ?_ _) | (with_reducible refine Fr.drew ?_) | (with_reducible refine Fr.alloc ?_ _) | (with_reducible refine Fr.setCell ?_ (by (first | (with_reducible assumption) | omega | (simp only [World.size_alloc, World.size_setCell, World.size_drew, World.heap_drewN]; omega) | (simp; done) | (simp; omega))) _) | (with_reducible refine Fr.trans ?_ (by with_reducible assumption))))).mono ?_; rintro e w7 ⟨rfl, md, rfl⟩)
            go_roundw
            case rel => exact ⟨k + 1, by omega, by go_num, by repeat (first | (with_reducible exact Fr.refl _) | (with_reducible assumption) | (with_reducible refine Fr.drewN ?_ _) | (with_reducible refine Fr.drew ?_) | (with_reducible refine Fr.alloc ?_ _) | (with_reducible refine Fr.setCell ?_ (by (first | (with_reducible assumption) | omega | (simp only [World.size_alloc, World.size_setCell, World.size_drew, World.heap_drewN]; omega) | (simp; done) | (simp; omega))) _) | (with_reducible refine Fr.trans ?_ (by with_reducible assumption))), fun j h => by
              rcases Nat.lt_succ_iff_lt_or_eq.1 h with h | rfl
              · exact hj.out j h
              · rw [HX.out, HY.out]; unfold sideDone; rw [decide_eq_true HE.out, decide_eq_true HN.out]; rfl⟩
            case measure => (simp [intOf]; omega)
          · have hq : (x.f1 != (x.f0.length : Int)) = true := by simpa using hn
            go_wp2_with (go_at_call 123; refine (CT.out _ (by repeat (first | (with_reducible exact Fr.refl _) | (with_reducible assumption) | (with_reducible refine Fr.drewN ?_ _) | (with_reducible refine Fr.drew ?_) | (with_reducible refine Fr.alloc ?_ _) | (with_reducible refine Fr.setCell ?_ (by (first | (with_reducible assumption) | omega | (simp only [World.size_alloc, World.size_setCell, World.size_drew, World.heap_drewN]; omega) | (simp; done) | (simp; omega))) _) | (with_reducible refine Fr.trans ?_ (by with_reducible assumption))))).mono ?_; rintro e w7 ⟨rfl, md, rfl⟩)
            go_ret
            exact ⟨ret_bool (by rw [HD.out]; symm; refine done_at (p := fun i j => sideDone (nAt d.f2 i) (nAt d.f0 j)) true true k hlt ?_; show sideDone _ _ = false; rw [HX.out, HY.out]; unfold sideDone; rw [decide_eq_false hn, Bool.and_false]), by repeat (first | (with_reducible exact Fr.refl _) | (with_reducible assumption) | (with_reducible refine Fr.drewN ?_ _) | (with_reducible refine Fr.drew ?_) | (with_reducible refine Fr.alloc ?_ _) | (with_reducible refine Fr.setCell ?_ (by (first | (with_reducible assumption) | omega | (simp only [World.size_alloc, World.size_setCell, World.size_drew, World.heap_drewN]; omega) | (simp; done) | (simp; omega))) _) | (with_reducible refine Fr.trans ?_ (by with_reducible assumption)))⟩
        · have CT : Hid (∀ w', Fr wr w' → Calls Try.prog 123 #[.slice ao2 y.length cap2, .slice ao1 x.f0.length cap1] w' fun e w'' => e = .returned (.bool false) ∧ ∃ m, w'' = w'.drewN m) :=
            fun w' hf => (equalStr_any _ _ y x.f0 w' (RdS.fr RB.out hf) (RdS.fr RA.out hf)).mono fun e w'' h => ⟨by rw [h.1, decide_eq_false he], h.2⟩
          have HE := Lib.hid he
          clear he
          go_wp2_with (go_at_call 123; refine (CT.out _ (by repeat (first | (with_reducible exact Fr.refl _) | (with_reducible assumption) | (with_reducible refine Fr.drewN ?_ _) | (with_reducible refine Fr.drew ?_) | (with_reducible refine Fr.alloc ?_ _) | (with_reducible refine Fr.setCell ?_ (by (first | (with_reducible assumption) | omega | (simp only [World.size_alloc, World.size_setCell, World.size_drew, World.heap_drewN]; omega) | (simp; done) | (simp; omega))) _) | (with_reducible refine Fr.trans ?_ (by with_reducible assumption))))).mono ?_; rintro e w7 ⟨rfl, md, rfl⟩)
          go_ret
          exact ⟨ret_bool (by rw [HD.out]; symm; refine done_at (p := fun i j => sideDone (nAt d.f2 i) (nAt d.f0 j)) true true k hlt ?_; show sideDone _ _ = false; rw [HX.out, HY.out]; unfold sideDone; rw [decide_eq_false HE.out, Bool.false_and]), by repeat (first | (with_reducible exact Fr.refl _) | (with_reducible assumption) | (with_reducible refine Fr.drewN ?_ _) | (with_reducible refine Fr.drew ?_) | (with_reducible refine Fr.alloc ?_ _) | (with_reducible refine Fr.setCell ?_ (by (first | (with_reducible assumption) | omega | (simp only [World.size_alloc, World.size_setCell, World.size_drew, World.heap_drewN]; omega) | (simp; done) | (simp; omega))) _) | (with_reducible refine Fr.trans ?_ (by with_reducible assumption)))⟩
      · obtain rfl : k = 2 := by omega
        go_wp2_with fail
        go_ret
        exact ⟨ret_bool (by rw [HD.out, hj.out 0 (by omega), hj.out 1 (by omega)]; rfl), by repeat (first | (with_reducible exact Fr.refl _) | (with_reducible assumption) | (with_reducible refine Fr.drewN ?_ _) | (with_reducible refine Fr.drew ?_) | (with_reducible refine Fr.alloc ?_ _) | (with_reducible refine Fr.setCell ?_ (by (first | (with_reducible assumption) | omega | (simp only [World.size_alloc, World.size_setCell, World.size_drew, World.heap_drewN]; omega) | (simp; done) | (simp; omega))) _) | (with_reducible refine Fr.trans ?_ (by with_reducible assumption)))⟩
  · have hip : decide (d.f0.length = 2 ∧ d.f2.length = 2) = false := decide_eq_false hl
    have CT : Hid (∀ w', Fr w w' → Calls Try.prog 122 #[.agg #[.slice ae d.f0.length ce, u1, .slice ah d.f2.length ch, u3]] w' fun e w'' => e = .returned (.bool false) ∧ Fr w' w'') :=
      fun w' hf => (isPair_any _ d w' (HV.out.fr hf)).mono fun e w'' h => ⟨by rw [h.1, hip], h.2⟩
    go_enter Try.func54, Try.ntmps54
    go_wp2_with (go_at_call 122; refine (CT.out _ (by repeat (first | (with_reducible exact Fr.refl _) | (with_reducible assumption) | (with_reducible refine Fr.drewN ?_ _) | (with_reducible refine Fr.drew ?_) | (with_reducible refine Fr.alloc ?_ _) | (with_reducible refine Fr.setCell ?_ (by (first | (with_reducible assumption) | omega | (simp only [World.size_alloc, World.size_setCell, World.size_drew, World.heap_drewN]; omega) | (simp; done) | (simp; omega))) _) | (with_reducible refine Fr.trans ?_ (by with_reducible assumption))))).mono ?_; rintro e w0 ⟨rfl, hf0⟩; have k0 := hf0.blk w.heap.size (by (first | (with_reducible assumption) | omega | (simp only [World.size_alloc, World.size_setCell, World.size_drew, World.heap_drewN]; omega) | (simp; done) | (simp; omega))); have z1 := hf0.size; (try simp only [World.size_alloc, World.size_setCell, World.size_drew] at z1))
    go_ret
    exact ⟨ret_bool (by symm; rw [pairDoneB_no _ hl]), by repeat (first | (with_reducible exact Fr.refl _) | (with_reducible assumption) | (with_reducible refine Fr.drewN ?_ _) | (with_reducible refine Fr.drew ?_) | (with_reducible refine Fr.alloc ?_ _) | (with_reducible refine Fr.setCell ?_ (by (first | (with_reducible assumption) | omega | (simp only [World.size_alloc, World.size_setCell, World.size_drew, World.heap_drewN]; omega) | (simp; done) | (simp; omega))) _) | (with_reducible refine Fr.trans ?_ (by with_reducible assumption)))⟩
end Go.Proofs.Ytfokiabkebpblaa
