/- laws.FnLinks: its walk. No condition but the reading of the draw. (Printed by mk_links.py.) -/
import Derived.Test.YtnlcgffffjjojaaDraw3
import Derived.Test.YtnlcgffffjjojaaLk2
import Derived.Test.YtnlcgffffjjojaaLk5
import Derived.Test.YtnlcgffffjjojaaFrames
namespace Go.Proofs.Ytnlcgffffjjojaa
open Go.RowKit
set_option linter.unusedVariables false
set_option linter.unusedSimpArgs false
theorem linkB_draw {ss : List ByteArray} {a t : Int} (hl : ss.length ≤ 8) (hs : ∀ s ∈ ss, 1 ≤ s.size ∧ s.size ≤ 4) (h1 : 0 ≤ a) (h2 : a ≤ ss.length) (h3 : 0 ≤ t) (h4 : t ≤ 200) : linkB ss a t = true := by
  unfold linkB
  rw [all_body hs, decide_eq_true (show ss.length ≤ 200 ∧ 0 ≤ a ∧ a ≤ ss.length ∧ 0 ≤ t ∧ t ≤ 200 by omega)]
  rfl
theorem pktB_draw {q k : Int} {s : ByteArray} (h1 : 0 ≤ q) (h2 : q ≤ 200) (h3 : 0 ≤ k) (h4 : k ≤ 200) (h5 : if q = 0 then s.size = 0 else bodyB s = true) : pktB 1 1 2 q k s = true := by
  have h : (1 : Int) ≤ 1 ∧ (1 : Int) ≤ 100000 ∧ (0 : Int) ≤ 1 ∧ (1 : Int) ≤ 8 ∧ (0 : Int) ≤ 2 ∧ (2 : Int) ≤ 8 ∧ (1 : Int) ≠ 2 ∧ 0 ≤ q ∧ q ≤ 200 ∧ 0 ≤ k ∧ k ≤ 200 := by omega
  by_cases hq : q = 0
  · rw [if_pos hq] at h5
    rw [pktB_zero h hq, decide_eq_true h5]
  · rw [if_neg hq] at h5
    rw [pktB_body h hq, h5]
theorem take1_any (ss : List ByteArray) (a t : Int) (p : PacketR) (hn : ss.length ≤ 8) (ao : Option Addr) (cap : Nat) (A T : Int) (X : ByteArray) (hA : takeA ⟨ss, a, t⟩ p = A) (hT : takeN ⟨ss, a, t⟩ p = T) (hX : takeT ⟨ss, a, t⟩ p = X) (w : World) (hr : StrsR w (.slice ao ss.length cap) ss) :
    Calls Try.prog 33 #[.agg #[.slice ao ss.length cap, .int .i64 a, .int .i64 t], .agg #[.int .i64 p.f0, .int .i64 p.f1, .int .i64 p.f2, .int .i64 p.f3, .int .i64 p.f4, .string p.f5]] w fun e w' => ∃ ao' cap', e = .returned (.tuple #[.agg #[.slice ao' ss.length cap', .int .i64 A, .int .i64 T], .string X]) ∧ StrsR w' (.slice ao' ss.length cap') ss ∧ Fr w w' := by
  refine (implLinkTake_any ⟨ss, a, t⟩ p (by show ss.length ≤ _; omega) _ w ⟨_, rfl, hr⟩).mono fun e w' h => ?_
  obtain ⟨ao', cap', he, hw, hf⟩ := h
  unfold takeD at he hw
  rw [hA, hT] at he hw
  rw [hX] at he
  refine ⟨ao', cap', he, ?_, hf⟩
  obtain ⟨u, h1, h2⟩ := hw.rd
  cases h1
  exact h2
theorem put1_any (ss : List ByteArray) (a t : Int) (s : ByteArray) (hn : ss.length ≤ 8) (hb : linkB ss a t = true) (hs : bodyB s = true) (ao : Option Addr) (cap : Nat) (w : World) (hr : StrsR w (.slice ao ss.length cap) ss) :
    Calls Try.prog 35 #[.agg #[.slice ao ss.length cap, .int .i64 a, .int .i64 t], .string s] w fun e w' => ∃ ao' cap', e = .returned (.tuple #[.agg #[.slice ao' (ss.length + 1) cap', .int .i64 a, .int .i64 t], .bool true]) ∧ StrsR w' (.slice ao' (ss.length + 1) cap') (ss ++ [s]) ∧ Fr w w' := by
  have hp : putB ⟨ss, a, t⟩ s = true := by
    unfold putB
    rw [hb, hs, decide_eq_true (show ss.length < 200 by omega)]
    rfl
  refine (implLinkPut_any ⟨ss, a, t⟩ s (by show ss.length ≤ _; omega) _ w ⟨_, rfl, hr⟩).mono fun e w' h => ?_
  rw [putD_ok hp, hp] at h
  obtain ⟨ao', cap', he, hw, hf⟩ := h
  have hl : (ss ++ [s]).length = ss.length + 1 := by simp
  simp only [hl] at he
  refine ⟨ao', cap', he, ?_, hf⟩
  obtain ⟨u, h1, h2⟩ := hw.rd
  simp only [hl] at h1
  cases h1
  exact h2
/-- What the last region holds throughout. -/
def SBL (a : World) (b : Nat) (X : Array Value) (T : TypeId) (w : World) : Prop := Fr a w ∧ Box w b X T
theorem SBL.out {a w : World} {b : Nat} {X : Array Value} {T : TypeId} (h : SBL a b X T w) : Fr a w := h.1
theorem SBL.box {a w : World} {b : Nat} {X : Array Value} {T : TypeId} (h : SBL a b X T w) : Box w b X T := h.2
theorem SBL.mk {a w : World} {b : Nat} {X : Array Value} {T : TypeId} (h : Fr a w) (k : Box w b X T) : SBL a b X T w := ⟨h, k⟩
set_option maxHeartbeats 60000000 in
set_option maxRecDepth 100000 in
theorem fnLinks_any (ao : Option Addr) (n cap : Nat) (w : World) (hy : ByR w w.heap.size ao n cap) :
    Calls Try.prog 6 #[.slice ao n cap] w fun e w' => e = .returned (.bool true) ∧ Fr w w' := by
  have HY := Lib.hid hy
  have hn : n ≤ 9223372036854775807 := by have := hy.1; have := hy.2.1; omega
  clear hy
  by_cases hbig : n ≤ 1048576
  · go_enter Try.func6, Try.ntmps6
    go_wp2_with (go_at_call 19; refine (big_any _ _ _ _ hn).mono ?_; rintro e w0 ⟨rfl, rfl⟩)
    refine (DrawLink_any ao n cap _ HY.out).mono ?_
    rintro e w1 ⟨⟨ss, a, t⟩, al, cl, hl, hss, ha0, ha1, ht0, ht1, rfl, hr1, hf1⟩
    simp only [] at hl hss ha0 ha1 ht0 ht1 hr1
    have HR1 := Lib.hid hr1
    have HSS := Lib.hid hss
    clear hr1 hss
    have z1 := hf1.size
    go_wp2_with fail
    refine (DrawPlaces_any ao n cap _ (HY.out.here (by repeat (first | (with_reducible exact Fr.refl _) | (with_reducible assumption) | (with_reducible refine Fr.drewN ?_ _) | (with_reducible refine Fr.drew ?_) | (with_reducible refine Fr.alloc ?_ _) | (with_reducible refine Fr.setCell ?_ (by (first | (with_reducible assumption) | omega | (simp only [World.size_alloc, World.size_setCell, World.size_drew, World.heap_drewN]; omega) | (simp; done) | (simp; omega))) _) | (with_reducible refine Fr.trans ?_ (by with_reducible assumption)))))).mono ?_
    rintro e w2 ⟨ps, aop, capp, hpl, hpr, rfl, hp, hf2⟩
    have z2 := hf2.size
    simp only [World.size_alloc] at z2
    obtain ⟨bp, op, p0, p1, rfl, hbp, HP0, HP1, hp0a, hp0b, hp1a, hp1b⟩ : ∃ bp op p0 p1, aop = some ⟨bp, op, none⟩ ∧ bp < w2.heap.size ∧ Hid (w2.cell? ⟨bp, op, none⟩ = some (.int .i64 p0)) ∧ Hid (w2.cell? ⟨bp, op + 1, none⟩ = some (.int .i64 p1)) ∧ 0 ≤ p0 ∧ p0 < 10000 ∧ 0 ≤ p1 ∧ p1 < 10000 := by
      obtain ⟨ax, bp, op, cx, hv, _, _, fp⟩ := IntsR.one hp.rd
      rw [hpl] at hv
      cases hv
      obtain ⟨rfl, h1, h2⟩ := fp (by omega)
      have hm : iAt ps 0 ∈ ps := by unfold iAt; simp [List.getD, List.getElem?_eq_getElem (show 0 < ps.length by omega)]
      have hm1 : iAt ps 1 ∈ ps := by unfold iAt; simp [List.getD, List.getElem?_eq_getElem (show 1 < ps.length by omega)]
      exact ⟨bp, op, iAt ps 0, iAt ps 1, rfl, h1, h2 0 (by omega), h2 1 (by omega), (hpr _ hm).1, (hpr _ hm).2, (hpr _ hm1).1, (hpr _ hm1).2⟩
    clear hp hpr hpl
    have B1 : Box w2 w1.heap.size #[.slice al ss.length cl, .int .i64 a, .int .i64 t] 53 := (Box.new _ _ _).fr hf2
    have F1 := B1.facts
    have c0 := HP0.out
    have c1 := HP1.out
    obtain ⟨q, hq1, hq2⟩ := rem_lt (x := p0) (n := 8) (by omega)
    obtain ⟨k, hk1, hk2⟩ := rem_lt (x := p1) (n := 9) (by omega)
    have hlb := linkB_draw hl HSS.out ha0 ha1 ht0 (by omega)
    have HLB := Lib.hid hlb
    clear hlb
    have hcase : ((q : Int) = t + 1 ∧ 0 < q) ∨ ((q : Int) ≠ t + 1 ∧ 0 < q) ∨ ((q : Int) ≠ t + 1 ∧ q = 0) := by omega
    rcases hcase with hcase | hcase | hcase
    · obtain ⟨hc1, hc2⟩ := hcase
      have hpk : pktB 1 1 2 (q : Int) (k : Int) ⟨#[108, 101, 116, 116, 101, 114]⟩ = true := pktB_draw (by omega) (by omega) (by omega) (by omega) (by rw [if_neg (by omega)]; decide)
      have htb : takeB ⟨ss, a, t⟩ ⟨1, 1, 2, (q : Int), (k : Int), ⟨#[108, 101, 116, 116, 101, 114]⟩⟩ = true := by unfold takeB; rw [HLB.out]; simpa using hpk
      obtain ⟨A, hA, hA1, hA2⟩ : ∃ A, takeA ⟨ss, a, t⟩ ⟨1, 1, 2, (q : Int), (k : Int), ⟨#[108, 101, 116, 116, 101, 114]⟩⟩ = A ∧ a ≤ A ∧ A ≤ ss.length := by refine ⟨_, rfl, ?_, ?_⟩ <;> (unfold takeA; rw [htb]; simp only [true_and]; split <;> omega)
      have hT : takeN ⟨ss, a, t⟩ ⟨1, 1, 2, (q : Int), (k : Int), ⟨#[108, 101, 116, 116, 101, 114]⟩⟩ = (q : Int) := by unfold takeN; rw [htb]; exact if_pos ⟨rfl, hc1⟩
      have hX : takeT ⟨ss, a, t⟩ ⟨1, 1, 2, (q : Int), (k : Int), ⟨#[108, 101, 116, 116, 101, 114]⟩⟩ = ⟨#[108, 101, 116, 116, 101, 114]⟩ := by unfold takeT; rw [htb]; exact if_pos ⟨rfl, hc1⟩
      have hlb2 := linkB_draw (t := (q : Int)) hl HSS.out (show 0 ≤ A by omega) hA2 (by omega) (by omega)
      have htb2 : takeB ⟨ss, A, (q : Int)⟩ ⟨1, 1, 2, (q : Int), (k : Int), ⟨#[108, 101, 116, 116, 101, 114]⟩⟩ = true := by unfold takeB; rw [hlb2]; simpa using hpk
      obtain ⟨A2, hA3⟩ : ∃ A2, takeA ⟨ss, A, (q : Int)⟩ ⟨1, 1, 2, (q : Int), (k : Int), ⟨#[108, 101, 116, 116, 101, 114]⟩⟩ = A2 := ⟨_, rfl⟩
      have hT2 : takeN ⟨ss, A, (q : Int)⟩ ⟨1, 1, 2, (q : Int), (k : Int), ⟨#[108, 101, 116, 116, 101, 114]⟩⟩ = (q : Int) := by unfold takeN; rw [htb2]; exact if_neg (fun h => by have := h.2; simp only [] at this; omega)
      have hX2 : takeT ⟨ss, A, (q : Int)⟩ ⟨1, 1, 2, (q : Int), (k : Int), ⟨#[108, 101, 116, 116, 101, 114]⟩⟩ = ⟨#[]⟩ := by unfold takeT; rw [htb2]; exact if_neg (fun h => by have := h.2; simp only [] at this; omega)
      have C1 : Hid (∀ w', StrsR w' (.slice al ss.length cl) ss → _) := fun w' h => take1_any ss a t ⟨1, 1, 2, (q : Int), (k : Int), ⟨#[108, 101, 116, 116, 101, 114]⟩⟩ hl al cl A (q : Int) ⟨#[108, 101, 116, 116, 101, 114]⟩ hA hT hX w' h
      have C2 : Hid (∀ ao' cap' w', StrsR w' (.slice ao' ss.length cap') ss → _) := fun ao' cap' w' h => take1_any ss A (q : Int) ⟨1, 1, 2, (q : Int), (k : Int), ⟨#[108, 101, 116, 116, 101, 114]⟩⟩ hl ao' cap' A2 (q : Int) ⟨#[]⟩ hA3 hT2 hX2 w' h
      have C3 : Hid (∀ w', StrsR w' (.slice al ss.length cl) ss → _) := fun w' h => put1_any ss a t ⟨#[109, 111, 114, 101]⟩ hl HLB.out (by decide) al cl w' h
      clear hpk htb hT hX hA hlb2 htb2 hA3 hT2 hX2
      have HC := Lib.hid hc1; have hq8 : q ≤ 7 := by omega
      clear hc1
      have hq0 : ((q : Int)) > 0 := by omega
      have HC2 := Lib.hid hc2
      clear hc2
      go_wp2_with fail
      refine (C1.out _ (HR1.out.fr (by repeat (first | (with_reducible exact Fr.refl _) | (with_reducible assumption) | (with_reducible refine Fr.drewN ?_ _) | (with_reducible refine Fr.drew ?_) | (with_reducible refine Fr.alloc ?_ _) | (with_reducible refine Fr.setCell ?_ (by (first | (with_reducible assumption) | omega | (simp only [World.size_alloc, World.size_setCell, World.size_drew, World.heap_drewN]; omega) | (simp; done) | (simp; omega))) _) | (with_reducible refine Fr.trans ?_ (by with_reducible assumption)))))).mono ?_
      rintro e w3 ⟨an, cn, rfl, hr3, hf3⟩
      have HR3 := Lib.hid hr3
      clear hr3
      have z3 := hf3.size; (try simp only [World.size_alloc, World.size_setCell, World.size_drew] at z3)
      have B1 := (B1.alloc _).fr hf3
      have B2 : Box w3 w2.heap.size #[.int .i64 1, .int .i64 1, .int .i64 2, .int .i64 q, .int .i64 k, .string ⟨#[108, 101, 116, 116, 101, 114]⟩] 27 := (Box.new _ _ _).fr hf3
      clear F1 c0 c1
      have F1 := B1.facts
      have F2 := B2.facts
      go_wp2_with fail
      refine (C2.out _ _ _ (HR3.out.fr (by repeat (first | (with_reducible exact Fr.refl _) | (with_reducible assumption) | (with_reducible refine Fr.drewN ?_ _) | (with_reducible refine Fr.drew ?_) | (with_reducible refine Fr.alloc ?_ _) | (with_reducible refine Fr.setCell ?_ (by (first | (with_reducible assumption) | omega | (simp only [World.size_alloc, World.size_setCell, World.size_drew, World.heap_drewN]; omega) | (simp; done) | (simp; omega))) _) | (with_reducible refine Fr.trans ?_ (by with_reducible assumption)))))).mono ?_
      rintro e w4 ⟨am, cm, rfl, hr4, hf4⟩
      clear hr4
      have z4 := hf4.size; (try simp only [World.size_alloc, World.size_setCell, World.size_drew] at z4)
      have B1 := (B1.alloc _).fr hf4
      have B3 : Box w4 w3.heap.size #[.slice an ss.length cn, .int .i64 A, .int .i64 (q : Int)] 53 := (Box.new _ _ _).fr hf4
      clear F1 F2 B2
      have F1 := B1.facts
      have F3 := B3.facts
      go_wp2_with fail
      refine (implLinkSends_any _ ⟨ss, a, t⟩ _ ⟨_, rfl, HR1.out.fr (by repeat (first | (with_reducible exact Fr.refl _) | (with_reducible assumption) | (with_reducible refine Fr.drewN ?_ _) | (with_reducible refine Fr.drew ?_) | (with_reducible refine Fr.alloc ?_ _) | (with_reducible refine Fr.setCell ?_ (by (first | (with_reducible assumption) | omega | (simp only [World.size_alloc, World.size_setCell, World.size_drew, World.heap_drewN]; omega) | (simp; done) | (simp; omega))) _) | (with_reducible refine Fr.trans ?_ (by with_reducible assumption))))⟩).mono ?_
      rintro e w5 ⟨aos, cos, rfl, hs5, hf5⟩
      have z5 := hf5.size; (try simp only [World.size_alloc, World.size_setCell, World.size_drew] at z5)
      have B1 := (B1.alloc _).fr hf5
      have B3 := (B3.alloc _).fr hf5
      have B4 : Box w5 w4.heap.size #[.slice am ss.length cm, .int .i64 A2, .int .i64 (q : Int)] 53 := (Box.new _ _ _).fr hf5
      clear F1 F3
      have F1 := B1.facts
      have hsn := sendsN_le ⟨ss, a, t⟩
      have hsl := sendsL_length ⟨ss, a, t⟩
      obtain ⟨sl, hsl0⟩ : ∃ l, sendsL ⟨ss, a, t⟩ = l := ⟨_, rfl⟩
      have HSA : Hid (∀ j, j < sl.length → iAt sl j = a + j + 1) := fun j hj => by rw [← hsl0]; unfold sendsL; exact sends_at ⟨ss, a, t⟩ _ j (by rw [← hsl0, hsl] at hj; exact hj)
      rw [hsl0] at hs5 hsl ⊢
      have hsl3 : sl.length ≤ 3 := by omega
      clear hsl hsn hsl0
      obtain ⟨ax, bs, os, cx, hv, hcs1, hcs2, fs⟩ := IntsR.one hs5.rd
      cases hv
      clear hs5
      have FS := Lib.hid fs
      clear fs
      go_wp2_with fail
      go_loopw [12] (fun i wr => ∃ j : Nat, j ≤ sl.length ∧ i = .int .i64 j ∧ Fr w5 wr) (fun i _ => sl.length - (intOf i).toNat)
      case atStart => exact ⟨0, Nat.zero_le _, rfl, Fr.refl _⟩
      case round =>
        obtain ⟨j, hj, rfl, hfr⟩ := hrel
        have B1 := B1.fr hfr
        clear F1
        have F1 := B1.facts
        by_cases hlt : j < sl.length
        · obtain ⟨rfl, hbs, fs⟩ := FS.out (by omega)
          have hs1 := fs j hlt
          rw [HSA.out j hlt] at hs1
          have cs : wr.cell? ⟨bs, os + j, none⟩ = some (.int .i64 (a + j + 1)) := (hfr.cell (p := ⟨bs, _, none⟩) hbs).trans hs1
          clear fs hs1
          have hwa : IntKind.i64.wrap (a + 1) = a + 1 := IntWalk.i64_in _ (by omega)
          have hne : (a + (j : Int) + 1 != a + 1 + (j : Int)) = false := by simp; omega
          go_wp2_with fail
          go_quiet (fail)
          go_wp2_with fail
          go_roundw
          case rel => exact ⟨j + 1, by omega, by go_num, by repeat (first | (with_reducible exact Fr.refl _) | (with_reducible assumption) | (with_reducible refine Fr.drewN ?_ _) | (with_reducible refine Fr.drew ?_) | (with_reducible refine Fr.alloc ?_ _) | (with_reducible refine Fr.setCell ?_ (by (first | (with_reducible assumption) | omega | (simp only [World.size_alloc, World.size_setCell, World.size_drew, World.heap_drewN]; omega) | (simp; done) | (simp; omega))) _) | (with_reducible refine Fr.trans ?_ (by with_reducible assumption)))⟩
          case measure => (simp [intOf]; omega)
        · obtain rfl : j = sl.length := by omega
          have B3 := B3.fr hfr
          have B4 := B4.fr hfr
          go_wp2_with fail
          refine (C3.out _ (HR1.out.fr (by repeat (first | (with_reducible exact Fr.refl _) | (with_reducible assumption) | (with_reducible refine Fr.drewN ?_ _) | (with_reducible refine Fr.drew ?_) | (with_reducible refine Fr.alloc ?_ _) | (with_reducible refine Fr.setCell ?_ (by (first | (with_reducible assumption) | omega | (simp only [World.size_alloc, World.size_setCell, World.size_drew, World.heap_drewN]; omega) | (simp; done) | (simp; omega))) _) | (with_reducible refine Fr.trans ?_ (by with_reducible assumption)))))).mono ?_
          rintro e w6 ⟨aq, cq, rfl, hr6, hf6⟩
          have HR6 := Lib.hid hr6
          clear hr6
          have z6 := hf6.size; (try simp only [World.size_alloc, World.size_setCell, World.size_drew] at z6)
          have B1 := B1.fr hf6
          have B3 := B3.fr hf6
          have B4 := B4.fr hf6
          clear F1
          have F1 := B1.facts
          have F3 := B3.facts
          have F4 := B4.facts
          have hcm := bytes_beq (x := ⟨#[108, 101, 116, 116, 101, 114]⟩) (y := ⟨#[108, 101, 116, 116, 101, 114]⟩) rfl
          have hbq : ((q : Int) == t + 1) = true := by have := HC.out; simpa using this
          have hwt : IntKind.i64.wrap (t + 1) = t + 1 := IntWalk.i64_in _ (by omega)
          go_wp2_with fail
          have d1 : ∀ w', SBL w6 w6.heap.size #[.slice aq (ss.length + 1) cq, .int .i64 a, .int .i64 t] 53 w' → ∀ o, w'.cell? ⟨w1.heap.size, o, none⟩ = _ := fun w' h o => (B1.fr h.out).cell o
          have d3 : ∀ w', SBL w6 w6.heap.size #[.slice aq (ss.length + 1) cq, .int .i64 a, .int .i64 t] 53 w' → ∀ o, w'.cell? ⟨w3.heap.size, o, none⟩ = _ := fun w' h o => (B3.fr h.out).cell o
          have d4 : ∀ w', SBL w6 w6.heap.size #[.slice aq (ss.length + 1) cq, .int .i64 a, .int .i64 t] 53 w' → ∀ o, w'.cell? ⟨w4.heap.size, o, none⟩ = _ := fun w' h o => (B4.fr h.out).cell o
          have d6 : ∀ w', SBL w6 w6.heap.size #[.slice aq (ss.length + 1) cq, .int .i64 a, .int .i64 t] 53 w' → ∀ o, w'.cell? ⟨w6.heap.size, o, none⟩ = _ := fun w' h o => h.box.cell o
          have h4 : linkB (ss ++ [⟨#[109, 111, 114, 101]⟩]) a t = true := by have := putB_more (d := ⟨ss, a, t⟩) (s := ⟨#[109, 111, 114, 101]⟩) HLB.out; rw [← this]; unfold putB; rw [HLB.out, decide_eq_true (show ss.length < 200 by omega)]; rfl
          have C4 : Hid (∀ w', Fr w6 w' → Calls Try.prog 36 #[.agg #[.slice aq (ss.length + 1) cq, .int .i64 a, .int .i64 t]] w' fun e w'' => e = .returned (.bool true) ∧ Fr w' w'') := fun w' hf => by have := implLinkOk_any _ (ss ++ [⟨#[109, 111, 114, 101]⟩]) a t w' (HR6.out.fr hf); rw [h4] at this; exact this
          obtain ⟨N, hN⟩ : ∃ N, (pkL ⟨ss, a, t⟩ 1 0 1).length = N := ⟨_, rfl⟩
          have C5 : Hid (∀ w', Fr w1 w' → Calls Try.prog 37 #[.agg #[.slice al ss.length cl, .int .i64 a, .int .i64 t], .int .i64 1, .int .i64 0, .int .i64 1] w' fun e w'' => ∃ ax cx, e = .returned (.slice ax N cx) ∧ Fr w' w'') := fun w' hf => (implLinkPackets_any ⟨ss, a, t⟩ 1 0 1 (by show ss.length ≤ _; omega) _ w' ⟨_, rfl, HR1.out.fr hf⟩).mono fun e w'' h => by obtain ⟨ax, cx, h1, h2, h3⟩ := h; rw [hN] at h1; exact ⟨ax, cx, h1, h3⟩
          have C6 : Hid (∀ w', Fr w1 w' → Calls Try.prog 38 #[.agg #[.slice al ss.length cl, .int .i64 a, .int .i64 t], .int .i64 1, .int .i64 0, .int .i64 1] w' fun e w'' => ∃ ax cx, e = .returned (.slice ax N cx) ∧ Fr w' w'') := fun w' hf => (specLinkPackets_any ⟨ss, a, t⟩ 1 0 1 (by show ss.length ≤ _; omega) _ w' ⟨_, rfl, HR1.out.fr hf⟩).mono fun e w'' h => by obtain ⟨ax, cx, h1, h2, h3⟩ := h; rw [hN] at h1; exact ⟨ax, cx, h1, h3⟩
          clear h4 hN
          have hwl : IntKind.i64.wrap ((ss.length : Int) + 1) = (ss.length : Int) + 1 := IntWalk.i64_in _ (by omega)
          have hd4 : ((((ss.length + 1 : Nat) : Int)) == (ss.length : Int) + 1) = true := by rw [beq_iff_eq]; omega
          have hd5 : ((ss.length : Int) + 1 == (ss.length : Int) + 1) = true := beq_self_eq_true _
          have hd1 : decide (a ≤ A) = true := decide_eq_true hA1
          have hd2 : decide (A ≤ (ss.length : Int)) = true := decide_eq_true hA2
          have hd3 : decide ((sl.length : Int) ≤ 3) = true := decide_eq_true (by omega)
          simp only [List.append_eq, List.cons_append, List.nil_append]
          go_region_held3 (fun w' => SBL w6 w6.heap.size #[.slice aq (ss.length + 1) cq, .int .i64 a, .int .i64 t] 53 w') (refine SBL.mk (by repeat (first | (with_reducible exact Fr.refl _) | (with_reducible assumption) | (with_reducible refine Fr.drewN ?_ _) | (with_reducible refine Fr.drew ?_) | (with_reducible refine Fr.alloc ?_ _) | (with_reducible refine Fr.setCell ?_ (by (first | (with_reducible assumption) | omega | (simp only [World.size_alloc, World.size_setCell, World.size_drew, World.heap_drewN]; omega) | (simp; done) | (simp; omega))) _) | (with_reducible refine Fr.trans ?_ (by with_reducible assumption)))) (by (repeat (first | (with_reducible exact Box.new _ _ _) | (with_reducible apply Box.drew) | (apply Box.set_to) | (apply Box.new'; (first | with_reducible rfl | (focus (simp; done)))) | (with_reducible refine Box.alloc ?_ _) | (apply Box.fr; (case hf => with_reducible assumption)))); all_goals rfl)) (first | (go_at_call 36; refine (C4.out _ (by repeat (first | (with_reducible exact Fr.refl _) | (with_reducible assumption) | (with_reducible refine Fr.drewN ?_ _) | (with_reducible refine Fr.drew ?_) | (with_reducible refine Fr.alloc ?_ _) | (with_reducible refine Fr.setCell ?_ (by (first | (with_reducible assumption) | omega | (simp only [World.size_alloc, World.size_setCell, World.size_drew, World.heap_drewN]; omega) | (simp; done) | (simp; omega))) _) | (with_reducible refine Fr.trans ?_ (by with_reducible assumption))))).mono ?_; rintro e w7 ⟨rfl, hf7⟩) | (go_at_call 37; refine (C5.out _ (by repeat (first | (with_reducible exact Fr.refl _) | (with_reducible assumption) | (with_reducible refine Fr.drewN ?_ _) | (with_reducible refine Fr.drew ?_) | (with_reducible refine Fr.alloc ?_ _) | (with_reducible refine Fr.setCell ?_ (by (first | (with_reducible assumption) | omega | (simp only [World.size_alloc, World.size_setCell, World.size_drew, World.heap_drewN]; omega) | (simp; done) | (simp; omega))) _) | (with_reducible refine Fr.trans ?_ (by with_reducible assumption))))).mono ?_; rintro e w8 ⟨ax8, cx8, rfl, hf8⟩) | (go_at_call 38; refine (C6.out _ (by repeat (first | (with_reducible exact Fr.refl _) | (with_reducible assumption) | (with_reducible refine Fr.drewN ?_ _) | (with_reducible refine Fr.drew ?_) | (with_reducible refine Fr.alloc ?_ _) | (with_reducible refine Fr.setCell ?_ (by (first | (with_reducible assumption) | omega | (simp only [World.size_alloc, World.size_setCell, World.size_drew, World.heap_drewN]; omega) | (simp; done) | (simp; omega))) _) | (with_reducible refine Fr.trans ?_ (by with_reducible assumption))))).mono ?_; rintro e w9 ⟨ax9, cx9, rfl, hf9⟩))
          go_wp2_with fail
          go_ret
          exact ⟨rfl, by repeat (first | (with_reducible exact Fr.refl _) | (with_reducible assumption) | (with_reducible refine Fr.drewN ?_ _) | (with_reducible refine Fr.drew ?_) | (with_reducible refine Fr.alloc ?_ _) | (with_reducible refine Fr.setCell ?_ (by (first | (with_reducible assumption) | omega | (simp only [World.size_alloc, World.size_setCell, World.size_drew, World.heap_drewN]; omega) | (simp; done) | (simp; omega))) _) | (with_reducible refine Fr.trans ?_ (by with_reducible assumption)))⟩
    · obtain ⟨hc1, hc2⟩ := hcase
      have hpk : pktB 1 1 2 (q : Int) (k : Int) ⟨#[108, 101, 116, 116, 101, 114]⟩ = true := pktB_draw (by omega) (by omega) (by omega) (by omega) (by rw [if_neg (by omega)]; decide)
      have htb : takeB ⟨ss, a, t⟩ ⟨1, 1, 2, (q : Int), (k : Int), ⟨#[108, 101, 116, 116, 101, 114]⟩⟩ = true := by unfold takeB; rw [HLB.out]; simpa using hpk
      obtain ⟨A, hA, hA1, hA2⟩ : ∃ A, takeA ⟨ss, a, t⟩ ⟨1, 1, 2, (q : Int), (k : Int), ⟨#[108, 101, 116, 116, 101, 114]⟩⟩ = A ∧ a ≤ A ∧ A ≤ ss.length := by refine ⟨_, rfl, ?_, ?_⟩ <;> (unfold takeA; rw [htb]; simp only [true_and]; split <;> omega)
      have hT : takeN ⟨ss, a, t⟩ ⟨1, 1, 2, (q : Int), (k : Int), ⟨#[108, 101, 116, 116, 101, 114]⟩⟩ = t := by unfold takeN; rw [htb]; exact if_neg (fun h => hc1 h.2)
      have hX : takeT ⟨ss, a, t⟩ ⟨1, 1, 2, (q : Int), (k : Int), ⟨#[108, 101, 116, 116, 101, 114]⟩⟩ = ⟨#[]⟩ := by unfold takeT; rw [htb]; exact if_neg (fun h => hc1 h.2)
      have hlb2 := linkB_draw (t := t) hl HSS.out (show 0 ≤ A by omega) hA2 (by omega) (by omega)
      have htb2 : takeB ⟨ss, A, t⟩ ⟨1, 1, 2, (q : Int), (k : Int), ⟨#[108, 101, 116, 116, 101, 114]⟩⟩ = true := by unfold takeB; rw [hlb2]; simpa using hpk
      obtain ⟨A2, hA3⟩ : ∃ A2, takeA ⟨ss, A, t⟩ ⟨1, 1, 2, (q : Int), (k : Int), ⟨#[108, 101, 116, 116, 101, 114]⟩⟩ = A2 := ⟨_, rfl⟩
      have hT2 : takeN ⟨ss, A, t⟩ ⟨1, 1, 2, (q : Int), (k : Int), ⟨#[108, 101, 116, 116, 101, 114]⟩⟩ = t := by unfold takeN; rw [htb2]; exact if_neg (fun h => hc1 h.2)
      have hX2 : takeT ⟨ss, A, t⟩ ⟨1, 1, 2, (q : Int), (k : Int), ⟨#[108, 101, 116, 116, 101, 114]⟩⟩ = ⟨#[]⟩ := by unfold takeT; rw [htb2]; exact if_neg (fun h => hc1 h.2)
      have C1 : Hid (∀ w', StrsR w' (.slice al ss.length cl) ss → _) := fun w' h => take1_any ss a t ⟨1, 1, 2, (q : Int), (k : Int), ⟨#[108, 101, 116, 116, 101, 114]⟩⟩ hl al cl A t ⟨#[]⟩ hA hT hX w' h
      have C2 : Hid (∀ ao' cap' w', StrsR w' (.slice ao' ss.length cap') ss → _) := fun ao' cap' w' h => take1_any ss A t ⟨1, 1, 2, (q : Int), (k : Int), ⟨#[108, 101, 116, 116, 101, 114]⟩⟩ hl ao' cap' A2 t ⟨#[]⟩ hA3 hT2 hX2 w' h
      have C3 : Hid (∀ w', StrsR w' (.slice al ss.length cl) ss → _) := fun w' h => put1_any ss a t ⟨#[109, 111, 114, 101]⟩ hl HLB.out (by decide) al cl w' h
      clear hpk htb hT hX hA hlb2 htb2 hA3 hT2 hX2
      have HC := Lib.hid hc1; have hq8 : q ≤ 7 := by omega
      clear hc1
      have hq0 : ((q : Int)) > 0 := by omega
      have HC2 := Lib.hid hc2
      clear hc2
      go_wp2_with fail
      refine (C1.out _ (HR1.out.fr (by repeat (first | (with_reducible exact Fr.refl _) | (with_reducible assumption) | (with_reducible refine Fr.drewN ?_ _) | (with_reducible refine Fr.drew ?_) | (with_reducible refine Fr.alloc ?_ _) | (with_reducible refine Fr.setCell ?_ (by (first | (with_reducible assumption) | omega | (simp only [World.size_alloc, World.size_setCell, World.size_drew, World.heap_drewN]; omega) | (simp; done) | (simp; omega))) _) | (with_reducible refine Fr.trans ?_ (by with_reducible assumption)))))).mono ?_
      rintro e w3 ⟨an, cn, rfl, hr3, hf3⟩
      have HR3 := Lib.hid hr3
      clear hr3
      have z3 := hf3.size; (try simp only [World.size_alloc, World.size_setCell, World.size_drew] at z3)
      have B1 := (B1.alloc _).fr hf3
      have B2 : Box w3 w2.heap.size #[.int .i64 1, .int .i64 1, .int .i64 2, .int .i64 q, .int .i64 k, .string ⟨#[108, 101, 116, 116, 101, 114]⟩] 27 := (Box.new _ _ _).fr hf3
      clear F1 c0 c1
      have F1 := B1.facts
      have F2 := B2.facts
      go_wp2_with fail
      refine (C2.out _ _ _ (HR3.out.fr (by repeat (first | (with_reducible exact Fr.refl _) | (with_reducible assumption) | (with_reducible refine Fr.drewN ?_ _) | (with_reducible refine Fr.drew ?_) | (with_reducible refine Fr.alloc ?_ _) | (with_reducible refine Fr.setCell ?_ (by (first | (with_reducible assumption) | omega | (simp only [World.size_alloc, World.size_setCell, World.size_drew, World.heap_drewN]; omega) | (simp; done) | (simp; omega))) _) | (with_reducible refine Fr.trans ?_ (by with_reducible assumption)))))).mono ?_
      rintro e w4 ⟨am, cm, rfl, hr4, hf4⟩
      clear hr4
      have z4 := hf4.size; (try simp only [World.size_alloc, World.size_setCell, World.size_drew] at z4)
      have B1 := (B1.alloc _).fr hf4
      have B3 : Box w4 w3.heap.size #[.slice an ss.length cn, .int .i64 A, .int .i64 t] 53 := (Box.new _ _ _).fr hf4
      clear F1 F2 B2
      have F1 := B1.facts
      have F3 := B3.facts
      go_wp2_with fail
      refine (implLinkSends_any _ ⟨ss, a, t⟩ _ ⟨_, rfl, HR1.out.fr (by repeat (first | (with_reducible exact Fr.refl _) | (with_reducible assumption) | (with_reducible refine Fr.drewN ?_ _) | (with_reducible refine Fr.drew ?_) | (with_reducible refine Fr.alloc ?_ _) | (with_reducible refine Fr.setCell ?_ (by (first | (with_reducible assumption) | omega | (simp only [World.size_alloc, World.size_setCell, World.size_drew, World.heap_drewN]; omega) | (simp; done) | (simp; omega))) _) | (with_reducible refine Fr.trans ?_ (by with_reducible assumption))))⟩).mono ?_
      rintro e w5 ⟨aos, cos, rfl, hs5, hf5⟩
      have z5 := hf5.size; (try simp only [World.size_alloc, World.size_setCell, World.size_drew] at z5)
      have B1 := (B1.alloc _).fr hf5
      have B3 := (B3.alloc _).fr hf5
      have B4 : Box w5 w4.heap.size #[.slice am ss.length cm, .int .i64 A2, .int .i64 t] 53 := (Box.new _ _ _).fr hf5
      clear F1 F3
      have F1 := B1.facts
      have hsn := sendsN_le ⟨ss, a, t⟩
      have hsl := sendsL_length ⟨ss, a, t⟩
      obtain ⟨sl, hsl0⟩ : ∃ l, sendsL ⟨ss, a, t⟩ = l := ⟨_, rfl⟩
      have HSA : Hid (∀ j, j < sl.length → iAt sl j = a + j + 1) := fun j hj => by rw [← hsl0]; unfold sendsL; exact sends_at ⟨ss, a, t⟩ _ j (by rw [← hsl0, hsl] at hj; exact hj)
      rw [hsl0] at hs5 hsl ⊢
      have hsl3 : sl.length ≤ 3 := by omega
      clear hsl hsn hsl0
      obtain ⟨ax, bs, os, cx, hv, hcs1, hcs2, fs⟩ := IntsR.one hs5.rd
      cases hv
      clear hs5
      have FS := Lib.hid fs
      clear fs
      go_wp2_with fail
      go_loopw [12] (fun i wr => ∃ j : Nat, j ≤ sl.length ∧ i = .int .i64 j ∧ Fr w5 wr) (fun i _ => sl.length - (intOf i).toNat)
      case atStart => exact ⟨0, Nat.zero_le _, rfl, Fr.refl _⟩
      case round =>
        obtain ⟨j, hj, rfl, hfr⟩ := hrel
        have B1 := B1.fr hfr
        clear F1
        have F1 := B1.facts
        by_cases hlt : j < sl.length
        · obtain ⟨rfl, hbs, fs⟩ := FS.out (by omega)
          have hs1 := fs j hlt
          rw [HSA.out j hlt] at hs1
          have cs : wr.cell? ⟨bs, os + j, none⟩ = some (.int .i64 (a + j + 1)) := (hfr.cell (p := ⟨bs, _, none⟩) hbs).trans hs1
          clear fs hs1
          have hwa : IntKind.i64.wrap (a + 1) = a + 1 := IntWalk.i64_in _ (by omega)
          have hne : (a + (j : Int) + 1 != a + 1 + (j : Int)) = false := by simp; omega
          go_wp2_with fail
          go_quiet (fail)
          go_wp2_with fail
          go_roundw
          case rel => exact ⟨j + 1, by omega, by go_num, by repeat (first | (with_reducible exact Fr.refl _) | (with_reducible assumption) | (with_reducible refine Fr.drewN ?_ _) | (with_reducible refine Fr.drew ?_) | (with_reducible refine Fr.alloc ?_ _) | (with_reducible refine Fr.setCell ?_ (by (first | (with_reducible assumption) | omega | (simp only [World.size_alloc, World.size_setCell, World.size_drew, World.heap_drewN]; omega) | (simp; done) | (simp; omega))) _) | (with_reducible refine Fr.trans ?_ (by with_reducible assumption)))⟩
          case measure => (simp [intOf]; omega)
        · obtain rfl : j = sl.length := by omega
          have B3 := B3.fr hfr
          have B4 := B4.fr hfr
          go_wp2_with fail
          refine (C3.out _ (HR1.out.fr (by repeat (first | (with_reducible exact Fr.refl _) | (with_reducible assumption) | (with_reducible refine Fr.drewN ?_ _) | (with_reducible refine Fr.drew ?_) | (with_reducible refine Fr.alloc ?_ _) | (with_reducible refine Fr.setCell ?_ (by (first | (with_reducible assumption) | omega | (simp only [World.size_alloc, World.size_setCell, World.size_drew, World.heap_drewN]; omega) | (simp; done) | (simp; omega))) _) | (with_reducible refine Fr.trans ?_ (by with_reducible assumption)))))).mono ?_
          rintro e w6 ⟨aq, cq, rfl, hr6, hf6⟩
          have HR6 := Lib.hid hr6
          clear hr6
          have z6 := hf6.size; (try simp only [World.size_alloc, World.size_setCell, World.size_drew] at z6)
          have B1 := B1.fr hf6
          have B3 := B3.fr hf6
          have B4 := B4.fr hf6
          clear F1
          have F1 := B1.facts
          have F3 := B3.facts
          have F4 := B4.facts
          have hcm := bytes_bne (x := ⟨#[]⟩) (y := ⟨#[108, 101, 116, 116, 101, 114]⟩) (by decide)
          have hbq : ((q : Int) == t + 1) = false := by have := HC.out; simpa using this
          have hwt : IntKind.i64.wrap (t + 1) = t + 1 := IntWalk.i64_in _ (by omega)
          go_wp2_with fail
          have d1 : ∀ w', SBL w6 w6.heap.size #[.slice aq (ss.length + 1) cq, .int .i64 a, .int .i64 t] 53 w' → ∀ o, w'.cell? ⟨w1.heap.size, o, none⟩ = _ := fun w' h o => (B1.fr h.out).cell o
          have d3 : ∀ w', SBL w6 w6.heap.size #[.slice aq (ss.length + 1) cq, .int .i64 a, .int .i64 t] 53 w' → ∀ o, w'.cell? ⟨w3.heap.size, o, none⟩ = _ := fun w' h o => (B3.fr h.out).cell o
          have d4 : ∀ w', SBL w6 w6.heap.size #[.slice aq (ss.length + 1) cq, .int .i64 a, .int .i64 t] 53 w' → ∀ o, w'.cell? ⟨w4.heap.size, o, none⟩ = _ := fun w' h o => (B4.fr h.out).cell o
          have d6 : ∀ w', SBL w6 w6.heap.size #[.slice aq (ss.length + 1) cq, .int .i64 a, .int .i64 t] 53 w' → ∀ o, w'.cell? ⟨w6.heap.size, o, none⟩ = _ := fun w' h o => h.box.cell o
          have h4 : linkB (ss ++ [⟨#[109, 111, 114, 101]⟩]) a t = true := by have := putB_more (d := ⟨ss, a, t⟩) (s := ⟨#[109, 111, 114, 101]⟩) HLB.out; rw [← this]; unfold putB; rw [HLB.out, decide_eq_true (show ss.length < 200 by omega)]; rfl
          have C4 : Hid (∀ w', Fr w6 w' → Calls Try.prog 36 #[.agg #[.slice aq (ss.length + 1) cq, .int .i64 a, .int .i64 t]] w' fun e w'' => e = .returned (.bool true) ∧ Fr w' w'') := fun w' hf => by have := implLinkOk_any _ (ss ++ [⟨#[109, 111, 114, 101]⟩]) a t w' (HR6.out.fr hf); rw [h4] at this; exact this
          obtain ⟨N, hN⟩ : ∃ N, (pkL ⟨ss, a, t⟩ 1 0 1).length = N := ⟨_, rfl⟩
          have C5 : Hid (∀ w', Fr w1 w' → Calls Try.prog 37 #[.agg #[.slice al ss.length cl, .int .i64 a, .int .i64 t], .int .i64 1, .int .i64 0, .int .i64 1] w' fun e w'' => ∃ ax cx, e = .returned (.slice ax N cx) ∧ Fr w' w'') := fun w' hf => (implLinkPackets_any ⟨ss, a, t⟩ 1 0 1 (by show ss.length ≤ _; omega) _ w' ⟨_, rfl, HR1.out.fr hf⟩).mono fun e w'' h => by obtain ⟨ax, cx, h1, h2, h3⟩ := h; rw [hN] at h1; exact ⟨ax, cx, h1, h3⟩
          have C6 : Hid (∀ w', Fr w1 w' → Calls Try.prog 38 #[.agg #[.slice al ss.length cl, .int .i64 a, .int .i64 t], .int .i64 1, .int .i64 0, .int .i64 1] w' fun e w'' => ∃ ax cx, e = .returned (.slice ax N cx) ∧ Fr w' w'') := fun w' hf => (specLinkPackets_any ⟨ss, a, t⟩ 1 0 1 (by show ss.length ≤ _; omega) _ w' ⟨_, rfl, HR1.out.fr hf⟩).mono fun e w'' h => by obtain ⟨ax, cx, h1, h2, h3⟩ := h; rw [hN] at h1; exact ⟨ax, cx, h1, h3⟩
          clear h4 hN
          have hwl : IntKind.i64.wrap ((ss.length : Int) + 1) = (ss.length : Int) + 1 := IntWalk.i64_in _ (by omega)
          have hd4 : ((((ss.length + 1 : Nat) : Int)) == (ss.length : Int) + 1) = true := by rw [beq_iff_eq]; omega
          have hd5 : ((ss.length : Int) + 1 == (ss.length : Int) + 1) = true := beq_self_eq_true _
          have hd1 : decide (a ≤ A) = true := decide_eq_true hA1
          have hd2 : decide (A ≤ (ss.length : Int)) = true := decide_eq_true hA2
          have hd3 : decide ((sl.length : Int) ≤ 3) = true := decide_eq_true (by omega)
          simp only [List.append_eq, List.cons_append, List.nil_append]
          go_region_held3 (fun w' => SBL w6 w6.heap.size #[.slice aq (ss.length + 1) cq, .int .i64 a, .int .i64 t] 53 w') (refine SBL.mk (by repeat (first | (with_reducible exact Fr.refl _) | (with_reducible assumption) | (with_reducible refine Fr.drewN ?_ _) | (with_reducible refine Fr.drew ?_) | (with_reducible refine Fr.alloc ?_ _) | (with_reducible refine Fr.setCell ?_ (by (first | (with_reducible assumption) | omega | (simp only [World.size_alloc, World.size_setCell, World.size_drew, World.heap_drewN]; omega) | (simp; done) | (simp; omega))) _) | (with_reducible refine Fr.trans ?_ (by with_reducible assumption)))) (by (repeat (first | (with_reducible exact Box.new _ _ _) | (with_reducible apply Box.drew) | (apply Box.set_to) | (apply Box.new'; (first | with_reducible rfl | (focus (simp; done)))) | (with_reducible refine Box.alloc ?_ _) | (apply Box.fr; (case hf => with_reducible assumption)))); all_goals rfl)) (first | (go_at_call 36; refine (C4.out _ (by repeat (first | (with_reducible exact Fr.refl _) | (with_reducible assumption) | (with_reducible refine Fr.drewN ?_ _) | (with_reducible refine Fr.drew ?_) | (with_reducible refine Fr.alloc ?_ _) | (with_reducible refine Fr.setCell ?_ (by (first | (with_reducible assumption) | omega | (simp only [World.size_alloc, World.size_setCell, World.size_drew, World.heap_drewN]; omega) | (simp; done) | (simp; omega))) _) | (with_reducible refine Fr.trans ?_ (by with_reducible assumption))))).mono ?_; rintro e w7 ⟨rfl, hf7⟩) | (go_at_call 37; refine (C5.out _ (by repeat (first | (with_reducible exact Fr.refl _) | (with_reducible assumption) | (with_reducible refine Fr.drewN ?_ _) | (with_reducible refine Fr.drew ?_) | (with_reducible refine Fr.alloc ?_ _) | (with_reducible refine Fr.setCell ?_ (by (first | (with_reducible assumption) | omega | (simp only [World.size_alloc, World.size_setCell, World.size_drew, World.heap_drewN]; omega) | (simp; done) | (simp; omega))) _) | (with_reducible refine Fr.trans ?_ (by with_reducible assumption))))).mono ?_; rintro e w8 ⟨ax8, cx8, rfl, hf8⟩) | (go_at_call 38; refine (C6.out _ (by repeat (first | (with_reducible exact Fr.refl _) | (with_reducible assumption) | (with_reducible refine Fr.drewN ?_ _) | (with_reducible refine Fr.drew ?_) | (with_reducible refine Fr.alloc ?_ _) | (with_reducible refine Fr.setCell ?_ (by (first | (with_reducible assumption) | omega | (simp only [World.size_alloc, World.size_setCell, World.size_drew, World.heap_drewN]; omega) | (simp; done) | (simp; omega))) _) | (with_reducible refine Fr.trans ?_ (by with_reducible assumption))))).mono ?_; rintro e w9 ⟨ax9, cx9, rfl, hf9⟩))
          go_wp2_with fail
          go_ret
          exact ⟨rfl, by repeat (first | (with_reducible exact Fr.refl _) | (with_reducible assumption) | (with_reducible refine Fr.drewN ?_ _) | (with_reducible refine Fr.drew ?_) | (with_reducible refine Fr.alloc ?_ _) | (with_reducible refine Fr.setCell ?_ (by (first | (with_reducible assumption) | omega | (simp only [World.size_alloc, World.size_setCell, World.size_drew, World.heap_drewN]; omega) | (simp; done) | (simp; omega))) _) | (with_reducible refine Fr.trans ?_ (by with_reducible assumption)))⟩
    · obtain ⟨hc1, hc2⟩ := hcase
      have hq0 : ¬ ((q : Int)) > 0 := by omega
      have hpk : pktB 1 1 2 (q : Int) (k : Int) ⟨#[]⟩ = true := pktB_draw (by omega) (by omega) (by omega) (by omega) (by rw [if_pos (by omega)]; rfl)
      have htb : takeB ⟨ss, a, t⟩ ⟨1, 1, 2, (q : Int), (k : Int), ⟨#[]⟩⟩ = true := by unfold takeB; rw [HLB.out]; simpa using hpk
      obtain ⟨A, hA, hA1, hA2⟩ : ∃ A, takeA ⟨ss, a, t⟩ ⟨1, 1, 2, (q : Int), (k : Int), ⟨#[]⟩⟩ = A ∧ a ≤ A ∧ A ≤ ss.length := by refine ⟨_, rfl, ?_, ?_⟩ <;> (unfold takeA; rw [htb]; simp only [true_and]; split <;> omega)
      have hT : takeN ⟨ss, a, t⟩ ⟨1, 1, 2, (q : Int), (k : Int), ⟨#[]⟩⟩ = t := by unfold takeN; rw [htb]; exact if_neg (fun h => hc1 h.2)
      have hX : takeT ⟨ss, a, t⟩ ⟨1, 1, 2, (q : Int), (k : Int), ⟨#[]⟩⟩ = ⟨#[]⟩ := by unfold takeT; rw [htb]; exact if_neg (fun h => hc1 h.2)
      have hlb2 := linkB_draw (t := t) hl HSS.out (show 0 ≤ A by omega) hA2 (by omega) (by omega)
      have htb2 : takeB ⟨ss, A, t⟩ ⟨1, 1, 2, (q : Int), (k : Int), ⟨#[]⟩⟩ = true := by unfold takeB; rw [hlb2]; simpa using hpk
      obtain ⟨A2, hA3⟩ : ∃ A2, takeA ⟨ss, A, t⟩ ⟨1, 1, 2, (q : Int), (k : Int), ⟨#[]⟩⟩ = A2 := ⟨_, rfl⟩
      have hT2 : takeN ⟨ss, A, t⟩ ⟨1, 1, 2, (q : Int), (k : Int), ⟨#[]⟩⟩ = t := by unfold takeN; rw [htb2]; exact if_neg (fun h => hc1 h.2)
      have hX2 : takeT ⟨ss, A, t⟩ ⟨1, 1, 2, (q : Int), (k : Int), ⟨#[]⟩⟩ = ⟨#[]⟩ := by unfold takeT; rw [htb2]; exact if_neg (fun h => hc1 h.2)
      have C1 : Hid (∀ w', StrsR w' (.slice al ss.length cl) ss → _) := fun w' h => take1_any ss a t ⟨1, 1, 2, (q : Int), (k : Int), ⟨#[]⟩⟩ hl al cl A t ⟨#[]⟩ hA hT hX w' h
      have C2 : Hid (∀ ao' cap' w', StrsR w' (.slice ao' ss.length cap') ss → _) := fun ao' cap' w' h => take1_any ss A t ⟨1, 1, 2, (q : Int), (k : Int), ⟨#[]⟩⟩ hl ao' cap' A2 t ⟨#[]⟩ hA3 hT2 hX2 w' h
      have C3 : Hid (∀ w', StrsR w' (.slice al ss.length cl) ss → _) := fun w' h => put1_any ss a t ⟨#[109, 111, 114, 101]⟩ hl HLB.out (by decide) al cl w' h
      clear hpk htb hT hX hA hlb2 htb2 hA3 hT2 hX2
      have HC := Lib.hid hc1; have hq8 : q ≤ 7 := by omega
      clear hc1
      have HC2 := Lib.hid hc2
      clear hc2
      go_wp2_with fail
      refine (C1.out _ (HR1.out.fr (by repeat (first | (with_reducible exact Fr.refl _) | (with_reducible assumption) | (with_reducible refine Fr.drewN ?_ _) | (with_reducible refine Fr.drew ?_) | (with_reducible refine Fr.alloc ?_ _) | (with_reducible refine Fr.setCell ?_ (by (first | (with_reducible assumption) | omega | (simp only [World.size_alloc, World.size_setCell, World.size_drew, World.heap_drewN]; omega) | (simp; done) | (simp; omega))) _) | (with_reducible refine Fr.trans ?_ (by with_reducible assumption)))))).mono ?_
      rintro e w3 ⟨an, cn, rfl, hr3, hf3⟩
      have HR3 := Lib.hid hr3
      clear hr3
      have z3 := hf3.size; (try simp only [World.size_alloc, World.size_setCell, World.size_drew] at z3)
      have B1 := (B1.alloc _).fr hf3
      have B2 : Box w3 w2.heap.size #[.int .i64 1, .int .i64 1, .int .i64 2, .int .i64 q, .int .i64 k, .string ⟨#[]⟩] 27 := (Box.new _ _ _).fr hf3
      clear F1 c0 c1
      have F1 := B1.facts
      have F2 := B2.facts
      go_wp2_with fail
      refine (C2.out _ _ _ (HR3.out.fr (by repeat (first | (with_reducible exact Fr.refl _) | (with_reducible assumption) | (with_reducible refine Fr.drewN ?_ _) | (with_reducible refine Fr.drew ?_) | (with_reducible refine Fr.alloc ?_ _) | (with_reducible refine Fr.setCell ?_ (by (first | (with_reducible assumption) | omega | (simp only [World.size_alloc, World.size_setCell, World.size_drew, World.heap_drewN]; omega) | (simp; done) | (simp; omega))) _) | (with_reducible refine Fr.trans ?_ (by with_reducible assumption)))))).mono ?_
      rintro e w4 ⟨am, cm, rfl, hr4, hf4⟩
      clear hr4
      have z4 := hf4.size; (try simp only [World.size_alloc, World.size_setCell, World.size_drew] at z4)
      have B1 := (B1.alloc _).fr hf4
      have B3 : Box w4 w3.heap.size #[.slice an ss.length cn, .int .i64 A, .int .i64 t] 53 := (Box.new _ _ _).fr hf4
      clear F1 F2 B2
      have F1 := B1.facts
      have F3 := B3.facts
      go_wp2_with fail
      refine (implLinkSends_any _ ⟨ss, a, t⟩ _ ⟨_, rfl, HR1.out.fr (by repeat (first | (with_reducible exact Fr.refl _) | (with_reducible assumption) | (with_reducible refine Fr.drewN ?_ _) | (with_reducible refine Fr.drew ?_) | (with_reducible refine Fr.alloc ?_ _) | (with_reducible refine Fr.setCell ?_ (by (first | (with_reducible assumption) | omega | (simp only [World.size_alloc, World.size_setCell, World.size_drew, World.heap_drewN]; omega) | (simp; done) | (simp; omega))) _) | (with_reducible refine Fr.trans ?_ (by with_reducible assumption))))⟩).mono ?_
      rintro e w5 ⟨aos, cos, rfl, hs5, hf5⟩
      have z5 := hf5.size; (try simp only [World.size_alloc, World.size_setCell, World.size_drew] at z5)
      have B1 := (B1.alloc _).fr hf5
      have B3 := (B3.alloc _).fr hf5
      have B4 : Box w5 w4.heap.size #[.slice am ss.length cm, .int .i64 A2, .int .i64 t] 53 := (Box.new _ _ _).fr hf5
      clear F1 F3
      have F1 := B1.facts
      have hsn := sendsN_le ⟨ss, a, t⟩
      have hsl := sendsL_length ⟨ss, a, t⟩
      obtain ⟨sl, hsl0⟩ : ∃ l, sendsL ⟨ss, a, t⟩ = l := ⟨_, rfl⟩
      have HSA : Hid (∀ j, j < sl.length → iAt sl j = a + j + 1) := fun j hj => by rw [← hsl0]; unfold sendsL; exact sends_at ⟨ss, a, t⟩ _ j (by rw [← hsl0, hsl] at hj; exact hj)
      rw [hsl0] at hs5 hsl ⊢
      have hsl3 : sl.length ≤ 3 := by omega
      clear hsl hsn hsl0
      obtain ⟨ax, bs, os, cx, hv, hcs1, hcs2, fs⟩ := IntsR.one hs5.rd
      cases hv
      clear hs5
      have FS := Lib.hid fs
      clear fs
      go_wp2_with fail
      go_loopw [12] (fun i wr => ∃ j : Nat, j ≤ sl.length ∧ i = .int .i64 j ∧ Fr w5 wr) (fun i _ => sl.length - (intOf i).toNat)
      case atStart => exact ⟨0, Nat.zero_le _, rfl, Fr.refl _⟩
      case round =>
        obtain ⟨j, hj, rfl, hfr⟩ := hrel
        have B1 := B1.fr hfr
        clear F1
        have F1 := B1.facts
        by_cases hlt : j < sl.length
        · obtain ⟨rfl, hbs, fs⟩ := FS.out (by omega)
          have hs1 := fs j hlt
          rw [HSA.out j hlt] at hs1
          have cs : wr.cell? ⟨bs, os + j, none⟩ = some (.int .i64 (a + j + 1)) := (hfr.cell (p := ⟨bs, _, none⟩) hbs).trans hs1
          clear fs hs1
          have hwa : IntKind.i64.wrap (a + 1) = a + 1 := IntWalk.i64_in _ (by omega)
          have hne : (a + (j : Int) + 1 != a + 1 + (j : Int)) = false := by simp; omega
          go_wp2_with fail
          go_quiet (fail)
          go_wp2_with fail
          go_roundw
          case rel => exact ⟨j + 1, by omega, by go_num, by repeat (first | (with_reducible exact Fr.refl _) | (with_reducible assumption) | (with_reducible refine Fr.drewN ?_ _) | (with_reducible refine Fr.drew ?_) | (with_reducible refine Fr.alloc ?_ _) | (with_reducible refine Fr.setCell ?_ (by (first | (with_reducible assumption) | omega | (simp only [World.size_alloc, World.size_setCell, World.size_drew, World.heap_drewN]; omega) | (simp; done) | (simp; omega))) _) | (with_reducible refine Fr.trans ?_ (by with_reducible assumption)))⟩
          case measure => (simp [intOf]; omega)
        · obtain rfl : j = sl.length := by omega
          have B3 := B3.fr hfr
          have B4 := B4.fr hfr
          go_wp2_with fail
          refine (C3.out _ (HR1.out.fr (by repeat (first | (with_reducible exact Fr.refl _) | (with_reducible assumption) | (with_reducible refine Fr.drewN ?_ _) | (with_reducible refine Fr.drew ?_) | (with_reducible refine Fr.alloc ?_ _) | (with_reducible refine Fr.setCell ?_ (by (first | (with_reducible assumption) | omega | (simp only [World.size_alloc, World.size_setCell, World.size_drew, World.heap_drewN]; omega) | (simp; done) | (simp; omega))) _) | (with_reducible refine Fr.trans ?_ (by with_reducible assumption)))))).mono ?_
          rintro e w6 ⟨aq, cq, rfl, hr6, hf6⟩
          have HR6 := Lib.hid hr6
          clear hr6
          have z6 := hf6.size; (try simp only [World.size_alloc, World.size_setCell, World.size_drew] at z6)
          have B1 := B1.fr hf6
          have B3 := B3.fr hf6
          have B4 := B4.fr hf6
          clear F1
          have F1 := B1.facts
          have F3 := B3.facts
          have F4 := B4.facts
          have hcm := bytes_bne (x := ⟨#[]⟩) (y := ⟨#[108, 101, 116, 116, 101, 114]⟩) (by decide)
          have hbq : ((q : Int) == t + 1) = false := by have := HC.out; simpa using this
          have hwt : IntKind.i64.wrap (t + 1) = t + 1 := IntWalk.i64_in _ (by omega)
          go_wp2_with fail
          have d1 : ∀ w', SBL w6 w6.heap.size #[.slice aq (ss.length + 1) cq, .int .i64 a, .int .i64 t] 53 w' → ∀ o, w'.cell? ⟨w1.heap.size, o, none⟩ = _ := fun w' h o => (B1.fr h.out).cell o
          have d3 : ∀ w', SBL w6 w6.heap.size #[.slice aq (ss.length + 1) cq, .int .i64 a, .int .i64 t] 53 w' → ∀ o, w'.cell? ⟨w3.heap.size, o, none⟩ = _ := fun w' h o => (B3.fr h.out).cell o
          have d4 : ∀ w', SBL w6 w6.heap.size #[.slice aq (ss.length + 1) cq, .int .i64 a, .int .i64 t] 53 w' → ∀ o, w'.cell? ⟨w4.heap.size, o, none⟩ = _ := fun w' h o => (B4.fr h.out).cell o
          have d6 : ∀ w', SBL w6 w6.heap.size #[.slice aq (ss.length + 1) cq, .int .i64 a, .int .i64 t] 53 w' → ∀ o, w'.cell? ⟨w6.heap.size, o, none⟩ = _ := fun w' h o => h.box.cell o
          have h4 : linkB (ss ++ [⟨#[109, 111, 114, 101]⟩]) a t = true := by have := putB_more (d := ⟨ss, a, t⟩) (s := ⟨#[109, 111, 114, 101]⟩) HLB.out; rw [← this]; unfold putB; rw [HLB.out, decide_eq_true (show ss.length < 200 by omega)]; rfl
          have C4 : Hid (∀ w', Fr w6 w' → Calls Try.prog 36 #[.agg #[.slice aq (ss.length + 1) cq, .int .i64 a, .int .i64 t]] w' fun e w'' => e = .returned (.bool true) ∧ Fr w' w'') := fun w' hf => by have := implLinkOk_any _ (ss ++ [⟨#[109, 111, 114, 101]⟩]) a t w' (HR6.out.fr hf); rw [h4] at this; exact this
          obtain ⟨N, hN⟩ : ∃ N, (pkL ⟨ss, a, t⟩ 1 0 1).length = N := ⟨_, rfl⟩
          have C5 : Hid (∀ w', Fr w1 w' → Calls Try.prog 37 #[.agg #[.slice al ss.length cl, .int .i64 a, .int .i64 t], .int .i64 1, .int .i64 0, .int .i64 1] w' fun e w'' => ∃ ax cx, e = .returned (.slice ax N cx) ∧ Fr w' w'') := fun w' hf => (implLinkPackets_any ⟨ss, a, t⟩ 1 0 1 (by show ss.length ≤ _; omega) _ w' ⟨_, rfl, HR1.out.fr hf⟩).mono fun e w'' h => by obtain ⟨ax, cx, h1, h2, h3⟩ := h; rw [hN] at h1; exact ⟨ax, cx, h1, h3⟩
          have C6 : Hid (∀ w', Fr w1 w' → Calls Try.prog 38 #[.agg #[.slice al ss.length cl, .int .i64 a, .int .i64 t], .int .i64 1, .int .i64 0, .int .i64 1] w' fun e w'' => ∃ ax cx, e = .returned (.slice ax N cx) ∧ Fr w' w'') := fun w' hf => (specLinkPackets_any ⟨ss, a, t⟩ 1 0 1 (by show ss.length ≤ _; omega) _ w' ⟨_, rfl, HR1.out.fr hf⟩).mono fun e w'' h => by obtain ⟨ax, cx, h1, h2, h3⟩ := h; rw [hN] at h1; exact ⟨ax, cx, h1, h3⟩
          clear h4 hN
          have hwl : IntKind.i64.wrap ((ss.length : Int) + 1) = (ss.length : Int) + 1 := IntWalk.i64_in _ (by omega)
          have hd4 : ((((ss.length + 1 : Nat) : Int)) == (ss.length : Int) + 1) = true := by rw [beq_iff_eq]; omega
          have hd5 : ((ss.length : Int) + 1 == (ss.length : Int) + 1) = true := beq_self_eq_true _
          have hd1 : decide (a ≤ A) = true := decide_eq_true hA1
          have hd2 : decide (A ≤ (ss.length : Int)) = true := decide_eq_true hA2
          have hd3 : decide ((sl.length : Int) ≤ 3) = true := decide_eq_true (by omega)
          simp only [List.append_eq, List.cons_append, List.nil_append]
          go_region_held3 (fun w' => SBL w6 w6.heap.size #[.slice aq (ss.length + 1) cq, .int .i64 a, .int .i64 t] 53 w') (refine SBL.mk (by repeat (first | (with_reducible exact Fr.refl _) | (with_reducible assumption) | (with_reducible refine Fr.drewN ?_ _) | (with_reducible refine Fr.drew ?_) | (with_reducible refine Fr.alloc ?_ _) | (with_reducible refine Fr.setCell ?_ (by (first | (with_reducible assumption) | omega | (simp only [World.size_alloc, World.size_setCell, World.size_drew, World.heap_drewN]; omega) | (simp; done) | (simp; omega))) _) | (with_reducible refine Fr.trans ?_ (by with_reducible assumption)))) (by (repeat (first | (with_reducible exact Box.new _ _ _) | (with_reducible apply Box.drew) | (apply Box.set_to) | (apply Box.new'; (first | with_reducible rfl | (focus (simp; done)))) | (with_reducible refine Box.alloc ?_ _) | (apply Box.fr; (case hf => with_reducible assumption)))); all_goals rfl)) (first | (go_at_call 36; refine (C4.out _ (by repeat (first | (with_reducible exact Fr.refl _) | (with_reducible assumption) | (with_reducible refine Fr.drewN ?_ _) | (with_reducible refine Fr.drew ?_) | (with_reducible refine Fr.alloc ?_ _) | (with_reducible refine Fr.setCell ?_ (by (first | (with_reducible assumption) | omega | (simp only [World.size_alloc, World.size_setCell, World.size_drew, World.heap_drewN]; omega) | (simp; done) | (simp; omega))) _) | (with_reducible refine Fr.trans ?_ (by with_reducible assumption))))).mono ?_; rintro e w7 ⟨rfl, hf7⟩) | (go_at_call 37; refine (C5.out _ (by repeat (first | (with_reducible exact Fr.refl _) | (with_reducible assumption) | (with_reducible refine Fr.drewN ?_ _) | (with_reducible refine Fr.drew ?_) | (with_reducible refine Fr.alloc ?_ _) | (with_reducible refine Fr.setCell ?_ (by (first | (with_reducible assumption) | omega | (simp only [World.size_alloc, World.size_setCell, World.size_drew, World.heap_drewN]; omega) | (simp; done) | (simp; omega))) _) | (with_reducible refine Fr.trans ?_ (by with_reducible assumption))))).mono ?_; rintro e w8 ⟨ax8, cx8, rfl, hf8⟩) | (go_at_call 38; refine (C6.out _ (by repeat (first | (with_reducible exact Fr.refl _) | (with_reducible assumption) | (with_reducible refine Fr.drewN ?_ _) | (with_reducible refine Fr.drew ?_) | (with_reducible refine Fr.alloc ?_ _) | (with_reducible refine Fr.setCell ?_ (by (first | (with_reducible assumption) | omega | (simp only [World.size_alloc, World.size_setCell, World.size_drew, World.heap_drewN]; omega) | (simp; done) | (simp; omega))) _) | (with_reducible refine Fr.trans ?_ (by with_reducible assumption))))).mono ?_; rintro e w9 ⟨ax9, cx9, rfl, hf9⟩))
          go_wp2_with fail
          go_ret
          exact ⟨rfl, by repeat (first | (with_reducible exact Fr.refl _) | (with_reducible assumption) | (with_reducible refine Fr.drewN ?_ _) | (with_reducible refine Fr.drew ?_) | (with_reducible refine Fr.alloc ?_ _) | (with_reducible refine Fr.setCell ?_ (by (first | (with_reducible assumption) | omega | (simp only [World.size_alloc, World.size_setCell, World.size_drew, World.heap_drewN]; omega) | (simp; done) | (simp; omega))) _) | (with_reducible refine Fr.trans ?_ (by with_reducible assumption)))⟩
  · go_enter Try.func6, Try.ntmps6
    go_wp2_with (go_at_call 19; refine (big_any _ _ _ _ hn).mono ?_; rintro e w0 ⟨rfl, rfl⟩)
    go_ret
    exact ⟨rfl, by repeat (first | (with_reducible exact Fr.refl _) | (with_reducible assumption) | (with_reducible refine Fr.drewN ?_ _) | (with_reducible refine Fr.drew ?_) | (with_reducible refine Fr.alloc ?_ _) | (with_reducible refine Fr.setCell ?_ (by (first | (with_reducible assumption) | omega | (simp only [World.size_alloc, World.size_setCell, World.size_drew, World.heap_drewN]; omega) | (simp; done) | (simp; omega))) _) | (with_reducible refine Fr.trans ?_ (by with_reducible assumption)))⟩
end Go.Proofs.Ytnlcgffffjjojaa
