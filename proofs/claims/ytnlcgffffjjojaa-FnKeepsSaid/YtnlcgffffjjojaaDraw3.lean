/- The reference's drawn link (spec.l18Link, DrawLink): a link that is right. No condition but the size of the draw. -/
import Derived.Test.YtnlcgffffjjojaaDraw2
import Derived.Test.YtnlcgffffjjojaaLk
import Derived.Test.YtnlcgffffjjojaaLk3
import Derived.Deep.RegionLaw
namespace Go.Proofs.Ytnlcgffffjjojaa
open Go.RowKit
set_option linter.unusedVariables false
set_option linter.unusedSimpArgs false

theorem Span.above' {lo hi L M : Nat} {a w w' : World} (h : Span lo hi a w) (k : Span L M w w') (hL : a.heap.size ≤ L) : Span lo hi a w' :=
  ⟨k.os.trans h.os, k.tape.trans h.tape, k.output.trans h.output, Nat.le_trans h.size k.size, fun i hi ho => (k.block i (Nat.lt_of_lt_of_le hi h.size) (.inl (by omega))).trans (h.block i hi ho)⟩
theorem Span.setb {lo hi q i : Nat} {a w : World} {v : Value} (h : Span lo hi a w) (h1 : lo ≤ q) (h2 : q < hi) : Span lo hi a (w.setCell ⟨q, i, none⟩ v) := h.trans (by
  refine ⟨rfl, rfl, rfl, by simp, fun k hk ho => ?_⟩
  exact heap_setCell_other w ⟨q, i, none⟩ k v (by show k ≠ q; omega))
theorem Box.far' {w : World} {b q i : Nat} {X : Array Value} {T : TypeId} (h : Box w b X T) (hp : b ≠ q) (v : Value) : Box (w.setCell ⟨q, i, none⟩ v) b X T := h.other (p := ⟨q, i, none⟩) hp v
theorem ByR.here {w w' : World} {hi : Nat} {ao : Option Addr} {n cap : Nat} (h : ByR w hi ao n cap) (hf : Fr w w') : ByR w' w'.heap.size ao n cap := by
  have h2 := h.fr hf
  exact ⟨h2.1, h2.2.1, fun hn => by obtain ⟨c, o, a1, a2, a3, a4⟩ := h2.2.2 hn; exact ⟨c, o, a1, a3, a3, a4⟩⟩
theorem all_body {ss : List ByteArray} (h : ∀ s ∈ ss, 1 ≤ s.size ∧ s.size ≤ 4) : ss.all bodyB = true := by
  rw [List.all_eq_true]
  intro s hs
  have := h s hs
  unfold bodyB
  exact decide_eq_true ⟨this.1, by omega⟩
theorem putLink_any (ss : List ByteArray) (s : ByteArray) (hk : ss.length ≤ 7) (hss : ∀ s ∈ ss, 1 ≤ s.size ∧ s.size ≤ 4) (hs : 1 ≤ s.size ∧ s.size ≤ 4) (v : Value) (w : World) (hv : LinkRd w v ⟨ss, 0, 0⟩) :
    Calls Try.prog 43 #[v, .string s] w fun e w' => ∃ ao cap, e = .returned (.tuple #[.agg #[.slice ao (ss.length + 1) cap, .int .i64 0, .int .i64 0], .bool true]) ∧ StrsW w' w.heap.size w'.heap.size (.slice ao (ss.length + 1) cap) (ss ++ [s]) ∧ Fr w w' := by
  have hb : putB ⟨ss, 0, 0⟩ s = true := by
    unfold putB linkB
    rw [all_body hss, decide_eq_true (show ss.length ≤ 200 ∧ (0 : Int) ≤ 0 ∧ (0 : Int) ≤ ss.length ∧ (0 : Int) ≤ 0 ∧ (0 : Int) ≤ 200 by omega), decide_eq_true (show ss.length < 200 by omega)]
    unfold bodyB
    rw [decide_eq_true ⟨hs.1, by omega⟩]
    rfl
  refine (specLinkPut_any ⟨ss, 0, 0⟩ s (by show ss.length ≤ _; omega) v w hv).mono fun e w' h => ?_
  rw [putD_ok hb, hb] at h
  obtain ⟨ao, cap, he, hw, hf⟩ := h
  have hl : (ss ++ [s]).length = ss.length + 1 := by simp
  simp only [hl] at he hw
  refine ⟨ao, cap, he, ?_, hf⟩
  obtain ⟨a2, c2, h1, h2⟩ := hw
  simp only [hl] at h1 h2
  cases h1
  exact h2
set_option maxHeartbeats 8000000 in
set_option maxRecDepth 100000 in
theorem l18Link_any (b : Nat) (w : World) (hc : Cu w b) :
    Calls Try.prog 104 #[.pointer (some ⟨b, 0, none⟩)] w fun e w' => ∃ (d : LinkD) (ao : Option Addr) (cap : Nat), d.f0.length ≤ 8 ∧ (∀ s ∈ d.f0, 1 ≤ s.size ∧ s.size ≤ 4) ∧ 0 ≤ d.f1 ∧ d.f1 ≤ d.f0.length ∧ 0 ≤ d.f2 ∧ d.f2 ≤ 4 ∧
      e = .returned (.agg #[.slice ao d.f0.length cap, .int .i64 d.f1, .int .i64 d.f2]) ∧ (∃ lo hi, StrsW w' lo hi (.slice ao d.f0.length cap) d.f0 ∧ w.heap.size ≤ lo) ∧ Cu w' b ∧ Span b (b + 1) w w' := by
  have hbl := hc.lt
  go_enter Try.func104, Try.ntmps104
  go_wp2_with fail
  go_loopw [4] (fun i wr => ∃ (ss : List ByteArray) (ao : Option Addr) (cap lo hi : Nat), ss.length ≤ 8 ∧ i = .int .i64 ss.length ∧ (∀ s ∈ ss, 1 ≤ s.size ∧ s.size ≤ 4) ∧ Box wr (w.heap.size + 1) #[.slice ao ss.length cap, .int .i64 0, .int .i64 0] 53 ∧ StrsW wr lo hi (.slice ao ss.length cap) ss ∧ w.heap.size + 2 ≤ lo ∧ Box wr w.heap.size #[.slice none 0 0, .int .i64 0, .int .i64 0] 53 ∧ Cu wr b ∧ Span b (b + 1) w wr) (fun i _ => 8 - (intOf i).toNat)
  case atStart =>
    refine ⟨[], none, 0, w.heap.size + 2, w.heap.size + 2, by simp, rfl, fun s hs => by simp at hs, ?_, StrsW.nil _ _ _, by omega, ?_, hc.fr (by repeat (first | (with_reducible exact Fr.refl _) | (with_reducible assumption) | (with_reducible refine Fr.drewN ?_ _) | (with_reducible refine Fr.drew ?_) | (with_reducible refine Fr.alloc ?_ _) | (with_reducible refine Fr.setCell ?_ (by (first | (with_reducible assumption) | omega | (simp only [World.size_alloc, World.size_setCell, World.size_drew, World.heap_drewN]; omega) | (simp; done) | (simp; omega))) _) | (with_reducible refine Fr.trans ?_ (by with_reducible assumption)))), Span.of_fr (by repeat (first | (with_reducible exact Fr.refl _) | (with_reducible assumption) | (with_reducible refine Fr.drewN ?_ _) | (with_reducible refine Fr.drew ?_) | (with_reducible refine Fr.alloc ?_ _) | (with_reducible refine Fr.setCell ?_ (by (first | (with_reducible assumption) | omega | (simp only [World.size_alloc, World.size_setCell, World.size_drew, World.heap_drewN]; omega) | (simp; done) | (simp; omega))) _) | (with_reducible refine Fr.trans ?_ (by with_reducible assumption))))⟩
    · exact Box.new' (by simp)
    · exact (Box.new _ _ _).alloc _
  case round =>
    obtain ⟨ss, ao, cap, lo, hi, hk, rfl, hss, BL, hW, hlo, BR, hcu, hsp⟩ := hrel
    have HSS := Lib.hid hss
    have HW := Lib.hid hW
    clear hss hW
    have hs0 := hsp.size
    have hblt := BL.lt
    have FLr := BL.facts
    go_wp2_with fail
    refine (l01Below_any b _ _ hcu (by omega)).mono ?_
    rintro e w0 ⟨x, hx1, hx2, rfl, hc0, sp0⟩
    have hx3 := hx1 (by omega)
    clear hx1 hx2
    have hs1 := sp0.size
    have BL0 := BL.span sp0 (.inr (by omega))
    have BR0 := BR.span sp0 (.inr (by omega))
    have HW0 := Lib.hid (HW.out.span sp0 (.inr (by omega)))
    clear FLr
    have FL0 := BL0.facts
    by_cases hlt : ss.length < x
    · go_wp2_with fail
      go_region_law (first
        | (go_simp; go_at_call 93; refine (l01Below_any b _ _ (hc0.fr (by repeat (first | (with_reducible exact Fr.refl _) | (with_reducible assumption) | (with_reducible refine Fr.drewN ?_ _) | (with_reducible refine Fr.drew ?_) | (with_reducible refine Fr.alloc ?_ _) | (with_reducible refine Fr.setCell ?_ (by (first | (with_reducible assumption) | omega | (simp only [World.size_alloc, World.size_setCell, World.size_drew, World.heap_drewN]; omega) | (simp; done) | (simp; omega))) _) | (with_reducible refine Fr.trans ?_ (by with_reducible assumption))))) (by omega)).mono ?_; rintro e w1 ⟨y, hy1, hy2, rfl, hc1, sp1⟩; have hy3 := hy1 (by omega); have BL1 := BL0.drew.span sp1 (.inr (by omega)); have FL1 := BL1.facts)
        | (go_simp; go_at_call 94; refine (l01Text_any b _ _ hc1).mono ?_; rintro e w2 ⟨s, hs, rfl, hc2, sp2⟩; have BL2 := BL1.span sp2 (.inr (by omega)); have FL2 := BL2.facts; have hsz : 1 ≤ s.size ∧ s.size ≤ 4 := by first | omega | (rw [show IntKind.i64.wrap (1 + (y : Int)) = 1 + y from IntWalk.i64_in _ (by omega)] at hs; omega))
        | (go_simp; go_at_call 43; refine (putLink_any ss s (by omega) HSS.out hsz _ _ ⟨_, rfl, (((HW0.out.fr (Fr.refl _).drew).span sp1 (.inr (by omega))).span sp2 (.inr (by omega))).rd⟩).mono ?_; rintro e w3 ⟨ao3, cap3, rfl, hl3, hf3⟩; have BL3 := BL2.fr hf3; have FL3 := BL3.facts))
      all_goals
        have BR3 := ((BR0.drew.span sp1 (.inr (by omega))).span sp2 (.inr (by omega))).fr hf3
        have hc3 : Cu w3 b := hc2.fr hf3
        have hs2 := sp1.size
        have hs3 := sp2.size
        have hs4 := hf3.size
        simp only [World.size_drew] at hs2
        have hsp3 : Span b (b + 1) w w3 := ((((hsp.trans sp0).drew').trans sp1).trans sp2).then_fr hf3
        go_wp2_with fail
        go_roundw
        case rel =>
          have spl : Span (w.heap.size + 1) (w.heap.size + 1 + 1) w3 _ := Span.setc (i := 2) (v := .int .i64 0) (Span.setc (i := 1) (v := .int .i64 0) (Span.setc (i := 0) (v := .slice ao3 (ss.length + 1) cap3) (Span.refl _ _ _)))
          have hl : (ss ++ [s]).length = ss.length + 1 := by simp
          refine ⟨ss ++ [s], ao3, cap3, w2.heap.size, w3.heap.size, by rw [hl]; omega, by rw [hl]; go_num, fun t ht => ?_, ?_, ?_, by omega, ?_, hc3.span spl (by omega), hsp3.above' spl (by omega)⟩
          · rcases List.mem_append.1 ht with h | h
            · exact HSS.out t h
            · simp at h; subst h; exact hsz
          · rw [hl]; exact ((BL3.set 0 _).set 1 _).set_to (by simp)
          · rw [hl]; change OwW _ _ _ _ _ _ _ _; (repeat (first | (with_reducible refine OwW.drewN ?_ _) | (with_reducible refine OwW.drew ?_) | (with_reducible refine OwW.alloc ?_ _) | (with_reducible refine OwW.set ?_ (by (first | (with_reducible assumption) | omega | (simp only [World.size_alloc, World.size_setCell, World.size_drew, World.heap_drewN]; omega) | (simp; done) | (simp; omega))) _) | (exact hl3)))
          · exact ((BR3.far' (by omega) _).far' (by omega) _).far' (by omega) _
        case measure => (simp [intOf]; omega)
    · go_wp2_with fail
      refine (l01Below_any b _ _ hc0 (by omega)).mono ?_
      rintro e w1 ⟨y, hy1, hy2, rfl, hc1, sp1⟩
      have hs2 := sp1.size
      have hy3 : (y : Int) ≤ ss.length := by first | (have := hy1 (by omega); omega) | (have e1 := IntWalk.i64_in ((ss.length : Int) + 1) (by omega); rw [e1] at hy1; have := hy1 (by omega); omega)
      have BL1 := BL0.span sp1 (.inr (by omega))
      have FL1 := BL1.facts
      have spl : Span (w.heap.size + 1) (w.heap.size + 1 + 1) w1 (w1.setCell ⟨w.heap.size + 1, 1, none⟩ (.int .i64 y)) := Span.setc (Span.refl _ _ _)
      go_wp2_with fail
      refine (l01Below_any b _ _ (hc1.span spl (by omega)) (by omega)).mono ?_
      rintro e w2 ⟨z, hz1, hz2, rfl, hc2, sp2⟩
      have hz3 := hz1 (by omega)
      have hs3 := sp2.size
      simp only [World.size_setCell] at hs3
      have BL2 : Box w2 (w.heap.size + 1) #[.slice ao ss.length cap, .int .i64 y, .int .i64 0] 53 := (BL1.set_to (by simp)).span sp2 (.inr (by omega))
      have FL2 := BL2.facts
      have BR2 := ((BR0.span sp1 (.inr (by omega))).far' (q := w.heap.size + 1) (i := 1) (by omega) (.int .i64 y)).span sp2 (.inr (by omega))
      have FR2 := BR2.facts
      have HW2 := Lib.hid (((HW0.out.span sp1 (.inr (by omega))).span spl (.inr (by omega))).span sp2 (.inr (by omega)))
      go_wp2_with fail
      refine bodyPost_ret (v := .agg #[.slice ao ss.length cap, .int .i64 y, .int .i64 z]) (by simp [results, Try.results104, go_sem, *]) rfl ⟨⟨ss, y, z⟩, ao, cap, hk, HSS.out, ?_, hy3, ?_, ?_, rfl, ?_, ?_, ?_⟩
      · show (0 : Int) ≤ y; omega
      · show (0 : Int) ≤ z; omega
      · show (z : Int) ≤ 4; omega
      · refine ⟨lo, hi, ?_, by omega⟩
        show StrsW _ lo hi (.slice ao ss.length cap) ss
        change OwW _ _ _ _ _ _ _ _; (repeat (first | (with_reducible refine OwW.drewN ?_ _) | (with_reducible refine OwW.drew ?_) | (with_reducible refine OwW.alloc ?_ _) | (with_reducible refine OwW.set ?_ (by (first | (with_reducible assumption) | omega | (simp only [World.size_alloc, World.size_setCell, World.size_drew, World.heap_drewN]; omega) | (simp; done) | (simp; omega))) _) | (exact HW2.out)))
      · refine Cu.span (lo := b + 1) (hi := w2.heap.size + 1) hc2 ?_ (by omega)
        repeat (first | with_reducible exact Span.refl _ _ _ | with_reducible refine Span.setb ?_ (by omega) (by omega))
      · have h1 : Span b (b + 1) w w2 := (((hsp.trans sp0).trans sp1).above' spl (by omega)).trans sp2
        refine Span.above' (L := w.heap.size) (M := w.heap.size + 2) h1 ?_ (Nat.le_refl _)
        repeat (first | exact Span.refl _ _ _ | refine Span.setb ?_ (by omega) (by omega))
set_option maxHeartbeats 2000000 in
set_option maxRecDepth 100000 in
theorem DrawLink_any (ao : Option Addr) (n cap : Nat) (w : World) (hy : ByR w w.heap.size ao n cap) :
    Calls Try.prog 32 #[.slice ao n cap] w fun e w' => ∃ (d : LinkD) (ao' : Option Addr) (cap' : Nat), d.f0.length ≤ 8 ∧ (∀ s ∈ d.f0, 1 ≤ s.size ∧ s.size ≤ 4) ∧ 0 ≤ d.f1 ∧ d.f1 ≤ d.f0.length ∧ 0 ≤ d.f2 ∧ d.f2 ≤ 4 ∧
      e = .returned (.agg #[.slice ao' d.f0.length cap', .int .i64 d.f1, .int .i64 d.f2]) ∧ StrsR w' (.slice ao' d.f0.length cap') d.f0 ∧ Fr w w' := by
  have HY := Lib.hid hy
  clear hy
  go_enter Try.func32, Try.ntmps32
  go_wp2_with fail
  refine (l01New_any ao n cap _ (HY.out.here (by repeat (first | (with_reducible exact Fr.refl _) | (with_reducible assumption) | (with_reducible refine Fr.drewN ?_ _) | (with_reducible refine Fr.drew ?_) | (with_reducible refine Fr.alloc ?_ _) | (with_reducible refine Fr.setCell ?_ (by (first | (with_reducible assumption) | omega | (simp only [World.size_alloc, World.size_setCell, World.size_drew, World.heap_drewN]; omega) | (simp; done) | (simp; omega))) _) | (with_reducible refine Fr.trans ?_ (by with_reducible assumption)))))).mono ?_
  rintro e w1 ⟨b, rfl, hb, hc1, hf1⟩
  have hs1 := hf1.size
  simp only [World.size_alloc] at hs1 hb
  have BR := (Box.new w #[.slice none 0 0, .int .i64 0, .int .i64 0] 53).fr hf1
  have FBR := BR.facts
  go_wp2_with fail
  refine (l18Link_any b _ hc1).mono ?_
  rintro e w2 ⟨d, ao', cap', h1, h2, h3, h4, h5, h6, rfl, ⟨lo, hi, hr, hlo⟩, _, sp2⟩
  have hs2 := sp2.size
  have BR2 := BR.span sp2 (.inl (by omega))
  have FB2 := BR2.facts
  have HR := Lib.hid hr
  have hf2 : Fr w w2 := sp2.fr (show Fr w w1 by repeat (first | (with_reducible exact Fr.refl _) | (with_reducible assumption) | (with_reducible refine Fr.drewN ?_ _) | (with_reducible refine Fr.drew ?_) | (with_reducible refine Fr.alloc ?_ _) | (with_reducible refine Fr.setCell ?_ (by (first | (with_reducible assumption) | omega | (simp only [World.size_alloc, World.size_setCell, World.size_drew, World.heap_drewN]; omega) | (simp; done) | (simp; omega))) _) | (with_reducible refine Fr.trans ?_ (by with_reducible assumption)))) (by omega)
  clear FBR
  go_wp2_with fail
  refine bodyPost_ret (v := .agg #[.slice ao' d.f0.length cap', .int .i64 d.f1, .int .i64 d.f2]) (by simp [results, Try.results32, go_sem, *]) rfl ⟨d, ao', cap', h1, h2, h3, h4, h5, h6, rfl, ?_, by repeat (first | (with_reducible exact Fr.refl _) | (with_reducible assumption) | (with_reducible refine Fr.drewN ?_ _) | (with_reducible refine Fr.drew ?_) | (with_reducible refine Fr.alloc ?_ _) | (with_reducible refine Fr.setCell ?_ (by (first | (with_reducible assumption) | omega | (simp only [World.size_alloc, World.size_setCell, World.size_drew, World.heap_drewN]; omega) | (simp; done) | (simp; omega))) _) | (with_reducible refine Fr.trans ?_ (by with_reducible assumption)))⟩
  refine StrsW.rd (lo := lo) (hi := hi) ?_
  change OwW _ _ _ _ _ _ _ _; (repeat (first | (with_reducible refine OwW.drewN ?_ _) | (with_reducible refine OwW.drew ?_) | (with_reducible refine OwW.alloc ?_ _) | (with_reducible refine OwW.set ?_ (by (first | (with_reducible assumption) | omega | (simp only [World.size_alloc, World.size_setCell, World.size_drew, World.heap_drewN]; omega) | (simp; done) | (simp; omega))) _) | (exact HR.out)))
end Go.Proofs.Ytnlcgffffjjojaa
