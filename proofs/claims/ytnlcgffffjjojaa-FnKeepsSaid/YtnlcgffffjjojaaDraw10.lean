/- The reference's drawn right disk (spec.l01Pick, l14Named, DrawRightDisk). No condition but the size of the draw. -/
import Derived.Test.YtnlcgffffjjojaaDraw3
import Derived.Test.YtnlcgffffjjojaaKpl
namespace Go.Proofs.Ytnlcgffffjjojaa
open Go.RowKit
set_option linter.unusedVariables false
set_option linter.unusedSimpArgs false
set_option maxHeartbeats 1000000 in
theorem l01Pick_any (b g : Nat) (xs : List ByteArray) (T : TypeId) (w : World) (hc : Cu w b) (hb : Box w g (xs.map Value.string).toArray T) (hg : b < g) (hx : 0 < xs.length) (hl : xs.length ≤ 256) :
    Calls Try.prog 168 #[.pointer (some ⟨b, 0, none⟩), .slice (some ⟨g, 0, none⟩) xs.length xs.length] w fun e w' => ∃ k, k < xs.length ∧ e = .returned (.string (sAt xs k)) ∧ Cu w' b ∧ Span b (b + 1) w w' := by
  go_enter Try.func168, Try.ntmps168
  go_wp2_with fail
  refine (l01Below_any b _ _ hc (by omega)).mono ?_
  rintro e w1 ⟨k, hk1, hk2, rfl, hc1, sp1⟩
  have hk3 : k < xs.length := by have := hk1 (by omega); omega
  have c0 : w1.cell? ⟨g, k, none⟩ = some (.string (sAt xs k)) := by
    rw [(hb.span sp1 (.inr (by omega))).cell]
    simp [sAt, List.getD, List.getElem?_eq_getElem hk3, hk3]
  clear hb
  go_wp2_with fail
  go_ret
  exact ⟨k, hk3, rfl, hc1, sp1⟩
def diskNames : List ByteArray := [⟨#[97]⟩, ⟨#[98]⟩, ⟨#[99]⟩, ⟨#[106, 48]⟩, ⟨#[106, 49]⟩, ⟨#[106, 43]⟩, ⟨#[115, 48]⟩, ⟨#[115, 43]⟩]
theorem diskNames_ok (k : Nat) (h : k < 8) : nameB (sAt diskNames k) = true := by
  rcases (show k = 0 ∨ k = 1 ∨ k = 2 ∨ k = 3 ∨ k = 4 ∨ k = 5 ∨ k = 6 ∨ k = 7 by omega) with rfl | rfl | rfl | rfl | rfl | rfl | rfl | rfl <;> decide
set_option maxHeartbeats 1000000 in
theorem l14Named_any (b : Nat) (w : World) (hc : Cu w b) :
    Calls Try.prog 96 #[.pointer (some ⟨b, 0, none⟩)] w fun e w' => ∃ nm : ByteArray, nameB nm = true ∧ e = .returned (.string nm) ∧ Cu w' b ∧ Span b (b + 1) w w' := by
  have hbl := hc.lt
  go_enter Try.func96, Try.ntmps96
  go_wp2_with fail
  refine (l01Pick_any b w.heap.size diskNames 9 _ (hc.fr (by repeat (first | (with_reducible exact Fr.refl _) | (with_reducible assumption) | (with_reducible refine Fr.drewN ?_ _) | (with_reducible refine Fr.drew ?_) | (with_reducible refine Fr.alloc ?_ _) | (with_reducible refine Fr.setCell ?_ (by (first | (with_reducible assumption) | omega | (simp only [World.size_alloc, World.size_setCell, World.size_drew, World.heap_drewN]; omega) | (simp; done) | (simp; omega))) _) | (with_reducible refine Fr.trans ?_ (by with_reducible assumption))))) (Box.new _ _ _) hbl (by decide) (by decide)).mono ?_
  rintro e w1 ⟨k, hk, rfl, hc1, sp1⟩
  have hn := diskNames_ok k hk
  obtain ⟨nm, hnm⟩ : ∃ nm, sAt diskNames k = nm := ⟨_, rfl⟩
  rw [hnm] at hn ⊢
  clear hnm
  go_wp2_with fail
  go_ret
  exact ⟨nm, hn, rfl, hc1, (Span.of_fr ((Fr.refl w).alloc _)).trans sp1⟩
set_option maxHeartbeats 8000000 in
set_option maxRecDepth 100000 in
theorem DrawRightDisk_any (ao : Option Addr) (n cap : Nat) (w : World) (hy : ByR w w.heap.size ao n cap) :
    Calls Try.prog 20 #[.slice ao n cap] w fun e w' => ∃ (xs : List FileR) (ao' : Option Addr) (cap' : Nat), diskB xs = true ∧ e = .returned (.agg #[.slice ao' xs.length cap']) ∧ FilesR w' (.slice ao' xs.length cap') xs ∧ Fr w w' := by
  have HY := Lib.hid hy
  clear hy
  go_enter Try.func20, Try.ntmps20
  go_wp2_with fail
  refine (l01New_any ao n cap _ (HY.out.here (by repeat (first | (with_reducible exact Fr.refl _) | (with_reducible assumption) | (with_reducible refine Fr.drewN ?_ _) | (with_reducible refine Fr.drew ?_) | (with_reducible refine Fr.alloc ?_ _) | (with_reducible refine Fr.setCell ?_ (by (first | (with_reducible assumption) | omega | (simp only [World.size_alloc, World.size_setCell, World.size_drew, World.heap_drewN]; omega) | (simp; done) | (simp; omega))) _) | (with_reducible refine Fr.trans ?_ (by with_reducible assumption)))))).mono ?_
  rintro e w1 ⟨b, rfl, hb, hc1, hf1⟩
  have hs1 := hf1.size
  have hbl := hc1.lt
  simp only [World.size_alloc] at hs1 hb
  have BR := (Box.new w #[.slice none 0 0] 34).fr hf1
  go_wp2_with fail
  go_loopw [5] (fun i wr => ∃ (k : Nat) (xs : List FileR) (ao : Option Addr) (cap lo hi : Nat), k ≤ 6 ∧ i = .int .i64 k ∧ xs.length ≤ k ∧ Hid (Sorted xs ∧ ∀ x ∈ xs, fileB x = true) ∧ Box wr w1.heap.size #[.slice ao xs.length cap] 34 ∧ FilesW wr lo hi (.slice ao xs.length cap) xs ∧ w1.heap.size + 1 ≤ lo ∧ Box wr w.heap.size #[.slice none 0 0] 34 ∧ Cu wr b ∧ Span b (b + 1) w1 wr) (fun i _ => 6 - (intOf i).toNat)
  case atStart =>
    refine ⟨0, [], none, 0, w1.heap.size + 1, w1.heap.size + 1, by omega, rfl, Nat.le_refl _, ⟨List.Pairwise.nil, fun x hx => by simp at hx⟩, Box.new _ _ _, FilesW.nil _ _ _, by omega, BR.alloc _, hc1.fr (by repeat (first | (with_reducible exact Fr.refl _) | (with_reducible assumption) | (with_reducible refine Fr.drewN ?_ _) | (with_reducible refine Fr.drew ?_) | (with_reducible refine Fr.alloc ?_ _) | (with_reducible refine Fr.setCell ?_ (by (first | (with_reducible assumption) | omega | (simp only [World.size_alloc, World.size_setCell, World.size_drew, World.heap_drewN]; omega) | (simp; done) | (simp; omega))) _) | (with_reducible refine Fr.trans ?_ (by with_reducible assumption)))), Span.of_fr ((Fr.refl _).alloc _)⟩
  case round =>
    clear BR
    obtain ⟨k, xs, ao, cap, lo, hi, hk, rfl, hxk, hxs, BL, hW, hlo, BR, hcu, hsp⟩ := hrel
    have HW := Lib.hid hW
    clear hW
    have hs0 := hsp.size
    have hblt := BL.lt
    have FLr := BL.facts
    go_wp2_with fail
    refine (l01Below_any b _ _ hcu (by omega)).mono ?_
    rintro e w2 ⟨x, hx1, hx2, rfl, hc2, sp2⟩
    have hx3 := hx1 (by omega)
    clear hx1 hx2
    have hs2 := sp2.size
    have BL2 := BL.span sp2 (.inr (by omega))
    have BR2 := BR.span sp2 (.inl (by omega))
    have HW2 := Lib.hid (HW.out.span sp2 (.inr (by omega)))
    clear FLr
    by_cases hlt : k < x
    · go_wp2_with fail
      refine (l01Below_any b _ _ hc2 (by omega)).mono ?_
      rintro e w3 ⟨y, hy1, hy2, rfl, hc3, sp3⟩
      have hy3 := hy1 (by omega)
      clear hy1 hy2
      have hs3 := sp3.size
      go_wp2_with fail
      refine (l01Text_any b _ _ hc3).mono ?_
      rintro e w4 ⟨s, hse, rfl, hc4, sp4⟩
      have hs : s.size ≤ 30 := by omega
      clear hse
      have hs4 := sp4.size
      have BL4 := (BL2.span sp3 (.inr (by omega))).span sp4 (.inr (by omega))
      have BR4 := (BR2.span sp3 (.inl (by omega))).span sp4 (.inl (by omega))
      have HW4 := Lib.hid ((HW2.out.span sp3 (.inr (by omega))).span sp4 (.inr (by omega)))
      have FL4 := BL4.facts
      have hwz : IntKind.i64.wrap ((s.size : Int) + 1) = (s.size : Int) + 1 := IntWalk.i64_in _ (by omega)
      go_wp2_with fail
      go_region_law (first
        | (go_simp; go_at_call 96; refine (l14Named_any b _ (hc4.fr (by repeat (first | (with_reducible exact Fr.refl _) | (with_reducible assumption) | (with_reducible refine Fr.drewN ?_ _) | (with_reducible refine Fr.drew ?_) | (with_reducible refine Fr.alloc ?_ _) | (with_reducible refine Fr.setCell ?_ (by (first | (with_reducible assumption) | omega | (simp only [World.size_alloc, World.size_setCell, World.size_drew, World.heap_drewN]; omega) | (simp; done) | (simp; omega))) _) | (with_reducible refine Fr.trans ?_ (by with_reducible assumption)))))).mono ?_; rintro e w5 ⟨nm, hnm, rfl, hc5, sp5⟩; have BL5 := BL4.drew.span sp5 (.inr (by omega)); have FL5 := BL5.facts)
        | (go_simp; go_at_call 93; refine (l01Below_any b _ _ hc5 (by omega)).mono ?_; rintro e w6 ⟨z, hz1, hz2, rfl, hc6, sp6⟩; have BL6 := BL5.span sp6 (.inr (by omega)); have FL6 := BL6.facts)
        | (go_simp; go_at_call 95; refine (l14Put_any _ xs ⟨nm, s, (z : Int)⟩ _ ⟨_, rfl, (((HW4.out.fr (Fr.refl _).drew).span sp5 (.inr (by omega))).span sp6 (.inr (by omega))).rd⟩ (by omega)).mono ?_; rintro e w7 ⟨ao7, cap7, rfl, hl7, hf7⟩; have BL7 := BL6.fr hf7; have FL7 := BL7.facts))
      all_goals
        have hz3 : (z : Int) ≤ s.size := by first | (have := hz1 (by omega); omega) | (rw [hwz] at hz1; have := hz1 (by omega); omega)
        have BR7 := ((BR4.drew.span sp5 (.inl (by omega))).span sp6 (.inl (by omega))).fr hf7
        have hc7 : Cu w7 b := hc6.fr hf7
        have hs5 := sp5.size
        have hs6 := sp6.size
        have hs7 := hf7.size
        simp only [World.size_drew] at hs5
        have hsp7 : Span b (b + 1) w1 w7 := ((((((hsp.trans sp2).trans sp3).trans sp4).drew').trans sp5).trans sp6).then_fr hf7
        have hln := putF_length xs ⟨nm, s, (z : Int)⟩
        have hgood : Hid (Sorted (putF xs ⟨nm, s, (z : Int)⟩) ∧ ∀ x ∈ putF xs ⟨nm, s, (z : Int)⟩, fileB x = true) := ⟨putF_sorted hxs.out.1, fun f hf => by
          rcases putF_mem hf with rfl | hf
          · unfold fileB
            rw [hnm, Bool.true_and, Bool.and_eq_true, decide_eq_true_eq, decide_eq_true_eq]
            exact ⟨by show s.size ≤ 20000; omega, by show 0 ≤ (z : Int); omega, by show (z : Int) ≤ s.size; omega⟩
          · exact hxs.out.2 f hf⟩
        generalize putF xs ⟨nm, s, (z : Int)⟩ = ys at *
        go_wp2_with fail
        go_roundw
        case rel =>
          have spl : Span (w1.heap.size) (w1.heap.size + 1) w7 _ := Span.setc (i := 0) (v := .slice ao7 ys.length cap7) (Span.refl _ _ _)
          refine ⟨k + 1, ys, ao7, cap7, w6.heap.size, w7.heap.size, by omega, by go_num, by omega, hgood, BL7.set_to (by simp), ?_, by omega, BR7.far' (by omega) _, hc7.span spl (by omega), hsp7.above' spl (by omega)⟩
          change OwW _ _ _ _ _ _ _ _; (repeat (first | (with_reducible refine OwW.drewN ?_ _) | (with_reducible refine OwW.drew ?_) | (with_reducible refine OwW.alloc ?_ _) | (with_reducible refine OwW.set ?_ (by (first | (with_reducible assumption) | omega | (simp only [World.size_alloc, World.size_setCell, World.size_drew, World.heap_drewN]; omega) | (simp; done) | (simp; omega))) _) | (exact hl7)))
        case measure => (simp [intOf]; omega)
    · have FL2 := BL2.facts
      have FR2 := BR2.facts
      have hd := diskB_of (by omega) hxs.out.1 hxs.out.2
      have hf2 : Fr w w2 := Span.fr (show Fr w w1 by repeat (first | (with_reducible exact Fr.refl _) | (with_reducible assumption) | (with_reducible refine Fr.drewN ?_ _) | (with_reducible refine Fr.drew ?_) | (with_reducible refine Fr.alloc ?_ _) | (with_reducible refine Fr.setCell ?_ (by (first | (with_reducible assumption) | omega | (simp only [World.size_alloc, World.size_setCell, World.size_drew, World.heap_drewN]; omega) | (simp; done) | (simp; omega))) _) | (with_reducible refine Fr.trans ?_ (by with_reducible assumption)))) (hsp.trans sp2) (by omega)
      go_wp2_with fail
      refine bodyPost_ret (v := .agg #[.slice ao xs.length cap]) (by simp [results, Try.results20, go_sem, *]) rfl ⟨xs, ao, cap, hd, rfl, ?_, by repeat (first | (with_reducible exact Fr.refl _) | (with_reducible assumption) | (with_reducible refine Fr.drewN ?_ _) | (with_reducible refine Fr.drew ?_) | (with_reducible refine Fr.alloc ?_ _) | (with_reducible refine Fr.setCell ?_ (by (first | (with_reducible assumption) | omega | (simp only [World.size_alloc, World.size_setCell, World.size_drew, World.heap_drewN]; omega) | (simp; done) | (simp; omega))) _) | (with_reducible refine Fr.trans ?_ (by with_reducible assumption)))⟩
      refine FilesW.rd (lo := lo) (hi := hi) ?_
      change OwW _ _ _ _ _ _ _ _; (repeat (first | (with_reducible refine OwW.drewN ?_ _) | (with_reducible refine OwW.drew ?_) | (with_reducible refine OwW.alloc ?_ _) | (with_reducible refine OwW.set ?_ (by (first | (with_reducible assumption) | omega | (simp only [World.size_alloc, World.size_setCell, World.size_drew, World.heap_drewN]; omega) | (simp; done) | (simp; omega))) _) | (exact HW2.out)))
end Go.Proofs.Ytnlcgffffjjojaa
