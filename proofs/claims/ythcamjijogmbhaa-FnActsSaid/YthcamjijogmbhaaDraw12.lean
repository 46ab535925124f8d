/- The reference's drawn disk (spec.l14Disk): how long it is. No condition but the size of the draw. -/
import Derived.Test.YthcamjijogmbhaaDraw11
import Derived.Test.YthcamjijogmbhaaAct2
namespace Go.Proofs.Ythcamjijogmbhaa
open Go.RowKit
set_option linter.unusedVariables false
set_option linter.unusedSimpArgs false
theorem file_at_set {xs : List FileR} {j i : Nat} {x : FileR} {u : Value} (hj : j < xs.length) (hx : fileAt xs j = x) (hi : i < 3) (hu : x.cells.getD i default = u) : (xs.flatMap FileR.cells).set (j * 3 + i) u = xs.flatMap FileR.cells := by
  have hl := file_len xs
  have h := file_flat xs j i hj hi default
  rw [hx, hu] at h
  have hlt : j * 3 + i < (xs.flatMap FileR.cells).length := by omega
  simp only [List.getD, List.getElem?_eq_getElem hlt, Option.getD_some] at h
  rw [← h]
  exact List.set_getElem_self hlt
theorem text_cells {xs : List FileR} {j : Nat} {x : FileR} {v : ByteArray} (hj : j < xs.length) (hx : fileAt xs j = x) : (xs.set j ⟨x.f0, v, x.f2⟩).flatMap FileR.cells = (xs.flatMap FileR.cells).set (j * 3 + 1) (.string v) := by
  rw [set_cells xs j _ hj]
  have h0 := file_at_set (i := 0) hj hx (by omega) (u := .string x.f0) rfl
  rw [Nat.add_zero] at h0
  rw [h0, List.set_comm _ _ (show j * 3 + 1 ≠ j * 3 + 2 by omega), file_at_set (i := 2) hj hx (by omega) (u := .int .i64 x.f2) rfl]
theorem name_cells {xs : List FileR} {j : Nat} {x : FileR} {v : ByteArray} (hj : j < xs.length) (hx : fileAt xs j = x) : (xs.set j ⟨v, x.f1, x.f2⟩).flatMap FileR.cells = (xs.flatMap FileR.cells).set (j * 3) (.string v) := by
  rw [set_cells xs j _ hj, List.set_comm _ _ (show j * 3 ≠ j * 3 + 1 by omega), file_at_set (i := 1) hj hx (by omega) (u := .string x.f1) rfl, List.set_comm _ _ (show j * 3 ≠ j * 3 + 2 by omega), file_at_set (i := 2) hj hx (by omega) (u := .int .i64 x.f2) rfl]
section
variable {w : World} {lo hi g n cap : Nat} {xs : List FileR}
theorem FilesW.kept (h : FilesW w lo hi (.slice (some ⟨g, 0, none⟩) xs.length cap) xs) (k : Nat) (hk : k < xs.length) (v : Int) : ∃ ys : List FileR, ys.length = xs.length ∧ FilesW (w.setCell ⟨g, k * 3 + 2, none⟩ (.int .i64 v)) lo hi (.slice (some ⟨g, 0, none⟩) ys.length cap) ys := by
  refine ⟨xs.set k ⟨(fileAt xs k).f0, (fileAt xs k).f1, v⟩, by simp, ?_⟩
  have hs := h.1.stored (k * 3 + 2) (.int .i64 v)
  rw [← keep_cells hk rfl] at hs
  refine ⟨?_, h.2.mono (Nat.le_refl _) (Nat.le_refl _)⟩
  simpa using hs.1
theorem FilesW.text (h : FilesW w lo hi (.slice (some ⟨g, 0, none⟩) xs.length cap) xs) (k : Nat) (hk : k < xs.length) (v : ByteArray) : ∃ ys : List FileR, ys.length = xs.length ∧ FilesW (w.setCell ⟨g, k * 3 + 1, none⟩ (.string v)) lo hi (.slice (some ⟨g, 0, none⟩) ys.length cap) ys := by
  refine ⟨xs.set k ⟨(fileAt xs k).f0, v, (fileAt xs k).f2⟩, by simp, ?_⟩
  have hs := h.1.stored (k * 3 + 1) (.string v)
  rw [← text_cells hk rfl] at hs
  refine ⟨?_, h.2.mono (Nat.le_refl _) (Nat.le_refl _)⟩
  simpa using hs.1
theorem FilesW.name (h : FilesW w lo hi (.slice (some ⟨g, 0, none⟩) xs.length cap) xs) (k : Nat) (hk : k < xs.length) (v : ByteArray) : ∃ ys : List FileR, ys.length = xs.length ∧ FilesW (w.setCell ⟨g, k * 3, none⟩ (.string v)) lo hi (.slice (some ⟨g, 0, none⟩) ys.length cap) ys := by
  refine ⟨xs.set k ⟨v, (fileAt xs k).f1, (fileAt xs k).f2⟩, by simp, ?_⟩
  have hs := h.1.stored (k * 3) (.string v)
  rw [← name_cells hk rfl] at hs
  refine ⟨?_, h.2.mono (Nat.le_refl _) (Nat.le_refl _)⟩
  simpa using hs.1
theorem FilesW.from_ {v : Value} (h : FilesW w lo hi v xs) (h0 : 0 < xs.length) : ∃ g cap, v = .slice (some ⟨g, 0, none⟩) xs.length cap ∧ lo ≤ g ∧ g < hi ∧ g < w.heap.size ∧ Hid (∀ w', Fr w w' → ∀ k, k < xs.length → w'.cell? ⟨g, k * 3, none⟩ = some (.string (fileAt xs k).f0) ∧ w'.cell? ⟨g, k * 3 + 1, none⟩ = some (.string (fileAt xs k).f1) ∧ w'.cell? ⟨g, k * 3 + 2, none⟩ = some (.int .i64 (fileAt xs k).f2)) := by
  obtain ⟨a, b, o, c, hv, _, _, f⟩ := FilesR.one (FilesW.rd h)
  obtain ⟨rfl, hb, f⟩ := f h0
  subst hv
  rcases h.1.2 with ⟨e, _⟩ | ⟨g, cap, cur, e, _⟩
  · cases e
  · cases e
    have h2 := h.2 b rfl
    refine ⟨b, c, rfl, h2.1, h2.2, hb, fun w' hf k hk => ?_⟩
    obtain ⟨f0, f1, f2⟩ := f k hk
    rw [Nat.zero_add] at f0 f1 f2
    exact ⟨(hf.cell (p := ⟨b, _, none⟩) hb).trans f0, (hf.cell (p := ⟨b, _, none⟩) hb).trans f1, (hf.cell (p := ⟨b, _, none⟩) hb).trans f2⟩
end
def diskPicks : List ByteArray := [⟨#[]⟩, ⟨#[49, 50, 51, 52, 53, 54, 55, 56]⟩, ⟨#[49, 50, 51, 52, 53, 54, 55, 56, 57]⟩]
set_option maxHeartbeats 40000000 in
set_option maxRecDepth 100000 in
theorem l14Disk_any (b : Nat) (w : World) (hc : Cu w b) :
    Calls Try.prog 84 #[.pointer (some ⟨b, 0, none⟩)] w fun e w' => ∃ (xs : List FileR) (ao : Option Addr) (cap : Nat), xs.length ≤ 40 ∧ e = .returned (.agg #[.slice ao xs.length cap]) ∧ FilesW w' w.heap.size w'.heap.size (.slice ao xs.length cap) xs ∧ Cu w' b ∧ Span b (b + 1) w w' := by
  have hbl := hc.lt
  obtain ⟨i0, hi, hz0, hz1, hz2⟩ := info_parts info_File
  go_enter Try.func84, Try.ntmps84
  go_wp2_with fail
  go_loopw [4, 5] (fun i tt wr => ∃ (k : Nat) (xs : List FileR) (ao : Option Addr) (cap lo : Nat) (t0 : Value), k ≤ 6 ∧ i = .int .i64 k ∧ tt = t0 ∧ xs.length ≤ k ∧ Hid (∀ x ∈ xs, x.f1.size ≤ 8) ∧ Box wr (w.heap.size + 1) #[.slice ao xs.length cap] 64 ∧ FilesW wr lo wr.heap.size (.slice ao xs.length cap) xs ∧ w.heap.size + 1 + 1 ≤ lo ∧ Box wr w.heap.size #[.slice none 0 0] 64 ∧ Cu wr b ∧ Span b (b + 1) w wr) (fun i _ _ => 6 - (intOf i).toNat)
  case atStart =>
    refine ⟨0, [], none, 0, w.heap.size + 1 + 1, _, by omega, rfl, rfl, Nat.le_refl _, (fun x hx => by simp at hx), Box.new' (by simp), FilesW.nil _ _ _, by omega, (Box.new _ _ _).alloc _, hc.fr (by repeat (first | (with_reducible exact Fr.refl _) | (with_reducible assumption) | (with_reducible refine Fr.drewN ?_ _) | (with_reducible refine Fr.drew ?_) | (with_reducible refine Fr.alloc ?_ _) | (with_reducible refine Fr.setCell ?_ (by (first | (with_reducible assumption) | omega | (simp only [World.size_alloc, World.size_setCell, World.size_drew, World.heap_drewN]; omega) | (simp; done) | (simp; omega))) _) | (with_reducible refine Fr.trans ?_ (by with_reducible assumption)))), Span.of_fr (by repeat (first | (with_reducible exact Fr.refl _) | (with_reducible assumption) | (with_reducible refine Fr.drewN ?_ _) | (with_reducible refine Fr.drew ?_) | (with_reducible refine Fr.alloc ?_ _) | (with_reducible refine Fr.setCell ?_ (by (first | (with_reducible assumption) | omega | (simp only [World.size_alloc, World.size_setCell, World.size_drew, World.heap_drewN]; omega) | (simp; done) | (simp; omega))) _) | (with_reducible refine Fr.trans ?_ (by with_reducible assumption))))⟩
  case round =>
    obtain ⟨k, xs, ao, cap, lo, t0, hk, rfl, rfl, hxk, hxs, BL, hW, hlo, BR, hcu, hsp⟩ := hrel
    have HW := Lib.hid hW
    clear hW
    have hs0 := hsp.size
    have hblt := BL.lt
    have FLr := BL.facts
    go_wp2_with fail
    refine (l01Below_any b _ _ hcu (by omega)).mono ?_
    rintro e w2 ⟨x, hx1, hx2, rfl, hc2, sp2⟩
    have hx3 := hx1 (by omega)
    clear hx1 hx2
    have hs2 := sp2.size
    have BL2 := BL.span sp2 (.inr (by omega))
    have BR2 := BR.span sp2 (.inr (by omega))
    have HW2 : Hid (FilesW w2 lo w2.heap.size (.slice ao xs.length cap) xs) := OwW.of_owns (HW.out.span sp2 (.inr (by omega))).1
    have sp02 := hsp.trans sp2
    clear FLr HW BL BR
    by_cases hlt : k < x
    · go_wp2_with fail
      refine (l01Below_any b _ _ hc2 (by omega)).mono ?_
      rintro e w3 ⟨y, hy1, hy2, rfl, hc3, sp3⟩
      have hy3 := hy1 (by omega)
      clear hy1 hy2
      have hs3 := sp3.size
      go_wp2_with fail
      refine (l01Text_any b _ _ hc3).mono ?_
      rintro e w4 ⟨s, hse, rfl, hc4, sp4⟩
      have hs : s.size ≤ 8 := by omega
      clear hse
      have hs4 := sp4.size
      have BL4 := (BL2.span sp3 (.inr (by omega))).span sp4 (.inr (by omega))
      have BR4 := (BR2.span sp3 (.inr (by omega))).span sp4 (.inr (by omega))
      have HW4 := Lib.hid ((HW2.out.span sp3 (.inr (by omega))).span sp4 (.inr (by omega)))
      have sp04 := (sp02.trans sp3).trans sp4
      clear BL2 BR2 HW2
      have FL4 := BL4.facts
      have hwz : IntKind.i64.wrap ((s.size : Int) + 1) = (s.size : Int) + 1 := IntWalk.i64_in _ (by omega)
      go_wp2_with fail
      go_region_law (first
        | (go_simp; go_at_call 127; refine (l14Named_any b _ (hc4.fr (by repeat (first | (with_reducible exact Fr.refl _) | (with_reducible assumption) | (with_reducible refine Fr.drewN ?_ _) | (with_reducible refine Fr.drew ?_) | (with_reducible refine Fr.alloc ?_ _) | (with_reducible refine Fr.setCell ?_ (by (first | (with_reducible assumption) | omega | (simp only [World.size_alloc, World.size_setCell, World.size_drew, World.heap_drewN]; omega) | (simp; done) | (simp; omega))) _) | (with_reducible refine Fr.trans ?_ (by with_reducible assumption)))))).mono ?_; rintro e w5 ⟨nm, hnm, rfl, hc5, sp5⟩; have BL5 := BL4.drew.span sp5 (.inr (by omega)); have FL5 := BL5.facts)
        | (go_simp; go_at_call 124; refine (l01Below_any b _ _ hc5 (by omega)).mono ?_; rintro e w6 ⟨z, hz1, hz2, rfl, hc6, sp6⟩; have BL6 := BL5.span sp6 (.inr (by omega)); have FL6 := BL6.facts)
        | (go_simp; go_at_call 126; refine (l14Put_any _ xs ⟨nm, s, (z : Int)⟩ _ ⟨_, rfl, (((HW4.out.fr (Fr.refl _).drew).span sp5 (.inr (by omega))).span sp6 (.inr (by omega))).rd⟩ (by omega)).mono ?_; rintro e w7 ⟨ao7, cap7, rfl, hl7, hf7⟩; have BL7 := BL6.fr hf7; have FL7 := BL7.facts))
      all_goals
        have BR7 := ((BR4.drew.span sp5 (.inr (by omega))).span sp6 (.inr (by omega))).fr hf7
        have hc7 : Cu w7 b := hc6.fr hf7
        have hs5 := sp5.size
        have hs6 := sp6.size
        have hs7 := hf7.size
        simp only [World.size_drew] at hs5
        have sp07 : Span b (b + 1) w w7 := (((sp04.drew').trans sp5).trans sp6).then_fr hf7
        have hln := putF_length xs ⟨nm, s, (z : Int)⟩
        have hgood : Hid (∀ x ∈ putF xs ⟨nm, s, (z : Int)⟩, x.f1.size ≤ 8) := fun f hf => by
          rcases putF_mem hf with rfl | hf
          · exact hs
          · exact hxs.out f hf
        generalize putF xs ⟨nm, s, (z : Int)⟩ = ys at *
        go_wp2_with fail
        go_roundw
        case rel =>
          have spl : Span w.heap.size (w.heap.size + 1 + 1) w7 (w7.setCell ⟨w.heap.size + 1, 0, none⟩ (.slice ao7 ys.length cap7)) := Span.setb (Span.refl _ _ _) (by omega) (by omega)
          refine ⟨k + 1, ys, ao7, cap7, w6.heap.size, _, by omega, by go_num, rfl, by omega, hgood, BL7.set_to (by simp), ?_, by omega, BR7.far' (by omega) _, hc7.span spl (by omega), sp07.above' spl (Nat.le_refl _)⟩
          refine OwW.mono (lo := w6.heap.size) (hi := w7.heap.size) ?_ (Nat.le_refl _) (by (first | (with_reducible assumption) | omega | (simp only [World.size_alloc, World.size_setCell, World.size_drew, World.heap_drewN]; omega) | (simp; done) | (simp; omega)))
          change OwW _ _ _ _ _ _ _ _; (repeat (first | (with_reducible refine OwW.drewN ?_ _) | (with_reducible refine OwW.drew ?_) | (with_reducible refine OwW.alloc ?_ _) | (with_reducible refine OwW.set ?_ (by (first | (with_reducible assumption) | omega | (simp only [World.size_alloc, World.size_setCell, World.size_drew, World.heap_drewN]; omega) | (simp; done) | (simp; omega))) _) | (exact hl7)))
        case measure => (simp [intOf]; omega)
    · have FL2 := BL2.facts
      have FR2 := BR2.facts
      clear sp2 hsp hc hcu
      by_cases h0 : xs.length = 0
      · have hzd : (xs.length : Int) = 0 := by omega
        have HWZ := Lib.hid HW2.out
        go_wp2_with fail
        refine bodyPost_ret (v := .agg #[.slice ao xs.length cap]) (by simp [results, Try.results84, go_sem, *]) rfl ⟨xs, ao, cap, by omega, by first | rfl | simp [h0], ?_, ?_, ?_⟩
        · refine OwW.mono (lo := lo) (hi := w2.heap.size) ?_ (by omega) (by (first | (with_reducible assumption) | omega | (simp only [World.size_alloc, World.size_setCell, World.size_drew, World.heap_drewN]; omega) | (simp; done) | (simp; omega)))
          have := HWZ.out
          change OwW _ _ _ _ _ _ _ _; (repeat (first | (with_reducible refine OwW.drewN ?_ _) | (with_reducible refine OwW.drew ?_) | (with_reducible refine OwW.alloc ?_ _) | (with_reducible refine OwW.set ?_ (by (first | (with_reducible assumption) | omega | (simp only [World.size_alloc, World.size_setCell, World.size_drew, World.heap_drewN]; omega) | (simp; done) | (simp; omega))) _) | (exact this)))
        · refine Cu.span (lo := b + 1) (hi := w2.heap.size + 1) hc2 ?_ (by omega)
          repeat (first | with_reducible exact Span.refl _ _ _ | with_reducible refine Span.setb ?_ (by omega) (by omega) | with_reducible apply Span.alloc' | with_reducible apply Span.drew')
        · refine Span.above' (L := w.heap.size) (M := w2.heap.size + 1) sp02 ?_ (Nat.le_refl _)
          repeat (first | with_reducible exact Span.refl _ _ _ | with_reducible refine Span.setb ?_ (by omega) (by omega) | with_reducible apply Span.alloc' | with_reducible apply Span.drew')
      · obtain ⟨g, cap, hv, hg1, hg2, hg3, HG⟩ := FilesW.from_ HW2.out (by omega)
        cases hv
        have hl6 : xs.length ≤ 6 := by omega
        go_wp2_with fail
        refine (l01Below_any b _ _ hc2 (by omega)).mono ?_
        rintro e w3 ⟨kk, hk1, hk2, rfl, hc3, sp3⟩
        have hkk : kk < xs.length := by have := hk1 (by omega); omega
        have hs3 := sp3.size
        clear hk1 hk2 hlt
        go_wp2_with fail
        refine (l01Below_any b _ _ hc3 (by omega)).mono ?_
        rintro e w4 ⟨z, hz1', hz2', rfl, hc4, sp4⟩
        have hz40 := hz1' (by omega)
        clear hz1' hz2'
        have hs4 := sp4.size
        have BL4 := (BL2.span sp3 (.inr (by omega))).span sp4 (.inr (by omega))
        have BR4 := (BR2.span sp3 (.inr (by omega))).span sp4 (.inr (by omega))
        have HW4 : Hid (FilesW w4 lo w4.heap.size (.slice (some ⟨g, 0, none⟩) xs.length cap) xs) := OwW.of_owns ((HW2.out.span sp3 (.inr (by omega))).span sp4 (.inr (by omega))).1
        have sp04 := (sp02.trans sp3).trans sp4
        clear FL2 FR2 BL2 BR2 HW2 HG sp3 sp4 sp02 hc2 hc3
        obtain ⟨_, _, hv, _, _, hg4, HG4⟩ := FilesW.from_ HW4.out (by omega)
        cases hv
        obtain ⟨c0, c1, c2⟩ := HG4.out w4 (Fr.refl _) kk hkk
        have hsz : (fileAt xs kk).f1.size ≤ 8 := hxs.out _ (by unfold fileAt; simp [List.getD, List.getElem?_eq_getElem hkk])
        have FL4 := BL4.facts
        have FR4 := BR4.facts
        have hlk : kk * 3 + 3 ≤ xs.length * 3 := by omega
        generalize hxx : fileAt xs kk = xx at c0 c1 c2 hsz
        have HXX := Lib.hid hxx
        clear hxx
        have hgd : ¬ (g = w.heap.size + 1) := by omega
        have hgr : ¬ (g = w.heap.size) := by omega
        rcases (show z = 0 ∨ z = 1 ∨ z = 2 ∨ z = 3 ∨ z = 4 ∨ 5 ≤ z by omega) with rfl | rfl | rfl | rfl | rfl | hz5
        · have hwz : IntKind.i64.wrap ((xx.f1.size : Int) + 1) = (xx.f1.size : Int) + 1 := IntWalk.i64_in _ (by omega)
          go_wp2_with fail
          go_region_law ((go_simp; go_at_call 128; refine (l01PickInt_any b w4.heap.size [-1, (xx.f1.size : Int) + 1] 3 _ (hc4.fr (by repeat (first | (with_reducible exact Fr.refl _) | (with_reducible assumption) | (with_reducible refine Fr.drewN ?_ _) | (with_reducible refine Fr.drew ?_) | (with_reducible refine Fr.alloc ?_ _) | (with_reducible refine Fr.setCell ?_ (by (first | (with_reducible assumption) | omega | (simp only [World.size_alloc, World.size_setCell, World.size_drew, World.heap_drewN]; omega) | (simp; done) | (simp; omega))) _) | (with_reducible refine Fr.trans ?_ (by with_reducible assumption))))) (Box.new _ _ _).drew (by omega) (by simp) (by simp)).mono ?_; rintro e w5 ⟨j, hj, rfl, hc5, sp5⟩; have hs5 := sp5.size; (try simp only [World.size_drew, World.size_alloc] at hs5); have BL5 := ((BL4.alloc _).drew).span sp5 (.inr (by omega)); have FL5 := BL5.facts; have BR5 := ((BR4.alloc _).drew).span sp5 (.inr (by omega)); have FR5 := BR5.facts; have HW5 : Hid (FilesW w5 lo w5.heap.size (.slice (some ⟨g, 0, none⟩) xs.length cap) xs) := OwW.of_owns ((HW4.out.fr (((Fr.refl _).alloc _).drew)).span sp5 (.inr (by omega))).1; have sp05 := ((sp04.alloc' _).drew').trans sp5; have fz := HW5.out.1.frozenAt (kk * 3 + 2); obtain ⟨uz, cz⟩ := owns_cell HW5.out.1 (kk * 3 + 2) (by omega)))
          all_goals
            go_wp2_with fail
            obtain ⟨ys, hyl, hWy⟩ := FilesW.kept HW5.out kk hkk (iAt [-1, (xx.f1.size : Int) + 1] j)
            refine bodyPost_ret (v := .agg #[.slice (some ⟨g, 0, none⟩) xs.length cap]) (by simp [results, Try.results84, go_sem, *]) rfl ⟨ys, some ⟨g, 0, none⟩, cap, by omega, by rw [hyl], ?_, ?_, ?_⟩
            · refine OwW.mono (lo := lo) (hi := w5.heap.size) ?_ (by omega) (by (first | (with_reducible assumption) | omega | (simp only [World.size_alloc, World.size_setCell, World.size_drew, World.heap_drewN]; omega) | (simp; done) | (simp; omega)))
              have hWf := hWy
              change OwW _ _ _ _ _ _ _ _; (repeat (first | (with_reducible refine OwW.drewN ?_ _) | (with_reducible refine OwW.drew ?_) | (with_reducible refine OwW.alloc ?_ _) | (with_reducible refine OwW.set ?_ (by (first | (with_reducible assumption) | omega | (simp only [World.size_alloc, World.size_setCell, World.size_drew, World.heap_drewN]; omega) | (simp; done) | (simp; omega))) _) | (exact hWf)))
            · refine Cu.span (lo := b + 1) (hi := w5.heap.size + 1) hc5 ?_ (by omega)
              repeat (first | with_reducible exact Span.refl _ _ _ | with_reducible refine Span.setb ?_ (by omega) (by omega) | with_reducible apply Span.alloc' | with_reducible apply Span.drew')
            · refine Span.above' (L := w.heap.size) (M := w5.heap.size + 1) sp05 ?_ (Nat.le_refl _)
              repeat (first | with_reducible exact Span.refl _ _ _ | with_reducible refine Span.setb ?_ (by omega) (by omega) | with_reducible apply Span.alloc' | with_reducible apply Span.drew')
        · have HC := Lib.hid (cells_snoc xs xx)
          have HL := Lib.hid (show (xs ++ [xx]).length = xs.length + 1 by simp)
          have ho4 := HW4.out.1
          go_wp2_with fail
          go_region_law ((refine step_append_rd (by rfl) _ _ 62 (by rfl) lo 135 i0 (.agg #[.string ⟨#[]⟩, .string ⟨#[]⟩, .int .i64 0]) 3 40 Try.underlying62 hi hz0 hz1 hz2 rfl (by decide) (.slice (some ⟨g, 0, none⟩) xs.length cap) xs.length (xs.flatMap FileR.cells) (by rfl) (by exact owns_lo (owns_ab ho4 (by repeat (first | (with_reducible exact Ab.refl _ _) | (with_reducible assumption) | (with_reducible refine Ab.drewN ?_ _) | (with_reducible refine Ab.drew ?_) | (with_reducible refine Ab.alloc ?_ _) | (with_reducible refine Ab.setCell ?_ (by (first | (with_reducible assumption) | omega | (simp only [World.size_alloc, World.size_setCell, World.size_drew, World.heap_drewN]; omega) | (simp; done) | (simp; omega))) _) | (with_reducible refine Ab.fr ?_ (by with_reducible assumption))))) (by (first | (with_reducible assumption) | omega | (simp only [World.size_alloc, World.size_setCell, World.size_drew, World.heap_drewN]; omega) | (simp; done) | (simp; omega)))) _ 1 [.string xx.f0, .string xx.f1, .int .i64 xx.f2] (by rfl) (RdS.drew (RdS.new (by first | rfl | (simp; done)) rfl)) (by simp [Value.oneCell']) (by unfold maxLen; omega) (by omega) (by (first | (with_reducible assumption) | omega | (simp only [World.size_alloc, World.size_setCell, World.size_drew, World.heap_drewN]; omega) | (simp; done) | (simp; omega))) ?_; intro ao5 cap5 w5 hown hgrow hat; have BL5 := (BL4.alloc _).drew.row hgrow (RowIn.of_owns ho4) (by omega); have FL5 := BL5.facts; have BR5 := (BR4.alloc _).drew.row hgrow (RowIn.of_owns ho4) (by omega); have FR5 := BR5.facts))
          all_goals
            rw [← HC.out] at hown
            have hr5 := RowIn.of_owns hown
            have hW5 : FilesW w5 lo w5.heap.size (.slice ao5 (xs ++ [xx]).length cap5) (xs ++ [xx]) := ⟨by rw [HL.out]; exact hown, by rw [HL.out]; exact hr5⟩
            have hc5 : Cu w5 b := (hc4.fr (((Fr.refl _).alloc _).drew)).gr hgrow (fun k hk => by have := World.ownsRow.lt ho4 k hk; omega)
            have sp05 : Span b (b + 1) w w5 := ((sp04.alloc' _).drew').above hgrow (fun k hk => by have := World.ownsRow.lt ho4 k hk; omega)
            go_wp2_with fail
            refine bodyPost_ret (v := .agg #[.slice (ao5) (xs.length + 1) cap5]) (by simp [results, Try.results84, go_sem, *]) rfl ⟨xs ++ [xx], ao5, cap5, by rw [HL.out]; omega, by rw [HL.out], ?_, ?_, ?_⟩
            · refine OwW.mono (lo := lo) (hi := w5.heap.size) ?_ (by omega) (by (first | (with_reducible assumption) | omega | (simp only [World.size_alloc, World.size_setCell, World.size_drew, World.heap_drewN]; omega) | (simp; done) | (simp; omega)))
              have hWf := hW5
              change OwW _ _ _ _ _ _ _ _; (repeat (first | (with_reducible refine OwW.drewN ?_ _) | (with_reducible refine OwW.drew ?_) | (with_reducible refine OwW.alloc ?_ _) | (with_reducible refine OwW.set ?_ (by (first | (with_reducible assumption) | omega | (simp only [World.size_alloc, World.size_setCell, World.size_drew, World.heap_drewN]; omega) | (simp; done) | (simp; omega))) _) | (exact hWf)))
            · refine Cu.span (lo := b + 1) (hi := w5.heap.size + 1) hc5 ?_ (by omega)
              repeat (first | with_reducible exact Span.refl _ _ _ | with_reducible refine Span.setb ?_ (by omega) (by omega) | with_reducible apply Span.alloc' | with_reducible apply Span.drew')
            · refine Span.above' (L := w.heap.size) (M := w5.heap.size + 1) sp05 ?_ (Nat.le_refl _)
              repeat (first | with_reducible exact Span.refl _ _ _ | with_reducible refine Span.setb ?_ (by omega) (by omega) | with_reducible apply Span.alloc' | with_reducible apply Span.drew')
        · go_wp2_with fail
          go_region_law ((go_simp; go_at_call 129; refine (l01Pick_any b w4.heap.size diskPicks 9 _ (hc4.fr (by repeat (first | (with_reducible exact Fr.refl _) | (with_reducible assumption) | (with_reducible refine Fr.drewN ?_ _) | (with_reducible refine Fr.drew ?_) | (with_reducible refine Fr.alloc ?_ _) | (with_reducible refine Fr.setCell ?_ (by (first | (with_reducible assumption) | omega | (simp only [World.size_alloc, World.size_setCell, World.size_drew, World.heap_drewN]; omega) | (simp; done) | (simp; omega))) _) | (with_reducible refine Fr.trans ?_ (by with_reducible assumption))))) (Box.new _ _ _).drew (by omega) (by decide) (by decide)).mono ?_; rintro e w5 ⟨j, hj, rfl, hc5, sp5⟩; have hs5 := sp5.size; (try simp only [World.size_drew, World.size_alloc] at hs5); have BL5 := ((BL4.alloc _).drew).span sp5 (.inr (by omega)); have FL5 := BL5.facts; have BR5 := ((BR4.alloc _).drew).span sp5 (.inr (by omega)); have FR5 := BR5.facts; have HW5 : Hid (FilesW w5 lo w5.heap.size (.slice (some ⟨g, 0, none⟩) xs.length cap) xs) := OwW.of_owns ((HW4.out.fr (((Fr.refl _).alloc _).drew)).span sp5 (.inr (by omega))).1; have sp05 := ((sp04.alloc' _).drew').trans sp5; have fz := HW5.out.1.frozenAt (kk * 3); obtain ⟨uz, cz⟩ := owns_cell HW5.out.1 (kk * 3) (by omega)))
          all_goals
            go_wp2_with fail
            obtain ⟨ys, hyl, hWy⟩ := FilesW.name HW5.out kk hkk (sAt diskPicks j)
            refine bodyPost_ret (v := .agg #[.slice (some ⟨g, 0, none⟩) xs.length cap]) (by simp [results, Try.results84, go_sem, *]) rfl ⟨ys, some ⟨g, 0, none⟩, cap, by omega, by rw [hyl], ?_, ?_, ?_⟩
            · refine OwW.mono (lo := lo) (hi := w5.heap.size) ?_ (by omega) (by (first | (with_reducible assumption) | omega | (simp only [World.size_alloc, World.size_setCell, World.size_drew, World.heap_drewN]; omega) | (simp; done) | (simp; omega)))
              have hWf := hWy
              change OwW _ _ _ _ _ _ _ _; (repeat (first | (with_reducible refine OwW.drewN ?_ _) | (with_reducible refine OwW.drew ?_) | (with_reducible refine OwW.alloc ?_ _) | (with_reducible refine OwW.set ?_ (by (first | (with_reducible assumption) | omega | (simp only [World.size_alloc, World.size_setCell, World.size_drew, World.heap_drewN]; omega) | (simp; done) | (simp; omega))) _) | (exact hWf)))
            · refine Cu.span (lo := b + 1) (hi := w5.heap.size + 1) hc5 ?_ (by omega)
              repeat (first | with_reducible exact Span.refl _ _ _ | with_reducible refine Span.setb ?_ (by omega) (by omega) | with_reducible apply Span.alloc' | with_reducible apply Span.drew')
            · refine Span.above' (L := w.heap.size) (M := w5.heap.size + 1) sp05 ?_ (Nat.le_refl _)
              repeat (first | with_reducible exact Span.refl _ _ _ | with_reducible refine Span.setb ?_ (by omega) (by omega) | with_reducible apply Span.alloc' | with_reducible apply Span.drew')
        · have hW5 : FilesW (w4.alloc (.cells #[] 135)) w4.heap.size (w4.heap.size + 1) (.slice (some ⟨w4.heap.size, 0, none⟩) 0 0) [] := ⟨made_empty rfl (Nat.le_refl _), RowIn.one (Nat.le_refl _) (Nat.lt_succ_self _)⟩
          have BL5 := BL4.alloc (.cells #[] 135)
          have BR5 := BR4.alloc (.cells #[] 135)
          have hc5 : Cu (w4.alloc (.cells #[] 135)) b := hc4.fr (by repeat (first | (with_reducible exact Fr.refl _) | (with_reducible assumption) | (with_reducible refine Fr.drewN ?_ _) | (with_reducible refine Fr.drew ?_) | (with_reducible refine Fr.alloc ?_ _) | (with_reducible refine Fr.setCell ?_ (by (first | (with_reducible assumption) | omega | (simp only [World.size_alloc, World.size_setCell, World.size_drew, World.heap_drewN]; omega) | (simp; done) | (simp; omega))) _) | (with_reducible refine Fr.trans ?_ (by with_reducible assumption))))
          have sp05 := sp04.alloc' (.cells #[] 135)
          have hs5 : (w4.alloc (.cells #[] 135)).heap.size = w4.heap.size + 1 := by simp
          clear HW4 HG4 c0 c1 c2 FL4 FR4 hg4
          have FL5 := BL5.facts
          go_wp2_with fail
          clear FL5
          generalize w4.alloc (.cells #[] 135) = w5 at *
          clear BL4 BR4 hc4 sp04
          have spl5 : Span w.heap.size (w.heap.size + 1 + 1) w5 (w5.setCell ⟨w.heap.size + 1, 0, none⟩ (.slice (some ⟨w4.heap.size, 0, none⟩) 0 0)) := Span.setb (Span.refl _ _ _) (by omega) (by omega)
          have BL6 : Box (w5.setCell ⟨w.heap.size + 1, 0, none⟩ (.slice (some ⟨w4.heap.size, 0, none⟩) 0 0)) (w.heap.size + 1) #[.slice (some ⟨w4.heap.size, 0, none⟩) 0 0] 64 := BL5.set_to (by simp)
          have BR6 := BR5.far' (q := w.heap.size + 1) (i := 0) (by omega) (.slice (some ⟨w4.heap.size, 0, none⟩) 0 0)
          have hc6 := hc5.span spl5 (by omega)
          have sp06 := sp05.above' spl5 (Nat.le_refl _)
          have hW6 : FilesW (w5.setCell ⟨w.heap.size + 1, 0, none⟩ (.slice (some ⟨w4.heap.size, 0, none⟩) 0 0)) w4.heap.size (w4.heap.size + 1) (.slice (some ⟨w4.heap.size, 0, none⟩) 0 0) [] := hW5.set (.inl (by show w.heap.size + 1 < w4.heap.size; omega)) _
          have hs6 : (w5.setCell ⟨w.heap.size + 1, 0, none⟩ (.slice (some ⟨w4.heap.size, 0, none⟩) 0 0)).heap.size = w4.heap.size + 1 := by simp; omega
          generalize w5.setCell ⟨w.heap.size + 1, 0, none⟩ (.slice (some ⟨w4.heap.size, 0, none⟩) 0 0) = w6 at *
          clear BL5 BR5 hc5 sp05 hW5 spl5
          go_loopw [7] (fun i wr => ∃ (j : Nat) (ys : List FileR) (ao : Option Addr) (cap : Nat), j ≤ 31 ∧ i = .int .i64 j ∧ ys.length ≤ j ∧ w4.heap.size ≤ wr.heap.size ∧ Box wr (w.heap.size + 1) #[.slice ao ys.length cap] 64 ∧ FilesW wr w4.heap.size wr.heap.size (.slice ao ys.length cap) ys ∧ Box wr w.heap.size #[.slice none 0 0] 64 ∧ Cu wr b ∧ Span b (b + 1) w wr) (fun i _ => 32 - (intOf i).toNat)
          case atStart => exact ⟨0, [], _, _, by omega, rfl, Nat.le_refl _, by omega, BL6, by rw [hs6]; exact hW6, BR6, hc6, sp06⟩
          case round =>
            clear BL6 BR6 hc6 sp06 hW6 hs6
            obtain ⟨j, ys, ao, cap, hj, rfl, hyj, hzr, BL, hW, BR, hcu, hsp⟩ := hrel
            have HW := Lib.hid hW
            clear hW
            have hs0 := hsp.size
            have FLr := BL.facts
            go_wp2_with fail
            refine (l01Below_any b _ _ hcu (by omega)).mono ?_
            rintro e w7 ⟨x, hx1, hx2, rfl, hc7, sp7⟩
            have hx3 := hx1 (by omega)
            clear hx1 hx2
            have hs7 := sp7.size
            have BL7 := BL.span sp7 (.inr (by omega))
            have BR7 := BR.span sp7 (.inr (by omega))
            have HW7 : Hid (FilesW w7 w4.heap.size w7.heap.size (.slice ao ys.length cap) ys) := OwW.of_owns (HW.out.span sp7 (.inr (by omega))).1
            have sp07 := hsp.trans sp7
            clear FLr HW BL BR
            have FL7 := BL7.facts
            have FR7 := BR7.facts
            have hwj : IntKind.i64.wrap (100 + (j : Int)) = 100 + j := IntWalk.i64_in _ (by omega)
            by_cases hlt : (j : Int) < 30 + (x : Int)
            · go_wp2_with fail
              have ho7 := HW7.out.1
              have HL : Hid (∀ f : FileR, (ys ++ [f]).length = ys.length + 1) := fun f => by simp
              go_region_law (first
                | (go_simp; go_at_call 130; refine (Decimal_any _ _ (by omega) (by omega)).mono ?_; rintro e w8 ⟨s, hs, rfl, hf8⟩; have hs8 := hf8.size; (try simp only [World.size_drew] at hs8); have BL8 := BL7.drew.fr hf8; have FL8 := BL8.facts; have hm := (show (⟨#[102]⟩ : ByteArray).size + s.size ≤ 9223372036854775807 by have h1 : (⟨#[102]⟩ : ByteArray).size = 1 := rfl; omega); have ha := fun w => run_string_add_sum (P := Try.prog) (w := w) ⟨#[102]⟩ s hm; have ho8 := owns_fr ho7 ((Fr.refl _).drew.trans hf8); obtain ⟨nm, hnm⟩ : ∃ nm, (⟨#[102]⟩ : ByteArray) ++ s = nm := ⟨_, rfl⟩; simp only [hnm] at ha; clear hnm hm)
                | (refine step_append_rd (by rfl) _ _ 62 (by rfl) w4.heap.size 135 i0 (.agg #[.string ⟨#[]⟩, .string ⟨#[]⟩, .int .i64 0]) 3 40 Try.underlying62 hi hz0 hz1 hz2 rfl (by decide) (.slice ao ys.length cap) ys.length (ys.flatMap FileR.cells) (by rfl) (by exact owns_lo (owns_ab ho8 (by repeat (first | (with_reducible exact Ab.refl _ _) | (with_reducible assumption) | (with_reducible refine Ab.drewN ?_ _) | (with_reducible refine Ab.drew ?_) | (with_reducible refine Ab.alloc ?_ _) | (with_reducible refine Ab.setCell ?_ (by (first | (with_reducible assumption) | omega | (simp only [World.size_alloc, World.size_setCell, World.size_drew, World.heap_drewN]; omega) | (simp; done) | (simp; omega))) _) | (with_reducible refine Ab.fr ?_ (by with_reducible assumption))))) (by (first | (with_reducible assumption) | omega | (simp only [World.size_alloc, World.size_setCell, World.size_drew, World.heap_drewN]; omega) | (simp; done) | (simp; omega)))) _ 1 [.string nm, .string ⟨#[]⟩, .int .i64 0] (by rfl) (RdS.new (by first | rfl | (simp; done)) rfl) (by simp [Value.oneCell']) (by unfold maxLen; omega) (by omega) (by (first | (with_reducible assumption) | omega | (simp only [World.size_alloc, World.size_setCell, World.size_drew, World.heap_drewN]; omega) | (simp; done) | (simp; omega))) ?_; intro ao9 cap9 w9 hown hgrow hat; have BL9 := (BL8.alloc _).row hgrow (RowIn.of_owns ho8) (by omega); have FL9 := BL9.facts))
              all_goals
                have BR9 := ((BR7.drew.fr hf8).alloc _).row hgrow (RowIn.of_owns ho8) (by omega)
                have hW9 : FilesW w9 w4.heap.size w9.heap.size (.slice ao9 (ys ++ [(⟨nm, ⟨#[]⟩, 0⟩ : FileR)]).length cap9) (ys ++ [(⟨nm, ⟨#[]⟩, 0⟩ : FileR)]) := ⟨by rw [HL.out, cells_snoc]; exact hown, by rw [HL.out]; exact RowIn.of_owns hown⟩
                have hc9 : Cu w9 b := ((hc7.fr ((Fr.refl _).drew.trans hf8)).fr ((Fr.refl _).alloc _)).gr hgrow (fun k hk => by have := World.ownsRow.lt ho8 k hk; omega)
                have sp09 : Span b (b + 1) w w9 := (((sp07.drew').then_fr hf8).alloc' _).above hgrow (fun k hk => by have := World.ownsRow.lt ho8 k hk; omega)
                have hl9 := HL.out (⟨nm, ⟨#[]⟩, 0⟩ : FileR)
                generalize ys ++ [(⟨nm, ⟨#[]⟩, 0⟩ : FileR)] = zs at *
                go_wp2_with fail
                go_roundw
                case rel =>
                  have hbw : True := trivial
                  have spl : Span w.heap.size (w.heap.size + 1 + 1) w9 (w9.setCell ⟨w.heap.size + 1, 0, none⟩ (.slice ao9 (ys.length + 1) cap9)) := Span.setb (Span.refl _ _ _) (by omega) (by omega)
                  refine ⟨j + 1, zs, ao9, cap9, by omega, by go_num, by omega, by (have := World.ownsRow.lt ho8; have := hgrow.size; simp at this; simp; omega), by rw [hl9]; exact BL9.set_to (by simp), ?_, BR9.far' (by omega) _, hc9.span spl (by omega), sp09.above' spl (Nat.le_refl _)⟩
                  refine OwW.mono (lo := w4.heap.size) (hi := w9.heap.size) ?_ (Nat.le_refl _) (by (first | (with_reducible assumption) | omega | (simp only [World.size_alloc, World.size_setCell, World.size_drew, World.heap_drewN]; omega) | (simp; done) | (simp; omega)))
                  change OwW _ _ _ _ _ _ _ _; (repeat (first | (with_reducible refine OwW.drewN ?_ _) | (with_reducible refine OwW.drew ?_) | (with_reducible refine OwW.alloc ?_ _) | (with_reducible refine OwW.set ?_ (by (first | (with_reducible assumption) | omega | (simp only [World.size_alloc, World.size_setCell, World.size_drew, World.heap_drewN]; omega) | (simp; done) | (simp; omega))) _) | (exact hW9)))
                case measure => (simp [intOf]; omega)
            · go_wp2_with fail
              refine bodyPost_ret (v := .agg #[.slice (ao) ys.length cap]) (by simp [results, Try.results84, go_sem, *]) rfl ⟨ys, ao, cap, by omega, rfl, ?_, ?_, ?_⟩
              · refine OwW.mono (lo := w4.heap.size) (hi := w7.heap.size) ?_ (by omega) (by (first | (with_reducible assumption) | omega | (simp only [World.size_alloc, World.size_setCell, World.size_drew, World.heap_drewN]; omega) | (simp; done) | (simp; omega)))
                have hWf := HW7.out
                change OwW _ _ _ _ _ _ _ _; (repeat (first | (with_reducible refine OwW.drewN ?_ _) | (with_reducible refine OwW.drew ?_) | (with_reducible refine OwW.alloc ?_ _) | (with_reducible refine OwW.set ?_ (by (first | (with_reducible assumption) | omega | (simp only [World.size_alloc, World.size_setCell, World.size_drew, World.heap_drewN]; omega) | (simp; done) | (simp; omega))) _) | (exact hWf)))
              · refine Cu.span (lo := b + 1) (hi := w7.heap.size + 1) hc7 ?_ (by omega)
                repeat (first | with_reducible exact Span.refl _ _ _ | with_reducible refine Span.setb ?_ (by omega) (by omega) | with_reducible apply Span.alloc' | with_reducible apply Span.drew')
              · refine Span.above' (L := w.heap.size) (M := w7.heap.size + 1) sp07 ?_ (Nat.le_refl _)
                repeat (first | with_reducible exact Span.refl _ _ _ | with_reducible refine Span.setb ?_ (by omega) (by omega) | with_reducible apply Span.alloc' | with_reducible apply Span.drew')
        · go_wp2_with fail
          go_region_law ((first | (go_simp; go_at_call 124; refine (l01Below_any b _ _ (hc4.fr (by repeat (first | (with_reducible exact Fr.refl _) | (with_reducible assumption) | (with_reducible refine Fr.drewN ?_ _) | (with_reducible refine Fr.drew ?_) | (with_reducible refine Fr.alloc ?_ _) | (with_reducible refine Fr.setCell ?_ (by (first | (with_reducible assumption) | omega | (simp only [World.size_alloc, World.size_setCell, World.size_drew, World.heap_drewN]; omega) | (simp; done) | (simp; omega))) _) | (with_reducible refine Fr.trans ?_ (by with_reducible assumption))))) (by omega)).mono ?_; rintro e w5 ⟨y, hy1, _, rfl, hc5, sp5⟩; have hy1 := hy1 (by omega); have hwy : IntKind.i64.wrap (19999 + (y : Int)) = 19999 + y := IntWalk.i64_in _ (by omega); have hs5 := sp5.size; (try simp only [World.size_drew, World.size_alloc] at hs5); have BL5 := (BL4.drew).span sp5 (.inr (by omega)); have FL5 := BL5.facts; have BR5 := (BR4.drew).span sp5 (.inr (by omega)); have FR5 := BR5.facts; have HW5 : Hid (FilesW w5 lo w5.heap.size (.slice (some ⟨g, 0, none⟩) xs.length cap) xs) := OwW.of_owns ((HW4.out.fr ((Fr.refl _).drew)).span sp5 (.inr (by omega))).1; have sp05 := (sp04.drew').trans sp5; have fz := HW5.out.1.frozenAt (kk * 3 + 1); obtain ⟨uz, cz⟩ := owns_cell HW5.out.1 (kk * 3 + 1) (by omega)) | (go_simp; go_at_call 131; refine (l01Long_int _ (19999 + y) _ _ (by omega) (by omega)).mono ?_; rintro e w6 ⟨s, hs, rfl, hf6⟩; have hs6 := hf6.size; have BL6 := BL5.fr hf6; have FL6 := BL6.facts; have BR6 := BR5.fr hf6; have FR6 := BR6.facts; have HW6 : Hid (FilesW w6 lo w6.heap.size (.slice (some ⟨g, 0, none⟩) xs.length cap) xs) := OwW.of_owns (HW5.out.fr hf6).1; have sp06 := sp05.then_fr hf6; have hc6 := hc5.fr hf6; have fz := HW6.out.1.frozenAt (kk * 3 + 1); obtain ⟨uz2, cz2⟩ := owns_cell HW6.out.1 (kk * 3 + 1) (by omega))))
          all_goals
            go_wp2_with fail
            obtain ⟨ys, hyl, hWy⟩ := FilesW.text HW6.out kk hkk s
            refine bodyPost_ret (v := .agg #[.slice (some ⟨g, 0, none⟩) xs.length cap]) (by simp [results, Try.results84, go_sem, *]) rfl ⟨ys, some ⟨g, 0, none⟩, cap, by omega, by rw [hyl], ?_, ?_, ?_⟩
            · refine OwW.mono (lo := lo) (hi := w6.heap.size) ?_ (by omega) (by (first | (with_reducible assumption) | omega | (simp only [World.size_alloc, World.size_setCell, World.size_drew, World.heap_drewN]; omega) | (simp; done) | (simp; omega)))
              have hWf := hWy
              change OwW _ _ _ _ _ _ _ _; (repeat (first | (with_reducible refine OwW.drewN ?_ _) | (with_reducible refine OwW.drew ?_) | (with_reducible refine OwW.alloc ?_ _) | (with_reducible refine OwW.set ?_ (by (first | (with_reducible assumption) | omega | (simp only [World.size_alloc, World.size_setCell, World.size_drew, World.heap_drewN]; omega) | (simp; done) | (simp; omega))) _) | (exact hWf)))
            · refine Cu.span (lo := b + 1) (hi := w6.heap.size + 1) hc6 ?_ (by omega)
              repeat (first | with_reducible exact Span.refl _ _ _ | with_reducible refine Span.setb ?_ (by omega) (by omega) | with_reducible apply Span.alloc' | with_reducible apply Span.drew')
            · refine Span.above' (L := w.heap.size) (M := w6.heap.size + 1) sp06 ?_ (Nat.le_refl _)
              repeat (first | with_reducible exact Span.refl _ _ _ | with_reducible refine Span.setb ?_ (by omega) (by omega) | with_reducible apply Span.alloc' | with_reducible apply Span.drew')
        · go_wp2_with fail
          refine bodyPost_ret (v := .agg #[.slice (some ⟨g, 0, none⟩) xs.length cap]) (by simp [results, Try.results84, go_sem, *]) rfl ⟨xs, some ⟨g, 0, none⟩, cap, by omega, rfl, ?_, ?_, ?_⟩
          · refine OwW.mono (lo := lo) (hi := w4.heap.size) ?_ (by omega) (by (first | (with_reducible assumption) | omega | (simp only [World.size_alloc, World.size_setCell, World.size_drew, World.heap_drewN]; omega) | (simp; done) | (simp; omega)))
            have hWf := HW4.out
            change OwW _ _ _ _ _ _ _ _; (repeat (first | (with_reducible refine OwW.drewN ?_ _) | (with_reducible refine OwW.drew ?_) | (with_reducible refine OwW.alloc ?_ _) | (with_reducible refine OwW.set ?_ (by (first | (with_reducible assumption) | omega | (simp only [World.size_alloc, World.size_setCell, World.size_drew, World.heap_drewN]; omega) | (simp; done) | (simp; omega))) _) | (exact hWf)))
          · refine Cu.span (lo := b + 1) (hi := w4.heap.size + 1) hc4 ?_ (by omega)
            repeat (first | with_reducible exact Span.refl _ _ _ | with_reducible refine Span.setb ?_ (by omega) (by omega) | with_reducible apply Span.alloc' | with_reducible apply Span.drew')
          · refine Span.above' (L := w.heap.size) (M := w4.heap.size + 1) sp04 ?_ (Nat.le_refl _)
            repeat (first | with_reducible exact Span.refl _ _ _ | with_reducible refine Span.setb ?_ (by omega) (by omega) | with_reducible apply Span.alloc' | with_reducible apply Span.drew')
end Go.Proofs.Ythcamjijogmbhaa
