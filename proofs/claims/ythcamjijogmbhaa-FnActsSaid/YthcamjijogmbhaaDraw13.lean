/- The reference's drawn acts (spec.l14Acts) and spec.DrawCutActs. No condition but the size of the draw. -/
import Derived.Test.YthcamjijogmbhaaDraw12
import Derived.Test.YthcamjijogmbhaaTAct
import Derived.Test.YthcamjijogmbhaaDo
namespace Go.Proofs.Ythcamjijogmbhaa
open Go.RowKit
set_option linter.unusedVariables false
set_option linter.unusedSimpArgs false
theorem acts_snoc (l : List ActR) (x : ActR) : (l ++ [x]).flatMap ActR.cells = l.flatMap ActR.cells ++ [.int .i64 x.f0, .string x.f1, .string x.f2, .string x.f3] := by simp [ActR.cells]
theorem ActR.small_bulk {a : ActR} (h : a.small) : a.bulk ≤ 27 := by obtain ⟨h1, h2, h3⟩ := h; unfold ActR.bulk; omega
theorem acts_small : ∀ {ls : List ActR}, (∀ a ∈ ls, a.small) → ∀ k, k ≤ ls.length → sumAct ls k ≤ 27 * k := by
  intro ls h k
  induction k with
  | zero => intro _; simp [sumAct]
  | succ k ih =>
    intro hk
    rw [sumAct_succ ls k (by omega)]
    have := ih (by omega)
    have h2 : (actAt ls k).bulk ≤ 27 := ActR.small_bulk (act_mem h k (by omega))
    omega
theorem acts_bulk {ls : List ActR} (h : ∀ a ∈ ls, a.small) (hl : ls.length ≤ 9) : ActsBulk ls ≤ 1000 := by
  have := acts_small h ls.length (Nat.le_refl _)
  unfold ActsBulk
  omega
set_option maxHeartbeats 16000000 in
set_option maxRecDepth 100000 in
theorem l14Acts_any (b lo0 : Nat) (v : Value) (ds : List FileR) (w : World) (hc : Cu w b) (hv : FilesW w lo0 w.heap.size v ds) (hb0 : b < lo0) (hd : ds.length ≤ 40) :
    Calls Try.prog 85 #[.pointer (some ⟨b, 0, none⟩), .agg #[v]] w fun e w' => ∃ (ls : List ActR) (ao : Option Addr) (cap : Nat), ls.length ≤ 9 ∧ (∀ a ∈ ls, a.small) ∧ e = .returned (.slice ao ls.length cap) ∧ ActsW w' w.heap.size w'.heap.size (.slice ao ls.length cap) ls ∧ Cu w' b ∧ Span b (b + 1) w w' := by
  obtain ⟨i0, hi, hz0, hz1, hz2⟩ := info_parts info_Act
  obtain ⟨ad, cd, rfl⟩ := hv.val
  have hbl := hc.lt
  have HV := Lib.hid hv
  clear hv
  go_enter Try.func85, Try.ntmps85
  go_wp2_with fail
  have BD0 : Box ((w.alloc (.cells #[.slice ad ds.length cd] 64)).alloc (.cells #[] 74)) w.heap.size #[.slice ad ds.length cd] 64 := (Box.new _ _ _).alloc _
  go_loopw [5, 6, 7, 8, 9] (fun v i _ _ _ wr => ∃ (k : Nat) (ls : List ActR) (ao : Option Addr) (cap : Nat) (xs : List FileR) (ax : Option Addr) (cx lo : Nat), k ≤ 9 ∧ i = .int .i64 k ∧ v = .slice ao ls.length cap ∧ ls.length ≤ k ∧ Hid (∀ a ∈ ls, a.small) ∧ wr.ownsRow (w.heap.size + 1) 74 4 (.slice ao ls.length cap) ls.length (ls.flatMap ActR.cells) ∧ Box wr w.heap.size #[.slice ax xs.length cx] 64 ∧ FilesW wr lo wr.heap.size (.slice ax xs.length cx) xs ∧ b < lo ∧ xs.length ≤ 40 ∧ Cu wr b ∧ Span b (b + 1) w wr) (fun _ i _ _ _ _ => 9 - (intOf i).toNat)
  case atStart =>
    have HE : ((w.alloc (.cells #[.slice ad ds.length cd] 64)).alloc (.cells #[] 74)).ownsRow (w.heap.size + 1) 74 4 (.slice (some ⟨w.heap.size + 1, 0, none⟩) 0 0) 0 [] := made_empty (by simp) (Nat.le_refl _)
    refine ⟨0, [], _, _, ds, ad, cd, lo0, by omega, rfl, rfl, Nat.le_refl _, Lib.hid (fun a h => by simp at h), HE, BD0, ?_, hb0, hd, hc.fr (by repeat (first | (with_reducible exact Fr.refl _) | (with_reducible assumption) | (with_reducible refine Fr.drewN ?_ _) | (with_reducible refine Fr.drew ?_) | (with_reducible refine Fr.alloc ?_ _) | (with_reducible refine Fr.setCell ?_ (by (first | (with_reducible assumption) | omega | (simp only [World.size_alloc, World.size_setCell, World.size_drew, World.heap_drewN]; omega) | (simp; done) | (simp; omega))) _) | (with_reducible refine Fr.trans ?_ (by with_reducible assumption)))), Span.of_fr (by repeat (first | (with_reducible exact Fr.refl _) | (with_reducible assumption) | (with_reducible refine Fr.drewN ?_ _) | (with_reducible refine Fr.drew ?_) | (with_reducible refine Fr.alloc ?_ _) | (with_reducible refine Fr.setCell ?_ (by (first | (with_reducible assumption) | omega | (simp only [World.size_alloc, World.size_setCell, World.size_drew, World.heap_drewN]; omega) | (simp; done) | (simp; omega))) _) | (with_reducible refine Fr.trans ?_ (by with_reducible assumption))))⟩
    exact OwW.mono (((HV.out.alloc _).alloc _)) (Nat.le_refl _) (by (first | (with_reducible assumption) | omega | (simp only [World.size_alloc, World.size_setCell, World.size_drew, World.heap_drewN]; omega) | (simp; done) | (simp; omega)))
  case round =>
    clear BD0
    obtain ⟨k, ls, ao, cap, xs, ax, cx, lo, hk, rfl, rfl, hlk, hsm, ho, BD, hW, hlo, hxl, hcu, hsp⟩ := hrel
    have HW := Lib.hid hW
    have HO := Lib.hid ho
    clear hW ho
    have hs0 := hsp.size
    go_wp2_with fail
    refine (l01Below_any b _ _ hcu (by omega)).mono ?_
    rintro e w1 ⟨x, hx1, _, rfl, hc1, sp1⟩
    have hx1 := hx1 (by omega)
    have hs1 := sp1.size
    have HO1 : Hid (w1.ownsRow (w.heap.size + 1) 74 4 (.slice ao ls.length cap) ls.length (ls.flatMap ActR.cells)) := sp1.owns HO.out (fun g hg => .inr (by have := (HO.out).lt g hg; omega))
    have BD1 := BD.span sp1 (.inr (by omega))
    have HW1 : Hid (FilesW w1 lo w1.heap.size (.slice ax xs.length cx) xs) := OwW.of_owns (HW.out.span sp1 (.inr (by omega))).1
    have sp01 := hsp.trans sp1
    clear HO HW BD
    by_cases hlt : k < x
    · go_wp2_with fail
      refine (l14Act_any b _ hc1).mono ?_
      rintro e w2 ⟨a, hsa, rfl, hc2, sp2⟩
      have hs2 := sp2.size
      have HO2 : Hid (w2.ownsRow (w.heap.size + 1) 74 4 (.slice ao ls.length cap) ls.length (ls.flatMap ActR.cells)) := sp2.owns HO1.out (fun g hg => .inr (by have := (HO1.out).lt g hg; omega))
      have BD2 := BD1.span sp2 (.inr (by omega))
      have HW2 : Hid (FilesW w2 lo w2.heap.size (.slice ax xs.length cx) xs) := OwW.of_owns (HW1.out.span sp2 (.inr (by omega))).1
      have sp02 := sp01.trans sp2
      have HSA := Lib.hid hsa
      have hab := ActR.small_bulk hsa
      clear hsa HO1 BD1 HW1
      have HAB : Hid (a.f2.size ≤ 1048576) := by have := HSA.out; exact Nat.le_trans this.2.1 (by omega)
      clear hab
      obtain ⟨kd, nm, tx, to⟩ := a
      simp only [] at HAB
      have BA2 : Box (w2.alloc (.cells #[.int .i64 kd, .string nm, .string tx, .string to] 74)) w2.heap.size #[.int .i64 kd, .string nm, .string tx, .string to] 74 := Box.new _ _ _
      have BD3 := BD2.alloc (.cells #[.int .i64 kd, .string nm, .string tx, .string to] 74)
      have FD2 := BD2.facts
      have C1 : Hid (∀ w', Fr w2 w' → Calls Try.prog 89 #[.agg #[.slice ax xs.length cx], .agg #[.int .i64 kd, .string nm, .string tx, .string to]] w' fun e w'' => ∃ ao cap, e = .returned (.tuple #[.agg #[.slice ao (doL xs ⟨kd, nm, tx, to⟩).length cap], .bool (doB xs ⟨kd, nm, tx, to⟩)]) ∧ FilesW w'' w'.heap.size w''.heap.size (.slice ao (doL xs ⟨kd, nm, tx, to⟩).length cap) (doL xs ⟨kd, nm, tx, to⟩) ∧ Fr w' w'') := fun w' h => specDoAct_any xs ⟨kd, nm, tx, to⟩ (by omega) HAB.out _ w' ⟨_, rfl, (HW2.out.fr h).rd⟩
      go_wp2_with fail
      refine (C1.out _ (by repeat (first | (with_reducible exact Fr.refl _) | (with_reducible assumption) | (with_reducible refine Fr.drewN ?_ _) | (with_reducible refine Fr.drew ?_) | (with_reducible refine Fr.alloc ?_ _) | (with_reducible refine Fr.setCell ?_ (by (first | (with_reducible assumption) | omega | (simp only [World.size_alloc, World.size_setCell, World.size_drew, World.heap_drewN]; omega) | (simp; done) | (simp; omega))) _) | (with_reducible refine Fr.trans ?_ (by with_reducible assumption))))).mono ?_
      rintro e w3 ⟨a3, c3, rfl, hl3, hf3⟩
      have hs3 := hf3.size
      simp only [World.size_alloc] at hs3
      have hyl := doL_length (xs := xs) (a := ⟨kd, nm, tx, to⟩)
      generalize doL xs ⟨kd, nm, tx, to⟩ = ys at *
      generalize doB xs ⟨kd, nm, tx, to⟩ = ok at *
      clear C1 FD2
      have BD4 := BD3.fr hf3
      have BA4 := BA2.fr hf3
      have HO4 : Hid (w3.ownsRow (w.heap.size + 1) 74 4 (.slice ao ls.length cap) ls.length (ls.flatMap ActR.cells)) := owns_fr HO2.out (by repeat (first | (with_reducible exact Fr.refl _) | (with_reducible assumption) | (with_reducible refine Fr.drewN ?_ _) | (with_reducible refine Fr.drew ?_) | (with_reducible refine Fr.alloc ?_ _) | (with_reducible refine Fr.setCell ?_ (by (first | (with_reducible assumption) | omega | (simp only [World.size_alloc, World.size_setCell, World.size_drew, World.heap_drewN]; omega) | (simp; done) | (simp; omega))) _) | (with_reducible refine Fr.trans ?_ (by with_reducible assumption))))
      have hc4 : Cu w3 b := hc2.fr (by repeat (first | (with_reducible exact Fr.refl _) | (with_reducible assumption) | (with_reducible refine Fr.drewN ?_ _) | (with_reducible refine Fr.drew ?_) | (with_reducible refine Fr.alloc ?_ _) | (with_reducible refine Fr.setCell ?_ (by (first | (with_reducible assumption) | omega | (simp only [World.size_alloc, World.size_setCell, World.size_drew, World.heap_drewN]; omega) | (simp; done) | (simp; omega))) _) | (with_reducible refine Fr.trans ?_ (by with_reducible assumption))))
      have sp04 : Span b (b + 1) w w3 := (sp02.alloc' _).then_fr hf3
      have HL4 := Lib.hid hl3
      have HRI : Hid (RowIn (w.heap.size + 1) w2.heap.size (.slice ao ls.length cap)) := RowIn.of_owns HO2.out
      have HX5 : Hid (FilesW (w3.alloc (.cells #[.slice a3 ys.length c3] 64)) lo w2.heap.size (.slice ax xs.length cx) xs) := HW2.out.fr (by repeat (first | (with_reducible exact Fr.refl _) | (with_reducible assumption) | (with_reducible refine Fr.drewN ?_ _) | (with_reducible refine Fr.drew ?_) | (with_reducible refine Fr.alloc ?_ _) | (with_reducible refine Fr.setCell ?_ (by (first | (with_reducible assumption) | omega | (simp only [World.size_alloc, World.size_setCell, World.size_drew, World.heap_drewN]; omega) | (simp; done) | (simp; omega))) _) | (with_reducible refine Fr.trans ?_ (by with_reducible assumption))))
      clear hl3 BD3 BA2 BD2 HO2 HW2 hc2 sp02
      have BD5 := BD4.alloc (.cells #[.slice a3 ys.length c3] 64)
      have BA5 := BA4.alloc (.cells #[.slice a3 ys.length c3] 64)
      have BN5 : Box (w3.alloc (.cells #[.slice a3 ys.length c3] 64)) w3.heap.size #[.slice a3 ys.length c3] 64 := Box.new _ _ _
      have HO5 : Hid ((w3.alloc (.cells #[.slice a3 ys.length c3] 64)).ownsRow (w.heap.size + 1) 74 4 (.slice ao ls.length cap) ls.length (ls.flatMap ActR.cells)) := World.ownsRow.alloc HO4.out _
      have hc5 : Cu (w3.alloc (.cells #[.slice a3 ys.length c3] 64)) b := hc4.fr (by repeat (first | (with_reducible exact Fr.refl _) | (with_reducible assumption) | (with_reducible refine Fr.drewN ?_ _) | (with_reducible refine Fr.drew ?_) | (with_reducible refine Fr.alloc ?_ _) | (with_reducible refine Fr.setCell ?_ (by (first | (with_reducible assumption) | omega | (simp only [World.size_alloc, World.size_setCell, World.size_drew, World.heap_drewN]; omega) | (simp; done) | (simp; omega))) _) | (with_reducible refine Fr.trans ?_ (by with_reducible assumption))))
      have sp05 := sp04.alloc' (.cells #[.slice a3 ys.length c3] 64)
      have hs5 : (w3.alloc (.cells #[.slice a3 ys.length c3] 64)).heap.size = w3.heap.size + 1 := by simp
      have hl4' : FilesW w3 (w2.heap.size + 1) w3.heap.size (.slice a3 ys.length c3) ys := by
        have := HL4.out
        simpa using this
      have HL5 : Hid (FilesW (w3.alloc (.cells #[.slice a3 ys.length c3] 64)) (w2.heap.size + 1) w3.heap.size (.slice a3 ys.length c3) ys) := Lib.hid (OwW.alloc hl4' _)
      clear hl4'
      have HCA := Lib.hid (acts_snoc ls ⟨kd, nm, tx, to⟩)
      have HLA := Lib.hid (show (ls ++ [(⟨kd, nm, tx, to⟩ : ActR)]).length = ls.length + 1 by simp)
      have HSN : Hid (∀ a ∈ ls ++ [⟨kd, nm, tx, to⟩], ActR.small a) := by
        intro a ha
        rw [List.mem_append, List.mem_singleton] at ha
        rcases ha with ha | rfl
        · exact hsm.out a ha
        · exact HSA.out
      clear BD4 BA4 HO4 hc4 sp04 HL4 HSA
      cases ok
      · go_wp2_with fail
        generalize w3.alloc (.cells #[.slice a3 ys.length c3] 64) = w5 at *
        refine (l01Once_any b _ _ hc5 (by omega)).mono ?_
        rintro e w6 ⟨y, rfl, hc6, sp6⟩
        have hs6 := sp6.size
        have BD6 := BD5.span sp6 (.inr (by omega))
        have BA6 := BA5.span sp6 (.inr (by omega))
        have BN6 := BN5.span sp6 (.inr (by omega))
        have HO6 : Hid (w6.ownsRow (w.heap.size + 1) 74 4 (.slice ao ls.length cap) ls.length (ls.flatMap ActR.cells)) := sp6.owns HO5.out (fun g hg => .inr (by have := (HO5.out).lt g hg; omega))
        have HL6 := Lib.hid (HL5.out.span sp6 (.inr (by omega)))
        have HX6 := Lib.hid (HX5.out.span sp6 (.inr (by omega)))
        have sp06 := sp05.trans sp6
        clear BD5 BA5 BN5 HO5 HL5 hc5 sp05 HX5
        cases y
        · go_wp2_with fail
          go_roundw
          case rel => exact ⟨k + 1, ls, ao, cap, xs, ax, cx, lo, by omega, by go_num, rfl, by omega, hsm, HO6.out, BD6, OwW.mono HX6.out (Nat.le_refl _) (by omega), hlo, hxl, hc6, sp06⟩
          case measure => (simp [intOf]; omega)
        · have BA := BA6
          have FA := BA.facts
          have HSZ : Hid (w3.heap.size < w6.heap.size) := by (show w3.heap.size < w6.heap.size; omega)
          go_wp2_with (at_builtin; (refine wpList_append_rd rfl _ _ 46 rfl (w.heap.size + 1) 74 i0 (.agg #[.int .i64 0, .string ⟨#[]⟩, .string ⟨#[]⟩, .string ⟨#[]⟩]) 4 56 Try.underlying46 hi hz0 hz1 hz2 rfl (by decide) _ ls.length (ls.flatMap ActR.cells) rfl (World.ownsRow.alloc HO6.out _) _ 1 [.int .i64 kd, .string nm, .string tx, .string to] rfl (RdS.new (by first | rfl | simp) rfl) (by simp [Value.oneCell']) (by unfold maxLen; omega) (by omega) (by (first | (with_reducible assumption) | omega | (simp only [World.size_alloc, World.size_setCell, World.size_drew, World.heap_drewN]; omega) | (simp; done) | (simp; omega))) ?_; intro ao' cap' w8 hown hgrow hat; have BN8 := (BN6.alloc _).row hgrow HRI.out (by omega); have FN8 := BN8.facts; have BD8 := (BD6.alloc _).row hgrow HRI.out (by omega); have FD8 := BD8.facts))
          rw [← HCA.out] at hown
          have s8 : Span (w.heap.size + 1) w2.heap.size (w6.alloc (.cells #[.int .i64 kd, .string nm, .string tx, .string to] 74)) w8 := Span.of_gr hgrow (fun g hg => HRI.out g hg)
          have hs8 := s8.size
          simp only [World.size_alloc] at hs8
          have hc8 : Cu w8 b := (hc6.fr ((Fr.refl _).alloc _)).span s8 (by omega)
          have sp08 : Span b (b + 1) w w8 := (sp06.alloc' _).above' s8 (by omega)
          have hW8 : FilesW w8 (w2.heap.size + 1) w3.heap.size (.slice a3 ys.length c3) ys := (HL6.out.alloc _).span s8 (.inr (by omega))
          have hr8 := RowIn.of_owns hown
          go_roundw
          case rel =>
            have q5 : Span w.heap.size (w.heap.size + 1) w8 (w8.setCell ⟨w.heap.size, 0, none⟩ (.slice a3 ys.length c3)) := Span.setb (Span.refl _ _ _) (by omega) (by omega)
            have ho8 := owns_far hown (p := ⟨w.heap.size, 0, none⟩) (fun e => by have := hr8 _ e; simp at this; omega) (.slice a3 ys.length c3)
            refine ⟨k + 1, ls ++ [⟨kd, nm, tx, to⟩], ao', cap', ys, a3, c3, w2.heap.size + 1, by omega, by go_num, by rw [HLA.out], by rw [HLA.out]; omega, HSN, ?_, BD8.set_to (by simp), ?_, by omega, by omega, hc8.span q5 (by omega), sp08.above' q5 (Nat.le_refl _)⟩
            · rw [HLA.out]; exact ho8
            · refine OwW.mono (lo := w2.heap.size + 1) (hi := w3.heap.size) ?_ (Nat.le_refl _) (by (first | (with_reducible assumption) | omega | (simp only [World.size_alloc, World.size_setCell, World.size_drew, World.heap_drewN]; omega) | (simp; done) | (simp; omega)))
              change OwW _ _ _ _ _ _ _ _; (repeat (first | (with_reducible refine OwW.drewN ?_ _) | (with_reducible refine OwW.drew ?_) | (with_reducible refine OwW.alloc ?_ _) | (with_reducible refine OwW.set ?_ (by (first | (with_reducible assumption) | omega | (simp only [World.size_alloc, World.size_setCell, World.size_drew, World.heap_drewN]; omega) | (simp; done) | (simp; omega))) _) | (exact hW8)))
          case measure => (simp [intOf]; omega)
      · have BA := BA5
        have FA := BA.facts
        have HSZ : Hid (w3.heap.size < (w3.alloc (.cells #[.slice a3 ys.length c3] 64)).heap.size) := by (show w3.heap.size < (w3.alloc (.cells #[.slice a3 ys.length c3] 64)).heap.size; omega)
        go_wp2_with (at_builtin; (refine wpList_append_rd rfl _ _ 46 rfl (w.heap.size + 1) 74 i0 (.agg #[.int .i64 0, .string ⟨#[]⟩, .string ⟨#[]⟩, .string ⟨#[]⟩]) 4 56 Try.underlying46 hi hz0 hz1 hz2 rfl (by decide) _ ls.length (ls.flatMap ActR.cells) rfl (World.ownsRow.alloc HO5.out _) _ 1 [.int .i64 kd, .string nm, .string tx, .string to] rfl (RdS.new (by first | rfl | simp) rfl) (by simp [Value.oneCell']) (by unfold maxLen; omega) (by omega) (by (first | (with_reducible assumption) | omega | (simp only [World.size_alloc, World.size_setCell, World.size_drew, World.heap_drewN]; omega) | (simp; done) | (simp; omega))) ?_; intro ao' cap' w8 hown hgrow hat; have BN8 := (BN5.alloc _).row hgrow HRI.out (by omega); have FN8 := BN8.facts; have BD8 := (BD5.alloc _).row hgrow HRI.out (by omega); have FD8 := BD8.facts))
        rw [← HCA.out] at hown
        have s8 : Span (w.heap.size + 1) w2.heap.size ((w3.alloc (.cells #[.slice a3 ys.length c3] 64)).alloc (.cells #[.int .i64 kd, .string nm, .string tx, .string to] 74)) w8 := Span.of_gr hgrow (fun g hg => HRI.out g hg)
        have hs8 := s8.size
        simp only [World.size_alloc] at hs8
        have hc8 : Cu w8 b := (hc5.fr ((Fr.refl _).alloc _)).span s8 (by omega)
        have sp08 : Span b (b + 1) w w8 := (sp05.alloc' _).above' s8 (by omega)
        have hW8 : FilesW w8 (w2.heap.size + 1) w3.heap.size (.slice a3 ys.length c3) ys := (HL5.out.alloc _).span s8 (.inr (by omega))
        have hr8 := RowIn.of_owns hown
        go_roundw
        case rel =>
          have q5 : Span w.heap.size (w.heap.size + 1) w8 (w8.setCell ⟨w.heap.size, 0, none⟩ (.slice a3 ys.length c3)) := Span.setb (Span.refl _ _ _) (by omega) (by omega)
          have ho8 := owns_far hown (p := ⟨w.heap.size, 0, none⟩) (fun e => by have := hr8 _ e; simp at this; omega) (.slice a3 ys.length c3)
          refine ⟨k + 1, ls ++ [⟨kd, nm, tx, to⟩], ao', cap', ys, a3, c3, w2.heap.size + 1, by omega, by go_num, by rw [HLA.out], by rw [HLA.out]; omega, HSN, ?_, BD8.set_to (by simp), ?_, by omega, by omega, hc8.span q5 (by omega), sp08.above' q5 (Nat.le_refl _)⟩
          · rw [HLA.out]; exact ho8
          · refine OwW.mono (lo := w2.heap.size + 1) (hi := w3.heap.size) ?_ (Nat.le_refl _) (by (first | (with_reducible assumption) | omega | (simp only [World.size_alloc, World.size_setCell, World.size_drew, World.heap_drewN]; omega) | (simp; done) | (simp; omega)))
            change OwW _ _ _ _ _ _ _ _; (repeat (first | (with_reducible refine OwW.drewN ?_ _) | (with_reducible refine OwW.drew ?_) | (with_reducible refine OwW.alloc ?_ _) | (with_reducible refine OwW.set ?_ (by (first | (with_reducible assumption) | omega | (simp only [World.size_alloc, World.size_setCell, World.size_drew, World.heap_drewN]; omega) | (simp; done) | (simp; omega))) _) | (exact hW8)))
        case measure => (simp [intOf]; omega)
    · go_wp2_with fail
      go_ret
      refine ⟨ls, ao, cap, by omega, hsm.out, rfl, ?_, hc1, sp01⟩
      exact OwW.mono (OwW.of_owns HO1.out) (by omega) (Nat.le_refl _)
set_option maxHeartbeats 16000000 in
set_option maxRecDepth 100000 in
theorem DrawCutActs_any (ao : Option Addr) (n cap : Nat) (w : World) (hy : ByR w w.heap.size ao n cap) :
    Calls Try.prog 36 #[.slice ao n cap] w fun e w' => ∃ (xs : List FileR) (ax : Option Addr) (cx : Nat) (ls : List ActR) (al : Option Addr) (cl : Nat) (p : Int) (ts : List Int) (at_ : Option Addr) (ct : Nat), xs.length ≤ 40 ∧ ls.length ≤ 9 ∧ (∀ a ∈ ls, a.small) ∧ ts.length ≤ 5 ∧ e = .returned (.tuple #[.agg #[.slice ax xs.length cx], .slice al ls.length cl, .int .i64 p, .slice at_ ts.length ct]) ∧ FilesR w' (.slice ax xs.length cx) xs ∧ ActsR w' (.slice al ls.length cl) ls ∧ IntsR w' (.slice at_ ts.length ct) ts ∧ Fr w w' := by
  have HY := Lib.hid hy
  clear hy
  go_enter Try.func36, Try.ntmps36
  go_wp2_with fail
  refine (l01New_any ao n cap _ (HY.out.here (by repeat (first | (with_reducible exact Fr.refl _) | (with_reducible assumption) | (with_reducible refine Fr.drewN ?_ _) | (with_reducible refine Fr.drew ?_) | (with_reducible refine Fr.alloc ?_ _) | (with_reducible refine Fr.setCell ?_ (by (first | (with_reducible assumption) | omega | (simp only [World.size_alloc, World.size_setCell, World.size_drew, World.heap_drewN]; omega) | (simp; done) | (simp; omega))) _) | (with_reducible refine Fr.trans ?_ (by with_reducible assumption)))))).mono ?_
  rintro e w1 ⟨b, rfl, hb, hc1, hf1⟩
  have hs1 := hf1.size
  have hbl := hc1.lt
  simp only [World.size_alloc] at hs1 hb
  have BR1 := (Box.new w #[.slice none 0 0] 64).fr hf1
  have hf1' : Fr w w1 := by repeat (first | (with_reducible exact Fr.refl _) | (with_reducible assumption) | (with_reducible refine Fr.drewN ?_ _) | (with_reducible refine Fr.drew ?_) | (with_reducible refine Fr.alloc ?_ _) | (with_reducible refine Fr.setCell ?_ (by (first | (with_reducible assumption) | omega | (simp only [World.size_alloc, World.size_setCell, World.size_drew, World.heap_drewN]; omega) | (simp; done) | (simp; omega))) _) | (with_reducible refine Fr.trans ?_ (by with_reducible assumption)))
  go_wp2_with fail
  refine (l14Disk_any b _ hc1).mono ?_
  rintro e w2 ⟨xs, ax, cx, hxl, rfl, hW2, hc2, sp2⟩
  have hs2 := sp2.size
  have BR2 := BR1.span sp2 (.inl (by omega))
  have HW2 := Lib.hid hW2
  clear hW2 BR1
  have BX2 : Box (w2.alloc (.cells #[.slice ax xs.length cx] 64)) w2.heap.size #[.slice ax xs.length cx] 64 := Box.new _ _ _
  have HW3 : Hid (FilesW (w2.alloc (.cells #[.slice ax xs.length cx] 64)) w1.heap.size (w2.alloc (.cells #[.slice ax xs.length cx] 64)).heap.size (.slice ax xs.length cx) xs) := OwW.mono (HW2.out.alloc _) (Nat.le_refl _) (by (first | (with_reducible assumption) | omega | (simp only [World.size_alloc, World.size_setCell, World.size_drew, World.heap_drewN]; omega) | (simp; done) | (simp; omega)))
  go_wp2_with fail
  refine (l14Acts_any b w1.heap.size _ xs _ (hc2.fr (by repeat (first | (with_reducible exact Fr.refl _) | (with_reducible assumption) | (with_reducible refine Fr.drewN ?_ _) | (with_reducible refine Fr.drew ?_) | (with_reducible refine Fr.alloc ?_ _) | (with_reducible refine Fr.setCell ?_ (by (first | (with_reducible assumption) | omega | (simp only [World.size_alloc, World.size_setCell, World.size_drew, World.heap_drewN]; omega) | (simp; done) | (simp; omega))) _) | (with_reducible refine Fr.trans ?_ (by with_reducible assumption))))) HW3.out hbl hxl).mono ?_
  rintro e w4 ⟨ls, al, cl, hll, hsm, rfl, hl4, hc4, sp4⟩
  have hs4 := sp4.size
  simp only [World.size_alloc] at hs4
  have HW4 : Hid (FilesW w4 w1.heap.size w2.heap.size (.slice ax xs.length cx) xs) := (HW2.out.alloc _).span sp4 (.inr (by omega))
  have HL4 : Hid (ActsW w4 (w2.heap.size + 1) w4.heap.size (.slice al ls.length cl) ls) := Lib.hid (by simpa using hl4)
  have BR4 := (BR2.alloc (.cells #[.slice ax xs.length cx] 64)).span sp4 (.inl (by omega))
  have BX4 := BX2.span sp4 (.inr (by omega))
  have sp24 := (Span.of_fr (lo := b) (hi := b + 1) ((Fr.refl w2).alloc (.cells #[.slice ax xs.length cx] 64))).trans sp4
  have sp14 := sp2.trans sp24
  have FX4 := BX4.facts
  have HSM := Lib.hid hsm
  have hw1 : IntKind.i64.wrap ((ls.length : Int) + 1) = (ls.length : Int) + 1 := IntWalk.i64_in _ (by omega)
  clear hl4 BR2 BX2 HW2 HW3 hsm
  go_wp2_with fail
  go_region_law (first
    | (go_simp; go_at_call 86; refine (l01Place_any b _ _ (hc4.fr (by repeat (first | (with_reducible exact Fr.refl _) | (with_reducible assumption) | (with_reducible refine Fr.drewN ?_ _) | (with_reducible refine Fr.drew ?_) | (with_reducible refine Fr.alloc ?_ _) | (with_reducible refine Fr.setCell ?_ (by (first | (with_reducible assumption) | omega | (simp only [World.size_alloc, World.size_setCell, World.size_drew, World.heap_drewN]; omega) | (simp; done) | (simp; omega))) _) | (with_reducible refine Fr.trans ?_ (by with_reducible assumption))))) (by omega) (by omega)).mono ?_; rintro e w5 ⟨p, rfl, hc5, sp5⟩; have hs5 := sp5.size; (try simp only [World.size_drew] at hs5); have BX5 := BX4.drew.span sp5 (.inr (by omega)); have FX5 := BX5.facts; have BR5 := BR4.drew.span sp5 (.inl (by omega)); have FR5 := BR5.facts)
    | (go_simp; go_at_call 87; refine (l14Left_any b _ hc5).mono ?_; rintro e w6 ⟨ts, at_, ct, htl, rfl, ht6, hc6, sp6⟩; have hs6 := sp6.size; have BX6 := BX5.span sp6 (.inr (by omega)); have FX6 := BX6.facts; have BR6 := BR5.span sp6 (.inl (by omega)); have FR6 := BR6.facts))
  all_goals
    have hW6 : FilesW w6 w1.heap.size w2.heap.size (.slice ax xs.length cx) xs := ((HW4.out.fr (Fr.refl _).drew).span sp5 (.inr (by omega))).span sp6 (.inr (by omega))
    have hL6 : ActsW w6 (w2.heap.size + 1) w4.heap.size (.slice al ls.length cl) ls := ((HL4.out.fr (Fr.refl _).drew).span sp5 (.inr (by omega))).span sp6 (.inr (by omega))
    have hT6 : OwW w6 w5.heap.size w6.heap.size 3 1 (.slice at_ ts.length ct) ts.length (ts.map (Value.int .i64)) := OwW.of_owns ht6
    have hf6 : Fr w w6 := Span.fr hf1' (((sp14.drew').trans sp5).trans sp6) (by omega)
    clear HW4 HL4 ht6
    go_wp2_with fail
    refine bodyPost_ret (v := .tuple #[.agg #[.slice ax xs.length cx], .slice al ls.length cl, .int .i64 p, .slice at_ ts.length ct]) (by simp [results, Try.results36, go_sem, *]) rfl ⟨xs, ax, cx, ls, al, cl, p, ts, at_, ct, hxl, hll, HSM.out, htl, rfl, ?_, ?_, ?_, by repeat (first | (with_reducible exact Fr.refl _) | (with_reducible assumption) | (with_reducible refine Fr.drewN ?_ _) | (with_reducible refine Fr.drew ?_) | (with_reducible refine Fr.alloc ?_ _) | (with_reducible refine Fr.setCell ?_ (by (first | (with_reducible assumption) | omega | (simp only [World.size_alloc, World.size_setCell, World.size_drew, World.heap_drewN]; omega) | (simp; done) | (simp; omega))) _) | (with_reducible refine Fr.trans ?_ (by with_reducible assumption)))⟩
    · refine FilesW.rd (lo := w1.heap.size) (hi := w2.heap.size) ?_
      change OwW _ _ _ _ _ _ _ _; (repeat (first | (with_reducible refine OwW.drewN ?_ _) | (with_reducible refine OwW.drew ?_) | (with_reducible refine OwW.alloc ?_ _) | (with_reducible refine OwW.set ?_ (by (first | (with_reducible assumption) | omega | (simp only [World.size_alloc, World.size_setCell, World.size_drew, World.heap_drewN]; omega) | (simp; done) | (simp; omega))) _) | (exact hW6)))
    · refine ActsW.rd (lo := w2.heap.size + 1) (hi := w4.heap.size) ?_
      change OwW _ _ _ _ _ _ _ _; (repeat (first | (with_reducible refine OwW.drewN ?_ _) | (with_reducible refine OwW.drew ?_) | (with_reducible refine OwW.alloc ?_ _) | (with_reducible refine OwW.set ?_ (by (first | (with_reducible assumption) | omega | (simp only [World.size_alloc, World.size_setCell, World.size_drew, World.heap_drewN]; omega) | (simp; done) | (simp; omega))) _) | (exact hL6)))
    · refine OwW.rd (lo := w5.heap.size) (hi := w6.heap.size) (e := 3) ?_
      change OwW _ _ _ _ _ _ _ _; (repeat (first | (with_reducible refine OwW.drewN ?_ _) | (with_reducible refine OwW.drew ?_) | (with_reducible refine OwW.alloc ?_ _) | (with_reducible refine OwW.set ?_ (by (first | (with_reducible assumption) | omega | (simp only [World.size_alloc, World.size_setCell, World.size_drew, World.heap_drewN]; omega) | (simp; done) | (simp; omega))) _) | (exact hT6)))
end Go.Proofs.Ythcamjijogmbhaa
