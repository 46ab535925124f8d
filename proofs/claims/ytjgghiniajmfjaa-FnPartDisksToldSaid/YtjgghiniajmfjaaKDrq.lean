/- Texts in one: Draw4, Drq. -/
import Derived.Test.YtjgghiniajmfjaaKDraw
import Derived.Deep.RegionLaw
import Derived.Test.YtjgghiniajmfjaaDrg2
import Derived.Test.YtjgghiniajmfjaaDrp
import Derived.Test.YtjgghiniajmfjaaFls
import Derived.BigRegion
import Derived.RegionTactic
/- The reference's drawn packet (spec.l01PickInt, l18Packet): what bounds its fields keep. No condition but the size of the draw. -/
namespace Go.Proofs.Ytjgghiniajmfjaa
open Go.RowKit
set_option linter.unusedVariables false
set_option linter.unusedSimpArgs false

set_option maxHeartbeats 1000000 in
theorem l01PickInt_any (b g : Nat) (xs : List Int) (T : TypeId) (w : World) (hc : Cu w b) (hb : Box w g (xs.map (Value.int .i64)).toArray T) (hg : b < g) (hx : 0 < xs.length) (hl : xs.length ≤ 256) :
    Calls Try.prog 129 #[.pointer (some ⟨b, 0, none⟩), .slice (some ⟨g, 0, none⟩) xs.length xs.length] w fun e w' => ∃ k, k < xs.length ∧ e = .returned (.int .i64 (iAt xs k)) ∧ Cu w' b ∧ Span b (b + 1) w w' := by
  go_enter Try.func129, Try.ntmps129
  go_wp2_with fail
  refine (l01Below_any b _ _ hc (by omega)).mono ?_
  rintro e w1 ⟨k, hk1, hk2, rfl, hc1, sp1⟩
  have hk3 : k < xs.length := by have := hk1 (by omega); omega
  have c0 : w1.cell? ⟨g, k, none⟩ = some (.int .i64 (iAt xs k)) := by
    rw [(hb.span sp1 (.inr (by omega))).cell]
    simp [iAt, List.getD, List.getElem?_eq_getElem hk3, hk3]
  clear hb
  go_wp2_with fail
  go_ret
  exact ⟨k, hk3, rfl, hc1, sp1⟩
end Go.Proofs.Ytjgghiniajmfjaa

/- A drawn disk, spoilt or not (spec.l16Any, DrawReadPart); drawn arguments of PartActs and EpochActs. No condition but the reading of the draw. -/
namespace Go.Proofs.Ytjgghiniajmfjaa
open Go.RowKit
set_option linter.unusedVariables false
set_option linter.unusedSimpArgs false
theorem Ab.up {lo lo' : Nat} {w w' : World} (h : Ab lo w w') (hl : lo ≤ lo') : Ab lo' w w' := ⟨h.1, fun k hk hs => h.2 k (by omega) hs⟩
set_option maxHeartbeats 16000000 in
set_option maxRecDepth 100000 in
theorem l16Any_any (b : Nat) (w : World) (hc : Cu w b) :
    Calls Try.prog 123 #[.pointer (some ⟨b, 0, none⟩)] w fun e w' => ∃ (xs : List FileR) (ao : Option Addr) (cap : Nat), e = .returned (.agg #[.slice ao xs.length cap]) ∧ (∀ W, Ab w.heap.size w' W → FilesR W (.slice ao xs.length cap) xs) ∧ Cu w' b ∧ Span b (b + 1) w w' := by
  obtain ⟨i0, hi, hz0, hz1, hz2⟩ := info_parts info_File
  have hbl := hc.lt
  go_enter Try.func123, Try.ntmps123
  have BR : Box (w.alloc (.cells #[.slice none 0 0] 46)) w.heap.size #[.slice none 0 0] 46 := Box.new _ _ _
  go_wp2_with fail
  refine (l01Below_any b 10 _ (hc.fr (by repeat (first | (with_reducible exact Fr.refl _) | (with_reducible assumption) | (with_reducible refine Fr.drewN ?_ _) | (with_reducible refine Fr.drew ?_) | (with_reducible refine Fr.alloc ?_ _) | (with_reducible refine Fr.setCell ?_ (by (first | (with_reducible assumption) | omega | (simp only [World.size_alloc, World.size_setCell, World.size_drew, World.heap_drewN]; omega) | (simp; done) | (simp; omega))) _) | (with_reducible refine Fr.trans ?_ (by with_reducible assumption))))) (by omega)).mono ?_
  rintro e w1 ⟨x1, hx1, _, rfl, hc1, sp1⟩
  have hx1 := hx1 (by omega)
  have z1 := sp1.size; (try simp only [World.size_alloc] at z1)
  have BR := BR.span sp1 (.inr (by omega))
  go_wp2_with fail
  refine (l01Below_any b 9 _ hc1 (by omega)).mono ?_
  rintro e w2 ⟨x2, hx2, _, rfl, hc2, sp2⟩
  have hx2 := hx2 (by omega)
  have z2 := sp2.size
  have BR := BR.span sp2 (.inr (by omega))
  go_wp2_with fail
  refine (l16Disk_any b _ hc2).mono ?_
  rintro e w3 ⟨xs, a3, c3, ⟨g0, ts, D, hgb, hxl, htl, hep, hne⟩, rfl, ho3, hc3, sp3⟩
  have z3 := sp3.size
  have BR := BR.span sp3 (.inr (by omega))
  have h0 : 0 < xs.length := D.some
  obtain ⟨t0, ht0⟩ : ∃ t0, (fileAt xs 0).f1 = t0 := ⟨_, rfl⟩
  have hts : 0 < t0.size := by rw [← ht0, fileAt_get h0]; exact hne _ (List.getElem_mem h0)
  have htz : t0.size ≤ 20000 := by rw [← ht0]; exact (diskB_file (keptB_disk D.ky) h0).1
  have HO3 := Lib.hid ho3
  have HT0 := Lib.hid ht0
  have hs3 : Span b (b + 1) w w3 := ((((Span.refl b (b + 1) w).alloc' _).trans sp1).trans sp2).trans sp3
  have hoc : ∀ u ∈ xs.flatMap FileR.cells, u.oneCell' = true := by
    intro u hu
    obtain ⟨x, _, h⟩ := List.mem_flatMap.1 hu
    simp only [FileR.cells, List.mem_cons, List.not_mem_nil, or_false] at h
    rcases h with rfl | rfl | rfl <;> rfl
  have HOC := Lib.hid hoc
  clear ho3 D hgb hep hne hc1 hc2 hc ht0 hoc
  have BD3 : Box (w3.alloc (.cells #[.slice a3 xs.length c3] 46)) w3.heap.size #[.slice a3 xs.length c3] 46 := Box.new _ _ _
  have FD3 := BD3.facts
  have HOD : Hid (FilesR ((w3.alloc (.cells #[.slice a3 xs.length c3] 46)).alloc (.cells #[] 147)) (.slice a3 xs.length c3) xs) := Lib.hid ((OwW.rd HO3.out).fr (((Fr.refl _).alloc _).alloc _))
  have hcase : x1 = 0 ∨ x1 = 1 ∨ x1 = 2 ∨ x1 = 3 ∨ 3 < x1 := by omega
  rcases hcase with hk | hk | hk | hk | hk
  · subst hk
    obtain ⟨q, hq⟩ : ∃ q : Nat, x2 % t0.size = q := ⟨_, rfl⟩
    have hql : q < t0.size := by rw [← hq]; exact Nat.mod_lt _ hts
    have hqi : (x2 : Int) % (t0.size : Int) = (q : Int) := by rw [← hq]; simp
    have hwq : IntKind.i64.wrap ((t0.size : Int) - (q : Int)) = (t0.size : Int) - (q : Int) := IntWalk.i64_in _ (by omega)
    have htn : ((t0.size : Int) - (q : Int)).toNat = t0.size - q := by omega
    have hn0 : ((t0.size : Int) == 0) = false := by rw [beq_eq_false_iff_ne]; omega
    go_wp2_with (at_builtin; (refine wpList_append_rd rfl _ _ 44 rfl (w3.heap.size + 1) 147 i0 (.agg #[.string ⟨#[]⟩, .string ⟨#[]⟩, .int .i64 0]) 3 40 Try.underlying44 hi hz0 hz1 hz2 rfl (by decide) (.slice (some ⟨w3.heap.size + 1, 0, none⟩) 0 0) 0 [] rfl (made_empty (by simp) (by omega)) _ xs.length (xs.flatMap FileR.cells) rfl HOD.out HOC.out (by unfold maxLen; omega) (by omega) (by (first | (with_reducible assumption) | omega | (simp only [World.size_alloc, World.size_setCell, World.size_drew, World.heap_drewN]; omega) | (simp; done) | (simp; omega))) ?_; intro ay cy w9 hown hgrow hat; simp only [Nat.zero_add, List.nil_append] at hown ⊢; obtain ⟨g, cg, hv, hg1, hg2, hg3, HG⟩ := FilesW.from_ (OwW.of_owns hown) h0; cases hv; obtain ⟨q0, q1, q2⟩ := HG.out w9 (Fr.refl _) 0 h0; simp only [Nat.zero_mul, Nat.zero_add] at q0 q1 q2; rw [HT0.out] at q1; have r1 := World.ownsRow.frozenAt hown 1; have r2 := World.ownsRow.frozenAt hown 2; have BR9 := ((BR.alloc (.cells #[.slice a3 xs.length c3] 46)).alloc (.cells #[] 147)).row hgrow (RowIn.one (lo := w3.heap.size + 1) (hi := w3.heap.size + 1 + 1) (Nat.le_refl _) (Nat.lt_succ_self _)) (.inl (by omega)); have FR9 := BR9.facts; have HOWN := Lib.hid hown; have HGR := Lib.hid hgrow; have z9 := hgrow.size; (simp only [World.size_alloc] at z9); clear FD3 hown hgrow hat HG))
    have hW : FilesW w9 (w3.heap.size + 1) w9.heap.size (.slice (some ⟨g, 0, none⟩) xs.length cy) xs := OwW.of_owns HOWN.out
    have hc9 : Cu w9 b := Cu.gr (Cu.fr hc3 (((Fr.refl _).alloc (.cells #[.slice a3 xs.length c3] 46)).alloc (.cells #[] 147))) HGR.out (fun k hk => by have hk' : w3.heap.size + 1 = k := (by simpa [Value.ownBlock] using hk); omega); have hs9 : Span b (b + 1) w w9 := Span.above ((hs3.alloc' (.cells #[.slice a3 xs.length c3] 46)).alloc' (.cells #[] 147)) HGR.out (fun k hk => by have hk' : w3.heap.size + 1 = k := (by simpa [Value.ownBlock] using hk); omega)
    clear HOWN HGR
    go_region
    all_goals
      go_wp2_with fail
      obtain ⟨ys, hyl, hWy⟩ := FilesW.text hW 0 h0 (t0.extract 0 (t0.size - q))
      obtain ⟨us, hul, hWu⟩ := FilesW.kept (OwW.drew hWy) 0 (by omega) 0
      have hWu2 : FilesW (((w9.setCell ⟨g, 1, none⟩ (.string (t0.extract 0 (t0.size - q)))).drew).setCell ⟨g, 2, none⟩ (.int .i64 0)) (w3.heap.size + 1) w9.heap.size (.slice (some ⟨g, 0, none⟩) us.length cy) us := hWu
      refine bodyPost_ret (v := .agg #[.slice (some ⟨g, 0, none⟩) xs.length cy]) (by simp [results, Try.results123, go_sem, *]) rfl ⟨us, some ⟨g, 0, none⟩, cy, by rw [hul, hyl], ?_, ?_, ?_⟩
      · exact fun W hQ => FilesW.rd (OwW.ab (OwW.set hWu2 (.inl (by show w.heap.size < _; omega)) _) (Ab.up hQ (by omega)))
      · refine Cu.span (lo := b + 1) (hi := w9.heap.size + 1) hc9 ?_ (by omega); (repeat (first | with_reducible exact Span.refl _ _ _ | with_reducible refine Span.setb ?_ (by omega) (by omega) | with_reducible apply Span.alloc' | with_reducible apply Span.drew' | with_reducible apply Span.drewN'))
      · refine Span.above' (L := w.heap.size) (M := w9.heap.size + 1) hs9 ?_ (Nat.le_refl _); (repeat (first | with_reducible exact Span.refl _ _ _ | with_reducible refine Span.setb ?_ (by omega) (by omega) | with_reducible apply Span.alloc' | with_reducible apply Span.drew' | with_reducible apply Span.drewN'))
  · subst hk
    go_wp2_with (at_builtin; (refine wpList_append_rd rfl _ _ 44 rfl (w3.heap.size + 1) 147 i0 (.agg #[.string ⟨#[]⟩, .string ⟨#[]⟩, .int .i64 0]) 3 40 Try.underlying44 hi hz0 hz1 hz2 rfl (by decide) (.slice (some ⟨w3.heap.size + 1, 0, none⟩) 0 0) 0 [] rfl (made_empty (by simp) (by omega)) _ xs.length (xs.flatMap FileR.cells) rfl HOD.out HOC.out (by unfold maxLen; omega) (by omega) (by (first | (with_reducible assumption) | omega | (simp only [World.size_alloc, World.size_setCell, World.size_drew, World.heap_drewN]; omega) | (simp; done) | (simp; omega))) ?_; intro ay cy w9 hown hgrow hat; simp only [Nat.zero_add, List.nil_append] at hown ⊢; obtain ⟨g, cg, hv, hg1, hg2, hg3, HG⟩ := FilesW.from_ (OwW.of_owns hown) h0; cases hv; obtain ⟨q0, q1, q2⟩ := HG.out w9 (Fr.refl _) 0 h0; simp only [Nat.zero_mul, Nat.zero_add] at q0 q1 q2; rw [HT0.out] at q1; have r1 := World.ownsRow.frozenAt hown 1; have r2 := World.ownsRow.frozenAt hown 2; have BR9 := ((BR.alloc (.cells #[.slice a3 xs.length c3] 46)).alloc (.cells #[] 147)).row hgrow (RowIn.one (lo := w3.heap.size + 1) (hi := w3.heap.size + 1 + 1) (Nat.le_refl _) (Nat.lt_succ_self _)) (.inl (by omega)); have FR9 := BR9.facts; have HOWN := Lib.hid hown; have HGR := Lib.hid hgrow; have z9 := hgrow.size; (simp only [World.size_alloc] at z9); clear FD3 hown hgrow hat HG))
    all_goals
      have hW : FilesW w9 (w3.heap.size + 1) w9.heap.size (.slice (some ⟨g, 0, none⟩) xs.length _) xs := OwW.of_owns HOWN.out
      have hc9 : Cu w9 b := Cu.gr (Cu.fr hc3 (((Fr.refl _).alloc (.cells #[.slice a3 xs.length c3] 46)).alloc (.cells #[] 147))) HGR.out (fun k hk => by have hk' : w3.heap.size + 1 = k := (by simpa [Value.ownBlock] using hk); omega); have hs9 : Span b (b + 1) w w9 := Span.above ((hs3.alloc' (.cells #[.slice a3 xs.length c3] 46)).alloc' (.cells #[] 147)) HGR.out (fun k hk => by have hk' : w3.heap.size + 1 = k := (by simpa [Value.ownBlock] using hk); omega)
    · have hx1 : xs.length = 1 := by have := hW.1.2; rcases this with ⟨e, _⟩ | ⟨_, _, _, e, _, _, hn, hc, _⟩; (cases e); (cases e; omega)
      refine bodyPost_ret (v := .agg #[.slice (some ⟨g, 0, none⟩) (xs.length - 1) 0]) (by simp [results, Try.results123, go_sem, *]) rfl ⟨[], some ⟨g, 0, none⟩, 0, by rw [hx1]; rfl, fun W _ => ⟨rfl, _, _, rfl, Nat.le_refl _, by omega, fun h => absurd h (by simp)⟩, ?_, ?_⟩
      · refine Cu.span (lo := b + 1) (hi := w9.heap.size + 1) hc9 ?_ (by omega); (repeat (first | with_reducible exact Span.refl _ _ _ | with_reducible refine Span.setb ?_ (by omega) (by omega) | with_reducible apply Span.alloc' | with_reducible apply Span.drew' | with_reducible apply Span.drewN'))
      · refine Span.above' (L := w.heap.size) (M := w9.heap.size + 1) hs9 ?_ (Nat.le_refl _); (repeat (first | with_reducible exact Span.refl _ _ _ | with_reducible refine Span.setb ?_ (by omega) (by omega) | with_reducible apply Span.alloc' | with_reducible apply Span.drew' | with_reducible apply Span.drewN'))
    · have hd1 : (xs.drop 1).length = xs.length - 1 := by simp
      refine bodyPost_ret (v := .agg #[.slice (some ⟨g, 3, none⟩) (xs.length - 1) (cy - 1)]) (by simp [results, Try.results123, go_sem, *]) rfl ⟨xs.drop 1, some ⟨g, 3, none⟩, cy - 1, by rw [hd1], ?_, ?_, ?_⟩
      · exact fun W hQ => FilesW.drop1 (OwW.ab (OwW.set hW (.inl (by show w.heap.size < _; omega)) _) (Ab.up hQ (by omega))) h0
      · refine Cu.span (lo := b + 1) (hi := w9.heap.size + 1) hc9 ?_ (by omega); (repeat (first | with_reducible exact Span.refl _ _ _ | with_reducible refine Span.setb ?_ (by omega) (by omega) | with_reducible apply Span.alloc' | with_reducible apply Span.drew' | with_reducible apply Span.drewN'))
      · refine Span.above' (L := w.heap.size) (M := w9.heap.size + 1) hs9 ?_ (Nat.le_refl _); (repeat (first | with_reducible exact Span.refl _ _ _ | with_reducible refine Span.setb ?_ (by omega) (by omega) | with_reducible apply Span.alloc' | with_reducible apply Span.drew' | with_reducible apply Span.drewN'))
  · subst hk
    go_wp2_with (at_builtin; (refine wpList_append_rd rfl _ _ 44 rfl (w3.heap.size + 1) 147 i0 (.agg #[.string ⟨#[]⟩, .string ⟨#[]⟩, .int .i64 0]) 3 40 Try.underlying44 hi hz0 hz1 hz2 rfl (by decide) (.slice (some ⟨w3.heap.size + 1, 0, none⟩) 0 0) 0 [] rfl (made_empty (by simp) (by omega)) _ xs.length (xs.flatMap FileR.cells) rfl HOD.out HOC.out (by unfold maxLen; omega) (by omega) (by (first | (with_reducible assumption) | omega | (simp only [World.size_alloc, World.size_setCell, World.size_drew, World.heap_drewN]; omega) | (simp; done) | (simp; omega))) ?_; intro ay cy w9 hown hgrow hat; simp only [Nat.zero_add, List.nil_append] at hown ⊢; obtain ⟨g, cg, hv, hg1, hg2, hg3, HG⟩ := FilesW.from_ (OwW.of_owns hown) h0; cases hv; obtain ⟨q0, q1, q2⟩ := HG.out w9 (Fr.refl _) 0 h0; simp only [Nat.zero_mul, Nat.zero_add] at q0 q1 q2; rw [HT0.out] at q1; have r1 := World.ownsRow.frozenAt hown 1; have r2 := World.ownsRow.frozenAt hown 2; have BR9 := ((BR.alloc (.cells #[.slice a3 xs.length c3] 46)).alloc (.cells #[] 147)).row hgrow (RowIn.one (lo := w3.heap.size + 1) (hi := w3.heap.size + 1 + 1) (Nat.le_refl _) (Nat.lt_succ_self _)) (.inl (by omega)); have FR9 := BR9.facts; have HOWN := Lib.hid hown; have HGR := Lib.hid hgrow; have z9 := hgrow.size; (simp only [World.size_alloc] at z9); clear FD3 hown hgrow hat HG))
    have hW : FilesW w9 (w3.heap.size + 1) w9.heap.size (.slice (some ⟨g, 0, none⟩) xs.length cy) xs := OwW.of_owns HOWN.out
    have hc9 : Cu w9 b := Cu.gr (Cu.fr hc3 (((Fr.refl _).alloc (.cells #[.slice a3 xs.length c3] 46)).alloc (.cells #[] 147))) HGR.out (fun k hk => by have hk' : w3.heap.size + 1 = k := (by simpa [Value.ownBlock] using hk); omega); have hs9 : Span b (b + 1) w w9 := Span.above ((hs3.alloc' (.cells #[.slice a3 xs.length c3] 46)).alloc' (.cells #[] 147)) HGR.out (fun k hk => by have hk' : w3.heap.size + 1 = k := (by simpa [Value.ownBlock] using hk); omega)
    obtain ⟨us, hul, hWu⟩ := FilesW.kept hW 0 h0 (-1)
    have hWu2 : FilesW (w9.setCell ⟨g, 2, none⟩ (.int .i64 (-1))) (w3.heap.size + 1) w9.heap.size (.slice (some ⟨g, 0, none⟩) us.length cy) us := hWu
    refine bodyPost_ret (v := .agg #[.slice (some ⟨g, 0, none⟩) xs.length cy]) (by simp [results, Try.results123, go_sem, *]) rfl ⟨us, some ⟨g, 0, none⟩, cy, by rw [hul], ?_, ?_, ?_⟩
    · exact fun W hQ => FilesW.rd (OwW.ab (OwW.set hWu2 (.inl (by show w.heap.size < _; omega)) _) (Ab.up hQ (by omega)))
    · refine Cu.span (lo := b + 1) (hi := w9.heap.size + 1) hc9 ?_ (by omega); (repeat (first | with_reducible exact Span.refl _ _ _ | with_reducible refine Span.setb ?_ (by omega) (by omega) | with_reducible apply Span.alloc' | with_reducible apply Span.drew' | with_reducible apply Span.drewN'))
    · refine Span.above' (L := w.heap.size) (M := w9.heap.size + 1) hs9 ?_ (Nat.le_refl _); (repeat (first | with_reducible exact Span.refl _ _ _ | with_reducible refine Span.setb ?_ (by omega) (by omega) | with_reducible apply Span.alloc' | with_reducible apply Span.drew' | with_reducible apply Span.drewN'))
  · subst hk
    go_wp2_with (at_builtin; (refine wpList_append_rd rfl _ _ 44 rfl (w3.heap.size + 1) 147 i0 (.agg #[.string ⟨#[]⟩, .string ⟨#[]⟩, .int .i64 0]) 3 40 Try.underlying44 hi hz0 hz1 hz2 rfl (by decide) (.slice (some ⟨w3.heap.size + 1, 0, none⟩) 0 0) 0 [] rfl (made_empty (by simp) (by omega)) _ xs.length (xs.flatMap FileR.cells) rfl HOD.out HOC.out (by unfold maxLen; omega) (by omega) (by (first | (with_reducible assumption) | omega | (simp only [World.size_alloc, World.size_setCell, World.size_drew, World.heap_drewN]; omega) | (simp; done) | (simp; omega))) ?_; intro ay cy w9 hown hgrow hat; simp only [Nat.zero_add, List.nil_append] at hown ⊢; obtain ⟨g, cg, hv, hg1, hg2, hg3, HG⟩ := FilesW.from_ (OwW.of_owns hown) h0; cases hv; obtain ⟨q0, q1, q2⟩ := HG.out w9 (Fr.refl _) 0 h0; simp only [Nat.zero_mul, Nat.zero_add] at q0 q1 q2; rw [HT0.out] at q1; have r1 := World.ownsRow.frozenAt hown 1; have r2 := World.ownsRow.frozenAt hown 2; have BR9 := ((BR.alloc (.cells #[.slice a3 xs.length c3] 46)).alloc (.cells #[] 147)).row hgrow (RowIn.one (lo := w3.heap.size + 1) (hi := w3.heap.size + 1 + 1) (Nat.le_refl _) (Nat.lt_succ_self _)) (.inl (by omega)); have FR9 := BR9.facts; have HOWN := Lib.hid hown; have HGR := Lib.hid hgrow; have z9 := hgrow.size; (simp only [World.size_alloc] at z9); clear FD3 hown hgrow hat HG))
    have hW : FilesW w9 (w3.heap.size + 1) w9.heap.size (.slice (some ⟨g, 0, none⟩) xs.length cy) xs := OwW.of_owns HOWN.out
    have hc9 : Cu w9 b := Cu.gr (Cu.fr hc3 (((Fr.refl _).alloc (.cells #[.slice a3 xs.length c3] 46)).alloc (.cells #[] 147))) HGR.out (fun k hk => by have hk' : w3.heap.size + 1 = k := (by simpa [Value.ownBlock] using hk); omega); have hs9 : Span b (b + 1) w w9 := Span.above ((hs3.alloc' (.cells #[.slice a3 xs.length c3] 46)).alloc' (.cells #[] 147)) HGR.out (fun k hk => by have hk' : w3.heap.size + 1 = k := (by simpa [Value.ownBlock] using hk); omega)
    refine (specFrame_any ⟨#[129, 0]⟩ _ (by decide)).mono ?_
    rintro e w10 ⟨rfl, hf10⟩
    obtain ⟨f, hf⟩ : ∃ f, frameR ⟨#[129, 0]⟩ = f := ⟨_, rfl⟩
    rw [hf]
    have z10 := hf10.size
    have HO10 := Lib.hid (OwW.fr hW hf10)
    have BR10 := BR9.fr hf10
    have FR10 := BR10.facts
    have hc10 := hc9.fr hf10
    have hs10 := hs9.then_fr hf10
    have HC := Lib.hid (cells_snoc xs ⟨timeN, f, 1⟩)
    have HL := Lib.hid (show (xs ++ [(⟨timeN, f, 1⟩ : FileR)]).length = xs.length + 1 by simp)
    clear FR9 q0 q1 q2 r1 r2 hf
    go_wp2_with (at_builtin; (refine wpList_append_rd rfl _ _ 44 rfl (w3.heap.size + 1) 147 i0 (.agg #[.string ⟨#[]⟩, .string ⟨#[]⟩, .int .i64 0]) 3 40 Try.underlying44 hi hz0 hz1 hz2 rfl (by decide) (.slice (some ⟨g, 0, none⟩) xs.length cy) xs.length (xs.flatMap FileR.cells) rfl (World.ownsRow.alloc HO10.out.1 _) _ 1 [.string timeN, .string f, .int .i64 1] rfl (RdS.new (by first | rfl | simp) rfl) (by simp [Value.oneCell']) (by unfold maxLen; omega) (by omega) (by (first | (with_reducible assumption) | omega | (simp only [World.size_alloc, World.size_setCell, World.size_drew, World.heap_drewN]; omega) | (simp; done) | (simp; omega))) ?_; intro ay2 cy2 w11 hown2 hgrow2 hat2; have BR11 := (BR10.alloc (.cells #[.string timeN, .string f, .int .i64 1] 147)).row hgrow2 HO10.out.2 (.inl (by omega)); have FR11 := BR11.facts; clear FR10))
    rw [← HC.out] at hown2
    have hW11 : FilesW w11 (w3.heap.size + 1) w11.heap.size (.slice ay2 (xs ++ [(⟨timeN, f, 1⟩ : FileR)]).length cy2) (xs ++ [⟨timeN, f, 1⟩]) := by
      have := OwW.of_owns hown2
      rw [← HL.out] at this
      exact this
    have s11 := Span.of_gr (lo := w3.heap.size + 1) (hi := w9.heap.size) hgrow2 (fun g hg => HO10.out.2 g hg)
    have z11 := s11.size; simp only [World.size_alloc] at z11
    have hc11 : Cu w11 b := Cu.span (Cu.fr hc10 (by repeat (first | (with_reducible exact Fr.refl _) | (with_reducible assumption) | (with_reducible refine Fr.drewN ?_ _) | (with_reducible refine Fr.drew ?_) | (with_reducible refine Fr.alloc ?_ _) | (with_reducible refine Fr.setCell ?_ (by (first | (with_reducible assumption) | omega | (simp only [World.size_alloc, World.size_setCell, World.size_drew, World.heap_drewN]; omega) | (simp; done) | (simp; omega))) _) | (with_reducible refine Fr.trans ?_ (by with_reducible assumption))))) s11 (by omega)
    have hs11 : Span b (b + 1) w w11 := Span.above' (Span.then_fr hs10 (by repeat (first | (with_reducible exact Fr.refl _) | (with_reducible assumption) | (with_reducible refine Fr.drewN ?_ _) | (with_reducible refine Fr.drew ?_) | (with_reducible refine Fr.alloc ?_ _) | (with_reducible refine Fr.setCell ?_ (by (first | (with_reducible assumption) | omega | (simp only [World.size_alloc, World.size_setCell, World.size_drew, World.heap_drewN]; omega) | (simp; done) | (simp; omega))) _) | (with_reducible refine Fr.trans ?_ (by with_reducible assumption))))) s11 (by omega)
    refine bodyPost_ret (v := .agg #[.slice ay2 (xs.length + 1) cy2]) (by simp [results, Try.results123, go_sem, *]) rfl ⟨xs ++ [⟨timeN, f, 1⟩], ay2, cy2, by rw [HL.out], ?_, ?_, ?_⟩
    · exact fun W hQ => FilesW.rd (OwW.ab (OwW.set hW11 (.inl (by show w.heap.size < _; omega)) _) (Ab.up hQ (by omega)))
    · refine Cu.span (lo := b + 1) (hi := w11.heap.size + 1) hc11 ?_ (by omega); (repeat (first | with_reducible exact Span.refl _ _ _ | with_reducible refine Span.setb ?_ (by omega) (by omega) | with_reducible apply Span.alloc' | with_reducible apply Span.drew' | with_reducible apply Span.drewN'))
    · refine Span.above' (L := w.heap.size) (M := w11.heap.size + 1) hs11 ?_ (Nat.le_refl _); (repeat (first | with_reducible exact Span.refl _ _ _ | with_reducible refine Span.setb ?_ (by omega) (by omega) | with_reducible apply Span.alloc' | with_reducible apply Span.drew' | with_reducible apply Span.drewN'))
  · have k0 : ((x1 : Int) == 0) = false := by rw [beq_eq_false_iff_ne]; omega
    have k1 : ((x1 : Int) == 1) = false := by rw [beq_eq_false_iff_ne]; omega
    have k2 : ((x1 : Int) == 2) = false := by rw [beq_eq_false_iff_ne]; omega
    have k3 : ((x1 : Int) == 3) = false := by rw [beq_eq_false_iff_ne]; omega
    go_wp2_with (at_builtin; (refine wpList_append_rd rfl _ _ 44 rfl (w3.heap.size + 1) 147 i0 (.agg #[.string ⟨#[]⟩, .string ⟨#[]⟩, .int .i64 0]) 3 40 Try.underlying44 hi hz0 hz1 hz2 rfl (by decide) (.slice (some ⟨w3.heap.size + 1, 0, none⟩) 0 0) 0 [] rfl (made_empty (by simp) (by omega)) _ xs.length (xs.flatMap FileR.cells) rfl HOD.out HOC.out (by unfold maxLen; omega) (by omega) (by (first | (with_reducible assumption) | omega | (simp only [World.size_alloc, World.size_setCell, World.size_drew, World.heap_drewN]; omega) | (simp; done) | (simp; omega))) ?_; intro ay cy w9 hown hgrow hat; simp only [Nat.zero_add, List.nil_append] at hown ⊢; obtain ⟨g, cg, hv, hg1, hg2, hg3, HG⟩ := FilesW.from_ (OwW.of_owns hown) h0; cases hv; obtain ⟨q0, q1, q2⟩ := HG.out w9 (Fr.refl _) 0 h0; simp only [Nat.zero_mul, Nat.zero_add] at q0 q1 q2; rw [HT0.out] at q1; have r1 := World.ownsRow.frozenAt hown 1; have r2 := World.ownsRow.frozenAt hown 2; have BR9 := ((BR.alloc (.cells #[.slice a3 xs.length c3] 46)).alloc (.cells #[] 147)).row hgrow (RowIn.one (lo := w3.heap.size + 1) (hi := w3.heap.size + 1 + 1) (Nat.le_refl _) (Nat.lt_succ_self _)) (.inl (by omega)); have FR9 := BR9.facts; have HOWN := Lib.hid hown; have HGR := Lib.hid hgrow; have z9 := hgrow.size; (simp only [World.size_alloc] at z9); clear FD3 hown hgrow hat HG))
    have hW : FilesW w9 (w3.heap.size + 1) w9.heap.size (.slice (some ⟨g, 0, none⟩) xs.length cy) xs := OwW.of_owns HOWN.out
    have hc9 : Cu w9 b := Cu.gr (Cu.fr hc3 (((Fr.refl _).alloc (.cells #[.slice a3 xs.length c3] 46)).alloc (.cells #[] 147))) HGR.out (fun k hk => by have hk' : w3.heap.size + 1 = k := (by simpa [Value.ownBlock] using hk); omega); have hs9 : Span b (b + 1) w w9 := Span.above ((hs3.alloc' (.cells #[.slice a3 xs.length c3] 46)).alloc' (.cells #[] 147)) HGR.out (fun k hk => by have hk' : w3.heap.size + 1 = k := (by simpa [Value.ownBlock] using hk); omega)
    refine bodyPost_ret (v := .agg #[.slice (some ⟨g, 0, none⟩) xs.length cy]) (by simp [results, Try.results123, go_sem, *]) rfl ⟨xs, some ⟨g, 0, none⟩, cy, rfl, ?_, ?_, ?_⟩
    · exact fun W hQ => FilesW.rd (OwW.ab (OwW.set hW (.inl (by show w.heap.size < _; omega)) _) (Ab.up hQ (by omega)))
    · refine Cu.span (lo := b + 1) (hi := w9.heap.size + 1) hc9 ?_ (by omega); (repeat (first | with_reducible exact Span.refl _ _ _ | with_reducible refine Span.setb ?_ (by omega) (by omega) | with_reducible apply Span.alloc' | with_reducible apply Span.drew' | with_reducible apply Span.drewN'))
    · refine Span.above' (L := w.heap.size) (M := w9.heap.size + 1) hs9 ?_ (Nat.le_refl _); (repeat (first | with_reducible exact Span.refl _ _ _ | with_reducible refine Span.setb ?_ (by omega) (by omega) | with_reducible apply Span.alloc' | with_reducible apply Span.drew' | with_reducible apply Span.drewN'))
set_option maxRecDepth 100000 in
theorem DrawReadPart_any (ao : Option Addr) (n cap : Nat) (w : World) (hy : ByR w w.heap.size ao n cap) :
    Calls Try.prog 54 #[.slice ao n cap] w fun e w' => ∃ (xs : List FileR) (ao' : Option Addr) (cap' : Nat), e = .returned (.agg #[.slice ao' xs.length cap']) ∧ FilesR w' (.slice ao' xs.length cap') xs ∧ Fr w w' := by
  have HY := Lib.hid hy
  clear hy
  go_enter Try.func54, Try.ntmps54
  go_wp2_with fail
  refine (l01New_any ao n cap _ (HY.out.here (by repeat (first | (with_reducible exact Fr.refl _) | (with_reducible assumption) | (with_reducible refine Fr.drewN ?_ _) | (with_reducible refine Fr.drew ?_) | (with_reducible refine Fr.alloc ?_ _) | (with_reducible refine Fr.setCell ?_ (by (first | (with_reducible assumption) | omega | (simp only [World.size_alloc, World.size_setCell, World.size_drew, World.heap_drewN]; omega) | (simp; done) | (simp; omega))) _) | (with_reducible refine Fr.trans ?_ (by with_reducible assumption)))))).mono ?_
  rintro e w1 ⟨b, rfl, hb, hc1, hf1⟩
  have z1 := hf1.size
  simp only [World.size_alloc] at z1 hb
  have BR := (Box.new w #[.slice none 0 0] 46).fr hf1
  go_wp2_with fail
  refine (l16Any_any b _ hc1).mono ?_
  rintro e w2 ⟨xs, ax, cx, rfl, ho, hc2, sp2⟩
  have z2 := sp2.size
  have BR2 := BR.span sp2 (.inl (by omega))
  have HO := Lib.hid ho
  have FB := BR2.facts
  have hf2 : Fr w w2 := sp2.fr (show Fr w w1 by repeat (first | (with_reducible exact Fr.refl _) | (with_reducible assumption) | (with_reducible refine Fr.drewN ?_ _) | (with_reducible refine Fr.drew ?_) | (with_reducible refine Fr.alloc ?_ _) | (with_reducible refine Fr.setCell ?_ (by (first | (with_reducible assumption) | omega | (simp only [World.size_alloc, World.size_setCell, World.size_drew, World.heap_drewN]; omega) | (simp; done) | (simp; omega))) _) | (with_reducible refine Fr.trans ?_ (by with_reducible assumption)))) (by omega)
  clear ho BR
  go_wp2_with fail
  refine bodyPost_ret (v := .agg #[.slice ax xs.length cx]) (by simp [results, Try.results54, go_sem, *]) rfl ⟨xs, ax, cx, rfl, HO.out _ ?_, by repeat (first | (with_reducible exact Fr.refl _) | (with_reducible assumption) | (with_reducible refine Fr.drewN ?_ _) | (with_reducible refine Fr.drew ?_) | (with_reducible refine Fr.alloc ?_ _) | (with_reducible refine Fr.setCell ?_ (by (first | (with_reducible assumption) | omega | (simp only [World.size_alloc, World.size_setCell, World.size_drew, World.heap_drewN]; omega) | (simp; done) | (simp; omega))) _) | (with_reducible refine Fr.trans ?_ (by with_reducible assumption)))⟩
  repeat (first | (with_reducible exact Ab.refl _ _) | (with_reducible assumption) | (with_reducible refine Ab.drewN ?_ _) | (with_reducible refine Ab.drew ?_) | (with_reducible refine Ab.alloc ?_ _) | (with_reducible refine Ab.setCell ?_ (by (first | (with_reducible assumption) | omega | (simp only [World.size_alloc, World.size_setCell, World.size_drew, World.heap_drewN]; omega) | (simp; done) | (simp; omega))) _) | (with_reducible refine Ab.fr ?_ (by with_reducible assumption)))
set_option maxRecDepth 100000 in
theorem DrawPartActs_any (ao : Option Addr) (n cap : Nat) (w : World) (hy : ByR w w.heap.size ao n cap) :
    Calls Try.prog 57 #[.slice ao n cap] w fun e w' => ∃ (g : GraphD) (ao' : Option Addr) (cap' : Nat), e = .returned (.agg #[.int .i64 g.f0, .slice ao' g.f1.length cap']) ∧ EdgesR w' (.slice ao' g.f1.length cap') g.f1 ∧ Fr w w' := by
  have HY := Lib.hid hy
  clear hy
  go_enter Try.func57, Try.ntmps57
  go_wp2_with fail
  refine (l01New_any ao n cap _ (HY.out.here (by repeat (first | (with_reducible exact Fr.refl _) | (with_reducible assumption) | (with_reducible refine Fr.drewN ?_ _) | (with_reducible refine Fr.drew ?_) | (with_reducible refine Fr.alloc ?_ _) | (with_reducible refine Fr.setCell ?_ (by (first | (with_reducible assumption) | omega | (simp only [World.size_alloc, World.size_setCell, World.size_drew, World.heap_drewN]; omega) | (simp; done) | (simp; omega))) _) | (with_reducible refine Fr.trans ?_ (by with_reducible assumption)))))).mono ?_
  rintro e w1 ⟨b, rfl, hb, hc1, hf1⟩
  have z1 := hf1.size
  simp only [World.size_alloc] at z1 hb
  have BR := (Box.new w #[.int .i64 0, .slice none 0 0] 32).fr hf1
  go_wp2_with fail
  refine (l04Any_any b _ hc1).mono ?_
  rintro e w2 ⟨g, ax, cx, _, rfl, ho, hc2, sp2⟩
  have z2 := sp2.size
  have BR2 := BR.span sp2 (.inl (by omega))
  have HO := Lib.hid ho
  have FB := BR2.facts
  have hf2 : Fr w w2 := sp2.fr (show Fr w w1 by repeat (first | (with_reducible exact Fr.refl _) | (with_reducible assumption) | (with_reducible refine Fr.drewN ?_ _) | (with_reducible refine Fr.drew ?_) | (with_reducible refine Fr.alloc ?_ _) | (with_reducible refine Fr.setCell ?_ (by (first | (with_reducible assumption) | omega | (simp only [World.size_alloc, World.size_setCell, World.size_drew, World.heap_drewN]; omega) | (simp; done) | (simp; omega))) _) | (with_reducible refine Fr.trans ?_ (by with_reducible assumption)))) (by omega)
  clear ho BR
  go_wp2_with fail
  refine bodyPost_ret (v := .agg #[.int .i64 g.f0, .slice ax g.f1.length cx]) (by simp [results, Try.results57, go_sem, *]) rfl ⟨g, ax, cx, rfl, ?_, by repeat (first | (with_reducible exact Fr.refl _) | (with_reducible assumption) | (with_reducible refine Fr.drewN ?_ _) | (with_reducible refine Fr.drew ?_) | (with_reducible refine Fr.alloc ?_ _) | (with_reducible refine Fr.setCell ?_ (by (first | (with_reducible assumption) | omega | (simp only [World.size_alloc, World.size_setCell, World.size_drew, World.heap_drewN]; omega) | (simp; done) | (simp; omega))) _) | (with_reducible refine Fr.trans ?_ (by with_reducible assumption)))⟩
  refine EdgesW.rd (lo := w1.heap.size) (hi := w2.heap.size) ?_
  change OwW _ _ _ _ _ _ _ _; (repeat (first | (with_reducible refine OwW.drewN ?_ _) | (with_reducible refine OwW.drew ?_) | (with_reducible refine OwW.alloc ?_ _) | (with_reducible refine OwW.set ?_ (by (first | (with_reducible assumption) | omega | (simp only [World.size_alloc, World.size_setCell, World.size_drew, World.heap_drewN]; omega) | (simp; done) | (simp; omega))) _) | (exact HO.out)))
theorem DrawEpochActs_any (ao : Option Addr) (n cap : Nat) (w : World) (hy : ByR w w.heap.size ao n cap) :
    Calls Try.prog 60 #[.slice ao n cap] w fun e w' => ∃ m : Int, (m = 0 ∨ m = -1 ∨ m = 100001 ∨ (1 ≤ m ∧ m ≤ 100000)) ∧ e = .returned (.int .i64 m) ∧ Fr w w' := by
  have HY := Lib.hid hy
  clear hy
  go_enter Try.func60, Try.ntmps60
  go_wp2_with fail
  refine (l01New_any ao n cap _ HY.out).mono ?_
  rintro e w1 ⟨b, rfl, hb, hc1, hf1⟩
  have z1 := hf1.size
  go_wp2_with fail
  refine (l01PickInt_any b w1.heap.size [0, 1, 7, 100000, 100001, -1] 3 _ (hc1.fr (by repeat (first | (with_reducible exact Fr.refl _) | (with_reducible assumption) | (with_reducible refine Fr.drewN ?_ _) | (with_reducible refine Fr.drew ?_) | (with_reducible refine Fr.alloc ?_ _) | (with_reducible refine Fr.setCell ?_ (by (first | (with_reducible assumption) | omega | (simp only [World.size_alloc, World.size_setCell, World.size_drew, World.heap_drewN]; omega) | (simp; done) | (simp; omega))) _) | (with_reducible refine Fr.trans ?_ (by with_reducible assumption))))) (Box.new _ _ _) hc1.lt (by decide) (by decide)).mono ?_
  rintro e w2 ⟨k, hk, rfl, hc2, sp2⟩
  have HM : Hid (iAt [0, 1, 7, 100000, 100001, -1] k = 0 ∨ iAt [0, 1, 7, 100000, 100001, -1] k = -1 ∨ iAt [0, 1, 7, 100000, 100001, -1] k = 100001 ∨ (1 ≤ iAt [0, 1, 7, 100000, 100001, -1] k ∧ iAt [0, 1, 7, 100000, 100001, -1] k ≤ 100000)) := Lib.hid (by
    have : k = 0 ∨ k = 1 ∨ k = 2 ∨ k = 3 ∨ k = 4 ∨ k = 5 := by simp at hk; omega
    rcases this with rfl | rfl | rfl | rfl | rfl | rfl <;> decide)
  have hf2 : Fr w w2 := sp2.fr (show Fr w (w1.alloc _) by repeat (first | (with_reducible exact Fr.refl _) | (with_reducible assumption) | (with_reducible refine Fr.drewN ?_ _) | (with_reducible refine Fr.drew ?_) | (with_reducible refine Fr.alloc ?_ _) | (with_reducible refine Fr.setCell ?_ (by (first | (with_reducible assumption) | omega | (simp only [World.size_alloc, World.size_setCell, World.size_drew, World.heap_drewN]; omega) | (simp; done) | (simp; omega))) _) | (with_reducible refine Fr.trans ?_ (by with_reducible assumption)))) (by omega)
  go_wp2_with fail
  go_ret
  exact ⟨_, HM.out, rfl, by repeat (first | (with_reducible exact Fr.refl _) | (with_reducible assumption) | (with_reducible refine Fr.drewN ?_ _) | (with_reducible refine Fr.drew ?_) | (with_reducible refine Fr.alloc ?_ _) | (with_reducible refine Fr.setCell ?_ (by (first | (with_reducible assumption) | omega | (simp only [World.size_alloc, World.size_setCell, World.size_drew, World.heap_drewN]; omega) | (simp; done) | (simp; omega))) _) | (with_reducible refine Fr.trans ?_ (by with_reducible assumption)))⟩
end Go.Proofs.Ytjgghiniajmfjaa
