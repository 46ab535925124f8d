/- Slices of impl.Link: what they read as; the laws' helpers. (Printed by mk_nest.py.) No condition but the sizes that the reading gives. -/
import Derived.Test.YtfokiabkebpblaaNest
import Derived.Test.YtfokiabkebpblaaOLink
import Derived.Deep.QuietTactic
import Derived.BigQuiet
import Derived.Deep.RegionHeld3
namespace Go.Proofs.Ytfokiabkebpblaa
open Go.RowKit
set_option linter.unusedVariables false
set_option linter.unusedSimpArgs false

instance : Inhabited LinkD := ⟨⟨[], 0, 0⟩⟩
def LinkE (w : World) (u : List Value) (d : LinkD) : Prop := ∃ a, u = [a, .int .i64 d.f1, .int .i64 d.f2] ∧ StrsR w a d.f0
def LinkEW (w : World) (lo hi : Nat) (u : List Value) (d : LinkD) : Prop := ∃ ao cap, u = [.slice ao d.f0.length cap, .int .i64 d.f1, .int .i64 d.f2] ∧ StrsW w lo hi (.slice ao d.f0.length cap) d.f0
theorem LinkE.fr {w w' : World} {u : List Value} {d : LinkD} (h : LinkE w u d) (hf : Fr w w') : LinkE w' u d := by obtain ⟨a, h1, h2⟩ := h; exact ⟨a, h1, h2.fr hf⟩
theorem LinkEW.span {w w' : World} {lo hi : Nat} {u : List Value} {d : LinkD} {a b : Nat} (h : LinkEW w lo hi u d) (s : Span a b w w') (hd : hi ≤ a ∨ b ≤ lo) : LinkEW w' lo hi u d := by obtain ⟨x, y, h1, h2⟩ := h; exact ⟨x, y, h1, h2.span s hd⟩
theorem LinkEW.ab {w w' : World} {lo hi : Nat} {u : List Value} {d : LinkD} (h : LinkEW w lo hi u d) (s : Ab lo w w') : LinkEW w' lo hi u d := by obtain ⟨x, y, h1, h2⟩ := h; exact ⟨x, y, h1, OwW.ab h2 s⟩
theorem LinkEW.rd {w : World} {lo hi : Nat} {u : List Value} {d : LinkD} (h : LinkEW w lo hi u d) : LinkE w u d := by obtain ⟨x, y, h1, h2⟩ := h; exact ⟨_, h1, h2.rd⟩
def LinkSR (w : World) (v : Value) (xs : List (LinkD)) : Prop := NestR LinkE 3 w v xs
def LinkSW (w : World) (lo hi : Nat) (v : Value) (xs : List (LinkD)) : Prop := NestW LinkEW 35 3 w lo hi v xs
theorem LinkSR.fr {w w' : World} {v : Value} {xs : List (LinkD)} (h : LinkSR w v xs) (hf : Fr w w') : LinkSR w' v xs := NestR.fr (E := LinkE) (fun a b => LinkE.fr a b) h hf
theorem LinkSW.fr {w w' : World} {lo hi : Nat} {v : Value} {xs : List (LinkD)} (h : LinkSW w lo hi v xs) (hf : Fr w w') : LinkSW w' lo hi v xs := NestP.fr (E := LinkEW) (fun a b c => LinkEW.span a b c) h hf
theorem LinkSW.span {w w' : World} {lo hi : Nat} {v : Value} {xs : List (LinkD)} (h : LinkSW w lo hi v xs) {a b : Nat} (s : Span a b w w') (hd : hi ≤ a ∨ b ≤ lo) : LinkSW w' lo hi v xs := NestP.span (E := LinkEW) (fun a b c => LinkEW.span a b c) h s hd
theorem LinkSW.ab {w w' : World} {lo hi : Nat} {v : Value} {xs : List (LinkD)} (h : LinkSW w lo hi v xs) (s : Ab lo w w') : LinkSW w' lo hi v xs := NestP.ab (E := LinkEW) (fun a b => LinkEW.ab a b) h s
theorem LinkSW.rd {w : World} {lo hi : Nat} {v : Value} {xs : List (LinkD)} (h : LinkSW w lo hi v xs) : LinkSR w v xs := NestP.rd (E := LinkEW) (E' := LinkE) (fun a => LinkEW.rd a) h
theorem LinkSW.val {w : World} {lo hi : Nat} {v : Value} {xs : List (LinkD)} (h : LinkSW w lo hi v xs) : ∃ ao cap, v = .slice ao xs.length cap := NestW.val h
theorem LinkSR.one {w : World} {v : Value} {xs : List (LinkD)} (h : LinkSR w v xs) :
    ∃ ao b o cap, v = .slice ao xs.length cap ∧ xs.length ≤ cap ∧ cap ≤ 9223372036854775807 ∧ (0 < xs.length → ao = some ⟨b, o, none⟩ ∧ b < w.heap.size ∧ ∀ k, k < xs.length → ∃ a, StrsR w a (nAt xs k).f0 ∧ w.cell? ⟨b, o + k * 3, none⟩ = some (a) ∧ w.cell? ⟨b, o + k * 3 + 1, none⟩ = some (.int .i64 (nAt xs k).f1) ∧ w.cell? ⟨b, o + k * 3 + 2, none⟩ = some (.int .i64 (nAt xs k).f2)) := by
  obtain ⟨ao, b, o, cap, h1, h2, h3, h4⟩ := NestR.one h
  refine ⟨ao, b, o, cap, h1, h2, h3, fun hn => ⟨(h4 hn).1, (h4 hn).2.1, fun k hk => ?_⟩⟩
  obtain ⟨u, _, ⟨a, hu, ha⟩, hc⟩ := (h4 hn).2.2 k hk
  rw [hu] at hc
  exact ⟨a, ha, by simpa using hc 0 _ (by omega) rfl, by simpa using hc 1 _ (by omega) rfl, by simpa using hc 2 _ (by omega) rfl⟩
theorem info_Link : (Try.prog.info? 35).map (fun i => (i.zero, i.size, i.bytes)) = some (some (.agg #[.slice none 0 0, .int .i64 0, .int .i64 0]), 3, 40) := by kernel_rfl
def LinkSBulk (xs : List (LinkD)) : Nat := nBulk LinkD.bulk xs
def LinkSOk (xs : List (LinkD)) : Prop := ∀ x ∈ xs, LinkD.okSize x
set_option maxHeartbeats 1000000 in
theorem szLinkS_any (a : Value) (xs : List (LinkD)) (left : Int) (w : World) (ha : LinkSR w a xs) (hs : LinkSOk xs) (h0 : 0 ≤ left) (h1 : left ≤ 1048576) :
    Calls Try.prog 116 #[a, .int .i64 left] w fun e w' => e = .returned (.int .i64 (szR left (LinkSBulk xs))) ∧ Fr w w' := by
  obtain ⟨ao, ba, oa, ca, rfl, hca, hma, fa⟩ := ha.one
  clear ha
  by_cases hl : (xs.length : Int) ≤ left
  · go_enter Try.func116, Try.ntmps116
    go_wp2
    go_loopw [1, 5] (fun l i wr => ∃ k : Nat, k ≤ xs.length ∧ i = .int .i64 k ∧ l = .int .i64 (left - xs.length - nSum LinkD.bulk xs k) ∧ (nSum LinkD.bulk xs k : Int) ≤ left - xs.length ∧ Fr w wr) (fun _ i _ => xs.length - (intOf i).toNat)
    case atStart => exact ⟨0, Nat.zero_le _, rfl, by simp [nSum], by simp [nSum]; omega, Fr.refl _⟩
    case round =>
      obtain ⟨k, hk, rfl, rfl, hj, hfr⟩ := hrel
      by_cases hlt : k < xs.length
      · obtain ⟨rfl, hba, fa⟩ := fa (by omega)
        obtain ⟨ac, ra, ga⟩ := fa k hlt
        obtain ⟨x, hx⟩ : ∃ x, nAt xs k = x := ⟨_, rfl⟩
        have c0 : wr.cell? ⟨ba, oa + k * 3, none⟩ = some (ac) := (hfr.cell (p := ⟨ba, _, none⟩) hba).trans (by first | exact ga.1 | (rw [← hx]; exact ga.1))
        have c1 : wr.cell? ⟨ba, oa + k * 3 + 1, none⟩ = some (.int .i64 x.f1) := (hfr.cell (p := ⟨ba, _, none⟩) hba).trans (by first | exact ga.2.1 | (rw [← hx]; exact ga.2.1))
        have c2 : wr.cell? ⟨ba, oa + k * 3 + 2, none⟩ = some (.int .i64 x.f2) := (hfr.cell (p := ⟨ba, _, none⟩) hba).trans (by first | exact ga.2.2 | (rw [← hx]; exact ga.2.2))
        rw [hx] at ra
        obtain ⟨aoc, capc, rfl, _⟩ := RdS.val ra
        have hok : LinkD.okSize x := hx ▸ nAt_mem hs k hlt
        have hsu := nSum_succ LinkD.bulk xs k hlt
        rw [hx] at hsu
        have hle := nSum_le LinkD.bulk xs (k + 1)
        have HSU := Lib.hid hsu
        clear hsu fa hx ga
        obtain ⟨bk, hbk⟩ : ∃ bk, LinkD.bulk x = bk := ⟨_, rfl⟩
        rw [hbk] at HSU
        have HBK := Lib.hid hbk
        clear hbk
        by_cases hr : (bk : Int) ≤ left - xs.length - nSum LinkD.bulk xs k
        · have hz := szR_ok hr
          go_wp2_with (go_at_call 20; refine (szLink_w _ x _ _ ⟨_, rfl, (ra.fr (by repeat (first | (with_reducible exact Fr.refl _) | (with_reducible assumption) | (with_reducible refine Fr.drewN ?_ _) | (with_reducible refine Fr.drew ?_) | (with_reducible refine Fr.alloc ?_ _) | (with_reducible refine Fr.setCell ?_ (by (first | (with_reducible assumption) | omega | (simp only [World.size_alloc, World.size_setCell, World.size_drew, World.heap_drewN]; omega) | (simp; done) | (simp; omega))) _) | (with_reducible refine Fr.trans ?_ (by with_reducible assumption)))))⟩ hok (by omega) (by omega)).mono ?_; rintro e w1 ⟨rfl, hf1⟩; rw [HBK.out])
          go_roundw
          case rel => exact ⟨k + 1, by omega, by go_num, by rw [HSU.out]; go_num, by rw [HSU.out]; omega, by repeat (first | (with_reducible exact Fr.refl _) | (with_reducible assumption) | (with_reducible refine Fr.drewN ?_ _) | (with_reducible refine Fr.drew ?_) | (with_reducible refine Fr.alloc ?_ _) | (with_reducible refine Fr.setCell ?_ (by (first | (with_reducible assumption) | omega | (simp only [World.size_alloc, World.size_setCell, World.size_drew, World.heap_drewN]; omega) | (simp; done) | (simp; omega))) _) | (with_reducible refine Fr.trans ?_ (by with_reducible assumption)))⟩
          case measure => (simp [intOf]; omega)
        · have hz := szR_no hr
          go_wp2_with (go_at_call 20; refine (szLink_w _ x _ _ ⟨_, rfl, (ra.fr (by repeat (first | (with_reducible exact Fr.refl _) | (with_reducible assumption) | (with_reducible refine Fr.drewN ?_ _) | (with_reducible refine Fr.drew ?_) | (with_reducible refine Fr.alloc ?_ _) | (with_reducible refine Fr.setCell ?_ (by (first | (with_reducible assumption) | omega | (simp only [World.size_alloc, World.size_setCell, World.size_drew, World.heap_drewN]; omega) | (simp; done) | (simp; omega))) _) | (with_reducible refine Fr.trans ?_ (by with_reducible assumption)))))⟩ hok (by omega) (by omega)).mono ?_; rintro e w1 ⟨rfl, hf1⟩; rw [HBK.out])
          go_ret
          exact ⟨ret_int (by rw [szR_no]; unfold LinkSBulk nBulk; have := HSU.out; omega), by repeat (first | (with_reducible exact Fr.refl _) | (with_reducible assumption) | (with_reducible refine Fr.drewN ?_ _) | (with_reducible refine Fr.drew ?_) | (with_reducible refine Fr.alloc ?_ _) | (with_reducible refine Fr.setCell ?_ (by (first | (with_reducible assumption) | omega | (simp only [World.size_alloc, World.size_setCell, World.size_drew, World.heap_drewN]; omega) | (simp; done) | (simp; omega))) _) | (with_reducible refine Fr.trans ?_ (by with_reducible assumption)))⟩
      · clear fa
        obtain rfl : k = xs.length := by omega
        go_wp2
        go_ret
        exact ⟨ret_int (by rw [szR_ok]; · unfold LinkSBulk nBulk; omega
                           · unfold LinkSBulk nBulk; omega), by repeat (first | (with_reducible exact Fr.refl _) | (with_reducible assumption) | (with_reducible refine Fr.drewN ?_ _) | (with_reducible refine Fr.drew ?_) | (with_reducible refine Fr.alloc ?_ _) | (with_reducible refine Fr.setCell ?_ (by (first | (with_reducible assumption) | omega | (simp only [World.size_alloc, World.size_setCell, World.size_drew, World.heap_drewN]; omega) | (simp; done) | (simp; omega))) _) | (with_reducible refine Fr.trans ?_ (by with_reducible assumption)))⟩
  · go_enter Try.func116, Try.ntmps116
    go_wp2
    go_ret
    exact ⟨ret_int (by rw [szR_no]; unfold LinkSBulk nBulk; omega), by repeat (first | (with_reducible exact Fr.refl _) | (with_reducible assumption) | (with_reducible refine Fr.drewN ?_ _) | (with_reducible refine Fr.drew ?_) | (with_reducible refine Fr.alloc ?_ _) | (with_reducible refine Fr.setCell ?_ (by (first | (with_reducible assumption) | omega | (simp only [World.size_alloc, World.size_setCell, World.size_drew, World.heap_drewN]; omega) | (simp; done) | (simp; omega))) _) | (with_reducible refine Fr.trans ?_ (by with_reducible assumption)))⟩
set_option maxHeartbeats 1000000 in
theorem eqLinkS_same (a b : Value) (xs : List (LinkD)) (w : World) (ha : LinkSR w a xs) (hb : LinkSR w b xs) :
    Calls Try.prog 124 #[a, b] w fun e w' => e = .returned (.bool true) ∧ Fr w w' := by
  obtain ⟨ao, ba, oa, ca, rfl, hca, hma, fa⟩ := ha.one
  obtain ⟨bo, bb, ob, cb, rfl, hcb, hmb, fb⟩ := hb.one
  clear ha hb
  go_enter Try.func124, Try.ntmps124
  go_wp2
  go_loopw [5] (fun i wr => ∃ k : Nat, k ≤ xs.length ∧ i = .int .i64 k ∧ Fr w wr) (fun i _ => xs.length - (intOf i).toNat)
  case atStart => exact ⟨0, Nat.zero_le _, rfl, Fr.refl _⟩
  case round =>
    obtain ⟨k, hk, rfl, hfr⟩ := hrel
    by_cases hlt : k < xs.length
    · obtain ⟨rfl, hba, fa⟩ := fa (by omega)
      obtain ⟨rfl, hbb, fb⟩ := fb (by omega)
      obtain ⟨ac, ra, ga⟩ := fa k hlt
      obtain ⟨ae, rb, gb⟩ := fb k hlt
      obtain ⟨x, hx⟩ : ∃ x, nAt xs k = x := ⟨_, rfl⟩
      have c0 : ∀ w', Sf wr w' → w'.cell? ⟨ba, oa + k * 3, none⟩ = some (ac) := fun w' hf => ((hfr.trans hf.out).cell (p := ⟨ba, _, none⟩) hba).trans (by first | exact ga.1 | (rw [← hx]; exact ga.1))
      have c1 : ∀ w', Sf wr w' → w'.cell? ⟨ba, oa + k * 3 + 1, none⟩ = some (.int .i64 x.f1) := fun w' hf => ((hfr.trans hf.out).cell (p := ⟨ba, _, none⟩) hba).trans (by first | exact ga.2.1 | (rw [← hx]; exact ga.2.1))
      have c2 : ∀ w', Sf wr w' → w'.cell? ⟨ba, oa + k * 3 + 2, none⟩ = some (.int .i64 x.f2) := fun w' hf => ((hfr.trans hf.out).cell (p := ⟨ba, _, none⟩) hba).trans (by first | exact ga.2.2 | (rw [← hx]; exact ga.2.2))
      have e0 : ∀ w', Sf wr w' → w'.cell? ⟨bb, ob + k * 3, none⟩ = some (ae) := fun w' hf => ((hfr.trans hf.out).cell (p := ⟨bb, _, none⟩) hbb).trans (by first | exact gb.1 | (rw [← hx]; exact gb.1))
      have e1 : ∀ w', Sf wr w' → w'.cell? ⟨bb, ob + k * 3 + 1, none⟩ = some (.int .i64 x.f1) := fun w' hf => ((hfr.trans hf.out).cell (p := ⟨bb, _, none⟩) hbb).trans (by first | exact gb.2.1 | (rw [← hx]; exact gb.2.1))
      have e2 : ∀ w', Sf wr w' → w'.cell? ⟨bb, ob + k * 3 + 2, none⟩ = some (.int .i64 x.f2) := fun w' hf => ((hfr.trans hf.out).cell (p := ⟨bb, _, none⟩) hbb).trans (by first | exact gb.2.2 | (rw [← hx]; exact gb.2.2))
      rw [hx] at ra rb
      have RA := Lib.hid (RdS.fr ra hfr)
      have RB := Lib.hid (RdS.fr rb hfr)
      obtain ⟨aoc, capc, rfl, _⟩ := RdS.val ra
      obtain ⟨aoe, cape, rfl, _⟩ := RdS.val rb
      clear fa fb hx ga gb ra rb
      go_wp2_with fail
      go_region_held3 (fun w' => Sf wr w') ((refine Sf.mk ?_; repeat (first | (with_reducible exact Fr.refl _) | (with_reducible assumption) | (with_reducible refine Fr.drewN ?_ _) | (with_reducible refine Fr.drew ?_) | (with_reducible refine Fr.alloc ?_ _) | (with_reducible refine Fr.setCell ?_ (by (first | (with_reducible assumption) | omega | (simp only [World.size_alloc, World.size_setCell, World.size_drew, World.heap_drewN]; omega) | (simp; done) | (simp; omega))) _) | (with_reducible refine Fr.trans ?_ (by with_reducible assumption))))) (first | (go_at_call 26; refine (eqLink_same _ _ x _ ⟨_, rfl, (RdS.fr RA.out (by repeat (first | (with_reducible exact Fr.refl _) | (with_reducible assumption) | (with_reducible refine Fr.drewN ?_ _) | (with_reducible refine Fr.drew ?_) | (with_reducible refine Fr.alloc ?_ _) | (with_reducible refine Fr.setCell ?_ (by (first | (with_reducible assumption) | omega | (simp only [World.size_alloc, World.size_setCell, World.size_drew, World.heap_drewN]; omega) | (simp; done) | (simp; omega))) _) | (with_reducible refine Fr.trans ?_ (by with_reducible assumption)))))⟩ ⟨_, rfl, (RdS.fr RB.out (by repeat (first | (with_reducible exact Fr.refl _) | (with_reducible assumption) | (with_reducible refine Fr.drewN ?_ _) | (with_reducible refine Fr.drew ?_) | (with_reducible refine Fr.alloc ?_ _) | (with_reducible refine Fr.setCell ?_ (by (first | (with_reducible assumption) | omega | (simp only [World.size_alloc, World.size_setCell, World.size_drew, World.heap_drewN]; omega) | (simp; done) | (simp; omega))) _) | (with_reducible refine Fr.trans ?_ (by with_reducible assumption)))))⟩).mono ?_; rintro e w2 ⟨rfl, hf1⟩))
      go_wp2_with fail
      go_roundw
      case rel => exact ⟨k + 1, by omega, by go_num, by repeat (first | (with_reducible exact Fr.refl _) | (with_reducible assumption) | (with_reducible refine Fr.drewN ?_ _) | (with_reducible refine Fr.drew ?_) | (with_reducible refine Fr.alloc ?_ _) | (with_reducible refine Fr.setCell ?_ (by (first | (with_reducible assumption) | omega | (simp only [World.size_alloc, World.size_setCell, World.size_drew, World.heap_drewN]; omega) | (simp; done) | (simp; omega))) _) | (with_reducible refine Fr.trans ?_ (by with_reducible assumption)))⟩
      case measure => (simp [intOf]; omega)
    · clear fa fb
      go_wp2
      go_ret
      exact ⟨rfl, hfr⟩
set_option maxHeartbeats 1000000 in
set_option maxRecDepth 100000 in
theorem toLinkS_w (a : Value) (xs : List (LinkD)) (w : World) (ha : LinkSR w a xs) (hn : LinkSBulk xs ≤ 1048576) :
    Calls Try.prog 120 #[a] w fun e w' => ∃ ao cap, e = .returned (.slice ao xs.length cap) ∧ LinkSW w' w.heap.size w'.heap.size (.slice ao xs.length cap) xs ∧ Fr w w' := by
  obtain ⟨ao, ba, oa, ca, rfl, hca, hma, fa⟩ := ha.one
  clear ha
  have hn0 : xs.length ≤ 1048576 := by unfold LinkSBulk nBulk at hn; omega
  have HN := Lib.hid hn
  clear hn
  obtain ⟨i0, hi, hz0, hz1, hz2⟩ := info_parts info_Link
  go_enter Try.func120, Try.ntmps120
  go_wp2_with (at_make; refine wpList_make_full _ rfl _ _ 82 rfl w.heap.size 35 i0 (.agg #[.slice none 0 0, .int .i64 0, .int .i64 0]) 3 Try.underlying82 hi hz0 hz1 _ _ _ _ xs.length rfl rfl rfl rfl (by rw [hz2]; omega) (by unfold maxLen; omega) (by omega) ?_; intro w1 hown hgrow)
  rw [show (madeCells (Value.cells (.agg #[.slice none 0 0, .int .i64 0, .int .i64 0])) (xs.length * 3)).toList = fillR xs (fun _ => []) [.slice none 0 0, .int .i64 0, .int .i64 0] 0 from made_fill xs (fun _ => []) [.slice none 0 0, .int .i64 0, .int .i64 0] 3 rfl (by omega)] at hown
  go_loopw [4] (fun i wr => ∃ k : Nat, k ≤ xs.length ∧ i = .int .i64 k ∧ NestP LinkEW 35 3 wr w.heap.size wr.heap.size (.slice (some ⟨w.heap.size, 0, none⟩) xs.length xs.length) xs.length ((List.replicate (xs.length - k) [.slice none 0 0, .int .i64 0, .int .i64 0]).flatten) (xs.take k) ∧ Fr w wr) (fun i _ => xs.length - (intOf i).toNat)
  case atStart => exact ⟨0, Nat.zero_le _, rfl, NestP.none_yet (OwW.of_owns (by simpa [fillR] using hown)), (Fr.refl w).grown hgrow (by simp)⟩
  case round =>
    clear hown hgrow
    obtain ⟨k, hk, rfl, ho, hfr⟩ := hrel
    by_cases hlt : k < xs.length
    · obtain ⟨rfl, hba, fa⟩ := fa (by omega)
      obtain ⟨ac, ra, ga⟩ := fa k hlt
      obtain ⟨x, hx⟩ : ∃ x, nAt xs k = x := ⟨_, rfl⟩
      have hxl : x.f0.length ≤ 1048576 := by
        have h1 := nSum_succ LinkD.bulk xs k hlt
        have h2 := nSum_le LinkD.bulk xs (k + 1)
        have h3 := HN.out
        unfold LinkSBulk nBulk at h3
        rw [hx] at h1
        have h4 : LinkD.bulk x ≤ 1048576 := by omega
        clear h1 h2 h3 hx
        revert h4
        intro h4
        exact (by unfold LinkD.bulk strsBulk at *; omega)
      have c0 : wr.cell? ⟨ba, oa + k * 3, none⟩ = some (ac) := (hfr.cell (p := ⟨ba, _, none⟩) hba).trans (by first | exact ga.1 | (rw [← hx]; exact ga.1))
      have c1 : wr.cell? ⟨ba, oa + k * 3 + 1, none⟩ = some (.int .i64 x.f1) := (hfr.cell (p := ⟨ba, _, none⟩) hba).trans (by first | exact ga.2.1 | (rw [← hx]; exact ga.2.1))
      have c2 : wr.cell? ⟨ba, oa + k * 3 + 2, none⟩ = some (.int .i64 x.f2) := (hfr.cell (p := ⟨ba, _, none⟩) hba).trans (by first | exact ga.2.2 | (rw [← hx]; exact ga.2.2))
      have HX := Lib.hid (take_next xs k hlt)
      rw [hx] at ra HX
      obtain ⟨aoc, capc, rfl, _⟩ := RdS.val ra
      have hkl : (xs.take k).length = k := by simp; omega
      have hsz := ho.block.2.2
      rw [show xs.length - k = (xs.length - (k + 1)) + 1 from by omega, List.replicate_succ, List.flatten_cons] at ho
      clear fa hx ga
      go_wp2_with (go_at_call 23; refine (toLink_w _ x _ ⟨_, rfl, (ra.fr (by repeat (first | (with_reducible exact Fr.refl _) | (with_reducible assumption) | (with_reducible refine Fr.drewN ?_ _) | (with_reducible refine Fr.drew ?_) | (with_reducible refine Fr.alloc ?_ _) | (with_reducible refine Fr.setCell ?_ (by (first | (with_reducible assumption) | omega | (simp only [World.size_alloc, World.size_setCell, World.size_drew, World.heap_drewN]; omega) | (simp; done) | (simp; omega))) _) | (with_reducible refine Fr.trans ?_ (by with_reducible assumption)))))⟩ hxl).mono ?_; rintro e w2 ⟨aor, capr, rfl, hr2, hf1⟩; have p0 := NestP.fr (E := LinkEW) (fun a b c => LinkEW.span a b c) ho hf1; obtain ⟨g0, u0, d0⟩ := p0.spot (k * 3) (by omega); obtain ⟨g1, u1, d1⟩ := p0.spot (k * 3 + 1) (by omega); obtain ⟨g2, u2, d2⟩ := p0.spot (k * 3 + 2) (by omega))
      have p0 := NestP.fr (E := LinkEW) (fun a b c => LinkEW.span a b c) ho hf1
      have p1 := NestP.stored (E := LinkEW) (fun a b c => LinkEW.span a b c) p0 0 (.slice aor x.f0.length capr) (by simp) (i := k * 3) (by omega)
      have p2 := NestP.stored (E := LinkEW) (fun a b c => LinkEW.span a b c) p1 1 (.int .i64 x.f1) (by simp) (i := k * 3 + 1) (by omega)
      have p3 := NestP.stored (E := LinkEW) (fun a b c => LinkEW.span a b c) p2 2 (.int .i64 x.f2) (by simp) (i := k * 3 + 2) (by omega)
      go_roundw
      case rel =>
        refine ⟨k + 1, by omega, by go_num, ?_, by repeat (first | (with_reducible exact Fr.refl _) | (with_reducible assumption) | (with_reducible refine Fr.drewN ?_ _) | (with_reducible refine Fr.drew ?_) | (with_reducible refine Fr.alloc ?_ _) | (with_reducible refine Fr.setCell ?_ (by (first | (with_reducible assumption) | omega | (simp only [World.size_alloc, World.size_setCell, World.size_drew, World.heap_drewN]; omega) | (simp; done) | (simp; omega))) _) | (with_reducible refine Fr.trans ?_ (by with_reducible assumption)))⟩
        rw [HX.out]
        have zf := hf1.size
        refine NestP.grow (l1 := wr.heap.size) (h1 := w2.heap.size) (u := [.slice aor x.f0.length capr, .int .i64 x.f1, .int .i64 x.f2]) p3 rfl ?_ (by omega) (Nat.le_refl _) zf (by (first | (with_reducible assumption) | omega | (simp only [World.size_alloc, World.size_setCell, World.size_drew, World.heap_drewN]; omega) | (simp; done) | (simp; omega)))
        obtain ⟨_, _, hv, hr2⟩ := hr2; cases hv
        exact ⟨aor, capr, rfl, by change OwW _ _ _ _ _ _ _ _; (repeat (first | (with_reducible refine OwW.drewN ?_ _) | (with_reducible refine OwW.drew ?_) | (with_reducible refine OwW.alloc ?_ _) | (with_reducible refine OwW.set ?_ (by (first | (with_reducible assumption) | omega | (simp only [World.size_alloc, World.size_setCell, World.size_drew, World.heap_drewN]; omega) | (simp; done) | (simp; omega))) _) | (exact hr2)))⟩
      case measure => (simp [intOf]; omega)
    · clear fa
      obtain rfl : k = xs.length := by omega
      simp only [Nat.sub_self, List.replicate_zero, List.flatten_nil, List.take_length] at ho
      go_wp2
      go_ret
      exact ⟨_, _, rfl, ho, hfr⟩
end Go.Proofs.Ytfokiabkebpblaa
