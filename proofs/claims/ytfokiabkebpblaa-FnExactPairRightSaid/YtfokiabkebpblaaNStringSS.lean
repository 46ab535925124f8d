/- Slices of []string: what they read as; the laws' helpers. (Printed by mk_nest.py.) No condition but the sizes that the reading gives. -/
import Derived.Test.YtfokiabkebpblaaNest
import Derived.Test.YtfokiabkebpblaaTFlat
import Derived.Deep.QuietTactic
import Derived.BigQuiet
import Derived.Deep.RegionHeld3
namespace Go.Proofs.Ytfokiabkebpblaa
open Go.RowKit
set_option linter.unusedVariables false
set_option linter.unusedSimpArgs false

def strsOk (ss : List ByteArray) : Prop := ∀ s ∈ ss, s.size ≤ maxLen
def StrsE (w : World) (u : List Value) (d : List ByteArray) : Prop := ∃ a, u = [a] ∧ StrsR w a d
def StrsEW (w : World) (lo hi : Nat) (u : List Value) (d : List ByteArray) : Prop := ∃ ao cap, u = [.slice ao d.length cap] ∧ StrsW w lo hi (.slice ao d.length cap) d
theorem StrsE.fr {w w' : World} {u : List Value} {d : List ByteArray} (h : StrsE w u d) (hf : Fr w w') : StrsE w' u d := by obtain ⟨a, h1, h2⟩ := h; exact ⟨a, h1, h2.fr hf⟩
theorem StrsEW.span {w w' : World} {lo hi : Nat} {u : List Value} {d : List ByteArray} {a b : Nat} (h : StrsEW w lo hi u d) (s : Span a b w w') (hd : hi ≤ a ∨ b ≤ lo) : StrsEW w' lo hi u d := by obtain ⟨x, y, h1, h2⟩ := h; exact ⟨x, y, h1, h2.span s hd⟩
theorem StrsEW.ab {w w' : World} {lo hi : Nat} {u : List Value} {d : List ByteArray} (h : StrsEW w lo hi u d) (s : Ab lo w w') : StrsEW w' lo hi u d := by obtain ⟨x, y, h1, h2⟩ := h; exact ⟨x, y, h1, OwW.ab h2 s⟩
theorem StrsEW.rd {w : World} {lo hi : Nat} {u : List Value} {d : List ByteArray} (h : StrsEW w lo hi u d) : StrsE w u d := by obtain ⟨x, y, h1, h2⟩ := h; exact ⟨_, h1, h2.rd⟩
def StringSSR (w : World) (v : Value) (xs : List (List ByteArray)) : Prop := NestR StrsE 1 w v xs
def StringSSW (w : World) (lo hi : Nat) (v : Value) (xs : List (List ByteArray)) : Prop := NestW StrsEW 28 1 w lo hi v xs
theorem StringSSR.fr {w w' : World} {v : Value} {xs : List (List ByteArray)} (h : StringSSR w v xs) (hf : Fr w w') : StringSSR w' v xs := NestR.fr (E := StrsE) (fun a b => StrsE.fr a b) h hf
theorem StringSSW.fr {w w' : World} {lo hi : Nat} {v : Value} {xs : List (List ByteArray)} (h : StringSSW w lo hi v xs) (hf : Fr w w') : StringSSW w' lo hi v xs := NestP.fr (E := StrsEW) (fun a b c => StrsEW.span a b c) h hf
theorem StringSSW.span {w w' : World} {lo hi : Nat} {v : Value} {xs : List (List ByteArray)} (h : StringSSW w lo hi v xs) {a b : Nat} (s : Span a b w w') (hd : hi ≤ a ∨ b ≤ lo) : StringSSW w' lo hi v xs := NestP.span (E := StrsEW) (fun a b c => StrsEW.span a b c) h s hd
theorem StringSSW.ab {w w' : World} {lo hi : Nat} {v : Value} {xs : List (List ByteArray)} (h : StringSSW w lo hi v xs) (s : Ab lo w w') : StringSSW w' lo hi v xs := NestP.ab (E := StrsEW) (fun a b => StrsEW.ab a b) h s
theorem StringSSW.rd {w : World} {lo hi : Nat} {v : Value} {xs : List (List ByteArray)} (h : StringSSW w lo hi v xs) : StringSSR w v xs := NestP.rd (E := StrsEW) (E' := StrsE) (fun a => StrsEW.rd a) h
theorem StringSSW.val {w : World} {lo hi : Nat} {v : Value} {xs : List (List ByteArray)} (h : StringSSW w lo hi v xs) : ∃ ao cap, v = .slice ao xs.length cap := NestW.val h
theorem StringSSR.one {w : World} {v : Value} {xs : List (List ByteArray)} (h : StringSSR w v xs) :
    ∃ ao b o cap, v = .slice ao xs.length cap ∧ xs.length ≤ cap ∧ cap ≤ 9223372036854775807 ∧ (0 < xs.length → ao = some ⟨b, o, none⟩ ∧ b < w.heap.size ∧ ∀ k, k < xs.length → ∃ a, StrsR w a (nAt xs k) ∧ w.cell? ⟨b, o + k, none⟩ = some (a)) := by
  obtain ⟨ao, b, o, cap, h1, h2, h3, h4⟩ := NestR.one h
  refine ⟨ao, b, o, cap, h1, h2, h3, fun hn => ⟨(h4 hn).1, (h4 hn).2.1, fun k hk => ?_⟩⟩
  obtain ⟨u, _, ⟨a, hu, ha⟩, hc⟩ := (h4 hn).2.2 k hk
  rw [hu] at hc
  exact ⟨a, ha, by simpa using hc 0 _ (by omega) rfl⟩
theorem info_Strs : (Try.prog.info? 28).map (fun i => (i.zero, i.size, i.bytes)) = some (some (.slice none 0 0), 1, 24) := by kernel_rfl
def StringSSBulk (xs : List (List ByteArray)) : Nat := nBulk strsBulk xs
def StringSSOk (xs : List (List ByteArray)) : Prop := ∀ x ∈ xs, strsOk x
set_option maxHeartbeats 1000000 in
theorem szStringSS_any (a : Value) (xs : List (List ByteArray)) (left : Int) (w : World) (ha : StringSSR w a xs) (hs : StringSSOk xs) (h0 : 0 ≤ left) (h1 : left ≤ 1048576) :
    Calls Try.prog 117 #[a, .int .i64 left] w fun e w' => e = .returned (.int .i64 (szR left (StringSSBulk xs))) ∧ Fr w w' := by
  obtain ⟨ao, ba, oa, ca, rfl, hca, hma, fa⟩ := ha.one
  clear ha
  by_cases hl : (xs.length : Int) ≤ left
  · go_enter Try.func117, Try.ntmps117
    go_wp2
    go_loopw [1, 5] (fun l i wr => ∃ k : Nat, k ≤ xs.length ∧ i = .int .i64 k ∧ l = .int .i64 (left - xs.length - nSum strsBulk xs k) ∧ (nSum strsBulk xs k : Int) ≤ left - xs.length ∧ Fr w wr) (fun _ i _ => xs.length - (intOf i).toNat)
    case atStart => exact ⟨0, Nat.zero_le _, rfl, by simp [nSum], by simp [nSum]; omega, Fr.refl _⟩
    case round =>
      obtain ⟨k, hk, rfl, rfl, hj, hfr⟩ := hrel
      by_cases hlt : k < xs.length
      · obtain ⟨rfl, hba, fa⟩ := fa (by omega)
        obtain ⟨ac, ra, ga⟩ := fa k hlt
        obtain ⟨x, hx⟩ : ∃ x, nAt xs k = x := ⟨_, rfl⟩
        have c0 : wr.cell? ⟨ba, oa + k, none⟩ = some (ac) := (hfr.cell (p := ⟨ba, _, none⟩) hba).trans (by first | exact ga | (rw [← hx]; exact ga))
        rw [hx] at ra
        obtain ⟨aoc, capc, rfl, _⟩ := RdS.val ra
        have hok : strsOk x := hx ▸ nAt_mem hs k hlt
        have hsu := nSum_succ strsBulk xs k hlt
        rw [hx] at hsu
        have hle := nSum_le strsBulk xs (k + 1)
        have HSU := Lib.hid hsu
        clear hsu fa hx ga
        obtain ⟨bk, hbk⟩ : ∃ bk, strsBulk x = bk := ⟨_, rfl⟩
        rw [hbk] at HSU
        have HBK := Lib.hid hbk
        clear hbk
        by_cases hr : (bk : Int) ≤ left - xs.length - nSum strsBulk xs k
        · have hz := szR_ok hr
          go_wp2_with (go_at_call 82; refine (szStringS_any _ x _ _ (ra.fr (by repeat (first | (with_reducible exact Fr.refl _) | (with_reducible assumption) | (with_reducible refine Fr.drewN ?_ _) | (with_reducible refine Fr.drew ?_) | (with_reducible refine Fr.alloc ?_ _) | (with_reducible refine Fr.setCell ?_ (by (first | (with_reducible assumption) | omega | (simp only [World.size_alloc, World.size_setCell, World.size_drew, World.heap_drewN]; omega) | (simp; done) | (simp; omega))) _) | (with_reducible refine Fr.trans ?_ (by with_reducible assumption))))) hok (by omega) (by omega)).mono ?_; rintro e w1 ⟨rfl, hf1⟩; rw [HBK.out])
          go_roundw
          case rel => exact ⟨k + 1, by omega, by go_num, by rw [HSU.out]; go_num, by rw [HSU.out]; omega, by subst hf1; repeat (first | (with_reducible exact Fr.refl _) | (with_reducible assumption) | (with_reducible refine Fr.drewN ?_ _) | (with_reducible refine Fr.drew ?_) | (with_reducible refine Fr.alloc ?_ _) | (with_reducible refine Fr.setCell ?_ (by (first | (with_reducible assumption) | omega | (simp only [World.size_alloc, World.size_setCell, World.size_drew, World.heap_drewN]; omega) | (simp; done) | (simp; omega))) _) | (with_reducible refine Fr.trans ?_ (by with_reducible assumption)))⟩
          case measure => (simp [intOf]; omega)
        · have hz := szR_no hr
          go_wp2_with (go_at_call 82; refine (szStringS_any _ x _ _ (ra.fr (by repeat (first | (with_reducible exact Fr.refl _) | (with_reducible assumption) | (with_reducible refine Fr.drewN ?_ _) | (with_reducible refine Fr.drew ?_) | (with_reducible refine Fr.alloc ?_ _) | (with_reducible refine Fr.setCell ?_ (by (first | (with_reducible assumption) | omega | (simp only [World.size_alloc, World.size_setCell, World.size_drew, World.heap_drewN]; omega) | (simp; done) | (simp; omega))) _) | (with_reducible refine Fr.trans ?_ (by with_reducible assumption))))) hok (by omega) (by omega)).mono ?_; rintro e w1 ⟨rfl, hf1⟩; rw [HBK.out])
          go_ret
          exact ⟨ret_int (by rw [szR_no]; unfold StringSSBulk nBulk; have := HSU.out; omega), by subst hf1; repeat (first | (with_reducible exact Fr.refl _) | (with_reducible assumption) | (with_reducible refine Fr.drewN ?_ _) | (with_reducible refine Fr.drew ?_) | (with_reducible refine Fr.alloc ?_ _) | (with_reducible refine Fr.setCell ?_ (by (first | (with_reducible assumption) | omega | (simp only [World.size_alloc, World.size_setCell, World.size_drew, World.heap_drewN]; omega) | (simp; done) | (simp; omega))) _) | (with_reducible refine Fr.trans ?_ (by with_reducible assumption)))⟩
      · clear fa
        obtain rfl : k = xs.length := by omega
        go_wp2
        go_ret
        exact ⟨ret_int (by rw [szR_ok]; · unfold StringSSBulk nBulk; omega
                           · unfold StringSSBulk nBulk; omega), by repeat (first | (with_reducible exact Fr.refl _) | (with_reducible assumption) | (with_reducible refine Fr.drewN ?_ _) | (with_reducible refine Fr.drew ?_) | (with_reducible refine Fr.alloc ?_ _) | (with_reducible refine Fr.setCell ?_ (by (first | (with_reducible assumption) | omega | (simp only [World.size_alloc, World.size_setCell, World.size_drew, World.heap_drewN]; omega) | (simp; done) | (simp; omega))) _) | (with_reducible refine Fr.trans ?_ (by with_reducible assumption)))⟩
  · go_enter Try.func117, Try.ntmps117
    go_wp2
    go_ret
    exact ⟨ret_int (by rw [szR_no]; unfold StringSSBulk nBulk; omega), by repeat (first | (with_reducible exact Fr.refl _) | (with_reducible assumption) | (with_reducible refine Fr.drewN ?_ _) | (with_reducible refine Fr.drew ?_) | (with_reducible refine Fr.alloc ?_ _) | (with_reducible refine Fr.setCell ?_ (by (first | (with_reducible assumption) | omega | (simp only [World.size_alloc, World.size_setCell, World.size_drew, World.heap_drewN]; omega) | (simp; done) | (simp; omega))) _) | (with_reducible refine Fr.trans ?_ (by with_reducible assumption)))⟩
set_option maxHeartbeats 1000000 in
theorem eqStringSS_same (a b : Value) (xs : List (List ByteArray)) (w : World) (ha : StringSSR w a xs) (hb : StringSSR w b xs) :
    Calls Try.prog 125 #[a, b] w fun e w' => e = .returned (.bool true) ∧ Fr w w' := by
  obtain ⟨ao, ba, oa, ca, rfl, hca, hma, fa⟩ := ha.one
  obtain ⟨bo, bb, ob, cb, rfl, hcb, hmb, fb⟩ := hb.one
  clear ha hb
  go_enter Try.func125, Try.ntmps125
  go_wp2
  go_loopw [5] (fun i wr => ∃ k : Nat, k ≤ xs.length ∧ i = .int .i64 k ∧ Fr w wr) (fun i _ => xs.length - (intOf i).toNat)
  case atStart => exact ⟨0, Nat.zero_le _, rfl, Fr.refl _⟩
  case round =>
    obtain ⟨k, hk, rfl, hfr⟩ := hrel
    by_cases hlt : k < xs.length
    · obtain ⟨rfl, hba, fa⟩ := fa (by omega)
      obtain ⟨rfl, hbb, fb⟩ := fb (by omega)
      obtain ⟨ac, ra, ga⟩ := fa k hlt
      obtain ⟨ae, rb, gb⟩ := fb k hlt
      obtain ⟨x, hx⟩ : ∃ x, nAt xs k = x := ⟨_, rfl⟩
      have c0 : ∀ w', Sf wr w' → w'.cell? ⟨ba, oa + k, none⟩ = some (ac) := fun w' hf => ((hfr.trans hf.out).cell (p := ⟨ba, _, none⟩) hba).trans (by first | exact ga | (rw [← hx]; exact ga))
      have e0 : ∀ w', Sf wr w' → w'.cell? ⟨bb, ob + k, none⟩ = some (ae) := fun w' hf => ((hfr.trans hf.out).cell (p := ⟨bb, _, none⟩) hbb).trans (by first | exact gb | (rw [← hx]; exact gb))
      rw [hx] at ra rb
      have RA := Lib.hid (RdS.fr ra hfr)
      have RB := Lib.hid (RdS.fr rb hfr)
      obtain ⟨aoc, capc, rfl, _⟩ := RdS.val ra
      obtain ⟨aoe, cape, rfl, _⟩ := RdS.val rb
      clear fa fb hx ga gb ra rb
      go_wp2_with fail
      go_region_held3 (fun w' => Sf wr w') ((refine Sf.mk ?_; repeat (first | (with_reducible exact Fr.refl _) | (with_reducible assumption) | (with_reducible refine Fr.drewN ?_ _) | (with_reducible refine Fr.drew ?_) | (with_reducible refine Fr.alloc ?_ _) | (with_reducible refine Fr.setCell ?_ (by (first | (with_reducible assumption) | omega | (simp only [World.size_alloc, World.size_setCell, World.size_drew, World.heap_drewN]; omega) | (simp; done) | (simp; omega))) _) | (with_reducible refine Fr.trans ?_ (by with_reducible assumption))))) (first | (go_at_call 90; refine (eqStringS_same _ _ x _ (RdS.fr RA.out (by repeat (first | (with_reducible exact Fr.refl _) | (with_reducible assumption) | (with_reducible refine Fr.drewN ?_ _) | (with_reducible refine Fr.drew ?_) | (with_reducible refine Fr.alloc ?_ _) | (with_reducible refine Fr.setCell ?_ (by (first | (with_reducible assumption) | omega | (simp only [World.size_alloc, World.size_setCell, World.size_drew, World.heap_drewN]; omega) | (simp; done) | (simp; omega))) _) | (with_reducible refine Fr.trans ?_ (by with_reducible assumption))))) (RdS.fr RB.out (by repeat (first | (with_reducible exact Fr.refl _) | (with_reducible assumption) | (with_reducible refine Fr.drewN ?_ _) | (with_reducible refine Fr.drew ?_) | (with_reducible refine Fr.alloc ?_ _) | (with_reducible refine Fr.setCell ?_ (by (first | (with_reducible assumption) | omega | (simp only [World.size_alloc, World.size_setCell, World.size_drew, World.heap_drewN]; omega) | (simp; done) | (simp; omega))) _) | (with_reducible refine Fr.trans ?_ (by with_reducible assumption)))))).mono ?_; rintro e w2 ⟨rfl, hf1⟩))
      go_wp2_with fail
      go_roundw
      case rel => exact ⟨k + 1, by omega, by go_num, by repeat (first | (with_reducible exact Fr.refl _) | (with_reducible assumption) | (with_reducible refine Fr.drewN ?_ _) | (with_reducible refine Fr.drew ?_) | (with_reducible refine Fr.alloc ?_ _) | (with_reducible refine Fr.setCell ?_ (by (first | (with_reducible assumption) | omega | (simp only [World.size_alloc, World.size_setCell, World.size_drew, World.heap_drewN]; omega) | (simp; done) | (simp; omega))) _) | (with_reducible refine Fr.trans ?_ (by with_reducible assumption)))⟩
      case measure => (simp [intOf]; omega)
    · clear fa fb
      go_wp2
      go_ret
      exact ⟨rfl, hfr⟩
set_option maxHeartbeats 1000000 in
set_option maxRecDepth 100000 in
theorem toStringSS_w (a : Value) (xs : List (List ByteArray)) (w : World) (ha : StringSSR w a xs) (hn : StringSSBulk xs ≤ 1048576) :
    Calls Try.prog 121 #[a] w fun e w' => ∃ ao cap, e = .returned (.slice ao xs.length cap) ∧ StringSSW w' w.heap.size w'.heap.size (.slice ao xs.length cap) xs ∧ Fr w w' := by
  obtain ⟨ao, ba, oa, ca, rfl, hca, hma, fa⟩ := ha.one
  clear ha
  have hn0 : xs.length ≤ 1048576 := by unfold StringSSBulk nBulk at hn; omega
  have HN := Lib.hid hn
  clear hn
  obtain ⟨i0, hi, hz0, hz1, hz2⟩ := info_parts info_Strs
  go_enter Try.func121, Try.ntmps121
  go_wp2_with (at_make; refine wpList_make_full _ rfl _ _ 77 rfl w.heap.size 28 i0 (.slice none 0 0) 1 Try.underlying77 hi hz0 hz1 _ _ _ _ xs.length rfl rfl rfl rfl (by rw [hz2]; omega) (by unfold maxLen; omega) (by omega) ?_; intro w1 hown hgrow)
  rw [show (madeCells (Value.cells (.slice none 0 0)) (xs.length * 1)).toList = fillR xs (fun _ => []) [.slice none 0 0] 0 from made_fill xs (fun _ => []) [.slice none 0 0] 1 rfl (by omega)] at hown
  go_loopw [4] (fun i wr => ∃ k : Nat, k ≤ xs.length ∧ i = .int .i64 k ∧ NestP StrsEW 28 1 wr w.heap.size wr.heap.size (.slice (some ⟨w.heap.size, 0, none⟩) xs.length xs.length) xs.length ((List.replicate (xs.length - k) [.slice none 0 0]).flatten) (xs.take k) ∧ Fr w wr) (fun i _ => xs.length - (intOf i).toNat)
  case atStart => exact ⟨0, Nat.zero_le _, rfl, NestP.none_yet (OwW.of_owns (by simpa [fillR] using hown)), (Fr.refl w).grown hgrow (by simp)⟩
  case round =>
    clear hown hgrow
    obtain ⟨k, hk, rfl, ho, hfr⟩ := hrel
    by_cases hlt : k < xs.length
    · obtain ⟨rfl, hba, fa⟩ := fa (by omega)
      obtain ⟨ac, ra, ga⟩ := fa k hlt
      obtain ⟨x, hx⟩ : ∃ x, nAt xs k = x := ⟨_, rfl⟩
      have hxl : x.length ≤ 1048576 := by
        have h1 := nSum_succ strsBulk xs k hlt
        have h2 := nSum_le strsBulk xs (k + 1)
        have h3 := HN.out
        unfold StringSSBulk nBulk at h3
        rw [hx] at h1
        have h4 : strsBulk x ≤ 1048576 := by omega
        clear h1 h2 h3 hx
        revert h4
        intro h4
        exact (by unfold strsBulk at *; omega)
      have c0 : wr.cell? ⟨ba, oa + k, none⟩ = some (ac) := (hfr.cell (p := ⟨ba, _, none⟩) hba).trans (by first | exact ga | (rw [← hx]; exact ga))
      have HX := Lib.hid (take_next xs k hlt)
      rw [hx] at ra HX
      obtain ⟨aoc, capc, rfl, _⟩ := RdS.val ra
      have hkl : (xs.take k).length = k := by simp; omega
      have hsz := ho.block.2.2
      rw [show xs.length - k = (xs.length - (k + 1)) + 1 from by omega, List.replicate_succ, List.flatten_cons] at ho
      clear fa hx ga
      go_wp2_with (go_at_call 86; refine (toStringS_w _ x _ (ra.fr (by repeat (first | (with_reducible exact Fr.refl _) | (with_reducible assumption) | (with_reducible refine Fr.drewN ?_ _) | (with_reducible refine Fr.drew ?_) | (with_reducible refine Fr.alloc ?_ _) | (with_reducible refine Fr.setCell ?_ (by (first | (with_reducible assumption) | omega | (simp only [World.size_alloc, World.size_setCell, World.size_drew, World.heap_drewN]; omega) | (simp; done) | (simp; omega))) _) | (with_reducible refine Fr.trans ?_ (by with_reducible assumption))))) hxl).mono ?_; rintro e w2 ⟨aor, capr, rfl, hr2, hf1⟩; have p0 := NestP.fr (E := StrsEW) (fun a b c => StrsEW.span a b c) ho hf1; obtain ⟨g0, u0, d0⟩ := p0.spot (k) (by omega))
      have p0 := NestP.fr (E := StrsEW) (fun a b c => StrsEW.span a b c) ho hf1
      have p1 := NestP.stored (E := StrsEW) (fun a b c => StrsEW.span a b c) p0 0 (.slice aor x.length capr) (by simp) (i := k) (by omega)
      go_roundw
      case rel =>
        refine ⟨k + 1, by omega, by go_num, ?_, by repeat (first | (with_reducible exact Fr.refl _) | (with_reducible assumption) | (with_reducible refine Fr.drewN ?_ _) | (with_reducible refine Fr.drew ?_) | (with_reducible refine Fr.alloc ?_ _) | (with_reducible refine Fr.setCell ?_ (by (first | (with_reducible assumption) | omega | (simp only [World.size_alloc, World.size_setCell, World.size_drew, World.heap_drewN]; omega) | (simp; done) | (simp; omega))) _) | (with_reducible refine Fr.trans ?_ (by with_reducible assumption)))⟩
        rw [HX.out]
        have zf := hf1.size
        refine NestP.grow (l1 := wr.heap.size) (h1 := w2.heap.size) (u := [.slice aor x.length capr]) p1 rfl ?_ (by omega) (Nat.le_refl _) zf (by (first | (with_reducible assumption) | omega | (simp only [World.size_alloc, World.size_setCell, World.size_drew, World.heap_drewN]; omega) | (simp; done) | (simp; omega)))
        skip
        exact ⟨aor, capr, rfl, by change OwW _ _ _ _ _ _ _ _; (repeat (first | (with_reducible refine OwW.drewN ?_ _) | (with_reducible refine OwW.drew ?_) | (with_reducible refine OwW.alloc ?_ _) | (with_reducible refine OwW.set ?_ (by (first | (with_reducible assumption) | omega | (simp only [World.size_alloc, World.size_setCell, World.size_drew, World.heap_drewN]; omega) | (simp; done) | (simp; omega))) _) | (exact hr2)))⟩
      case measure => (simp [intOf]; omega)
    · clear fa
      obtain rfl : k = xs.length := by omega
      simp only [Nat.sub_self, List.replicate_zero, List.flatten_nil, List.take_length] at ho
      go_wp2
      go_ret
      exact ⟨_, _, rfl, ho, hfr⟩
end Go.Proofs.Ytfokiabkebpblaa
