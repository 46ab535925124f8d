/- insertFile: a file put in its place in a disk that the call itself made (its box, its row). Conditions: the disk's files are sorted, no more than 1000. -/
import Derived.Test.YtjgghiniajmfjaaKpl2
import Derived.Test.YtjgghiniajmfjaaKIns
namespace Go.Proofs.Ytjgghiniajmfjaa
open Go.RowKit
set_option linter.unusedVariables false
set_option linter.unusedSimpArgs false
/-- Nothing old has turned but one box and one row. -/
structure Two (b : Nat) (r : Option Nat) (w w' : World) : Prop where
  os : w'.os = w.os
  tape : w'.tape = w.tape
  output : w'.output = w.output
  size : w.heap.size ≤ w'.heap.size
  block : ∀ k, k < w.heap.size → k ≠ b → some k ≠ r → w'.heap[k]? = w.heap[k]?
theorem Two.box {b : Nat} {r : Option Nat} {w w' : World} {c : Nat} {X : Array Value} {T : TypeId} (h : Two b r w w') (k : Box w c X T) (h1 : c ≠ b) (h2 : some c ≠ r) : Box w' c X T := (h.block c k.lt h1 h2).trans k
theorem Two.fr {b : Nat} {r : Option Nat} {a w w' : World} (h : Two b r w w') (k : Fr a w) (h1 : a.heap.size ≤ b) (h2 : ∀ g, r = some g → a.heap.size ≤ g) : Fr a w' :=
  Below.trans k.out (show Below a.heap.size w w' from ⟨h.os, h.tape, h.output, h.size, fun c hc => h.block c (Nat.lt_of_lt_of_le hc k.size) (by omega) (fun e => by have := h2 c e.symm; omega)⟩)
theorem Two.of_gr {b : Nat} {r : Option Nat} {w w' : World} (h : w.grownBy w' r) : Two b r w w' := ⟨h.os, h.tape, h.output, h.size, fun k hk _ hr => h.block k hk hr⟩
theorem Two.of_fr {b : Nat} {r : Option Nat} {w w' : World} (h : Fr w w') : Two b r w w' := ⟨h.out.os, h.out.tape, h.out.output, h.size, fun k hk _ _ => h.out.block k hk⟩
theorem Two.trans {b : Nat} {r : Option Nat} {w w' w'' : World} (h : Two b r w w') (k : Two b r w' w'') : Two b r w w'' :=
  ⟨k.os.trans h.os, k.tape.trans h.tape, k.output.trans h.output, Nat.le_trans h.size k.size, fun c hc h1 h2 => (k.block c (Nat.lt_of_lt_of_le hc h.size) h1 h2).trans (h.block c hc h1 h2)⟩
theorem Two.set {b : Nat} {r : Option Nat} {w w' : World} (h : Two b r w w') (i : Nat) (v : Value) : Two b r w (w'.setCell ⟨b, i, none⟩ v) :=
  h.trans ⟨rfl, rfl, rfl, by simp, fun k _ h1 _ => heap_setCell_other w' ⟨b, i, none⟩ k v h1⟩
theorem insert_all (lo : Nat) (v : Value) (xs : List FileR) (i : Nat) (f : FileR) (vb : Nat) (w : World) (ho : w.ownsRow lo 147 3 v xs.length (xs.flatMap FileR.cells)) (hn : xs.length ≤ 1000) (hi : i ≤ xs.length)
    (hb : Box w vb #[.string f.f0, .string f.f1, .int .i64 f.f2] 147) (hne : some vb ≠ v.ownBlock) (hlo : lo ≤ w.heap.size) :
    Calls Try.prog 244 #[v, .int .i64 i, .slice (some ⟨vb, 0, none⟩) 1 1] w fun e w' => ∃ ao cap, e = .returned (.slice ao (insL xs i f).length cap) ∧ w'.ownsRow lo 147 3 (.slice ao (insL xs i f).length cap) (insL xs i f).length ((insL xs i f).flatMap FileR.cells) ∧ (∀ b, Two b v.ownBlock w w') ∧ (∀ g, (Value.slice ao (insL xs i f).length cap).ownBlock = some g → some g = v.ownBlock ∨ w.heap.size ≤ g) := by
  have hil := insL_length xs i f hi
  rw [hil]
  rcases Nat.lt_or_ge i xs.length with hlt | hge
  · rcases ho.2 with ⟨rfl, h0⟩ | ⟨g, cap, cur, rfl, hb1, hg, hnc, hcm, hcs, htk⟩
    · omega
    · by_cases hroom : xs.length + 1 ≤ cap
      · refine (insert_room lo g cap i xs f vb w ho hn hlt hroom hb (fun e => hne (by rw [e]; rfl))).mono fun e w' h => ?_
        exact ⟨_, _, h.1, h.2.1, fun b => Two.of_gr h.2.2, fun g hg => .inl hg.symm⟩
      · refine (insert_grow lo g cap i xs f vb w ho hn hlt hroom hb (fun e => hne (by rw [e]; rfl))).mono fun e w' h => ?_
        obtain ⟨G, h1, h2, h3⟩ := h
        exact ⟨_, _, h1, h2, fun b => Two.of_fr h3, fun g hg => .inr (by simp [Value.ownBlock] at hg; omega)⟩
  · obtain rfl : i = xs.length := by omega
    refine (insert_end lo v xs f vb w ho hn hb hlo).mono fun e w' h => ?_
    obtain ⟨ao, cap, h1, h2, h3, h4⟩ := h
    refine ⟨ao, cap, h1, ?_, fun b => Two.of_gr h3, fun g hg => by rcases h4 with h4 | h4 <;> rw [hg] at h4; exact .inl h4; exact .inr (by cases h4; exact Nat.le_refl _)⟩
    have : (insL xs xs.length f).flatMap FileR.cells = xs.flatMap FileR.cells ++ [.string f.f0, .string f.f1, .int .i64 f.f2] := by
      rw [insL_cells, ← file_len, List.take_length, List.drop_length, List.append_nil]
    rw [this]
    exact h2
set_option maxHeartbeats 8000000 in
set_option maxRecDepth 100000 in
theorem insertFile_any (lo b : Nat) (v : Value) (xs : List FileR) (f : FileR) (w : World) (hB : Box w b #[v] 46) (ho : w.ownsRow lo 147 3 v xs.length (xs.flatMap FileR.cells)) (hne : some b ≠ v.ownBlock) (hlo : lo ≤ w.heap.size) (hn : xs.length ≤ 999) (hs : Sorted xs) :
    Calls Try.prog 214 #[.pointer (some ⟨b, 0, none⟩), .agg #[.string f.f0, .string f.f1, .int .i64 f.f2]] w fun e w' => (∃ u, e = .returned u) ∧ ∃ ao cap, Box w' b #[.slice ao (putF xs f).length cap] 46 ∧ w'.ownsRow lo 147 3 (.slice ao (putF xs f).length cap) (putF xs f).length ((putF xs f).flatMap FileR.cells) ∧ Two b v.ownBlock w w' := by
  obtain ⟨ao, cap, rfl⟩ := owns_val ho
  have HO := Lib.hid ho
  have HS := Lib.hid hs
  have hblt := hB.lt
  have BF : Box (w.alloc (.cells #[.string f.f0, .string f.f1, .int .i64 f.f2] 147)) w.heap.size #[.string f.f0, .string f.f1, .int .i64 f.f2] 147 := Box.new _ _ _
  have BD := hB.alloc (.cells #[.string f.f0, .string f.f1, .int .i64 f.f2] 147)
  have ho1 := owns_fr ho ((Fr.refl w).alloc (.cells #[.string f.f0, .string f.f1, .int .i64 f.f2] 147))
  have htw : Two b (Value.slice ao xs.length cap).ownBlock w (w.alloc (.cells #[.string f.f0, .string f.f1, .int .i64 f.f2] 147)) := Two.of_fr ((Fr.refl w).alloc _)
  have hsz : (w.alloc (.cells #[.string f.f0, .string f.f1, .int .i64 f.f2] 147)).heap.size = w.heap.size + 1 := by simp
  have HB := Lib.hid hB
  go_enter Try.func214, Try.ntmps214
  go_wp2_with fail
  clear ho hs hB
  generalize w.alloc (.cells #[.string f.f0, .string f.f1, .int .i64 f.f2] 147) = w1 at *
  have FD := BD.facts
  have FF := BF.facts
  have HO1 := Lib.hid ho1
  have HSZ := Lib.hid hsz
  have hr := RdS.of_owns ho1
  obtain ⟨_, g, o, _, hv, hc1, hc2, fx⟩ := FilesR.one hr
  cases hv
  have FX := Lib.hid fx
  clear hr fx ho1 hsz
  go_loopw [4] (fun i wr => ∃ (k m : Nat), k ≤ xs.length ∧ i = .int .i64 k ∧ wr = w1.drewN m ∧ Hid (∀ j, j < k → lessB (fileAt xs j).f0 f.f0 = true)) (fun i _ => xs.length - (intOf i).toNat)
  case atStart => exact ⟨0, 0, Nat.zero_le _, rfl, rfl, fun j hj => absurd hj (by omega)⟩
  case round =>
    obtain ⟨k, md, hk, rfl, rfl, hj⟩ := hrel
    by_cases hlt : k < xs.length
    · obtain ⟨rfl, hg, fx⟩ := FX.out (by omega)
      obtain ⟨x, hx⟩ : ∃ x, fileAt xs k = x := ⟨_, rfl⟩
      have fk := fx k hlt
      rw [hx] at fk
      obtain ⟨q0, q1, q2⟩ := fk
      clear fx
      cases hl : lessB x.f0 f.f0
      · have hp2 : Op.bytesLess x.f0.toList f.f0.toList = false := hl
        by_cases he : x.f0 = f.f0
        · have HPF := Lib.hid (putF_same HS.out hlt hj.out (by rw [hx]; exact he))
          have hq := bytes_beq he
          clear he hx hl
          go_wp2_with fail
          go_quiet (fail)
          go_wp2_with fail
          go_quiet (fail)
          go_wp2_with fail
          generalize hwz : ((w1.drewN md).drewN _).drewN _ = wz
          have hfz : Fr w1 wz := hwz ▸ (((Fr.refl w1).drewN _).drewN _).drewN _
          clear hwz
          have hgw : g < wz.heap.size := Nat.lt_of_lt_of_le hg hfz.size
          have q0 := (hfz.cell (p := ⟨g, _, none⟩) hg).trans q0
          have q1 := (hfz.cell (p := ⟨g, _, none⟩) hg).trans q1
          have q2 := (hfz.cell (p := ⟨g, _, none⟩) hg).trans q2
          have BD := BD.fr hfz
          have BF := BF.fr hfz
          have hoz : wz.ownsRow lo 147 3 _ xs.length (xs.flatMap FileR.cells) := owns_fr HO1.out hfz
          have htz : Two b _ w wz := htw.trans (Two.of_fr hfz)
          obtain rfl : o = 0 := by
            rcases hoz.2 with ⟨h, _⟩ | ⟨g', c', cur, h, _⟩
            · simp at h
            · simp only [Value.slice.injEq, Option.some.injEq, Addr.mk.injEq] at h; exact h.1.2.1
          simp only [Nat.zero_add] at q0 q1 q2
          have r0 := hoz.frozenAt (k * 3)
          have r1 := hoz.frozenAt (k * 3 + 1)
          have r2 := hoz.frozenAt (k * 3 + 2)
          clear FD FF HO1 HSZ
          have FD := BD.facts
          have FF := BF.facts
          have hst := ((hoz.stored (k * 3) (.string f.f0)).1.stored (k * 3 + 1) (.string f.f1)).1.stored (k * 3 + 2) (.int .i64 f.f2)
          have HST := Lib.hid hst.1
          have HGR := Lib.hid (grown_trans (grown_trans (hoz.stored (k * 3) (.string f.f0)).2 ((hoz.stored (k * 3) (.string f.f0)).1.stored (k * 3 + 1) (.string f.f1)).2) (((hoz.stored (k * 3) (.string f.f0)).1.stored (k * 3 + 1) (.string f.f1)).1.stored (k * 3 + 2) (.int .i64 f.f2)).2)
          clear hst
          have HSC := Lib.hid (set_cells xs k f hlt)
          go_wp2_with fail
          go_region
          all_goals
            go_wp2_with fail
            refine bodyPost_ret (results_none rfl _ _ _) rfl ?_
            refine ⟨⟨_, rfl⟩, ?_⟩
            rw [HPF.out, HSC.out, List.length_set]
            have hbg : b ≠ g := fun e => hne (by rw [e]; rfl)
            refine ⟨some ⟨g, 0, none⟩, cap, (box_far (box_far (box_far BD hbg _) hbg _) hbg _).drew, owns_fr HST.out ((Fr.refl _).drew), (htz.trans (Two.of_gr HGR.out)).trans (Two.of_fr ((Fr.refl _).drew))⟩
        · have HPF := Lib.hid (putF_mid HS.out hlt hj.out (by rw [hx]; exact hl) (by rw [hx]; exact he))
          have hq := bytes_bne he
          clear he hx hl
          go_wp2_with fail
          go_quiet (fail)
          go_wp2_with fail
          go_quiet (fail)
          go_wp2_with fail
          generalize hwz : ((w1.drewN md).drewN _).drewN _ = wz
          have hfz : Fr w1 wz := hwz ▸ (((Fr.refl w1).drewN _).drewN _).drewN _
          clear hwz
          have BD := BD.fr hfz
          have BF := BF.fr hfz
          have hoz : wz.ownsRow lo 147 3 _ xs.length (xs.flatMap FileR.cells) := owns_fr HO1.out hfz
          have htz : Two b _ w wz := htw.trans (Two.of_fr hfz)
          have hzz := hfz.size
          have hsz := HSZ.out
          clear FD FF HO1 HSZ
          have FD := BD.facts
          have FF := BF.facts
          have hln : (insL xs k f).length = (putF xs f).length := by rw [HPF.out]
          have HLN := Lib.hid hln
          clear hln
          have hin : k ≤ xs.length := by omega
          go_wp2_with fail
          go_region_law (go_simp; go_at_call 244; (refine (insert_all lo _ xs k f wz.heap.size _ (by exact owns_lo (owns_ab hoz (by repeat (first | (with_reducible exact Ab.refl _ _) | (with_reducible assumption) | (with_reducible refine Ab.drewN ?_ _) | (with_reducible refine Ab.drew ?_) | (with_reducible refine Ab.alloc ?_ _) | (with_reducible refine Ab.setCell ?_ (by (first | (with_reducible assumption) | omega | (simp only [World.size_alloc, World.size_setCell, World.size_drew, World.heap_drewN]; omega) | (simp; done) | (simp; omega))) _) | (with_reducible refine Ab.fr ?_ (by with_reducible assumption))))) (by (first | (with_reducible assumption) | omega | (simp only [World.size_alloc, World.size_setCell, World.size_drew, World.heap_drewN]; omega) | (simp; done) | (simp; omega)))) (by omega) hin (by first | exact Box.new _ _ _ | exact (Box.new _ _ _).drew) (fun e => by have := hoz.lt _ e.symm; omega) (by (first | (with_reducible assumption) | omega | (simp only [World.size_alloc, World.size_setCell, World.size_drew, World.heap_drewN]; omega) | (simp; done) | (simp; omega)))).mono ?_; rintro e w3 ⟨ao3, cap3, rfl, ho3, ht3, hat3⟩; have BD3 : Box w3 b _ 46 := (ht3 (b + 1)).box (by first | exact (BD.alloc _).drew | exact BD.alloc _) (by omega) hne; have FD3 := BD3.facts))
          all_goals
            go_end0
            refine ⟨⟨_, rfl⟩, ?_⟩
            rw [HPF.out]
            refine ⟨ao3, cap3, BD3.set 0 _, owns_far ho3 (p := ⟨b, 0, none⟩) (fun e => ?_) _, ?_⟩
            · rcases hat3 _ e with h | h
              · exact hne h
              · have : b < wz.heap.size := BD.lt
                simp only [World.size_alloc, World.heap_drewN, World.size_drew] at h
                omega
            · exact (htz.trans (Two.trans (Two.of_fr (by repeat (first | (with_reducible exact Fr.refl _) | (with_reducible assumption) | (with_reducible refine Fr.drewN ?_ _) | (with_reducible refine Fr.drew ?_) | (with_reducible refine Fr.alloc ?_ _) | (with_reducible refine Fr.setCell ?_ (by (first | (with_reducible assumption) | omega | (simp only [World.size_alloc, World.size_setCell, World.size_drew, World.heap_drewN]; omega) | (simp; done) | (simp; omega))) _) | (with_reducible refine Fr.trans ?_ (by with_reducible assumption))))) (ht3 b))).set 0 _
      · have hp2 : Op.bytesLess x.f0.toList f.f0.toList = true := hl
        have hj2 : Hid (∀ j, j < k + 1 → lessB (fileAt xs j).f0 f.f0 = true) := fun j h => by rcases Nat.lt_succ_iff_lt_or_eq.1 h with h | rfl; exact hj.out j h; (rw [hx]; exact hl)
        clear hl hx
        go_wp2_with fail
        go_quiet (fail)
        go_wp2_with fail
        go_roundw
        case rel => exact ⟨k + 1, _, by omega, by go_num, by first | rfl | exact World.drewN_drewN _ _ _, hj2⟩
        case measure => (simp [intOf]; omega)
    · have hke : k = xs.length := by omega
      have HPF := Lib.hid (putF_end (f := f) (by rw [← hke]; exact hj.out))
      subst hke
      go_wp2_with fail
      go_quiet (fail)
      go_wp2_with fail
      go_quiet (fail)
      go_wp2_with fail
      generalize hwz : ((w1.drewN md).drewN _).drewN _ = wz
      have hfz : Fr w1 wz := hwz ▸ (((Fr.refl w1).drewN _).drewN _).drewN _
      clear hwz
      have BD := BD.fr hfz
      have BF := BF.fr hfz
      have hoz : wz.ownsRow lo 147 3 _ xs.length (xs.flatMap FileR.cells) := owns_fr HO1.out hfz
      have htz : Two b _ w wz := htw.trans (Two.of_fr hfz)
      have hzz := hfz.size
      have hsz := HSZ.out
      clear FD FF HO1 HSZ
      have FD := BD.facts
      have FF := BF.facts
      have hln : (insL xs xs.length f).length = (putF xs f).length := by rw [HPF.out]
      have HLN := Lib.hid hln
      clear hln
      have hin : xs.length ≤ xs.length := by omega
      go_wp2_with fail
      go_region_law (go_simp; go_at_call 244; (refine (insert_all lo _ xs xs.length f wz.heap.size _ (by exact owns_lo (owns_ab hoz (by repeat (first | (with_reducible exact Ab.refl _ _) | (with_reducible assumption) | (with_reducible refine Ab.drewN ?_ _) | (with_reducible refine Ab.drew ?_) | (with_reducible refine Ab.alloc ?_ _) | (with_reducible refine Ab.setCell ?_ (by (first | (with_reducible assumption) | omega | (simp only [World.size_alloc, World.size_setCell, World.size_drew, World.heap_drewN]; omega) | (simp; done) | (simp; omega))) _) | (with_reducible refine Ab.fr ?_ (by with_reducible assumption))))) (by (first | (with_reducible assumption) | omega | (simp only [World.size_alloc, World.size_setCell, World.size_drew, World.heap_drewN]; omega) | (simp; done) | (simp; omega)))) (by omega) hin (by first | exact Box.new _ _ _ | exact (Box.new _ _ _).drew) (fun e => by have := hoz.lt _ e.symm; omega) (by (first | (with_reducible assumption) | omega | (simp only [World.size_alloc, World.size_setCell, World.size_drew, World.heap_drewN]; omega) | (simp; done) | (simp; omega)))).mono ?_; rintro e w3 ⟨ao3, cap3, rfl, ho3, ht3, hat3⟩; have BD3 : Box w3 b _ 46 := (ht3 (b + 1)).box (by first | exact (BD.alloc _).drew | exact BD.alloc _) (by omega) hne; have FD3 := BD3.facts))
      all_goals
        go_end0
        refine ⟨⟨_, rfl⟩, ?_⟩
        rw [HPF.out]
        refine ⟨ao3, cap3, BD3.set 0 _, owns_far ho3 (p := ⟨b, 0, none⟩) (fun e => ?_) _, ?_⟩
        · rcases hat3 _ e with h | h
          · exact hne h
          · have : b < wz.heap.size := BD.lt
            simp only [World.size_alloc, World.heap_drewN, World.size_drew] at h
            omega
        · exact (htz.trans (Two.trans (Two.of_fr (by repeat (first | (with_reducible exact Fr.refl _) | (with_reducible assumption) | (with_reducible refine Fr.drewN ?_ _) | (with_reducible refine Fr.drew ?_) | (with_reducible refine Fr.alloc ?_ _) | (with_reducible refine Fr.setCell ?_ (by (first | (with_reducible assumption) | omega | (simp only [World.size_alloc, World.size_setCell, World.size_drew, World.heap_drewN]; omega) | (simp; done) | (simp; omega))) _) | (with_reducible refine Fr.trans ?_ (by with_reducible assumption))))) (ht3 b))).set 0 _
end Go.Proofs.Ytjgghiniajmfjaa
