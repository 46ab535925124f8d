/- The reference's path reader: one. Conditions: bounds on what is read. -/
import Derived.Test.YtjgghiniajmfjaaSrx
namespace Go.Proofs.Ytjgghiniajmfjaa
open Go.RowKit
set_option linter.unusedVariables false
set_option linter.unusedSimpArgs false
theorem rowS1_any (W : World) (lo n : Nat) (k : Int) (hn : n = W.heap.size) (hl : lo ≤ n) : IntsO (W.alloc (.cells #[.int .i64 k] 3)) lo (.slice (some ⟨n, 0, none⟩) 1 1) [k] := by
  subst hn
  exact ⟨by simp, .inr ⟨W.heap.size, 1, #[.int .i64 k], rfl, hl, heap_alloc_new W _, by simp, by unfold maxLen; omega, by simp, by simp⟩⟩
theorem puts1_any (b lo a n : Nat) (t : ByteArray) (v0 v : Value) (us0 us : List Value) (ps : List PieceD) (op k : Int) (w w' : World) (hlo : b < lo) (hlw : lo ≤ w.heap.size) (h : Ls b lo a false t v0 us0 w (.slice none 0 0) [] v us ps w') (hr : IntsO w' lo (.slice (some ⟨n, 0, none⟩) 1 1) [k]) (hN : w.heap.size ≤ n) (hap : Apart (.slice (some ⟨n, 0, none⟩) 1 1) v) (hn : ps.length ≤ 1000) :
    Calls Try.prog 162 #[.pointer (some ⟨b, 0, none⟩), .agg #[.int .i64 op, .int .u8 0, .slice (some ⟨n, 0, none⟩) 1 1]] w' fun e w'' => e = .returned (.int .i64 (ps.length : Int)) ∧ ∃ v2 us2, Ls b lo a false t v0 us0 w (.slice none 0 0) [] v2 us2 (ps ++ [⟨op, 0, [k]⟩]) w'' := by
  have q := put_any b lo a false t v (.slice (some ⟨n, 0, none⟩) 1 1) ps us ⟨op, 0, [k]⟩ w' h.box hlo (by have := h.go.size; omega) h.prd hr hap hn
  exact q.mono fun e w'' ⟨v2, e1, e2, e3, e4, e5⟩ => ⟨e1, v2, _, h.piece (fun g e => by simp [Value.ownBlock] at e; omega) e2 e3 e4 e5⟩
theorem putStep_any (b lo a : Nat) (t : ByteArray) (v0 v : Value) (us0 us : List Value) (ps : List PieceD) (c : UInt8) (w w' : World) (hlo : b < lo) (hlw : lo ≤ w.heap.size) (h : Ls b lo a false t v0 us0 w (.slice none 0 0) [] v us ps w') (hn : ps.length ≤ 1000) :
    Calls Try.prog 162 #[.pointer (some ⟨b, 0, none⟩), .agg #[.int .i64 1, .int .u8 (c.toNat : Int), .slice none 0 0]] w' fun e w'' => e = .returned (.int .i64 (ps.length : Int)) ∧ ∃ v2 us2, Ls b lo a false t v0 us0 w (.slice none 0 0) [] v2 us2 (ps ++ [⟨1, c, []⟩]) w'' := by
  have q := put_any b lo a false t v (.slice none 0 0) ps us ⟨1, c, []⟩ w' h.box hlo (by have := h.go.size; omega) h.prd (World.ownsRow_nil _ _ _ _) (fun g e _ => by simp [Value.ownBlock] at e) hn
  exact q.mono fun e w'' ⟨v2, e1, e2, e3, e4, e5⟩ => ⟨e1, v2, _, h.piece (fun g e => by simp [Value.ownBlock] at e) e2 e3 e4 e5⟩
/-- The reader gives up. -/
theorem bad_done {b lo a a1 c : Nat} {bd : Bool} {t : ByteArray} {v v' : Value} {us us' : List Value} {ps ps' : List PieceD} {w wq : World} {R : Option (Int × Nat × List PieceD)} (k : Int) (hlo : b < lo) (h : Ls b lo a1 bd t v us w (.slice none 0 0) [] v' us' ps' wq) (h1 : a ≤ a1) (h2 : a1 ≤ t.size) (h3 : ps'.length + 2 * a ≤ ps.length + 2 * a1 + c) (hR : R = none) :
    SPost b lo a c t v us ps w R (.returned (.int .i64 k)) (wq.setCell ⟨b, 2, none⟩ (.bool true)) :=
  ⟨k, a1, ps', true, rfl, (Ls.at_ (a1 := a1) (bd1 := true) h hlo (h.box.set_to (by simp))).none_done, h1, h2, h3, .inr ⟨rfl, hR⟩⟩
theorem good_done {b lo a a1 c : Nat} {t : ByteArray} {v v' : Value} {us us' : List Value} {ps ps' : List PieceD} {w wq : World} {R : Option (Int × Nat × List PieceD)} (k : Int) (h : Ls b lo a1 false t v us w (.slice none 0 0) [] v' us' ps' wq) (h1 : a ≤ a1) (h2 : a1 ≤ t.size) (h3 : ps'.length + 2 * a ≤ ps.length + 2 * a1 + c) (hR : R = some (k, a1, ps')) :
    SPost b lo a c t v us ps w R (.returned (.int .i64 k)) wq :=
  ⟨k, a1, ps', false, rfl, h.none_done, h1, h2, h3, .inl ⟨rfl, hR⟩⟩
theorem srs_item (t : ByteArray) (f a : Nat) (ps : List PieceD) : srs t (f + 1) .item a ps = if nx t a = 40 then (match srs t f (.expr []) (a + 1) ps with | none => none | some (k, a1, ps1) => if nx t a1 = 41 then srs t f (.post k) (a1 + 1) ps1 else none) else srs t f (.post (ps.length : Int)) (a + 1) (ps ++ [⟨1, UInt8.ofNat (nx t a), []⟩]) := by
  rw [srs]
  split
  · cases srs t f (.expr []) (a + 1) ps with
    | none => rfl
    | some r => rfl
  · rfl
theorem srs_post (t : ByteArray) (f a : Nat) (k : Int) (ps : List PieceD) : srs t (f + 1) (.post k) a ps = if nx t a = 42 then srs t f (.post (ps.length : Int)) (a + 1) (ps ++ [⟨4, 0, [k]⟩]) else if nx t a = 43 then srs t f (.post (ps.length : Int)) (a + 1) (ps ++ [⟨5, 0, [k]⟩]) else if nx t a = 63 then srs t f (.post (ps.length : Int)) (a + 1) (ps ++ [⟨6, 0, [k]⟩]) else some (k, a, ps) := by
  rw [srs]
theorem post_sign {t : ByteArray} {f a s : Nat} {k op : Int} {ps : List PieceD} (h : nx t a = s) (hs : (s = 42 ∧ op = 4) ∨ (s = 43 ∧ op = 5) ∨ (s = 63 ∧ op = 6)) : srs t (f + 1) (.post k) a ps = srs t f (.post (ps.length : Int)) (a + 1) (ps ++ [⟨op, 0, [k]⟩]) := by
  rw [srs_post, h]
  rcases hs with ⟨rfl, rfl⟩ | ⟨rfl, rfl⟩ | ⟨rfl, rfl⟩
  · rw [if_pos rfl]
  · rw [if_neg (by decide), if_pos rfl]
  · rw [if_neg (by decide), if_neg (by decide), if_pos rfl]
theorem post_end {t : ByteArray} {f a : Nat} {k : Int} {ps : List PieceD} (h1 : nx t a ≠ 42) (h2 : nx t a ≠ 43) (h3 : nx t a ≠ 63) : srs t (f + 1) (.post k) a ps = some (k, a, ps) := by
  rw [srs_post, if_neg h1, if_neg h2, if_neg h3]
set_option maxHeartbeats 16000000 in
set_option maxRecDepth 100000 in
theorem one_any (t : ByteArray) (ht : t.size ≤ 100) (F : Nat) (IH : ∀ f, f < F → AltsC t f) : OneC t F := by
  intro b lo a v us ps w hb hlo hlw hp ha hf hn
  obtain ⟨i0, hi, hz0, hz1, hz2⟩ := info_parts info_int
  obtain ⟨R, hR⟩ : ∃ R, one1 t F a ps = R := ⟨_, rfl⟩
  rw [hR]
  unfold one1 at hR
  have L0 := Lib.hid (Ls.start hb hp)
  have F0 := hb.facts
  have hH := hb
  by_cases hlt : a < t.size
  · obtain ⟨g, rfl⟩ : ∃ g, F = g + 1 := ⟨F - 1, by omega⟩
    have hw : IntKind.i64.wrap ((a : Int) + 1) = ((a + 1 : Nat) : Int) := by rw [show (a : Int) + 1 = ((a + 1 : Nat) : Int) by omega]; exact IntWalk.i64_in _ (by omega)
    have L1 : Hid (∀ wq, Fr w wq → Ls b lo (a + 1) false t v us w (.slice none 0 0) [] v us ps (wq.setCell ⟨b, 1, none⟩ (.int .i64 ((a : Int) + 1)))) := Lib.hid fun wq hq => Ls.at_ (a1 := a + 1) (L0.out.fr hq) hlo ((L0.out.fr hq).box.set_to (by simp))
    have hnx := nx_get hlt
    have HNX := Lib.hid hnx
    clear hb hp hH hnx
    by_cases hl : 97 ≤ nx t a ∧ nx t a ≤ 100
    · have hR2 : srs t g (.post (ps.length : Int)) (a + 1) (ps ++ [⟨1, t[a], []⟩]) = R := by
        rw [if_pos (.inl (by unfold isLab; rw [decide_eq_true_eq]; exact hl)), srs_item, if_neg (by omega)] at hR
        rw [← hR, HNX.out]
        simp
      have HR := Lib.hid hR2
      have q1 : decide (97 ≤ ((t[a]'hlt).toNat : Int)) = true := decide_eq_true (by rw [← HNX.out]; omega)
      have q2 : decide (((t[a]'hlt).toNat : Int) ≤ 100) = true := decide_eq_true (by rw [← HNX.out]; omega)
      clear hR hR2 hl HNX IH
      go_enter Try.func204, Try.ntmps204
      go_wp2_with fail
      go_quiet (fail)
      go_wp2_with fail
      go_quiet (fail)
      go_wp2_with fail
      refine (putStep_any b lo (a + 1) t v v us us ps (t[a]) w _ hlo hlw (L1.out _ (by repeat (first | (with_reducible exact Fr.refl _) | (with_reducible assumption) | (with_reducible refine Fr.drewN ?_ _) | (with_reducible refine Fr.drew ?_) | (with_reducible refine Fr.alloc ?_ _) | (with_reducible refine Fr.setCell ?_ (by (first | (with_reducible assumption) | omega | (simp only [World.size_alloc, World.size_setCell, World.size_drew, World.heap_drewN]; omega) | (simp; done) | (simp; omega))) _) | (with_reducible refine Fr.trans ?_ (by with_reducible assumption))))) (by omega)).mono ?_
      rintro e w2 ⟨rfl, v2, us2, l3⟩
      have L3 := Lib.hid l3
      clear l3
      go_wp2_with fail
      go_loopw [4, 5, 119, 121, 123] (fun z _ _ _ _ wr => ∃ (k : Int) (a' f' : Nat) (v' : Value) (us' : List Value) (ps' : List PieceD), z = .int .i64 k ∧ Hid (Ls b lo a' false t v us w (.slice none 0 0) [] v' us' ps' wr) ∧ Hid (srs t f' (.post k) a' ps' = R) ∧ a ≤ a' ∧ a' ≤ t.size ∧ t.size - a' + 1 ≤ f' ∧ ps'.length + 2 * a ≤ ps.length + 2 * a') (fun _ _ _ _ _ wr => t.size + 1 - (intOf ((wr.cell? ⟨b, 1, none⟩).getD (.int .i64 0))).toNat)
      case atStart => exact ⟨_, a + 1, g, v2, us2, _, rfl, L3, HR, by omega, by omega, by omega, by simp; omega⟩
      case round =>
        clear L3 HR L1 L0 F0
        obtain ⟨k, a', f', v', us', ps', rfl, L3, H1, ha0, ha1, hf2, hn1⟩ := hrel
        obtain ⟨g', rfl⟩ : ∃ g', f' = g' + 1 := ⟨f' - 1, by omega⟩
        have hsz := L3.out.go.size
        have BX := L3.out.box
        have F3 := BX.facts
        have L5 : Hid (∀ wq o, Fr wr wq → Ls b lo (a' + 1) false t v us w (.slice none 0 0) [] v' us' ps' ((wq.setCell ⟨b, 1, none⟩ (.int .i64 ((a' : Int) + 1))).alloc o)) := Lib.hid fun wq o hq => (Ls.at_ (a1 := a' + 1) (L3.out.fr hq) hlo ((L3.out.fr hq).box.set_to (by simp))).fr ((Fr.refl _).alloc _)
        clear BX
        by_cases hlt : a' < t.size
        · have hnx := nx_get hlt
          have HNX := Lib.hid hnx
          clear hnx
          by_cases h42 : nx t a' = 42
          · have hb1 : (t[a']'hlt).toNat = 42 := by rw [← HNX.out]; exact h42
            have H3 : Hid (srs t g' (.post (ps'.length : Int)) (a' + 1) (ps' ++ [⟨4, 0, [k]⟩]) = R) := Lib.hid (by rw [← H1.out]; exact (post_sign h42 (by decide)).symm)
            have hw2 : IntKind.i64.wrap ((a' : Int) + 1) = ((a' + 1 : Nat) : Int) := by rw [show (a' : Int) + 1 = ((a' + 1 : Nat) : Int) by omega]; exact IntWalk.i64_in _ (by omega)
            clear h42 HNX H1
            go_wp2_with fail
            go_quiet (fail)
            go_wp2_with fail
            go_quiet (fail)
            go_wp2_with fail
            refine (puts1_any b lo (a' + 1) wr.heap.size t v v' us us' ps' 4 k w _ hlo hlw (L5.out _ _ (by repeat (first | (with_reducible exact Fr.refl _) | (with_reducible assumption) | (with_reducible refine Fr.drewN ?_ _) | (with_reducible refine Fr.drew ?_) | (with_reducible refine Fr.alloc ?_ _) | (with_reducible refine Fr.setCell ?_ (by (first | (with_reducible assumption) | omega | (simp only [World.size_alloc, World.size_setCell, World.size_drew, World.heap_drewN]; omega) | (simp; done) | (simp; omega))) _) | (with_reducible refine Fr.trans ?_ (by with_reducible assumption))))) (rowS1_any _ lo _ k (by simp) (by omega)) (by omega) (fun g e1 e2 => by have := (World.ownsRow.lt L3.out.prd.own g e2).2; simp [Value.ownBlock] at e1; omega) (by omega)).mono ?_
            rintro e w6 ⟨rfl, v6, us6, l6⟩
            have L6 := Lib.hid l6
            have F6 := l6.box.facts
            clear l6
            go_wp2_with fail
            go_roundw
            case rel => exact ⟨_, a' + 1, g', v6, us6, _, rfl, L6, H3, by omega, by omega, by omega, by simp; omega⟩
            case measure =>
              simp [intOf, *]
              omega
          · by_cases h43 : nx t a' = 43
            · have hb1 : (t[a']'hlt).toNat = 43 := by rw [← HNX.out]; exact h43
              have H3 : Hid (srs t g' (.post (ps'.length : Int)) (a' + 1) (ps' ++ [⟨5, 0, [k]⟩]) = R) := Lib.hid (by rw [← H1.out]; exact (post_sign h43 (by decide)).symm)
              have hw2 : IntKind.i64.wrap ((a' : Int) + 1) = ((a' + 1 : Nat) : Int) := by rw [show (a' : Int) + 1 = ((a' + 1 : Nat) : Int) by omega]; exact IntWalk.i64_in _ (by omega)
              clear h42 h43 HNX H1
              go_wp2_with fail
              go_quiet (fail)
              go_wp2_with fail
              go_quiet (fail)
              go_wp2_with fail
              refine (puts1_any b lo (a' + 1) wr.heap.size t v v' us us' ps' 5 k w _ hlo hlw (L5.out _ _ (by repeat (first | (with_reducible exact Fr.refl _) | (with_reducible assumption) | (with_reducible refine Fr.drewN ?_ _) | (with_reducible refine Fr.drew ?_) | (with_reducible refine Fr.alloc ?_ _) | (with_reducible refine Fr.setCell ?_ (by (first | (with_reducible assumption) | omega | (simp only [World.size_alloc, World.size_setCell, World.size_drew, World.heap_drewN]; omega) | (simp; done) | (simp; omega))) _) | (with_reducible refine Fr.trans ?_ (by with_reducible assumption))))) (rowS1_any _ lo _ k (by simp) (by omega)) (by omega) (fun g e1 e2 => by have := (World.ownsRow.lt L3.out.prd.own g e2).2; simp [Value.ownBlock] at e1; omega) (by omega)).mono ?_
              rintro e w6 ⟨rfl, v6, us6, l6⟩
              have L6 := Lib.hid l6
              have F6 := l6.box.facts
              clear l6
              go_wp2_with fail
              go_roundw
              case rel => exact ⟨_, a' + 1, g', v6, us6, _, rfl, L6, H3, by omega, by omega, by omega, by simp; omega⟩
              case measure =>
                simp [intOf, *]
                omega
            · by_cases h63 : nx t a' = 63
              · have hb1 : (t[a']'hlt).toNat = 63 := by rw [← HNX.out]; exact h63
                have H3 : Hid (srs t g' (.post (ps'.length : Int)) (a' + 1) (ps' ++ [⟨6, 0, [k]⟩]) = R) := Lib.hid (by rw [← H1.out]; exact (post_sign h63 (by decide)).symm)
                have hw2 : IntKind.i64.wrap ((a' : Int) + 1) = ((a' + 1 : Nat) : Int) := by rw [show (a' : Int) + 1 = ((a' + 1 : Nat) : Int) by omega]; exact IntWalk.i64_in _ (by omega)
                clear h42 h43 h63 HNX H1
                go_wp2_with fail
                go_quiet (fail)
                go_wp2_with fail
                go_quiet (fail)
                go_wp2_with fail
                refine (puts1_any b lo (a' + 1) wr.heap.size t v v' us us' ps' 6 k w _ hlo hlw (L5.out _ _ (by repeat (first | (with_reducible exact Fr.refl _) | (with_reducible assumption) | (with_reducible refine Fr.drewN ?_ _) | (with_reducible refine Fr.drew ?_) | (with_reducible refine Fr.alloc ?_ _) | (with_reducible refine Fr.setCell ?_ (by (first | (with_reducible assumption) | omega | (simp only [World.size_alloc, World.size_setCell, World.size_drew, World.heap_drewN]; omega) | (simp; done) | (simp; omega))) _) | (with_reducible refine Fr.trans ?_ (by with_reducible assumption))))) (rowS1_any _ lo _ k (by simp) (by omega)) (by omega) (fun g e1 e2 => by have := (World.ownsRow.lt L3.out.prd.own g e2).2; simp [Value.ownBlock] at e1; omega) (by omega)).mono ?_
                rintro e w6 ⟨rfl, v6, us6, l6⟩
                have L6 := Lib.hid l6
                have F6 := l6.box.facts
                clear l6
                go_wp2_with fail
                go_roundw
                case rel => exact ⟨_, a' + 1, g', v6, us6, _, rfl, L6, H3, by omega, by omega, by omega, by simp; omega⟩
                case measure =>
                  simp [intOf, *]
                  omega
              · have q1 : (((t[a']'hlt).toNat : Int) == 42) = false := by rw [beq_eq_false_iff_ne, ← HNX.out]; omega
                have q2 : (((t[a']'hlt).toNat : Int) == 43) = false := by rw [beq_eq_false_iff_ne, ← HNX.out]; omega
                have q3 : (((t[a']'hlt).toNat : Int) == 63) = false := by rw [beq_eq_false_iff_ne, ← HNX.out]; omega
                have HE : Hid (R = some (k, a', ps')) := Lib.hid (by rw [← H1.out]; exact post_end h42 h43 h63)
                clear h42 h43 h63 HNX H1 L5
                go_wp2_with fail
                go_quiet (fail)
                go_wp2_with fail
                go_quiet (fail)
                go_wp2_with fail
                go_ret
                exact good_done k (L3.out.fr (by repeat (first | (with_reducible exact Fr.refl _) | (with_reducible assumption) | (with_reducible refine Fr.drewN ?_ _) | (with_reducible refine Fr.drew ?_) | (with_reducible refine Fr.alloc ?_ _) | (with_reducible refine Fr.setCell ?_ (by (first | (with_reducible assumption) | omega | (simp only [World.size_alloc, World.size_setCell, World.size_drew, World.heap_drewN]; omega) | (simp; done) | (simp; omega))) _) | (with_reducible refine Fr.trans ?_ (by with_reducible assumption))))) ha0 ha1 (by omega) HE.out
        · have HE : Hid (R = some (k, a', ps')) := Lib.hid (by
            have e0 := nx_end (t := t) (a := a') (by omega)
            rw [← H1.out]
            exact post_end (by omega) (by omega) (by omega))
          clear H1 L5
          go_wp2_with fail
          go_quiet (fail)
          go_wp2_with fail
          go_ret
          exact good_done k (L3.out.fr (by repeat (first | (with_reducible exact Fr.refl _) | (with_reducible assumption) | (with_reducible refine Fr.drewN ?_ _) | (with_reducible refine Fr.drew ?_) | (with_reducible refine Fr.alloc ?_ _) | (with_reducible refine Fr.setCell ?_ (by (first | (with_reducible assumption) | omega | (simp only [World.size_alloc, World.size_setCell, World.size_drew, World.heap_drewN]; omega) | (simp; done) | (simp; omega))) _) | (with_reducible refine Fr.trans ?_ (by with_reducible assumption))))) ha0 ha1 (by omega) HE.out
    · have q12 : ((decide (97 ≤ ((t[a]'hlt).toNat : Int))) && (decide (((t[a]'hlt).toNat : Int) ≤ 100))) = false := by
        rw [← HNX.out, Bool.and_eq_false_iff, decide_eq_false_iff_not, decide_eq_false_iff_not]
        omega
      have q12' : decide (97 ≤ ((t[a]'hlt).toNat : Int)) = false ∨ (decide (97 ≤ ((t[a]'hlt).toNat : Int)) = true ∧ decide (((t[a]'hlt).toNat : Int) ≤ 100) = false) := by
        cases h1 : decide (97 ≤ ((t[a]'hlt).toNat : Int))
        · exact .inl rfl
        · rw [h1, Bool.true_and] at q12
          exact .inr ⟨rfl, q12⟩
      clear q12
      by_cases h40 : nx t a = 40
      · have hb0 : (t[a]'hlt).toNat = 40 := by rw [← HNX.out]; exact h40
        have hR2 : (match srs t g (.expr []) (a + 1) ps with | none => none | some (k, a1, ps1) => if nx t a1 = 41 then srs t g (.post k) (a1 + 1) ps1 else none) = R := by
          rw [if_pos (.inr h40), srs_item, if_pos h40] at hR
          exact hR
        have CA := IH g (by omega) b lo (a + 1) v us ps
        obtain ⟨RA, hRA⟩ : ∃ RA, srs t g (.expr []) (a + 1) ps = RA := ⟨_, rfl⟩
        rw [hRA] at hR2 CA
        have HR := Lib.hid hR2
        have CT : Hid (∀ w', Ls b lo (a + 1) false t v us w (.slice none 0 0) [] v us ps w' → Calls Try.prog 85 #[.pointer (some ⟨b, 0, none⟩)] w' fun e w'' => ∃ (k1 : Int) (a1 : Nat) (ps1 : List PieceD) (bd1 : Bool) (v1 : Value) (us1 : List Value), e = .returned (.int .i64 k1) ∧ Ls b lo a1 bd1 t v us w (.slice none 0 0) [] v1 us1 ps1 w'' ∧ a + 1 ≤ a1 ∧ a1 ≤ t.size ∧ ps1.length + 2 * a ≤ ps.length + 2 * a1 ∧ ((bd1 = false ∧ RA = some (k1, a1, ps1)) ∨ (bd1 = true ∧ RA = none))) := Lib.hid fun w' h => (CA w' h.box hlo (by have := h.go.size; omega) h.prd (by omega) (by omega) (by omega)).mono fun e w'' ⟨k1, a1, ps1, bd1, e1, hst, hb1, hb2, hb3, hres⟩ => by
          obtain ⟨v1, us1, l1⟩ := h.call hlo hst
          exact ⟨k1, a1, ps1, bd1, v1, us1, e1, l1, hb1, hb2, by omega, hres⟩
        clear hR hR2 h40 HNX IH CA hRA q12'
        go_enter Try.func204, Try.ntmps204
        go_wp2_with fail
        go_quiet (fail)
        go_wp2_with fail
        go_quiet (fail)
        go_wp2_with fail
        refine (CT.out _ (L1.out _ (by repeat (first | (with_reducible exact Fr.refl _) | (with_reducible assumption) | (with_reducible refine Fr.drewN ?_ _) | (with_reducible refine Fr.drew ?_) | (with_reducible refine Fr.alloc ?_ _) | (with_reducible refine Fr.setCell ?_ (by (first | (with_reducible assumption) | omega | (simp only [World.size_alloc, World.size_setCell, World.size_drew, World.heap_drewN]; omega) | (simp; done) | (simp; omega))) _) | (with_reducible refine Fr.trans ?_ (by with_reducible assumption)))))).mono ?_
        rintro e w2 ⟨k1, a1, ps1, bd1, v1, us1, rfl, l3, hc1, hc2, hc3, hc4⟩
        have L3 := Lib.hid l3
        have B3 := l3.box
        have F3 := B3.facts
        clear l3 B3 CT
        rcases hc4 with ⟨rfl, hc4⟩ | ⟨rfl, hc4⟩
        · subst hc4
          have HR2 : Hid ((if nx t a1 = 41 then srs t g (.post k1) (a1 + 1) ps1 else none) = R) := HR
          clear HR
          by_cases hlt2 : a1 < t.size
          · have hnx := nx_get hlt2
            have HNX := Lib.hid hnx
            clear hnx
            by_cases h41 : nx t a1 = 41
            · have hb1 : (t[a1]'hlt2).toNat = 41 := by rw [← HNX.out]; exact h41
              have HR : Hid (srs t g (.post k1) (a1 + 1) ps1 = R) := Lib.hid (by rw [← HR2.out, if_pos h41])
              have hw3 : IntKind.i64.wrap ((a1 : Int) + 1) = ((a1 + 1 : Nat) : Int) := by rw [show (a1 : Int) + 1 = ((a1 + 1 : Nat) : Int) by omega]; exact IntWalk.i64_in _ (by omega)
              have L4 : Hid (∀ wq, Fr w2 wq → Ls b lo (a1 + 1) false t v us w (.slice none 0 0) [] v1 us1 ps1 (wq.setCell ⟨b, 1, none⟩ (.int .i64 ((a1 : Int) + 1)))) := Lib.hid fun wq hq => Ls.at_ (a1 := a1 + 1) (L3.out.fr hq) hlo ((L3.out.fr hq).box.set_to (by simp))
              have hdec : decide (t.size ≤ a1) = false := decide_eq_false (by omega)
              clear HR2 h41 HNX
              go_wp2_with fail
              go_quiet (fail)
              go_wp2_with fail
              try simp only [hdec]
              go_loopw [4, 5, 119, 121, 123] (fun z _ _ _ _ wr => ∃ (k : Int) (a' f' : Nat) (v' : Value) (us' : List Value) (ps' : List PieceD), z = .int .i64 k ∧ Hid (Ls b lo a' false t v us w (.slice none 0 0) [] v' us' ps' wr) ∧ Hid (srs t f' (.post k) a' ps' = R) ∧ a ≤ a' ∧ a' ≤ t.size ∧ t.size - a' + 1 ≤ f' ∧ ps'.length + 2 * a ≤ ps.length + 2 * a') (fun _ _ _ _ _ wr => t.size + 1 - (intOf ((wr.cell? ⟨b, 1, none⟩).getD (.int .i64 0))).toNat)
              case atStart => exact ⟨_, a1 + 1, g, v1, us1, _, rfl, Lib.hid (L4.out _ (by repeat (first | (with_reducible exact Fr.refl _) | (with_reducible assumption) | (with_reducible refine Fr.drewN ?_ _) | (with_reducible refine Fr.drew ?_) | (with_reducible refine Fr.alloc ?_ _) | (with_reducible refine Fr.setCell ?_ (by (first | (with_reducible assumption) | omega | (simp only [World.size_alloc, World.size_setCell, World.size_drew, World.heap_drewN]; omega) | (simp; done) | (simp; omega))) _) | (with_reducible refine Fr.trans ?_ (by with_reducible assumption))))), HR, by omega, by omega, by omega, by omega⟩
              case round =>
                clear L3 HR L4 L1 L0 F0 F3
                obtain ⟨k, a', f', v', us', ps', rfl, L3, H1, ha0, ha1, hf2, hn1⟩ := hrel
                obtain ⟨g', rfl⟩ : ∃ g', f' = g' + 1 := ⟨f' - 1, by omega⟩
                have hsz := L3.out.go.size
                have BX := L3.out.box
                have F3 := BX.facts
                have L5 : Hid (∀ wq o, Fr wr wq → Ls b lo (a' + 1) false t v us w (.slice none 0 0) [] v' us' ps' ((wq.setCell ⟨b, 1, none⟩ (.int .i64 ((a' : Int) + 1))).alloc o)) := Lib.hid fun wq o hq => (Ls.at_ (a1 := a' + 1) (L3.out.fr hq) hlo ((L3.out.fr hq).box.set_to (by simp))).fr ((Fr.refl _).alloc _)
                clear BX
                by_cases hlt : a' < t.size
                · have hnx := nx_get hlt
                  have HNX := Lib.hid hnx
                  clear hnx
                  by_cases h42 : nx t a' = 42
                  · have hb1 : (t[a']'hlt).toNat = 42 := by rw [← HNX.out]; exact h42
                    have H3 : Hid (srs t g' (.post (ps'.length : Int)) (a' + 1) (ps' ++ [⟨4, 0, [k]⟩]) = R) := Lib.hid (by rw [← H1.out]; exact (post_sign h42 (by decide)).symm)
                    have hw2 : IntKind.i64.wrap ((a' : Int) + 1) = ((a' + 1 : Nat) : Int) := by rw [show (a' : Int) + 1 = ((a' + 1 : Nat) : Int) by omega]; exact IntWalk.i64_in _ (by omega)
                    clear h42 HNX H1
                    go_wp2_with fail
                    go_quiet (fail)
                    go_wp2_with fail
                    go_quiet (fail)
                    go_wp2_with fail
                    refine (puts1_any b lo (a' + 1) wr.heap.size t v v' us us' ps' 4 k w _ hlo hlw (L5.out _ _ (by repeat (first | (with_reducible exact Fr.refl _) | (with_reducible assumption) | (with_reducible refine Fr.drewN ?_ _) | (with_reducible refine Fr.drew ?_) | (with_reducible refine Fr.alloc ?_ _) | (with_reducible refine Fr.setCell ?_ (by (first | (with_reducible assumption) | omega | (simp only [World.size_alloc, World.size_setCell, World.size_drew, World.heap_drewN]; omega) | (simp; done) | (simp; omega))) _) | (with_reducible refine Fr.trans ?_ (by with_reducible assumption))))) (rowS1_any _ lo _ k (by simp) (by omega)) (by omega) (fun g e1 e2 => by have := (World.ownsRow.lt L3.out.prd.own g e2).2; simp [Value.ownBlock] at e1; omega) (by omega)).mono ?_
                    rintro e w6 ⟨rfl, v6, us6, l6⟩
                    have L6 := Lib.hid l6
                    have F6 := l6.box.facts
                    clear l6
                    go_wp2_with fail
                    go_roundw
                    case rel => exact ⟨_, a' + 1, g', v6, us6, _, rfl, L6, H3, by omega, by omega, by omega, by simp; omega⟩
                    case measure =>
                      simp [intOf, *]
                      omega
                  · by_cases h43 : nx t a' = 43
                    · have hb1 : (t[a']'hlt).toNat = 43 := by rw [← HNX.out]; exact h43
                      have H3 : Hid (srs t g' (.post (ps'.length : Int)) (a' + 1) (ps' ++ [⟨5, 0, [k]⟩]) = R) := Lib.hid (by rw [← H1.out]; exact (post_sign h43 (by decide)).symm)
                      have hw2 : IntKind.i64.wrap ((a' : Int) + 1) = ((a' + 1 : Nat) : Int) := by rw [show (a' : Int) + 1 = ((a' + 1 : Nat) : Int) by omega]; exact IntWalk.i64_in _ (by omega)
                      clear h42 h43 HNX H1
                      go_wp2_with fail
                      go_quiet (fail)
                      go_wp2_with fail
                      go_quiet (fail)
                      go_wp2_with fail
                      refine (puts1_any b lo (a' + 1) wr.heap.size t v v' us us' ps' 5 k w _ hlo hlw (L5.out _ _ (by repeat (first | (with_reducible exact Fr.refl _) | (with_reducible assumption) | (with_reducible refine Fr.drewN ?_ _) | (with_reducible refine Fr.drew ?_) | (with_reducible refine Fr.alloc ?_ _) | (with_reducible refine Fr.setCell ?_ (by (first | (with_reducible assumption) | omega | (simp only [World.size_alloc, World.size_setCell, World.size_drew, World.heap_drewN]; omega) | (simp; done) | (simp; omega))) _) | (with_reducible refine Fr.trans ?_ (by with_reducible assumption))))) (rowS1_any _ lo _ k (by simp) (by omega)) (by omega) (fun g e1 e2 => by have := (World.ownsRow.lt L3.out.prd.own g e2).2; simp [Value.ownBlock] at e1; omega) (by omega)).mono ?_
                      rintro e w6 ⟨rfl, v6, us6, l6⟩
                      have L6 := Lib.hid l6
                      have F6 := l6.box.facts
                      clear l6
                      go_wp2_with fail
                      go_roundw
                      case rel => exact ⟨_, a' + 1, g', v6, us6, _, rfl, L6, H3, by omega, by omega, by omega, by simp; omega⟩
                      case measure =>
                        simp [intOf, *]
                        omega
                    · by_cases h63 : nx t a' = 63
                      · have hb1 : (t[a']'hlt).toNat = 63 := by rw [← HNX.out]; exact h63
                        have H3 : Hid (srs t g' (.post (ps'.length : Int)) (a' + 1) (ps' ++ [⟨6, 0, [k]⟩]) = R) := Lib.hid (by rw [← H1.out]; exact (post_sign h63 (by decide)).symm)
                        have hw2 : IntKind.i64.wrap ((a' : Int) + 1) = ((a' + 1 : Nat) : Int) := by rw [show (a' : Int) + 1 = ((a' + 1 : Nat) : Int) by omega]; exact IntWalk.i64_in _ (by omega)
                        clear h42 h43 h63 HNX H1
                        go_wp2_with fail
                        go_quiet (fail)
                        go_wp2_with fail
                        go_quiet (fail)
                        go_wp2_with fail
                        refine (puts1_any b lo (a' + 1) wr.heap.size t v v' us us' ps' 6 k w _ hlo hlw (L5.out _ _ (by repeat (first | (with_reducible exact Fr.refl _) | (with_reducible assumption) | (with_reducible refine Fr.drewN ?_ _) | (with_reducible refine Fr.drew ?_) | (with_reducible refine Fr.alloc ?_ _) | (with_reducible refine Fr.setCell ?_ (by (first | (with_reducible assumption) | omega | (simp only [World.size_alloc, World.size_setCell, World.size_drew, World.heap_drewN]; omega) | (simp; done) | (simp; omega))) _) | (with_reducible refine Fr.trans ?_ (by with_reducible assumption))))) (rowS1_any _ lo _ k (by simp) (by omega)) (by omega) (fun g e1 e2 => by have := (World.ownsRow.lt L3.out.prd.own g e2).2; simp [Value.ownBlock] at e1; omega) (by omega)).mono ?_
                        rintro e w6 ⟨rfl, v6, us6, l6⟩
                        have L6 := Lib.hid l6
                        have F6 := l6.box.facts
                        clear l6
                        go_wp2_with fail
                        go_roundw
                        case rel => exact ⟨_, a' + 1, g', v6, us6, _, rfl, L6, H3, by omega, by omega, by omega, by simp; omega⟩
                        case measure =>
                          simp [intOf, *]
                          omega
                      · have q1 : (((t[a']'hlt).toNat : Int) == 42) = false := by rw [beq_eq_false_iff_ne, ← HNX.out]; omega
                        have q2 : (((t[a']'hlt).toNat : Int) == 43) = false := by rw [beq_eq_false_iff_ne, ← HNX.out]; omega
                        have q3 : (((t[a']'hlt).toNat : Int) == 63) = false := by rw [beq_eq_false_iff_ne, ← HNX.out]; omega
                        have HE : Hid (R = some (k, a', ps')) := Lib.hid (by rw [← H1.out]; exact post_end h42 h43 h63)
                        clear h42 h43 h63 HNX H1 L5
                        go_wp2_with fail
                        go_quiet (fail)
                        go_wp2_with fail
                        go_quiet (fail)
                        go_wp2_with fail
                        go_ret
                        exact good_done k (L3.out.fr (by repeat (first | (with_reducible exact Fr.refl _) | (with_reducible assumption) | (with_reducible refine Fr.drewN ?_ _) | (with_reducible refine Fr.drew ?_) | (with_reducible refine Fr.alloc ?_ _) | (with_reducible refine Fr.setCell ?_ (by (first | (with_reducible assumption) | omega | (simp only [World.size_alloc, World.size_setCell, World.size_drew, World.heap_drewN]; omega) | (simp; done) | (simp; omega))) _) | (with_reducible refine Fr.trans ?_ (by with_reducible assumption))))) ha0 ha1 (by omega) HE.out
                · have HE : Hid (R = some (k, a', ps')) := Lib.hid (by
                    have e0 := nx_end (t := t) (a := a') (by omega)
                    rw [← H1.out]
                    exact post_end (by omega) (by omega) (by omega))
                  clear H1 L5
                  go_wp2_with fail
                  go_quiet (fail)
                  go_wp2_with fail
                  go_ret
                  exact good_done k (L3.out.fr (by repeat (first | (with_reducible exact Fr.refl _) | (with_reducible assumption) | (with_reducible refine Fr.drewN ?_ _) | (with_reducible refine Fr.drew ?_) | (with_reducible refine Fr.alloc ?_ _) | (with_reducible refine Fr.setCell ?_ (by (first | (with_reducible assumption) | omega | (simp only [World.size_alloc, World.size_setCell, World.size_drew, World.heap_drewN]; omega) | (simp; done) | (simp; omega))) _) | (with_reducible refine Fr.trans ?_ (by with_reducible assumption))))) ha0 ha1 (by omega) HE.out
            · have q5 : (((t[a1]'hlt2).toNat : Int) != 41) = true := by rw [bne_iff_ne, ← HNX.out]; omega
              have HR : Hid (R = none) := Lib.hid (by rw [← HR2.out, if_neg h41])
              clear HR2 h41 HNX
              go_wp2_with fail
              go_quiet (fail)
              go_wp2_with fail
              go_ret
              exact bad_done 0 hlo (L3.out.fr (by repeat (first | (with_reducible exact Fr.refl _) | (with_reducible assumption) | (with_reducible refine Fr.drewN ?_ _) | (with_reducible refine Fr.drew ?_) | (with_reducible refine Fr.alloc ?_ _) | (with_reducible refine Fr.setCell ?_ (by (first | (with_reducible assumption) | omega | (simp only [World.size_alloc, World.size_setCell, World.size_drew, World.heap_drewN]; omega) | (simp; done) | (simp; omega))) _) | (with_reducible refine Fr.trans ?_ (by with_reducible assumption))))) (by omega) hc2 (by omega) HR.out
          · have HR : Hid (R = none) := Lib.hid (by rw [← HR2.out, if_neg (by rw [nx_end (by omega)]; omega)])
            clear HR2
            go_wp2_with fail
            go_quiet (fail)
            go_wp2_with fail
            go_ret
            exact bad_done 0 hlo (L3.out.fr (by repeat (first | (with_reducible exact Fr.refl _) | (with_reducible assumption) | (with_reducible refine Fr.drewN ?_ _) | (with_reducible refine Fr.drew ?_) | (with_reducible refine Fr.alloc ?_ _) | (with_reducible refine Fr.setCell ?_ (by (first | (with_reducible assumption) | omega | (simp only [World.size_alloc, World.size_setCell, World.size_drew, World.heap_drewN]; omega) | (simp; done) | (simp; omega))) _) | (with_reducible refine Fr.trans ?_ (by with_reducible assumption))))) (by omega) hc2 (by omega) HR.out
        · subst hc4
          have HR2 : Hid (R = none) := Lib.hid HR.out.symm
          clear HR
          go_wp2_with fail
          go_quiet (fail)
          go_wp2_with fail
          go_ret
          exact bad_done 0 hlo (L3.out.fr (by repeat (first | (with_reducible exact Fr.refl _) | (with_reducible assumption) | (with_reducible refine Fr.drewN ?_ _) | (with_reducible refine Fr.drew ?_) | (with_reducible refine Fr.alloc ?_ _) | (with_reducible refine Fr.setCell ?_ (by (first | (with_reducible assumption) | omega | (simp only [World.size_alloc, World.size_setCell, World.size_drew, World.heap_drewN]; omega) | (simp; done) | (simp; omega))) _) | (with_reducible refine Fr.trans ?_ (by with_reducible assumption))))) (by omega) hc2 (by omega) HR2.out
      · have q40 : (((t[a]'hlt).toNat : Int) == 40) = false := by rw [beq_eq_false_iff_ne, ← HNX.out]; omega
        have HR : Hid (R = none) := Lib.hid (by
          rw [if_neg] at hR
          · exact hR.symm
          · rintro (h | h)
            · unfold isLab at h
              rw [decide_eq_true_eq] at h
              exact hl h
            · exact h40 h)
        clear hR hl h40 HNX IH
        rcases q12' with q1 | ⟨q1, q2⟩
        all_goals
          go_enter Try.func204, Try.ntmps204
          go_wp2_with fail
          go_quiet (fail)
          go_wp2_with fail
          go_quiet (fail)
          go_wp2_with fail
          go_ret
          exact bad_done 0 hlo (L1.out _ (by repeat (first | (with_reducible exact Fr.refl _) | (with_reducible assumption) | (with_reducible refine Fr.drewN ?_ _) | (with_reducible refine Fr.drew ?_) | (with_reducible refine Fr.alloc ?_ _) | (with_reducible refine Fr.setCell ?_ (by (first | (with_reducible assumption) | omega | (simp only [World.size_alloc, World.size_setCell, World.size_drew, World.heap_drewN]; omega) | (simp; done) | (simp; omega))) _) | (with_reducible refine Fr.trans ?_ (by with_reducible assumption))))) (by omega) (by omega) (by omega) HR.out
  · have HR : Hid (R = none) := Lib.hid (by
      rw [if_neg] at hR
      · exact hR.symm
      · exact stop_no (.inl (by omega)))
    clear hR hb hp hH IH
    go_enter Try.func204, Try.ntmps204
    go_wp2_with fail
    go_quiet (fail)
    go_wp2_with fail
    go_ret
    exact bad_done 0 hlo (L0.out.fr (by repeat (first | (with_reducible exact Fr.refl _) | (with_reducible assumption) | (with_reducible refine Fr.drewN ?_ _) | (with_reducible refine Fr.drew ?_) | (with_reducible refine Fr.alloc ?_ _) | (with_reducible refine Fr.setCell ?_ (by (first | (with_reducible assumption) | omega | (simp only [World.size_alloc, World.size_setCell, World.size_drew, World.heap_drewN]; omega) | (simp; done) | (simp; omega))) _) | (with_reducible refine Fr.trans ?_ (by with_reducible assumption))))) (Nat.le_refl _) ha (by omega) HR.out
theorem specReader_any (t : ByteArray) (ht : t.size ≤ 100) (F : Nat) : OneC t F ∧ RowC t F ∧ AltsC t F := by
  induction F using Nat.strongRecOn with
  | ind F ih => exact ⟨one_any t ht F fun f h => (ih f h).2.2, row_any t ht F fun f h => (ih f h).1, alts_any t ht F fun f h => (ih f h).2.1⟩
end Go.Proofs.Ytjgghiniajmfjaa
