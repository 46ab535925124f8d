/- spec.ParcelsOf. No condition but the size of the list. -/
import Derived.Test.YtphjlecbhbcbcaaPar
namespace Go.Proofs.Ytphjlecbhbcbcaa
open Go.RowKit
set_option linter.unusedVariables false
set_option linter.unusedSimpArgs false
set_option maxHeartbeats 16000000 in
set_option maxRecDepth 100000 in
theorem specParcelsOf_any (v : Value) (xs : List WalkR) (n : Int) (w : World) (hv : WalksR w v xs) (hl : xs.length ≤ 1048576) :
    Calls Try.prog 15 #[v, .int .i64 n] w fun e w' => ∃ ao cap, e = .returned (.slice ao (parAll xs n).length cap) ∧ ParcelSW w' w.heap.size w'.heap.size (.slice ao (parAll xs n).length cap) (parAll xs n) ∧ Fr w w' := by
  obtain ⟨i0, hi, hz0, hz1, hz2⟩ := info_parts info_Walk
  obtain ⟨j0, hj, hy0, hy1, hy2⟩ := info_parts info_Parcel
  obtain ⟨ao, ba, oa, ca, rfl, hca, hma, fa⟩ := hv.one
  have FA := Lib.hid fa
  clear hv fa
  obtain ⟨T, hT, hT8, hTn, hTe⟩ : ∃ T : Nat, Hid ((max 0 (min n 8)).toNat = T) ∧ T ≤ 8 ∧ (∀ t : Nat, t < T → (t : Int) < n) ∧ (T = 8 ∨ n ≤ T) := ⟨_, Lib.hid rfl, by omega, fun t h => by omega, by omega⟩
  have HPA := Lib.hid (show parAll xs n = parL xs n T by unfold parAll; rw [hT.out])
  go_enter Try.func15, Try.ntmps15
  go_wp2_with fail
  go_loopw [5, 6, 7, 8] (fun o i _ _ wr => ∃ (t : Nat) (ao' : Option Addr) (cap' : Nat), t ≤ T ∧ i = .int .i64 t ∧ o = .slice ao' (parL xs n t).length cap' ∧ Hid (ParcelSW wr w.heap.size wr.heap.size (.slice ao' (parL xs n t).length cap') (parL xs n t)) ∧ Fr w wr) (fun _ i _ _ _ => T - (intOf i).toNat)
  case atStart => exact ⟨0, some ⟨w.heap.size, 0, none⟩, 0, Nat.zero_le _, rfl, rfl, Lib.hid (NestP.none_yet (OwW.of_owns (made_empty rfl (Nat.le_refl _)))), by repeat (first | (with_reducible exact Fr.refl _) | (with_reducible assumption) | (with_reducible refine Fr.drewN ?_ _) | (with_reducible refine Fr.drew ?_) | (with_reducible refine Fr.alloc ?_ _) | (with_reducible refine Fr.setCell ?_ (by (first | (with_reducible assumption) | omega | (simp only [World.size_alloc, World.size_setCell, World.size_drew, World.heap_drewN]; omega) | (simp; done) | (simp; omega))) _) | (with_reducible refine Fr.trans ?_ (by with_reducible assumption)))⟩
  case round =>
    obtain ⟨t, ap, cp, ht, rfl, rfl, HP, hfr⟩ := hrel
    have zr := hfr.size
    by_cases hlt : t < T
    · have htn := hTn t hlt
      have ht8 : (t : Int) < 8 := by omega
      have HST := Lib.hid (show parL xs n t ++ (chunk (parW xs n t)).map (ParcelD.mk t) = parL xs n (t + 1) from rfl)
      have hpl : (parL xs n t).length ≤ 8388608 := by have := parL_mono xs n t (by omega); omega
      have hpn : (parL xs n (t + 1)).length ≤ 8388608 := by have := parL_mono xs n (t + 1) (by omega); omega
      generalize parL xs n t = P0 at HP HST hpl ⊢
      obtain ⟨PN, hPN⟩ : ∃ PN, parL xs n (t + 1) = PN := ⟨_, rfl⟩
      have HPN := Lib.hid hPN
      rw [hPN] at HST hpn
      clear hPN
      go_wp2_with fail
      go_loopw [5, 7, 8] (fun o ws i w2 => ∃ (k L : Nat) (ps : List ParcelD) (ys : List WalkR) (ap' ay : Option Addr) (cp' cy : Nat), k ≤ xs.length ∧ i = .int .i64 k ∧ o = .slice ap' ps.length cp' ∧ ws = .slice ay ys.length cy ∧ ys.length ≤ 59 ∧ Hid (ps ++ (chunk (ys ++ parW (xs.drop k) n t)).map (ParcelD.mk t) = PN) ∧ w.heap.size ≤ L ∧ L ≤ w2.heap.size ∧ Hid (ParcelSW w2 w.heap.size L (.slice ap' ps.length cp') ps) ∧ Hid (WalksW w2 L w2.heap.size (.slice ay ys.length cy) ys) ∧ Fr w w2) (fun _ _ i _ => xs.length - (intOf i).toNat)
      case atStart => exact ⟨0, wr.heap.size, P0, [], ap, some ⟨wr.heap.size, 0, none⟩, cp, 0, Nat.zero_le _, rfl, rfl, rfl, Nat.zero_le _, Lib.hid (by rw [List.drop_zero, List.nil_append]; exact HST.out), zr, by simp, Lib.hid (ParcelSW.fr HP.out (by repeat (first | (with_reducible exact Fr.refl _) | (with_reducible assumption) | (with_reducible refine Fr.drewN ?_ _) | (with_reducible refine Fr.drew ?_) | (with_reducible refine Fr.alloc ?_ _) | (with_reducible refine Fr.setCell ?_ (by (first | (with_reducible assumption) | omega | (simp only [World.size_alloc, World.size_setCell, World.size_drew, World.heap_drewN]; omega) | (simp; done) | (simp; omega))) _) | (with_reducible refine Fr.trans ?_ (by with_reducible assumption))))), Lib.hid (OwW.of_owns (made_empty rfl (Nat.le_refl _))), by repeat (first | (with_reducible exact Fr.refl _) | (with_reducible assumption) | (with_reducible refine Fr.drewN ?_ _) | (with_reducible refine Fr.drew ?_) | (with_reducible refine Fr.alloc ?_ _) | (with_reducible refine Fr.setCell ?_ (by (first | (with_reducible assumption) | omega | (simp only [World.size_alloc, World.size_setCell, World.size_drew, World.heap_drewN]; omega) | (simp; done) | (simp; omega))) _) | (with_reducible refine Fr.trans ?_ (by with_reducible assumption)))⟩
      case round =>
        clear HP HST
        obtain ⟨k, L, ps, ys, ap', ay, cp', cy, hk, rfl, rfl, rfl, hyk, hd, hL1, hL2, HP, HW, hf2⟩ := hrel
        have z2 := hf2.size
        have hpsl : ps.length ≤ 8388608 := by have := congrArg List.length hd.out; rw [List.length_append] at this; omega
        by_cases hkl : k < xs.length
        · obtain ⟨rfl, hba, fa⟩ := FA.out (by omega)
          obtain ⟨g0, g1, g2, g3⟩ := fa k hkl
          have hsk := fun h => parW_skip (n := n) (t := t) hkl h
          have hht := fun h => parW_hit (n := n) (t := t) hkl h
          obtain ⟨x, hx⟩ : ∃ x, walkAt xs k = x := ⟨_, rfl⟩
          rw [hx] at g0 g1 g2 g3 hsk hht
          have c0 : ∀ w', Fr wr w' → w'.cell? _ = _ := fun w' h => ((hf2.trans h).cell (p := ⟨ba, _, none⟩) hba).trans g0
          have c1 : ∀ w', Fr wr w' → w'.cell? _ = _ := fun w' h => ((hf2.trans h).cell (p := ⟨ba, _, none⟩) hba).trans g1
          have c2 : ∀ w', Fr wr w' → w'.cell? _ = _ := fun w' h => ((hf2.trans h).cell (p := ⟨ba, _, none⟩) hba).trans g2
          have c3 : ∀ w', Fr wr w' → w'.cell? _ = _ := fun w' h => ((hf2.trans h).cell (p := ⟨ba, _, none⟩) hba).trans g3
          clear g0 g1 g2 g3 fa hx
          obtain ⟨x0, x1, x2, x3⟩ := x
          simp only [] at c0 c1 c2 c3 hsk hht
          have d2 := c2 wr (Fr.refl _)
          go_wp2_with fail
          refine (specOwnerOf_any _ _ _).mono ?_
          rintro e w3 ⟨rfl, hf3⟩
          have z3 := hf3.size
          have HW3 : Hid (WalksW w3 L wr.heap.size (.slice ay ys.length cy) ys) := Lib.hid (OwW.fr HW.out hf3)
          have HP3 : Hid (ParcelSW w3 w.heap.size L (.slice ap' ps.length cp') ps) := Lib.hid (ParcelSW.fr HP.out hf3)
          have e0 := c0 w3 hf3
          have e1 := c1 w3 hf3
          have e2 := c2 w3 hf3
          have e3 := c3 w3 hf3
          clear c0 c1 c2 c3 HW HP d2
          by_cases how : owR x2 n = t
          · have q : (owR x2 n == (t : Int)) = true := by simpa using how
            have hd2 : Hid (ps ++ (chunk ((ys ++ [⟨x0, x1, x2, x3⟩]) ++ parW (xs.drop (k + 1)) n t)).map (ParcelD.mk t) = PN) := Lib.hid (by have := hd.out; rw [hht how] at this; rw [List.append_assoc]; exact this)
            clear hd hsk hht
            have HCA := Lib.hid (walks_snoc ys ⟨x0, x1, x2, x3⟩)
            have HLA := Lib.hid (show (ys ++ [(⟨x0, x1, x2, x3⟩ : WalkR)]).length = ys.length + 1 by simp)
            by_cases h60 : ys.length = 59
            · have q61 : (((ys.length + 1 : Nat) : Int) == 60) = true := by simp; omega
              have q62 : ((ys.length : Int) + 1 == 60) = true := by simp; omega
              have hy58 : 59 ≤ ys.length := by omega
              clear h60
              go_wp2_with (first | (at_builtin; (refine wpList_append_rd rfl _ _ 26 rfl L 97 i0 (.agg #[.int .i64 0, .int .i64 0, .int .i64 0, .int .i64 0]) 4 32 Try.underlying26 hi hz0 hz1 hz2 rfl (by decide) _ ys.length (ys.flatMap WalkR.cells) rfl (World.ownsRow.alloc HW3.out.1 _) _ 1 [.int .i64 x0, .int .i64 x1, .int .i64 x2, .int .i64 x3] rfl (RdS.new (by first | rfl | simp) rfl) (by simp [Value.oneCell']) (by unfold maxLen; omega) (by omega) (by (first | (with_reducible assumption) | omega | (simp only [World.size_alloc, World.size_setCell, World.size_drew, World.heap_drewN]; omega) | (simp; done) | (simp; omega))) ?_; intro ao' cap' w4 hown hgrow hat; have s4 : Span L wr.heap.size (w3.alloc (.cells #[.int .i64 x0, .int .i64 x1, .int .i64 x2, .int .i64 x3] 97)) w4 := Span.of_gr hgrow (fun g hg => HW3.out.2 g hg); have HP4 : ParcelSW w4 w.heap.size L (.slice ap' ps.length cp') ps := ParcelSW.span (ParcelSW.fr HP3.out ((Fr.refl _).alloc _)) s4 (.inl (Nat.le_refl _)); obtain ⟨cells, hOw, happ⟩ := NestW.app (E := ParcelEW) (fun a b c => ParcelEW.span a b c) HP4; have HOW := Lib.hid hOw; have HAPP := Lib.hid happ; have zg4 := s4.size; (try simp only [World.size_alloc] at zg4); clear hOw happ HP4 s4)) | (at_builtin; (refine wpList_append_rd rfl _ _ 24 rfl w.heap.size 102 j0 (.agg #[.int .i64 0, .slice none 0 0]) 2 32 Try.underlying24 hj hy0 hy1 hy2 rfl (by decide) _ ps.length cells rfl (World.ownsRow.alloc HOW.out.1 _) _ 1 [.int .i64 t, .slice ao' (ys.length + 1) cap'] rfl (RdS.new (by first | rfl | simp) rfl) (by simp [Value.oneCell']) (by unfold maxLen; omega) (by omega) (by (first | (with_reducible assumption) | omega | (simp only [World.size_alloc, World.size_setCell, World.size_drew, World.heap_drewN]; omega) | (simp; done) | (simp; omega))) ?_; intro ap6 cp6 w6 hown6 hgrow6 hat6)))
              have sb : w4.heap.size + 1 ≤ w6.heap.size := by have := hgrow6.size; simpa using this
              have hf4 : Fr w w4 := Fr.app (w := (w3.alloc (.cells #[.int .i64 x0, .int .i64 x1, .int .i64 x2, .int .i64 x3] 97))) (by repeat (first | (with_reducible exact Fr.refl _) | (with_reducible assumption) | (with_reducible refine Fr.drewN ?_ _) | (with_reducible refine Fr.drew ?_) | (with_reducible refine Fr.alloc ?_ _) | (with_reducible refine Fr.setCell ?_ (by (first | (with_reducible assumption) | omega | (simp only [World.size_alloc, World.size_setCell, World.size_drew, World.heap_drewN]; omega) | (simp; done) | (simp; omega))) _) | (with_reducible refine Fr.trans ?_ (by with_reducible assumption)))) hgrow HW3.out.2 hL1
              have hf6 : Fr w w6 := Fr.app (w := w4.alloc (.cells #[.int .i64 t, .slice ao' (ys.length + 1) cap'] 102)) (by repeat (first | (with_reducible exact Fr.refl _) | (with_reducible assumption) | (with_reducible refine Fr.drewN ?_ _) | (with_reducible refine Fr.drew ?_) | (with_reducible refine Fr.alloc ?_ _) | (with_reducible refine Fr.setCell ?_ (by (first | (with_reducible assumption) | omega | (simp only [World.size_alloc, World.size_setCell, World.size_drew, World.heap_drewN]; omega) | (simp; done) | (simp; omega))) _) | (with_reducible refine Fr.trans ?_ (by with_reducible assumption)))) hgrow6 HOW.out.2 (Nat.le_refl _)
              have hN6 : ParcelSW w6 w.heap.size w6.heap.size (.slice ap6 (ps.length + 1) cp6) (ps ++ [⟨t, ys ++ [⟨x0, x1, x2, x3⟩]⟩]) := by
                refine HAPP.out _ (w4.alloc (.cells #[.int .i64 t, .slice ao' (ys.length + 1) cap'] 102)) w6 [.int .i64 t, .slice ao' (ys.length + 1) cap'] ⟨t, ys ++ [⟨x0, x1, x2, x3⟩]⟩ L w4.heap.size w6.heap.size (w4.alloc (.cells #[.int .i64 t, .slice ao' (ys.length + 1) cap'] 102)).heap.size ((Fr.refl _).alloc _) hown6 hgrow6 hat6 (RowIn.of_owns hown6) (by simp) (by omega) rfl ⟨ao', cap', by show [_, _] = [_, _]; rw [HLA.out], ?_⟩ hL1 (Nat.le_refl _) (by omega)
                have := OwW.of_owns hown
                rw [← HCA.out, ← HLA.out] at this
                exact OwW.alloc this _
              have hd3 : Hid ((ps ++ [⟨t, ys ++ [⟨x0, x1, x2, x3⟩]⟩]) ++ (chunk ([] ++ parW (xs.drop (k + 1)) n t)).map (ParcelD.mk t) = PN) := Lib.hid (by
                have := hd2.out
                rw [chunk_full (by rw [HLA.out]; omega), List.map_cons, List.append_cons] at this
                exact this)
              have hl7 : (ps ++ [(⟨t, ys ++ [⟨x0, x1, x2, x3⟩]⟩ : ParcelD)]).length = ps.length + 1 := by simp
              go_wp2_with fail
              go_roundw
              case rel => exact ⟨k + 1, w6.heap.size, ps ++ [⟨t, ys ++ [⟨x0, x1, x2, x3⟩]⟩], [], ap6, some ⟨w6.heap.size, 0, none⟩, cp6, 0, by omega, by go_num, by rw [hl7], rfl, Nat.zero_le _, hd3, by omega, by simp, Lib.hid (by rw [hl7]; exact ParcelSW.fr hN6 ((Fr.refl _).alloc _)), Lib.hid (OwW.of_owns (made_empty rfl (Nat.le_refl _))), by repeat (first | (with_reducible exact Fr.refl _) | (with_reducible assumption) | (with_reducible refine Fr.drewN ?_ _) | (with_reducible refine Fr.drew ?_) | (with_reducible refine Fr.alloc ?_ _) | (with_reducible refine Fr.setCell ?_ (by (first | (with_reducible assumption) | omega | (simp only [World.size_alloc, World.size_setCell, World.size_drew, World.heap_drewN]; omega) | (simp; done) | (simp; omega))) _) | (with_reducible refine Fr.trans ?_ (by with_reducible assumption)))⟩
              case measure => (simp [intOf]; omega)
            · have q61 : (((ys.length + 1 : Nat) : Int) == 60) = false := by simp; omega
              have q62 : ((ys.length : Int) + 1 == 60) = false := by simp; omega
              have hy58 : ys.length ≤ 58 := by omega
              go_wp2_with (at_builtin; (refine wpList_append_rd rfl _ _ 26 rfl L 97 i0 (.agg #[.int .i64 0, .int .i64 0, .int .i64 0, .int .i64 0]) 4 32 Try.underlying26 hi hz0 hz1 hz2 rfl (by decide) _ ys.length (ys.flatMap WalkR.cells) rfl (World.ownsRow.alloc HW3.out.1 _) _ 1 [.int .i64 x0, .int .i64 x1, .int .i64 x2, .int .i64 x3] rfl (RdS.new (by first | rfl | simp) rfl) (by simp [Value.oneCell']) (by unfold maxLen; omega) (by omega) (by (first | (with_reducible assumption) | omega | (simp only [World.size_alloc, World.size_setCell, World.size_drew, World.heap_drewN]; omega) | (simp; done) | (simp; omega))) ?_; intro ao' cap' w4 hown hgrow hat))
              have s4 : Span L wr.heap.size (w3.alloc (.cells #[.int .i64 x0, .int .i64 x1, .int .i64 x2, .int .i64 x3] 97)) w4 := Span.of_gr hgrow (fun g hg => HW3.out.2 g hg)
              have zg4 := s4.size
              simp only [World.size_alloc] at zg4
              have hf4 : Fr w w4 := Fr.app (w := (w3.alloc (.cells #[.int .i64 x0, .int .i64 x1, .int .i64 x2, .int .i64 x3] 97))) (by repeat (first | (with_reducible exact Fr.refl _) | (with_reducible assumption) | (with_reducible refine Fr.drewN ?_ _) | (with_reducible refine Fr.drew ?_) | (with_reducible refine Fr.alloc ?_ _) | (with_reducible refine Fr.setCell ?_ (by (first | (with_reducible assumption) | omega | (simp only [World.size_alloc, World.size_setCell, World.size_drew, World.heap_drewN]; omega) | (simp; done) | (simp; omega))) _) | (with_reducible refine Fr.trans ?_ (by with_reducible assumption)))) hgrow HW3.out.2 hL1
              have hW4 : WalksW w4 L w4.heap.size (.slice ao' (ys ++ [(⟨x0, x1, x2, x3⟩ : WalkR)]).length cap') (ys ++ [⟨x0, x1, x2, x3⟩]) := by
                have := OwW.of_owns hown
                rw [← HCA.out, ← HLA.out] at this
                exact this
              go_roundw
              case rel => exact ⟨k + 1, L, ps, ys ++ [⟨x0, x1, x2, x3⟩], ap', ao', cp', cap', by omega, by go_num, rfl, by rw [HLA.out], by rw [HLA.out]; omega, hd2, hL1, by omega, Lib.hid (ParcelSW.span (ParcelSW.fr HP3.out ((Fr.refl _).alloc _)) s4 (.inl (Nat.le_refl _))), Lib.hid hW4, hf4⟩
              case measure => (simp [intOf]; omega)
          · have q : (owR x2 n == (t : Int)) = false := by simpa using how
            have hd2 : Hid (ps ++ (chunk (ys ++ parW (xs.drop (k + 1)) n t)).map (ParcelD.mk t) = PN) := Lib.hid (by have := hd.out; rw [hsk how] at this; exact this)
            clear hd hsk hht e0 e1 e2 e3
            go_wp2_with fail
            go_roundw
            case rel => exact ⟨k + 1, L, ps, ys, ap', ay, cp', cy, by omega, by go_num, rfl, rfl, hyk, hd2, hL1, by omega, HP3, Lib.hid (OwW.mono HW3.out (Nat.le_refl _) (by omega)), by repeat (first | (with_reducible exact Fr.refl _) | (with_reducible assumption) | (with_reducible refine Fr.drewN ?_ _) | (with_reducible refine Fr.drew ?_) | (with_reducible refine Fr.alloc ?_ _) | (with_reducible refine Fr.setCell ?_ (by (first | (with_reducible assumption) | omega | (simp only [World.size_alloc, World.size_setCell, World.size_drew, World.heap_drewN]; omega) | (simp; done) | (simp; omega))) _) | (with_reducible refine Fr.trans ?_ (by with_reducible assumption)))⟩
            case measure => (simp [intOf]; omega)
        · obtain rfl : k = xs.length := by omega
          rw [parW_end, List.append_nil] at hd
          by_cases hy0' : 0 < ys.length
          · rw [chunk_small hy0' (by omega), List.map_cons, List.map_nil] at hd
            obtain ⟨cells, hOw, happ⟩ := NestW.app (E := ParcelEW) (fun a b c => ParcelEW.span a b c) HP.out
            have HOW := Lib.hid hOw
            have HAPP := Lib.hid happ
            clear hOw happ HP
            go_wp2_with (at_builtin; (refine wpList_append_rd rfl _ _ 24 rfl w.heap.size 102 j0 (.agg #[.int .i64 0, .slice none 0 0]) 2 32 Try.underlying24 hj hy0 hy1 hy2 rfl (by decide) _ ps.length cells rfl (World.ownsRow.alloc HOW.out.1 _) _ 1 [.int .i64 t, .slice ay ys.length cy] rfl (RdS.new (by first | rfl | simp) rfl) (by simp [Value.oneCell']) (by unfold maxLen; omega) (by omega) (by (first | (with_reducible assumption) | omega | (simp only [World.size_alloc, World.size_setCell, World.size_drew, World.heap_drewN]; omega) | (simp; done) | (simp; omega))) ?_; intro ap6 cp6 w6 hown6 hgrow6 hat6))
            have sb : wr.heap.size + 1 ≤ w6.heap.size := by have := hgrow6.size; simpa using this
            have hf6 : Fr w w6 := Fr.app (w := wr.alloc (.cells #[.int .i64 t, .slice ay ys.length cy] 102)) (by repeat (first | (with_reducible exact Fr.refl _) | (with_reducible assumption) | (with_reducible refine Fr.drewN ?_ _) | (with_reducible refine Fr.drew ?_) | (with_reducible refine Fr.alloc ?_ _) | (with_reducible refine Fr.setCell ?_ (by (first | (with_reducible assumption) | omega | (simp only [World.size_alloc, World.size_setCell, World.size_drew, World.heap_drewN]; omega) | (simp; done) | (simp; omega))) _) | (with_reducible refine Fr.trans ?_ (by with_reducible assumption)))) hgrow6 HOW.out.2 (Nat.le_refl _)
            have hN6 : ParcelSW w6 w.heap.size w6.heap.size (.slice ap6 (ps.length + 1) cp6) (ps ++ [⟨t, ys⟩]) := HAPP.out _ (wr.alloc (.cells #[.int .i64 t, .slice ay ys.length cy] 102)) w6 [.int .i64 t, .slice ay ys.length cy] ⟨t, ys⟩ L wr.heap.size w6.heap.size (wr.alloc (.cells #[.int .i64 t, .slice ay ys.length cy] 102)).heap.size ((Fr.refl _).alloc _) hown6 hgrow6 hat6 (RowIn.of_owns hown6) (by simp) (by omega) rfl ⟨ay, cy, rfl, OwW.alloc HW.out _⟩ hL1 (Nat.le_refl _) hL2
            have hl7 : (ps ++ [(⟨t, ys⟩ : ParcelD)]).length = ps.length + 1 := by simp
            rw [← hl7] at hN6
            rw [hd.out] at hN6 hl7
            go_wp2_with fail
            go_roundw
            case rel => exact ⟨t + 1, ap6, cp6, by omega, by go_num, by rw [HPN.out, hl7], Lib.hid (by rw [HPN.out]; exact hN6), hf6⟩
            case measure => (simp [intOf]; omega)
          · have hz1 : ys = [] := List.eq_nil_of_length_eq_zero (by omega)
            subst hz1
            rw [chunk_nil, List.map_nil, List.append_nil] at hd
            have hP7 : ParcelSW wr w.heap.size wr.heap.size (.slice ap' ps.length cp') ps := NestP.mono HP.out (Nat.le_refl _) hL2
            rw [hd.out] at hP7
            clear HW HP
            go_wp2_with fail
            go_roundw
            case rel => exact ⟨t + 1, ap', cp', by omega, by go_num, by rw [HPN.out, hd.out], Lib.hid (by rw [HPN.out]; exact hP7), hf2⟩
            case measure => (simp [intOf]; omega)
    · obtain rfl : t = T := by omega
      rw [← HPA.out] at HP
      by_cases htn : (t : Int) < n
      · have ht8 : (t : Int) = 8 := by omega
        go_wp2_with fail
        go_ret
        exact ⟨ap, cp, by rw [HPA.out]; rfl, HP.out, hfr⟩
      · go_wp2_with fail
        go_ret
        exact ⟨ap, cp, by rw [HPA.out]; rfl, HP.out, hfr⟩
end Go.Proofs.Ytphjlecbhbcbcaa
