/- impl.ParcelsOf. No condition but the size of the list. -/
import Derived.Test.YtphjlecbhbcbcaaOwn
namespace Go.Proofs.Ytphjlecbhbcbcaa
open Go.RowKit
set_option linter.unusedVariables false
set_option linter.unusedSimpArgs false
theorem ParcelSW.nil (w : World) (lo hi : Nat) : ParcelSW w lo hi (.slice none 0 0) [] := NestP.none_yet (OwW.nil _ _ _ _ _)
theorem walks_snoc (l : List WalkR) (x : WalkR) : (l ++ [x]).flatMap WalkR.cells = l.flatMap WalkR.cells ++ [.int .i64 x.f0, .int .i64 x.f1, .int .i64 x.f2, .int .i64 x.f3] := by simp [WalkR.cells]
theorem walk_at {xs : List WalkR} {k : Nat} (h : k < xs.length) : (walkAt xs k).cells = [.int .i64 (walkAt xs k).f0, .int .i64 (walkAt xs k).f1, .int .i64 (walkAt xs k).f2, .int .i64 (walkAt xs k).f3] := rfl
set_option maxHeartbeats 16000000 in
set_option maxRecDepth 100000 in
theorem implParcelsOf_any (v : Value) (xs : List WalkR) (n : Int) (w : World) (hv : WalksR w v xs) (hl : xs.length ≤ 1048576) :
    Calls Try.prog 17 #[v, .int .i64 n] w fun e w' => ∃ ao cap, e = .returned (.slice ao (parAll xs n).length cap) ∧ ParcelSW w' w.heap.size w'.heap.size (.slice ao (parAll xs n).length cap) (parAll xs n) ∧ Fr w w' := by
  obtain ⟨i0, hi, hz0, hz1, hz2⟩ := info_parts info_Walk
  obtain ⟨j0, hj, hy0, hy1, hy2⟩ := info_parts info_Parcel
  obtain ⟨ao, ba, oa, ca, rfl, hca, hma, fa⟩ := hv.one
  have FA := Lib.hid fa
  clear hv fa
  obtain ⟨T, hT, hT8⟩ : ∃ T : Nat, (max 0 (min n 8)).toNat = T ∧ T ≤ 8 := ⟨_, rfl, by omega⟩
  have HPA := Lib.hid (show parAll xs n = parL xs n T by unfold parAll; rw [hT])
  have hTm : max 0 (min n 8) = (T : Int) := by omega
  go_enter Try.func17, Try.ntmps17
  go_wp2_with fail
  go_loopw [5, 6, 7, 9, 10, 14] (fun o _ _ _ _ i wr => ∃ (t : Nat) (ao' : Option Addr) (cap' : Nat), t ≤ T ∧ i = .int .i64 t ∧ o = .slice ao' (parL xs n t).length cap' ∧ Hid (ParcelSW wr w.heap.size wr.heap.size (.slice ao' (parL xs n t).length cap') (parL xs n t)) ∧ Fr w wr) (fun _ _ _ _ _ i _ => T - (intOf i).toNat)
  case atStart => exact ⟨0, none, 0, Nat.zero_le _, rfl, rfl, Lib.hid (ParcelSW.nil _ _ _), by repeat (first | (with_reducible exact Fr.refl _) | (with_reducible assumption) | (with_reducible refine Fr.drewN ?_ _) | (with_reducible refine Fr.drew ?_) | (with_reducible refine Fr.alloc ?_ _) | (with_reducible refine Fr.setCell ?_ (by (first | (with_reducible assumption) | omega | (simp only [World.size_alloc, World.size_setCell, World.size_drew, World.heap_drewN]; omega) | (simp; done) | (simp; omega))) _) | (with_reducible refine Fr.trans ?_ (by with_reducible assumption)))⟩
  case round =>
    obtain ⟨t, ap, cp, ht, rfl, rfl, HP, hfr⟩ := hrel
    have zr := hfr.size
    by_cases hlt : t < T
    · have htT : t + 1 ≤ 8 := by omega
      have HST := Lib.hid (show parL xs n (t + 1) = parL xs n t ++ parO xs n t from rfl)
      have hpl : (parL xs n t).length ≤ 8388608 := by have := parL_mono xs n t (by omega); omega
      generalize parL xs n t = P0 at HP HST hpl ⊢
      obtain ⟨PW, hPW⟩ : ∃ PW, parW xs n t = PW := ⟨_, rfl⟩
      have HPW := Lib.hid hPW
      have HPO := Lib.hid (show parO xs n t = (chunk PW).map (ParcelD.mk t) by unfold parO; rw [hPW])
      clear hPW
      obtain ⟨wo, hwo⟩ : ∃ w_ : World, w_ = wr := ⟨_, rfl⟩
      subst hwo
      go_wp2_with fail
      go_loopw [7, 9, 19] (fun ws _ i w2 => ∃ (k : Nat) (ys : List WalkR) (ay : Option Addr) (cy : Nat), k ≤ xs.length ∧ i = .int .i64 k ∧ ws = .slice ay ys.length cy ∧ ys.length ≤ k ∧ Hid (ys ++ parW (xs.drop k) n t = PW) ∧ Hid (WalksW w2 wo.heap.size w2.heap.size (.slice ay ys.length cy) ys) ∧ Fr wo w2) (fun _ _ i _ => xs.length - (intOf i).toNat)
      case atStart => exact ⟨0, [], none, 0, Nat.zero_le _, rfl, rfl, Nat.le_refl _, Lib.hid (by rw [List.drop_zero, List.nil_append]; exact HPW.out), Lib.hid (OwW.nil _ _ _ _ _), by repeat (first | (with_reducible exact Fr.refl _) | (with_reducible assumption) | (with_reducible refine Fr.drewN ?_ _) | (with_reducible refine Fr.drew ?_) | (with_reducible refine Fr.alloc ?_ _) | (with_reducible refine Fr.setCell ?_ (by (first | (with_reducible assumption) | omega | (simp only [World.size_alloc, World.size_setCell, World.size_drew, World.heap_drewN]; omega) | (simp; done) | (simp; omega))) _) | (with_reducible refine Fr.trans ?_ (by with_reducible assumption)))⟩
      case round =>
        obtain ⟨k, ys, ay, cy, hk, rfl, rfl, hyk, hd, HW, hf2⟩ := hrel
        have z2 := hf2.size
        by_cases hkl : k < xs.length
        · obtain ⟨rfl, hba, fa⟩ := FA.out (by omega)
          obtain ⟨g0, g1, g2, g3⟩ := fa k hkl
          have hf02 : Fr w wr := by repeat (first | (with_reducible exact Fr.refl _) | (with_reducible assumption) | (with_reducible refine Fr.drewN ?_ _) | (with_reducible refine Fr.drew ?_) | (with_reducible refine Fr.alloc ?_ _) | (with_reducible refine Fr.setCell ?_ (by (first | (with_reducible assumption) | omega | (simp only [World.size_alloc, World.size_setCell, World.size_drew, World.heap_drewN]; omega) | (simp; done) | (simp; omega))) _) | (with_reducible refine Fr.trans ?_ (by with_reducible assumption)))
          have hsk := fun h => parW_skip (n := n) (t := t) hkl h
          have hht := fun h => parW_hit (n := n) (t := t) hkl h
          obtain ⟨x, hx⟩ : ∃ x, walkAt xs k = x := ⟨_, rfl⟩
          rw [hx] at g0 g1 g2 g3 hsk hht
          have c0 := (hf02.cell (p := ⟨ba, _, none⟩) hba).trans g0
          have c1 := (hf02.cell (p := ⟨ba, _, none⟩) hba).trans g1
          have c2 := (hf02.cell (p := ⟨ba, _, none⟩) hba).trans g2
          have c3 := (hf02.cell (p := ⟨ba, _, none⟩) hba).trans g3
          clear g0 g1 g2 g3 fa hx
          obtain ⟨x0, x1, x2, x3⟩ := x
          simp only [] at c0 c1 c2 c3 hsk hht
          by_cases how : owR x2 n = t
          · have q : (owR x2 n == (t : Int)) = true := by simpa using how
            have hd2 : Hid ((ys ++ [⟨x0, x1, x2, x3⟩]) ++ parW (xs.drop (k + 1)) n t = PW) := Lib.hid (by have := hd.out; rw [hht how] at this; rw [List.append_assoc]; exact this)
            clear hd hsk hht
            have HCA := Lib.hid (walks_snoc ys ⟨x0, x1, x2, x3⟩)
            have HLA := Lib.hid (show (ys ++ [(⟨x0, x1, x2, x3⟩ : WalkR)]).length = ys.length + 1 by simp)
            go_wp2_with fail
            refine (implOwnerOf_any _ _ _).mono ?_
            rintro e w3 ⟨rfl, hf3⟩
            have z3 := hf3.size
            simp only [World.size_alloc] at z3
            have BW : Box w3 wr.heap.size #[.int .i64 x0, .int .i64 x1, .int .i64 x2, .int .i64 x3] 97 := (Box.new _ _ _).fr hf3
            have FW := BW.facts
            have HW3 : Hid (WalksW w3 wo.heap.size wr.heap.size (.slice ay ys.length cy) ys) := Lib.hid (OwW.fr HW.out (by repeat (first | (with_reducible exact Fr.refl _) | (with_reducible assumption) | (with_reducible refine Fr.drewN ?_ _) | (with_reducible refine Fr.drew ?_) | (with_reducible refine Fr.alloc ?_ _) | (with_reducible refine Fr.setCell ?_ (by (first | (with_reducible assumption) | omega | (simp only [World.size_alloc, World.size_setCell, World.size_drew, World.heap_drewN]; omega) | (simp; done) | (simp; omega))) _) | (with_reducible refine Fr.trans ?_ (by with_reducible assumption)))))
            go_wp2_with (at_builtin; (refine wpList_append_rd rfl _ _ 26 rfl wo.heap.size 97 i0 (.agg #[.int .i64 0, .int .i64 0, .int .i64 0, .int .i64 0]) 4 32 Try.underlying26 hi hz0 hz1 hz2 rfl (by decide) _ ys.length (ys.flatMap WalkR.cells) rfl (World.ownsRow.alloc HW3.out.1 _) _ 1 [.int .i64 x0, .int .i64 x1, .int .i64 x2, .int .i64 x3] rfl (RdS.new (by first | rfl | simp) rfl) (by simp [Value.oneCell']) (by unfold maxLen; omega) (by omega) (by (first | (with_reducible assumption) | omega | (simp only [World.size_alloc, World.size_setCell, World.size_drew, World.heap_drewN]; omega) | (simp; done) | (simp; omega))) ?_; intro ao' cap' w4 hown hgrow hat))
            have hf4 : Fr wo w4 := Fr.app (w := w3.alloc (.cells #[.int .i64 x0, .int .i64 x1, .int .i64 x2, .int .i64 x3] 97)) (by repeat (first | (with_reducible exact Fr.refl _) | (with_reducible assumption) | (with_reducible refine Fr.drewN ?_ _) | (with_reducible refine Fr.drew ?_) | (with_reducible refine Fr.alloc ?_ _) | (with_reducible refine Fr.setCell ?_ (by (first | (with_reducible assumption) | omega | (simp only [World.size_alloc, World.size_setCell, World.size_drew, World.heap_drewN]; omega) | (simp; done) | (simp; omega))) _) | (with_reducible refine Fr.trans ?_ (by with_reducible assumption)))) hgrow HW3.out.2 (Nat.le_refl _)
            rw [← HCA.out] at hown
            go_roundw
            case rel => exact ⟨k + 1, ys ++ [⟨x0, x1, x2, x3⟩], ao', cap', by omega, by go_num, by rw [HLA.out], by rw [HLA.out]; omega, hd2, Lib.hid (by have := OwW.of_owns hown; rw [← HLA.out] at this; exact this), hf4⟩
            case measure => (simp [intOf]; omega)
          · have q : (owR x2 n == (t : Int)) = false := by simpa using how
            have hd2 : Hid (ys ++ parW (xs.drop (k + 1)) n t = PW) := Lib.hid (by have := hd.out; rw [hsk how] at this; exact this)
            clear hd hsk hht
            go_wp2_with fail
            refine (implOwnerOf_any _ _ _).mono ?_
            rintro e w3 ⟨rfl, hf3⟩
            have z3 := hf3.size
            simp only [World.size_alloc] at z3
            have HW3 : Hid (WalksW w3 wo.heap.size wr.heap.size (.slice ay ys.length cy) ys) := Lib.hid (OwW.fr HW.out (by repeat (first | (with_reducible exact Fr.refl _) | (with_reducible assumption) | (with_reducible refine Fr.drewN ?_ _) | (with_reducible refine Fr.drew ?_) | (with_reducible refine Fr.alloc ?_ _) | (with_reducible refine Fr.setCell ?_ (by (first | (with_reducible assumption) | omega | (simp only [World.size_alloc, World.size_setCell, World.size_drew, World.heap_drewN]; omega) | (simp; done) | (simp; omega))) _) | (with_reducible refine Fr.trans ?_ (by with_reducible assumption)))))
            go_wp2_with fail
            go_roundw
            case rel => exact ⟨k + 1, ys, ay, cy, by omega, by go_num, rfl, by omega, hd2, Lib.hid (OwW.mono HW3.out (Nat.le_refl _) (by omega)), by repeat (first | (with_reducible exact Fr.refl _) | (with_reducible assumption) | (with_reducible refine Fr.drewN ?_ _) | (with_reducible refine Fr.drew ?_) | (with_reducible refine Fr.alloc ?_ _) | (with_reducible refine Fr.setCell ?_ (by (first | (with_reducible assumption) | omega | (simp only [World.size_alloc, World.size_setCell, World.size_drew, World.heap_drewN]; omega) | (simp; done) | (simp; omega))) _) | (with_reducible refine Fr.trans ?_ (by with_reducible assumption)))⟩
            case measure => (simp [intOf]; omega)
        · obtain rfl : k = xs.length := by omega
          have hyp : ys = PW := by have := hd.out; rw [parW_end, List.append_nil] at this; exact this
          have HPS := Lib.hid (show P0 ++ (chunk ys).map (ParcelD.mk t) = parL xs n (t + 1) by rw [HST.out, HPO.out, hyp])
          clear hd hyp HPO HST HPW
          obtain ⟨wp, hwp⟩ : ∃ w_ : World, w_ = wr := ⟨_, rfl⟩
          subst hwp
          have HP1 : Hid (ParcelSW wp w.heap.size wp.heap.size (.slice ap P0.length cp) P0) := Lib.hid (NestP.mono (ParcelSW.fr HP.out hf2) (Nat.le_refl _) hf2.size)
          have hfp : Fr w wp := by repeat (first | (with_reducible exact Fr.refl _) | (with_reducible assumption) | (with_reducible refine Fr.drewN ?_ _) | (with_reducible refine Fr.drew ?_) | (with_reducible refine Fr.alloc ?_ _) | (with_reducible refine Fr.setCell ?_ (by (first | (with_reducible assumption) | omega | (simp only [World.size_alloc, World.size_setCell, World.size_drew, World.heap_drewN]; omega) | (simp; done) | (simp; omega))) _) | (with_reducible refine Fr.trans ?_ (by with_reducible assumption)))
          have hri := NestW.rowIn HP.out
          obtain ⟨B, HB⟩ : ∃ B, Hid (0 < ys.length → (∃ o, ay = some ⟨B, o, none⟩) ∧ B < wp.heap.size ∧ (.slice ap P0.length cp : Value).ownBlock ≠ some B) := by
            rcases owns_shape HW.out.1 with ⟨_, h1, _⟩ | ⟨g, c, hv, h2, h3, _⟩
            · exact ⟨0, Lib.hid fun h => absurd h (by omega)⟩
            · cases hv
              exact ⟨g, Lib.hid fun _ => ⟨⟨0, rfl⟩, h3, fun e => by have := hri g e; omega⟩⟩
          clear HP hri
          go_wp2_with fail
          go_loopw [5, 7, 10] (fun o ws _ w4 => ∃ (ps : List ParcelD) (zs : List WalkR) (ap' az : Option Addr) (cp' cz : Nat), o = .slice ap' ps.length cp' ∧ ws = .slice az zs.length cz ∧ Hid (ps ++ (chunk zs).map (ParcelD.mk t) = parL xs n (t + 1)) ∧ ps.length + zs.length ≤ 9437184 ∧ zs.length ≤ 1048576 ∧ Hid (ParcelSW w4 w.heap.size w4.heap.size (.slice ap' ps.length cp') ps) ∧ Hid (WalksR wp (.slice az zs.length cz) zs) ∧ Hid (0 < zs.length → (∃ o, az = some ⟨B, o, none⟩) ∧ B < wp.heap.size ∧ (.slice ap' ps.length cp' : Value).ownBlock ≠ some B ∧ ∀ o, w4.cell? ⟨B, o, none⟩ = wp.cell? ⟨B, o, none⟩) ∧ wp.heap.size ≤ w4.heap.size ∧ Fr w w4) (fun _ ws _ _ => lenV ws)
          case atStart => exact ⟨P0, ys, ap, ay, cp, cy, rfl, rfl, HPS, by omega, by omega, HP1, Lib.hid (OwW.rd HW.out), Lib.hid (fun h => ⟨(HB.out h).1, (HB.out h).2.1, (HB.out h).2.2, fun _ => rfl⟩), Nat.le_refl _, hfp⟩
          case round =>
            clear HP1 HW HPS HB
            obtain ⟨ps, zs, ap', az, cp', cz, rfl, rfl, hd, hpz, hz, HP, HZ, HB, z4, hf4⟩ := hrel
            have zw4 := hf4.size
            by_cases hz0' : 0 < zs.length
            · obtain ⟨⟨oz, rfl⟩, hb1, hb2, hb3⟩ := HB.out hz0'
              have HB2 := Lib.hid hb2
              have HB3 := Lib.hid hb3
              clear hb2 hb3 HB
              obtain ⟨_, bz, oz', _, hv, hcz, hmz, fz⟩ := HZ.out.one
              cases hv
              have HCH := Lib.hid (chunk_step hz0')
              obtain ⟨K, hKm, hK1, hK2, hK3⟩ : ∃ K : Nat, min (zs.length : Int) 60 = (K : Int) ∧ K ≤ zs.length ∧ 0 < K ∧ Hid (zs.take 60 = zs.take K ∧ zs.drop 60 = zs.drop K) := by
                rcases Nat.le_total zs.length 60 with h | h
                · exact ⟨zs.length, by omega, Nat.le_refl _, hz0', Lib.hid ⟨by rw [List.take_of_length_le h, List.take_length], by rw [List.drop_of_length_le h, List.drop_length]⟩⟩
                · exact ⟨60, by omega, h, by omega, Lib.hid ⟨rfl, rfl⟩⟩
              rw [hK3.out.1, hK3.out.2] at HCH
              rw [HCH.out] at hd
              clear fz hK3 HCH
              have htk : WalksR wr (.slice (some ⟨B, oz, none⟩) K cz) (zs.take K) := WalksR.take (RdS.move (b := B) HZ.out (fun _ => ⟨oz, rfl⟩) z4 (fun _ => HB3.out)) K cz hK1 (by omega) (by unfold maxLen; omega)
              have hdk : WalksR wp (.slice (some ⟨B, oz + K * 4, none⟩) (zs.length - K) (cz - K)) (zs.drop K) := HZ.out.drop K (cz - K) hK1 (by omega) (by unfold maxLen; omega)
              have hyl : (zs.take K).length = K := by simp; omega
              have hdl : (zs.drop K).length = zs.length - K := by simp
              generalize zs.take K = yk at hd htk hyl
              generalize zs.drop K = zd at hd hdk hdl
              have HTK := Lib.hid htk
              have HDK := Lib.hid hdk
              have HYL := Lib.hid hyl
              have HDL := Lib.hid hdl
              have hyk : yk.length ≤ 1048576 := by omega
              clear htk hdk hyl hdl HZ
              rw [List.map_cons, List.append_cons] at hd
              obtain ⟨cells, hOw, happ⟩ := NestW.app (E := ParcelEW) (fun a b c => ParcelEW.span a b c) HP.out
              have HOW := Lib.hid hOw
              have HAPP := Lib.hid happ
              clear hOw happ HP
              go_wp2_with fail
              refine (cloneWalk_w _ yk _ (HTK.out.fr (by repeat (first | (with_reducible exact Fr.refl _) | (with_reducible assumption) | (with_reducible refine Fr.drewN ?_ _) | (with_reducible refine Fr.drew ?_) | (with_reducible refine Fr.alloc ?_ _) | (with_reducible refine Fr.setCell ?_ (by (first | (with_reducible assumption) | omega | (simp only [World.size_alloc, World.size_setCell, World.size_drew, World.heap_drewN]; omega) | (simp; done) | (simp; omega))) _) | (with_reducible refine Fr.trans ?_ (by with_reducible assumption))))) hyk).mono ?_
              rintro e w5 ⟨ac, cc, rfl, hc5, hf5⟩
              have z5 := hf5.size
              have HC5 := Lib.hid hc5
              clear hc5
              go_wp2_with (at_builtin; (refine wpList_append_rd rfl _ _ 24 rfl w.heap.size 102 j0 (.agg #[.int .i64 0, .slice none 0 0]) 2 32 Try.underlying24 hj hy0 hy1 hy2 rfl (by decide) _ ps.length cells rfl (World.ownsRow.alloc (OwW.fr HOW.out hf5).1 _) _ 1 [.int .i64 t, .slice ac yk.length cc] rfl (RdS.new (by first | rfl | simp) rfl) (by simp [Value.oneCell']) (by unfold maxLen; omega) (by omega) (by (first | (with_reducible assumption) | omega | (simp only [World.size_alloc, World.size_setCell, World.size_drew, World.heap_drewN]; omega) | (simp; done) | (simp; omega))) ?_; intro ao' cap' w6 hown hgrow hat))
              have sb : w5.heap.size + 1 ≤ w6.heap.size := by have := hgrow.size; simpa using this
              have hN6 : ParcelSW w6 w.heap.size w6.heap.size (.slice ao' (ps.length + 1) cap') (ps ++ [⟨t, yk⟩]) := HAPP.out _ (w5.alloc (.cells #[.int .i64 t, .slice ac yk.length cc] 102)) w6 [.int .i64 t, .slice ac yk.length cc] ⟨t, yk⟩ wr.heap.size w5.heap.size w6.heap.size (w5.alloc (.cells #[.int .i64 t, .slice ac yk.length cc] 102)).heap.size (hf5.alloc _) hown hgrow hat (RowIn.of_owns hown) (by simp) (by omega) rfl ⟨ac, cc, rfl, OwW.alloc HC5.out _⟩ zw4 (Nat.le_refl _) z5
              have hf6 : Fr w w6 := Fr.app (w := w5.alloc (.cells #[.int .i64 t, .slice ac yk.length cc] 102)) (by repeat (first | (with_reducible exact Fr.refl _) | (with_reducible assumption) | (with_reducible refine Fr.drewN ?_ _) | (with_reducible refine Fr.drew ?_) | (with_reducible refine Fr.alloc ?_ _) | (with_reducible refine Fr.setCell ?_ (by (first | (with_reducible assumption) | omega | (simp only [World.size_alloc, World.size_setCell, World.size_drew, World.heap_drewN]; omega) | (simp; done) | (simp; omega))) _) | (with_reducible refine Fr.trans ?_ (by with_reducible assumption)))) hgrow HOW.out.2 (Nat.le_refl _)
              have hcell : ∀ o, w6.cell? ⟨B, o, none⟩ = wp.cell? ⟨B, o, none⟩ := fun o => by
                rw [grown_cell hgrow (b := B) (by simp; omega) HB2.out o, ← HB3.out o]
                exact (hf5.alloc (.cells #[.int .i64 t, .slice ac yk.length cc] 102)).cell (p := ⟨B, o, none⟩) (by show B < wr.heap.size; omega)
              have hne : (.slice ao' (ps.length + 1) cap' : Value).ownBlock ≠ some B := fun e => by
                rcases hat with h | h
                · rw [h] at e; exact HB2.out e
                · rw [h] at e; simp at e; omega
              have hl7 : (ps ++ [(⟨t, yk⟩ : ParcelD)]).length = ps.length + 1 := by simp
              have hif : 0 < zs.length - K → (if cz = K then some (⟨B, oz, none⟩ : Addr) else some ⟨B, oz + K * 4, none⟩) = some ⟨B, oz + K * 4, none⟩ := fun h => if_neg (by omega)
              refine ⟨⟨ps ++ [⟨t, yk⟩], zd, ao', (if cz = K then some ⟨B, oz, none⟩ else some ⟨B, oz + K * 4, none⟩), cap', cz - K, by rw [hl7], by rw [HDL.out], hd, by rw [hl7, HDL.out]; omega, by rw [HDL.out]; omega, Lib.hid (by rw [hl7]; exact hN6), Lib.hid ?_, Lib.hid (fun h => ⟨⟨_, hif (by rw [← HDL.out]; exact h)⟩, hb1, by rw [hl7]; exact hne, hcell⟩), by omega, hf6⟩, by show zs.length - K < zs.length; omega⟩
              rw [HDL.out]
              by_cases hck : cz = K
              · have hz0 : zd = [] := List.eq_nil_of_length_eq_zero (by rw [HDL.out]; omega)
                subst hz0
                have hl0 : zs.length - K = 0 := by have := HDL.out; simpa using this.symm
                rw [hl0]
                exact ⟨by simp, _, _, rfl, Nat.zero_le _, by unfold maxLen; omega, fun h => absurd h (by decide)⟩
              · rw [if_neg hck]
                exact HDK.out
            · have hz1 : zs = [] := List.eq_nil_of_length_eq_zero (by omega)
              subst hz1
              rw [chunk_nil, List.map_nil, List.append_nil] at hd
              clear HZ HB
              go_wp2_with fail
              go_roundw
              case rel => exact ⟨t + 1, ap', cp', by omega, by go_num, by rw [hd.out], by rw [hd.out] at HP; exact HP, hf4⟩
              case measure => (simp [intOf]; omega)
    · obtain rfl : t = T := by omega
      rw [← HPA.out] at HP
      go_wp2_with fail
      go_ret
      exact ⟨ap, cp, by rw [HPA.out]; rfl, HP.out, hfr⟩
end Go.Proofs.Ytphjlecbhbcbcaa
