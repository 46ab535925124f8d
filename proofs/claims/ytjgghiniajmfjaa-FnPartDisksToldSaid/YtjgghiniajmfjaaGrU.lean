/- impl.GraphText. Condition: none but the graph's own. -/
import Derived.Test.YtjgghiniajmfjaaGrT
import Derived.Test.YtjgghiniajmfjaaKBld
namespace Go.Proofs.Ytjgghiniajmfjaa
open Go.RowKit
set_option linter.unusedVariables false
set_option linter.unusedSimpArgs false
set_option maxHeartbeats 4000000 in
set_option maxRecDepth 100000 in
theorem implGraphText_any (v : Value) (g : GraphD) (w : World) (hv : GraphRd w v g) :
    Calls Try.prog 126 #[v] w fun e w' => e = .returned (.tuple #[.string (graphS g), .bool (graphB g)]) ∧ Fr w w' := by
  obtain ⟨u, rfl, hu⟩ := hv
  obtain ⟨n, xs⟩ := g
  simp only at hu ⊢
  have hu2 := Lib.hid hu
  obtain ⟨ao, ba, oa, ca, rfl, hca, hma, fa⟩ := hu.one
  have FA := Lib.hid fa
  clear fa hu
  cases hB : graphB ⟨n, xs⟩
  · have CB : Hid (∀ w', Fr w w' → Calls Try.prog 90 #[.agg #[.int .i64 n, .slice ao xs.length ca]] w' fun e w'' => e = .returned (.bool false) ∧ Fr w' w'') := Lib.hid fun w' hf => by rw [← hB]; exact implGraphOk_any _ n xs w' (hu2.out.fr hf)
    have HS : Hid (graphS ⟨n, xs⟩ = ⟨#[]⟩) := Lib.hid (if_neg (by simp [hB]))
    clear hB
    go_enter Try.func126, Try.ntmps126
    go_wp2_with (go_at_call 90; refine (CB.out _ (by repeat (first | (with_reducible exact Fr.refl _) | (with_reducible assumption) | (with_reducible refine Fr.drewN ?_ _) | (with_reducible refine Fr.drew ?_) | (with_reducible refine Fr.alloc ?_ _) | (with_reducible refine Fr.setCell ?_ (by (first | (with_reducible assumption) | omega | (simp only [World.size_alloc, World.size_setCell, World.size_drew, World.heap_drewN]; omega) | (simp; done) | (simp; omega))) _) | (with_reducible refine Fr.trans ?_ (by with_reducible assumption))))).mono ?_; rintro e w1 ⟨rfl, hf1⟩)
    go_ret2
    exact ⟨by rw [HS.out]; rfl, by repeat (first | (with_reducible exact Fr.refl _) | (with_reducible assumption) | (with_reducible refine Fr.drewN ?_ _) | (with_reducible refine Fr.drew ?_) | (with_reducible refine Fr.alloc ?_ _) | (with_reducible refine Fr.setCell ?_ (by (first | (with_reducible assumption) | omega | (simp only [World.size_alloc, World.size_setCell, World.size_drew, World.heap_drewN]; omega) | (simp; done) | (simp; omega))) _) | (with_reducible refine Fr.trans ?_ (by with_reducible assumption)))⟩
  · have CB : Hid (∀ w', Fr w w' → Calls Try.prog 90 #[.agg #[.int .i64 n, .slice ao xs.length ca]] w' fun e w'' => e = .returned (.bool true) ∧ Fr w' w'') := Lib.hid fun w' hf => by rw [← hB]; exact implGraphOk_any _ n xs w' (hu2.out.fr hf)
    have HS : graphS ⟨n, xs⟩ = ⟨(graphL ⟨n, xs⟩).toArray⟩ := if_pos hB
    obtain ⟨⟨hn1, hn2⟩, hl, hK⟩ := graphB_out hB
    simp only at hn1 hn2 hl hK
    have HK := Lib.hid hK
    rw [HS]
    obtain ⟨p, hp⟩ : ∃ p, graphL ⟨n, xs⟩ = p := ⟨_, rfl⟩
    rw [hp]
    have HP := Lib.hid hp
    have hne : p ≠ [] := by rw [← hp]; exact graphL_ne _
    clear hB hp HS hK hu2
    go_enter Try.func126, Try.ntmps126
    go_wp2_with fail
    refine (CB.out _ (by repeat (first | (with_reducible exact Fr.refl _) | (with_reducible assumption) | (with_reducible refine Fr.drewN ?_ _) | (with_reducible refine Fr.drew ?_) | (with_reducible refine Fr.alloc ?_ _) | (with_reducible refine Fr.setCell ?_ (by (first | (with_reducible assumption) | omega | (simp only [World.size_alloc, World.size_setCell, World.size_drew, World.heap_drewN]; omega) | (simp; done) | (simp; omega))) _) | (with_reducible refine Fr.trans ?_ (by with_reducible assumption))))).mono ?_
    rintro e w1 ⟨rfl, hf1⟩
    have z1 := hf1.size; (try simp only [World.size_alloc] at z1)
    have BX : Box w1 w.heap.size #[.int .i64 n, .slice ao xs.length ca] 32 := (Box.new _ _ _).fr hf1
    have FX := BX.facts
    have hvn : (vText n).size ≤ 6 := vText_sz (by omega)
    have hvl : (vText (xs.length : Int)).size ≤ 6 := vText_sz (by omega)
    have hln := varL_len40 n.toNat (by omega)
    have hll := varL_len40 xs.length (by omega)
    go_wp2_with fail
    obtain ⟨b0, hb0⟩ : ∃ b0, w1.heap.size = b0 := ⟨_, rfl⟩
    have BL1 : Bld (w1.alloc (.cells #[.pointer none, .slice none 0 0] 184)) b0 [] := Bld.new' hb0.symm
    have hfa : Fr w (w1.alloc (.cells #[.pointer none, .slice none 0 0] 184)) := by repeat (first | (with_reducible exact Fr.refl _) | (with_reducible assumption) | (with_reducible refine Fr.drewN ?_ _) | (with_reducible refine Fr.drew ?_) | (with_reducible refine Fr.alloc ?_ _) | (with_reducible refine Fr.setCell ?_ (by (first | (with_reducible assumption) | omega | (simp only [World.size_alloc, World.size_setCell, World.size_drew, World.heap_drewN]; omega) | (simp; done) | (simp; omega))) _) | (with_reducible refine Fr.trans ?_ (by with_reducible assumption)))
    have BX2 := BX.alloc (.cells #[.pointer none, .slice none 0 0] 184)
    clear FX BX
    have zb : w.heap.size + 1 ≤ b0 := by omega
    (try rw [hb0])
    clear hb0
    refine (varText_any n _ (by omega) (by omega)).mono ?_
    rintro e w2 ⟨rfl, hf2⟩
    go_wp2_with fail
    refine (bldString_any b0 [] (vText n) _ (BL1.fr hf2) (by simp) (by omega)).mono ?_
    rintro e w3 ⟨rfl, BL3, sp3⟩
    have BX3 := (BX2.fr hf2).span sp3 (.inl (by omega))
    have hf3 : Fr w w3 := Span.fr (Fr.trans hfa hf2) sp3 (by omega)
    have FX := BX3.facts
    rw [vText_list, List.nil_append] at BL3
    clear BX2 BL1 hfa sp3
    go_wp2_with fail
    refine (varText_any (xs.length : Int) _ (by omega) (by omega)).mono ?_
    rintro e w4 ⟨rfl, hf4⟩
    go_wp2_with fail
    refine (bldString_any b0 _ (vText (xs.length : Int)) _ (BL3.fr hf4) (by omega) (by omega)).mono ?_
    rintro e w5 ⟨rfl, BL5, sp5⟩
    have BX5 := (BX3.fr hf4).span sp5 (.inl (by omega))
    have hf5 : Fr w w5 := Span.fr (Fr.trans hf3 hf4) sp5 (by omega)
    rw [vText_list, Int.toNat_natCast] at BL5
    clear FX
    have FX := BX5.facts
    clear BX3 BL3 sp5
    go_wp2_with fail
    go_loopw [6, 22] (fun _ i wr => ∃ (k : Nat) (l : List UInt8), k ≤ xs.length ∧ i = .int .i64 k ∧ l.length ≤ 12 + 13 * k ∧ Hid (l = varL n.toNat ++ varL xs.length ++ (xs.take k).flatMap edgeT) ∧ Bld wr b0 l ∧ Fr w wr) (fun _ i _ => xs.length - (intOf i).toNat)
    case atStart => exact ⟨0, _, Nat.zero_le _, rfl, by rw [List.length_append]; omega, Lib.hid (by simp), BL5, hf5⟩
    case round =>
      clear BX5 FX BL5 hf5
      obtain ⟨k, l, hk, rfl, hl2, hL, BL, hfr⟩ := hrel
      have zb2 := BL.lt
      by_cases hlt : k < xs.length
      · obtain ⟨rfl, hba, fa⟩ := FA.out (by omega); obtain ⟨x, hx⟩ : ∃ x, edgeAt xs k = x := ⟨_, rfl⟩; obtain ⟨g0, g1, g2⟩ := fa k hlt; rw [hx] at g0 g1 g2; have c0 := (hfr.cell (p := ⟨ba, _, none⟩) hba).trans g0; have c1 := (hfr.cell (p := ⟨ba, _, none⟩) hba).trans g1; have c2 := (hfr.cell (p := ⟨ba, _, none⟩) hba).trans g2; obtain ⟨⟨r0, r1⟩, ⟨r2, r3⟩, r4, r5⟩ := edgK_rng hx (HK.out k hlt); have hbw : ba < wr.heap.size := Nat.lt_of_lt_of_le hba hfr.size; have HX := Lib.hid hx; clear g0 g1 g2 fa hx
        have hl0 := varL_len40 x.f0.toNat (by omega)
        have hl3 := varL_len40 x.f2.toNat (by omega)
        have hv0 : (vText x.f0).size ≤ 6 := vText_sz (by omega)
        have hv2 : (vText x.f2).size ≤ 6 := vText_sz (by omega)
        have hL2 : Hid (((l ++ varL x.f0.toNat) ++ [x.f1]) ++ varL x.f2.toNat = varL n.toNat ++ varL xs.length ++ (xs.take (k + 1)).flatMap edgeT) := Lib.hid (by rw [hL.out, edgeT_take hlt HX.out]; simp [edgeT])
        have hl4 : (((l ++ varL x.f0.toNat) ++ [x.f1]) ++ varL x.f2.toNat).length ≤ 12 + 13 * (k + 1) := by simp only [List.length_append, List.length_singleton]; omega
        go_wp2_with fail
        have BE : Box (wr.alloc (.cells #[.int .i64 x.f0, .int .u8 (x.f1.toNat : Int), .int .i64 x.f2] 157)) wr.heap.size #[.int .i64 x.f0, .int .u8 (x.f1.toNat : Int), .int .i64 x.f2] 157 := Box.new _ _ _
        have BA := BL.fr (show Fr wr (wr.alloc (.cells #[.int .i64 x.f0, .int .u8 (x.f1.toNat : Int), .int .i64 x.f2] 157)) by repeat (first | (with_reducible exact Fr.refl _) | (with_reducible assumption) | (with_reducible refine Fr.drewN ?_ _) | (with_reducible refine Fr.drew ?_) | (with_reducible refine Fr.alloc ?_ _) | (with_reducible refine Fr.setCell ?_ (by (first | (with_reducible assumption) | omega | (simp only [World.size_alloc, World.size_setCell, World.size_drew, World.heap_drewN]; omega) | (simp; done) | (simp; omega))) _) | (with_reducible refine Fr.trans ?_ (by with_reducible assumption))))
        have hfa : Fr w (wr.alloc (.cells #[.int .i64 x.f0, .int .u8 (x.f1.toNat : Int), .int .i64 x.f2] 157)) := by repeat (first | (with_reducible exact Fr.refl _) | (with_reducible assumption) | (with_reducible refine Fr.drewN ?_ _) | (with_reducible refine Fr.drew ?_) | (with_reducible refine Fr.alloc ?_ _) | (with_reducible refine Fr.setCell ?_ (by (first | (with_reducible assumption) | omega | (simp only [World.size_alloc, World.size_setCell, World.size_drew, World.heap_drewN]; omega) | (simp; done) | (simp; omega))) _) | (with_reducible refine Fr.trans ?_ (by with_reducible assumption)))
        refine (varText_any x.f0 _ (by omega) (by omega)).mono ?_
        rintro e w6 ⟨rfl, hf6⟩
        go_wp2_with fail
        refine (bldStringK_any b0 l (vText x.f0) _ (BA.fr hf6) (by omega) (by omega)).mono ?_
        rintro e w7 ⟨rfl, BL7, sp7, kk7⟩
        have BE7 := kk7 _ _ _ (by omega) (by decide) (BE.fr hf6)
        have hf7 : Fr w w7 := Span.fr (Fr.trans hfa hf6) sp7 (by omega)
        have FE := BE7.facts
        rw [vText_list] at BL7
        clear BA BE hfa sp7 kk7
        go_wp2_with fail
        refine (bldByteK_any b0 _ _ x.f1 (by rfl) _ BL7 (by rw [List.length_append]; omega)).mono ?_
        rintro e w8 ⟨rfl, BL8, sp8, kk8⟩
        have BE8 := kk8 _ _ _ (by omega) (by decide) BE7
        have hf8 : Fr w w8 := Span.fr hf7 sp8 (by omega)
        clear FE
        have FE := BE8.facts
        clear sp8 kk8 BE7 hf7 BL7
        go_wp2_with fail
        refine (varText_any x.f2 _ (by omega) (by omega)).mono ?_
        rintro e w9 ⟨rfl, hf9⟩
        go_wp2_with fail
        refine (bldStringK_any b0 _ (vText x.f2) _ (BL8.fr hf9) (by simp only [List.length_append, List.length_singleton]; omega) (by omega)).mono ?_
        rintro e w10 ⟨rfl, BL10, sp10, _⟩
        have hf10 : Fr w w10 := Span.fr (Fr.trans hf8 hf9) sp10 (by omega)
        rw [vText_list] at BL10
        clear FE sp10
        go_wp2_with fail
        go_roundw
        case rel => exact ⟨k + 1, _, by omega, by go_num, hl4, hL2, BL10, hf10⟩
        case measure => (simp [intOf]; omega)
      · obtain rfl : k = xs.length := by omega
        have BL9 : Bld wr b0 p := by rw [← HP.out]; have := BL; rw [hL.out, List.take_length] at this; exact this
        go_wp2_with fail
        refine (bldText_any b0 p _ BL9 hne).mono ?_
        rintro e w9 ⟨rfl, hf9⟩
        have hf9 := hf9 w (by omega) (show Fr w _ by repeat (first | (with_reducible exact Fr.refl _) | (with_reducible assumption) | (with_reducible refine Fr.drewN ?_ _) | (with_reducible refine Fr.drew ?_) | (with_reducible refine Fr.alloc ?_ _) | (with_reducible refine Fr.setCell ?_ (by (first | (with_reducible assumption) | omega | (simp only [World.size_alloc, World.size_setCell, World.size_drew, World.heap_drewN]; omega) | (simp; done) | (simp; omega))) _) | (with_reducible refine Fr.trans ?_ (by with_reducible assumption))))
        go_wp2_with fail
        go_ret2
        exact ⟨rfl, hf9⟩
end Go.Proofs.Ytjgghiniajmfjaa
