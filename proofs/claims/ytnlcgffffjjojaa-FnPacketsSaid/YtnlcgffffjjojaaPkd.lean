/- Drawn packets and their bytes (spec.DrawPacketText, DrawReadPacket, l02Spoilt). No condition but the size of the draw. -/
import Derived.Test.YtnlcgffffjjojaaDraw5
import Derived.Test.YtnlcgffffjjojaaRdp
import Derived.Test.YtnlcgffffjjojaaPkt3
import Derived.Deep.RegionHeld3
namespace Go.Proofs.Ytnlcgffffjjojaa
open Go.RowKit
set_option linter.unusedVariables false
set_option linter.unusedSimpArgs false
def CuS (b : Nat) (a w : World) : Prop := Cu w b ∧ Span b (b + 1) a w
theorem CuS.mk {b : Nat} {a w : World} (h : Cu w b) (k : Span b (b + 1) a w) : CuS b a w := ⟨h, k⟩
theorem CuS.cu {b : Nat} {a w : World} (h : CuS b a w) : Cu w b := h.1
theorem CuS.sp {b : Nat} {a w : World} (h : CuS b a w) : Span b (b + 1) a w := h.2
theorem CuS.drew {b : Nat} {a w : World} (h : CuS b a w) : CuS b a w.drew := ⟨h.1.fr (Fr.refl _).drew, h.2.drew'⟩
theorem CuS.refl {b : Nat} {a : World} (h : Cu a b) : CuS b a a := ⟨h, Span.refl _ _ _⟩
theorem CuS.step {b : Nat} {a w w' : World} (h : CuS b a w) (k : Cu w' b) (s : Span b (b + 1) w w') : CuS b a w' := ⟨k, h.2.trans s⟩
set_option maxHeartbeats 4000000 in
set_option maxRecDepth 100000 in
theorem l02Spoilt_any (b : Nat) (s : ByteArray) (w : World) (hc : Cu w b) (hs : s.size ≤ 1000000) :
    Calls Try.prog 118 #[.pointer (some ⟨b, 0, none⟩), .string s] w fun e w' => ∃ t : ByteArray, t.size ≤ s.size + 1 ∧ e = .returned (.string t) ∧ Cu w' b ∧ Span b (b + 1) w w' := by
  go_enter Try.func118, Try.ntmps118
  go_wp2_with fail
  refine (l01Below_any b _ _ hc (by omega)).mono ?_
  rintro e w1 ⟨x, hx, _, rfl, hc1, sp1⟩
  have hx := hx (by omega)
  have hcase : x = 0 ∨ x = 1 ∨ x = 2 ∨ x = 3 ∨ 3 < x := by omega
  rcases hcase with hk | hk | hk | hk | hk
  · subst hk
    go_wp2_with fail
    refine (l01Text_any b _ _ hc1).mono ?_
    rintro e w2 ⟨t, ht, rfl, hc2, sp2⟩
    have ht : t.size = 1 := by omega
    go_wp2_with fail
    go_ret
    refine ⟨s ++ t, by rw [ByteArray.size_append]; omega, rfl, hc2, sp1.trans sp2⟩
  · subst hk
    have hw : IntKind.i64.wrap ((s.size : Int) + 1) = (s.size : Int) + 1 := IntWalk.i64_in _ (by omega)
    go_wp2_with fail
    refine (l01Below_any b _ _ hc1 (by omega)).mono ?_
    rintro e w2 ⟨y, hy, _, rfl, hc2, sp2⟩
    have hy := hy (by omega)
    have hy2 : y ≤ s.size := by omega
    go_wp2_with fail
    go_ret
    refine ⟨_, ?_, rfl, hc2, sp1.trans sp2⟩
    first | (simp; omega) | (simp [ByteArray.size_extract]; omega)
  all_goals first
    | (have hk0 : 3 < x := hk
       have h0 : ((x : Int) == 0) = false := by rw [beq_eq_false_iff_ne]; omega
       have h1 : ((x : Int) == 1) = false := by rw [beq_eq_false_iff_ne]; omega
       have h2 : ((x : Int) == 2) = false := by rw [beq_eq_false_iff_ne]; omega
       have h3 : ((x : Int) == 3) = false := by rw [beq_eq_false_iff_ne]; omega
       go_wp2_with fail
       go_ret
       exact ⟨s, by omega, rfl, hc1, sp1⟩)
    | (subst hk
       by_cases h0 : s.size = 0
       · go_wp2_with fail
         go_ret
         exact ⟨s, by omega, rfl, hc1, sp1⟩
       · go_wp2_with fail
         refine (l01Below_any b _ _ hc1 (by omega)).mono ?_
         rintro e w2 ⟨y, hy, _, rfl, hc2, sp2⟩
         have hy := hy (by omega)
         have hy2 : y < s.size := by omega
         have hy3 : y ≤ s.size := by omega
         have hw : IntKind.i64.wrap ((y : Int) + 1) = (y : Int) + 1 := IntWalk.i64_in _ (by omega)
         have hy4 : (y : Int) + 1 ≤ (s.size : Int) := by omega
         have hy5 : (0 : Int) ≤ (y : Int) + 1 := by omega
         have hy6 : (y : Int) ≤ (s.size : Int) := by omega
         have hy7 : (0 : Int) ≤ (y : Int) := by omega
         have hcs2 : CuS b w2 w2 := CuS.refl hc2
         go_wp2_with fail
         go_region_held3 (fun w' => CuS b w2 w') (repeat (first | (with_reducible assumption) | (with_reducible refine CuS.drew ?_) | (with_reducible exact CuS.refl (by with_reducible assumption)))) (first | (go_at_call 94; refine (l01Text_any b _ _ (CuS.cu (b := b) (a := w2) (by repeat (first | (with_reducible assumption) | (with_reducible refine CuS.drew ?_) | (with_reducible exact CuS.refl (by with_reducible assumption)))))).mono ?_; rintro e w3 ⟨t, ht, rfl, hc3, sp3⟩; have ht : t.size = 1 := (by omega); have hcs3 := CuS.step (b := b) (a := w2) (by repeat (first | (with_reducible assumption) | (with_reducible refine CuS.drew ?_) | (with_reducible exact CuS.refl (by with_reducible assumption)))) hc3 sp3; have hm1 : (s.extract 0 y).size + t.size ≤ 9223372036854775807 := (by rw [ByteArray.size_extract]; omega); have hm2 : (s.extract 0 y ++ t).size + (s.extract (y + 1) s.size).size ≤ 9223372036854775807 := (by rw [ByteArray.size_append, ByteArray.size_extract, ByteArray.size_extract]; omega); have ha1 := fun w => run_string_add_sum (P := Try.prog) (w := w) (s.extract 0 y) t hm1; have ha2 := fun w => run_string_add_sum (P := Try.prog) (w := w) (s.extract 0 y ++ t) (s.extract (y + 1) s.size) hm2))
         go_wp2_with fail
         go_ret
         refine ⟨_, ?_, rfl, hcs3.cu, (sp1.trans sp2).trans hcs3.sp⟩
         simp only [ByteArray.size_append, ByteArray.size_extract]
         omega)
set_option maxHeartbeats 2000000 in
set_option maxRecDepth 100000 in
theorem DrawPacketText_any (ao : Option Addr) (n cap : Nat) (w : World) (hy : ByR w w.heap.size ao n cap) :
    Calls Try.prog 47 #[.slice ao n cap] w fun e w' => ∃ p : PacketR, p.f5.size ≤ 5 ∧ e = .returned (.agg #[.int .i64 p.f0, .int .i64 p.f1, .int .i64 p.f2, .int .i64 p.f3, .int .i64 p.f4, .string p.f5]) ∧ Fr w w' := by
  have HY := Lib.hid hy
  clear hy
  go_enter Try.func47, Try.ntmps47
  go_wp2_with fail
  refine (l01New_any ao n cap _ (HY.out.here (by repeat (first | (with_reducible exact Fr.refl _) | (with_reducible assumption) | (with_reducible refine Fr.drewN ?_ _) | (with_reducible refine Fr.drew ?_) | (with_reducible refine Fr.alloc ?_ _) | (with_reducible refine Fr.setCell ?_ (by (first | (with_reducible assumption) | omega | (simp only [World.size_alloc, World.size_setCell, World.size_drew, World.heap_drewN]; omega) | (simp; done) | (simp; omega))) _) | (with_reducible refine Fr.trans ?_ (by with_reducible assumption)))))).mono ?_
  rintro e w1 ⟨b, rfl, hb, hc1, hf1⟩
  have hs1 := hf1.size
  simp only [World.size_alloc] at hs1 hb
  have BR := (Box.new w #[.int .i64 0, .int .i64 0, .int .i64 0, .int .i64 0, .int .i64 0, .string ⟨#[]⟩] 27).fr hf1
  go_wp2_with fail
  refine (l18AnyPacket_any b _ hc1).mono ?_
  rintro e w2 ⟨p, hp5, rfl, hc2, sp2⟩
  have hs2 := sp2.size
  have BR2 := BR.span sp2 (.inl (by omega))
  have FB2 := BR2.facts
  have hf2 : Fr w w2 := sp2.fr (show Fr w w1 by repeat (first | (with_reducible exact Fr.refl _) | (with_reducible assumption) | (with_reducible refine Fr.drewN ?_ _) | (with_reducible refine Fr.drew ?_) | (with_reducible refine Fr.alloc ?_ _) | (with_reducible refine Fr.setCell ?_ (by (first | (with_reducible assumption) | omega | (simp only [World.size_alloc, World.size_setCell, World.size_drew, World.heap_drewN]; omega) | (simp; done) | (simp; omega))) _) | (with_reducible refine Fr.trans ?_ (by with_reducible assumption)))) (by omega)
  clear BR
  go_wp2_with fail
  exact bodyPost_ret (v := .agg #[.int .i64 p.f0, .int .i64 p.f1, .int .i64 p.f2, .int .i64 p.f3, .int .i64 p.f4, .string p.f5]) (by simp [results, Try.results47, go_sem, *]) rfl ⟨p, hp5, rfl, by repeat (first | (with_reducible exact Fr.refl _) | (with_reducible assumption) | (with_reducible refine Fr.drewN ?_ _) | (with_reducible refine Fr.drew ?_) | (with_reducible refine Fr.alloc ?_ _) | (with_reducible refine Fr.setCell ?_ (by (first | (with_reducible assumption) | omega | (simp only [World.size_alloc, World.size_setCell, World.size_drew, World.heap_drewN]; omega) | (simp; done) | (simp; omega))) _) | (with_reducible refine Fr.trans ?_ (by with_reducible assumption)))⟩
set_option maxHeartbeats 2000000 in
set_option maxRecDepth 100000 in
theorem DrawReadPacket_any (ao : Option Addr) (n cap : Nat) (w : World) (hy : ByR w w.heap.size ao n cap) :
    Calls Try.prog 51 #[.slice ao n cap] w fun e w' => ∃ t : ByteArray, t.size ≤ 1048576 ∧ e = .returned (.string t) ∧ Fr w w' := by
  have HY := Lib.hid hy
  clear hy
  go_enter Try.func51, Try.ntmps51
  go_wp2_with fail
  refine (l01New_any ao n cap _ (HY.out.here (by repeat (first | (with_reducible exact Fr.refl _) | (with_reducible assumption) | (with_reducible refine Fr.drewN ?_ _) | (with_reducible refine Fr.drew ?_) | (with_reducible refine Fr.alloc ?_ _) | (with_reducible refine Fr.setCell ?_ (by (first | (with_reducible assumption) | omega | (simp only [World.size_alloc, World.size_setCell, World.size_drew, World.heap_drewN]; omega) | (simp; done) | (simp; omega))) _) | (with_reducible refine Fr.trans ?_ (by with_reducible assumption)))))).mono ?_
  rintro e w1 ⟨b, rfl, hb, hc1, hf1⟩
  have hs1 := hf1.size
  go_wp2_with fail
  refine (l01Below_any b _ _ hc1 (by omega)).mono ?_
  rintro e w2 ⟨x, hx, _, rfl, hc2, sp2⟩
  have hs2 := sp2.size
  go_wp2_with fail
  refine (l18AnyPacket_any b _ hc2).mono ?_
  rintro e w3 ⟨p, hp5, rfl, hc3, sp3⟩
  have hs3 := sp3.size
  have hf3 : Fr w w3 := sp3.fr (sp2.fr (show Fr w w1 by repeat (first | (with_reducible exact Fr.refl _) | (with_reducible assumption) | (with_reducible refine Fr.drewN ?_ _) | (with_reducible refine Fr.drew ?_) | (with_reducible refine Fr.alloc ?_ _) | (with_reducible refine Fr.setCell ?_ (by (first | (with_reducible assumption) | omega | (simp only [World.size_alloc, World.size_setCell, World.size_drew, World.heap_drewN]; omega) | (simp; done) | (simp; omega))) _) | (with_reducible refine Fr.trans ?_ (by with_reducible assumption)))) (by omega)) (by omega)
  go_wp2_with fail
  refine (specPacketText_any p.f0 p.f1 p.f2 p.f3 p.f4 p.f5 _).mono ?_
  rintro e w4 ⟨rfl, hf4⟩
  have hsz : (pktR p.f0 p.f1 p.f2 p.f3 p.f4 p.f5).size ≤ 6024 := by
    cases hb : pktB p.f0 p.f1 p.f2 p.f3 p.f4 p.f5
    · rw [pktR_no hb]; exact Nat.zero_le _
    · rw [pktR_ok hb]
      have := pktT_size hb
      unfold sealedT
      rw [ByteArray.size_append]
      have h4 : (fourT (sumOf (pktT p.f0 p.f1 p.f2 p.f3 p.f4 p.f5))).size = 4 := rfl
      omega
  obtain ⟨t, ht⟩ : ∃ t, pktR p.f0 p.f1 p.f2 p.f3 p.f4 p.f5 = t := ⟨_, rfl⟩
  rw [ht] at hsz
  simp only [ht]
  clear ht
  have hc4 : Cu w4 b := hc3.fr hf4
  by_cases hx0 : x = 0
  · subst hx0
    go_wp2_with fail
    refine (specUnsealed_any t _ (by omega)).mono ?_
    rintro e w5 ⟨rfl, hf5⟩
    have hc5 : Cu w5 b := hc4.fr hf5
    have hu : (unT t).size ≤ 6024 := by
      unfold unT
      split
      · rw [ByteArray.size_extract]; omega
      · exact Nat.zero_le _
    cases hb : unB t
    · go_wp2_with fail
      go_ret
      exact ⟨t, by omega, rfl, by repeat (first | (with_reducible exact Fr.refl _) | (with_reducible assumption) | (with_reducible refine Fr.drewN ?_ _) | (with_reducible refine Fr.drew ?_) | (with_reducible refine Fr.alloc ?_ _) | (with_reducible refine Fr.setCell ?_ (by (first | (with_reducible assumption) | omega | (simp only [World.size_alloc, World.size_setCell, World.size_drew, World.heap_drewN]; omega) | (simp; done) | (simp; omega))) _) | (with_reducible refine Fr.trans ?_ (by with_reducible assumption)))⟩
    · obtain ⟨v, hv⟩ : ∃ v, unT t = v := ⟨_, rfl⟩
      rw [hv] at hu ⊢
      clear hv
      have hs5 := hf5.size
      have hs4 := hf4.size
      have hf05 : Fr w w5 := by repeat (first | (with_reducible exact Fr.refl _) | (with_reducible assumption) | (with_reducible refine Fr.drewN ?_ _) | (with_reducible refine Fr.drew ?_) | (with_reducible refine Fr.alloc ?_ _) | (with_reducible refine Fr.setCell ?_ (by (first | (with_reducible assumption) | omega | (simp only [World.size_alloc, World.size_setCell, World.size_drew, World.heap_drewN]; omega) | (simp; done) | (simp; omega))) _) | (with_reducible refine Fr.trans ?_ (by with_reducible assumption)))
      go_wp2_with fail
      refine (l02Spoilt_any b v _ hc5 (by omega)).mono ?_
      rintro e w6 ⟨y, hy, rfl, hc6, sp6⟩
      have hf6 : Fr w w6 := sp6.fr hf05 (by omega)
      go_wp2_with fail
      refine (specSealed_any y _ (by omega)).mono ?_
      rintro e w7 ⟨rfl, hf7⟩
      have hq : (sealedT y).size = y.size + 4 := by unfold sealedT; rw [ByteArray.size_append]; rfl
      go_wp2_with fail
      go_ret
      exact ⟨sealedT y, by omega, rfl, by repeat (first | (with_reducible exact Fr.refl _) | (with_reducible assumption) | (with_reducible refine Fr.drewN ?_ _) | (with_reducible refine Fr.drew ?_) | (with_reducible refine Fr.alloc ?_ _) | (with_reducible refine Fr.setCell ?_ (by (first | (with_reducible assumption) | omega | (simp only [World.size_alloc, World.size_setCell, World.size_drew, World.heap_drewN]; omega) | (simp; done) | (simp; omega))) _) | (with_reducible refine Fr.trans ?_ (by with_reducible assumption)))⟩
  · have hk0 : ((x : Int) == 0) = false := by rw [beq_eq_false_iff_ne]; omega
    go_wp2_with fail
    go_ret
    exact ⟨t, by omega, rfl, by repeat (first | (with_reducible exact Fr.refl _) | (with_reducible assumption) | (with_reducible refine Fr.drewN ?_ _) | (with_reducible refine Fr.drew ?_) | (with_reducible refine Fr.alloc ?_ _) | (with_reducible refine Fr.setCell ?_ (by (first | (with_reducible assumption) | omega | (simp only [World.size_alloc, World.size_setCell, World.size_drew, World.heap_drewN]; omega) | (simp; done) | (simp; omega))) _) | (with_reducible refine Fr.trans ?_ (by with_reducible assumption)))⟩
end Go.Proofs.Ytnlcgffffjjojaa
