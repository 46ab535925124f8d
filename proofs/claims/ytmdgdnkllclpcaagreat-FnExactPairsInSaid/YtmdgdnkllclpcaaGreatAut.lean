/- The automata of a right query, of both. Conditions: bounds on the texts; for the reference: the atoms are right. -/
import Derived.Test.YtmdgdnkllclpcaaGreatNfl
namespace Go.Proofs.YtmdgdnkllclpcaaGreat
open Go.RowKit
set_option linter.unusedVariables false
set_option linter.unusedSimpArgs false
set_option maxHeartbeats 4000000 in
set_option maxRecDepth 100000 in
theorem automataOf_any (q : Bool) (vo va vf : Value) (xs : List AtomR) (w : World) (hvo : ∃ a n c, vo = .slice a n c) (hvf : ∃ a n c, vf = .slice a n c) (hv : AtomsR w va xs) (hn : xs.length ≤ 1000) (hsz : ∀ k, k < xs.length → (atomAt xs k).f1.size ≤ 1048576) :
    Calls Tryz.prog 64 #[.agg #[.bool q, vo, va, vf]] w fun e w' => ∃ ao cap, e = .returned (.slice ao (autK xs xs.length).length cap) ∧ NfasW w' w.heap.size w'.heap.size (.slice ao (autK xs xs.length).length cap) (autK xs xs.length) ∧ Fr w w' := by
  obtain ⟨ao, no, co, rfl⟩ := hvo
  obtain ⟨af, nf, cf, rfl⟩ := hvf
  obtain ⟨ax, bx, ox, cx, rfl, hcx, hmx, hfx⟩ := hv.one
  have HF := Lib.hid hfx
  have HSZ := Lib.hid hsz
  obtain ⟨i0, hi, hz0, hz1, hz2⟩ := info_parts info_Nfa
  clear hv hfx hsz
  go_enter Tryz.func64, Tryz.ntmps64
  go_wp2_with fail
  go_loopw [3, 11] (fun o i wr => ∃ (k c : Nat) (a : Option Addr) (l : List NfaD), k ≤ xs.length ∧ i = .int .i64 k ∧ o = .slice a l.length c ∧ Hid (l = autK xs k) ∧ Hid (NfasW wr (w.heap.size + 1) wr.heap.size (.slice a l.length c) l) ∧ Fr w wr) (fun _ i _ => xs.length - (intOf i).toNat)
  case atStart => exact ⟨0, 0, none, [], Nat.zero_le _, rfl, rfl, Lib.hid rfl, Lib.hid (NfasW.nil _ _ _), by exact Qf⟩
  case round =>
    obtain ⟨k, c, a, l, hk, rfl, rfl, HE, HO, hfr⟩ := hrel
    have zr := hfr.size
    have hll : l.length = k := by rw [HE.out, autK_len]
    have HLL := Lib.hid hll
    have hll' : l.length ≤ 1000 := by omega
    clear hll
    by_cases hlt : k < xs.length
    · obtain ⟨rfl, hb, hf⟩ := HF.out (by omega)
      obtain ⟨g0, g1, g2⟩ := hf k hlt
      have hs1 := HSZ.out k hlt
      obtain ⟨x, hx⟩ : ∃ x, atomAt xs k = x := ⟨_, rfl⟩
      rw [hx] at g0 g1 g2 hs1
      obtain ⟨x0, x1, x2⟩ := x
      simp only [] at g0 g1 g2 hs1
      have q0 := (hfr.cell (p := ⟨bx, _, none⟩) hb).trans g0
      have q1 := (hfr.cell (p := ⟨bx, _, none⟩) hb).trans g1
      have q2 := (hfr.cell (p := ⟨bx, _, none⟩) hb).trans g2
      obtain ⟨d, hd⟩ : ∃ d, nfaT x1 = d := ⟨_, rfl⟩
      have HS : Hid (l ++ [d] = autK xs (k + 1)) := Lib.hid (by rw [autK, HE.out, hx, ← hd])
      have HLN := Lib.hid (show (l ++ [d]).length = l.length + 1 by simp)
      have CN := nfaOfText_any x1
      rw [hd] at CN
      have CN := Lib.hid (fun w' => CN w' hs1)
      clear hf g0 g1 g2 hx hd
      go_wp2_with fail
      refine (CN.out _).mono ?_
      rintro e w1 ⟨v1, rfl, hN1, hf1⟩
      have z1 := hf1.size
      (try simp only [World.size_alloc] at z1)
      obtain ⟨d0, d1, d2⟩ := d
      obtain ⟨va, ve, rfl, h1, h2⟩ := hN1
      obtain ⟨a1, c1, rfl⟩ : ∃ a c, va = .slice a d1.length c := owns_val h1
      obtain ⟨a2, c2, rfl⟩ : ∃ a c, ve = .slice a d2.length c := owns_val h2
      have HR1 := Lib.hid (OwW.of_owns h1)
      have HR2 := Lib.hid (OwW.of_owns h2)
      have HO1 := Lib.hid (NfasW.fr HO.out (show Fr wr w1 by exact Qf))
      obtain ⟨cells, hOw, happ⟩ := NestW.app (E := NfaEW) (fun a b c => NfaEW.span a b c) HO1.out
      have HOW := Lib.hid hOw
      have HAPP := Lib.hid happ
      simp only [] at HR1 HR2 ⊢
      have hf01 : Fr w w1 := by exact Qf
      clear h1 h2 hOw happ HO HO1
      go_wp2_with (at_builtin; refine wpList_append_rd rfl _ _ 104 rfl (w.heap.size + 1) 103 i0 (.agg #[.int .i64 0, .slice none 0 0, .slice none 0 0]) 3 56 Tryz.underlying104 hi hz0 hz1 hz2 rfl (by decide) (.slice a l.length c) l.length cells rfl (World.ownsRow.alloc (HOW.out.1.alloc _) _) _ 1 [.int .i64 d0, .slice a1 d1.length c1, .slice a2 d2.length c2] rfl (RdS.new (by first | rfl | (simp; done)) rfl) (by simp [Value.oneCell']) (by unfold maxLen; omega) (by omega) (by exact Qz) ?_; intro a3 c3 w3 hown hgrow hat)
      have hN3 := NfasW.snoc (d := ⟨d0, d1, d2⟩) (l1 := wr.heap.size + 1) (h1 := w1.heap.size) HAPP.out (show Fr w1 _ by exact Qf) (by simpa using hown) hgrow hat rfl ⟨_, _, rfl, OwW.alloc (OwW.alloc (OwW.mono HR1.out (by simp) (Nat.le_refl _)) _) _, OwW.alloc (OwW.alloc (OwW.mono HR2.out (by simp) (Nat.le_refl _)) _) _⟩ (by simp; omega) (by omega) (by omega) (by omega)
      have hf3 : Fr w w3 := Fr.app (by exact Qf) hgrow HOW.out.2 (by omega)
      rw [← HLN.out] at hN3
      have HN3 := Lib.hid hN3
      clear hN3
      rw [← HLN.out]
      go_roundw
      case rel => exact ⟨k + 1, c3, a3, l ++ [⟨d0, d1, d2⟩], by omega, by go_num, rfl, HS, HN3, hf3⟩
      case measure => (simp [intOf]; omega)
    · obtain rfl : k = xs.length := by omega
      go_wp2_with fail
      go_ret
      refine ⟨_, _, by rw [← HE.out]; try rfl, ?_, hfr⟩
      rw [← HE.out]
      exact NfasW.mono HO.out (by omega) (Nat.le_refl _)
set_option maxHeartbeats 4000000 in
set_option maxRecDepth 100000 in
theorem l20Nfas_any (q : Bool) (vo va vf : Value) (xs : List AtomR) (w : World) (hvo : ∃ a n c, vo = .slice a n c) (hvf : ∃ a n c, vf = .slice a n c) (hv : AtomsR w va xs) (hn : xs.length ≤ 1000) (hsz : ∀ k, k < xs.length → (atomAt xs k).f1.size ≤ 1048576) (hok : ∀ k, k < xs.length → (rpM (atomAt xs k).f1).2 = true) :
    Calls Tryz.prog 57 #[.agg #[.bool q, vo, va, vf]] w fun e w' => ∃ ao cap, e = .returned (.slice ao (autK xs xs.length).length cap) ∧ NfasW w' w.heap.size w'.heap.size (.slice ao (autK xs xs.length).length cap) (autK xs xs.length) ∧ Fr w w' := by
  obtain ⟨ao, no, co, rfl⟩ := hvo
  obtain ⟨af, nf, cf, rfl⟩ := hvf
  obtain ⟨ax, bx, ox, cx, rfl, hcx, hmx, hfx⟩ := hv.one
  have HF := Lib.hid hfx
  have HSZ := Lib.hid hsz
  have HOK := Lib.hid hok
  obtain ⟨i0, hi, hz0, hz1, hz2⟩ := info_parts info_Nfa
  clear hv hfx hsz hok
  go_enter Tryz.func57, Tryz.ntmps57
  go_wp2_with fail
  go_loopw [3, 4] (fun o i wr => ∃ (k c : Nat) (a : Option Addr) (l : List NfaD), k ≤ xs.length ∧ i = .int .i64 k ∧ o = .slice a l.length c ∧ Hid (l = autK xs k) ∧ Hid (NfasW wr (w.heap.size + 1) wr.heap.size (.slice a l.length c) l) ∧ Box wr w.heap.size #[.bool q, .slice ao no co, .slice ax xs.length cx, .slice af nf cf] 35 ∧ Fr w wr) (fun _ i _ => xs.length - (intOf i).toNat)
  case atStart => exact ⟨0, 0, _, [], Nat.zero_le _, rfl, rfl, Lib.hid rfl, Lib.hid (NestP.none_yet (OwW.of_owns (made_empty (by simp) (Nat.le_refl _)))), (Box.new _ _ _).alloc _, by exact Qf⟩
  case round =>
    obtain ⟨k, c, a, l, hk, rfl, rfl, HE, HO, hB, hfr⟩ := hrel
    have FB := hB.facts
    have zr := hfr.size
    have hll : l.length = k := by rw [HE.out, autK_len]
    have HLL := Lib.hid hll
    have hll' : l.length ≤ 1000 := by omega
    clear hll
    by_cases hlt : k < xs.length
    · obtain ⟨rfl, hb, hf⟩ := HF.out (by omega)
      obtain ⟨g0, g1, g2⟩ := hf k hlt
      have hs1 := HSZ.out k hlt
      have ho1 := HOK.out k hlt
      obtain ⟨x, hx⟩ : ∃ x, atomAt xs k = x := ⟨_, rfl⟩
      rw [hx] at g0 g1 g2 hs1 ho1
      obtain ⟨x0, x1, x2⟩ := x
      simp only [] at g0 g1 g2 hs1 ho1
      have q1 := (hfr.cell (p := ⟨bx, _, none⟩) hb).trans g1
      obtain ⟨d, hd⟩ : ∃ d, nfaT x1 = d := ⟨_, rfl⟩
      have HS : Hid (l ++ [d] = autK xs (k + 1)) := Lib.hid (by rw [autK, HE.out, hx, ← hd])
      have HLN := Lib.hid (show (l ++ [d]).length = l.length + 1 by simp)
      have CR := fun w' => specReadPath_any x1 w' (by omega)
      obtain ⟨ps, hps⟩ : ∃ ps, rpM x1 = (ps, true) := ⟨_, Prod.ext rfl ho1⟩
      have hdn : d = nfaM ps := by rw [← hd]; unfold nfaT; rw [hps]; rfl
      have HRR := Lib.hid (rpM_occ hps)
      rw [hps] at CR
      have CR := Lib.hid CR
      clear hf g0 g1 g2 hx hd ho1 hps
      go_wp2_with fail
      refine (CR.out _).mono ?_
      rintro e w1 ⟨v, rfl, hv1, hf1⟩
      have z1 := hf1.size
      have B1 := hB.fr hf1
      have HV1 := Lib.hid hv1
      obtain ⟨av, bv, ov, cv, rfl, hcv, hmv, hvv⟩ := hv1.one
      clear hvv hv1
      have CN := specNfaOf_any (.slice av ps.length cv) ps
      rw [← hdn] at CN
      have CN := Lib.hid (fun w' hv => CN w' HRR.out.1 HRR.out.2 hv)
      clear hdn
      go_wp2_with fail
      refine (CN.out _ (HV1.out.fr (by exact Qf))).mono ?_
      rintro e w2 ⟨v2, rfl, hN1, hf2⟩
      have z2 := hf2.size
      (try simp only [World.size_alloc] at z2)
      have B2 := (B1.alloc (.cells #[.slice av ps.length cv] 138)).fr hf2
      obtain ⟨d0, d1, d2⟩ := d
      obtain ⟨va, ve, rfl, h1, h2⟩ := hN1
      obtain ⟨a1, c1, rfl⟩ : ∃ a c, va = .slice a d1.length c := owns_val h1
      obtain ⟨a2, c2, rfl⟩ : ∃ a c, ve = .slice a d2.length c := owns_val h2
      have HR1 := Lib.hid (OwW.of_owns h1)
      have HR2 := Lib.hid (OwW.of_owns h2)
      have HO1 := Lib.hid (NfasW.fr HO.out (show Fr wr w2 by exact Qf))
      obtain ⟨cells, hOw, happ⟩ := NestW.app (E := NfaEW) (fun a b c => NfaEW.span a b c) HO1.out
      have HOW := Lib.hid hOw
      have HAPP := Lib.hid happ
      simp only [] at HR1 HR2 ⊢
      have hf02 : Fr w w2 := by exact Qf
      clear h1 h2 hOw happ HO HO1
      go_wp2_with (at_builtin; refine wpList_append_rd rfl _ _ 104 rfl (w.heap.size + 1) 103 i0 (.agg #[.int .i64 0, .slice none 0 0, .slice none 0 0]) 3 56 Tryz.underlying104 hi hz0 hz1 hz2 rfl (by decide) (.slice a l.length c) l.length cells rfl (World.ownsRow.alloc (HOW.out.1.alloc _) _) _ 1 [.int .i64 d0, .slice a1 d1.length c1, .slice a2 d2.length c2] rfl (RdS.new (by first | rfl | (simp; done)) rfl) (by simp [Value.oneCell']) (by unfold maxLen; omega) (by omega) (by exact Qz) ?_; intro a3 c3 w3 hown hgrow hat)
      have hN3 := NfasW.snoc (d := ⟨d0, d1, d2⟩) (l1 := w1.heap.size + 1) (h1 := w2.heap.size) HAPP.out (show Fr w2 _ by exact Qf) (by simpa using hown) hgrow hat rfl ⟨_, _, rfl, OwW.alloc (OwW.alloc (OwW.mono HR1.out (by simp) (Nat.le_refl _)) _) _, OwW.alloc (OwW.alloc (OwW.mono HR2.out (by simp) (Nat.le_refl _)) _) _⟩ (by simp; omega) (by omega) (by omega) (by omega)
      have hf3 : Fr w w3 := Fr.app (by exact Qf) hgrow HOW.out.2 (by omega)
      have B3 := Box.gr ((B2.alloc _).alloc _) hgrow (fun e => by have := HOW.out.2 _ e; omega)
      rw [← HLN.out] at hN3
      have HN3 := Lib.hid hN3
      clear hN3
      rw [← HLN.out]
      go_roundw
      case rel => exact ⟨k + 1, c3, a3, l ++ [⟨d0, d1, d2⟩], by omega, by go_num, rfl, HS, HN3, B3, hf3⟩
      case measure => (simp [intOf]; omega)
    · obtain rfl : k = xs.length := by omega
      go_wp2_with fail
      go_ret
      refine ⟨_, _, by rw [← HE.out]; try rfl, ?_, hfr⟩
      rw [← HE.out]
      exact NfasW.mono HO.out (by omega) (Nat.le_refl _)
end Go.Proofs.YtmdgdnkllclpcaaGreat
