/- laws.FnPackets: its walk. No condition but the reading of the draw. -/
import Derived.Test.YtnlcgffffjjojaaPkd
import Derived.Test.YtnlcgffffjjojaaPkl
import Derived.Test.YtnlcgffffjjojaaTurn
import Derived.Test.YtnlcgffffjjojaaFrames
namespace Go.Proofs.Ytnlcgffffjjojaa
open Go.RowKit
set_option linter.unusedVariables false
set_option linter.unusedSimpArgs false
theorem rdp_text {t : ByteArray} (h : (rdp t).ok = true) : pktR (rdp t).e (rdp t).f (rdp t).t (rdp t).q (rdp t).a (rdp t).s = t := by
  by_cases hc : (rdS5 t).2.bad = false ∧ pktB (rdS1 t).1 (rdS2 t).1 (rdS3 t).1 (rdS4 t).1 (rdS5 t).1 (rdBody t) = true
  · have e : rdp t = ⟨(rdS1 t).1, (rdS2 t).1, (rdS3 t).1, (rdS4 t).1, (rdS5 t).1, rdBody t, true⟩ := by unfold rdp; rw [if_pos hc]
    rw [e]
    show pktR (rdS1 t).1 (rdS2 t).1 (rdS3 t).1 (rdS4 t).1 (rdS5 t).1 (rdBody t) = t
    rw [pktR_ok hc.2]
    exact (rdp_back t hc.1).2
  · have e : rdp t = pkNo := by unfold rdp; rw [if_neg hc]
    rw [e] at h
    cases h
/-- What the law says of a packet's bytes, plain. -/
theorem bent_no {p : PacketR} {z : ByteArray} (hb : pktB p.f0 p.f1 p.f2 p.f3 p.f4 p.f5 = true)
    (hz : ∃ (i : Nat) (c : UInt8) (hi : i < (pktR p.f0 p.f1 p.f2 p.f3 p.f4 p.f5).data.toList.length), (pktR p.f0 p.f1 p.f2 p.f3 p.f4 p.f5).data.toList[i] ≠ c ∧ z.data.toList = (pktR p.f0 p.f1 p.f2 p.f3 p.f4 p.f5).data.toList.set i c) : (rdp z).ok = false := by
  rw [pktR_ok hb] at hz
  obtain ⟨i, c, hi, h1, h2⟩ := hz
  have := pktT_size hb
  rw [rdp_no (unB_turned (by omega) hi h1 h2)]
  rfl
set_option maxHeartbeats 60000000 in
set_option maxRecDepth 100000 in
theorem fnPackets_any (ao : Option Addr) (n cap : Nat) (w : World) (hy : ByR w w.heap.size ao n cap) :
    Calls Try.prog 8 #[.slice ao n cap] w fun e w' => e = .returned (.bool true) ∧ Fr w w' := by
  have HY := Lib.hid hy
  have hn : n ≤ 9223372036854775807 := by have := hy.1; have := hy.2.1; omega
  clear hy
  by_cases hbig : n ≤ 1048576
  · go_enter Try.func8, Try.ntmps8
    go_wp2_with (go_at_call 19; refine (big_any _ _ _ _ hn).mono ?_; rintro e w0 ⟨rfl, rfl⟩)
    refine (DrawPacketText_any ao n cap _ HY.out).mono ?_
    rintro e w1 ⟨p, hp5, rfl, hf1⟩
    have z1 := hf1.size
    obtain ⟨B, hB⟩ : ∃ B, pktB p.f0 p.f1 p.f2 p.f3 p.f4 p.f5 = B := ⟨_, rfl⟩
    obtain ⟨s, hs⟩ : ∃ s, pktR p.f0 p.f1 p.f2 p.f3 p.f4 p.f5 = s := ⟨_, rfl⟩
    have C1 : Hid (∀ w', Calls Try.prog 18 #[.agg #[.int .i64 p.f0, .int .i64 p.f1, .int .i64 p.f2, .int .i64 p.f3, .int .i64 p.f4, .string p.f5]] w' fun e w'' => e = .returned (.tuple #[.string s, .bool B]) ∧ Fr w' w'') := fun w' => by rw [← hB, ← hs]; exact implPacketText_any _ _ _ _ _ _ w'
    have C2 : Hid (∀ w', Calls Try.prog 50 #[.agg #[.int .i64 p.f0, .int .i64 p.f1, .int .i64 p.f2, .int .i64 p.f3, .int .i64 p.f4, .string p.f5]] w' fun e w'' => e = .returned (.bool B) ∧ Fr w' w'') := fun w' => by rw [← hB]; exact implPacketOk_any _ _ _ _ _ _ w'
    have C3 : Hid (∀ w', Calls Try.prog 49 #[.agg #[.int .i64 p.f0, .int .i64 p.f1, .int .i64 p.f2, .int .i64 p.f3, .int .i64 p.f4, .string p.f5]] w' fun e w'' => e = .returned (.bool B) ∧ Fr w' w'') := fun w' => by rw [← hB]; exact specPacketOk_any _ _ _ _ _ _ w'
    obtain ⟨R, hR⟩ : ∃ R, rdp s = R := ⟨_, rfl⟩
    have hsz : s.size ≤ 1000000 := by
      rw [← hs]
      cases hb : pktB p.f0 p.f1 p.f2 p.f3 p.f4 p.f5
      · rw [pktR_no hb]; exact Nat.zero_le _
      · rw [pktR_ok hb, sealedT_size]
        have := pktT_size hb
        omega
    have C4 : Hid (∀ w', Calls Try.prog 48 #[.string s] w' fun e w'' => e = .returned (.tuple #[.agg #[.int .i64 R.e, .int .i64 R.f, .int .i64 R.t, .int .i64 R.q, .int .i64 R.a, .string R.s], .bool R.ok]) ∧ Fr w' w'') := fun w' => by rw [← hR]; exact implReadPacket_any s w' (by omega)
    have K1 : Hid (B = true → R = ⟨p.f0, p.f1, p.f2, p.f3, p.f4, p.f5, true⟩) := fun hb => by rw [← hR, ← hs, pktR_ok (by rw [hB, hb])]; exact rdp_fwd (by rw [hB, hb])
    have K2 : Hid (B = true → ∀ z : ByteArray, (0 < s.size → ∃ (i : Nat) (c : UInt8) (hi : i < s.data.toList.length), s.data.toList[i] ≠ c ∧ z.data.toList = s.data.toList.set i c) → (rdp z).ok = false) := fun hb z hz => by
      have hb' := hB.trans hb
      have h0 : 0 < s.size := by rw [← hs, pktR_ok hb', sealedT_size]; omega
      have h1 := hz h0
      rw [← hs] at h1
      exact bent_no hb' h1
    clear hB hs hR
    go_wp2_with fail
    refine (C1.out _).mono ?_
    rintro e w2 ⟨rfl, hf2⟩
    have z2 := hf2.size
    simp only [World.size_alloc] at z2
    have B3 : Box w2 w1.heap.size #[.int .i64 p.f0, .int .i64 p.f1, .int .i64 p.f2, .int .i64 p.f3, .int .i64 p.f4, .string p.f5] 27 := (Box.new _ _ _).fr hf2
    go_wp2_with fail
    refine (C4.out _).mono ?_
    rintro e w3 ⟨rfl, hf3⟩
    have z3 := hf3.size
    have B3 := B3.fr hf3
    have F3 := B3.facts
    go_wp2_with fail
    refine (C3.out _).mono ?_
    rintro e w4 ⟨rfl, hf4⟩
    have z4 := hf4.size
    simp only [World.size_alloc] at z4
    have B3 := (B3.alloc _).fr hf4
    have B6 : Box w4 w3.heap.size #[.int .i64 R.e, .int .i64 R.f, .int .i64 R.t, .int .i64 R.q, .int .i64 R.a, .string R.s] 27 := (Box.new _ _ _).fr hf4
    clear F3
    have F3 := B3.facts
    have hbb : (B != B) = false := by simp
    go_wp2_with fail
    refine (C2.out _).mono ?_
    rintro e w5 ⟨rfl, hf5⟩
    have z5 := hf5.size
    have B3 := B3.fr hf5
    have B6 := B6.fr hf5
    clear F3
    have F3 := B3.facts
    have F6 := B6.facts
    have q1 : (p.f5.toList == p.f5.toList) = true := bytes_beq rfl
    have K1' : B = false ∨ (B = true ∧ R = ⟨p.f0, p.f1, p.f2, p.f3, p.f4, p.f5, true⟩) := by cases B; exact .inl rfl; exact .inr ⟨rfl, K1.out rfl⟩
    clear K1
    rcases K1' with rfl | ⟨rfl, rfl⟩
    all_goals
      go_wp2_with fail
      refine (DrawReadPacket_any ao n cap _ (HY.out.here (by repeat (first | (with_reducible exact Fr.refl _) | (with_reducible assumption) | (with_reducible refine Fr.drewN ?_ _) | (with_reducible refine Fr.drew ?_) | (with_reducible refine Fr.alloc ?_ _) | (with_reducible refine Fr.setCell ?_ (by (first | (with_reducible assumption) | omega | (simp only [World.size_alloc, World.size_setCell, World.size_drew, World.heap_drewN]; omega) | (simp; done) | (simp; omega))) _) | (with_reducible refine Fr.trans ?_ (by with_reducible assumption)))))).mono ?_
      rintro e w6 ⟨t, ht, rfl, hf6⟩
      have z6 := hf6.size
      obtain ⟨Z, hZ⟩ : ∃ Z, rdp t = Z := ⟨_, rfl⟩
      obtain ⟨u, hu⟩ : ∃ u, pktR Z.e Z.f Z.t Z.q Z.a Z.s = u := ⟨_, rfl⟩
      obtain ⟨V, hV⟩ : ∃ V, pktB Z.e Z.f Z.t Z.q Z.a Z.s = V := ⟨_, rfl⟩
      have C5 : Hid (∀ w', Calls Try.prog 48 #[.string t] w' fun e w'' => e = .returned (.tuple #[.agg #[.int .i64 Z.e, .int .i64 Z.f, .int .i64 Z.t, .int .i64 Z.q, .int .i64 Z.a, .string Z.s], .bool Z.ok]) ∧ Fr w' w'') := fun w' => by rw [← hZ]; exact implReadPacket_any t w' ht
      have C6 : Hid (∀ w', Calls Try.prog 52 #[.string t] w' fun e w'' => e = .returned (.tuple #[.agg #[.int .i64 Z.e, .int .i64 Z.f, .int .i64 Z.t, .int .i64 Z.q, .int .i64 Z.a, .string Z.s], .bool Z.ok]) ∧ Fr w' w'') := fun w' => by rw [← hZ]; exact specReadPacket_any t w' ht
      have C7 : Hid (∀ w', Calls Try.prog 18 #[.agg #[.int .i64 Z.e, .int .i64 Z.f, .int .i64 Z.t, .int .i64 Z.q, .int .i64 Z.a, .string Z.s]] w' fun e w'' => e = .returned (.tuple #[.string u, .bool V]) ∧ Fr w' w'') := fun w' => by rw [← hu, ← hV]; exact implPacketText_any _ _ _ _ _ _ w'
      have K3 : Hid (Z.ok = true → u = t) := fun h => by rw [← hu, ← hZ]; rw [← hZ] at h; exact rdp_text h
      clear hu hV
      go_wp2_with fail
      refine (C5.out _).mono ?_
      rintro e w7 ⟨rfl, hf7⟩
      have z7 := hf7.size
      go_wp2_with fail
      refine (C6.out _).mono ?_
      rintro e w8 ⟨rfl, hf8⟩
      have z8 := hf8.size
      simp only [World.size_alloc] at z8
      have B9 : Box w8 w7.heap.size #[.int .i64 Z.e, .int .i64 Z.f, .int .i64 Z.t, .int .i64 Z.q, .int .i64 Z.a, .string Z.s] 27 := (Box.new _ _ _).fr hf8
      have F9 := B9.facts
      clear F3 F6
      go_wp2_with fail
      refine (C7.out _).mono ?_
      rintro e w9 ⟨rfl, hf9⟩
      have z9 := hf9.size
      simp only [World.size_alloc] at z9
      clear F9
      go_wp2_with fail
      refine (DrawPlaces_any ao n cap _ (HY.out.here (by repeat (first | (with_reducible exact Fr.refl _) | (with_reducible assumption) | (with_reducible refine Fr.drewN ?_ _) | (with_reducible refine Fr.drew ?_) | (with_reducible refine Fr.alloc ?_ _) | (with_reducible refine Fr.setCell ?_ (by (first | (with_reducible assumption) | omega | (simp only [World.size_alloc, World.size_setCell, World.size_drew, World.heap_drewN]; omega) | (simp; done) | (simp; omega))) _) | (with_reducible refine Fr.trans ?_ (by with_reducible assumption)))))).mono ?_
      rintro e w10 ⟨ps, aop, capp, hpl, hpr, rfl, hp, hf10⟩
      have z10 := hf10.size
      have hpr' : IntsR w10 (.slice aop 12 capp) ps := by have := hp.rd; exact this
      clear hp
      have HPR := Lib.hid hpr
      have HP := Lib.hid hpr'
      have HPL := Lib.hid hpl
      clear hpr hpr' hpl
      go_wp2_with fail
      refine (turned_any s _ ps _ HP.out (by have := HPL.out; omega) HPR.out (by omega)).mono ?_
      rintro e w11 ⟨y, rfl, hys, hy, hf11⟩
      have HYY := Lib.hid hy
      clear hy
      have z11 := hf11.size
      obtain ⟨Y, hY⟩ : ∃ Y, rdp y = Y := ⟨_, rfl⟩
      have C8 : Hid (∀ w', Calls Try.prog 48 #[.string y] w' fun e w'' => e = .returned (.tuple #[.agg #[.int .i64 Y.e, .int .i64 Y.f, .int .i64 Y.t, .int .i64 Y.q, .int .i64 Y.a, .string Y.s], .bool Y.ok]) ∧ Fr w' w'') := fun w' => by rw [← hY]; exact implReadPacket_any y w' (by omega)
      have K4 : Hid (_ → Y.ok = false) := fun h => by rw [← hY]; exact K2.out h y HYY.out
      clear hY
      go_wp2_with fail
      refine (C8.out _).mono ?_
      rintro e w12 ⟨rfl, hf12⟩
      have z12 := hf12.size
      have hzz : (Z.ok == Z.ok) = true := beq_self_eq_true _
      obtain ⟨O, hO⟩ : ∃ O, Z.ok = O := ⟨_, rfl⟩
      rw [hO] at K3 hzz ⊢
      clear hO
      first
        | (have hy4 := K4.out (by first | exact rfl | exact True.intro)
           cases O
           · go_wp2_with fail
             go_ret
             exact ⟨ret_bool (by simp [hy4]), by repeat (first | (with_reducible exact Fr.refl _) | (with_reducible assumption) | (with_reducible refine Fr.drewN ?_ _) | (with_reducible refine Fr.drew ?_) | (with_reducible refine Fr.alloc ?_ _) | (with_reducible refine Fr.setCell ?_ (by (first | (with_reducible assumption) | omega | (simp only [World.size_alloc, World.size_setCell, World.size_drew, World.heap_drewN]; omega) | (simp; done) | (simp; omega))) _) | (with_reducible refine Fr.trans ?_ (by with_reducible assumption)))⟩
           · have hut := K3.out rfl
             subst hut
             have q2 : (u.toList == u.toList) = true := bytes_beq rfl
             go_wp2_with fail
             go_ret
             exact ⟨ret_bool (by simp [hy4]), by repeat (first | (with_reducible exact Fr.refl _) | (with_reducible assumption) | (with_reducible refine Fr.drewN ?_ _) | (with_reducible refine Fr.drew ?_) | (with_reducible refine Fr.alloc ?_ _) | (with_reducible refine Fr.setCell ?_ (by (first | (with_reducible assumption) | omega | (simp only [World.size_alloc, World.size_setCell, World.size_drew, World.heap_drewN]; omega) | (simp; done) | (simp; omega))) _) | (with_reducible refine Fr.trans ?_ (by with_reducible assumption)))⟩)
        | (cases O
           · go_wp2_with fail
             go_ret
             exact ⟨rfl, by repeat (first | (with_reducible exact Fr.refl _) | (with_reducible assumption) | (with_reducible refine Fr.drewN ?_ _) | (with_reducible refine Fr.drew ?_) | (with_reducible refine Fr.alloc ?_ _) | (with_reducible refine Fr.setCell ?_ (by (first | (with_reducible assumption) | omega | (simp only [World.size_alloc, World.size_setCell, World.size_drew, World.heap_drewN]; omega) | (simp; done) | (simp; omega))) _) | (with_reducible refine Fr.trans ?_ (by with_reducible assumption)))⟩
           · have hut := K3.out rfl
             subst hut
             have q2 : (u.toList == u.toList) = true := bytes_beq rfl
             go_wp2_with fail
             go_ret
             exact ⟨rfl, by repeat (first | (with_reducible exact Fr.refl _) | (with_reducible assumption) | (with_reducible refine Fr.drewN ?_ _) | (with_reducible refine Fr.drew ?_) | (with_reducible refine Fr.alloc ?_ _) | (with_reducible refine Fr.setCell ?_ (by (first | (with_reducible assumption) | omega | (simp only [World.size_alloc, World.size_setCell, World.size_drew, World.heap_drewN]; omega) | (simp; done) | (simp; omega))) _) | (with_reducible refine Fr.trans ?_ (by with_reducible assumption)))⟩)
  · go_enter Try.func8, Try.ntmps8
    go_wp2_with (go_at_call 19; refine (big_any _ _ _ _ hn).mono ?_; rintro e w0 ⟨rfl, rfl⟩)
    go_ret
    exact ⟨rfl, by repeat (first | (with_reducible exact Fr.refl _) | (with_reducible assumption) | (with_reducible refine Fr.drewN ?_ _) | (with_reducible refine Fr.drew ?_) | (with_reducible refine Fr.alloc ?_ _) | (with_reducible refine Fr.setCell ?_ (by (first | (with_reducible assumption) | omega | (simp only [World.size_alloc, World.size_setCell, World.size_drew, World.heap_drewN]; omega) | (simp; done) | (simp; omega))) _) | (with_reducible refine Fr.trans ?_ (by with_reducible assumption)))⟩
end Go.Proofs.Ytnlcgffffjjojaa
