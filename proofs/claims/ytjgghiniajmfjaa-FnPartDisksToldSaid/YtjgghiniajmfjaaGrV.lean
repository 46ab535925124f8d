/- impl.ReadGraph. Condition: the text is no longer than the laws allow. (Printed by mk_grv.py.) -/
import Derived.Test.YtjgghiniajmfjaaGrR
namespace Go.Proofs.Ytjgghiniajmfjaa
open Go.RowKit
set_option linter.unusedVariables false
set_option linter.unusedSimpArgs false
theorem grI_as (s : ByteArray) (g : GraphD) (n : Int) (a : Nat) (bad : Bool) : grI s (g, n, ⟨a, bad⟩) = ((!bad && decide (a = s.size)) && (decide ((g.f1.length : Int) = n) && graphB g)) := by unfold grI; simp [Bool.and_assoc]
set_option maxHeartbeats 8000000 in
set_option maxRecDepth 100000 in
theorem implReadGraph_any (s : ByteArray) (w : World) (hs : s.size ≤ 1048576) :
    Calls Try.prog 124 #[.string s] w fun e w' => ∃ ao0 cap0, e = .returned (.tuple #[.agg #[.int .i64 (rdG s).f0, .slice ao0 (rdG s).f1.length cap0], .bool (rdGB s)]) ∧ GraphW w' w.heap.size w'.heap.size (.agg #[.int .i64 (rdG s).f0, .slice ao0 (rdG s).f1.length cap0]) (rdG s) ∧ Fr w w' := by
  obtain ⟨⟨n0, ⟨a1, b1⟩⟩, q1⟩ : ∃ r, scVar s ⟨0, false⟩ = r := ⟨_, rfl⟩
  have ha1 := scVar_le (s := s) (c := ⟨0, false⟩) (Nat.zero_le _)
  have hn0 := scVar_nat s ⟨0, false⟩ (Nat.zero_le _)
  rw [q1] at ha1 hn0
  simp only [] at ha1 hn0
  have C0 : Hid (∀ b w', Box w' b #[.string s, .int .i64 0, .bool false] 193 → Calls Try.prog 187 #[.pointer (some ⟨b, 0, none⟩)] w' fun e w'' => e = .returned (.int .i64 n0) ∧ Box w'' b #[.string s, .int .i64 (a1 : Int), .bool b1] 193 ∧ Span b (b + 1) w' w'') := Lib.hid fun b w' hb => by have := number_any b 0 false s w' hb (by omega) (by omega); rw [q1] at this; exact this
  obtain ⟨⟨n, ⟨a2, b2⟩⟩, q2⟩ : ∃ r, scVar s ⟨a1, b1⟩ = r := ⟨_, rfl⟩
  have hn := scVar_nat s ⟨a1, b1⟩ ha1
  have ha2 := scVar_le (s := s) (c := ⟨a1, b1⟩) ha1
  rw [q2] at hn ha2
  simp only [] at hn ha2
  obtain ⟨M, hM⟩ : ∃ M, (min n (41 : Nat)).toNat = M := ⟨_, rfl⟩
  obtain ⟨⟨wz, ⟨az, bz⟩⟩, q3⟩ : ∃ r, egG s M ⟨a2, b2⟩ = r := ⟨_, rfl⟩
  have haz := egG_le (s := s) M ⟨a2, b2⟩ ha2
  rw [q3] at haz
  simp only [] at haz
  have HPQ := grP_of (F := 41) (xs := wz) (e := ⟨az, bz⟩) q1 q2 (by rw [hM]; exact q3)
  have hMn : (M : Int) ≤ n ∧ M ≤ 41 ∧ ((M : Int) = n ∨ M = 41) := by omega
  have HQ3 := Lib.hid q3
  have C1 : Hid (∀ b w', Box w' b #[.string s, .int .i64 (a1 : Int), .bool b1] 193 → Calls Try.prog 187 #[.pointer (some ⟨b, 0, none⟩)] w' fun e w'' => e = .returned (.int .i64 n) ∧ Box w'' b #[.string s, .int .i64 (a2 : Int), .bool b2] 193 ∧ Span b (b + 1) w' w'') := Lib.hid fun b w' hb => by have := number_any b a1 b1 s w' hb (by omega) ha1; rw [q2] at this; exact this
  obtain ⟨i0, hi, hz0, hz1, hz2⟩ := info_parts info_Edge
  have HRL : Hid (rdG s = grX (grI s (grP 41 s)) (grP 41 s)) := Lib.hid rfl
  have HRB : Hid (rdGB s = grI s (grP 41 s)) := Lib.hid rfl
  rw [HPQ] at HRL HRB
  clear HPQ q1 q2 q3 hM
  go_enter Try.func124, Try.ntmps124
  go_wp2_with fail
  refine (C0.out _ _ (Box.new' (by simp))).mono ?_
  rintro e w1 ⟨rfl, BC, sp1⟩
  have z1 := sp1.size; (try simp only [World.size_alloc] at z1)
  have BR : Box w1 w.heap.size #[.int .i64 0, .slice none 0 0] 32 := ((Box.new _ _ _).alloc _).span sp1 (.inl (by omega))
  have hf1 : Fr w w1 := Span.fr (show Fr w _ by repeat (first | (with_reducible exact Fr.refl _) | (with_reducible assumption) | (with_reducible refine Fr.drewN ?_ _) | (with_reducible refine Fr.drew ?_) | (with_reducible refine Fr.alloc ?_ _) | (with_reducible refine Fr.setCell ?_ (by (first | (with_reducible assumption) | omega | (simp only [World.size_alloc, World.size_setCell, World.size_drew, World.heap_drewN]; omega) | (simp; done) | (simp; omega))) _) | (with_reducible refine Fr.trans ?_ (by with_reducible assumption)))) sp1 (by omega)
  obtain ⟨hx, hhx⟩ : ∃ hx, w1.heap.size = hx := ⟨_, rfl⟩
  have BX : Box (w1.alloc (.cells #[.int .i64 n0, .slice none 0 0] 32)) hx #[.int .i64 n0, .slice none 0 0] 32 := Box.new' hhx.symm
  have BR0 := BR
  have BC0 := BC
  have BR := BR.alloc (.cells #[.int .i64 n0, .slice none 0 0] 32)
  have BC := BC.alloc (.cells #[.int .i64 n0, .slice none 0 0] 32)
  rw [hhx] at z1
  have hxb : w.heap.size + 1 < hx := by omega
  go_wp2_with fail
  refine (C1.out _ _ BC).mono ?_
  rintro e w2 ⟨rfl, BC', sp2⟩
  have zw2 := sp2.size; (try simp only [World.size_alloc, World.size_setCell] at zw2)
  have BX := BX.span sp2 (.inr (by omega))
  have BR := BR.span sp2 (.inl (by omega))
  have hfw2 : Fr w w2 := Span.fr (show Fr w _ by repeat (first | (with_reducible exact Fr.refl _) | (with_reducible assumption) | (with_reducible refine Fr.drewN ?_ _) | (with_reducible refine Fr.drew ?_) | (with_reducible refine Fr.alloc ?_ _) | (with_reducible refine Fr.setCell ?_ (by (first | (with_reducible assumption) | omega | (simp only [World.size_alloc, World.size_setCell, World.size_drew, World.heap_drewN]; omega) | (simp; done) | (simp; omega))) _) | (with_reducible refine Fr.trans ?_ (by with_reducible assumption)))) sp2 (by omega)
  have BC := BC'
  clear BC'
  try rw [hhx]
  go_wp2_with fail
  go_loopw [7, 8, 9] (fun i _ _ wr => ∃ (k a : Nat) (bad : Bool) (ys : List EdgeR) (ay : Option Addr) (cy : Nat), k ≤ M ∧ i = .int .i64 k ∧ ys.length = k ∧ a ≤ s.size ∧ Hid ((egG s (M - k) ⟨a, bad⟩).2 = ⟨az, bz⟩ ∧ ys ++ (egG s (M - k) ⟨a, bad⟩).1 = wz) ∧ Box wr (w.heap.size + 1) #[.string s, .int .i64 (a : Int), .bool bad] 193 ∧ Box wr hx #[.int .i64 n0, .slice ay ys.length cy] 32 ∧ Box wr w.heap.size #[.int .i64 0, .slice none 0 0] 32 ∧ Hid (EdgesW wr (hx + 1) wr.heap.size (.slice ay ys.length cy) ys) ∧ hx + 1 ≤ wr.heap.size ∧ Fr w wr) (fun i _ _ _ => M - (intOf i).toNat)
  case atStart => exact ⟨0, a2, b2, [], none, 0, Nat.zero_le _, rfl, rfl, ha2, Lib.hid (by rw [Nat.sub_zero, HQ3.out]; exact ⟨rfl, rfl⟩), BC, BX, BR, Lib.hid (OwW.nil _ _ _ _ _), by omega, hfw2⟩
  case round =>
    clear BC BX BR HQ3
    obtain ⟨k, a, bad, ys, ay, cy, hk, rfl, hyl, ha, hd, BC, BX, BR, HW, hzr, hfr⟩ := hrel
    have HYL := Lib.hid hyl
    have hyk : ys.length ≤ 41 := by omega
    have hyz : (ys.length : Int) = k := by omega
    have HYZ := Lib.hid hyz
    clear hyl hyz
    have FC := BC.facts
    have FX := BX.facts
    have FR0 := BR.facts
    by_cases hgo : k < M ∧ bad = false
    · obtain ⟨hkM, rfl⟩ := hgo
      have hk1 : (k : Int) < n := by omega
      have hk2 : (k : Int) ≤ 40 := by omega
      obtain ⟨⟨v0, ⟨c0, d0⟩⟩, p0⟩ : ∃ r, scVar s ⟨a, false⟩ = r := ⟨_, rfl⟩
      have hv0 := scVar_nat s ⟨a, false⟩ ha
      have hc0 := scVar_le (s := s) (c := ⟨a, false⟩) ha
      rw [p0] at hv0 hc0
      simp only [] at hv0 hc0
      have D0 : Hid (∀ b w', Box w' b #[.string s, .int .i64 (a : Int), .bool false] 193 → Calls Try.prog 187 #[.pointer (some ⟨b, 0, none⟩)] w' fun e w'' => e = .returned (.int .i64 v0) ∧ Box w'' b #[.string s, .int .i64 (c0 : Int), .bool d0] 193 ∧ Span b (b + 1) w' w'') := Lib.hid fun b w' hb => by have := number_any b a false s w' hb (by omega) ha; rw [p0] at this; exact this
      obtain ⟨⟨v1, ⟨c1, d1⟩⟩, p1⟩ : ∃ r, scByte s ⟨c0, d0⟩ = r := ⟨_, rfl⟩
      have hv1 := scByte_nat s ⟨c0, d0⟩
      have hc1 := scByte_le (s := s) (c := ⟨c0, d0⟩) hc0
      rw [p1] at hv1 hc1
      simp only [] at hv1 hc1
      obtain ⟨l, rfl⟩ := u8_of hv1.1 hv1.2
      have D1 : Hid (∀ b w', Box w' b #[.string s, .int .i64 (c0 : Int), .bool d0] 193 → Calls Try.prog 148 #[.pointer (some ⟨b, 0, none⟩)] w' fun e w'' => e = .returned (.int .u8 (l.toNat : Int)) ∧ Box w'' b #[.string s, .int .i64 (c1 : Int), .bool d1] 193 ∧ Span b (b + 1) w' w'') := Lib.hid fun b w' hb => by have := octet_any b c0 d0 s w' hb (by omega); rw [p1] at this; exact this
      obtain ⟨⟨v2, ⟨c2, d2⟩⟩, p2⟩ : ∃ r, scVar s ⟨c1, d1⟩ = r := ⟨_, rfl⟩
      have hv2 := scVar_nat s ⟨c1, d1⟩ hc1
      have hc2 := scVar_le (s := s) (c := ⟨c1, d1⟩) hc1
      rw [p2] at hv2 hc2
      simp only [] at hv2 hc2
      have D2 : Hid (∀ b w', Box w' b #[.string s, .int .i64 (c1 : Int), .bool d1] 193 → Calls Try.prog 187 #[.pointer (some ⟨b, 0, none⟩)] w' fun e w'' => e = .returned (.int .i64 v2) ∧ Box w'' b #[.string s, .int .i64 (c2 : Int), .bool d2] 193 ∧ Span b (b + 1) w' w'') := Lib.hid fun b w' hb => by have := number_any b c1 d1 s w' hb (by omega) hc1; rw [p2] at this; exact this
      have hd2 : Hid ((egG s (M - (k + 1)) ⟨c2, d2⟩).2 = ⟨az, bz⟩ ∧ (ys ++ [⟨v0, l, v2⟩]) ++ (egG s (M - (k + 1)) ⟨c2, d2⟩).1 = wz) := Lib.hid (by
        have := hd.out
        rw [egG_next p0 p1 p2 (by omega), Int.toNat_natCast, UInt8.ofNat_toNat] at this
        rw [List.append_assoc]
        exact this)
      have HCA := Lib.hid (edges_snoc ys ⟨v0, l, v2⟩)
      have HLA := Lib.hid (show (ys ++ [(⟨v0, l, v2⟩ : EdgeR)]).length = ys.length + 1 by simp)
      clear p0 p1 p2 hd
      go_wp2_with fail
      refine (D0.out _ _ BC).mono ?_
      rintro e w4 ⟨rfl, BC4, sp4⟩
      have z4 := sp4.size
      have BX4 := BX.span sp4 (.inr (by omega))
      have BR4 := BR.span sp4 (.inl (by omega))
      have HW4 := Lib.hid (OwW.span HW.out sp4 (.inr (by omega)))
      have hf4 : Fr w w4 := Span.fr hfr sp4 (by omega)
      clear FC FX FR0 BC BX BR HW
      go_wp2_with fail
      refine (D1.out _ _ BC4).mono ?_
      rintro e w5 ⟨rfl, BC5, sp5⟩
      have z5 := sp5.size
      have BX5 := BX4.span sp5 (.inr (by omega))
      have BR5 := BR4.span sp5 (.inl (by omega))
      have HW5 := Lib.hid (OwW.span HW4.out sp5 (.inr (by omega)))
      have hf5 : Fr w w5 := Span.fr hf4 sp5 (by omega)
      have FX5 := BX5.facts
      clear BX4 BR4 HW4 BC4
      go_wp2_with fail
      go_region_law (first | (go_simp; go_at_call 187; refine (D2.out _ _ BC5.drew).mono ?_; rintro e w6 ⟨rfl, BC6, sp6⟩; have z6 := sp6.size; (try simp only [World.size_drew] at z6); have BX6 := BX5.drew.span sp6 (.inr (by omega)); have FX6 := BX6.facts; have HW6 := Lib.hid (OwW.span (OwW.drew HW5.out) sp6 (.inr (by omega)))) | ((refine step_append_rd (by rfl) _ _ 30 (by rfl) (hx + 1) 157 i0 (.agg #[.int .i64 0, .int .u8 0, .int .i64 0]) 3 24 Try.underlying30 hi hz0 hz1 hz2 rfl (by decide) (.slice ay ys.length cy) ys.length (ys.flatMap EdgeR.cells) (by rfl) (World.ownsRow.alloc HW6.out.1 _) _ 1 [.int .i64 v0, .int .u8 (l.toNat : Int), .int .i64 v2] (by rfl) (RdS.new (by first | rfl | (simp; done)) rfl) (by simp [Value.oneCell']) (by unfold maxLen; omega) (by omega) (by (first | (with_reducible assumption) | omega | (simp only [World.size_alloc, World.size_setCell, World.size_drew, World.heap_drewN]; omega) | (simp; done) | (simp; omega))) ?_; intro ay2 cy2 w9 hown hgrow hat; have BX9 := (BX6.alloc (.cells #[.int .i64 v0, .int .u8 (l.toNat : Int), .int .i64 v2] 157)).row hgrow HW6.out.2 (.inl (by omega)); have FX9 := BX9.facts)))
      all_goals
        have BR6 := BR5.drew.span sp6 (.inl (by omega))
        have hf6 : Fr w w6 := Span.fr (show Fr w _ by repeat (first | (with_reducible exact Fr.refl _) | (with_reducible assumption) | (with_reducible refine Fr.drewN ?_ _) | (with_reducible refine Fr.drew ?_) | (with_reducible refine Fr.alloc ?_ _) | (with_reducible refine Fr.setCell ?_ (by (first | (with_reducible assumption) | omega | (simp only [World.size_alloc, World.size_setCell, World.size_drew, World.heap_drewN]; omega) | (simp; done) | (simp; omega))) _) | (with_reducible refine Fr.trans ?_ (by with_reducible assumption)))) sp6 (by omega)
        have s9 : Span (hx + 1) wr.heap.size (w6.alloc (.cells #[.int .i64 v0, .int .u8 (l.toNat : Int), .int .i64 v2] 157)) w9 := Span.mono (Span.of_gr hgrow (fun g hg => HW6.out.2 g hg)) (Nat.le_refl _) (by omega)
        have z9 := s9.size
        simp only [World.size_alloc] at z9
        have BC9 := (BC6.alloc (.cells #[.int .i64 v0, .int .u8 (l.toNat : Int), .int .i64 v2] 157)).span s9 (.inl (by omega))
        have BR9 := (BR6.alloc (.cells #[.int .i64 v0, .int .u8 (l.toNat : Int), .int .i64 v2] 157)).span s9 (.inl (by omega))
        have hf9 : Fr w w9 := Span.fr (show Fr w _ by repeat (first | (with_reducible exact Fr.refl _) | (with_reducible assumption) | (with_reducible refine Fr.drewN ?_ _) | (with_reducible refine Fr.drew ?_) | (with_reducible refine Fr.alloc ?_ _) | (with_reducible refine Fr.setCell ?_ (by (first | (with_reducible assumption) | omega | (simp only [World.size_alloc, World.size_setCell, World.size_drew, World.heap_drewN]; omega) | (simp; done) | (simp; omega))) _) | (with_reducible refine Fr.trans ?_ (by with_reducible assumption)))) s9 (by omega)
        rw [← HCA.out] at hown
        have hW9 : EdgesW w9 (hx + 1) w9.heap.size (.slice ay2 (ys ++ [(⟨v0, l, v2⟩ : EdgeR)]).length cy2) (ys ++ [⟨v0, l, v2⟩]) := by
          have := OwW.of_owns hown
          rw [← HLA.out] at this
          exact this
        go_wp2_with fail
        go_roundw
        case rel => exact ⟨k + 1, c2, d2, ys ++ [⟨v0, l, v2⟩], ay2, cy2, by omega, by go_num, by rw [HLA.out, HYL.out], hc2, hd2, BC9.far (by omega) _, by rw [HLA.out]; exact BX9.set_to (by simp), BR9.far (by omega) _, Lib.hid (by rw [World.size_setCell]; exact OwW.set hW9 (.inl (by show hx < hx + 1; omega)) _), by simp; omega, by repeat (first | (with_reducible exact Fr.refl _) | (with_reducible assumption) | (with_reducible refine Fr.drewN ?_ _) | (with_reducible refine Fr.drew ?_) | (with_reducible refine Fr.alloc ?_ _) | (with_reducible refine Fr.setCell ?_ (by (first | (with_reducible assumption) | omega | (simp only [World.size_alloc, World.size_setCell, World.size_drew, World.heap_drewN]; omega) | (simp; done) | (simp; omega))) _) | (with_reducible refine Fr.trans ?_ (by with_reducible assumption)))⟩
        case measure => (simp [intOf]; omega)
    · have hend : ys = wz ∧ a = az ∧ bad = bz := by
        have := hd.out
        by_cases hkM : k < M
        · have hb : bad = true := by cases bad <;> simp_all
          rw [egG_stop hb] at this
          simpa using this.symm
        · rw [show M - k = 0 by omega] at this
          simpa [egG] using this.symm
      obtain ⟨rfl, rfl, rfl⟩ := hend
      have hg : (¬ (k : Int) < n) ∨ ((k : Int) < n ∧ ¬ (k : Int) ≤ 40) ∨ ((k : Int) < n ∧ (k : Int) ≤ 40 ∧ bad = true) := by
        by_cases h1 : (k : Int) < n
        · by_cases h2 : (k : Int) ≤ 40
          · refine .inr (.inr ⟨h1, h2, ?_⟩)
            have h3 : k < M := by omega
            cases bad <;> simp_all
          · exact .inr (.inl ⟨h1, h2⟩)
        · exact .inl h1
      clear hgo hd
      have C7 : Hid (∀ w', Fr wr w' → Calls Try.prog 188 #[.pointer (some ⟨w.heap.size + 1, 0, none⟩)] w' fun e w'' => e = .returned (.bool (!bad && decide (a = s.size))) ∧ Fr w' w'') := Lib.hid fun w' hf => done_any _ _ _ _ _ (BC.fr hf)
      have CT : Hid (∀ w', Fr wr w' → Calls Try.prog 90 #[.agg #[.int .i64 n0, .slice ay ys.length cy]] w' fun e w'' => e = .returned (.bool (graphB ⟨n0, ys⟩)) ∧ Fr w' w'') := Lib.hid fun w' hf => implGraphOk_any _ n0 ys w' (RdS.fr (OwW.rd HW.out) hf)
      have HG := Lib.hid (grI_as s ⟨n0, ys⟩ n a bad)
      obtain ⟨dn, hdn⟩ : ∃ dn, (!bad && decide (a = s.size)) = dn := ⟨_, rfl⟩
      obtain ⟨lb, hlb⟩ : ∃ lb, graphB ⟨n0, ys⟩ = lb := ⟨_, rfl⟩
      rw [hdn] at C7 HG
      rw [hlb] at CT HG
      clear hdn hlb
      cases dn
      · have HF : Hid (grI s (⟨n0, ys⟩, n, ⟨a, bad⟩) = false) := Lib.hid (by rw [HG.out]; rfl)
        rcases hg with hg | ⟨hg1, hg2⟩ | ⟨hg1, hg2, rfl⟩
        all_goals
          go_wp2_with fail
          refine (C7.out _ (by repeat (first | (with_reducible exact Fr.refl _) | (with_reducible assumption) | (with_reducible refine Fr.drewN ?_ _) | (with_reducible refine Fr.drew ?_) | (with_reducible refine Fr.alloc ?_ _) | (with_reducible refine Fr.setCell ?_ (by (first | (with_reducible assumption) | omega | (simp only [World.size_alloc, World.size_setCell, World.size_drew, World.heap_drewN]; omega) | (simp; done) | (simp; omega))) _) | (with_reducible refine Fr.trans ?_ (by with_reducible assumption))))).mono ?_
          rintro e w8 ⟨rfl, hf8⟩
          have hw8 : Fr wr w8 := Fr.trans (by repeat (first | (with_reducible exact Fr.refl _) | (with_reducible assumption) | (with_reducible refine Fr.drewN ?_ _) | (with_reducible refine Fr.drew ?_) | (with_reducible refine Fr.alloc ?_ _) | (with_reducible refine Fr.setCell ?_ (by (first | (with_reducible assumption) | omega | (simp only [World.size_alloc, World.size_setCell, World.size_drew, World.heap_drewN]; omega) | (simp; done) | (simp; omega))) _) | (with_reducible refine Fr.trans ?_ (by with_reducible assumption)))) hf8
          have BX8 := BX.fr hw8
          have FX8 := BX8.facts
          have BR8 := BR.fr hw8
          have FR8 := BR8.facts
          clear FC FX FR0 hf8
          go_wp2_with fail
          rw [HRL.out, HRB.out, HF.out, grX_f]
          refine bodyPost_ret (v := .tuple #[.agg #[.int .i64 0, .slice none 0 0], .bool false]) (by simp [results, Try.results124, go_sem, *]) rfl ⟨none, 0, rfl, ⟨none, 0, rfl, OwW.nil _ _ _ _ _⟩, by repeat (first | (with_reducible exact Fr.refl _) | (with_reducible assumption) | (with_reducible refine Fr.drewN ?_ _) | (with_reducible refine Fr.drew ?_) | (with_reducible refine Fr.alloc ?_ _) | (with_reducible refine Fr.setCell ?_ (by (first | (with_reducible assumption) | omega | (simp only [World.size_alloc, World.size_setCell, World.size_drew, World.heap_drewN]; omega) | (simp; done) | (simp; omega))) _) | (with_reducible refine Fr.trans ?_ (by with_reducible assumption)))⟩
      · by_cases hl : (ys.length : Int) = n
        · have hle : ((ys.length : Int) != n) = false := by simpa using hl
          have HL := Lib.hid hl
          clear hl
          cases lb
          · have HF : Hid (grI s (⟨n0, ys⟩, n, ⟨a, bad⟩) = false) := Lib.hid (by rw [HG.out]; simp)
            rcases hg with hg | ⟨hg1, hg2⟩ | ⟨hg1, hg2, rfl⟩
            all_goals
              go_wp2_with fail
              refine (C7.out _ (by repeat (first | (with_reducible exact Fr.refl _) | (with_reducible assumption) | (with_reducible refine Fr.drewN ?_ _) | (with_reducible refine Fr.drew ?_) | (with_reducible refine Fr.alloc ?_ _) | (with_reducible refine Fr.setCell ?_ (by (first | (with_reducible assumption) | omega | (simp only [World.size_alloc, World.size_setCell, World.size_drew, World.heap_drewN]; omega) | (simp; done) | (simp; omega))) _) | (with_reducible refine Fr.trans ?_ (by with_reducible assumption))))).mono ?_
              rintro e w8 ⟨rfl, hf8⟩
              have hw8 : Fr wr w8 := Fr.trans (by repeat (first | (with_reducible exact Fr.refl _) | (with_reducible assumption) | (with_reducible refine Fr.drewN ?_ _) | (with_reducible refine Fr.drew ?_) | (with_reducible refine Fr.alloc ?_ _) | (with_reducible refine Fr.setCell ?_ (by (first | (with_reducible assumption) | omega | (simp only [World.size_alloc, World.size_setCell, World.size_drew, World.heap_drewN]; omega) | (simp; done) | (simp; omega))) _) | (with_reducible refine Fr.trans ?_ (by with_reducible assumption)))) hf8
              have BX8 := BX.fr hw8
              have FX8 := BX8.facts
              have BR8 := BR.fr hw8
              have FR8 := BR8.facts
              clear FC FX FR0 hf8
              go_wp2_with fail
              refine (CT.out _ (by repeat (first | (with_reducible exact Fr.refl _) | (with_reducible assumption) | (with_reducible refine Fr.drewN ?_ _) | (with_reducible refine Fr.drew ?_) | (with_reducible refine Fr.alloc ?_ _) | (with_reducible refine Fr.setCell ?_ (by (first | (with_reducible assumption) | omega | (simp only [World.size_alloc, World.size_setCell, World.size_drew, World.heap_drewN]; omega) | (simp; done) | (simp; omega))) _) | (with_reducible refine Fr.trans ?_ (by with_reducible assumption))))).mono ?_
              rintro e w9 ⟨rfl, hf9⟩
              have hw9 : Fr w8 w9 := Fr.trans (by repeat (first | (with_reducible exact Fr.refl _) | (with_reducible assumption) | (with_reducible refine Fr.drewN ?_ _) | (with_reducible refine Fr.drew ?_) | (with_reducible refine Fr.alloc ?_ _) | (with_reducible refine Fr.setCell ?_ (by (first | (with_reducible assumption) | omega | (simp only [World.size_alloc, World.size_setCell, World.size_drew, World.heap_drewN]; omega) | (simp; done) | (simp; omega))) _) | (with_reducible refine Fr.trans ?_ (by with_reducible assumption)))) hf9
              have FX9 := (BX8.fr hw9).facts
              have BR9 := BR8.fr hw9
              have FR9 := BR9.facts
              clear FX8 FR8 hf9
              go_wp2_with fail
              rw [HRL.out, HRB.out, HF.out, grX_f]
              refine bodyPost_ret (v := .tuple #[.agg #[.int .i64 0, .slice none 0 0], .bool false]) (by simp [results, Try.results124, go_sem, *]) rfl ⟨none, 0, rfl, ⟨none, 0, rfl, OwW.nil _ _ _ _ _⟩, by repeat (first | (with_reducible exact Fr.refl _) | (with_reducible assumption) | (with_reducible refine Fr.drewN ?_ _) | (with_reducible refine Fr.drew ?_) | (with_reducible refine Fr.alloc ?_ _) | (with_reducible refine Fr.setCell ?_ (by (first | (with_reducible assumption) | omega | (simp only [World.size_alloc, World.size_setCell, World.size_drew, World.heap_drewN]; omega) | (simp; done) | (simp; omega))) _) | (with_reducible refine Fr.trans ?_ (by with_reducible assumption)))⟩
          · have HF : Hid (grI s (⟨n0, ys⟩, n, ⟨a, bad⟩) = true) := Lib.hid (by rw [HG.out, decide_eq_true HL.out]; rfl)
            rcases hg with hg | ⟨hg1, hg2⟩ | ⟨hg1, hg2, rfl⟩
            all_goals
              go_wp2_with fail
              refine (C7.out _ (by repeat (first | (with_reducible exact Fr.refl _) | (with_reducible assumption) | (with_reducible refine Fr.drewN ?_ _) | (with_reducible refine Fr.drew ?_) | (with_reducible refine Fr.alloc ?_ _) | (with_reducible refine Fr.setCell ?_ (by (first | (with_reducible assumption) | omega | (simp only [World.size_alloc, World.size_setCell, World.size_drew, World.heap_drewN]; omega) | (simp; done) | (simp; omega))) _) | (with_reducible refine Fr.trans ?_ (by with_reducible assumption))))).mono ?_
              rintro e w8 ⟨rfl, hf8⟩
              have hw8 : Fr wr w8 := Fr.trans (by repeat (first | (with_reducible exact Fr.refl _) | (with_reducible assumption) | (with_reducible refine Fr.drewN ?_ _) | (with_reducible refine Fr.drew ?_) | (with_reducible refine Fr.alloc ?_ _) | (with_reducible refine Fr.setCell ?_ (by (first | (with_reducible assumption) | omega | (simp only [World.size_alloc, World.size_setCell, World.size_drew, World.heap_drewN]; omega) | (simp; done) | (simp; omega))) _) | (with_reducible refine Fr.trans ?_ (by with_reducible assumption)))) hf8
              have BX8 := BX.fr hw8
              have FX8 := BX8.facts
              have BR8 := BR.fr hw8
              have FR8 := BR8.facts
              clear FC FX FR0 hf8
              go_wp2_with fail
              refine (CT.out _ (by repeat (first | (with_reducible exact Fr.refl _) | (with_reducible assumption) | (with_reducible refine Fr.drewN ?_ _) | (with_reducible refine Fr.drew ?_) | (with_reducible refine Fr.alloc ?_ _) | (with_reducible refine Fr.setCell ?_ (by (first | (with_reducible assumption) | omega | (simp only [World.size_alloc, World.size_setCell, World.size_drew, World.heap_drewN]; omega) | (simp; done) | (simp; omega))) _) | (with_reducible refine Fr.trans ?_ (by with_reducible assumption))))).mono ?_
              rintro e w9 ⟨rfl, hf9⟩
              have hw9 : Fr w8 w9 := Fr.trans (by repeat (first | (with_reducible exact Fr.refl _) | (with_reducible assumption) | (with_reducible refine Fr.drewN ?_ _) | (with_reducible refine Fr.drew ?_) | (with_reducible refine Fr.alloc ?_ _) | (with_reducible refine Fr.setCell ?_ (by (first | (with_reducible assumption) | omega | (simp only [World.size_alloc, World.size_setCell, World.size_drew, World.heap_drewN]; omega) | (simp; done) | (simp; omega))) _) | (with_reducible refine Fr.trans ?_ (by with_reducible assumption)))) hf9
              have FX9 := (BX8.fr hw9).facts
              have BR9 := BR8.fr hw9
              have FR9 := BR9.facts
              clear FX8 FR8 hf9
              go_wp2_with fail
              rw [HRL.out, HRB.out, HF.out, grX_t]
              refine bodyPost_ret (v := .tuple #[.agg #[.int .i64 n0, .slice ay ys.length cy], .bool true]) (by simp [results, Try.results124, go_sem, *]) rfl ⟨_, _, rfl, ⟨_, _, rfl, ?_⟩, by repeat (first | (with_reducible exact Fr.refl _) | (with_reducible assumption) | (with_reducible refine Fr.drewN ?_ _) | (with_reducible refine Fr.drew ?_) | (with_reducible refine Fr.alloc ?_ _) | (with_reducible refine Fr.setCell ?_ (by (first | (with_reducible assumption) | omega | (simp only [World.size_alloc, World.size_setCell, World.size_drew, World.heap_drewN]; omega) | (simp; done) | (simp; omega))) _) | (with_reducible refine Fr.trans ?_ (by with_reducible assumption)))⟩
              have HO := Lib.hid (OwW.mono (OwW.fr HW.out (Fr.trans hw8 hw9)) (Nat.le_refl _) (Fr.trans hw8 hw9).size)
              refine OwW.mono (lo := hx + 1) (hi := w9.heap.size) ?_ (by omega) (by simp)
              change OwW _ _ _ _ _ _ _ _; (repeat (first | (with_reducible refine OwW.drewN ?_ _) | (with_reducible refine OwW.drew ?_) | (with_reducible refine OwW.alloc ?_ _) | (with_reducible refine OwW.set ?_ (by (first | (with_reducible assumption) | omega | (simp only [World.size_alloc, World.size_setCell, World.size_drew, World.heap_drewN]; omega) | (simp; done) | (simp; omega))) _) | (exact HO.out)))
        · have hle : ((ys.length : Int) != n) = true := by simpa using hl
          have HF : Hid (grI s (⟨n0, ys⟩, n, ⟨a, bad⟩) = false) := Lib.hid (by rw [HG.out, decide_eq_false hl]; rfl)
          clear hl
          rcases hg with hg | ⟨hg1, hg2⟩ | ⟨hg1, hg2, rfl⟩
          all_goals
            go_wp2_with fail
            refine (C7.out _ (by repeat (first | (with_reducible exact Fr.refl _) | (with_reducible assumption) | (with_reducible refine Fr.drewN ?_ _) | (with_reducible refine Fr.drew ?_) | (with_reducible refine Fr.alloc ?_ _) | (with_reducible refine Fr.setCell ?_ (by (first | (with_reducible assumption) | omega | (simp only [World.size_alloc, World.size_setCell, World.size_drew, World.heap_drewN]; omega) | (simp; done) | (simp; omega))) _) | (with_reducible refine Fr.trans ?_ (by with_reducible assumption))))).mono ?_
            rintro e w8 ⟨rfl, hf8⟩
            have hw8 : Fr wr w8 := Fr.trans (by repeat (first | (with_reducible exact Fr.refl _) | (with_reducible assumption) | (with_reducible refine Fr.drewN ?_ _) | (with_reducible refine Fr.drew ?_) | (with_reducible refine Fr.alloc ?_ _) | (with_reducible refine Fr.setCell ?_ (by (first | (with_reducible assumption) | omega | (simp only [World.size_alloc, World.size_setCell, World.size_drew, World.heap_drewN]; omega) | (simp; done) | (simp; omega))) _) | (with_reducible refine Fr.trans ?_ (by with_reducible assumption)))) hf8
            have BX8 := BX.fr hw8
            have FX8 := BX8.facts
            have BR8 := BR.fr hw8
            have FR8 := BR8.facts
            clear FC FX FR0 hf8
            go_wp2_with fail
            rw [HRL.out, HRB.out, HF.out, grX_f]
            refine bodyPost_ret (v := .tuple #[.agg #[.int .i64 0, .slice none 0 0], .bool false]) (by simp [results, Try.results124, go_sem, *]) rfl ⟨none, 0, rfl, ⟨none, 0, rfl, OwW.nil _ _ _ _ _⟩, by repeat (first | (with_reducible exact Fr.refl _) | (with_reducible assumption) | (with_reducible refine Fr.drewN ?_ _) | (with_reducible refine Fr.drew ?_) | (with_reducible refine Fr.alloc ?_ _) | (with_reducible refine Fr.setCell ?_ (by (first | (with_reducible assumption) | omega | (simp only [World.size_alloc, World.size_setCell, World.size_drew, World.heap_drewN]; omega) | (simp; done) | (simp; omega))) _) | (with_reducible refine Fr.trans ?_ (by with_reducible assumption)))⟩
end Go.Proofs.Ytjgghiniajmfjaa
