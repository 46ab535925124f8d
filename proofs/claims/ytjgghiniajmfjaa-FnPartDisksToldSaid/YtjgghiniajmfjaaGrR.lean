/- spec.ReadGraph. Condition: the text is no longer than the laws allow. (Printed by mk_grr.py.) -/
import Derived.Test.YtjgghiniajmfjaaGrP
import Derived.Deep.RegionLaw
import Derived.Deep.RegionHeld3
import Derived.BigRegion
namespace Go.Proofs.Ytjgghiniajmfjaa
open Go.RowKit
set_option linter.unusedVariables false
set_option linter.unusedSimpArgs false
theorem grQ_bad {s : ByteArray} {g : GraphD} {n : Int} {a : Nat} : grQ s (g, n, ⟨a, true⟩) = false := rfl
theorem grQ_no {s : ByteArray} {g : GraphD} {n : Int} {c : Sc} (h : graphB g = false) : grQ s (g, n, c) = false := by unfold grQ; rw [h]; simp
theorem grQ_ne {s : ByteArray} {g : GraphD} {n : Int} {c : Sc} (h : graphS g ≠ s) : grQ s (g, n, c) = false := by unfold grQ; rw [decide_eq_false h]; simp
theorem grQ_ok {s : ByteArray} {g : GraphD} {n : Int} {a : Nat} (h : graphB g = true) (h2 : graphS g = s) : grQ s (g, n, ⟨a, false⟩) = true := by unfold grQ; rw [h, decide_eq_true h2]; rfl
theorem grX_f (z : GraphD × Int × Sc) : grX false z = ⟨0, []⟩ := rfl
theorem grX_t (z : GraphD × Int × Sc) : grX true z = z.1 := rfl
theorem edges_snoc (l : List EdgeR) (x : EdgeR) : (l ++ [x]).flatMap EdgeR.cells = l.flatMap EdgeR.cells ++ [.int .i64 x.f0, .int .u8 (x.f1.toNat : Int), .int .i64 x.f2] := by simp [EdgeR.cells]
theorem u8_of {v : Int} (h0 : 0 ≤ v) (h1 : v ≤ 255) : ∃ l : UInt8, v = (l.toNat : Int) := ⟨UInt8.ofNat v.toNat, by rw [UInt8.toNat_ofNat_of_lt' (by show v.toNat < 256; omega)]; omega⟩
set_option maxHeartbeats 8000000 in
set_option maxRecDepth 100000 in
theorem specReadGraph_any (s : ByteArray) (w : World) (hs : s.size ≤ 1048576) :
    Calls Try.prog 125 #[.string s] w fun e w' => ∃ ao0 cap0, e = .returned (.tuple #[.agg #[.int .i64 (rdG s).f0, .slice ao0 (rdG s).f1.length cap0], .bool (rdGB s)]) ∧ GraphW w' w.heap.size w'.heap.size (.agg #[.int .i64 (rdG s).f0, .slice ao0 (rdG s).f1.length cap0]) (rdG s) ∧ Fr w w' := by
  obtain ⟨⟨n0, ⟨a1, b1⟩⟩, q1⟩ : ∃ r, scVar s ⟨0, false⟩ = r := ⟨_, rfl⟩
  have ha1 := scVar_le (s := s) (c := ⟨0, false⟩) (Nat.zero_le _)
  have hn0 := scVar_nat s ⟨0, false⟩ (Nat.zero_le _)
  rw [q1] at ha1 hn0
  simp only [] at ha1 hn0
  have C0 : Hid (∀ b w', Box w' b #[.string s, .int .i64 0, .bool false] 201 → Calls Try.prog 153 #[.pointer (some ⟨b, 0, none⟩)] w' fun e w'' => e = .returned (.int .i64 n0) ∧ Box w'' b #[.string s, .int .i64 (a1 : Int), .bool b1] 201 ∧ Span b (b + 1) w' w'') := Lib.hid fun b w' hb => by have := l03Var_any b 0 false s w' hb (by omega) (by omega); rw [q1] at this; exact this
  obtain ⟨⟨n, ⟨a2, b2⟩⟩, q2⟩ : ∃ r, scVar s ⟨a1, b1⟩ = r := ⟨_, rfl⟩
  have hn := scVar_nat s ⟨a1, b1⟩ ha1
  have ha2 := scVar_le (s := s) (c := ⟨a1, b1⟩) ha1
  rw [q2] at hn ha2
  simp only [] at hn ha2
  obtain ⟨M, hM⟩ : ∃ M, (min n (50 : Nat)).toNat = M := ⟨_, rfl⟩
  obtain ⟨⟨wz, ⟨az, bz⟩⟩, q3⟩ : ∃ r, egG s M ⟨a2, b2⟩ = r := ⟨_, rfl⟩
  have haz := egG_le (s := s) M ⟨a2, b2⟩ ha2
  rw [q3] at haz
  simp only [] at haz
  have HPQ := grP_of (F := 50) (xs := wz) (e := ⟨az, bz⟩) q1 q2 (by rw [hM]; exact q3)
  have hMn : (M : Int) ≤ n ∧ M ≤ 50 ∧ ((M : Int) = n ∨ M = 50) := by omega
  have HQ3 := Lib.hid q3
  have C1 : Hid (∀ b w', Box w' b #[.string s, .int .i64 (a1 : Int), .bool b1] 201 → Calls Try.prog 153 #[.pointer (some ⟨b, 0, none⟩)] w' fun e w'' => e = .returned (.int .i64 n) ∧ Box w'' b #[.string s, .int .i64 (a2 : Int), .bool b2] 201 ∧ Span b (b + 1) w' w'') := Lib.hid fun b w' hb => by have := l03Var_any b a1 b1 s w' hb (by omega) ha1; rw [q2] at this; exact this
  obtain ⟨i0, hi, hz0, hz1, hz2⟩ := info_parts info_Edge
  have HRL : Hid (rdG s = grX (grQ s (grP 50 s)) (grP 50 s)) := Lib.hid (rdG_50 s).symm
  have HRB : Hid (rdGB s = grQ s (grP 50 s)) := Lib.hid (rdGB_50 s).symm
  rw [HPQ] at HRL HRB
  clear HPQ q1 q2 q3 hM
  go_enter Try.func125, Try.ntmps125
  go_wp2_with fail
  refine (C0.out _ _ (Box.new' (by simp))).mono ?_
  rintro e w1 ⟨rfl, BC, sp1⟩
  have z1 := sp1.size; (try simp only [World.size_alloc] at z1)
  have BR : Box w1 w.heap.size #[.int .i64 0, .slice none 0 0] 32 := ((Box.new _ _ _).alloc _).span sp1 (.inl (by omega))
  have hf1 : Fr w w1 := Span.fr (show Fr w _ by repeat (first | (with_reducible exact Fr.refl _) | (with_reducible assumption) | (with_reducible refine Fr.drewN ?_ _) | (with_reducible refine Fr.drew ?_) | (with_reducible refine Fr.alloc ?_ _) | (with_reducible refine Fr.setCell ?_ (by (first | (with_reducible assumption) | omega | (simp only [World.size_alloc, World.size_setCell, World.size_drew, World.heap_drewN]; omega) | (simp; done) | (simp; omega))) _) | (with_reducible refine Fr.trans ?_ (by with_reducible assumption)))) sp1 (by omega)
  obtain ⟨hx, hhx⟩ : ∃ hx, w1.heap.size = hx := ⟨_, rfl⟩
  have BX : Box (w1.alloc (.cells #[.int .i64 n0, .slice none 0 0] 32)) hx #[.int .i64 n0, .slice none 0 0] 32 := Box.new' hhx.symm
  have BR0 := BR
  have BC0 := BC
  have BR := BR.alloc (.cells #[.int .i64 n0, .slice none 0 0] 32)
  have BC := BC.alloc (.cells #[.int .i64 n0, .slice none 0 0] 32)
  rw [hhx] at z1
  have hxb : w.heap.size + 1 < hx := by omega
  go_wp2_with fail
  refine (C1.out _ _ BC).mono ?_
  rintro e w2 ⟨rfl, BC', sp2⟩
  have zw2 := sp2.size; (try simp only [World.size_alloc, World.size_setCell] at zw2)
  have BX := BX.span sp2 (.inr (by omega))
  have BR := BR.span sp2 (.inl (by omega))
  have hfw2 : Fr w w2 := Span.fr (show Fr w _ by repeat (first | (with_reducible exact Fr.refl _) | (with_reducible assumption) | (with_reducible refine Fr.drewN ?_ _) | (with_reducible refine Fr.drew ?_) | (with_reducible refine Fr.alloc ?_ _) | (with_reducible refine Fr.setCell ?_ (by (first | (with_reducible assumption) | omega | (simp only [World.size_alloc, World.size_setCell, World.size_drew, World.heap_drewN]; omega) | (simp; done) | (simp; omega))) _) | (with_reducible refine Fr.trans ?_ (by with_reducible assumption)))) sp2 (by omega)
  have BC := BC'
  clear BC'
  try rw [hhx]
  go_wp2_with fail
  go_loopw [7, 8] (fun i _ wr => ∃ (k a : Nat) (bad : Bool) (ys : List EdgeR) (ay : Option Addr) (cy : Nat), k ≤ M ∧ i = .int .i64 k ∧ ys.length = k ∧ a ≤ s.size ∧ Hid ((egG s (M - k) ⟨a, bad⟩).2 = ⟨az, bz⟩ ∧ ys ++ (egG s (M - k) ⟨a, bad⟩).1 = wz) ∧ Box wr (w.heap.size + 1) #[.string s, .int .i64 (a : Int), .bool bad] 201 ∧ Box wr hx #[.int .i64 n0, .slice ay ys.length cy] 32 ∧ Box wr w.heap.size #[.int .i64 0, .slice none 0 0] 32 ∧ Hid (EdgesW wr (hx + 1) wr.heap.size (.slice ay ys.length cy) ys) ∧ hx + 1 ≤ wr.heap.size ∧ Fr w wr) (fun i _ _ => M - (intOf i).toNat)
  case atStart => exact ⟨0, a2, b2, [], none, 0, Nat.zero_le _, rfl, rfl, ha2, Lib.hid (by rw [Nat.sub_zero, HQ3.out]; exact ⟨rfl, rfl⟩), BC, BX, BR, Lib.hid (OwW.nil _ _ _ _ _), by omega, hfw2⟩
  case round =>
    clear BC BX BR HQ3
    obtain ⟨k, a, bad, ys, ay, cy, hk, rfl, hyl, ha, hd, BC, BX, BR, HW, hzr, hfr⟩ := hrel
    have HYL := Lib.hid hyl
    have hyk : ys.length ≤ 50 := by omega
    clear hyl
    have FC := BC.facts
    have FX := BX.facts
    have FR0 := BR.facts
    by_cases hgo : k < M ∧ bad = false
    · obtain ⟨hkM, rfl⟩ := hgo
      have hk1 : (k : Int) < n := by omega
      have hk2 : (k : Int) < 50 := by omega
      obtain ⟨⟨v0, ⟨c0, d0⟩⟩, p0⟩ : ∃ r, scVar s ⟨a, false⟩ = r := ⟨_, rfl⟩
      have hv0 := scVar_nat s ⟨a, false⟩ ha
      have hc0 := scVar_le (s := s) (c := ⟨a, false⟩) ha
      rw [p0] at hv0 hc0
      simp only [] at hv0 hc0
      have D0 : Hid (∀ b w', Box w' b #[.string s, .int .i64 (a : Int), .bool false] 201 → Calls Try.prog 153 #[.pointer (some ⟨b, 0, none⟩)] w' fun e w'' => e = .returned (.int .i64 v0) ∧ Box w'' b #[.string s, .int .i64 (c0 : Int), .bool d0] 201 ∧ Span b (b + 1) w' w'') := Lib.hid fun b w' hb => by have := l03Var_any b a false s w' hb (by omega) ha; rw [p0] at this; exact this
      obtain ⟨⟨v1, ⟨c1, d1⟩⟩, p1⟩ : ∃ r, scByte s ⟨c0, d0⟩ = r := ⟨_, rfl⟩
      have hv1 := scByte_nat s ⟨c0, d0⟩
      have hc1 := scByte_le (s := s) (c := ⟨c0, d0⟩) hc0
      rw [p1] at hv1 hc1
      simp only [] at hv1 hc1
      obtain ⟨l, rfl⟩ := u8_of hv1.1 hv1.2
      have hwl : IntKind.u8.wrap (l.toNat : Int) = (l.toNat : Int) := IntWalk.u8_in _ (by have := l.toNat_lt; omega)
      have D1 : Hid (∀ b w', Box w' b #[.string s, .int .i64 (c0 : Int), .bool d0] 201 → Calls Try.prog 152 #[.pointer (some ⟨b, 0, none⟩)] w' fun e w'' => e = .returned (.int .i64 (l.toNat : Int)) ∧ Box w'' b #[.string s, .int .i64 (c1 : Int), .bool d1] 201 ∧ Span b (b + 1) w' w'') := Lib.hid fun b w' hb => by have := l03Byte_any b c0 d0 s w' hb (by omega); rw [p1] at this; exact this
      obtain ⟨⟨v2, ⟨c2, d2⟩⟩, p2⟩ : ∃ r, scVar s ⟨c1, d1⟩ = r := ⟨_, rfl⟩
      have hv2 := scVar_nat s ⟨c1, d1⟩ hc1
      have hc2 := scVar_le (s := s) (c := ⟨c1, d1⟩) hc1
      rw [p2] at hv2 hc2
      simp only [] at hv2 hc2
      have D2 : Hid (∀ b w', Box w' b #[.string s, .int .i64 (c1 : Int), .bool d1] 201 → Calls Try.prog 153 #[.pointer (some ⟨b, 0, none⟩)] w' fun e w'' => e = .returned (.int .i64 v2) ∧ Box w'' b #[.string s, .int .i64 (c2 : Int), .bool d2] 201 ∧ Span b (b + 1) w' w'') := Lib.hid fun b w' hb => by have := l03Var_any b c1 d1 s w' hb (by omega) hc1; rw [p2] at this; exact this
      have hd2 : Hid ((egG s (M - (k + 1)) ⟨c2, d2⟩).2 = ⟨az, bz⟩ ∧ (ys ++ [⟨v0, l, v2⟩]) ++ (egG s (M - (k + 1)) ⟨c2, d2⟩).1 = wz) := Lib.hid (by
        have := hd.out
        rw [egG_next p0 p1 p2 (by omega), Int.toNat_natCast, UInt8.ofNat_toNat] at this
        rw [List.append_assoc]
        exact this)
      have HCA := Lib.hid (edges_snoc ys ⟨v0, l, v2⟩)
      have HLA := Lib.hid (show (ys ++ [(⟨v0, l, v2⟩ : EdgeR)]).length = ys.length + 1 by simp)
      clear p0 p1 p2 hd
      go_wp2_with fail
      refine (D0.out _ _ BC).mono ?_
      rintro e w4 ⟨rfl, BC4, sp4⟩
      have z4 := sp4.size
      have BX4 := BX.span sp4 (.inr (by omega))
      have BR4 := BR.span sp4 (.inl (by omega))
      have HW4 := Lib.hid (OwW.span HW.out sp4 (.inr (by omega)))
      have hf4 : Fr w w4 := Span.fr hfr sp4 (by omega)
      clear FC FX FR0 BC BX BR HW
      have BW4 : Box (w4.alloc (.cells #[.int .i64 v0, .int .u8 0, .int .i64 0] 157)) w4.heap.size #[.int .i64 v0, .int .u8 0, .int .i64 0] 157 := Box.new _ _ _
      go_wp2_with fail
      refine (D1.out _ _ (BC4.alloc _)).mono ?_
      rintro e w5 ⟨rfl, BC5, sp5⟩
      have z5 := sp5.size; (try simp only [World.size_alloc, World.size_setCell] at z5)
      have BW5 := BW4.span sp5 (.inr (by omega))
      have BX5 := (BX4.alloc _).span sp5 (.inr (by omega))
      have BR5 := (BR4.alloc _).span sp5 (.inl (by omega))
      have HW5 := Lib.hid (OwW.span (OwW.alloc HW4.out _) sp5 (.inr (by omega)))
      have hf5 : Fr w w5 := Span.fr (show Fr w _ by repeat (first | (with_reducible exact Fr.refl _) | (with_reducible assumption) | (with_reducible refine Fr.drewN ?_ _) | (with_reducible refine Fr.drew ?_) | (with_reducible refine Fr.alloc ?_ _) | (with_reducible refine Fr.setCell ?_ (by (first | (with_reducible assumption) | omega | (simp only [World.size_alloc, World.size_setCell, World.size_drew, World.heap_drewN]; omega) | (simp; done) | (simp; omega))) _) | (with_reducible refine Fr.trans ?_ (by with_reducible assumption)))) sp5 (by omega)
      have FW5 := BW5.facts
      go_wp2_with fail
      clear FW5
      refine (D2.out _ _ (BC5.far (q := w4.heap.size) (i := 1) (by omega) (.int .u8 (l.toNat : Int)))).mono ?_
      rintro e w6 ⟨rfl, BC6, sp6⟩
      have z6 := sp6.size; (try simp only [World.size_alloc, World.size_setCell] at z6)
      have BW6 := (BW5.set_to (X := #[.int .i64 v0, .int .u8 (l.toNat : Int), .int .i64 0]) (i := 1) (v := .int .u8 (l.toNat : Int)) (by simp)).span sp6 (.inr (by omega))
      have BX6 := (BX5.far (q := w4.heap.size) (i := 1) (by omega) (.int .u8 (l.toNat : Int))).span sp6 (.inr (by omega))
      have BR6 := (BR5.far (q := w4.heap.size) (i := 1) (by omega) (.int .u8 (l.toNat : Int))).span sp6 (.inl (by omega))
      have HW6 := Lib.hid (OwW.span (OwW.set HW5.out (p := ⟨w4.heap.size, 1, none⟩) (.inr (by show _ ≤ w4.heap.size; omega)) (.int .u8 (l.toNat : Int))) sp6 (.inr (by omega)))
      have hf6 : Fr w w6 := Span.fr (show Fr w _ by repeat (first | (with_reducible exact Fr.refl _) | (with_reducible assumption) | (with_reducible refine Fr.drewN ?_ _) | (with_reducible refine Fr.drew ?_) | (with_reducible refine Fr.alloc ?_ _) | (with_reducible refine Fr.setCell ?_ (by (first | (with_reducible assumption) | omega | (simp only [World.size_alloc, World.size_setCell, World.size_drew, World.heap_drewN]; omega) | (simp; done) | (simp; omega))) _) | (with_reducible refine Fr.trans ?_ (by with_reducible assumption)))) sp6 (by omega)
      have FW6 := BW6.facts
      have BX8 := BX6.far (q := w4.heap.size) (i := 2) (by omega) (.int .i64 v2)
      have FX8 := BX8.facts
      have HW8 := Lib.hid (OwW.set HW6.out (p := ⟨w4.heap.size, 2, none⟩) (.inr (by show _ ≤ w4.heap.size; omega)) (.int .i64 v2))
      have BC8 := BC6.far (q := w4.heap.size) (i := 2) (by omega) (.int .i64 v2)
      have BR8 := BR6.far (q := w4.heap.size) (i := 2) (by omega) (.int .i64 v2)
      have hf8 : Fr w (w6.setCell ⟨w4.heap.size, 2, none⟩ (.int .i64 v2)) := by repeat (first | (with_reducible exact Fr.refl _) | (with_reducible assumption) | (with_reducible refine Fr.drewN ?_ _) | (with_reducible refine Fr.drew ?_) | (with_reducible refine Fr.alloc ?_ _) | (with_reducible refine Fr.setCell ?_ (by (first | (with_reducible assumption) | omega | (simp only [World.size_alloc, World.size_setCell, World.size_drew, World.heap_drewN]; omega) | (simp; done) | (simp; omega))) _) | (with_reducible refine Fr.trans ?_ (by with_reducible assumption)))
      have FW8 := (BW6.set_to (X := #[.int .i64 v0, .int .u8 (l.toNat : Int), .int .i64 v2]) (i := 2) (v := .int .i64 v2) (by simp)).facts
      go_wp2_with (at_builtin; (refine wpList_append_rd rfl _ _ 30 rfl (hx + 1) 157 i0 (.agg #[.int .i64 0, .int .u8 0, .int .i64 0]) 3 24 Try.underlying30 hi hz0 hz1 hz2 rfl (by decide) _ ys.length (ys.flatMap EdgeR.cells) rfl (World.ownsRow.alloc HW8.out.1 _) _ 1 [.int .i64 v0, .int .u8 (l.toNat : Int), .int .i64 v2] rfl (RdS.new (by first | rfl | simp) rfl) (by simp [Value.oneCell']) (by unfold maxLen; omega) (by omega) (by (first | (with_reducible assumption) | omega | (simp only [World.size_alloc, World.size_setCell, World.size_drew, World.heap_drewN]; omega) | (simp; done) | (simp; omega))) ?_; intro ay2 cy2 w9 hown hgrow hat; have BX9 := (BX8.alloc (.cells #[.int .i64 v0, .int .u8 (l.toNat : Int), .int .i64 v2] 157)).row hgrow HW8.out.2 (.inl (by omega)); have FX9 := BX9.facts))
      have s9 : Span (hx + 1) wr.heap.size ((w6.setCell ⟨w4.heap.size, 2, none⟩ (.int .i64 v2)).alloc (.cells #[.int .i64 v0, .int .u8 (l.toNat : Int), .int .i64 v2] 157)) w9 := Span.of_gr hgrow (fun g hg => HW8.out.2 g hg)
      have z9 := s9.size
      simp only [World.size_alloc, World.size_setCell] at z9
      have BC9 := (BC8.alloc (.cells #[.int .i64 v0, .int .u8 (l.toNat : Int), .int .i64 v2] 157)).span s9 (.inl (by omega))
      have BR9 := (BR8.alloc (.cells #[.int .i64 v0, .int .u8 (l.toNat : Int), .int .i64 v2] 157)).span s9 (.inl (by omega))
      have hf9 : Fr w w9 := Span.fr (show Fr w _ by repeat (first | (with_reducible exact Fr.refl _) | (with_reducible assumption) | (with_reducible refine Fr.drewN ?_ _) | (with_reducible refine Fr.drew ?_) | (with_reducible refine Fr.alloc ?_ _) | (with_reducible refine Fr.setCell ?_ (by (first | (with_reducible assumption) | omega | (simp only [World.size_alloc, World.size_setCell, World.size_drew, World.heap_drewN]; omega) | (simp; done) | (simp; omega))) _) | (with_reducible refine Fr.trans ?_ (by with_reducible assumption)))) s9 (by omega)
      rw [← HCA.out] at hown
      have hW9 : EdgesW w9 (hx + 1) w9.heap.size (.slice ay2 (ys ++ [(⟨v0, l, v2⟩ : EdgeR)]).length cy2) (ys ++ [⟨v0, l, v2⟩]) := by
        have := OwW.of_owns hown
        rw [← HLA.out] at this
        exact this
      go_roundw
      case rel => exact ⟨k + 1, c2, d2, ys ++ [⟨v0, l, v2⟩], ay2, cy2, by omega, by go_num, by rw [HLA.out, HYL.out], hc2, hd2, BC9.far (by omega) _, by rw [HLA.out]; exact BX9.set_to (by simp), BR9.far (by omega) _, Lib.hid (by rw [World.size_setCell]; exact OwW.set hW9 (.inl (by show hx < hx + 1; omega)) _), by simp; omega, by repeat (first | (with_reducible exact Fr.refl _) | (with_reducible assumption) | (with_reducible refine Fr.drewN ?_ _) | (with_reducible refine Fr.drew ?_) | (with_reducible refine Fr.alloc ?_ _) | (with_reducible refine Fr.setCell ?_ (by (first | (with_reducible assumption) | omega | (simp only [World.size_alloc, World.size_setCell, World.size_drew, World.heap_drewN]; omega) | (simp; done) | (simp; omega))) _) | (with_reducible refine Fr.trans ?_ (by with_reducible assumption)))⟩
      case measure => (simp [intOf]; omega)
    · have hend : ys = wz ∧ a = az ∧ bad = bz := by
        have := hd.out
        by_cases hkM : k < M
        · have hb : bad = true := by cases bad <;> simp_all
          rw [egG_stop hb] at this
          simpa using this.symm
        · rw [show M - k = 0 by omega] at this
          simpa [egG] using this.symm
      obtain ⟨rfl, rfl, rfl⟩ := hend
      have hg : (¬ (k : Int) < n) ∨ ((k : Int) < n ∧ ¬ (k : Int) < 50) ∨ ((k : Int) < n ∧ (k : Int) < 50 ∧ bad = true) := by
        by_cases h1 : (k : Int) < n
        · by_cases h2 : (k : Int) < 50
          · refine .inr (.inr ⟨h1, h2, ?_⟩)
            have h3 : k < M := by omega
            cases bad <;> simp_all
          · exact .inr (.inl ⟨h1, h2⟩)
        · exact .inl h1
      clear hgo hd
      have CT : Hid (∀ w', Fr wr w' → Calls Try.prog 127 #[.agg #[.int .i64 n0, .slice ay ys.length cy]] w' fun e w'' => e = .returned (.tuple #[.string (graphS ⟨n0, ys⟩), .bool (graphB ⟨n0, ys⟩)]) ∧ Fr w' w'') := Lib.hid fun w' hf => specGraphText_any _ ⟨n0, ys⟩ w' ⟨_, rfl, RdS.fr (OwW.rd HW.out) hf⟩
      obtain ⟨lt, hlt⟩ : ∃ lt, graphS ⟨n0, ys⟩ = lt := ⟨_, rfl⟩
      obtain ⟨lb, hlb⟩ : ∃ lb, graphB ⟨n0, ys⟩ = lb := ⟨_, rfl⟩
      rw [hlt, hlb] at CT
      have HLT := Lib.hid hlt
      have HLB := Lib.hid hlb
      clear hlt hlb
      cases bad
      · rcases hg with hg | ⟨hg1, hg2⟩ | ⟨hg1, hg2, hg3⟩
        rotate_right
        · cases hg3
        all_goals
          cases lb
          · have HF : Hid (grQ s (⟨n0, ys⟩, n, ⟨a, false⟩) = false) := Lib.hid (grQ_no HLB.out)
            go_wp2_with fail
            refine (CT.out _ (by repeat (first | (with_reducible exact Fr.refl _) | (with_reducible assumption) | (with_reducible refine Fr.drewN ?_ _) | (with_reducible refine Fr.drew ?_) | (with_reducible refine Fr.alloc ?_ _) | (with_reducible refine Fr.setCell ?_ (by (first | (with_reducible assumption) | omega | (simp only [World.size_alloc, World.size_setCell, World.size_drew, World.heap_drewN]; omega) | (simp; done) | (simp; omega))) _) | (with_reducible refine Fr.trans ?_ (by with_reducible assumption))))).mono ?_
            rintro e w9 ⟨rfl, hf9⟩
            have FC9 := (BC.fr (Fr.trans (by repeat (first | (with_reducible exact Fr.refl _) | (with_reducible assumption) | (with_reducible refine Fr.drewN ?_ _) | (with_reducible refine Fr.drew ?_) | (with_reducible refine Fr.alloc ?_ _) | (with_reducible refine Fr.setCell ?_ (by (first | (with_reducible assumption) | omega | (simp only [World.size_alloc, World.size_setCell, World.size_drew, World.heap_drewN]; omega) | (simp; done) | (simp; omega))) _) | (with_reducible refine Fr.trans ?_ (by with_reducible assumption)))) hf9)).facts
            have FX9 := (BX.fr (Fr.trans (by repeat (first | (with_reducible exact Fr.refl _) | (with_reducible assumption) | (with_reducible refine Fr.drewN ?_ _) | (with_reducible refine Fr.drew ?_) | (with_reducible refine Fr.alloc ?_ _) | (with_reducible refine Fr.setCell ?_ (by (first | (with_reducible assumption) | omega | (simp only [World.size_alloc, World.size_setCell, World.size_drew, World.heap_drewN]; omega) | (simp; done) | (simp; omega))) _) | (with_reducible refine Fr.trans ?_ (by with_reducible assumption)))) hf9)).facts
            have BR9 := BR.fr (Fr.trans (by repeat (first | (with_reducible exact Fr.refl _) | (with_reducible assumption) | (with_reducible refine Fr.drewN ?_ _) | (with_reducible refine Fr.drew ?_) | (with_reducible refine Fr.alloc ?_ _) | (with_reducible refine Fr.setCell ?_ (by (first | (with_reducible assumption) | omega | (simp only [World.size_alloc, World.size_setCell, World.size_drew, World.heap_drewN]; omega) | (simp; done) | (simp; omega))) _) | (with_reducible refine Fr.trans ?_ (by with_reducible assumption)))) hf9)
            have FR9 := BR9.facts
            clear FC FX FR0
            go_wp2_with fail
            rw [HRL.out, HRB.out, HF.out, grX_f]
            refine bodyPost_ret (v := .tuple #[.agg #[.int .i64 0, .slice none 0 0], .bool false]) (by simp [results, Try.results125, go_sem, *]) rfl ⟨none, 0, rfl, ⟨none, 0, rfl, OwW.nil _ _ _ _ _⟩, by repeat (first | (with_reducible exact Fr.refl _) | (with_reducible assumption) | (with_reducible refine Fr.drewN ?_ _) | (with_reducible refine Fr.drew ?_) | (with_reducible refine Fr.alloc ?_ _) | (with_reducible refine Fr.setCell ?_ (by (first | (with_reducible assumption) | omega | (simp only [World.size_alloc, World.size_setCell, World.size_drew, World.heap_drewN]; omega) | (simp; done) | (simp; omega))) _) | (with_reducible refine Fr.trans ?_ (by with_reducible assumption)))⟩
          · by_cases he : lt = s
            · have HF : Hid (grQ s (⟨n0, ys⟩, n, ⟨a, false⟩) = true) := Lib.hid (grQ_ok HLB.out (HLT.out.trans he))
              have hq := bytes_beq he
              clear he
              go_wp2_with fail
              refine (CT.out _ (by repeat (first | (with_reducible exact Fr.refl _) | (with_reducible assumption) | (with_reducible refine Fr.drewN ?_ _) | (with_reducible refine Fr.drew ?_) | (with_reducible refine Fr.alloc ?_ _) | (with_reducible refine Fr.setCell ?_ (by (first | (with_reducible assumption) | omega | (simp only [World.size_alloc, World.size_setCell, World.size_drew, World.heap_drewN]; omega) | (simp; done) | (simp; omega))) _) | (with_reducible refine Fr.trans ?_ (by with_reducible assumption))))).mono ?_
              rintro e w9 ⟨rfl, hf9⟩
              have FC9 := (BC.fr (Fr.trans (by repeat (first | (with_reducible exact Fr.refl _) | (with_reducible assumption) | (with_reducible refine Fr.drewN ?_ _) | (with_reducible refine Fr.drew ?_) | (with_reducible refine Fr.alloc ?_ _) | (with_reducible refine Fr.setCell ?_ (by (first | (with_reducible assumption) | omega | (simp only [World.size_alloc, World.size_setCell, World.size_drew, World.heap_drewN]; omega) | (simp; done) | (simp; omega))) _) | (with_reducible refine Fr.trans ?_ (by with_reducible assumption)))) hf9)).facts
              have FX9 := (BX.fr (Fr.trans (by repeat (first | (with_reducible exact Fr.refl _) | (with_reducible assumption) | (with_reducible refine Fr.drewN ?_ _) | (with_reducible refine Fr.drew ?_) | (with_reducible refine Fr.alloc ?_ _) | (with_reducible refine Fr.setCell ?_ (by (first | (with_reducible assumption) | omega | (simp only [World.size_alloc, World.size_setCell, World.size_drew, World.heap_drewN]; omega) | (simp; done) | (simp; omega))) _) | (with_reducible refine Fr.trans ?_ (by with_reducible assumption)))) hf9)).facts
              have BR9 := BR.fr (Fr.trans (by repeat (first | (with_reducible exact Fr.refl _) | (with_reducible assumption) | (with_reducible refine Fr.drewN ?_ _) | (with_reducible refine Fr.drew ?_) | (with_reducible refine Fr.alloc ?_ _) | (with_reducible refine Fr.setCell ?_ (by (first | (with_reducible assumption) | omega | (simp only [World.size_alloc, World.size_setCell, World.size_drew, World.heap_drewN]; omega) | (simp; done) | (simp; omega))) _) | (with_reducible refine Fr.trans ?_ (by with_reducible assumption)))) hf9)
              have FR9 := BR9.facts
              clear FC FX FR0
              go_wp2_with fail
              rw [HRL.out, HRB.out, HF.out, grX_t]
              refine bodyPost_ret (v := .tuple #[.agg #[.int .i64 n0, .slice ay ys.length cy], .bool true]) (by simp [results, Try.results125, go_sem, *]) rfl ⟨_, _, rfl, ⟨_, _, rfl, ?_⟩, by repeat (first | (with_reducible exact Fr.refl _) | (with_reducible assumption) | (with_reducible refine Fr.drewN ?_ _) | (with_reducible refine Fr.drew ?_) | (with_reducible refine Fr.alloc ?_ _) | (with_reducible refine Fr.setCell ?_ (by (first | (with_reducible assumption) | omega | (simp only [World.size_alloc, World.size_setCell, World.size_drew, World.heap_drewN]; omega) | (simp; done) | (simp; omega))) _) | (with_reducible refine Fr.trans ?_ (by with_reducible assumption)))⟩
              have HO := Lib.hid (OwW.mono (OwW.fr HW.out hf9) (Nat.le_refl _) hf9.size)
              refine OwW.mono (lo := hx + 1) (hi := w9.heap.size) ?_ (by omega) (by simp)
              change OwW _ _ _ _ _ _ _ _; (repeat (first | (with_reducible refine OwW.drewN ?_ _) | (with_reducible refine OwW.drew ?_) | (with_reducible refine OwW.alloc ?_ _) | (with_reducible refine OwW.set ?_ (by (first | (with_reducible assumption) | omega | (simp only [World.size_alloc, World.size_setCell, World.size_drew, World.heap_drewN]; omega) | (simp; done) | (simp; omega))) _) | (exact HO.out)))
            · have HF : Hid (grQ s (⟨n0, ys⟩, n, ⟨a, false⟩) = false) := Lib.hid (grQ_ne (fun h => he (HLT.out.symm.trans h)))
              have hq := bytes_bne he
              clear he
              go_wp2_with fail
              refine (CT.out _ (by repeat (first | (with_reducible exact Fr.refl _) | (with_reducible assumption) | (with_reducible refine Fr.drewN ?_ _) | (with_reducible refine Fr.drew ?_) | (with_reducible refine Fr.alloc ?_ _) | (with_reducible refine Fr.setCell ?_ (by (first | (with_reducible assumption) | omega | (simp only [World.size_alloc, World.size_setCell, World.size_drew, World.heap_drewN]; omega) | (simp; done) | (simp; omega))) _) | (with_reducible refine Fr.trans ?_ (by with_reducible assumption))))).mono ?_
              rintro e w9 ⟨rfl, hf9⟩
              have FC9 := (BC.fr (Fr.trans (by repeat (first | (with_reducible exact Fr.refl _) | (with_reducible assumption) | (with_reducible refine Fr.drewN ?_ _) | (with_reducible refine Fr.drew ?_) | (with_reducible refine Fr.alloc ?_ _) | (with_reducible refine Fr.setCell ?_ (by (first | (with_reducible assumption) | omega | (simp only [World.size_alloc, World.size_setCell, World.size_drew, World.heap_drewN]; omega) | (simp; done) | (simp; omega))) _) | (with_reducible refine Fr.trans ?_ (by with_reducible assumption)))) hf9)).facts
              have FX9 := (BX.fr (Fr.trans (by repeat (first | (with_reducible exact Fr.refl _) | (with_reducible assumption) | (with_reducible refine Fr.drewN ?_ _) | (with_reducible refine Fr.drew ?_) | (with_reducible refine Fr.alloc ?_ _) | (with_reducible refine Fr.setCell ?_ (by (first | (with_reducible assumption) | omega | (simp only [World.size_alloc, World.size_setCell, World.size_drew, World.heap_drewN]; omega) | (simp; done) | (simp; omega))) _) | (with_reducible refine Fr.trans ?_ (by with_reducible assumption)))) hf9)).facts
              have BR9 := BR.fr (Fr.trans (by repeat (first | (with_reducible exact Fr.refl _) | (with_reducible assumption) | (with_reducible refine Fr.drewN ?_ _) | (with_reducible refine Fr.drew ?_) | (with_reducible refine Fr.alloc ?_ _) | (with_reducible refine Fr.setCell ?_ (by (first | (with_reducible assumption) | omega | (simp only [World.size_alloc, World.size_setCell, World.size_drew, World.heap_drewN]; omega) | (simp; done) | (simp; omega))) _) | (with_reducible refine Fr.trans ?_ (by with_reducible assumption)))) hf9)
              have FR9 := BR9.facts
              clear FC FX FR0
              go_wp2_with fail
              rw [HRL.out, HRB.out, HF.out, grX_f]
              refine bodyPost_ret (v := .tuple #[.agg #[.int .i64 0, .slice none 0 0], .bool false]) (by simp [results, Try.results125, go_sem, *]) rfl ⟨none, 0, rfl, ⟨none, 0, rfl, OwW.nil _ _ _ _ _⟩, by repeat (first | (with_reducible exact Fr.refl _) | (with_reducible assumption) | (with_reducible refine Fr.drewN ?_ _) | (with_reducible refine Fr.drew ?_) | (with_reducible refine Fr.alloc ?_ _) | (with_reducible refine Fr.setCell ?_ (by (first | (with_reducible assumption) | omega | (simp only [World.size_alloc, World.size_setCell, World.size_drew, World.heap_drewN]; omega) | (simp; done) | (simp; omega))) _) | (with_reducible refine Fr.trans ?_ (by with_reducible assumption)))⟩
      · rcases hg with hg | ⟨hg1, hg2⟩ | ⟨hg1, hg2, hg3⟩
        all_goals
          have HF : Hid (grQ s (⟨n0, ys⟩, n, ⟨a, true⟩) = false) := Lib.hid grQ_bad
          go_wp2_with fail
          refine (CT.out _ (by repeat (first | (with_reducible exact Fr.refl _) | (with_reducible assumption) | (with_reducible refine Fr.drewN ?_ _) | (with_reducible refine Fr.drew ?_) | (with_reducible refine Fr.alloc ?_ _) | (with_reducible refine Fr.setCell ?_ (by (first | (with_reducible assumption) | omega | (simp only [World.size_alloc, World.size_setCell, World.size_drew, World.heap_drewN]; omega) | (simp; done) | (simp; omega))) _) | (with_reducible refine Fr.trans ?_ (by with_reducible assumption))))).mono ?_
          rintro e w9 ⟨rfl, hf9⟩
          have FC9 := (BC.fr (Fr.trans (by repeat (first | (with_reducible exact Fr.refl _) | (with_reducible assumption) | (with_reducible refine Fr.drewN ?_ _) | (with_reducible refine Fr.drew ?_) | (with_reducible refine Fr.alloc ?_ _) | (with_reducible refine Fr.setCell ?_ (by (first | (with_reducible assumption) | omega | (simp only [World.size_alloc, World.size_setCell, World.size_drew, World.heap_drewN]; omega) | (simp; done) | (simp; omega))) _) | (with_reducible refine Fr.trans ?_ (by with_reducible assumption)))) hf9)).facts
          have FX9 := (BX.fr (Fr.trans (by repeat (first | (with_reducible exact Fr.refl _) | (with_reducible assumption) | (with_reducible refine Fr.drewN ?_ _) | (with_reducible refine Fr.drew ?_) | (with_reducible refine Fr.alloc ?_ _) | (with_reducible refine Fr.setCell ?_ (by (first | (with_reducible assumption) | omega | (simp only [World.size_alloc, World.size_setCell, World.size_drew, World.heap_drewN]; omega) | (simp; done) | (simp; omega))) _) | (with_reducible refine Fr.trans ?_ (by with_reducible assumption)))) hf9)).facts
          have BR9 := BR.fr (Fr.trans (by repeat (first | (with_reducible exact Fr.refl _) | (with_reducible assumption) | (with_reducible refine Fr.drewN ?_ _) | (with_reducible refine Fr.drew ?_) | (with_reducible refine Fr.alloc ?_ _) | (with_reducible refine Fr.setCell ?_ (by (first | (with_reducible assumption) | omega | (simp only [World.size_alloc, World.size_setCell, World.size_drew, World.heap_drewN]; omega) | (simp; done) | (simp; omega))) _) | (with_reducible refine Fr.trans ?_ (by with_reducible assumption)))) hf9)
          have FR9 := BR9.facts
          clear FC FX FR0
          go_wp2_with fail
          rw [HRL.out, HRB.out, HF.out, grX_f]
          refine bodyPost_ret (v := .tuple #[.agg #[.int .i64 0, .slice none 0 0], .bool false]) (by simp [results, Try.results125, go_sem, *]) rfl ⟨none, 0, rfl, ⟨none, 0, rfl, OwW.nil _ _ _ _ _⟩, by repeat (first | (with_reducible exact Fr.refl _) | (with_reducible assumption) | (with_reducible refine Fr.drewN ?_ _) | (with_reducible refine Fr.drew ?_) | (with_reducible refine Fr.alloc ?_ _) | (with_reducible refine Fr.setCell ?_ (by (first | (with_reducible assumption) | omega | (simp only [World.size_alloc, World.size_setCell, World.size_drew, World.heap_drewN]; omega) | (simp; done) | (simp; omega))) _) | (with_reducible refine Fr.trans ?_ (by with_reducible assumption)))⟩
end Go.Proofs.Ytjgghiniajmfjaa
