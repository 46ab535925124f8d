/- spec.ReadBag: whether a text is a bag's. Condition: the text is no longer than the laws allow. -/
import Derived.Test.YtphjlecbhbcbcaaBagT
import Derived.Test.YtphjlecbhbcbcaaRdp
import Derived.Deep.RegionLaw
import Derived.Deep.RegionHeld3
import Derived.BigRegion
namespace Go.Proofs.Ytphjlecbhbcbcaa
open Go.RowKit
set_option linter.unusedVariables false
set_option linter.unusedSimpArgs false
theorem itS_zero (s : ByteArray) (c : Sc) : itS s 0 c = ([], c) := rfl
theorem itS_stop {s : ByteArray} {c : Sc} (h : c.bad = true) (m : Nat) : itS s m c = ([], c) := by
  cases m with
  | zero => rfl
  | succ m => rw [itS, if_pos h]
theorem rowS_stop {s : ByteArray} {c : Sc} (h : c.bad = true) (m : Nat) : rowS s m c = ([], c) := by
  cases m with
  | zero => rfl
  | succ m => rw [rowS, if_pos h]
theorem rowS_next {s : ByteArray} {a : Nat} {m : Nat} {v : Int} {c : Sc} (h : scVar s ⟨a, false⟩ = (v, c)) (hm : 0 < m) : rowS s m ⟨a, false⟩ = (v :: (rowS s (m - 1) c).1, (rowS s (m - 1) c).2) := by
  obtain ⟨m, rfl⟩ : ∃ k, m = k + 1 := ⟨m - 1, by omega⟩
  rw [rowS, if_neg (by simp), h]
  rfl
theorem itS_next {s : ByteArray} {a : Nat} {m : Nat} {v t : Int} {c d e : Sc} {row : List Int} (h1 : scVar s ⟨a, false⟩ = (v, c)) (h2 : rowS s (min v 10).toNat c = (row, d)) (h3 : scVar s d = (t, e)) (hm : 0 < m) :
    itS s m ⟨a, false⟩ = (⟨row, t⟩ :: (itS s (m - 1) e).1, (itS s (m - 1) e).2) := by
  obtain ⟨m, rfl⟩ : ∃ k, m = k + 1 := ⟨m - 1, by omega⟩
  rw [itS, if_neg (by simp)]
  simp only [h1, h2, h3]
  rfl
theorem rowS_le {s : ByteArray} : ∀ {m : Nat} {c : Sc}, c.a ≤ s.size → (rowS s m c).2.a ≤ s.size
  | 0, c, h => h
  | m + 1, c, h => by
    rw [rowS]
    split
    · exact h
    · exact rowS_le (scVar_le h)
theorem rbS_def {s : ByteArray} {n : Int} {c e : Sc} {zx : List ItemD} (h1 : scVar s ⟨0, false⟩ = (n, c)) (h2 : itS s (min n 310).toNat c = (zx, e)) : rbS s = (!e.bad && (bagB zx && decide (bagT zx = s.data.toList))) := by
  unfold rbS
  simp only [h1, h2]
theorem items_snoc {ys : List ItemD} {x : ItemD} : (ys ++ [x]).length = ys.length + 1 := by simp
theorem bagS_eq {xs : List ItemD} {s : ByteArray} (hb : bagB xs = true) : bagT xs = s.data.toList ↔ bagS xs = s := by
  unfold bagS
  rw [if_pos hb]
  constructor
  · intro h; rw [h]
  · rintro rfl; rfl
set_option maxHeartbeats 8000000 in
set_option maxRecDepth 100000 in
theorem specReadBag_any (s : ByteArray) (w : World) (hs : s.size ≤ 1048576) :
    Calls Try.prog 85 #[.string s] w fun e w' => ∃ ao n cap, e = .returned (.tuple #[.agg #[.slice ao n cap], .bool (rbS s)]) ∧ Fr w w' := by
  obtain ⟨i0, hi, hz0, hz1, hz2⟩ := info_parts info_intv
  obtain ⟨j0, hj, hy0, hy1, hy2⟩ := info_parts info_Item
  obtain ⟨⟨n0, ⟨a0, b0⟩⟩, q0⟩ : ∃ r, scVar s ⟨0, false⟩ = r := ⟨_, rfl⟩
  have hn0 := scVar_nat s ⟨0, false⟩ (Nat.zero_le _)
  have ha0 := scVar_le (s := s) (c := ⟨0, false⟩) (Nat.zero_le _)
  rw [q0] at hn0 ha0
  simp only [] at hn0 ha0
  obtain ⟨M, hM⟩ : ∃ M, (min n0 310).toNat = M := ⟨_, rfl⟩
  obtain ⟨⟨zx, ⟨az, bz⟩⟩, qz⟩ : ∃ r, itS s M ⟨a0, b0⟩ = r := ⟨_, rfl⟩
  have HRB := Lib.hid (rbS_def (zx := zx) (e := ⟨az, bz⟩) q0 (by rw [hM]; exact qz))
  have hMn : (M : Int) ≤ n0 ∧ M ≤ 310 ∧ ((M : Int) = n0 ∨ M = 310) := by omega
  have HQZ := Lib.hid qz
  have C0 : Hid (∀ b w', Box w' b #[.string s, .int .i64 0, .bool false] 138 → Calls Try.prog 105 #[.pointer (some ⟨b, 0, none⟩)] w' fun e w'' => e = .returned (.int .i64 n0) ∧ Box w'' b #[.string s, .int .i64 (a0 : Nat), .bool b0] 138 ∧ Span b (b + 1) w' w'') := Lib.hid fun b w' hb => by have := l03Var_any b 0 false s w' hb (by omega) (Nat.zero_le _); rw [q0] at this; exact this
  clear q0 qz hM
  go_enter Try.func85, Try.ntmps85
  go_wp2_with fail
  refine (C0.out _ _ ((Box.new' (by simp)).alloc _)).mono ?_
  rintro e w1 ⟨rfl, BC, sp1⟩
  have z1 := sp1.size; (try simp only [World.size_alloc] at z1)
  have BR : Box w1 w.heap.size #[.slice none 0 0] 111 := (((Box.new _ _ _).alloc _).alloc _).span sp1 (.inl (by omega))
  have BB : Box w1 (w.heap.size + 1 + 1) #[.slice none 0 0] 111 := (Box.new' (by simp)).span sp1 (.inr (by omega))
  have hf1 : Fr w w1 := Span.fr (show Fr w _ by repeat (first | (with_reducible exact Fr.refl _) | (with_reducible assumption) | (with_reducible refine Fr.drewN ?_ _) | (with_reducible refine Fr.drew ?_) | (with_reducible refine Fr.alloc ?_ _) | (with_reducible refine Fr.setCell ?_ (by (first | (with_reducible assumption) | omega | (simp only [World.size_alloc, World.size_setCell, World.size_drew, World.heap_drewN]; omega) | (simp; done) | (simp; omega))) _) | (with_reducible refine Fr.trans ?_ (by with_reducible assumption)))) sp1 (by omega)
  go_wp2_with fail
  go_loopw [7, 8, 9, 10] (fun i _ _ _ wr => ∃ (k a : Nat) (bad : Bool) (ys : List ItemD) (ao : Option Addr) (cap : Nat), k ≤ M ∧ i = .int .i64 k ∧ ys.length = k ∧ a ≤ s.size ∧ Hid ((itS s (M - k) ⟨a, bad⟩).2 = ⟨az, bz⟩ ∧ ys ++ (itS s (M - k) ⟨a, bad⟩).1 = zx) ∧ Box wr (w.heap.size + 1) #[.string s, .int .i64 (a : Nat), .bool bad] 138 ∧ Box wr (w.heap.size + 1 + 1) #[.slice ao ys.length cap] 111 ∧ Box wr w.heap.size #[.slice none 0 0] 111 ∧ Hid (ItemSW wr (w.heap.size + 1 + 1 + 1) wr.heap.size (.slice ao ys.length cap) ys) ∧ w.heap.size + 1 + 1 + 1 ≤ wr.heap.size ∧ Fr w wr) (fun i _ _ _ _ => M - (intOf i).toNat)
  case atStart => exact ⟨0, a0, b0, [], none, 0, Nat.zero_le _, rfl, rfl, ha0, Lib.hid (by rw [Nat.sub_zero, HQZ.out]; exact ⟨rfl, rfl⟩), BC, BB, BR, Lib.hid (ItemSW.nil _ _ _), by omega, hf1⟩
  case round =>
    clear BC BB BR sp1 z1 hf1 HQZ
    obtain ⟨k, a, bad, ys, ao, cap, hk, rfl, hyl, ha, hd, BC, BB, BR, HP, hzr, hfr⟩ := hrel
    have HYL := Lib.hid hyl
    have hyk : ys.length ≤ 310 := by omega
    clear hyl
    have FC := BC.facts
    have FB := BB.facts
    by_cases hgo : k < M ∧ bad = false
    · obtain ⟨hkM, rfl⟩ := hgo
      have hk1 : (k : Int) < n0 := by omega
      have hk2 : (k : Int) < 310 := by omega
      obtain ⟨⟨v1, ⟨a1, b1⟩⟩, q1⟩ : ∃ r, scVar s ⟨a, false⟩ = r := ⟨_, rfl⟩
      have hv1 := scVar_nat s ⟨a, false⟩ ha
      have ha1 := scVar_le (s := s) (c := ⟨a, false⟩) ha
      rw [q1] at hv1 ha1
      simp only [] at hv1 ha1
      obtain ⟨K, hK⟩ : ∃ K, (min v1 10).toNat = K := ⟨_, rfl⟩
      obtain ⟨⟨row, ⟨a2, b2⟩⟩, q2⟩ : ∃ r, rowS s K ⟨a1, b1⟩ = r := ⟨_, rfl⟩
      have ha2 := rowS_le (s := s) (m := K) (c := ⟨a1, b1⟩) ha1
      rw [q2] at ha2
      simp only [] at ha2
      obtain ⟨⟨v3, ⟨a3, b3⟩⟩, q3⟩ : ∃ r, scVar s ⟨a2, b2⟩ = r := ⟨_, rfl⟩
      have ha3 := scVar_le (s := s) (c := ⟨a2, b2⟩) ha2
      rw [q3] at ha3
      simp only [] at ha3
      have hd2 : Hid ((itS s (M - (k + 1)) ⟨a3, b3⟩).2 = ⟨az, bz⟩ ∧ (ys ++ [⟨row, v3⟩]) ++ (itS s (M - (k + 1)) ⟨a3, b3⟩).1 = zx) := Lib.hid (by
        have := hd.out
        rw [itS_next q1 (by rw [hK]; exact q2) q3 (by omega)] at this
        rw [List.append_assoc]
        exact this)
      have hKv : (K : Int) ≤ v1 ∧ K ≤ 10 ∧ ((K : Int) = v1 ∨ K = 10) := by omega
      have C1 : Hid (∀ b w', Box w' b #[.string s, .int .i64 (a : Nat), .bool false] 138 → Calls Try.prog 105 #[.pointer (some ⟨b, 0, none⟩)] w' fun e w'' => e = .returned (.int .i64 v1) ∧ Box w'' b #[.string s, .int .i64 (a1 : Nat), .bool b1] 138 ∧ Span b (b + 1) w' w'') := Lib.hid fun b w' hb => by have := l03Var_any b a false s w' hb (by omega) ha; rw [q1] at this; exact this
      have C3 : Hid (∀ b w', Box w' b #[.string s, .int .i64 (a2 : Nat), .bool b2] 138 → Calls Try.prog 105 #[.pointer (some ⟨b, 0, none⟩)] w' fun e w'' => e = .returned (.int .i64 v3) ∧ Box w'' b #[.string s, .int .i64 (a3 : Nat), .bool b3] 138 ∧ Span b (b + 1) w' w'') := Lib.hid fun b w' hb => by have := l03Var_any b a2 b2 s w' hb (by omega) ha2; rw [q3] at this; exact this
      have HQ2 := Lib.hid q2
      clear q1 q2 q3 hK hd
      go_wp2_with fail
      refine (C1.out _ _ (BC.alloc _)).mono ?_
      rintro e w2 ⟨rfl, BC2, sp2⟩
      have z2 := sp2.size; (try simp only [World.size_alloc] at z2)
      have BX2 : Box w2 wr.heap.size #[.slice none 0 0, .int .i64 0] 178 := (Box.new _ _ _).span sp2 (.inr (by omega))
      have BB2 := (BB.alloc (.cells #[.slice none 0 0, .int .i64 0] 178)).span sp2 (.inr (by omega))
      have BR2 := (BR.alloc (.cells #[.slice none 0 0, .int .i64 0] 178)).span sp2 (.inl (by omega))
      have HP2 := Lib.hid ((ItemSW.fr HP.out ((Fr.refl _).alloc (.cells #[.slice none 0 0, .int .i64 0] 178))).span sp2 (.inr (by omega)))
      have hf2 : Fr w w2 := Span.fr (show Fr w _ by repeat (first | (with_reducible exact Fr.refl _) | (with_reducible assumption) | (with_reducible refine Fr.drewN ?_ _) | (with_reducible refine Fr.drew ?_) | (with_reducible refine Fr.alloc ?_ _) | (with_reducible refine Fr.setCell ?_ (by (first | (with_reducible assumption) | omega | (simp only [World.size_alloc, World.size_setCell, World.size_drew, World.heap_drewN]; omega) | (simp; done) | (simp; omega))) _) | (with_reducible refine Fr.trans ?_ (by with_reducible assumption)))) sp2 (by omega)
      clear FC FB BC BB BR HP
      obtain ⟨hx, hhx⟩ : ∃ hx, wr.heap.size = hx := ⟨_, rfl⟩
      rw [hhx] at BX2 HP2 z2 hzr
      go_wp2_with fail
      try rw [hhx]
      go_loopw [10] (fun j w4 => ∃ (m a' : Nat) (b' : Bool) (r : List Int) (ay : Option Addr) (cy : Nat), m ≤ K ∧ j = .int .i64 m ∧ r.length = m ∧ a' ≤ s.size ∧ Hid ((rowS s (K - m) ⟨a', b'⟩).2 = ⟨a2, b2⟩ ∧ r ++ (rowS s (K - m) ⟨a', b'⟩).1 = row) ∧ Box w4 (w.heap.size + 1) #[.string s, .int .i64 (a' : Nat), .bool b'] 138 ∧ Box w4 hx #[.slice ay r.length cy, .int .i64 0] 178 ∧ Box w4 (w.heap.size + 1 + 1) #[.slice ao ys.length cap] 111 ∧ Box w4 w.heap.size #[.slice none 0 0] 111 ∧ Hid (ItemSW w4 (w.heap.size + 1 + 1 + 1) hx (.slice ao ys.length cap) ys) ∧ Hid (IntsW w4 (hx + 1) w4.heap.size (.slice ay r.length cy) r) ∧ hx + 1 ≤ w4.heap.size ∧ Fr w w4) (fun j _ => K - (intOf j).toNat)
      case atStart => exact ⟨0, a1, b1, [], none, 0, Nat.zero_le _, rfl, rfl, ha1, Lib.hid (by rw [Nat.sub_zero, HQ2.out]; exact ⟨rfl, rfl⟩), BC2, BX2, BB2, BR2, HP2, Lib.hid (IntsW.nil _ _ _), z2, hf2⟩
      case round =>
        clear BC2 BX2 BB2 BR2 HP2 z2 hf2 sp2 HQ2
        obtain ⟨m, a', b', r, ay, cy, hm, rfl, hrl, ha', hdr, BC, BX, BB, BR, HP, HW, hz4, hf4⟩ := hrel
        have HRL := Lib.hid hrl
        have hrm : r.length ≤ 10 := by omega
        clear hrl
        have FC := BC.facts
        have FX := BX.facts
        by_cases hgo : m < K ∧ b' = false
        · obtain ⟨hmK, rfl⟩ := hgo
          have hm1 : (m : Int) < v1 := by omega
          have hm2 : (m : Int) < 10 := by omega
          obtain ⟨⟨v5, ⟨a5, b5⟩⟩, q5⟩ : ∃ r, scVar s ⟨a', false⟩ = r := ⟨_, rfl⟩
          have ha5 := scVar_le (s := s) (c := ⟨a', false⟩) ha'
          rw [q5] at ha5
          simp only [] at ha5
          have hdr2 : Hid ((rowS s (K - (m + 1)) ⟨a5, b5⟩).2 = ⟨a2, b2⟩ ∧ (r ++ [v5]) ++ (rowS s (K - (m + 1)) ⟨a5, b5⟩).1 = row) := Lib.hid (by
            have := hdr.out
            rw [rowS_next q5 (by omega)] at this
            rw [List.append_assoc]
            exact this)
          have C5 : Hid (∀ b w', Box w' b #[.string s, .int .i64 (a' : Nat), .bool false] 138 → Calls Try.prog 105 #[.pointer (some ⟨b, 0, none⟩)] w' fun e w'' => e = .returned (.int .i64 v5) ∧ Box w'' b #[.string s, .int .i64 (a5 : Nat), .bool b5] 138 ∧ Span b (b + 1) w' w'') := Lib.hid fun b w' hb => by have := l03Var_any b a' false s w' hb (by omega) ha'; rw [q5] at this; exact this
          clear q5 hdr
          go_wp2_with fail
          go_region_law (first | (go_simp; go_at_call 105; refine (C5.out _ _ BC.drew).mono ?_; rintro e w5 ⟨rfl, BC5, sp5⟩; have z5 := sp5.size; (try simp only [World.size_drew] at z5); have BX5 := BX.drew.span sp5 (.inr (by omega)); have FX5 := BX5.facts) | ((refine step_append_rd (by rfl) _ _ 81 (by rfl) (hx + 1) 3 i0 (.int .i64 0) 1 8 Try.underlying81 hi hz0 hz1 hz2 rfl (by decide) (.slice ay r.length cy) r.length (r.map (Value.int .i64)) (by rfl) ((OwW.alloc (OwW.span (OwW.drew HW.out) sp5 (.inr (by omega))) _).1) _ 1 [.int .i64 v5] (by rfl) (RdS.new (by first | rfl | (simp; done)) rfl) (by simp [Value.oneCell']) (by unfold maxLen; omega) (by omega) (by (first | (with_reducible assumption) | omega | (simp only [World.size_alloc, World.size_setCell, World.size_drew, World.heap_drewN]; omega) | (simp; done) | (simp; omega))) ?_; intro ay6 cy6 w6 hown hgrow hat; have BX6 := (BX5.alloc (.cells #[.int .i64 v5] 3)).row hgrow HW.out.2 (by omega); have FX6 := BX6.facts)))
          all_goals
            have s6 : Span (hx + 1) wr.heap.size (w5.alloc (.cells #[.int .i64 v5] 3)) w6 := Span.of_gr hgrow (fun g hg => HW.out.2 g hg)
            have z6 := s6.size
            simp only [World.size_alloc] at z6
            have BC6 := (BC5.alloc (.cells #[.int .i64 v5] 3)).span s6 (.inl (by omega))
            have BB6 := ((BB.drew.span sp5 (.inr (by omega))).alloc (.cells #[.int .i64 v5] 3)).span s6 (.inl (by omega))
            have BR6 := ((BR.drew.span sp5 (.inl (by omega))).alloc (.cells #[.int .i64 v5] 3)).span s6 (.inl (by omega))
            have HP6 := (ItemSW.fr ((ItemSW.fr HP.out (Fr.refl _).drew).span sp5 (.inr (by omega))) ((Fr.refl _).alloc (.cells #[.int .i64 v5] 3))).span s6 (.inl (by omega))
            have hf5 : Fr w w5 := Span.fr (show Fr w _ by repeat (first | (with_reducible exact Fr.refl _) | (with_reducible assumption) | (with_reducible refine Fr.drewN ?_ _) | (with_reducible refine Fr.drew ?_) | (with_reducible refine Fr.alloc ?_ _) | (with_reducible refine Fr.setCell ?_ (by (first | (with_reducible assumption) | omega | (simp only [World.size_alloc, World.size_setCell, World.size_drew, World.heap_drewN]; omega) | (simp; done) | (simp; omega))) _) | (with_reducible refine Fr.trans ?_ (by with_reducible assumption)))) sp5 (by omega)
            have hf6 : Fr w w6 := Span.fr (show Fr w _ by repeat (first | (with_reducible exact Fr.refl _) | (with_reducible assumption) | (with_reducible refine Fr.drewN ?_ _) | (with_reducible refine Fr.drew ?_) | (with_reducible refine Fr.alloc ?_ _) | (with_reducible refine Fr.setCell ?_ (by (first | (with_reducible assumption) | omega | (simp only [World.size_alloc, World.size_setCell, World.size_drew, World.heap_drewN]; omega) | (simp; done) | (simp; omega))) _) | (with_reducible refine Fr.trans ?_ (by with_reducible assumption)))) s6 (by omega)
            have hW6 : IntsW w6 (hx + 1) w6.heap.size (.slice ay6 (r ++ [v5]).length cy6) (r ++ [v5]) := by
              have := OwW.of_owns hown
              unfold IntsW
              rw [List.map_append, List.length_append]
              exact this
            have hl6 : (r ++ [v5]).length = r.length + 1 := by simp
            go_wp2_with fail
            go_roundw
            case rel => exact ⟨m + 1, a5, b5, r ++ [v5], ay6, cy6, by omega, by go_num, by rw [hl6, HRL.out], ha5, hdr2, BC6.far (by omega) _, by rw [hl6]; exact BX6.set_to (by simp), BB6.far (by omega) _, BR6.far (by omega) _, Lib.hid (HP6.span Span.set1 (.inl (Nat.le_refl _))), Lib.hid (by rw [World.size_setCell]; exact OwW.set hW6 (.inl (by show hx < hx + 1; omega)) _), by simp; omega, by repeat (first | (with_reducible exact Fr.refl _) | (with_reducible assumption) | (with_reducible refine Fr.drewN ?_ _) | (with_reducible refine Fr.drew ?_) | (with_reducible refine Fr.alloc ?_ _) | (with_reducible refine Fr.setCell ?_ (by (first | (with_reducible assumption) | omega | (simp only [World.size_alloc, World.size_setCell, World.size_drew, World.heap_drewN]; omega) | (simp; done) | (simp; omega))) _) | (with_reducible refine Fr.trans ?_ (by with_reducible assumption)))⟩
            case measure => (simp [intOf]; omega)
        · have hend : r = row ∧ a' = a2 ∧ b' = b2 := by
            have := hdr.out
            by_cases hmK : m < K
            · have hb : b' = true := by cases b' <;> simp_all
              rw [rowS_stop hb] at this
              simpa using this.symm
            · rw [show K - m = 0 by omega] at this
              simpa [rowS] using this.symm
          obtain ⟨rfl, rfl, rfl⟩ := hend
          have hg : (¬ (m : Int) < v1) ∨ ((m : Int) < v1 ∧ ¬ (m : Int) < 10) ∨ ((m : Int) < v1 ∧ (m : Int) < 10 ∧ b' = true) := by
            by_cases h1 : (m : Int) < v1
            · by_cases h2 : (m : Int) < 10
              · refine .inr (.inr ⟨h1, h2, ?_⟩)
                have h3 : m < K := by omega
                cases b' <;> simp_all
              · exact .inr (.inl ⟨h1, h2⟩)
            · exact .inl h1
          clear hgo hdr
          rcases hg with hg | ⟨hg1, hg2⟩ | ⟨hg1, hg2, rfl⟩
          all_goals
            go_wp2_with fail
            refine (C3.out _ _ BC).mono ?_
            rintro e w5 ⟨rfl, BC5, sp5⟩
            have z5 := sp5.size
            have BX5 := BX.span sp5 (.inr (by omega))
            have FX5 := BX5.facts
            have BB5 := BB.span sp5 (.inr (by omega))
            have FB5 := BB5.facts
            have BR5 := BR.span sp5 (.inl (by omega))
            have HP5 : ItemSW (w5.setCell ⟨hx, 1, none⟩ (.int .i64 v3)) (w.heap.size + 1 + 1 + 1) hx (.slice ao ys.length cap) ys := (HP.out.span sp5 (.inr (by omega))).span Span.set1 (.inl (Nat.le_refl _))
            have HW5 : Hid (IntsW (w5.setCell ⟨hx, 1, none⟩ (.int .i64 v3)) (hx + 1) w5.heap.size (.slice ay r.length cy) r) := Lib.hid (OwW.mono (OwW.set (OwW.span HW.out sp5 (.inr (by omega))) (.inl (by show hx < hx + 1; omega)) _) (Nat.le_refl _) (by omega))
            have hf5 : Fr w w5 := Span.fr hf4 sp5 (by omega)
            obtain ⟨cells, hOw, happ⟩ := NestW.app (E := ItemEW) (fun a b c => ItemEW.span a b c) HP5
            have HOW := Lib.hid hOw
            have HAPP := Lib.hid happ
            clear hOw happ HP5 FC FX
            go_wp2_with (at_builtin; (refine wpList_append_rd rfl _ _ 109 rfl (w.heap.size + 1 + 1 + 1) 178 j0 (.agg #[.slice none 0 0, .int .i64 0]) 2 32 Try.underlying109 hj hy0 hy1 hy2 rfl (by decide) _ ys.length cells rfl (World.ownsRow.alloc HOW.out.1 _) _ 1 [.slice ay r.length cy, .int .i64 v3] rfl (RdS.new (by first | rfl | simp) rfl) (by simp [Value.oneCell']) (by unfold maxLen; omega) (by omega) (by (first | (with_reducible assumption) | omega | (simp only [World.size_alloc, World.size_setCell, World.size_drew, World.heap_drewN]; omega) | (simp; done) | (simp; omega))) ?_; intro ao6 cap6 w6 hown6 hgrow6 hat6; have BB6 := ((BB5.far (by omega) _).alloc (.cells #[.slice ay r.length cy, .int .i64 v3] 178)).row hgrow6 HOW.out.2 (.inl (by omega)); have FB6 := BB6.facts))
            have sb : w5.heap.size + 1 ≤ w6.heap.size := by have := hgrow6.size; simpa using this
            have s6 : Span (w.heap.size + 1 + 1 + 1) hx ((w5.setCell ⟨hx, 1, none⟩ (.int .i64 v3)).alloc (.cells #[.slice ay r.length cy, .int .i64 v3] 178)) w6 := Span.of_gr hgrow6 (fun g hg => HOW.out.2 g hg)
            have hf6 : Fr w w6 := Span.fr (show Fr w _ by repeat (first | (with_reducible exact Fr.refl _) | (with_reducible assumption) | (with_reducible refine Fr.drewN ?_ _) | (with_reducible refine Fr.drew ?_) | (with_reducible refine Fr.alloc ?_ _) | (with_reducible refine Fr.setCell ?_ (by (first | (with_reducible assumption) | omega | (simp only [World.size_alloc, World.size_setCell, World.size_drew, World.heap_drewN]; omega) | (simp; done) | (simp; omega))) _) | (with_reducible refine Fr.trans ?_ (by with_reducible assumption)))) s6 (by omega)
            have BC6 := ((BC5.far (by omega) _).alloc (.cells #[.slice ay r.length cy, .int .i64 v3] 178)).span s6 (.inl (by omega))
            have BR6 := ((BR5.far (by omega) _).alloc (.cells #[.slice ay r.length cy, .int .i64 v3] 178)).span s6 (.inl (by omega))
            have hN6 : ItemSW w6 (w.heap.size + 1 + 1 + 1) w6.heap.size (.slice ao6 (ys.length + 1) cap6) (ys ++ [⟨r, v3⟩]) := HAPP.out _ ((w5.setCell ⟨hx, 1, none⟩ (.int .i64 v3)).alloc (.cells #[.slice ay r.length cy, .int .i64 v3] 178)) w6 [.slice ay r.length cy, .int .i64 v3] ⟨r, v3⟩ (hx + 1) w5.heap.size w6.heap.size ((w5.setCell ⟨hx, 1, none⟩ (.int .i64 v3)).alloc (.cells #[.slice ay r.length cy, .int .i64 v3] 178)).heap.size ((Fr.refl _).alloc _) hown6 hgrow6 hat6 (RowIn.of_owns hown6) (by simp) (by omega) rfl ⟨ay, cy, rfl, OwW.alloc HW5.out _⟩ (by omega) (by omega) (by omega)
            have hl6 : (ys ++ [(⟨r, v3⟩ : ItemD)]).length = ys.length + 1 := by simp
            go_roundw
            case rel => exact ⟨k + 1, a3, b3, ys ++ [⟨r, v3⟩], ao6, cap6, by omega, by go_num, by rw [hl6, HYL.out], ha3, hd2, BC6.far (by omega) _, by rw [hl6]; exact BB6.set_to (by simp), BR6.far (by omega) _, Lib.hid (by rw [World.size_setCell, hl6]; exact hN6.span Span.set1 (.inr (by omega))), by simp; omega, by repeat (first | (with_reducible exact Fr.refl _) | (with_reducible assumption) | (with_reducible refine Fr.drewN ?_ _) | (with_reducible refine Fr.drew ?_) | (with_reducible refine Fr.alloc ?_ _) | (with_reducible refine Fr.setCell ?_ (by (first | (with_reducible assumption) | omega | (simp only [World.size_alloc, World.size_setCell, World.size_drew, World.heap_drewN]; omega) | (simp; done) | (simp; omega))) _) | (with_reducible refine Fr.trans ?_ (by with_reducible assumption)))⟩
            case measure => (simp [intOf]; omega)
    · have hend : ys = zx ∧ a = az ∧ bad = bz := by
        have := hd.out
        by_cases hkM : k < M
        · have hb : bad = true := by cases bad <;> simp_all
          rw [itS_stop hb] at this
          simpa using this.symm
        · rw [show M - k = 0 by omega] at this
          simpa [itS] using this.symm
      obtain ⟨rfl, rfl, rfl⟩ := hend
      have hg : (¬ (k : Int) < n0) ∨ ((k : Int) < n0 ∧ ¬ (k : Int) < 310) ∨ ((k : Int) < n0 ∧ (k : Int) < 310 ∧ bad = true) := by
        by_cases h1 : (k : Int) < n0
        · by_cases h2 : (k : Int) < 310
          · refine .inr (.inr ⟨h1, h2, ?_⟩)
            have h3 : k < M := by omega
            cases bad <;> simp_all
          · exact .inr (.inl ⟨h1, h2⟩)
        · exact .inl h1
      have FR0 := BR.facts
      clear hgo hd
      obtain ⟨bt, hbt⟩ : ∃ bt, bagS ys = bt := ⟨_, rfl⟩
      have HBT := Lib.hid hbt
      cases hB : bagB ys
      · have C6 : Hid (∀ w', Fr wr w' → Calls Try.prog 140 #[.agg #[.slice ao ys.length cap]] w' fun e w'' => e = .returned (.tuple #[.string bt, .bool false]) ∧ Fr w' w'') := Lib.hid fun w' hf => by rw [← hbt, ← hB]; exact specBagText_any _ _ _ (ItemSR.fr HP.out.rd hf)
        have HF : Hid (rbS s = false) := Lib.hid (by rw [HRB.out, hB, Bool.false_and, Bool.and_false])
        clear hB hbt
        rcases hg with hg | ⟨hg1, hg2⟩ | ⟨hg1, hg2, hg3⟩ <;> cases bad
        all_goals (first | (cases hg3; done) | skip)
        all_goals
          go_wp2_with fail
          refine (C6.out _ (by repeat (first | (with_reducible exact Fr.refl _) | (with_reducible assumption) | (with_reducible refine Fr.drewN ?_ _) | (with_reducible refine Fr.drew ?_) | (with_reducible refine Fr.alloc ?_ _) | (with_reducible refine Fr.setCell ?_ (by (first | (with_reducible assumption) | omega | (simp only [World.size_alloc, World.size_setCell, World.size_drew, World.heap_drewN]; omega) | (simp; done) | (simp; omega))) _) | (with_reducible refine Fr.trans ?_ (by with_reducible assumption))))).mono ?_
          rintro e w2 ⟨rfl, hf2⟩
          have FC2 := (BC.fr hf2).facts
          have FR2 := (BR.fr hf2).facts
          clear FC FB FR0
          go_wp2_with fail
          refine bodyPost_ret (v := .tuple #[.agg #[.slice none 0 0], .bool false]) (by simp [results, Try.results85, go_sem, *]) rfl ⟨none, 0, 0, by rw [HF.out], by repeat (first | (with_reducible exact Fr.refl _) | (with_reducible assumption) | (with_reducible refine Fr.drewN ?_ _) | (with_reducible refine Fr.drew ?_) | (with_reducible refine Fr.alloc ?_ _) | (with_reducible refine Fr.setCell ?_ (by (first | (with_reducible assumption) | omega | (simp only [World.size_alloc, World.size_setCell, World.size_drew, World.heap_drewN]; omega) | (simp; done) | (simp; omega))) _) | (with_reducible refine Fr.trans ?_ (by with_reducible assumption)))⟩
      · have C6 : Hid (∀ w', Fr wr w' → Calls Try.prog 140 #[.agg #[.slice ao ys.length cap]] w' fun e w'' => e = .returned (.tuple #[.string bt, .bool true]) ∧ Fr w' w'') := Lib.hid fun w' hf => by rw [← hbt, ← hB]; exact specBagText_any _ _ _ (ItemSR.fr HP.out.rd hf)
        have HB := Lib.hid hB
        clear hB hbt
        cases bad
        · by_cases he : bt = s
          · have HF : Hid (rbS s = true) := Lib.hid (by rw [HRB.out, HB.out, decide_eq_true ((bagS_eq HB.out).2 (HBT.out.trans he))]; rfl)
            have hq := bytes_beq he
            have HE := Lib.hid he
            clear he
            rcases hg with hg | ⟨hg1, hg2⟩ | ⟨hg1, hg2, hg3⟩
            rotate_right
            · cases hg3
            all_goals
              go_wp2_with fail
              refine (C6.out _ (by repeat (first | (with_reducible exact Fr.refl _) | (with_reducible assumption) | (with_reducible refine Fr.drewN ?_ _) | (with_reducible refine Fr.drew ?_) | (with_reducible refine Fr.alloc ?_ _) | (with_reducible refine Fr.setCell ?_ (by (first | (with_reducible assumption) | omega | (simp only [World.size_alloc, World.size_setCell, World.size_drew, World.heap_drewN]; omega) | (simp; done) | (simp; omega))) _) | (with_reducible refine Fr.trans ?_ (by with_reducible assumption))))).mono ?_
              rintro e w2 ⟨rfl, hf2⟩
              have FC2 := (BC.fr hf2).facts
              have BR2 := BR.fr hf2
              have FR2 := BR2.facts
              have FB2 := (BB.fr hf2).facts
              clear FC FB FR0
              go_wp2_with fail
              refine bodyPost_ret (v := .tuple #[.agg #[.slice ao ys.length cap], .bool true]) (by simp [results, Try.results85, go_sem, *]) rfl ⟨ao, ys.length, cap, by rw [HF.out], by repeat (first | (with_reducible exact Fr.refl _) | (with_reducible assumption) | (with_reducible refine Fr.drewN ?_ _) | (with_reducible refine Fr.drew ?_) | (with_reducible refine Fr.alloc ?_ _) | (with_reducible refine Fr.setCell ?_ (by (first | (with_reducible assumption) | omega | (simp only [World.size_alloc, World.size_setCell, World.size_drew, World.heap_drewN]; omega) | (simp; done) | (simp; omega))) _) | (with_reducible refine Fr.trans ?_ (by with_reducible assumption)))⟩
          · have HF : Hid (rbS s = false) := Lib.hid (by rw [HRB.out, decide_eq_false (fun h => he (HBT.out.symm.trans ((bagS_eq HB.out).1 h))), Bool.and_false, Bool.and_false])
            have hq := bytes_bne he
            clear he
            rcases hg with hg | ⟨hg1, hg2⟩ | ⟨hg1, hg2, hg3⟩
            rotate_right
            · cases hg3
            all_goals
              go_wp2_with fail
              refine (C6.out _ (by repeat (first | (with_reducible exact Fr.refl _) | (with_reducible assumption) | (with_reducible refine Fr.drewN ?_ _) | (with_reducible refine Fr.drew ?_) | (with_reducible refine Fr.alloc ?_ _) | (with_reducible refine Fr.setCell ?_ (by (first | (with_reducible assumption) | omega | (simp only [World.size_alloc, World.size_setCell, World.size_drew, World.heap_drewN]; omega) | (simp; done) | (simp; omega))) _) | (with_reducible refine Fr.trans ?_ (by with_reducible assumption))))).mono ?_
              rintro e w2 ⟨rfl, hf2⟩
              have FC2 := (BC.fr hf2).facts
              have FR2 := (BR.fr hf2).facts
              clear FC FB FR0
              go_wp2_with fail
              refine bodyPost_ret (v := .tuple #[.agg #[.slice none 0 0], .bool false]) (by simp [results, Try.results85, go_sem, *]) rfl ⟨none, 0, 0, by rw [HF.out], by repeat (first | (with_reducible exact Fr.refl _) | (with_reducible assumption) | (with_reducible refine Fr.drewN ?_ _) | (with_reducible refine Fr.drew ?_) | (with_reducible refine Fr.alloc ?_ _) | (with_reducible refine Fr.setCell ?_ (by (first | (with_reducible assumption) | omega | (simp only [World.size_alloc, World.size_setCell, World.size_drew, World.heap_drewN]; omega) | (simp; done) | (simp; omega))) _) | (with_reducible refine Fr.trans ?_ (by with_reducible assumption)))⟩
        · have HF : Hid (rbS s = false) := Lib.hid (by rw [HRB.out]; rfl)
          rcases hg with hg | ⟨hg1, hg2⟩ | ⟨hg1, hg2, hg3⟩
          all_goals
            go_wp2_with fail
            refine (C6.out _ (by repeat (first | (with_reducible exact Fr.refl _) | (with_reducible assumption) | (with_reducible refine Fr.drewN ?_ _) | (with_reducible refine Fr.drew ?_) | (with_reducible refine Fr.alloc ?_ _) | (with_reducible refine Fr.setCell ?_ (by (first | (with_reducible assumption) | omega | (simp only [World.size_alloc, World.size_setCell, World.size_drew, World.heap_drewN]; omega) | (simp; done) | (simp; omega))) _) | (with_reducible refine Fr.trans ?_ (by with_reducible assumption))))).mono ?_
            rintro e w2 ⟨rfl, hf2⟩
            have FC2 := (BC.fr hf2).facts
            have FR2 := (BR.fr hf2).facts
            clear FC FB FR0
            go_wp2_with fail
            refine bodyPost_ret (v := .tuple #[.agg #[.slice none 0 0], .bool false]) (by simp [results, Try.results85, go_sem, *]) rfl ⟨none, 0, 0, by rw [HF.out], by repeat (first | (with_reducible exact Fr.refl _) | (with_reducible assumption) | (with_reducible refine Fr.drewN ?_ _) | (with_reducible refine Fr.drew ?_) | (with_reducible refine Fr.alloc ?_ _) | (with_reducible refine Fr.setCell ?_ (by (first | (with_reducible assumption) | omega | (simp only [World.size_alloc, World.size_setCell, World.size_drew, World.heap_drewN]; omega) | (simp; done) | (simp; omega))) _) | (with_reducible refine Fr.trans ?_ (by with_reducible assumption)))⟩
end Go.Proofs.Ytphjlecbhbcbcaa
