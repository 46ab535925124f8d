/- impl.ReadBag, impl.isBagText: whether a text is a bag's. Condition: the text is no longer than the laws allow. -/
import Derived.Test.YtphjlecbhbcbcaaBagRd
namespace Go.Proofs.Ytphjlecbhbcbcaa
open Go.RowKit
set_option linter.unusedVariables false
set_option linter.unusedSimpArgs false
theorem done_any (b a : Nat) (bad : Bool) (s : ByteArray) (w : World) (hb : Box w b #[.string s, .int .i64 (a : Nat), .bool bad] 141) :
    Calls Try.prog 156 #[.pointer (some ⟨b, 0, none⟩)] w fun e w' => e = .returned (.bool (!bad && decide (a = s.size))) ∧ Fr w w' := by
  have FB := hb.facts
  cases bad
  · by_cases h : a = s.size
    · have hq : ((a : Int) == (s.size : Int)) = true := by simp [h]
      have HH := Lib.hid h
      clear h
      go_enter Try.func156, Try.ntmps156
      go_wp2_with fail
      go_quiet (fail)
      go_wp2_with fail
      go_ret
      exact ⟨ret_bool (by simp [HH.out]), by repeat (first | (with_reducible exact Fr.refl _) | (with_reducible assumption) | (with_reducible refine Fr.drewN ?_ _) | (with_reducible refine Fr.drew ?_) | (with_reducible refine Fr.alloc ?_ _) | (with_reducible refine Fr.setCell ?_ (by (first | (with_reducible assumption) | omega | (simp only [World.size_alloc, World.size_setCell, World.size_drew, World.heap_drewN]; omega) | (simp; done) | (simp; omega))) _) | (with_reducible refine Fr.trans ?_ (by with_reducible assumption)))⟩
    · have hq : ((a : Int) == (s.size : Int)) = false := by simp; omega
      have HH := Lib.hid h
      clear h
      go_enter Try.func156, Try.ntmps156
      go_wp2_with fail
      go_quiet (fail)
      go_wp2_with fail
      go_ret
      exact ⟨ret_bool (by simp [HH.out]), by repeat (first | (with_reducible exact Fr.refl _) | (with_reducible assumption) | (with_reducible refine Fr.drewN ?_ _) | (with_reducible refine Fr.drew ?_) | (with_reducible refine Fr.alloc ?_ _) | (with_reducible refine Fr.setCell ?_ (by (first | (with_reducible assumption) | omega | (simp only [World.size_alloc, World.size_setCell, World.size_drew, World.heap_drewN]; omega) | (simp; done) | (simp; omega))) _) | (with_reducible refine Fr.trans ?_ (by with_reducible assumption)))⟩
  · go_enter Try.func156, Try.ntmps156
    go_wp2_with fail
    go_quiet (fail)
    go_wp2_with fail
    go_ret
    exact ⟨ret_bool (by simp), by repeat (first | (with_reducible exact Fr.refl _) | (with_reducible assumption) | (with_reducible refine Fr.drewN ?_ _) | (with_reducible refine Fr.drew ?_) | (with_reducible refine Fr.alloc ?_ _) | (with_reducible refine Fr.setCell ?_ (by (first | (with_reducible assumption) | omega | (simp only [World.size_alloc, World.size_setCell, World.size_drew, World.heap_drewN]; omega) | (simp; done) | (simp; omega))) _) | (with_reducible refine Fr.trans ?_ (by with_reducible assumption)))⟩
theorem rowI_next {s : ByteArray} {c c' : Sc} {m : Nat} {v : Int} (h : scVar s c = (v, c')) (hm : 0 < m) : rowI s m c = (v :: (rowI s (m - 1) c').1, (rowI s (m - 1) c').2) := by
  obtain ⟨m, rfl⟩ : ∃ k, m = k + 1 := ⟨m - 1, by omega⟩
  rw [rowI, h]
  rfl
theorem rowI_le {s : ByteArray} : ∀ {m : Nat} {c : Sc}, c.a ≤ s.size → (rowI s m c).2.a ≤ s.size
  | 0, c, h => h
  | m + 1, c, h => rowI_le (m := m) (scVar_le h)
theorem itI_stop {s : ByteArray} {c : Sc} (h : c.bad = true) (m i : Nat) : itI s m i c = some ([], c) := by
  cases m with
  | zero => rfl
  | succ m => rw [itI, if_pos h]
theorem itI_none {s : ByteArray} {a : Nat} {m i : Nat} {v : Int} {c : Sc} (h1 : scVar s ⟨a, false⟩ = (v, c)) (hm : 0 < m) (h : 4 < v ∨ 300 ≤ i) : itI s m i ⟨a, false⟩ = none := by
  obtain ⟨m, rfl⟩ : ∃ k, m = k + 1 := ⟨m - 1, by omega⟩
  rw [itI, if_neg (by simp), h1, if_pos h]
theorem itI_next {s : ByteArray} {a : Nat} {m i : Nat} {v t : Int} {c d e : Sc} {row : List Int} (h1 : scVar s ⟨a, false⟩ = (v, c)) (hm : 0 < m) (h : ¬ (4 < v ∨ 300 ≤ i)) (h2 : rowI s v.toNat c = (row, d)) (h3 : scVar s d = (t, e)) :
    itI s m i ⟨a, false⟩ = (itI s (m - 1) (i + 1) e).map fun z => (⟨row, t⟩ :: z.1, z.2) := by
  obtain ⟨m, rfl⟩ : ∃ k, m = k + 1 := ⟨m - 1, by omega⟩
  rw [itI, if_neg (by simp), h1, if_neg h]
  simp only [h2, h3]
  rfl
/-- What is still to be read, behind the items ys. -/
def restI (s : ByteArray) (ys : List ItemD) (z : Option (List ItemD × Sc)) : Bool :=
  match z with
  | none => false
  | some z => !z.2.bad && (decide (z.2.a = s.size) && bagB (ys ++ z.1))
theorem rbI_def {s : ByteArray} {n : Int} {c : Sc} (h1 : scVar s ⟨0, false⟩ = (n, c)) : rbS s = restI s [] (itI s n.toNat 0 c) := by
  rw [rb_eq]
  unfold rbI restI
  simp only [h1, List.nil_append]
  cases itI s n.toNat 0 c <;> rfl
theorem restI_map {s : ByteArray} {ys : List ItemD} {x : ItemD} {z : Option (List ItemD × Sc)} : restI s ys (z.map fun z => (x :: z.1, z.2)) = restI s (ys ++ [x]) z := by
  cases z with
  | none => rfl
  | some z => unfold restI; simp
set_option maxHeartbeats 8000000 in
set_option maxRecDepth 100000 in
theorem implReadBag_any (s : ByteArray) (w : World) (hs : s.size ≤ 1048576) :
    Calls Try.prog 141 #[.string s] w fun e w' => ∃ ao n cap, e = .returned (.tuple #[.agg #[.slice ao n cap], .bool (rbS s)]) ∧ Fr w w' := by
  obtain ⟨i0, hi, hz0, hz1, hz2⟩ := info_parts info_intv
  obtain ⟨j0, hj, hy0, hy1, hy2⟩ := info_parts info_Item
  obtain ⟨⟨n0, ⟨a0, b0⟩⟩, q0⟩ : ∃ r, scVar s ⟨0, false⟩ = r := ⟨_, rfl⟩
  have hn0 := scVar_nat s ⟨0, false⟩ (Nat.zero_le _)
  have ha0 := scVar_le (s := s) (c := ⟨0, false⟩) (Nat.zero_le _)
  rw [q0] at hn0 ha0
  simp only [] at hn0 ha0
  obtain ⟨M, rfl⟩ := Int.eq_ofNat_of_zero_le hn0.1
  have HRB := Lib.hid (rbI_def q0)
  rw [Int.toNat_natCast] at HRB
  have C0 : Hid (∀ b w', Box w' b #[.string s, .int .i64 0, .bool false] 141 → Calls Try.prog 149 #[.pointer (some ⟨b, 0, none⟩)] w' fun e w'' => e = .returned (.int .i64 M) ∧ Box w'' b #[.string s, .int .i64 (a0 : Nat), .bool b0] 141 ∧ Span b (b + 1) w' w'') := Lib.hid fun b w' hb => by have := number_any b 0 false s w' hb (by omega) (Nat.zero_le _); rw [q0] at this; exact this
  clear q0
  go_enter Try.func141, Try.ntmps141
  go_wp2_with fail
  refine (C0.out _ _ ((Box.new' (by simp)).alloc _)).mono ?_
  rintro e w1 ⟨rfl, BC, sp1⟩
  have z1 := sp1.size; (try simp only [World.size_alloc] at z1)
  have BR : Box w1 w.heap.size #[.slice none 0 0] 111 := (((Box.new _ _ _).alloc _).alloc _).span sp1 (.inl (by omega))
  have BB : Box w1 (w.heap.size + 1 + 1) #[.slice none 0 0] 111 := (Box.new' (by simp)).span sp1 (.inr (by omega))
  have hf1 : Fr w w1 := Span.fr (show Fr w _ by repeat (first | (with_reducible exact Fr.refl _) | (with_reducible assumption) | (with_reducible refine Fr.drewN ?_ _) | (with_reducible refine Fr.drew ?_) | (with_reducible refine Fr.alloc ?_ _) | (with_reducible refine Fr.setCell ?_ (by (first | (with_reducible assumption) | omega | (simp only [World.size_alloc, World.size_setCell, World.size_drew, World.heap_drewN]; omega) | (simp; done) | (simp; omega))) _) | (with_reducible refine Fr.trans ?_ (by with_reducible assumption)))) sp1 (by omega)
  go_wp2_with fail
  go_loopw [7, 8, 9, 32] (fun i _ _ _ wr => ∃ (k a : Nat) (bad : Bool) (ys : List ItemD) (ao : Option Addr) (cap : Nat), k ≤ M ∧ k ≤ 300 ∧ i = .int .i64 k ∧ ys.length = k ∧ a ≤ s.size ∧ Hid (restI s ys (itI s (M - k) k ⟨a, bad⟩) = rbS s) ∧ Box wr (w.heap.size + 1) #[.string s, .int .i64 (a : Nat), .bool bad] 141 ∧ Box wr (w.heap.size + 1 + 1) #[.slice ao ys.length cap] 111 ∧ Box wr w.heap.size #[.slice none 0 0] 111 ∧ Hid (ItemSW wr (w.heap.size + 1 + 1 + 1) wr.heap.size (.slice ao ys.length cap) ys) ∧ w.heap.size + 1 + 1 + 1 ≤ wr.heap.size ∧ Fr w wr) (fun i _ _ _ _ => M - (intOf i).toNat)
  case atStart => exact ⟨0, a0, b0, [], none, 0, Nat.zero_le _, Nat.zero_le _, rfl, rfl, ha0, Lib.hid HRB.out.symm, BC, BB, BR, Lib.hid (ItemSW.nil _ _ _), by omega, hf1⟩
  case round =>
    clear BC BB BR sp1 z1 hf1
    obtain ⟨k, a, bad, ys, ao, cap, hk, hk300, rfl, hyl, ha, hd, BC, BB, BR, HP, hzr, hfr⟩ := hrel
    have HYL := Lib.hid hyl
    have hyk : ys.length ≤ 310 := by omega
    clear hyl
    have FC := BC.facts
    have FB := BB.facts
    have FR0 := BR.facts
    by_cases hgo : k < M ∧ bad = false
    · obtain ⟨hkM, rfl⟩ := hgo
      obtain ⟨⟨v1, ⟨a1, b1⟩⟩, q1⟩ : ∃ r, scVar s ⟨a, false⟩ = r := ⟨_, rfl⟩
      have hv1 := scVar_nat s ⟨a, false⟩ ha
      have ha1 := scVar_le (s := s) (c := ⟨a, false⟩) ha
      rw [q1] at hv1 ha1
      simp only [] at hv1 ha1
      have C1 : Hid (∀ b w', Box w' b #[.string s, .int .i64 (a : Nat), .bool false] 141 → Calls Try.prog 149 #[.pointer (some ⟨b, 0, none⟩)] w' fun e w'' => e = .returned (.int .i64 v1) ∧ Box w'' b #[.string s, .int .i64 (a1 : Nat), .bool b1] 141 ∧ Span b (b + 1) w' w'') := Lib.hid fun b w' hb => by have := number_any b a false s w' hb (by omega) ha; rw [q1] at this; exact this
      by_cases hno : 4 < v1 ∨ 300 ≤ k
      · have HF : Hid (rbS s = false) := Lib.hid (by rw [← hd.out, itI_none q1 (by omega) hno]; rfl)
        clear q1
        have hg : 4 < v1 ∨ (¬ 4 < v1 ∧ (300 : Int) ≤ k) := by omega
        clear hno
        rcases hg with hg | ⟨hg1, hg2⟩
        all_goals
          go_wp2_with fail
          refine (C1.out _ _ BC).mono ?_
          rintro e w2 ⟨rfl, BC2, sp2⟩
          have BR2 := BR.span sp2 (.inl (by omega))
          have FR2 := BR2.facts
          have hf2 : Fr w w2 := Span.fr hfr sp2 (by omega)
          clear FC FB FR0
          go_wp2_with fail
          refine bodyPost_ret (v := .tuple #[.agg #[.slice none 0 0], .bool false]) (by simp [results, Try.results141, go_sem, *]) rfl ⟨none, 0, 0, by rw [HF.out], by repeat (first | (with_reducible exact Fr.refl _) | (with_reducible assumption) | (with_reducible refine Fr.drewN ?_ _) | (with_reducible refine Fr.drew ?_) | (with_reducible refine Fr.alloc ?_ _) | (with_reducible refine Fr.setCell ?_ (by (first | (with_reducible assumption) | omega | (simp only [World.size_alloc, World.size_setCell, World.size_drew, World.heap_drewN]; omega) | (simp; done) | (simp; omega))) _) | (with_reducible refine Fr.trans ?_ (by with_reducible assumption)))⟩
      · obtain ⟨⟨row, ⟨a2, b2⟩⟩, q2⟩ : ∃ r, rowI s v1.toNat ⟨a1, b1⟩ = r := ⟨_, rfl⟩
        have ha2 := rowI_le (s := s) (m := v1.toNat) (c := ⟨a1, b1⟩) ha1
        rw [q2] at ha2
        simp only [] at ha2
        obtain ⟨⟨v3, ⟨a3, b3⟩⟩, q3⟩ : ∃ r, scVar s ⟨a2, b2⟩ = r := ⟨_, rfl⟩
        have ha3 := scVar_le (s := s) (c := ⟨a2, b2⟩) ha2
        rw [q3] at ha3
        simp only [] at ha3
        have hd2 : Hid (restI s (ys ++ [⟨row, v3⟩]) (itI s (M - (k + 1)) (k + 1) ⟨a3, b3⟩) = rbS s) := Lib.hid (by
          have := hd.out
          rw [itI_next q1 (by omega) hno q2 q3, restI_map] at this
          exact this)
        have hk2 : (k : Int) < 300 := by omega
        have hk4 : v1 ≤ 4 := by omega
        obtain ⟨K, rfl⟩ := Int.eq_ofNat_of_zero_le hv1.1
        rw [Int.toNat_natCast] at q2
        have C3 : Hid (∀ b w', Box w' b #[.string s, .int .i64 (a2 : Nat), .bool b2] 141 → Calls Try.prog 149 #[.pointer (some ⟨b, 0, none⟩)] w' fun e w'' => e = .returned (.int .i64 v3) ∧ Box w'' b #[.string s, .int .i64 (a3 : Nat), .bool b3] 141 ∧ Span b (b + 1) w' w'') := Lib.hid fun b w' hb => by have := number_any b a2 b2 s w' hb (by omega) ha2; rw [q3] at this; exact this
        have HQ2 := Lib.hid q2
        clear q1 q2 q3 hd hno
        go_wp2_with fail
        refine (C1.out _ _ BC).mono ?_
        rintro e w2 ⟨rfl, BC2, sp2⟩
        have z2 := sp2.size
        have BB2 := BB.span sp2 (.inr (by omega))
        have BR2 := BR.span sp2 (.inl (by omega))
        have HP2 := Lib.hid (ItemSW.span HP.out sp2 (.inr (by omega)))
        have hf2 : Fr w w2 := Span.fr (show Fr w _ by repeat (first | (with_reducible exact Fr.refl _) | (with_reducible assumption) | (with_reducible refine Fr.drewN ?_ _) | (with_reducible refine Fr.drew ?_) | (with_reducible refine Fr.alloc ?_ _) | (with_reducible refine Fr.setCell ?_ (by (first | (with_reducible assumption) | omega | (simp only [World.size_alloc, World.size_setCell, World.size_drew, World.heap_drewN]; omega) | (simp; done) | (simp; omega))) _) | (with_reducible refine Fr.trans ?_ (by with_reducible assumption)))) sp2 (by omega)
        clear FC FB FR0 BC BB BR HP
        obtain ⟨hx, hhx⟩ : ∃ hx, wr.heap.size = hx := ⟨_, rfl⟩
        rw [hhx] at HP2 z2 hzr
        clear hhx
        go_wp2_with fail
        go_loopw [9, 32] (fun rv j w4 => ∃ (m a' : Nat) (b' : Bool) (r : List Int) (ay : Option Addr) (cy : Nat), m ≤ K ∧ j = .int .i64 m ∧ rv = .slice ay r.length cy ∧ r.length = m ∧ a' ≤ s.size ∧ Hid ((rowI s (K - m) ⟨a', b'⟩).2 = ⟨a2, b2⟩ ∧ r ++ (rowI s (K - m) ⟨a', b'⟩).1 = row) ∧ Box w4 (w.heap.size + 1) #[.string s, .int .i64 (a' : Nat), .bool b'] 141 ∧ Box w4 (w.heap.size + 1 + 1) #[.slice ao ys.length cap] 111 ∧ Box w4 w.heap.size #[.slice none 0 0] 111 ∧ Hid (ItemSW w4 (w.heap.size + 1 + 1 + 1) hx (.slice ao ys.length cap) ys) ∧ Hid (IntsW w4 hx w4.heap.size (.slice ay r.length cy) r) ∧ hx ≤ w4.heap.size ∧ Fr w w4) (fun _ j _ => K - (intOf j).toNat)
        case atStart => exact ⟨0, a1, b1, [], none, 0, Nat.zero_le _, rfl, rfl, rfl, ha1, Lib.hid (by rw [Nat.sub_zero, HQ2.out]; exact ⟨rfl, rfl⟩), BC2, BB2, BR2, HP2, Lib.hid (IntsW.nil _ _ _), z2, hf2⟩
        case round =>
          clear BC2 BB2 BR2 HP2 z2 hf2 sp2 HQ2
          obtain ⟨m, a', b', r, ay, cy, hm, rfl, rfl, hrl, ha', hdr, BC, BB, BR, HP, HW, hz4, hf4⟩ := hrel
          have HRL := Lib.hid hrl
          have hrm : r.length ≤ 10 := by omega
          clear hrl
          have FC := BC.facts
          have FB := BB.facts
          by_cases hmK : m < K
          · have hm1 : (m : Int) < K := by omega
            obtain ⟨⟨v5, ⟨a5, b5⟩⟩, q5⟩ : ∃ r, scVar s ⟨a', b'⟩ = r := ⟨_, rfl⟩
            have ha5 := scVar_le (s := s) (c := ⟨a', b'⟩) ha'
            rw [q5] at ha5
            simp only [] at ha5
            have hdr2 : Hid ((rowI s (K - (m + 1)) ⟨a5, b5⟩).2 = ⟨a2, b2⟩ ∧ (r ++ [v5]) ++ (rowI s (K - (m + 1)) ⟨a5, b5⟩).1 = row) := Lib.hid (by
              have := hdr.out
              rw [rowI_next q5 (by omega)] at this
              rw [List.append_assoc]
              exact this)
            have C5 : Hid (∀ b w', Box w' b #[.string s, .int .i64 (a' : Nat), .bool b'] 141 → Calls Try.prog 149 #[.pointer (some ⟨b, 0, none⟩)] w' fun e w'' => e = .returned (.int .i64 v5) ∧ Box w'' b #[.string s, .int .i64 (a5 : Nat), .bool b5] 141 ∧ Span b (b + 1) w' w'') := Lib.hid fun b w' hb => by have := number_any b a' b' s w' hb (by omega) ha'; rw [q5] at this; exact this
            clear q5 hdr
            go_wp2_with fail
            refine (C5.out _ _ BC).mono ?_
            rintro e w5 ⟨rfl, BC5, sp5⟩
            have z5 := sp5.size
            clear FC FB
            go_wp2_with (at_builtin; (refine wpList_append_rd rfl _ _ 81 rfl hx 3 i0 (.int .i64 0) 1 8 Try.underlying81 hi hz0 hz1 hz2 rfl (by decide) (.slice ay r.length cy) r.length (r.map (Value.int .i64)) rfl ((OwW.alloc (OwW.span HW.out sp5 (.inr (by omega))) _).1) _ 1 [.int .i64 v5] rfl (RdS.new (by first | rfl | (simp; done)) rfl) (by simp [Value.oneCell']) (by unfold maxLen; omega) (by omega) (by (first | (with_reducible assumption) | omega | (simp only [World.size_alloc, World.size_setCell, World.size_drew, World.heap_drewN]; omega) | (simp; done) | (simp; omega))) ?_; intro ay6 cy6 w6 hown hgrow hat))
            have s6 : Span hx wr.heap.size (w5.alloc (.cells #[.int .i64 v5] 3)) w6 := Span.of_gr hgrow (fun g hg => HW.out.2 g hg)
            have z6 := s6.size
            simp only [World.size_alloc] at z6
            have BC6 := (BC5.alloc (.cells #[.int .i64 v5] 3)).span s6 (.inl (by omega))
            have BB6 := ((BB.span sp5 (.inr (by omega))).alloc (.cells #[.int .i64 v5] 3)).span s6 (.inl (by omega))
            have BR6 := ((BR.span sp5 (.inl (by omega))).alloc (.cells #[.int .i64 v5] 3)).span s6 (.inl (by omega))
            have HP6 := (ItemSW.fr (ItemSW.span HP.out sp5 (.inr (by omega))) ((Fr.refl _).alloc (.cells #[.int .i64 v5] 3))).span s6 (.inl (by omega))
            have hf5 : Fr w w5 := Span.fr (show Fr w _ by repeat (first | (with_reducible exact Fr.refl _) | (with_reducible assumption) | (with_reducible refine Fr.drewN ?_ _) | (with_reducible refine Fr.drew ?_) | (with_reducible refine Fr.alloc ?_ _) | (with_reducible refine Fr.setCell ?_ (by (first | (with_reducible assumption) | omega | (simp only [World.size_alloc, World.size_setCell, World.size_drew, World.heap_drewN]; omega) | (simp; done) | (simp; omega))) _) | (with_reducible refine Fr.trans ?_ (by with_reducible assumption)))) sp5 (by omega)
            have hf6 : Fr w w6 := Span.fr (show Fr w _ by repeat (first | (with_reducible exact Fr.refl _) | (with_reducible assumption) | (with_reducible refine Fr.drewN ?_ _) | (with_reducible refine Fr.drew ?_) | (with_reducible refine Fr.alloc ?_ _) | (with_reducible refine Fr.setCell ?_ (by (first | (with_reducible assumption) | omega | (simp only [World.size_alloc, World.size_setCell, World.size_drew, World.heap_drewN]; omega) | (simp; done) | (simp; omega))) _) | (with_reducible refine Fr.trans ?_ (by with_reducible assumption)))) s6 (by omega)
            have hW6 : IntsW w6 hx w6.heap.size (.slice ay6 (r ++ [v5]).length cy6) (r ++ [v5]) := by
              have := OwW.of_owns hown
              unfold IntsW
              rw [List.map_append, List.length_append]
              exact this
            have hl6 : (r ++ [v5]).length = r.length + 1 := by simp
            go_roundw
            case rel => exact ⟨m + 1, a5, b5, r ++ [v5], ay6, cy6, by omega, by go_num, by rw [hl6], by rw [hl6, HRL.out], ha5, hdr2, BC6, BB6, BR6, Lib.hid HP6, Lib.hid hW6, by omega, by repeat (first | (with_reducible exact Fr.refl _) | (with_reducible assumption) | (with_reducible refine Fr.drewN ?_ _) | (with_reducible refine Fr.drew ?_) | (with_reducible refine Fr.alloc ?_ _) | (with_reducible refine Fr.setCell ?_ (by (first | (with_reducible assumption) | omega | (simp only [World.size_alloc, World.size_setCell, World.size_drew, World.heap_drewN]; omega) | (simp; done) | (simp; omega))) _) | (with_reducible refine Fr.trans ?_ (by with_reducible assumption)))⟩
            case measure => (simp [intOf]; omega)
          · have hend : r = row ∧ a' = a2 ∧ b' = b2 := by
              have := hdr.out
              rw [show K - m = 0 by omega] at this
              simpa [rowI] using this.symm
            obtain ⟨rfl, rfl, rfl⟩ := hend
            have hm1 : ¬ (m : Int) < K := by omega
            clear hdr
            go_wp2_with fail
            go_region_law (first | (go_simp; go_at_call 149; refine (C3.out _ _ BC.drew).mono ?_; rintro e w5 ⟨rfl, BC5, sp5⟩; have z5 := sp5.size; (try simp only [World.size_drew] at z5); have BB5 := BB.drew.span sp5 (.inr (by omega)); have FB5 := BB5.facts; obtain ⟨cells, hOw, happ⟩ := NestW.app (E := ItemEW) (fun a b c => ItemEW.span a b c) ((ItemSW.fr HP.out (Fr.refl _).drew).span sp5 (.inr (by omega))); have HOW := Lib.hid hOw; have HAPP := Lib.hid happ; clear hOw happ) | ((refine step_append_rd (by rfl) _ _ 109 (by rfl) (w.heap.size + 1 + 1 + 1) 178 j0 (.agg #[.slice none 0 0, .int .i64 0]) 2 32 Try.underlying109 hj hy0 hy1 hy2 rfl (by decide) (.slice ao ys.length cap) ys.length cells (by rfl) (World.ownsRow.alloc HOW.out.1 _) _ 1 [.slice ay r.length cy, .int .i64 v3] (by rfl) (RdS.new (by first | rfl | (simp; done)) rfl) (by simp [Value.oneCell']) (by unfold maxLen; omega) (by omega) (by (first | (with_reducible assumption) | omega | (simp only [World.size_alloc, World.size_setCell, World.size_drew, World.heap_drewN]; omega) | (simp; done) | (simp; omega))) ?_; intro ao6 cap6 w6 hown6 hgrow6 hat6; have BB6 := (BB5.alloc (.cells #[.slice ay r.length cy, .int .i64 v3] 178)).row hgrow6 HOW.out.2 (.inl (by omega)); have FB6 := BB6.facts)))
            all_goals
              have HW5 : Hid (IntsW w5 hx w5.heap.size (.slice ay r.length cy) r) := Lib.hid (OwW.mono (OwW.span (OwW.drew HW.out) sp5 (.inr (by omega))) (Nat.le_refl _) (by omega))
              have BR5 := BR.drew.span sp5 (.inl (by omega))
              have hf5 : Fr w w5 := Span.fr (show Fr w _ by repeat (first | (with_reducible exact Fr.refl _) | (with_reducible assumption) | (with_reducible refine Fr.drewN ?_ _) | (with_reducible refine Fr.drew ?_) | (with_reducible refine Fr.alloc ?_ _) | (with_reducible refine Fr.setCell ?_ (by (first | (with_reducible assumption) | omega | (simp only [World.size_alloc, World.size_setCell, World.size_drew, World.heap_drewN]; omega) | (simp; done) | (simp; omega))) _) | (with_reducible refine Fr.trans ?_ (by with_reducible assumption)))) sp5 (by omega)
              have sb : w5.heap.size + 1 ≤ w6.heap.size := by have := hgrow6.size; simpa using this
              have s6 : Span (w.heap.size + 1 + 1 + 1) hx (w5.alloc (.cells #[.slice ay r.length cy, .int .i64 v3] 178)) w6 := Span.of_gr hgrow6 (fun g hg => HOW.out.2 g hg)
              have hf6 : Fr w w6 := Span.fr (show Fr w _ by repeat (first | (with_reducible exact Fr.refl _) | (with_reducible assumption) | (with_reducible refine Fr.drewN ?_ _) | (with_reducible refine Fr.drew ?_) | (with_reducible refine Fr.alloc ?_ _) | (with_reducible refine Fr.setCell ?_ (by (first | (with_reducible assumption) | omega | (simp only [World.size_alloc, World.size_setCell, World.size_drew, World.heap_drewN]; omega) | (simp; done) | (simp; omega))) _) | (with_reducible refine Fr.trans ?_ (by with_reducible assumption)))) s6 (by omega)
              have BC6 := (BC5.alloc (.cells #[.slice ay r.length cy, .int .i64 v3] 178)).span s6 (.inl (by omega))
              have BR6 := (BR5.alloc (.cells #[.slice ay r.length cy, .int .i64 v3] 178)).span s6 (.inl (by omega))
              have hN6 : ItemSW w6 (w.heap.size + 1 + 1 + 1) w6.heap.size (.slice ao6 (ys.length + 1) cap6) (ys ++ [⟨r, v3⟩]) := HAPP.out _ (w5.alloc (.cells #[.slice ay r.length cy, .int .i64 v3] 178)) w6 [.slice ay r.length cy, .int .i64 v3] ⟨r, v3⟩ hx w5.heap.size w6.heap.size (w5.alloc (.cells #[.slice ay r.length cy, .int .i64 v3] 178)).heap.size ((Fr.refl _).alloc _) hown6 hgrow6 hat6 (RowIn.of_owns hown6) (by simp) (by omega) rfl ⟨ay, cy, rfl, OwW.alloc HW5.out _⟩ (by omega) (by omega) (by omega)
              have hl6 : (ys ++ [(⟨r, v3⟩ : ItemD)]).length = ys.length + 1 := by simp
              go_wp2_with fail
              go_roundw
              case rel => exact ⟨k + 1, a3, b3, ys ++ [⟨r, v3⟩], ao6, cap6, by omega, by omega, by go_num, by rw [hl6, HYL.out], ha3, hd2, BC6.far (by omega) _, by rw [hl6]; exact BB6.set_to (by simp), BR6.far (by omega) _, Lib.hid (by rw [World.size_setCell, hl6]; exact hN6.span Span.set1 (.inr (by omega))), by simp; omega, by repeat (first | (with_reducible exact Fr.refl _) | (with_reducible assumption) | (with_reducible refine Fr.drewN ?_ _) | (with_reducible refine Fr.drew ?_) | (with_reducible refine Fr.alloc ?_ _) | (with_reducible refine Fr.setCell ?_ (by (first | (with_reducible assumption) | omega | (simp only [World.size_alloc, World.size_setCell, World.size_drew, World.heap_drewN]; omega) | (simp; done) | (simp; omega))) _) | (with_reducible refine Fr.trans ?_ (by with_reducible assumption)))⟩
              case measure => (simp [intOf]; omega)
    · have hz : itI s (M - k) k ⟨a, bad⟩ = some ([], ⟨a, bad⟩) := by
        by_cases hkM : k < M
        · exact itI_stop (by cases bad <;> simp_all) _ _
        · rw [show M - k = 0 by omega]; rfl
      have hrb : Hid ((!bad && decide (a = s.size) && bagB ys) = rbS s) := Lib.hid (by
        rw [← hd.out, hz]
        unfold restI
        simp [Bool.and_assoc])
      have hg : ¬ (k : Int) < M ∨ ((k : Int) < M ∧ bad = true) := by
        by_cases h1 : (k : Int) < M
        · refine .inr ⟨h1, ?_⟩
          have h3 : k < M := by omega
          cases bad <;> simp_all
        · exact .inl h1
      clear hgo hd hz
      have C7 : Hid (∀ w', Fr wr w' → Calls Try.prog 156 #[.pointer (some ⟨w.heap.size + 1, 0, none⟩)] w' fun e w'' => e = .returned (.bool (!bad && decide (a = s.size))) ∧ Fr w' w'') := Lib.hid fun w' hf => done_any _ _ _ _ _ (BC.fr hf)
      obtain ⟨dn, hdn⟩ : ∃ dn, (!bad && decide (a = s.size)) = dn := ⟨_, rfl⟩
      rw [hdn] at C7 hrb
      clear hdn
      cases dn
      · have HF : Hid (rbS s = false) := Lib.hid (by rw [← hrb.out]; rfl)
        rcases hg with hg | ⟨hg1, rfl⟩
        all_goals
          go_wp2_with fail
          refine (C7.out _ (by repeat (first | (with_reducible exact Fr.refl _) | (with_reducible assumption) | (with_reducible refine Fr.drewN ?_ _) | (with_reducible refine Fr.drew ?_) | (with_reducible refine Fr.alloc ?_ _) | (with_reducible refine Fr.setCell ?_ (by (first | (with_reducible assumption) | omega | (simp only [World.size_alloc, World.size_setCell, World.size_drew, World.heap_drewN]; omega) | (simp; done) | (simp; omega))) _) | (with_reducible refine Fr.trans ?_ (by with_reducible assumption))))).mono ?_
          rintro e w2 ⟨rfl, hf2⟩
          have FR2 := (BR.fr hf2).facts
          clear FC FB FR0
          go_wp2_with fail
          refine bodyPost_ret (v := .tuple #[.agg #[.slice none 0 0], .bool false]) (by simp [results, Try.results141, go_sem, *]) rfl ⟨none, 0, 0, by rw [HF.out], by repeat (first | (with_reducible exact Fr.refl _) | (with_reducible assumption) | (with_reducible refine Fr.drewN ?_ _) | (with_reducible refine Fr.drew ?_) | (with_reducible refine Fr.alloc ?_ _) | (with_reducible refine Fr.setCell ?_ (by (first | (with_reducible assumption) | omega | (simp only [World.size_alloc, World.size_setCell, World.size_drew, World.heap_drewN]; omega) | (simp; done) | (simp; omega))) _) | (with_reducible refine Fr.trans ?_ (by with_reducible assumption)))⟩
      · have HF : Hid (rbS s = bagB ys) := Lib.hid (by rw [← hrb.out, Bool.true_and])
        cases hB : bagB ys
        · have C6 : Hid (∀ w', Fr wr w' → Calls Try.prog 172 #[.agg #[.slice ao ys.length cap]] w' fun e w'' => e = .returned (.bool false) ∧ Fr w' w'') := Lib.hid fun w' hf => by rw [← hB]; exact implBagOk_any _ _ _ (ItemSR.fr HP.out.rd hf)
          rw [hB] at HF
          clear hB
          rcases hg with hg | ⟨hg1, rfl⟩
          all_goals
            go_wp2_with fail
            refine (C7.out _ (by repeat (first | (with_reducible exact Fr.refl _) | (with_reducible assumption) | (with_reducible refine Fr.drewN ?_ _) | (with_reducible refine Fr.drew ?_) | (with_reducible refine Fr.alloc ?_ _) | (with_reducible refine Fr.setCell ?_ (by (first | (with_reducible assumption) | omega | (simp only [World.size_alloc, World.size_setCell, World.size_drew, World.heap_drewN]; omega) | (simp; done) | (simp; omega))) _) | (with_reducible refine Fr.trans ?_ (by with_reducible assumption))))).mono ?_
            rintro e w2 ⟨rfl, hf2⟩
            have FB2 := (BB.fr hf2).facts
            clear FC FB FR0
            go_wp2_with fail
            refine (C6.out _ (by repeat (first | (with_reducible exact Fr.refl _) | (with_reducible assumption) | (with_reducible refine Fr.drewN ?_ _) | (with_reducible refine Fr.drew ?_) | (with_reducible refine Fr.alloc ?_ _) | (with_reducible refine Fr.setCell ?_ (by (first | (with_reducible assumption) | omega | (simp only [World.size_alloc, World.size_setCell, World.size_drew, World.heap_drewN]; omega) | (simp; done) | (simp; omega))) _) | (with_reducible refine Fr.trans ?_ (by with_reducible assumption))))).mono ?_
            rintro e w3 ⟨rfl, hf3⟩
            have FR3 := ((BR.fr hf2).fr hf3).facts
            clear FB2
            go_wp2_with fail
            refine bodyPost_ret (v := .tuple #[.agg #[.slice none 0 0], .bool false]) (by simp [results, Try.results141, go_sem, *]) rfl ⟨none, 0, 0, by rw [HF.out], by repeat (first | (with_reducible exact Fr.refl _) | (with_reducible assumption) | (with_reducible refine Fr.drewN ?_ _) | (with_reducible refine Fr.drew ?_) | (with_reducible refine Fr.alloc ?_ _) | (with_reducible refine Fr.setCell ?_ (by (first | (with_reducible assumption) | omega | (simp only [World.size_alloc, World.size_setCell, World.size_drew, World.heap_drewN]; omega) | (simp; done) | (simp; omega))) _) | (with_reducible refine Fr.trans ?_ (by with_reducible assumption)))⟩
        · have C6 : Hid (∀ w', Fr wr w' → Calls Try.prog 172 #[.agg #[.slice ao ys.length cap]] w' fun e w'' => e = .returned (.bool true) ∧ Fr w' w'') := Lib.hid fun w' hf => by rw [← hB]; exact implBagOk_any _ _ _ (ItemSR.fr HP.out.rd hf)
          rw [hB] at HF
          clear hB
          rcases hg with hg | ⟨hg1, rfl⟩
          all_goals
            go_wp2_with fail
            refine (C7.out _ (by repeat (first | (with_reducible exact Fr.refl _) | (with_reducible assumption) | (with_reducible refine Fr.drewN ?_ _) | (with_reducible refine Fr.drew ?_) | (with_reducible refine Fr.alloc ?_ _) | (with_reducible refine Fr.setCell ?_ (by (first | (with_reducible assumption) | omega | (simp only [World.size_alloc, World.size_setCell, World.size_drew, World.heap_drewN]; omega) | (simp; done) | (simp; omega))) _) | (with_reducible refine Fr.trans ?_ (by with_reducible assumption))))).mono ?_
            rintro e w2 ⟨rfl, hf2⟩
            have FB2 := (BB.fr hf2).facts
            clear FC FB FR0
            go_wp2_with fail
            refine (C6.out _ (by repeat (first | (with_reducible exact Fr.refl _) | (with_reducible assumption) | (with_reducible refine Fr.drewN ?_ _) | (with_reducible refine Fr.drew ?_) | (with_reducible refine Fr.alloc ?_ _) | (with_reducible refine Fr.setCell ?_ (by (first | (with_reducible assumption) | omega | (simp only [World.size_alloc, World.size_setCell, World.size_drew, World.heap_drewN]; omega) | (simp; done) | (simp; omega))) _) | (with_reducible refine Fr.trans ?_ (by with_reducible assumption))))).mono ?_
            rintro e w3 ⟨rfl, hf3⟩
            have FR3 := ((BR.fr hf2).fr hf3).facts
            have FB3 := ((BB.fr hf2).fr hf3).facts
            clear FB2
            go_wp2_with fail
            refine bodyPost_ret (v := .tuple #[.agg #[.slice ao ys.length cap], .bool true]) (by simp [results, Try.results141, go_sem, *]) rfl ⟨ao, ys.length, cap, by rw [HF.out], by repeat (first | (with_reducible exact Fr.refl _) | (with_reducible assumption) | (with_reducible refine Fr.drewN ?_ _) | (with_reducible refine Fr.drew ?_) | (with_reducible refine Fr.alloc ?_ _) | (with_reducible refine Fr.setCell ?_ (by (first | (with_reducible assumption) | omega | (simp only [World.size_alloc, World.size_setCell, World.size_drew, World.heap_drewN]; omega) | (simp; done) | (simp; omega))) _) | (with_reducible refine Fr.trans ?_ (by with_reducible assumption)))⟩
theorem isBagText_any (s : ByteArray) (w : World) (hs : s.size ≤ 1048576) :
    Calls Try.prog 87 #[.string s] w fun e w' => e = .returned (.bool (rbS s && decide (s.size ≤ 6000))) ∧ Fr w w' := by
  have C1 := Lib.hid (implReadBag_any s w hs)
  obtain ⟨r, hr⟩ : ∃ r, rbS s = r := ⟨_, rfl⟩
  rw [hr] at C1 ⊢
  clear hr
  cases r
  · go_enter Try.func87, Try.ntmps87
    go_wp2_with (go_at_call 141; refine C1.out.mono ?_; rintro e w1 ⟨ao, n, cap, rfl, hf1⟩)
    go_ret
    exact ⟨ret_bool (by simp), by repeat (first | (with_reducible exact Fr.refl _) | (with_reducible assumption) | (with_reducible refine Fr.drewN ?_ _) | (with_reducible refine Fr.drew ?_) | (with_reducible refine Fr.alloc ?_ _) | (with_reducible refine Fr.setCell ?_ (by (first | (with_reducible assumption) | omega | (simp only [World.size_alloc, World.size_setCell, World.size_drew, World.heap_drewN]; omega) | (simp; done) | (simp; omega))) _) | (with_reducible refine Fr.trans ?_ (by with_reducible assumption)))⟩
  · go_enter Try.func87, Try.ntmps87
    go_wp2_with (go_at_call 141; refine C1.out.mono ?_; rintro e w1 ⟨ao, n, cap, rfl, hf1⟩)
    go_ret
    exact ⟨ret_bool (by simp; omega), by repeat (first | (with_reducible exact Fr.refl _) | (with_reducible assumption) | (with_reducible refine Fr.drewN ?_ _) | (with_reducible refine Fr.drew ?_) | (with_reducible refine Fr.alloc ?_ _) | (with_reducible refine Fr.setCell ?_ (by (first | (with_reducible assumption) | omega | (simp only [World.size_alloc, World.size_setCell, World.size_drew, World.heap_drewN]; omega) | (simp; done) | (simp; omega))) _) | (with_reducible refine Fr.trans ?_ (by with_reducible assumption)))⟩
end Go.Proofs.Ytphjlecbhbcbcaa
