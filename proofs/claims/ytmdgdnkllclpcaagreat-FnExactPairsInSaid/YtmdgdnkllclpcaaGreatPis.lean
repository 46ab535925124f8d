/- PairsIn of the reference. Conditions: bounds on what comes in. -/
import Derived.Test.YtmdgdnkllclpcaaGreatPip
import Derived.Test.YtmdgdnkllclpcaaGreatAut
import Derived.Test.YtmdgdnkllclpcaaGreatGSta2
import Derived.Test.YtmdgdnkllclpcaaGreatTrp
namespace Go.Proofs.YtmdgdnkllclpcaaGreat
open Go.RowKit
set_option linter.unusedVariables false
set_option linter.unusedSimpArgs false
def PinPost (w : World) (r : List (List Int)) (e : Ending) (w' : World) : Prop := ∃ ao cap, e = .returned (.slice ao r.length cap) ∧ IntSSV w' w.heap.size w'.heap.size (.slice ao r.length cap) r ∧ Fr w w'
theorem IntSSV.empty {w : World} {lo hi : Nat} {v : Value} (h : OwW w lo hi 86 1 v 0 []) : IntSSV w lo hi v [] := ⟨[], rfl, RdW.of h, fun k u x hu => by simp at hu, fun j k u u' _ hu => by simp at hu⟩
theorem pinL_no {q : QueryD} {seen : List WalkR} {a : Int} (h : ¬ (qryD q = true ∧ (0 ≤ a ∧ a < (q.f2.length : Int)))) : pinL q seen a = [] := if_neg h
theorem walk_takeS {l : List WalkR} {k : Nat} (h : k < l.length) : l.take (k + 1) = l.take k ++ [walkAt l k] := by
  rw [List.take_succ_eq_append_getElem h]
  simp [walkAt, List.getD, h]
theorem IntsR.two {w : World} {b : Nat} {x y : Int} {T : TypeId} (hb : b = w.heap.size) : IntsR (w.alloc (.cells #[.int .i64 x, .int .i64 y] T)) (.slice (some ⟨b, 0, none⟩) 2 2) [x, y] := by
  refine ⟨rfl, _, 2, rfl, Nat.le_refl _, by unfold maxLen; omega, fun _ => ⟨b, 0, rfl, by simp [hb], fun j hj => ?_⟩⟩
  have := (Box.new' (w := w) (X := #[.int .i64 x, .int .i64 y]) (T := T) hb).cell (0 + j)
  rw [this]
  match j, hj with
  | 0, _ => rfl
  | 1, _ => rfl
theorem BagG.nil (w : World) (lo : Nat) : BagG w lo (.slice none 0 0) [] := ⟨(OwW.nil w 0 0 0 2).rd, fun g e => (by cases e), fun x hx => (by cases hx), List.nodup_nil, fun x hx => (by cases hx)⟩
theorem pinB_eq {j0 : Nat} {x0 x1 x2 x3 n : Int} {d1 : List EdgeR} {d2 : List Bool} : pinB (j0 : Int) ⟨n, d1, d2⟩ ⟨x0, x1, x2, x3⟩ = ((x0 == (j0 : Int)) && (decide (0 ≤ x3 ∧ x3 < (d2.length : Int)) && bAt d2 x3.toNat)) := rfl
set_option maxHeartbeats 8000000 in
set_option maxRecDepth 100000 in
theorem specPairsIn_any (qv sv : Value) (q : QueryD) (seen : List WalkR) (a : Int) (w : World) (hq : QueryRd w qv q) (hs : WalksR w sv seen) (hn : q.bulk ≤ 1048576) (hss : seen.length ≤ 1048576) :
    Calls Tryz.prog 13 #[qv, sv, .int .i64 a] w fun e w' => PinPost w (pinL q seen a) e w' := by
  obtain ⟨k0, ki, kz0, kz1, kz2⟩ := info_parts info_ints
  obtain ⟨qb, hqb⟩ : ∃ qb, qryD q = qb := ⟨_, rfl⟩
  obtain ⟨ab, hab⟩ : ∃ ab, decide (0 ≤ a ∧ a < (q.f2.length : Int)) = ab := ⟨_, rfl⟩
  have HQ := Lib.hid hq
  have CQ : Hid (∀ w', Fr w w' → Calls Tryz.prog 55 #[qv] w' fun e w'' => e = .returned (.bool qb) ∧ Fr w' w'') := Lib.hid fun w' h => by rw [← hqb]; exact specQueryOk_d qv q w' (HQ.out.fr h) hn
  have CA : Hid (qb = true → ∀ w', Fr w w' → Calls Tryz.prog 57 #[qv] w' fun e w'' => ∃ ao cap, e = .returned (.slice ao (autL q).length cap) ∧ NfasW w'' w'.heap.size w''.heap.size (.slice ao (autL q).length cap) (autL q) ∧ Fr w' w'') := Lib.hid fun h2 w' h => by
    obtain ⟨u1, u2, u3, rfl, r1, r2, r3⟩ := HQ.out.fr h
    obtain ⟨a1, c1, rfl, _⟩ := RdS.val r1
    obtain ⟨a3, c3, rfl, _⟩ := RdS.val r3
    have h := qryB_atoms (hqb.trans h2)
    refine l20Nfas_any q.f0 _ u2 _ q.f2 w' ⟨_, _, _, rfl⟩ ⟨_, _, _, rfl⟩ r2 (by omega) (fun k hk => (atoms_sz hn k hk).2.1) fun k hk => ?_
    have h2 := h.2
    unfold atK at h2
    rw [List.all_eq_true] at h2
    have h3 := h2 k (List.mem_range.2 hk)
    unfold atomB at h3
    simp only [Bool.and_eq_true] at h3
    exact h3.2.2
  obtain ⟨r, hr⟩ : ∃ r, pinL q seen a = r := ⟨_, rfl⟩
  have HNO : Hid (¬ (qb = true ∧ ab = true) → r = []) := Lib.hid fun h => by
    rw [← hr]
    refine pinL_no fun ⟨h1, h2⟩ => h ⟨by rw [← hqb]; exact h1, ?_⟩
    rw [← hab]; exact decide_eq_true h2
  have HYES : Hid (qb = true → ab = true → r = sdL (pinR a (nAt (autL q) a.toNat) seen)) := Lib.hid fun h1 h2 => by
    rw [← hr]
    exact if_pos ⟨hqb.trans h1, of_decide_eq_true (hab.trans h2)⟩
  have HAB : Hid (ab = true → 0 ≤ a ∧ a < (q.f2.length : Int)) := Lib.hid fun h => of_decide_eq_true (hab.trans h)
  rw [hr]
  obtain ⟨u1, u2, u3, rfl, r1, r2, r3⟩ := hq; obtain ⟨ao, bo, oo, co, rfl, hco, hmo, ko⟩ := r1.one; obtain ⟨ax, bx, ox, cx, rfl, hcx, hmx, kx⟩ := r2.one; obtain ⟨af, bf, of, cf, rfl, hcf, hmf, kf⟩ := r3.one
  obtain ⟨asv, bs, os, csv, rfl, hcsv, hmsv, ks⟩ := hs.one
  have KS := Lib.hid ks
  have CI : Hid (∀ w', Calls Tryz.prog 56 #[.int .i64 a, .int .i64 0, .int .i64 ((q.f2.length : Int) - 1)] w' fun e w'' => e = .returned (.bool ab) ∧ w' = w'') := Lib.hid fun w' => by
    rw [← hab]
    refine (l01In_any _ _ _ _).mono ?_
    rintro e w'' ⟨rfl, h⟩
    refine ⟨?_, h⟩
    congr 2
    exact decide_eq_decide.2 (by omega)
  have hal : (autL q).length = q.f2.length := autL_len q
  have HAL := Lib.hid hal
  clear r1 r2 r3 ko kx kf hqb hab HQ hn hr hs ks hal
  have HME : Hid (OwW (((w.alloc (.cells #[.bool q.f0, .slice ao q.f1.length co, .slice ax q.f2.length cx, .slice af q.f3.length cf] 35)).alloc (.cells #[.slice none 0 0] 97)).alloc (.cells #[] 86)) (w.heap.size + 1 + 1) (w.heap.size + 1 + 1 + 1) 86 1 (.slice (some ⟨w.heap.size + 1 + 1, 0, none⟩) 0 0) 0 []) := Lib.hid ⟨made_empty (by simp) (Nat.le_refl _), RowIn.one (Nat.le_refl _) (by omega)⟩
  go_enter Tryz.func13, Tryz.ntmps13
  go_wp2_with fail
  refine (CQ.out _ (by exact Qf)).mono ?_
  rintro e w1 ⟨rfl, hf1⟩
  have B1 : Box w1 w.heap.size #[.bool q.f0, .slice ao q.f1.length co, .slice ax q.f2.length cx, .slice af q.f3.length cf] 35 := Box.fr (Box.alloc (Box.alloc (Box.new _ _ _) _) _) hf1
  have A1 : Box w1 (w.heap.size + 1) #[.slice none 0 0] 97 := Box.fr (Box.alloc (Box.new' (by simp)) _) hf1
  have F1 := B1.facts
  have z1 := hf1.size
  (try simp only [World.size_alloc] at z1)
  have HM1 := Lib.hid (OwW.fr HME.out hf1)
  clear HME CQ
  cases qb
  · have HR := Lib.hid (HNO.out (by simp))
    go_wp2_with fail
    go_ret
    rw [HR.out]
    exact ⟨_, _, rfl, IntSSV.empty (OwW.mono HM1.out (by omega) (by omega)), by exact Qf⟩
  go_wp2_with fail
  refine (CI.out _).mono ?_
  rintro e w3 ⟨rfl, rfl⟩
  cases ab
  · have HR := Lib.hid (HNO.out (by simp))
    go_wp2_with fail
    go_ret
    rw [HR.out]
    exact ⟨_, _, rfl, IntSSV.empty (OwW.mono HM1.out (by omega) (by omega)), by exact Qf⟩
  have HRR := Lib.hid (HYES.out (by first | rfl | trivial) (by first | rfl | trivial))
  obtain ⟨ha0, ha1⟩ := HAB.out (by first | rfl | trivial)
  clear HNO HYES HAB CI
  obtain ⟨j0, rfl⟩ := Int.eq_ofNat_of_zero_le ha0
  have hj0 : j0 < q.f2.length := by omega
  go_wp2_with fail
  refine (CA.out (by first | rfl | trivial) _ (by exact Qf)).mono ?_
  rintro e wA ⟨aa, ca, rfl, hA, hfA⟩
  have A2 := A1.fr hfA
  have HM2 := Lib.hid (OwW.fr HM1.out hfA)
  have zA := hfA.size
  have hfwA : Fr w wA := by exact Qf
  have hjA : j0 < (autL q).length := by rw [HAL.out]; exact hj0
  obtain ⟨ga, cga, hv, hg1, hg2, hg3, u, l1, hh1, hu, ⟨ua, ue, rfl, hua, hue⟩, hl1, hk1, _, hc, _⟩ := NestW.turn (E := NfaEW) (fun a b c => NfaEW.span a b c) hA hjA (by omega)
  cases hv
  have q0 := (hc 0 _ (by omega) rfl).1
  have q1 := (hc 1 _ (by omega) rfl).1
  have q2 := (hc 2 _ (by omega) rfl).1
  simp only [Nat.add_zero] at q0
  have hen : (nAt (autL q) j0).f0 = ((nAt (autL q) j0).f2.length : Int) := by
    unfold autL
    rw [autK_at q.f2 hj0]
    exact nfaT_ends _
  have HRR : Hid (r = sdL (pinR (j0 : Int) (nAt (autL q) j0) seen)) := Lib.hid (by have := HRR.out; simpa using this)
  obtain ⟨d, hd⟩ : ∃ d, nAt (autL q) j0 = d := ⟨_, rfl⟩
  rw [hd] at hua hue q0 hen HRR
  obtain ⟨d0, d1, d2⟩ := d
  simp only [] at hua hue q0 hen
  subst hen
  obtain ⟨ac, cc, rfl⟩ := OwW.val hua
  obtain ⟨ae, ce, rfl⟩ := OwW.val hue
  have ke : 0 < d2.length → ∃ be, ae = some ⟨be, 0, none⟩ ∧ w.heap.size + 3 ≤ be ∧ be < wA.heap.size ∧ ∀ k, k < d2.length → wA.cell? ⟨be, k, none⟩ = some (.bool (bAt d2 k)) := fun hp => by
    obtain ⟨be, rfl, h1, h2⟩ := owns_some hue.1 hp
    refine ⟨be, rfl, by omega, h2, fun k hk => ?_⟩
    rw [World.ownsRow.cellAt hue.1 k (by omega), List.getElem?_map, List.getElem?_eq_getElem hk]
    simp [bAt, List.getD, hk]
  have hd2 := RdS.le (OwW.rd hue)
  have KE := Lib.hid ke
  generalize d1.length = nc at *
  clear hA hc hu hd hua hue ke A1 B1 F1 HM1 CA HAL
  go_wp2_with fail
  have hz3 : w.heap.size + 3 ≤ wA.heap.size := by omega
  have hzA1 : wA.heap.size < (wA.alloc (.cells #[.int .i64 (d2.length : Int), .slice ac nc cc, .slice ae d2.length ce] 103)).heap.size := by simp
  have HM3 := Lib.hid (OwW.alloc HM2.out (.cells #[.int .i64 (d2.length : Int), .slice ac nc cc, .slice ae d2.length ce] 103))
  clear q0 q1 q2 HM2
  go_loopw [10] (fun i wr => ∃ (j cB : Nat) (aB : Option Addr) (L : List BI), j ≤ seen.length ∧ i = .int .i64 j ∧ Hid (L.map BI.r = sdL (pinR (j0 : Int) ⟨(d2.length : Int), d1, d2⟩ (seen.take j))) ∧ L.length ≤ j ∧ Hid (BagG wr (w.heap.size + 3) (.slice aB L.length cB) L) ∧ Box wr (w.heap.size + 1) #[.slice aB L.length cB] 97 ∧ Box wr wA.heap.size #[.int .i64 (d2.length : Int), .slice ac nc cc, .slice ae d2.length ce] 103 ∧ Hid (OwW wr (w.heap.size + 1 + 1) (w.heap.size + 1 + 1 + 1) 86 1 (.slice (some ⟨w.heap.size + 1 + 1, 0, none⟩) 0 0) 0 []) ∧ Hid (Ab (w.heap.size + 3) wA wr) ∧ Fr w wr ∧ wA.heap.size < wr.heap.size) (fun i _ => seen.length - (intOf i).toNat)
  case atStart => exact ⟨0, 0, none, [], Nat.zero_le _, rfl, Lib.hid rfl, Nat.le_refl _, Lib.hid (BagG.nil _ _), A2.alloc _, Box.new _ _ _, HM3, Lib.hid (Ab.alloc (Ab.refl _ _) _), by exact Qf, hzA1⟩
  case round =>
    clear HM3 A2 hzA1
    obtain ⟨j, cB, aB, L, hj, rfl, HL, hLj, HBG, hB7, hN, HO, HAB, hfr, hwr⟩ := hrel
    have FB := hB7.facts
    have FN := hN.facts
    have zr := hfr.size
    by_cases hlt : j < seen.length
    · obtain ⟨rfl, hbs, kf⟩ := KS.out (by omega)
      obtain ⟨g0, g1, g2, g3⟩ := kf j hlt
      have hsn := pinR_snoc (j0 : Int) ⟨(d2.length : Int), d1, d2⟩ (seen.take j) (walkAt seen j)
      rw [← walk_takeS hlt] at hsn
      obtain ⟨x, hx⟩ : ∃ x, walkAt seen j = x := ⟨_, rfl⟩
      rw [hx] at g0 g1 g2 g3 hsn
      obtain ⟨x0, x1, x2, x3⟩ := x
      rw [pinB_eq] at hsn
      simp only [] at g0 g1 g2 g3
      have q0 := (hfr.cell (p := ⟨bs, _, none⟩) hbs).trans g0
      have q1 := (hfr.cell (p := ⟨bs, _, none⟩) hbs).trans g1
      have q2 := (hfr.cell (p := ⟨bs, _, none⟩) hbs).trans g2
      have q3 := (hfr.cell (p := ⟨bs, _, none⟩) hbs).trans g3
      have HSN := Lib.hid hsn
      obtain ⟨pb, hpb⟩ : ∃ pb, ((x0 == (j0 : Int)) && (decide (0 ≤ x3 ∧ x3 < (d2.length : Int)) && bAt d2 x3.toNat)) = pb := ⟨_, rfl⟩
      rw [hpb] at HSN
      have HPX := Lib.hid hpb
      clear kf g0 g1 g2 g3 hx hsn hpb
      by_cases h1 : x0 = (j0 : Int)
      · have t1 : (x0 == (j0 : Int)) = true := by simpa using h1
        by_cases h2 : 0 ≤ x3 ∧ x3 < (d2.length : Int)
        · obtain ⟨k3, rfl⟩ := Int.eq_ofNat_of_zero_le h2.1
          have hk3 : k3 < d2.length := by omega
          obtain ⟨be, rfl, hbe1, hbe2, he2⟩ := KE.out (by omega)
          have qe := he2 k3 hk3
          rw [← Ab.cell HAB.out hbe1 hbe2] at qe
          have hbe3 : be < wr.heap.size := by omega
          have gd : decide (0 ≤ (k3 : Int) ∧ (k3 : Int) ≤ (d2.length : Int) - 1) = true := by simp only [decide_eq_true_eq]; omega
          obtain ⟨eb, heb⟩ : ∃ eb, bAt d2 k3 = eb := ⟨_, rfl⟩
          rw [heb] at qe
          have HPB : Hid (pb = eb) := Lib.hid (by rw [← HPX.out, t1, decide_eq_true h2, Bool.true_and, Bool.true_and, ← heb]; rfl)
          clear he2 heb h2 h1
          cases eb
          · have HLN : Hid (L.map BI.r = sdL (pinR (j0 : Int) ⟨(d2.length : Int), d1, d2⟩ (seen.take (j + 1)))) := Lib.hid (by rw [HSN.out, if_neg (by rw [HPB.out]; decide), List.append_nil]; exact HL.out)
            go_wp2_with fail
            refine (l01In_any _ _ _ _).mono ?_
            rintro e w5 ⟨rfl, rfl⟩
            rw [gd]
            go_wp2_with fail
            go_roundw
            case rel => exact ⟨j + 1, cB, aB, L, by omega, by go_num, HLN, by omega, Lib.hid (HBG.out.fr (by exact Qf)), hB7.fr (by exact Qf), hN.fr (by exact Qf), Lib.hid (OwW.fr HO.out (by exact Qf)), Lib.hid (Ab.fr HAB.out (by exact Qf)), by exact Qf, by simp; omega⟩
            case measure => (simp [intOf]; omega)
          · have HLN : Hid (putL [x1, x2] (L.map BI.r) = sdL (pinR (j0 : Int) ⟨(d2.length : Int), d1, d2⟩ (seen.take (j + 1)))) := Lib.hid (by rw [HSN.out, HPB.out, if_pos rfl, sdL_snoc, HL.out])
            go_wp2_with fail
            refine (l01In_any _ _ _ _).mono ?_
            rintro e w5 ⟨rfl, rfl⟩
            rw [gd]
            go_wp2_with fail
            refine (l03Put_any _ _ L [x1, x2] _ (HBG.out.fr (by exact Qf)).rd (fun x hx => ((HBG.out.fr (by exact Qf)).own x hx).rd) (IntsR.two (by simp)) (by simp) (by simp) (by omega) HBG.out.tms).mono ?_
            rintro e w6 ⟨a6, c6, n, rfl, hn1, hn2, hn3, hr6, hv6, ho6, hf6⟩
            have hfr6 : Fr wr w6 := by exact Qf
            have B76 := hB7.fr hfr6
            have N6 := hN.fr hfr6
            have z6 := hfr6.size
            have hpl := putB_len (p := [x1, x2]) (n := n) L
            have HG6 : Hid (BagG w6 (w.heap.size + 3) (.slice a6 (putB [x1, x2] n L).length c6) (putB [x1, x2] n L)) := Lib.hid ((HBG.out.fr (show Fr wr _ by exact Qf)).put hf6 hn2 hn3 (by simp; omega) hr6 hv6 ho6)
            have HRW : Hid ((putB [x1, x2] n L).map BI.r = sdL (pinR (j0 : Int) ⟨(d2.length : Int), d1, d2⟩ (seen.take (j + 1)))) := Lib.hid (by rw [putB_rows hn1]; exact HLN.out)
            have HO6 := Lib.hid (OwW.fr HO.out hfr6)
            have HA6 := Lib.hid (Ab.fr HAB.out hfr6)
            have hfw6 : Fr w w6 := hfr.trans hfr6
            obtain ⟨L2, hL2⟩ : ∃ L2, putB [x1, x2] n L = L2 := ⟨_, rfl⟩
            rw [hL2] at hpl HG6 HRW ⊢
            clear hL2 hr6 hv6 ho6 hf6 HLN HBG hB7 hN HO HAB FB FN
            have FB6 := B76.facts
            go_wp2_with fail
            go_roundw
            case rel => exact ⟨j + 1, c6, a6, L2, by omega, by go_num, HRW, by omega, Lib.hid (HG6.out.set (by omega)), B76.set_to rfl, N6.far' (by omega) _, Lib.hid (OwW.set HO6.out (p := ⟨w.heap.size + 1, 0, none⟩) (.inl (by show w.heap.size + 1 < w.heap.size + 1 + 1; omega)) _), Lib.hid (Ab.setCell HA6.out (p := ⟨w.heap.size + 1, 0, none⟩) (by show w.heap.size + 1 < w.heap.size + 3; omega) _), Fr.setCell hfw6 (by show w.heap.size ≤ w.heap.size + 1; omega) _, by simp; omega⟩
            case measure => (simp [intOf]; omega)
        · have gd : decide (0 ≤ x3 ∧ x3 ≤ (d2.length : Int) - 1) = false := by simp only [decide_eq_false_iff_not]; omega
          have HPB : Hid (pb = false) := Lib.hid (by rw [← HPX.out, decide_eq_false h2, Bool.false_and, Bool.and_false])
          have HLN : Hid (L.map BI.r = sdL (pinR (j0 : Int) ⟨(d2.length : Int), d1, d2⟩ (seen.take (j + 1)))) := Lib.hid (by rw [HSN.out, if_neg (by rw [HPB.out]; decide), List.append_nil]; exact HL.out)
          clear h1 h2
          go_wp2_with fail
          refine (l01In_any _ _ _ _).mono ?_
          rintro e w5 ⟨rfl, rfl⟩
          rw [gd]
          go_wp2_with fail
          go_roundw
          case rel => exact ⟨j + 1, cB, aB, L, by omega, by go_num, HLN, by omega, Lib.hid (HBG.out.fr (by exact Qf)), hB7.fr (by exact Qf), hN.fr (by exact Qf), Lib.hid (OwW.fr HO.out (by exact Qf)), Lib.hid (Ab.fr HAB.out (by exact Qf)), by exact Qf, by simp; omega⟩
          case measure => (simp [intOf]; omega)
      · have t1 : (x0 == (j0 : Int)) = false := by simpa using h1
        have HPB : Hid (pb = false) := Lib.hid (by rw [← HPX.out, t1, Bool.false_and])
        have HLN : Hid (L.map BI.r = sdL (pinR (j0 : Int) ⟨(d2.length : Int), d1, d2⟩ (seen.take (j + 1)))) := Lib.hid (by rw [HSN.out, if_neg (by rw [HPB.out]; decide), List.append_nil]; exact HL.out)
        clear h1
        go_wp2_with fail
        go_roundw
        case rel => exact ⟨j + 1, cB, aB, L, by omega, by go_num, HLN, by omega, Lib.hid (HBG.out.fr (by exact Qf)), hB7.fr (by exact Qf), hN.fr (by exact Qf), Lib.hid (OwW.fr HO.out (by exact Qf)), Lib.hid (Ab.fr HAB.out (by exact Qf)), by exact Qf, by simp; omega⟩
        case measure => (simp [intOf]; omega)
    · obtain rfl : j = seen.length := by omega
      have HLL : Hid (L.map BI.r = r) := Lib.hid (by rw [HL.out, List.take_length]; exact HRR.out.symm)
      have hLl : L.length ≤ 1048576 := by omega
      obtain ⟨wE, rfl⟩ : ∃ wE : World, wE = wr := ⟨_, rfl⟩
      obtain ⟨aB', bB, oB, cB', hvB, hcB, hmB, kB⟩ := HBG.out.rd.one
      cases hvB
      have KB := Lib.hid kB
      have HO0 : Hid (OwW wE (w.heap.size + 1 + 1) wE.heap.size 86 1 (.slice (some ⟨w.heap.size + 1 + 1, 0, none⟩) 0 0) 0 ((L.take 0).map BI.v)) := Lib.hid (OwW.mono HO.out (Nat.le_refl _) (by omega))
      have HF0 : Hid (Off (w.heap.size + 3) wE.heap.size (.slice (some ⟨w.heap.size + 1 + 1, 0, none⟩) 0 0)) := Lib.hid (Off.below (l := 0) (RowIn.mono HO.out.2 (by omega) (by omega)))
      clear kB HL HRR HO HAB FN hN KS KE
      go_wp2_with fail
      go_loopw [8, 12] (fun o i w2 => ∃ (k c1 : Nat) (ao1 : Option Addr), k ≤ L.length ∧ i = .int .i64 k ∧ o = .slice ao1 k c1 ∧ Hid (OwW w2 (w.heap.size + 1 + 1) w2.heap.size 86 1 (.slice ao1 k c1) k ((L.take k).map BI.v)) ∧ Hid (Off (w.heap.size + 3) wE.heap.size (.slice ao1 k c1)) ∧ Hid (Ab (w.heap.size + 3) wE w2) ∧ Box w2 (w.heap.size + 1) #[.slice aB L.length cB] 97 ∧ Fr w w2) (fun _ i _ => L.length - (intOf i).toNat)
      case atStart => exact ⟨0, 0, some ⟨w.heap.size + 1 + 1, 0, none⟩, Nat.zero_le _, rfl, rfl, HO0, HF0, Lib.hid (Ab.refl _ _), hB7, hfr⟩
      case round =>
        clear HO0 HF0 FB
        obtain ⟨k, c1, ao1, hk, rfl, rfl, HO, HF, HAB, hB7', hfr'⟩ := hrel
        have FB := hB7'.facts
        have zr' := hfr'.size
        have hzA := HAB.out.1
        by_cases hlk : k < L.length
        · obtain ⟨rfl, hbB, kf⟩ := KB.out (by omega)
          have hbB2 := HBG.out.blk bB rfl
          have q0 := (kf k hlk).1
          rw [← Ab.cell HAB.out hbB2 hbB] at q0
          have hbB3 : bB < wr.heap.size := by omega
          have HTK := Lib.hid (bi_take hlk)
          obtain ⟨x, hx⟩ : ∃ x, biAt L k = x := ⟨_, rfl⟩
          rw [hx] at q0 HTK
          obtain ⟨xg, xc, xr, xt⟩ := x
          simp only [BI.v] at q0
          clear kf hx
          go_wp2_with (at_builtin; refine wpList_append_rd rfl _ _ 30 rfl (w.heap.size + 1 + 1) 86 k0 (.slice none 0 0) 1 24 Tryz.underlying30 ki kz0 kz1 kz2 rfl (by decide) (.slice ao1 k c1) k ((L.take k).map BI.v) rfl (World.ownsRow.alloc HO.out.1 _) _ 1 [.slice (some ⟨xg, 0, none⟩) xr.length xc] rfl (RdS.new (by first | rfl | (simp; done)) rfl) (by simp [Value.oneCell']) (by unfold maxLen; omega) (by omega) (by exact Qz) ?_; intro ay cy w9 hown9 hgrow9 hat9)
          have hf9 : Fr w w9 := Fr.app (by exact Qf) hgrow9 HO.out.2 (by omega)
          have HA9 := Lib.hid (Ab.gr2 (show Ab (w.heap.size + 3) wE _ from Ab.alloc HAB.out _) hgrow9 HF.out)
          have HF9 := Lib.hid (Off.app HF.out hat9 (by simp; omega))
          have B9 := Box.gr (hB7'.alloc _) hgrow9 (fun e => by have := (HO.out.2 _ e).1; omega)
          have HO9 : Hid (OwW w9 (w.heap.size + 1 + 1) w9.heap.size 86 1 (.slice ay (k + 1) cy) (k + 1) ((L.take (k + 1)).map BI.v)) := Lib.hid (by
            rw [HTK.out, List.map_append]
            exact OwW.of_owns hown9)
          clear hown9 hgrow9 hat9
          go_wp2_with fail
          go_roundw
          case rel => exact ⟨k + 1, cy, ay, by omega, by go_num, rfl, HO9, HF9, HA9, B9, hf9⟩
          case measure => (simp [intOf]; omega)
        · obtain rfl : k = L.length := by omega
          have HW : Hid (IntSSV wr (w.heap.size + 1 + 1) wr.heap.size (.slice ao1 L.length c1) (L.map BI.r)) := Lib.hid (HBG.out.told HAB.out (by omega) (by have := HO.out; rwa [List.take_length] at this) HF.out)
          go_wp2_with fail
          go_ret
          refine ⟨ao1, c1, by rw [← HLL.out, List.length_map]; rfl, ?_, hfr'⟩
          rw [← HLL.out, List.length_map]
          exact HW.out.mono (by omega) (Nat.le_refl _)
end Go.Proofs.YtmdgdnkllclpcaaGreat
