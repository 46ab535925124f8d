/- TruePairs of both. Conditions: bounds on what comes in. -/
import Derived.Test.YtmdgdnkllclpcaaGreatTrp
import Derived.Test.YtmdgdnkllclpcaaGreatPes
import Derived.Test.YtmdgdnkllclpcaaGreatGQfl
import Derived.Test.YtmdgdnkllclpcaaGreatGSrd
import Derived.Test.YtmdgdnkllclpcaaGreatGSta2
import Derived.Test.YtmdgdnkllclpcaaGreatIsa
namespace Go.Proofs.YtmdgdnkllclpcaaGreat
open Go.RowKit
set_option linter.unusedVariables false
set_option linter.unusedSimpArgs false
def TruPost (w : World) (r : List (List Int)) (e : Ending) (w' : World) : Prop := ∃ ao cap, e = .returned (.slice ao r.length cap) ∧ IntSSW w' w.heap.size w'.heap.size (.slice ao r.length cap) r ∧ Fr w w'
theorem truL_no {g : GraphD} {q : QueryD} {a k n : Int} (h : ¬ (graphB g = true ∧ qryD q = true ∧ (0 ≤ a ∧ a < (q.f2.length : Int)))) : truL g q a k n = [] := if_neg h
set_option maxHeartbeats 8000000 in
set_option maxRecDepth 100000 in
theorem specTruePairs_any (gv qv : Value) (g : GraphD) (q : QueryD) (a k n : Int) (w : World) (hg : GraphRd w gv g) (hq : QueryRd w qv q) (hn : q.bulk ≤ 1048576) :
    Calls Tryz.prog 36 #[gv, qv, .int .i64 a, .int .i64 k, .int .i64 n] w fun e w' => TruPost w (truL g q a k n) e w' := by
  obtain ⟨k0, ki, kz0, kz1, kz2⟩ := info_parts info_ints
  obtain ⟨gb, hgb⟩ : ∃ gb, graphB g = gb := ⟨_, rfl⟩
  obtain ⟨qb, hqb⟩ : ∃ qb, qryD q = qb := ⟨_, rfl⟩
  obtain ⟨ab, hab⟩ : ∃ ab, decide (0 ≤ a ∧ a < (q.f2.length : Int)) = ab := ⟨_, rfl⟩
  have HG := Lib.hid hg; have HQ := Lib.hid hq
  have CG : Hid (∀ w', Fr w w' → Calls Tryz.prog 81 #[gv] w' fun e w'' => e = .returned (.bool gb) ∧ Fr w' w'') := Lib.hid fun w' h => by obtain ⟨u, rfl, he⟩ := HG.out; rw [← hgb]; exact specGraphOk_any u g.f0 g.f1 w' (he.fr h)
  have CQ : Hid (∀ w', Fr w w' → Calls Tryz.prog 55 #[qv] w' fun e w'' => e = .returned (.bool qb) ∧ Fr w' w'') := Lib.hid fun w' h => by rw [← hqb]; exact specQueryOk_d qv q w' (HQ.out.fr h) hn
  obtain ⟨r, hr⟩ : ∃ r, truL g q a k n = r := ⟨_, rfl⟩
  have HNO : Hid (¬ (gb = true ∧ qb = true ∧ ab = true) → r = []) := Lib.hid fun h => by
    rw [← hr]
    refine truL_no fun ⟨h1, h2, h3⟩ => h ⟨by rw [← hgb]; exact h1, by rw [← hqb]; exact h2, ?_⟩
    rw [← hab]; exact decide_eq_true h3
  have HYES : Hid (gb = true → qb = true → ab = true → r = (pairsM g (rpM (atomAt q.f2 a.toNat).f1).1).filter (truF k n)) := Lib.hid fun h1 h2 h3 => by
    rw [← hr]
    exact if_pos ⟨hgb.trans h1, hqb.trans h2, of_decide_eq_true (hab.trans h3)⟩
  have HAB : Hid (ab = true → 0 ≤ a ∧ a < (q.f2.length : Int)) := Lib.hid fun h => of_decide_eq_true (hab.trans h)
  have HSZ : Hid (∀ k, k < q.f2.length → (atomAt q.f2 k).f1.size ≤ 1048576) := Lib.hid fun k hk => (atoms_sz hn k hk).2.1
  have CPP : Hid (∀ v ps w', Fr w w' → PiecesR w' v ps → Calls Tryz.prog 95 #[gv, .agg #[v]] w' fun e w'' => ∃ ao cap, e = .returned (.slice ao (pairsM g ps).length cap) ∧ IntSSW w'' w'.heap.size w''.heap.size (.slice ao (pairsM g ps).length cap) (pairsM g ps) ∧ Fr w' w'') := Lib.hid fun v ps w' h hv => by obtain ⟨u, rfl, he⟩ := HG.out; exact specPathPairs_w g u v ps w' (he.fr h) hv
  rw [hr]
  have hx0 : q.f2.length ≤ 1048576 := by have := hn; unfold QueryD.bulk AtomsBulk at this; omega
  obtain ⟨ue, rfl, he⟩ := hg; obtain ⟨ae, be, oe, ce, rfl, hce, hme, fe⟩ := he.one; obtain ⟨u1, u2, u3, rfl, r1, r2, r3⟩ := hq; obtain ⟨ao, bo, oo, co, rfl, hco, hmo, ko⟩ := r1.one; obtain ⟨ax, bx, ox, cx, rfl, hcx, hmx, kx⟩ := r2.one; obtain ⟨af, bf, of, cf, rfl, hcf, hmf, kf⟩ := r3.one
  have KX := Lib.hid kx
  clear he fe r1 r2 r3 ko kx kf
  have CI : Hid (∀ w', Calls Tryz.prog 56 #[.int .i64 a, .int .i64 0, .int .i64 ((q.f2.length : Int) - 1)] w' fun e w'' => e = .returned (.bool ab) ∧ w' = w'') := Lib.hid fun w' => by
    rw [← hab]
    refine (l01In_any _ _ _ _).mono ?_
    rintro e w'' ⟨rfl, h⟩
    refine ⟨?_, h⟩
    congr 2
    exact decide_eq_decide.2 (by omega)
  clear hgb hqb hab HG HQ hn hr
  have HME : Hid (OwW ((((w.alloc (.cells #[.int .i64 g.f0, .slice ae g.f1.length ce] 55)).alloc (.cells #[.bool q.f0, .slice ao q.f1.length co, .slice ax q.f2.length cx, .slice af q.f3.length cf] 35)).alloc (.cells #[] 86))) w.heap.size (w.heap.size + 1 + 1 + 1) 86 1 (.slice (some ⟨w.heap.size + 1 + 1, 0, none⟩) 0 0) 0 []) := Lib.hid ⟨made_empty (by simp) (by omega), RowIn.one (by omega) (by omega)⟩
  cases gb
  · have HR := Lib.hid (HNO.out (by simp))
    go_enter Tryz.func36, Tryz.ntmps36
    go_wp2_with fail
    refine (CG.out _ (by exact Qf)).mono ?_
    rintro e w1 ⟨rfl, hf1⟩
    have A1 : Box w1 w.heap.size #[.int .i64 g.f0, .slice ae g.f1.length ce] 55 := Box.fr (Box.alloc (Box.alloc (Box.new _ _ _) _) _) hf1
    have B1 : Box w1 (w.heap.size + 1) #[.bool q.f0, .slice ao q.f1.length co, .slice ax q.f2.length cx, .slice af q.f3.length cf] 35 := Box.fr (Box.alloc (Box.new' (by simp)) _) hf1
    have F1 := B1.facts
    have z1 := hf1.size
    (try simp only [World.size_alloc] at z1)
    have HM1 := Lib.hid (OwW.fr HME.out hf1)
    go_wp2_with fail
    go_ret
    rw [HR.out]
    exact ⟨_, _, rfl, NestP.none_yet (OwW.mono HM1.out (Nat.le_refl _) (by omega)), by exact Qf⟩
  cases qb
  · have HR := Lib.hid (HNO.out (by simp))
    go_enter Tryz.func36, Tryz.ntmps36
    go_wp2_with fail
    refine (CG.out _ (by exact Qf)).mono ?_
    rintro e w1 ⟨rfl, hf1⟩
    have A1 : Box w1 w.heap.size #[.int .i64 g.f0, .slice ae g.f1.length ce] 55 := Box.fr (Box.alloc (Box.alloc (Box.new _ _ _) _) _) hf1
    have B1 : Box w1 (w.heap.size + 1) #[.bool q.f0, .slice ao q.f1.length co, .slice ax q.f2.length cx, .slice af q.f3.length cf] 35 := Box.fr (Box.alloc (Box.new' (by simp)) _) hf1
    have F1 := B1.facts
    have z1 := hf1.size
    (try simp only [World.size_alloc] at z1)
    have HM1 := Lib.hid (OwW.fr HME.out hf1)
    go_wp2_with fail
    refine (CQ.out _ (by exact Qf)).mono ?_
    rintro e w2 ⟨rfl, hf2⟩
    have A2 := A1.fr hf2
    have B2 := B1.fr hf2
    clear F1
    have F2 := B2.facts
    have z2 := hf2.size
    have HM2 := Lib.hid (OwW.fr HM1.out hf2)
    go_wp2_with fail
    go_ret
    rw [HR.out]
    exact ⟨_, _, rfl, NestP.none_yet (OwW.mono HM2.out (Nat.le_refl _) (by omega)), by exact Qf⟩
  cases ab
  · have HR := Lib.hid (HNO.out (by simp))
    go_enter Tryz.func36, Tryz.ntmps36
    go_wp2_with fail
    refine (CG.out _ (by exact Qf)).mono ?_
    rintro e w1 ⟨rfl, hf1⟩
    have A1 : Box w1 w.heap.size #[.int .i64 g.f0, .slice ae g.f1.length ce] 55 := Box.fr (Box.alloc (Box.alloc (Box.new _ _ _) _) _) hf1
    have B1 : Box w1 (w.heap.size + 1) #[.bool q.f0, .slice ao q.f1.length co, .slice ax q.f2.length cx, .slice af q.f3.length cf] 35 := Box.fr (Box.alloc (Box.new' (by simp)) _) hf1
    have F1 := B1.facts
    have z1 := hf1.size
    (try simp only [World.size_alloc] at z1)
    have HM1 := Lib.hid (OwW.fr HME.out hf1)
    go_wp2_with fail
    refine (CQ.out _ (by exact Qf)).mono ?_
    rintro e w2 ⟨rfl, hf2⟩
    have A2 := A1.fr hf2
    have B2 := B1.fr hf2
    clear F1
    have F2 := B2.facts
    have z2 := hf2.size
    have HM2 := Lib.hid (OwW.fr HM1.out hf2)
    go_wp2_with fail
    refine (CI.out _).mono ?_
    rintro e w3 ⟨rfl, rfl⟩
    go_wp2_with fail
    go_ret
    rw [HR.out]
    exact ⟨_, _, rfl, NestP.none_yet (OwW.mono HM2.out (Nat.le_refl _) (by omega)), by exact Qf⟩
  have HRR := Lib.hid (HYES.out rfl rfl rfl)
  obtain ⟨ha0, ha1⟩ := HAB.out rfl
  clear HNO HYES HAB
  obtain ⟨j0, rfl⟩ := Int.eq_ofNat_of_zero_le ha0
  have hj0 : j0 < q.f2.length := by omega
  go_enter Tryz.func36, Tryz.ntmps36
  go_wp2_with fail
  refine (CG.out _ (by exact Qf)).mono ?_
  rintro e w1 ⟨rfl, hf1⟩
  have A1 : Box w1 w.heap.size #[.int .i64 g.f0, .slice ae g.f1.length ce] 55 := Box.fr (Box.alloc (Box.alloc (Box.new _ _ _) _) _) hf1
  have B1 : Box w1 (w.heap.size + 1) #[.bool q.f0, .slice ao q.f1.length co, .slice ax q.f2.length cx, .slice af q.f3.length cf] 35 := Box.fr (Box.alloc (Box.new' (by simp)) _) hf1
  have F1 := B1.facts
  have z1 := hf1.size
  (try simp only [World.size_alloc] at z1)
  have HM1 := Lib.hid (OwW.fr HME.out hf1)
  go_wp2_with fail
  refine (CQ.out _ (by exact Qf)).mono ?_
  rintro e w2 ⟨rfl, hf2⟩
  have A2 := A1.fr hf2
  have B2 := B1.fr hf2
  clear F1
  have F2 := B2.facts
  have z2 := hf2.size
  have HM2 := Lib.hid (OwW.fr HM1.out hf2)
  go_wp2_with fail
  refine (CI.out _).mono ?_
  rintro e w3 ⟨rfl, rfl⟩
  obtain ⟨rfl, hbx, hfx⟩ := KX.out (by omega)
  obtain ⟨g0, g1, g2⟩ := hfx j0 hj0
  have hs1 := HSZ.out j0 hj0
  have HRR : Hid (r = (pairsM g (rpM (atomAt q.f2 j0).f1).1).filter (truF k n)) := Lib.hid (by have := HRR.out; simpa using this)
  obtain ⟨x, hx⟩ : ∃ x, atomAt q.f2 j0 = x := ⟨_, rfl⟩
  rw [hx] at g1 hs1 HRR
  obtain ⟨x0, x1, x2⟩ := x
  simp only [] at g1 hs1
  have HRR : Hid (r = (pairsM g (rpM x1).1).filter (truF k n)) := HRR
  clear hfx g0 g2 hx KX HSZ ha0
  have hfw : Fr w w2 := by exact Qf
  have hbx1 : bx < w2.heap.size := by have := hfw.size; omega
  have q1 := (hfw.cell (p := ⟨bx, _, none⟩) hbx).trans g1
  clear g1
  go_wp2_with fail
  refine (specReadPath_any x1 _ (by omega)).mono ?_
  rintro e w4 ⟨pv, rfl, hpv, hf4⟩
  obtain ⟨ps, hps⟩ : ∃ ps, (rpM x1).1 = ps := ⟨_, rfl⟩
  obtain ⟨pb, hpb⟩ : ∃ pb, (rpM x1).2 = pb := ⟨_, rfl⟩
  rw [hps] at hpv HRR
  rw [hpb]
  obtain ⟨A, hA⟩ : ∃ A, pairsM g ps = A := ⟨_, rfl⟩
  have hA2 : ∀ p ∈ A, p.length = 2 := by rw [← hA]; exact pairsM_two g ps
  have hA3 : A.length ≤ 144 := by rw [← hA]; exact pairsM_len g ps
  have HA2 := Lib.hid hA2
  rw [hA] at HRR
  have A4 := A2.fr hf4
  have G4 := A4.facts
  have z4 := hf4.size
  obtain ⟨apv, bpv, opv, cpv, rfl, hcp, hmp, fpv⟩ := hpv.one
  clear hcp hmp fpv
  have HPV := Lib.hid hpv
  have hf04 : Fr w w4 := by exact Qf
  have CPQ : Hid (∀ w', Fr w4 w' → Calls Tryz.prog 95 #[.agg #[.int .i64 g.f0, .slice ae g.f1.length ce],   .agg #[.slice apv ps.length cpv]] w' fun e w'' => ∃ ao cap, e = .returned (.slice ao A.length cap) ∧ IntSSW w'' w'.heap.size w''.heap.size (.slice ao A.length cap) A ∧ Fr w' w'') := Lib.hid fun w' h => by rw [← hA]; exact CPP.out _ ps w' (hf04.trans h) (HPV.out.fr h)
  have HM4 := Lib.hid (OwW.fr HM2.out hf4)
  clear hpv hps hpb hA hA2 q1 hf1 hf2 CPP F2
  go_wp2_with fail
  refine (CPQ.out _ (by exact Qf)).mono ?_
  rintro e wA ⟨aA, cA, rfl, hAW, hf5⟩
  have z5 := hf5.size
  (try simp only [World.size_alloc] at z5)
  obtain ⟨us, los, his, hPR⟩ := Prs.of hAW
  have HPR := Lib.hid hPR
  obtain ⟨lo, hlo⟩ : ∃ lo, lo = w4.heap.size + 1 := ⟨_, rfl⟩
  have HPR : Hid (Prs wA lo wA.heap.size (.slice aA A.length cA) A us los his) := Lib.hid (by rw [hlo]; simpa using HPR.out)
  have hf45 : Fr w4 wA := by exact Qf
  have hf05 : Fr w wA := hf04.trans hf45
  clear hAW hPR

  have H0 : Hid (OwW wA w.heap.size wA.heap.size 86 1 (.slice (some ⟨w.heap.size + 1 + 1, 0, none⟩) 0 0) 0 []) := Lib.hid (OwW.mono (OwW.fr HM4.out hf45) (Nat.le_refl _) (by omega))
  have F0 : Hid (Off lo wA.heap.size (.slice (some ⟨w.heap.size + 1 + 1, 0, none⟩) 0 0)) := Lib.hid (Off.below (l := 0) (RowIn.mono HM4.out.2 (by omega) (by omega)))
  go_wp2_with fail
  go_loopw [11, 15] (fun o i wr => ∃ (j c1 : Nat) (ao1 : Option Addr) (S : List Nat), j ≤ A.length ∧ i = .int .i64 j ∧ o = .slice ao1 S.length c1 ∧ Hid (S = selIx (truF k n) A j) ∧ Hid (OwW wr w.heap.size wr.heap.size 86 1 (.slice ao1 S.length c1) S.length (S.flatMap fun i => us.getD i [])) ∧ Hid (Off lo wA.heap.size (.slice ao1 S.length c1)) ∧ Hid (Ab lo wA wr) ∧ Fr w wr) (fun _ i _ => A.length - (intOf i).toNat)
  case atStart => exact ⟨0, 0, some ⟨w.heap.size + 1 + 1, 0, none⟩, [], Nat.zero_le _, rfl, rfl, Lib.hid rfl, H0, F0, Lib.hid (Ab.refl _ _), hf05⟩
  case round =>
    clear H0 F0 HM4 A4 G4 HPV
    obtain ⟨j, c1, ao1, S, hj, rfl, rfl, HS, HO, HF, HAB, hfr⟩ := hrel
    have zr := hfr.size
    have hzA := HAB.out.1
    have hSl : S.length ≤ j := by rw [HS.out]; exact selIx_len
    by_cases hlt : j < A.length
    · obtain ⟨ga, ca, gg, cc, hav, ⟨b1, b2⟩, d0, ⟨b3, b4⟩, d1, hus⟩ := HPR.out.at hlt (nAt_mem HA2.out j hlt)
      cases hav
      rw [← Ab.cell HAB.out b1 b2] at d0
      rw [← Ab.cell HAB.out b3 b4] at d1
      have hga : ga < wr.heap.size := by omega
      have hgg : gg < wr.heap.size := by omega
      obtain ⟨y, hy⟩ : ∃ y, iAt (nAt A j) 1 = y := ⟨_, rfl⟩
      rw [hy] at d1
      have HY := Lib.hid hy
      have HUS := Lib.hid hus
      clear hy hus
      go_wp2_with fail
      refine (specOwnerOf_any y n _).mono ?_
      rintro e w6 ⟨rfl, hf6⟩
      have d06 := (hf6.cell (p := ⟨ga, j, none⟩) hga).trans d0
      have hga6 : ga < w6.heap.size := by have := hf6.size; omega
      have z6 := hf6.size
      have HO6 := Lib.hid (OwW.mono (OwW.fr HO.out hf6) (Nat.le_refl _) hf6.size)
      have HAB6 := Lib.hid (Ab.fr HAB.out hf6)
      have hf06 : Fr w w6 := by exact Qf
      clear d0 d1 HO HAB
      by_cases how : owR y n = k
      · have qo : (owR y n == k) = true := by simpa using how
        have HS6 : Hid (S ++ [j] = selIx (truF k n) A (j + 1)) := Lib.hid (by
          rw [selIx_yes (by unfold truF; rw [HY.out]; exact qo), HS.out])
        have HLN := Lib.hid (show (S ++ [j]).length = S.length + 1 by simp)
        have HCA := Lib.hid (show ((S ++ [j]).flatMap fun i => us.getD i []) = (S.flatMap fun i => us.getD i []) ++ [.slice (some ⟨gg, 0, none⟩) 2 cc] by rw [List.flatMap_append, ← HUS.out]; simp)
        clear how HS
        go_wp2_with (at_builtin; refine wpList_append_rd rfl _ _ 30 rfl w.heap.size 86 k0 (.slice none 0 0) 1 24 Tryz.underlying30 ki kz0 kz1 kz2 rfl (by decide) (.slice ao1 S.length c1) S.length (S.flatMap fun i => us.getD i []) rfl (World.ownsRow.alloc HO6.out.1 _) _ 1 [.slice (some ⟨gg, 0, none⟩) 2 cc] rfl (RdS.new (by first | rfl | (simp; done)) rfl) (by simp [Value.oneCell']) (by unfold maxLen; omega) (by omega) (by exact Qz) ?_; intro ay cy w9 hown9 hgrow9 hat9)
        have hf9 : Fr w w9 := Fr.app (by exact Qf) hgrow9 HO6.out.2 (by omega)
        have HAB9 := Lib.hid (Ab.gr2 (show Ab lo wA _ from Ab.alloc HAB6.out _) hgrow9 HF.out)
        have HF9 := Lib.hid (Off.app HF.out hat9 (by simp; omega))
        have HO9 : Hid (OwW w9 w.heap.size w9.heap.size 86 1 (.slice ay (S ++ [j]).length cy) (S ++ [j]).length ((S ++ [j]).flatMap fun i => us.getD i [])) := Lib.hid (by
          rw [HCA.out, HLN.out]
          exact OwW.of_owns hown9)
        clear hown9 hgrow9 hat9
        go_wp2_with fail
        go_roundw
        case rel => exact ⟨j + 1, cy, ay, S ++ [j], by omega, by go_num, by rw [HLN.out], HS6, HO9, by rw [HLN.out]; exact HF9, HAB9, hf9⟩
        case measure => (simp [intOf]; omega)
      · have qo : (owR y n == k) = false := by simpa using how
        have HS6 : Hid (S = selIx (truF k n) A (j + 1)) := Lib.hid (by
          rw [selIx_no (by unfold truF; rw [HY.out]; exact qo), HS.out])
        clear how HS
        go_wp2_with fail
        go_roundw
        case rel => exact ⟨j + 1, c1, ao1, S, by omega, by go_num, rfl, HS6, HO6, HF, HAB6, hf06⟩
        case measure => (simp [intOf]; omega)
    · obtain rfl : j = A.length := by omega
      have HRL : Hid (r = S.map (nAt A)) := Lib.hid (by rw [HRR.out, HS.out, selIx_all])
      have HW : Hid (IntSSW wr w.heap.size wr.heap.size (.slice ao1 S.length c1) (S.map (nAt A))) := Lib.hid (HPR.out.sel HAB.out (by rw [HS.out]; exact selIx_up) (by rw [HS.out]; exact selIx_lt) HO.out (by omega) (Nat.le_refl _) HF.out)
      go_wp2_with fail
      go_ret
      refine ⟨ao1, c1, by rw [HRL.out, List.length_map]; rfl, ?_, by exact Qf⟩
      rw [HRL.out, List.length_map]
      exact HW.out
set_option maxHeartbeats 8000000 in
set_option maxRecDepth 100000 in
theorem implTruePairs_any (gv qv : Value) (g : GraphD) (q : QueryD) (a k n : Int) (w : World) (hg : GraphRd w gv g) (hq : QueryRd w qv q) (hn : q.bulk ≤ 1048576) :
    Calls Tryz.prog 37 #[gv, qv, .int .i64 a, .int .i64 k, .int .i64 n] w fun e w' => TruPost w (truL g q a k n) e w' := by
  obtain ⟨k0, ki, kz0, kz1, kz2⟩ := info_parts info_ints
  obtain ⟨gb, hgb⟩ : ∃ gb, graphB g = gb := ⟨_, rfl⟩
  obtain ⟨qb, hqb⟩ : ∃ qb, qryD q = qb := ⟨_, rfl⟩
  obtain ⟨ab, hab⟩ : ∃ ab, decide (0 ≤ a ∧ a < (q.f2.length : Int)) = ab := ⟨_, rfl⟩
  have HG := Lib.hid hg; have HQ := Lib.hid hq
  have CG : Hid (∀ w', Fr w w' → Calls Tryz.prog 84 #[gv] w' fun e w'' => e = .returned (.bool gb) ∧ Fr w' w'') := Lib.hid fun w' h => by obtain ⟨u, rfl, he⟩ := HG.out; rw [← hgb]; exact implGraphOk_any u g.f0 g.f1 w' (he.fr h)
  have CQ : Hid (∀ w', Fr w w' → Calls Tryz.prog 62 #[qv] w' fun e w'' => e = .returned (.bool qb) ∧ Fr w' w'') := Lib.hid fun w' h => by rw [← hqb]; exact implQueryOk_d qv q w' (HQ.out.fr h) hn
  obtain ⟨r, hr⟩ : ∃ r, truL g q a k n = r := ⟨_, rfl⟩
  have HNO : Hid (¬ (gb = true ∧ qb = true ∧ ab = true) → r = []) := Lib.hid fun h => by
    rw [← hr]
    refine truL_no fun ⟨h1, h2, h3⟩ => h ⟨by rw [← hgb]; exact h1, by rw [← hqb]; exact h2, ?_⟩
    rw [← hab]; exact decide_eq_true h3
  have HYES : Hid (gb = true → qb = true → ab = true → r = (pairsM g (rpM (atomAt q.f2 a.toNat).f1).1).filter (truF k n)) := Lib.hid fun h1 h2 h3 => by
    rw [← hr]
    exact if_pos ⟨hgb.trans h1, hqb.trans h2, of_decide_eq_true (hab.trans h3)⟩
  have HAB : Hid (ab = true → 0 ≤ a ∧ a < (q.f2.length : Int)) := Lib.hid fun h => of_decide_eq_true (hab.trans h)
  have HSZ : Hid (∀ k, k < q.f2.length → (atomAt q.f2 k).f1.size ≤ 1048576) := Lib.hid fun k hk => (atoms_sz hn k hk).2.1
  have CPP : Hid (∀ v ps w', Fr w w' → PiecesR w' v ps → Calls Tryz.prog 98 #[gv, .agg #[v]] w' fun e w'' => ∃ ao cap, e = .returned (.slice ao (pairsM g ps).length cap) ∧ IntSSW w'' w'.heap.size w''.heap.size (.slice ao (pairsM g ps).length cap) (pairsM g ps) ∧ Fr w' w'') := Lib.hid fun v ps w' h hv => by obtain ⟨u, rfl, he⟩ := HG.out; exact implPathPairs_w g u v ps w' (he.fr h) hv
  rw [hr]
  have hx0 : q.f2.length ≤ 1048576 := by have := hn; unfold QueryD.bulk AtomsBulk at this; omega
  obtain ⟨ue, rfl, he⟩ := hg; obtain ⟨ae, be, oe, ce, rfl, hce, hme, fe⟩ := he.one; obtain ⟨u1, u2, u3, rfl, r1, r2, r3⟩ := hq; obtain ⟨ao, bo, oo, co, rfl, hco, hmo, ko⟩ := r1.one; obtain ⟨ax, bx, ox, cx, rfl, hcx, hmx, kx⟩ := r2.one; obtain ⟨af, bf, of, cf, rfl, hcf, hmf, kf⟩ := r3.one
  have KX := Lib.hid kx
  clear he fe r1 r2 r3 ko kx kf
  have CI : Hid (∀ w', Calls Tryz.prog 63 #[.agg #[.bool q.f0, .slice ao q.f1.length co, .slice ax q.f2.length cx, .slice af q.f3.length cf], .int .i64 a] w' fun e w'' => e = .returned (.bool ab) ∧ Fr w' w'') := Lib.hid fun w' => by rw [← hab]; exact isAtom_any q.f0 _ _ ax q.f2.length cx a w' ⟨_, _, _, rfl⟩ ⟨_, _, _, rfl⟩
  clear hgb hqb hab HG HQ hn hr
  cases gb
  · have HR := Lib.hid (HNO.out (by simp))
    go_enter Tryz.func37, Tryz.ntmps37
    go_wp2_with fail
    refine (CG.out _ (by exact Qf)).mono ?_
    rintro e w1 ⟨rfl, hf1⟩
    have A1 : Box w1 w.heap.size #[.int .i64 g.f0, .slice ae g.f1.length ce] 55 := Box.fr (Box.alloc (Box.new _ _ _) _) hf1
    have B1 : Box w1 (w.heap.size + 1) #[.bool q.f0, .slice ao q.f1.length co, .slice ax q.f2.length cx, .slice af q.f3.length cf] 35 := Box.fr (Box.new' (by simp)) hf1
    have F1 := B1.facts
    have z1 := hf1.size
    (try simp only [World.size_alloc] at z1)
    go_wp2_with fail
    go_ret
    rw [HR.out]
    exact ⟨none, 0, rfl, IntSSW.nil _ _ _, by exact Qf⟩
  cases qb
  · have HR := Lib.hid (HNO.out (by simp))
    go_enter Tryz.func37, Tryz.ntmps37
    go_wp2_with fail
    refine (CG.out _ (by exact Qf)).mono ?_
    rintro e w1 ⟨rfl, hf1⟩
    have A1 : Box w1 w.heap.size #[.int .i64 g.f0, .slice ae g.f1.length ce] 55 := Box.fr (Box.alloc (Box.new _ _ _) _) hf1
    have B1 : Box w1 (w.heap.size + 1) #[.bool q.f0, .slice ao q.f1.length co, .slice ax q.f2.length cx, .slice af q.f3.length cf] 35 := Box.fr (Box.new' (by simp)) hf1
    have F1 := B1.facts
    have z1 := hf1.size
    (try simp only [World.size_alloc] at z1)
    go_wp2_with fail
    refine (CQ.out _ (by exact Qf)).mono ?_
    rintro e w2 ⟨rfl, hf2⟩
    have A2 := A1.fr hf2
    have B2 := B1.fr hf2
    clear F1
    have F2 := B2.facts
    have z2 := hf2.size
    go_wp2_with fail
    go_ret
    rw [HR.out]
    exact ⟨none, 0, rfl, IntSSW.nil _ _ _, by exact Qf⟩
  cases ab
  · have HR := Lib.hid (HNO.out (by simp))
    go_enter Tryz.func37, Tryz.ntmps37
    go_wp2_with fail
    refine (CG.out _ (by exact Qf)).mono ?_
    rintro e w1 ⟨rfl, hf1⟩
    have A1 : Box w1 w.heap.size #[.int .i64 g.f0, .slice ae g.f1.length ce] 55 := Box.fr (Box.alloc (Box.new _ _ _) _) hf1
    have B1 : Box w1 (w.heap.size + 1) #[.bool q.f0, .slice ao q.f1.length co, .slice ax q.f2.length cx, .slice af q.f3.length cf] 35 := Box.fr (Box.new' (by simp)) hf1
    have F1 := B1.facts
    have z1 := hf1.size
    (try simp only [World.size_alloc] at z1)
    go_wp2_with fail
    refine (CQ.out _ (by exact Qf)).mono ?_
    rintro e w2 ⟨rfl, hf2⟩
    have A2 := A1.fr hf2
    have B2 := B1.fr hf2
    clear F1
    have F2 := B2.facts
    have z2 := hf2.size
    go_wp2_with fail
    refine (CI.out _).mono ?_
    rintro e w3 ⟨rfl, hf3⟩
    have A3 := A2.fr hf3
    have B3 := B2.fr hf3
    clear F2
    have F3 := B3.facts
    have G3 := A3.facts
    have z3 := hf3.size
    go_wp2_with fail
    go_ret
    rw [HR.out]
    exact ⟨none, 0, rfl, IntSSW.nil _ _ _, by exact Qf⟩
  have HRR := Lib.hid (HYES.out rfl rfl rfl)
  obtain ⟨ha0, ha1⟩ := HAB.out rfl
  clear HNO HYES HAB
  obtain ⟨j0, rfl⟩ := Int.eq_ofNat_of_zero_le ha0
  have hj0 : j0 < q.f2.length := by omega
  go_enter Tryz.func37, Tryz.ntmps37
  go_wp2_with fail
  refine (CG.out _ (by exact Qf)).mono ?_
  rintro e w1 ⟨rfl, hf1⟩
  have A1 : Box w1 w.heap.size #[.int .i64 g.f0, .slice ae g.f1.length ce] 55 := Box.fr (Box.alloc (Box.new _ _ _) _) hf1
  have B1 : Box w1 (w.heap.size + 1) #[.bool q.f0, .slice ao q.f1.length co, .slice ax q.f2.length cx, .slice af q.f3.length cf] 35 := Box.fr (Box.new' (by simp)) hf1
  have F1 := B1.facts
  have z1 := hf1.size
  (try simp only [World.size_alloc] at z1)
  go_wp2_with fail
  refine (CQ.out _ (by exact Qf)).mono ?_
  rintro e w2 ⟨rfl, hf2⟩
  have A2 := A1.fr hf2
  have B2 := B1.fr hf2
  clear F1
  have F2 := B2.facts
  have z2 := hf2.size
  go_wp2_with fail
  refine (CI.out _).mono ?_
  rintro e w3 ⟨rfl, hf3⟩
  have A3 := A2.fr hf3
  have B3 := B2.fr hf3
  clear F2
  have F3 := B3.facts
  have G3 := A3.facts
  have z3 := hf3.size
  obtain ⟨rfl, hbx, hfx⟩ := KX.out (by omega)
  obtain ⟨g0, g1, g2⟩ := hfx j0 hj0
  have hs1 := HSZ.out j0 hj0
  have HRR : Hid (r = (pairsM g (rpM (atomAt q.f2 j0).f1).1).filter (truF k n)) := Lib.hid (by have := HRR.out; simpa using this)
  obtain ⟨x, hx⟩ : ∃ x, atomAt q.f2 j0 = x := ⟨_, rfl⟩
  rw [hx] at g1 hs1 HRR
  obtain ⟨x0, x1, x2⟩ := x
  simp only [] at g1 hs1
  have HRR : Hid (r = (pairsM g (rpM x1).1).filter (truF k n)) := HRR
  clear hfx g0 g2 hx KX HSZ ha0
  have hfw : Fr w w3 := by exact Qf
  have hbx1 : bx < w3.heap.size := by have := hfw.size; omega
  have q1 := (hfw.cell (p := ⟨bx, _, none⟩) hbx).trans g1
  clear g1
  go_wp2_with fail
  refine (implReadPath_any x1 _ (by omega)).mono ?_
  rintro e w4 ⟨pv, rfl, hpv, hf4⟩
  obtain ⟨ps, hps⟩ : ∃ ps, (rpM x1).1 = ps := ⟨_, rfl⟩
  obtain ⟨pb, hpb⟩ : ∃ pb, (rpM x1).2 = pb := ⟨_, rfl⟩
  rw [hps] at hpv HRR
  rw [hpb]
  obtain ⟨A, hA⟩ : ∃ A, pairsM g ps = A := ⟨_, rfl⟩
  have hA2 : ∀ p ∈ A, p.length = 2 := by rw [← hA]; exact pairsM_two g ps
  have hA3 : A.length ≤ 144 := by rw [← hA]; exact pairsM_len g ps
  have HA2 := Lib.hid hA2
  rw [hA] at HRR
  have A4 := A3.fr hf4
  have G4 := A4.facts
  have z4 := hf4.size
  obtain ⟨apv, bpv, opv, cpv, rfl, hcp, hmp, fpv⟩ := hpv.one
  clear hcp hmp fpv
  have HPV := Lib.hid hpv
  have hf04 : Fr w w4 := by exact Qf
  have CPQ : Hid (∀ w', Fr w4 w' → Calls Tryz.prog 98 #[.agg #[.int .i64 g.f0, .slice ae g.f1.length ce],   .agg #[.slice apv ps.length cpv]] w' fun e w'' => ∃ ao cap, e = .returned (.slice ao A.length cap) ∧ IntSSW w'' w'.heap.size w''.heap.size (.slice ao A.length cap) A ∧ Fr w' w'') := Lib.hid fun w' h => by rw [← hA]; exact CPP.out _ ps w' (hf04.trans h) (HPV.out.fr h)
  clear hpv hps hpb hA hA2 q1 hf1 hf2 CPP F3
  go_wp2_with fail
  refine (CPQ.out _ (by exact Qf)).mono ?_
  rintro e wA ⟨aA, cA, rfl, hAW, hf5⟩
  have z5 := hf5.size
  (try simp only [World.size_alloc] at z5)
  obtain ⟨us, los, his, hPR⟩ := Prs.of hAW
  have HPR := Lib.hid hPR
  obtain ⟨lo, hlo⟩ : ∃ lo, lo = w4.heap.size + 1 := ⟨_, rfl⟩
  have HPR : Hid (Prs wA lo wA.heap.size (.slice aA A.length cA) A us los his) := Lib.hid (by rw [hlo]; simpa using HPR.out)
  have hf45 : Fr w4 wA := by exact Qf
  have hf05 : Fr w wA := hf04.trans hf45
  clear hAW hPR

  have H0 : Hid (OwW wA w.heap.size wA.heap.size 86 1 (.slice none 0 0) 0 []) := Lib.hid (OwW.nil _ _ _ _ _)
  have F0 : Hid (Off lo wA.heap.size (.slice none 0 0)) := Lib.hid (Off.none _ _ _ _)
  go_wp2_with fail
  go_loopw [13, 44] (fun o i wr => ∃ (j c1 : Nat) (ao1 : Option Addr) (S : List Nat), j ≤ A.length ∧ i = .int .i64 j ∧ o = .slice ao1 S.length c1 ∧ Hid (S = selIx (truF k n) A j) ∧ Hid (OwW wr w.heap.size wr.heap.size 86 1 (.slice ao1 S.length c1) S.length (S.flatMap fun i => us.getD i [])) ∧ Hid (Off lo wA.heap.size (.slice ao1 S.length c1)) ∧ Hid (Ab lo wA wr) ∧ Fr w wr) (fun _ i _ => A.length - (intOf i).toNat)
  case atStart => exact ⟨0, 0, none, [], Nat.zero_le _, rfl, rfl, Lib.hid rfl, H0, F0, Lib.hid (Ab.refl _ _), hf05⟩
  case round =>
    clear H0 F0 A4 G4 HPV
    obtain ⟨j, c1, ao1, S, hj, rfl, rfl, HS, HO, HF, HAB, hfr⟩ := hrel
    have zr := hfr.size
    have hzA := HAB.out.1
    have hSl : S.length ≤ j := by rw [HS.out]; exact selIx_len
    by_cases hlt : j < A.length
    · obtain ⟨ga, ca, gg, cc, hav, ⟨b1, b2⟩, d0, ⟨b3, b4⟩, d1, hus⟩ := HPR.out.at hlt (nAt_mem HA2.out j hlt)
      cases hav
      rw [← Ab.cell HAB.out b1 b2] at d0
      rw [← Ab.cell HAB.out b3 b4] at d1
      have hga : ga < wr.heap.size := by omega
      have hgg : gg < wr.heap.size := by omega
      obtain ⟨y, hy⟩ : ∃ y, iAt (nAt A j) 1 = y := ⟨_, rfl⟩
      rw [hy] at d1
      have HY := Lib.hid hy
      have HUS := Lib.hid hus
      clear hy hus
      go_wp2_with fail
      refine (implOwnerOf_any y n _).mono ?_
      rintro e w6 ⟨rfl, hf6⟩
      have d06 := (hf6.cell (p := ⟨ga, j, none⟩) hga).trans d0
      have hga6 : ga < w6.heap.size := by have := hf6.size; omega
      have z6 := hf6.size
      have HO6 := Lib.hid (OwW.mono (OwW.fr HO.out hf6) (Nat.le_refl _) hf6.size)
      have HAB6 := Lib.hid (Ab.fr HAB.out hf6)
      have hf06 : Fr w w6 := by exact Qf
      clear d0 d1 HO HAB
      by_cases how : owR y n = k
      · have qo : (owR y n == k) = true := by simpa using how
        have HS6 : Hid (S ++ [j] = selIx (truF k n) A (j + 1)) := Lib.hid (by
          rw [selIx_yes (by unfold truF; rw [HY.out]; exact qo), HS.out])
        have HLN := Lib.hid (show (S ++ [j]).length = S.length + 1 by simp)
        have HCA := Lib.hid (show ((S ++ [j]).flatMap fun i => us.getD i []) = (S.flatMap fun i => us.getD i []) ++ [.slice (some ⟨gg, 0, none⟩) 2 cc] by rw [List.flatMap_append, ← HUS.out]; simp)
        clear how HS
        go_wp2_with (at_builtin; refine wpList_append_rd rfl _ _ 30 rfl w.heap.size 86 k0 (.slice none 0 0) 1 24 Tryz.underlying30 ki kz0 kz1 kz2 rfl (by decide) (.slice ao1 S.length c1) S.length (S.flatMap fun i => us.getD i []) rfl (World.ownsRow.alloc HO6.out.1 _) _ 1 [.slice (some ⟨gg, 0, none⟩) 2 cc] rfl (RdS.new (by first | rfl | (simp; done)) rfl) (by simp [Value.oneCell']) (by unfold maxLen; omega) (by omega) (by exact Qz) ?_; intro ay cy w9 hown9 hgrow9 hat9)
        have hf9 : Fr w w9 := Fr.app (by exact Qf) hgrow9 HO6.out.2 (by omega)
        have HAB9 := Lib.hid (Ab.gr2 (show Ab lo wA _ from Ab.alloc HAB6.out _) hgrow9 HF.out)
        have HF9 := Lib.hid (Off.app HF.out hat9 (by simp; omega))
        have HO9 : Hid (OwW w9 w.heap.size w9.heap.size 86 1 (.slice ay (S ++ [j]).length cy) (S ++ [j]).length ((S ++ [j]).flatMap fun i => us.getD i [])) := Lib.hid (by
          rw [HCA.out, HLN.out]
          exact OwW.of_owns hown9)
        clear hown9 hgrow9 hat9
        go_wp2_with fail
        go_roundw
        case rel => exact ⟨j + 1, cy, ay, S ++ [j], by omega, by go_num, by rw [HLN.out], HS6, HO9, by rw [HLN.out]; exact HF9, HAB9, hf9⟩
        case measure => (simp [intOf]; omega)
      · have qo : (owR y n == k) = false := by simpa using how
        have HS6 : Hid (S = selIx (truF k n) A (j + 1)) := Lib.hid (by
          rw [selIx_no (by unfold truF; rw [HY.out]; exact qo), HS.out])
        clear how HS
        go_wp2_with fail
        go_roundw
        case rel => exact ⟨j + 1, c1, ao1, S, by omega, by go_num, rfl, HS6, HO6, HF, HAB6, hf06⟩
        case measure => (simp [intOf]; omega)
    · obtain rfl : j = A.length := by omega
      have HRL : Hid (r = S.map (nAt A)) := Lib.hid (by rw [HRR.out, HS.out, selIx_all])
      have HW : Hid (IntSSW wr w.heap.size wr.heap.size (.slice ao1 S.length c1) (S.map (nAt A))) := Lib.hid (HPR.out.sel HAB.out (by rw [HS.out]; exact selIx_up) (by rw [HS.out]; exact selIx_lt) HO.out (by omega) (Nat.le_refl _) HF.out)
      go_wp2_with fail
      go_ret
      refine ⟨ao1, c1, by rw [HRL.out, List.length_map]; rfl, ?_, by exact Qf⟩
      rw [HRL.out, List.length_map]
      exact HW.out
end Go.Proofs.YtmdgdnkllclpcaaGreat
