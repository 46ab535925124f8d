/- TakeWalks of the program, at a right graph and a right query. Conditions: bounds; the taking ends. -/
import Derived.Test.YtmdgdnkllclpcaaGreatTkm
import Derived.Test.YtmdgdnkllclpcaaGreatAut
import Derived.Test.YtmdgdnkllclpcaaGreatGSta2
import Derived.Carry
namespace Go.Proofs.YtmdgdnkllclpcaaGreat
open Go.RowKit
set_option linter.unusedVariables false
set_option linter.unusedSimpArgs false
theorem onQ_no {es : List EdgeR} {nfs : List NfaD} {x : WalkR} (h : decide (0 ≤ x.f0 ∧ x.f0 < (nfs.length : Int)) = false) : onQ es nfs x = [] := onQ_out (of_decide_eq_false h)
set_option maxHeartbeats 32000000 in
set_option maxRecDepth 100000 in
theorem implTake_ok (gv qv sv lv : Value) (g : GraphD) (q : QueryD) (k n : Int) (seen list : List WalkR) (r : List WalkR × List WalkR) (w : World) (hg : GraphRd w gv g) (hq : QueryRd w qv q) (hs : WalksR w sv seen) (hl : WalksR w lv list) (hn : q.bulk ≤ 1048576)
    (hgb : graphB g = true) (hqb : qryD q = true) (hcs : ∀ j, j < (autL q).length → (nAt (autL q) j).f1.length ≤ 262144) (hon : ∀ x ∈ potW list, ∀ y ∈ onQ g.f1 (autL q) x, y ∈ potW list) (hB : ∀ x ∈ potW list, (onQ g.f1 (autL q) x).length ≤ 960)
    (hss : seen.length ≤ 1048576) (hll : list.length ≤ 1048576) (hr : Tk (ownW k n) (onQ g.f1 (autL q)) list seen [] r) :
    Calls Tryz.prog 35 #[gv, qv, .int .i64 k, .int .i64 n, sv, lv] w fun e w' => TkPost w r e w' := by
  obtain ⟨i0, hi, hz0, hz1, hz2⟩ := info_parts info_Walk
  have hmm := @run_makeMap Tryz.prog
  have HG := Lib.hid hg; have HQ := Lib.hid hq; have HS := Lib.hid hs; have HL := Lib.hid hl; have HR := Lib.hid hr; have HON := Lib.hid hon; have HBB := Lib.hid hB
  have hpl := potW_len list
  obtain ⟨pl, hple⟩ : ∃ pl, (potW list).length = pl := ⟨_, rfl⟩
  rw [hple] at hpl
  have HPL := Lib.hid hple
  have hg40 := (graphB_out hgb).2.1
  have hx4 : q.f2.length ≤ 4 := (qryB_atoms hqb).1.2
  have hal : (autL q).length = q.f2.length := autL_len q
  have CG : Hid (∀ w', Fr w w' → Calls Tryz.prog 84 #[gv] w' fun e w'' => e = .returned (.bool true) ∧ Fr w' w'') := Lib.hid fun w' h => by obtain ⟨u, rfl, he⟩ := HG.out; rw [← hgb]; exact implGraphOk_any u g.f0 g.f1 w' (he.fr h)
  have CQ : Hid (∀ w', Fr w w' → Calls Tryz.prog 62 #[qv] w' fun e w'' => e = .returned (.bool true) ∧ Fr w' w'') := Lib.hid fun w' h => by rw [← hqb]; exact implQueryOk_d qv q w' (HQ.out.fr h) hn
  have CA : Hid (∀ w', Fr w w' → Calls Tryz.prog 64 #[qv] w' fun e w'' => ∃ ao cap, e = .returned (.slice ao (autL q).length cap) ∧ NfasW w'' w'.heap.size w''.heap.size (.slice ao (autL q).length cap) (autL q) ∧ Fr w' w'') := Lib.hid fun w' h => by
    obtain ⟨u1, u2, u3, rfl, r1, r2, r3⟩ := HQ.out.fr h
    obtain ⟨a1, c1, rfl, _⟩ := RdS.val r1
    obtain ⟨a3, c3, rfl, _⟩ := RdS.val r3
    exact automataOf_any q.f0 _ u2 _ q.f2 w' ⟨_, _, _, rfl⟩ ⟨_, _, _, rfl⟩ r2 (by omega) (fun k hk => (atoms_sz hn k hk).2.1)
  have CW : Hid (∀ (av : Value) (k0 : Nat) (x1 x2 x3 : Int) w', Fr w w' → NfasR w' av (autL q) → k0 < (autL q).length → Calls Tryz.prog 85 #[gv, av, .agg #[.int .i64 (k0 : Int), .int .i64 x1, .int .i64 x2, .int .i64 x3]] w' fun e w'' => ∃ ao cap, e = .returned (.slice ao (onQ g.f1 (autL q) ⟨k0, x1, x2, x3⟩).length cap) ∧ WalksW w'' w'.heap.size w''.heap.size (.slice ao (onQ g.f1 (autL q) ⟨k0, x1, x2, x3⟩).length cap) (onQ g.f1 (autL q) ⟨k0, x1, x2, x3⟩) ∧ Fr w' w'') := Lib.hid fun av k0 x1 x2 x3 w' h ha hk => by
    obtain ⟨u, rfl, he⟩ := HG.out.fr h
    rw [onQ_in hk]
    exact walksOn_any u av g.f0 g.f1 (autL q) k0 x1 x2 x3 w' he ha hk hg40 (hcs k0 hk)
  obtain ⟨ue, rfl, he⟩ := hg
  obtain ⟨ae, be, oe, ce, rfl, hce, hme, fe⟩ := he.one
  obtain ⟨u1, u2, u3, rfl, r1, r2, r3⟩ := hq
  obtain ⟨ao, bo, oo, co, rfl, hco, hmo, ko⟩ := r1.one
  obtain ⟨ax, bx, ox, cx, rfl, hcx, hmx, kx⟩ := r2.one
  obtain ⟨af, bf, of, cf, rfl, hcf, hmf, kf⟩ := r3.one
  have CI : Hid (∀ (j : Int) w', Calls Tryz.prog 63 #[.agg #[.bool q.f0, .slice ao q.f1.length co, .slice ax q.f2.length cx, .slice af q.f3.length cf], .int .i64 j] w' fun e w'' => e = .returned (.bool (decide (0 ≤ j ∧ j < ((autL q).length : Int)))) ∧ Fr w' w'') := Lib.hid fun j w' => by rw [hal]; exact isAtom_any q.f0 _ _ ax q.f2.length cx j w' ⟨_, _, _, rfl⟩ ⟨_, _, _, rfl⟩
  have HSR := Lib.hid hs
  obtain ⟨asv, bs, os, csv, rfl, hcsv, hmsv, ks⟩ := hs.one
  obtain ⟨al, cl, rfl, hal2⟩ := RdS.val hl
  have KS := Lib.hid ks
  clear he fe r1 r2 r3 ko kx kf hs hl ks hal2 hgb hqb hcs hr hon hB hn hple HG HQ
  obtain ⟨nfs, hnfs⟩ : ∃ nfs, autL q = nfs := ⟨_, rfl⟩
  rw [hnfs] at CA CW CI HR HON HBB hal
  have HAL := Lib.hid hal
  clear hal
  have HNF := Lib.hid hnfs
  clear hnfs
  go_enter Tryz.func35, Tryz.ntmps35
  go_wp2_with fail
  refine (cloneWalk_w _ seen _ (HSR.out.fr (by exact Qf)) hss).mono ?_
  rintro e w1 ⟨a1, c1, rfl, h1, hf1⟩
  have BG1 : Box w1 w.heap.size #[.int .i64 g.f0, .slice ae g.f1.length ce] 55 := Box.fr (Box.alloc (Box.new _ _ _) _) hf1
  have BQ1 : Box w1 (w.heap.size + 1) #[.bool q.f0, .slice ao q.f1.length co, .slice ax q.f2.length cx, .slice af q.f3.length cf] 35 := Box.fr (Box.new' (by simp)) hf1
  have FG1 := BG1.facts
  have FQ1 := BQ1.facts
  have z1 := hf1.size
  (try simp only [World.size_alloc] at z1)
  have HO1 := Lib.hid h1
  clear h1
  go_wp2_with fail
  refine (CG.out _ (by exact Qf)).mono ?_
  rintro e w2 ⟨rfl, hf2⟩
  have BG2 := BG1.fr hf2
  have BQ2 := BQ1.fr hf2
  have FG2 := BG2.facts
  have FQ2 := BQ2.facts
  have z2 := hf2.size
  go_wp2_with fail
  refine (CQ.out _ (by exact Qf)).mono ?_
  rintro e w3 ⟨rfl, hf3⟩
  have BG3 := BG2.fr hf3
  have BQ3 := BQ2.fr hf3
  clear FG1 FQ1 FG2 FQ2
  have FG3 := BG3.facts
  have FQ3 := BQ3.facts
  have z3 := hf3.size
  go_wp2_with fail
  refine (CA.out _ (by exact Qf)).mono ?_
  rintro e wa ⟨aa, ca, rfl, hA, hf4⟩
  have BG4 := BG3.fr hf4
  have BQ4 := BQ3.fr hf4
  clear FG3 FQ3
  have z4 := hf4.size
  have hfa : Fr w wa := by exact Qf
  have HA := Lib.hid hA
  have HO4 := Lib.hid (OwW.fr (OwW.fr (OwW.fr HO1.out hf2) hf3) hf4)
  clear hA HO1 BG1 BQ1 BG2 BQ2 BG3 BQ3 CG CQ CA
  go_wp2_with fail
  have H0 : Hid (TkM w wa ((wa.alloc (.map #[] 0)).alloc (.map #[] 0)) w3.heap.size 0 #[.int .i64 g.f0, .slice ae g.f1.length ce] #[.bool q.f0, .slice ao q.f1.length co, .slice ax q.f2.length cx, .slice af q.f3.length cf] 55 35 [] [] seen [] (.slice none 0 0) (.slice a1 seen.length c1) (.slice none 0 0)) := Lib.hid (by
    refine ⟨⟨World.ownsRow_nil _ _ _ _, owns_lo (owns_fr HO4.out.1 (by exact Qf)) (by simp), World.ownsRow_nil _ _ _ _, fun g h => (by cases h), fun g h => (by cases h), fun g _ h => (by cases h)⟩, Off.none _ _ _ _, fun g h => ?_, Off.none _ _ _ _, ((Ab.refl _ _).alloc _).alloc _, ⟨[], (MapS.new wa).fr (by exact Qf), fun x => Iff.rfl⟩, ⟨[], by have := MapS.new (wa.alloc (.map #[] 0)); simpa using this, fun x => Iff.rfl⟩, (BG4.alloc _).alloc _, (BQ4.alloc _).alloc _, by exact Qf, by omega, z4⟩
    have := (HO4.out.2 g h).2
    left; omega)
  clear HO4 BG4 BQ4
  go_loopw [41] (fun i wr => ∃ kk : Nat, kk ≤ seen.length ∧ i = .int .i64 kk ∧ Hid (TkM w wa wr w3.heap.size kk #[.int .i64 g.f0, .slice ae g.f1.length ce] #[.bool q.f0, .slice ao q.f1.length co, .slice ax q.f2.length cx, .slice af q.f3.length cf] 55 35 (seen.take kk) [] seen [] (.slice none 0 0) (.slice a1 seen.length c1) (.slice none 0 0))) (fun i _ => seen.length - (intOf i).toNat)
  case atStart => exact ⟨0, Nat.zero_le _, rfl, H0⟩
  case round =>
    clear H0
    obtain ⟨kk, hk, rfl, HM⟩ := hrel
    have hfr := HM.out.fr
    by_cases hlt : kk < seen.length
    · obtain ⟨rfl, hb, hf⟩ := KS.out (by omega)
      obtain ⟨g0, g1, g2, g3⟩ := hf kk hlt
      have hmem : ∀ y, y ∈ walkAt seen kk :: seen.take kk ↔ y ∈ seen.take (kk + 1) := fun y => by
        have e : seen.take (kk + 1) = seen.take kk ++ [walkAt seen kk] := by
          rw [List.take_succ_eq_append_getElem hlt]
          simp [walkAt, List.getD, hlt]
        rw [e, List.mem_cons, List.mem_append, List.mem_singleton]
        exact Or.comm
      obtain ⟨x, hx⟩ : ∃ x, walkAt seen kk = x := ⟨_, rfl⟩
      rw [hx] at g0 g1 g2 g3 hmem
      obtain ⟨x0, x1, x2, x3⟩ := x
      simp only [] at g0 g1 g2 g3
      have q0 := (hfr.cell (p := ⟨bs, _, none⟩) hb).trans g0
      have q1 := (hfr.cell (p := ⟨bs, _, none⟩) hb).trans g1
      have q2 := (hfr.cell (p := ⟨bs, _, none⟩) hb).trans g2
      have q3 := (hfr.cell (p := ⟨bs, _, none⟩) hb).trans g3
      have HMEM := Lib.hid hmem
      clear hf g0 g1 g2 g3 hx hmem
      go_wp2_with fail
      refine (meetS_any wa.heap.size kk (seen.take kk) ⟨x0, x1, x2, x3⟩ _ (HM.out.kn.fr (by exact Qf)) (by omega)).mono ?_
      rintro e w5 ⟨rfl, hm, ht⟩
      have HM5 : Hid (TkM w wa w5 w3.heap.size (kk + 1) #[.int .i64 g.f0, .slice ae g.f1.length ce] #[.bool q.f0, .slice ao q.f1.length co, .slice ax q.f2.length cx, .slice af q.f3.length cf] 55 35 (seen.take (kk + 1)) [] seen [] (.slice none 0 0) (.slice a1 seen.length c1) (.slice none 0 0)) := Lib.hid ((HM.out.frs (by exact Qf)).meetK ht _ (hm.cong HMEM.out))
      clear hm ht
      go_wp2_with fail
      go_roundw
      case rel => exact ⟨kk + 1, by omega, by go_num, HM5⟩
      case measure => (simp [intOf]; omega)
    · obtain rfl : kk = seen.length := by omega
      have HM2 : Hid (TkM w wa wr w3.heap.size seen.length #[.int .i64 g.f0, .slice ae g.f1.length ce] #[.bool q.f0, .slice ao q.f1.length co, .slice ax q.f2.length cx, .slice af q.f3.length cf] 55 35 seen [] seen [] (.slice none 0 0) (.slice a1 seen.length c1) (.slice none 0 0)) := Lib.hid (by have := HM.out; rwa [List.take_length] at this)
      clear HM
      have hfr1 : Fr w wr := hfr
      go_wp2_with fail
      refine (cloneWalk_w _ list _ (HL.out.fr (by exact Qf)) hll).mono ?_
      rintro e w6 ⟨a6, c6, rfl, h6, hf6⟩
      have HM6 := Lib.hid (HM2.out.setT hf6 h6)
      have HI : Hid (TkI (potW list) seen 960 list.length list 0 seen []) := Lib.hid (TkI.start list fun x hx => List.mem_append.2 (.inl hx))
      clear h6 hf6 HM2 hfr hfr1
      go_wp2_with fail
      go_loopw [14, 20, 21, 22] (fun o u t i wr => ∃ (j ct cO cu : Nat) (at_ ao' au : Option Addr) (T O U : List WalkR), i = .int .i64 j ∧ t = .slice at_ T.length ct ∧ o = .slice ao' O.length cO ∧ u = .slice au U.length cu ∧ Hid (TkI (potW list) seen 960 list.length T j O U) ∧ Hid (Tk (ownW k n) (onQ g.f1 nfs) (T.drop j) O U r) ∧ Hid (TkM w wa wr w3.heap.size (seen.length + j) #[.int .i64 g.f0, .slice ae g.f1.length ce] #[.bool q.f0, .slice ao q.f1.length co, .slice ax q.f2.length cx, .slice af q.f3.length cf] 55 35 O T O U (.slice at_ T.length ct) (.slice ao' O.length cO) (.slice au U.length cu))) (fun o _ t i _ => (seen.length + pl - lenV o) * 961 + (lenV t - (intOf i).toNat))
      case atStart => exact ⟨0, c6, c1, 0, a6, a1, none, list, seen, [], rfl, rfl, rfl, rfl, HI, Lib.hid (by rw [List.drop_zero]; exact HR.out), HM6⟩
      case round =>
        clear HI HM6 hk hlt
        obtain ⟨j, ct, cO, cu, at_, ao', au, T, O, U, rfl, rfl, rfl, rfl, HI, HT, HM⟩ := hrel
        have hfr := HM.out.fr
        have FG := HM.out.bg.facts
        have FQ := HM.out.bq.facts
        have zr := hfr.size
        have hjT := HI.out.hi
        have hTl := HI.out.todoLen
        have hOl := HI.out.outLen
        have hUl := HI.out.toldLen
        rw [HPL.out] at hTl hOl hUl
        by_cases hlt : j < T.length
        · obtain ⟨ao2, bT, oT, cT, heT, _, _, hfT⟩ := (WalksO.rd HM.out.row.rt).one
          cases heT
          obtain ⟨rfl, hbT, hcT⟩ := hfT (by omega)
          obtain ⟨q0, q1, q2, q3⟩ := hcT j hlt
          have hd := walk_dropAt hlt
          obtain ⟨x, hx⟩ : ∃ x, walkAt T j = x := ⟨_, rfl⟩
          rw [hx] at q0 q1 q2 q3 hd
          have HD := Lib.hid hd
          have HX := Lib.hid hx
          obtain ⟨x0, x1, x2, x3⟩ := x
          simp only [] at q0 q1 q2 q3
          clear hcT hfT hd hx
          go_wp2_with fail
          refine (implOwnerOf_any _ _ _).mono ?_
          rintro e w7 ⟨rfl, hf7⟩
          have BW7 : Box w7 wr.heap.size #[.int .i64 x0, .int .i64 x1, .int .i64 x2, .int .i64 x3] 57 := (Box.new _ _ _).fr hf7
          have HM7 := Lib.hid (HM.out.frs (show Fr wr w7 by exact Qf))
          have FW7 := BW7.facts
          have FG7 := HM7.out.bg.facts
          have FQ7 := HM7.out.bq.facts
          have z7 := hf7.size
          (try simp only [World.size_alloc] at z7)
          have hszr := HM.out.size
          have HR0 := Lib.hid HM.out.row.ro
          clear q0 q1 q2 q3 HM FG FQ
          by_cases how : owR x2 n = k
          · have qo : (owR x2 n != k) = false := by simpa using how
            have HOW : Hid (ownW k n ⟨x0, x1, x2, x3⟩ = true) := Lib.hid (by unfold ownW; simpa using how)
            clear how
            go_wp2_with fail
            refine (meetS_any wa.heap.size (seen.length + j) O ⟨x0, x1, x2, x3⟩ _ (HM7.out.kn.fr (by exact Qf)) (by omega)).mono ?_
            rintro e w8 ⟨rfl, hm, ht⟩
            have BW8 := Tch.box ht BW7 (by omega)
            have z8 := ht.size
            cases hin : inW O ⟨x0, x1, x2, x3⟩
            · have HM8 := Lib.hid (HM7.out.meetK ht (O ++ [⟨x0, x1, x2, x3⟩]) (hm.cong fun y => by rw [List.mem_cons, List.mem_append, List.mem_singleton]; exact Or.comm))
              have HIN := Lib.hid (HI.out.new hlt (by rw [HX.out]; exact hin) HON.out HBB.out)
              have HTN := Lib.hid (by have := HT.out; rw [HD.out] at this; exact this.new_inv HOW.out hin)
              rw [HX.out] at HIN
              have hol3 := HIN.out.outLen
              have hbb := HBB.out _ (HI.out.sub _ (walkAt_mem hlt))
              rw [HX.out] at hbb
              rw [HPL.out, List.length_append, List.length_singleton] at hol3
              have hdr : Hid ((T ++ onQ g.f1 nfs ⟨x0, x1, x2, x3⟩).drop (j + 1) = T.drop (j + 1) ++ onQ g.f1 nfs ⟨x0, x1, x2, x3⟩) := Lib.hid (List.drop_append_of_le_length hlt)
              rw [← hdr.out] at HTN
              have HLN := Lib.hid (show (O ++ [(⟨x0, x1, x2, x3⟩ : WalkR)]).length = O.length + 1 by simp)
              have HCA := Lib.hid (wlk_snoc O ⟨x0, x1, x2, x3⟩)
              have FW8 := BW8.facts
              have FG8 := HM8.out.bg.facts
              have FQ8 := HM8.out.bq.facts
              have hor : ∀ g, (Value.slice ao' O.length cO).ownBlock = some g → g ≠ wr.heap.size := fun g hg => by have := (HR0.out.lt g hg).2; omega
              clear hin HI HT hm ht BW7 HM7 FW7 FG7 FQ7
              go_wp2_with (at_builtin; refine wpList_append_rd rfl _ _ 37 rfl (w.heap.size + 1 + 1) 57 i0 (.agg #[.int .i64 0, .int .i64 0, .int .i64 0, .int .i64 0]) 4 32 Tryz.underlying37 hi hz0 hz1 hz2 rfl (by decide) (.slice ao' O.length cO) O.length (O.flatMap WalkR.cells) rfl (World.ownsRow.alloc HM8.out.row.ro _) _ 1 [.int .i64 x0, .int .i64 x1, .int .i64 x2, .int .i64 x3] rfl (RdS.new (by first | rfl | (simp; done)) rfl) (by simp [Value.oneCell']) (by unfold maxLen; omega) (by omega) (by exact Qz) ?_; intro a9 c9 w9 hown9 hgrow9 hat9; have HM9 := Lib.hid ((HM8.out.frs (show Fr w8 _ by exact Qf)).addO (v' := .slice a9 (O.length + 1) c9) (R := [⟨x0, x1, x2, x3⟩]) (by unfold WalksO; rw [HCA.out, HLN.out]; exact hown9) hgrow9 hat9); have BW9 := Box.gr (Box.alloc BW8 _) hgrow9 (fun e => hor _ e rfl); have FW9 := BW9.facts; have FG9 := HM9.out.bg.facts; have FQ9 := HM9.out.bq.facts)
              clear hown9 hgrow9 hat9 HM8 FW8 FG8 FQ8 BW8 hor
              refine (CI.out x0 _).mono ?_
              rintro e w10 ⟨rfl, hf10⟩
              have HM10 := Lib.hid (HM9.out.frs hf10)
              have BW10 := BW9.fr hf10
              clear HM9 BW9 FW9 FG9 FQ9
              have FW10 := BW10.facts
              have FG10 := HM10.out.bg.facts
              have hfr10 := HM10.out.fr
              obtain ⟨ia, hia⟩ : ∃ ia, decide (0 ≤ x0 ∧ x0 < (nfs.length : Int)) = ia := ⟨_, rfl⟩
              rw [hia]
              cases ia
              · have h0 := onQ_no (es := g.f1) (x := ⟨x0, x1, x2, x3⟩) hia
                rw [h0, List.append_nil] at HIN HTN
                have HM10 : Hid (TkM w wa w10 w3.heap.size (seen.length + (j + 1)) #[.int .i64 g.f0, .slice ae g.f1.length ce] #[.bool q.f0, .slice ao q.f1.length co, .slice ax q.f2.length cx, .slice af q.f3.length cf] 55 35 (O ++ [⟨x0, x1, x2, x3⟩]) T (O ++ [⟨x0, x1, x2, x3⟩]) U (.slice (some ⟨bT, oT, none⟩) T.length ct) (.slice a9 (O ++ [(⟨x0, x1, x2, x3⟩ : WalkR)]).length c9) (.slice au U.length cu)) := Lib.hid (by rw [HLN.out]; exact HM10.out)
                clear hia h0 hdr hbb
                go_wp2_with fail
                go_roundw
                case rel => exact ⟨j + 1, ct, c9, cu, some ⟨bT, oT, none⟩, a9, au, T, O ++ [⟨x0, x1, x2, x3⟩], U, by go_num, rfl, by rw [HLN.out], rfl, HIN, HTN, HM10⟩
                case measure => simp [lenV, intOf]; omega
              · obtain ⟨hx0, hx1⟩ := of_decide_eq_true hia
                obtain ⟨k0, rfl⟩ := Int.eq_ofNat_of_zero_le hx0
                have hk0 : k0 < nfs.length := by omega
                have CX := CW.out (.slice aa nfs.length ca) k0 x1 x2 x3 _ hfr10 (NfasW.rd (NfasW.ab HA.out HM10.out.ab)) hk0
                obtain ⟨R, hR⟩ : ∃ R, onQ g.f1 nfs ⟨(k0 : Int), x1, x2, x3⟩ = R := ⟨_, rfl⟩
                rw [hR] at HIN HTN hbb CX
                have CX := Lib.hid CX
                clear hia hx0 hx1 hR hdr
                go_wp2_with fail
                refine CX.out.mono ?_
                rintro e w11 ⟨a11, c11, rfl, h11, hf11⟩
                have HM11 := Lib.hid (HM10.out.frs hf11)
                have HR11 := Lib.hid (WalksW.rd h11)
                have HLT := Lib.hid (show (T ++ R).length = T.length + R.length by simp)
                have hsz11 := HM11.out.size
                have hz11 := HM11.out.fr.size
                have hz12 := HM11.out.h1
                have hz13 := HM11.out.ha
                clear h11 HM10 BW10 FW10 FG10 hf10 hf11 hfr10 CX
                go_wp2_with (at_builtin; refine wpList_append_rd rfl _ _ 37 rfl (w.heap.size + 1 + 1) 57 i0 (.agg #[.int .i64 0, .int .i64 0, .int .i64 0, .int .i64 0]) 4 32 Tryz.underlying37 hi hz0 hz1 hz2 rfl (by decide) (.slice (some ⟨bT, oT, none⟩) T.length ct) T.length (T.flatMap WalkR.cells) rfl HM11.out.row.rt _ R.length (R.flatMap WalkR.cells) rfl HR11.out (walk_oneCells R) (by unfold maxLen; omega) (by omega) (by omega) ?_; intro a12 c12 w12 hown12 hgrow12 hat12)
                have HM12 : Hid (TkM w wa w12 w3.heap.size (seen.length + (j + 1)) #[.int .i64 g.f0, .slice ae g.f1.length ce] #[.bool q.f0, .slice ao q.f1.length co, .slice ax q.f2.length cx, .slice af q.f3.length cf] 55 35 (O ++ [⟨k0, x1, x2, x3⟩]) (T ++ R) (O ++ [⟨k0, x1, x2, x3⟩]) U (.slice a12 (T ++ R).length c12) (.slice a9 (O ++ [(⟨k0, x1, x2, x3⟩ : WalkR)]).length c9) (.slice au U.length cu)) := Lib.hid (by
                  rw [HLN.out, HLT.out]
                  exact HM11.out.addT (v' := .slice a12 (T.length + R.length) c12) (R := R) (by unfold WalksO; rw [HLT.out, List.flatMap_append]; exact hown12) hgrow12 hat12)
                clear hown12 hgrow12 hat12 HM11
                go_wp2_with fail
                go_roundw
                case rel => exact ⟨j + 1, c12, c9, cu, a12, a9, au, T ++ R, O ++ [⟨k0, x1, x2, x3⟩], U, by go_num, by rw [HLT.out], by rw [HLN.out], rfl, HIN, HTN, HM12⟩
                case measure => simp [lenV, intOf]; omega
            · have HM8 := Lib.hid (HM7.out.meetK ht O (hm.cong fun y => by rw [List.mem_cons]; exact ⟨fun h => h.elim (fun e => e ▸ inW_iff.1 hin) id, .inr⟩))
              have HT4 := Lib.hid (by have := HT.out; rw [HD.out] at this; exact this.known_inv HOW.out hin)
              have HI4 := Lib.hid (HI.out.next hlt)
              have HM8 : Hid (TkM w wa w8 w3.heap.size (seen.length + (j + 1)) #[.int .i64 g.f0, .slice ae g.f1.length ce] #[.bool q.f0, .slice ao q.f1.length co, .slice ax q.f2.length cx, .slice af q.f3.length cf] 55 35 O T O U (.slice (some ⟨bT, oT, none⟩) T.length ct) (.slice ao' O.length cO) (.slice au U.length cu)) := HM8
              clear hin hm ht
              go_wp2_with fail
              go_roundw
              case rel => exact ⟨j + 1, ct, cO, cu, some ⟨bT, oT, none⟩, ao', au, T, O, U, by go_num, rfl, rfl, rfl, HI4, HT4, HM8⟩
              case measure => simp [lenV, intOf]; omega
          · have qo : (owR x2 n != k) = true := by simpa using how
            have HOW : Hid (ownW k n ⟨x0, x1, x2, x3⟩ = false) := Lib.hid (by unfold ownW; simpa using how)
            clear how
            go_wp2_with fail
            refine (meetS_any (wa.heap.size + 1) (seen.length + j) U ⟨x0, x1, x2, x3⟩ _ (HM7.out.ma.fr (by exact Qf)) (by omega)).mono ?_
            rintro e w8 ⟨rfl, hm, ht⟩
            have BW8 := Tch.box ht BW7 (by omega)
            have z8 := ht.size
            cases hin : inW U ⟨x0, x1, x2, x3⟩
            · have HIN := Lib.hid (HI.out.tell hlt (by rw [HX.out]; exact hin))
              have HTN := Lib.hid (by have := HT.out; rw [HD.out] at this; exact this.tell_inv HOW.out hin)
              rw [HX.out] at HIN
              have HP8 := Lib.hid (HM7.out.meetA ht)
              have HMA := Lib.hid (hm.cong (K' := U ++ [⟨x0, x1, x2, x3⟩]) fun y => by rw [List.mem_cons, List.mem_append, List.mem_singleton]; exact Or.comm)
              have HLN := Lib.hid (show (U ++ [(⟨x0, x1, x2, x3⟩ : WalkR)]).length = U.length + 1 by simp)
              have HCA := Lib.hid (wlk_snoc U ⟨x0, x1, x2, x3⟩)
              have HOF := Lib.hid (And.intro HM7.out.ot (And.intro HM7.out.oo (And.intro HM7.out.ou (And.intro HM7.out.h1 HM7.out.ha))))
              have FW8 := BW8.facts
              clear hin HI HT hm ht BW7 HM7 FW7 FG7 FQ7
              go_wp2_with (at_builtin; refine wpList_append_rd rfl _ _ 37 rfl (w.heap.size + 1 + 1) 57 i0 (.agg #[.int .i64 0, .int .i64 0, .int .i64 0, .int .i64 0]) 4 32 Tryz.underlying37 hi hz0 hz1 hz2 rfl (by decide) (.slice au U.length cu) U.length (U.flatMap WalkR.cells) rfl (World.ownsRow.alloc HP8.out.1.ru _) _ 1 [.int .i64 x0, .int .i64 x1, .int .i64 x2, .int .i64 x3] rfl (RdS.new (by first | rfl | (simp; done)) rfl) (by simp [Value.oneCell']) (by unfold maxLen; omega) (by omega) (by exact Qz) ?_; intro a9 c9 w9 hown9 hgrow9 hat9)
              have HM9 : Hid (TkM w wa w9 w3.heap.size (seen.length + (j + 1)) #[.int .i64 g.f0, .slice ae g.f1.length ce] #[.bool q.f0, .slice ao q.f1.length co, .slice ax q.f2.length cx, .slice af q.f3.length cf] 55 35 O T O (U ++ [⟨x0, x1, x2, x3⟩]) (.slice (some ⟨bT, oT, none⟩) T.length ct) (.slice ao' O.length cO) (.slice a9 (U ++ [(⟨x0, x1, x2, x3⟩ : WalkR)]).length c9)) := Lib.hid (by
                obtain ⟨p1, p2, p3, p4, p5⟩ := HOF.out
                obtain ⟨s1, s2, s3, s4, s5, s6⟩ := HP8.out
                rw [HLN.out]
                exact TkM.addU (wr := w8.alloc (.cells #[.int .i64 x0, .int .i64 x1, .int .i64 x2, .int .i64 x3] 57)) ⟨s1.fr (by exact Qf), s2.alloc _, s3.fr (by exact Qf), s4.alloc _, s5.alloc _, by exact Qf⟩ p1 p2 p3 p4 p5 (HMA.out.fr (by exact Qf)) (v' := .slice a9 (U.length + 1) c9) (by unfold WalksO; rw [HCA.out, HLN.out]; exact hown9) hgrow9 hat9)
              clear hown9 hgrow9 hat9 HP8 BW8 FW8
              go_wp2_with fail
              go_roundw
              case rel => exact ⟨j + 1, ct, cO, c9, some ⟨bT, oT, none⟩, ao', a9, T, O, U ++ [⟨x0, x1, x2, x3⟩], by go_num, rfl, rfl, by rw [HLN.out], HIN, HTN, HM9⟩
              case measure => simp [lenV, intOf]; omega
            · have HM8 : Hid (TkM w wa w8 w3.heap.size (seen.length + (j + 1)) #[.int .i64 g.f0, .slice ae g.f1.length ce] #[.bool q.f0, .slice ao q.f1.length co, .slice ax q.f2.length cx, .slice af q.f3.length cf] 55 35 O T O U (.slice (some ⟨bT, oT, none⟩) T.length ct) (.slice ao' O.length cO) (.slice au U.length cu)) := Lib.hid (HM7.out.farA ht (hm.cong fun y => by rw [List.mem_cons]; exact ⟨fun h => h.elim (fun e => e ▸ inW_iff.1 hin) id, .inr⟩))
              have HT4 := Lib.hid (by have := HT.out; rw [HD.out] at this; exact this.far_inv HOW.out hin)
              have HI4 := Lib.hid (HI.out.next hlt)
              clear hin hm ht
              go_wp2_with fail
              go_roundw
              case rel => exact ⟨j + 1, ct, cO, cu, some ⟨bT, oT, none⟩, ao', au, T, O, U, by go_num, rfl, rfl, rfl, HI4, HT4, HM8⟩
              case measure => simp [lenV, intOf]; omega
        · have hje : j = T.length := by omega
          have HRE : Hid (r = (O, U)) := Lib.hid (by have := HT.out; rw [hje, List.drop_length] at this; exact this.nil_inv)
          clear hje
          go_wp2_with fail
          go_ret2
          have := TkPost.mk' (w := w) (r := (O, U)) (owns_lo HM.out.row.ro (by omega)) (owns_lo HM.out.row.ru (by omega)) HM.out.row.aou hfr
          rw [HRE.out]
          exact this
end Go.Proofs.YtmdgdnkllclpcaaGreat
