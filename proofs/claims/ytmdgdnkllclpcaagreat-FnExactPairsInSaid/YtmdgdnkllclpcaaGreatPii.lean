/- PairsIn of the program. Conditions: bounds on what comes in. -/
import Derived.Test.YtmdgdnkllclpcaaGreatPis
import Derived.Test.YtmdgdnkllclpcaaGreatPso
import Derived.Test.YtmdgdnkllclpcaaGreatCpf
import Derived.Test.YtmdgdnkllclpcaaGreatIsa
import Derived.Shelf.SlSortCmp.NoneTotal
namespace Go.Proofs.YtmdgdnkllclpcaaGreat
open Go.RowKit
set_option linter.unusedVariables false
set_option linter.unusedSimpArgs false
/-- Pairs laid one behind the other, each in a block of its own. -/
structure PrG (w : World) (lo : Nat) (v : Value) (L : List BI) : Prop where
  own : w.ownsRow lo 86 1 v L.length (L.map BI.v)
  els : ∀ x ∈ L, x.own lo w
  dif : (L.map BI.g).Nodup
  off : ∀ x ∈ L, v.ownBlock ≠ some x.g
  nil0 : L.length = 0 → v = .slice none 0 0
  two : ∀ x ∈ L, x.r.length = 2
theorem PrG.nil (w : World) (lo : Nat) : PrG w lo (.slice none 0 0) [] := ⟨World.ownsRow_nil _ _ _ _, fun x hx => (by cases hx), List.nodup_nil, fun x hx => (by cases hx), fun _ => rfl, fun x hx => (by cases hx)⟩
theorem PrG.fr {w w' : World} {lo : Nat} {v : Value} {L : List BI} (h : PrG w lo v L) (hf : Fr w w') : PrG w' lo v L := ⟨owns_fr h.own hf, fun x hx => (h.els x hx).fr hf, h.dif, h.off, h.nil0, h.two⟩
theorem BI.own.tch {x : BI} {lo : Nat} {w w' : World} {D : Nat → Prop} (h : x.own lo w) (t : Tch D w w') (hd : ¬ D x.g) : x.own lo w' :=
  ⟨t.owns h.1 (fun g hg => by have : x.g = g := by simpa [BI.v, Value.ownBlock] using hg
                              rw [← this]; exact hd), fun g hg => by have := h.2 g hg; have := t.size; omega⟩
theorem PrG.app {w w5 : World} {lo : Nat} {v v5 : Value} {L : List BI} {n : BI} (h : PrG w lo v L) (hn : n.own lo w) (hl : ∀ x ∈ L, x.g ≠ n.g) (hv : v.ownBlock ≠ some n.g) (h2 : n.r.length = 2) (hown : w5.ownsRow lo 86 1 v5 (L.length + 1) (L.map BI.v ++ [n.v])) (hg : w.grownBy w5 v.ownBlock) (hat : v5.ownBlock = v.ownBlock ∨ v5.ownBlock = some w.heap.size) : PrG w5 lo v5 (L ++ [n]) := by
  have t : Tch (fun g => v.ownBlock = some g) w w5 := Tch.of_gr hg fun i hi => hi
  refine ⟨by simpa using hown, fun x hx => ?_, ?_, fun x hx => ?_, fun h0 => by simp at h0, fun x hx => ?_⟩
  · rcases List.mem_append.1 hx with hx | hx
    · exact (h.els x hx).tch t (h.off x hx)
    · rw [List.mem_singleton] at hx; subst hx; exact hn.tch t hv
  · rw [List.map_append, List.nodup_append]
    refine ⟨h.dif, by simp, fun a ha b hb => ?_⟩
    obtain ⟨y, hy, rfl⟩ := List.mem_map.1 ha
    simp at hb
    subst hb
    exact hl y hy
  · have hlt : x.g < w.heap.size := by
      rcases List.mem_append.1 hx with hx | hx
      · exact (h.els x hx).lt.2
      · rw [List.mem_singleton] at hx; subst hx; exact hn.lt.2
    have hne : v.ownBlock ≠ some x.g := by
      rcases List.mem_append.1 hx with hx | hx
      · exact h.off x hx
      · rw [List.mem_singleton] at hx; subst hx; exact hv
    intro e
    rcases hat with p | p
    · rw [p] at e; exact hne e
    · rw [p] at e; injection e with e; omega
  · rcases List.mem_append.1 hx with hx | hx
    · exact h.two x hx
    · rw [List.mem_singleton] at hx; subst hx; exact h2
theorem BI.own2 {w : World} {b lo : Nat} {x y : Int} (hb : b = w.heap.size) (hl : lo ≤ b) : (⟨b, 2, [x, y], 0⟩ : BI).own lo (w.alloc (.cells #[.int .i64 x, .int .i64 y] 3)) := by
  refine ⟨⟨rfl, .inr ⟨b, 2, #[.int .i64 x, .int .i64 y], rfl, hl, ?_, Nat.le_refl _, by unfold maxLen; omega, rfl, rfl⟩⟩, fun g hg => ?_⟩
  · exact Box.new' hb
  · have : b = g := by simpa [BI.v, Value.ownBlock] using hg
    subst this
    exact ⟨hl, by rw [hb]; simp⟩
theorem clip_any (b n cap : Nat) (w : World) (hn : 0 < n) (hc : n ≤ cap) (hm : cap ≤ 9223372036854775807) :
    Calls Tryz.prog 68 #[.slice (some ⟨b, 0, none⟩) n cap] w fun e w' => e = .returned (.slice (some ⟨b, 0, none⟩) n n) ∧ Fr w w' := by
  have h1 : (n : Int) ≤ (cap : Int) := by omega
  have h2 : ¬ n = 0 := by omega
  go_enter Tryz.func68, Tryz.ntmps68
  go_wp2
  go_ret
  exact ⟨rfl, by exact Qf⟩
theorem clip_none (w : World) :
    Calls Tryz.prog 68 #[.slice none 0 0] w fun e w' => e = .returned (.slice none 0 0) ∧ Fr w w' := by
  go_enter Tryz.func68, Tryz.ntmps68
  go_wp2
  go_ret
  exact ⟨rfl, by exact Qf⟩
theorem compact_none (w : World) :
    Calls Tryz.prog 69 #[.slice none 0 0, .func (.func 70) #[] #[]] w fun e w' => e = .returned (.slice none 0 0) ∧ Fr w w' := by
  go_enter Tryz.func69, Tryz.ntmps69
  go_wp2
  go_ret
  exact ⟨rfl, by exact Qf⟩
theorem sortRows_none (w : World) (f : Value) :
    Calls Tryz.prog 65 #[.slice none 0 0, f] w fun e w' => e = .returned (.tuple #[]) ∧ w' = w :=
  AnyF.slices_SortFunc_none { sh_sortRow with } none 0 f w
/-- What is left behind sorting, telling once and clipping. -/
theorem PrG.told {wE w5 w6 w7 : World} {lo B cap : Nat} {L M C : List BI} (h : PrG wE lo (.slice (some ⟨B, 0, none⟩) L.length cap) L) (hp : M.Perm L) (g5 : wE.grownBy w5 (some B)) (g6 : w5.grownBy w6 (some B)) (hf : Fr w6 w7) (hK : Kept C M) (hc : ∀ j, j < C.length → w6.cell? ⟨B, j, none⟩ = some (biAt C j).v) (hcl : C.length ≤ maxLen) (hlo : lo ≤ B) (hB : B < wE.heap.size) :
    IntSSV w7 lo w7.heap.size (.slice (some ⟨B, 0, none⟩) C.length C.length) (C.map BI.r) := by
  have g56 := gr_trans g5 g6
  have t : Tch (fun g => some B = some g) wE w6 := Tch.of_gr g56 fun i hi => hi
  have hCL : ∀ x ∈ C, x ∈ L := fun x hx => hp.subset (hK.sub x hx)
  have hsz := g56.size
  have hsz7 := hf.size
  have hels : ∀ x ∈ C, x.own lo w7 := fun x hx => ((h.els x (hCL x hx)).tch t (h.off x (hCL x hx))).fr hf
  have hoff : ∀ x ∈ C, (some B : Option Nat) ≠ some x.g := fun x hx => h.off x (hCL x hx)
  have hnd : (C.map BI.g).Nodup := hK.nod ((hp.map BI.g).nodup_iff.2 h.dif)
  have hcell : ∀ j, j < C.length → w7.cell? ⟨B, j, none⟩ = some (biAt C j).v := fun j hj => (hf.cell (p := ⟨B, j, none⟩) (by show B < w6.heap.size; omega)).trans (hc j hj)
  refine ⟨C.map BI.v, by simp, ⟨?_, fun g hg => ?_, fun _ => ⟨B, C.length, by simp, by omega⟩⟩, fun k u x hu hx => ?_, fun j k u u' hjk hu hu' g hg hg' => ?_⟩
  · refine ⟨by simp, some ⟨B, 0, none⟩, C.length, by simp, by simp, hcl, fun _ => ⟨B, 0, rfl, by omega, fun j hj => ?_⟩⟩
    rw [List.length_map, Nat.mul_one] at hj
    rw [Nat.zero_add, hcell j hj, bi_get hj]
  · have : B = g := by simpa [Value.ownBlock] using hg
    omega
  · rw [List.getElem?_map] at hu hx
    cases hk : C[k]? with
    | none => rw [hk] at hu; cases hu
    | some y =>
      rw [hk] at hu hx
      cases hu; cases hx
      have hy := List.mem_of_getElem? hk
      refine ⟨hels y hy, fun g hg e => ?_⟩
      have e1 : y.g = g := by unfold BI.v at hg; simpa [Value.ownBlock] using hg
      have e2 : B = g := by simpa [Value.ownBlock] using e
      exact hoff y hy (by rw [e1, e2])
  · rw [List.getElem?_map] at hu hu'
    cases hj : C[j]? with
    | none => rw [hj] at hu; cases hu
    | some y =>
      cases hk : C[k]? with
      | none => rw [hk] at hu'; cases hu'
      | some z =>
        rw [hj] at hu; rw [hk] at hu'
        cases hu; cases hu'
        have e1 : y.g = g := by unfold BI.v at hg; simpa [Value.ownBlock] using hg
        have e2 : z.g = g := by unfold BI.v at hg'; simpa [Value.ownBlock] using hg'
        have hj' : (C.map BI.g)[j]? = some g := by rw [List.getElem?_map, hj]; simp [e1]
        have hk' : (C.map BI.g)[k]? = some g := by rw [List.getElem?_map, hk]; simp [e2]
        obtain ⟨a1, b1⟩ := List.getElem?_eq_some_iff.1 hj'
        obtain ⟨a2, b2⟩ := List.getElem?_eq_some_iff.1 hk'
        rcases Nat.lt_or_gt_of_ne hjk with k1 | k1
        · exact List.pairwise_iff_getElem.1 hnd j k a1 a2 k1 (by rw [b1, b2])
        · exact List.pairwise_iff_getElem.1 hnd k j a2 a1 k1 (by rw [b1, b2])
set_option maxHeartbeats 8000000 in
set_option maxRecDepth 100000 in
theorem implPairsIn_any (qv sv : Value) (q : QueryD) (seen : List WalkR) (a : Int) (w : World) (hq : QueryRd w qv q) (hs : WalksR w sv seen) (hn : q.bulk ≤ 1048576) (hss : seen.length ≤ 1048576) :
    Calls Tryz.prog 16 #[qv, sv, .int .i64 a] w fun e w' => PinPost w (pinL q seen a) e w' := by
  obtain ⟨k0, ki, kz0, kz1, kz2⟩ := info_parts info_ints
  obtain ⟨qb, hqb⟩ : ∃ qb, qryD q = qb := ⟨_, rfl⟩
  obtain ⟨ab, hab⟩ : ∃ ab, decide (0 ≤ a ∧ a < (q.f2.length : Int)) = ab := ⟨_, rfl⟩
  have HQ := Lib.hid hq
  have CQ : Hid (∀ w', Fr w w' → Calls Tryz.prog 62 #[qv] w' fun e w'' => e = .returned (.bool qb) ∧ Fr w' w'') := Lib.hid fun w' h => by rw [← hqb]; exact implQueryOk_d qv q w' (HQ.out.fr h) hn
  have CA : Hid (qb = true → ∀ w', Fr w w' → Calls Tryz.prog 64 #[qv] w' fun e w'' => ∃ ao cap, e = .returned (.slice ao (autL q).length cap) ∧ NfasW w'' w'.heap.size w''.heap.size (.slice ao (autL q).length cap) (autL q) ∧ Fr w' w'') := Lib.hid fun h2 w' h => by
    have hx4 : q.f2.length ≤ 4 := (qryB_atoms (hqb.trans h2)).1.2
    obtain ⟨u1, u2, u3, rfl, r1, r2, r3⟩ := HQ.out.fr h
    obtain ⟨a1, c1, rfl, _⟩ := RdS.val r1
    obtain ⟨a3, c3, rfl, _⟩ := RdS.val r3
    exact automataOf_any q.f0 _ u2 _ q.f2 w' ⟨_, _, _, rfl⟩ ⟨_, _, _, rfl⟩ r2 (by omega) (fun k hk => (atoms_sz hn k hk).2.1)
  obtain ⟨r, hr⟩ : ∃ r, pinL q seen a = r := ⟨_, rfl⟩
  have HNO : Hid (¬ (qb = true ∧ ab = true) → r = []) := Lib.hid fun h => by
    rw [← hr]
    refine pinL_no fun ⟨h1, h2⟩ => h ⟨by rw [← hqb]; exact h1, ?_⟩
    rw [← hab]; exact decide_eq_true h2
  have HYES : Hid (qb = true → ab = true → r = sdL (pinR a (nAt (autL q) a.toNat) seen)) := Lib.hid fun h1 h2 => by
    rw [← hr]
    exact if_pos ⟨hqb.trans h1, of_decide_eq_true (hab.trans h2)⟩
  have HAB : Hid (ab = true → 0 ≤ a ∧ a < (q.f2.length : Int)) := Lib.hid fun h => of_decide_eq_true (hab.trans h)
  rw [hr]
  obtain ⟨u1, u2, u3, rfl, r1, r2, r3⟩ := hq; obtain ⟨ao, bo, oo, co, rfl, hco, hmo, ko⟩ := r1.one; obtain ⟨ax, bx, ox, cx, rfl, hcx, hmx, kx⟩ := r2.one; obtain ⟨af, bf, of, cf, rfl, hcf, hmf, kf⟩ := r3.one
  obtain ⟨asv, bs, os, csv, rfl, hcsv, hmsv, ks⟩ := hs.one
  have KS := Lib.hid ks
  have CI : Hid (∀ w', Calls Tryz.prog 63 #[.agg #[.bool q.f0, .slice ao q.f1.length co, .slice ax q.f2.length cx, .slice af q.f3.length cf], .int .i64 a] w' fun e w'' => e = .returned (.bool ab) ∧ Fr w' w'') := Lib.hid fun w' => by
    rw [← hab]
    exact isAtom_any q.f0 _ _ ax q.f2.length cx a w' ⟨_, _, _, rfl⟩ ⟨_, _, _, rfl⟩
  have hal : (autL q).length = q.f2.length := autL_len q
  have HAL := Lib.hid hal
  clear r1 r2 r3 ko kx kf hqb hab HQ hn hr hs ks hal
  go_enter Tryz.func16, Tryz.ntmps16
  go_wp2_with fail
  refine (CQ.out _ (by exact Qf)).mono ?_
  rintro e w1 ⟨rfl, hf1⟩
  have B1 : Box w1 w.heap.size #[.bool q.f0, .slice ao q.f1.length co, .slice ax q.f2.length cx, .slice af q.f3.length cf] 35 := Box.fr (Box.new _ _ _) hf1
  have F1 := B1.facts
  have z1 := hf1.size
  (try simp only [World.size_alloc] at z1)
  clear CQ
  cases qb
  · have HR := Lib.hid (HNO.out (by simp))
    go_wp2_with fail
    go_ret
    rw [HR.out]
    exact ⟨none, 0, rfl, IntSSV.nil _ _ _, by exact Qf⟩
  go_wp2_with fail
  refine (CI.out _).mono ?_
  rintro e w3 ⟨rfl, hf3⟩
  have B3 := B1.fr hf3
  have F3 := B3.facts
  have z3 := hf3.size
  clear F1 B1
  cases ab
  · have HR := Lib.hid (HNO.out (by simp))
    go_wp2_with fail
    go_ret
    rw [HR.out]
    exact ⟨none, 0, rfl, IntSSV.nil _ _ _, by exact Qf⟩
  have HRR := Lib.hid (HYES.out (by first | rfl | trivial) (by first | rfl | trivial))
  obtain ⟨ha0, ha1⟩ := HAB.out (by first | rfl | trivial)
  clear HNO HYES HAB CI
  obtain ⟨j0, rfl⟩ := Int.eq_ofNat_of_zero_le ha0
  have hj0 : j0 < q.f2.length := by omega
  go_wp2_with fail
  refine (CA.out (by first | rfl | trivial) _ (by exact Qf)).mono ?_
  rintro e wA ⟨aa, ca, rfl, hA, hfA⟩
  have zA := hfA.size
  have hfwA : Fr w wA := by exact Qf
  have hjA : j0 < (autL q).length := by rw [HAL.out]; exact hj0
  obtain ⟨ga, cga, hv, hg1, hg2, hg3, u, l1, hh1, hu, ⟨ua, ue, rfl, hua, hue⟩, hl1, hk1, _, hc, _⟩ := NestW.turn (E := NfaEW) (fun a b c => NfaEW.span a b c) hA hjA (by omega)
  cases hv
  have q0 := (hc 0 _ (by omega) rfl).1
  have q1 := (hc 1 _ (by omega) rfl).1
  have q2 := (hc 2 _ (by omega) rfl).1
  simp only [Nat.add_zero] at q0
  have hen : (nAt (autL q) j0).f0 = ((nAt (autL q) j0).f2.length : Int) := by
    unfold autL
    rw [autK_at q.f2 hj0]
    exact nfaT_ends _
  have HRR : Hid (r = sdL (pinR (j0 : Int) (nAt (autL q) j0) seen)) := Lib.hid (by have := HRR.out; simpa using this)
  obtain ⟨d, hd⟩ : ∃ d, nAt (autL q) j0 = d := ⟨_, rfl⟩
  rw [hd] at hua hue q0 hen HRR
  obtain ⟨d0, d1, d2⟩ := d
  simp only [] at hua hue q0 hen
  subst hen
  obtain ⟨ac, cc, rfl⟩ := OwW.val hua
  obtain ⟨ae, ce, rfl⟩ := OwW.val hue
  have ke : 0 < d2.length → ∃ be, ae = some ⟨be, 0, none⟩ ∧ be < wA.heap.size ∧ ∀ k, k < d2.length → wA.cell? ⟨be, k, none⟩ = some (.bool (bAt d2 k)) := fun hp => by
    obtain ⟨be, rfl, h1, h2⟩ := owns_some hue.1 hp
    refine ⟨be, rfl, h2, fun k hk => ?_⟩
    rw [World.ownsRow.cellAt hue.1 k (by omega), List.getElem?_map, List.getElem?_eq_getElem hk]
    simp [bAt, List.getD, hk]
  have hd2 := RdS.le (OwW.rd hue)
  have KE := Lib.hid ke
  generalize d1.length = nc at *
  clear hA hc hu hd hua hue ke B3 F3 CA HAL
  go_wp2_with fail
  clear q0 q1 q2
  have hzA : w.heap.size ≤ wA.heap.size := hfwA.size
  go_loopw [8, 28] (fun p i wr => ∃ (j cB : Nat) (aB : Option Addr) (L : List BI), j ≤ seen.length ∧ i = .int .i64 j ∧ p = .slice aB L.length cB ∧ Hid (L.map BI.r = pinR (j0 : Int) ⟨(d2.length : Int), d1, d2⟩ (seen.take j)) ∧ L.length ≤ j ∧ Hid (PrG wr wA.heap.size (.slice aB L.length cB) L) ∧ Fr wA wr) (fun _ i _ => seen.length - (intOf i).toNat)
  case atStart => exact ⟨0, 0, none, [], Nat.zero_le _, rfl, rfl, Lib.hid rfl, Nat.le_refl _, Lib.hid (PrG.nil _ _), by exact Qf⟩
  case round =>
    obtain ⟨j, cB, aB, L, hj, rfl, rfl, HL, hLj, HPG, hfr⟩ := hrel
    have hfww : Fr w wr := hfwA.trans hfr
    have zr := hfww.size
    have zr2 := hfr.size
    by_cases hlt : j < seen.length
    · obtain ⟨rfl, hbs, kf⟩ := KS.out (by omega)
      obtain ⟨g0, g1, g2, g3⟩ := kf j hlt
      have hsn := pinR_snoc (j0 : Int) ⟨(d2.length : Int), d1, d2⟩ (seen.take j) (walkAt seen j)
      rw [← walk_takeS hlt] at hsn
      obtain ⟨x, hx⟩ : ∃ x, walkAt seen j = x := ⟨_, rfl⟩
      rw [hx] at g0 g1 g2 g3 hsn
      obtain ⟨x0, x1, x2, x3⟩ := x
      rw [pinB_eq] at hsn
      simp only [] at g0 g1 g2 g3
      have q0 := (hfww.cell (p := ⟨bs, _, none⟩) hbs).trans g0
      have q1 := (hfww.cell (p := ⟨bs, _, none⟩) hbs).trans g1
      have q2 := (hfww.cell (p := ⟨bs, _, none⟩) hbs).trans g2
      have q3 := (hfww.cell (p := ⟨bs, _, none⟩) hbs).trans g3
      have HSN := Lib.hid hsn
      obtain ⟨pb, hpb⟩ : ∃ pb, ((x0 == (j0 : Int)) && (decide (0 ≤ x3 ∧ x3 < (d2.length : Int)) && bAt d2 x3.toNat)) = pb := ⟨_, rfl⟩
      rw [hpb] at HSN
      have HPX := Lib.hid hpb
      clear kf g0 g1 g2 g3 hx hsn hpb
      by_cases h1 : x0 = (j0 : Int)
      · have t1 : (x0 == (j0 : Int)) = true := by simpa using h1
        by_cases h2 : 0 ≤ x3
        · obtain ⟨k3, rfl⟩ := Int.eq_ofNat_of_zero_le h2
          by_cases hk3 : k3 < d2.length
          · obtain ⟨be, rfl, hbe2, he2⟩ := KE.out (by omega)
            have qe := (hfr.cell (p := ⟨be, k3, none⟩) hbe2).trans (he2 k3 hk3)
            have hbe3 : be < wr.heap.size := Nat.lt_of_lt_of_le hbe2 hfr.size
            obtain ⟨eb, heb⟩ : ∃ eb, bAt d2 k3 = eb := ⟨_, rfl⟩
            rw [heb] at qe
            have HPB : Hid (pb = eb) := Lib.hid (by rw [← HPX.out, t1, decide_eq_true ⟨h2, by omega⟩, Bool.true_and, Bool.true_and, ← heb]; rfl)
            clear he2 heb h2 h1
            cases eb
            · have HLN : Hid (L.map BI.r = pinR (j0 : Int) ⟨(d2.length : Int), d1, d2⟩ (seen.take (j + 1))) := Lib.hid (by rw [HSN.out, if_neg (by rw [HPB.out]; decide), List.append_nil]; exact HL.out)
              go_wp2_with fail
              go_roundw
              case rel => exact ⟨j + 1, cB, aB, L, by omega, by go_num, rfl, HLN, by omega, Lib.hid (HPG.out.fr (by exact Qf)), by exact Qf⟩
              case measure => (simp [intOf]; omega)
            · have HPG2 := HPG
              go_wp2_with (at_builtin; (refine wpList_append_rd rfl _ _ 30 rfl wA.heap.size 86 k0 (.slice none 0 0) 1 24 Tryz.underlying30 ki kz0 kz1 kz2 rfl (by decide) (.slice aB L.length cB) L.length (L.map BI.v) rfl (World.ownsRow.alloc (World.ownsRow.alloc (World.ownsRow.alloc HPG2.out.own _) _) _) _ 1 [.slice (some ⟨wr.heap.size + 1, 0, none⟩) 2 2] rfl (RdS.new (by first | rfl | (simp; done)) rfl) (by simp [Value.oneCell']) (by unfold maxLen; omega) (by omega) (by exact Qz) ?_; intro a5 c5 w5 hown hgrow hat))
              have hLr := fun x hx => (HPG.out.els x hx).lt
              have hvo := owns_old HPG.out.own
              have hG : PrG w5 wA.heap.size (.slice a5 (L.length + 1) c5) (L ++ [⟨wr.heap.size + 1, 2, [x1, x2], 0⟩]) := PrG.app (w := ((wr.alloc (.cells #[.int .i64 x0, .int .i64 x1, .int .i64 x2, .int .i64 (k3 : Int)] 57)).alloc (.cells #[.int .i64 x1, .int .i64 x2] 3)).alloc (.cells #[.slice (some ⟨wr.heap.size + 1, 0, none⟩) 2 2] 86)) (HPG.out.fr (by exact Qf)) ((BI.own2 (w := wr.alloc (.cells #[.int .i64 x0, .int .i64 x1, .int .i64 x2, .int .i64 (k3 : Int)] 57)) (by simp) (by have := hfr.size; omega)).fr (by exact Qf)) (fun x hx => by have := hLr x hx; show x.g ≠ wr.heap.size + 1; omega) (fun e => by have h9 : wr.heap.size + 1 < wr.heap.size := hvo _ e; omega) rfl hown hgrow hat
              have hf5 : Fr wA w5 := Fr.app (w := ((wr.alloc (.cells #[.int .i64 x0, .int .i64 x1, .int .i64 x2, .int .i64 (k3 : Int)] 57)).alloc (.cells #[.int .i64 x1, .int .i64 x2] 3)).alloc (.cells #[.slice (some ⟨wr.heap.size + 1, 0, none⟩) 2 2] 86)) (by exact Qf) hgrow (RowIn.of_owns HPG.out.own) (Nat.le_refl _)
              have HLN : Hid ((L ++ [(⟨wr.heap.size + 1, 2, [x1, x2], 0⟩ : BI)]).map BI.r = pinR (j0 : Int) ⟨(d2.length : Int), d1, d2⟩ (seen.take (j + 1))) := Lib.hid (by rw [HSN.out, HPB.out, if_pos rfl, ← HL.out]; simp)
              have HG := Lib.hid hG
              have hl5 : (L ++ [(⟨wr.heap.size + 1, 2, [x1, x2], 0⟩ : BI)]).length = L.length + 1 := by simp
              have HL5 := Lib.hid hl5
              clear hl5 hG hLr hvo hown hgrow hat HPG HPG2 HL HSN HPX
              go_roundw
              case rel => exact ⟨j + 1, c5, a5, _, by omega, by go_num, by rw [HL5.out], HLN, by rw [HL5.out]; omega, Lib.hid (by rw [HL5.out]; exact HG.out), hf5⟩
              case measure => (simp [intOf]; omega)
          · have HPB : Hid (pb = false) := Lib.hid (by rw [← HPX.out, decide_eq_false (fun h => hk3 (by omega)), Bool.false_and, Bool.and_false])
            have hk4 : ¬ ((k3 : Int) < (d2.length : Int)) := by omega
            have HLN : Hid (L.map BI.r = pinR (j0 : Int) ⟨(d2.length : Int), d1, d2⟩ (seen.take (j + 1))) := Lib.hid (by rw [HSN.out, if_neg (by rw [HPB.out]; decide), List.append_nil]; exact HL.out)
            clear h1 h2
            go_wp2_with fail
            go_roundw
            case rel => exact ⟨j + 1, cB, aB, L, by omega, by go_num, rfl, HLN, by omega, Lib.hid (HPG.out.fr (by exact Qf)), by exact Qf⟩
            case measure => (simp [intOf]; omega)
        · have HPB : Hid (pb = false) := Lib.hid (by rw [← HPX.out, decide_eq_false (fun h => h2 h.1), Bool.false_and, Bool.and_false])
          have HLN : Hid (L.map BI.r = pinR (j0 : Int) ⟨(d2.length : Int), d1, d2⟩ (seen.take (j + 1))) := Lib.hid (by rw [HSN.out, if_neg (by rw [HPB.out]; decide), List.append_nil]; exact HL.out)
          clear h1
          go_wp2_with fail
          go_roundw
          case rel => exact ⟨j + 1, cB, aB, L, by omega, by go_num, rfl, HLN, by omega, Lib.hid (HPG.out.fr (by exact Qf)), by exact Qf⟩
          case measure => (simp [intOf]; omega)
      · have t1 : (x0 == (j0 : Int)) = false := by simpa using h1
        have HPB : Hid (pb = false) := Lib.hid (by rw [← HPX.out, t1, Bool.false_and])
        have HLN : Hid (L.map BI.r = pinR (j0 : Int) ⟨(d2.length : Int), d1, d2⟩ (seen.take (j + 1))) := Lib.hid (by rw [HSN.out, if_neg (by rw [HPB.out]; decide), List.append_nil]; exact HL.out)
        clear h1
        go_wp2_with fail
        go_roundw
        case rel => exact ⟨j + 1, cB, aB, L, by omega, by go_num, rfl, HLN, by omega, Lib.hid (HPG.out.fr (by exact Qf)), by exact Qf⟩
        case measure => (simp [intOf]; omega)
    · obtain rfl : j = seen.length := by omega
      have HL2 : Hid (L.map BI.r = pinR (j0 : Int) ⟨(d2.length : Int), d1, d2⟩ seen) := Lib.hid (by have := HL.out; rwa [List.take_length] at this)
      clear HL KS
      by_cases h0 : L.length = 0
      · have hv := HPG.out.nil0 h0
        rw [h0] at hv
        cases hv
        have hL : L = [] := List.eq_nil_of_length_eq_zero h0
        subst hL
        have HR : Hid (r = []) := Lib.hid (by rw [HRR.out, ← HL2.out]; rfl)
        clear HPG HL2 HRR
        go_wp2_with fail
        refine (sortRows_none _ _).mono ?_
        rintro e w5 ⟨rfl, rfl⟩
        go_wp2_with fail
        refine (compact_none _).mono ?_
        rintro e w6 ⟨rfl, hf6⟩
        go_wp2_with fail
        refine (clip_none _).mono ?_
        rintro e w7 ⟨rfl, hf7⟩
        go_wp2_with fail
        go_ret
        rw [HR.out]
        exact ⟨none, 0, rfl, IntSSV.nil _ _ _, by exact Qf⟩
      · obtain ⟨B, hB1, hB2, hB3⟩ : ∃ B, aB = some ⟨B, 0, none⟩ ∧ wA.heap.size ≤ B ∧ L.length ≤ cB ∧ cB ≤ 9223372036854775807 := by
          rcases owns_shape HPG.out.own with ⟨_, h, _⟩ | ⟨g, c, hv, b1, b2, b3, b4⟩
          · exact absurd h h0
          · cases hv
            unfold maxLen at b4
            exact ⟨g, rfl, b1, b3, b4⟩
        subst hB1
        have hBr : B < wr.heap.size := owns_old HPG.out.own B rfl
        have CS := Lib.hid (sortRows_any wA.heap.size B cB L wr HPG.out.own (by omega) (by omega) (fun x hx => ⟨(HPG.out.els x hx).rd, fun e => HPG.out.off x hx (by rw [e]; rfl), by rw [HPG.out.two x hx]; omega⟩))
        go_wp2_with fail
        refine CS.out.mono ?_
        rintro e w5 ⟨rfl, M, hp, hup, ho5, hg5⟩
        have hlen := hp.length_eq
        have CC : Hid (Calls Tryz.prog 69 #[.slice (some ⟨B, 0, none⟩) L.length cB, .func (.func 70) #[] #[]] w5 fun e w' => KpPost w5 B cB M e w') := Lib.hid (by
          have t : Tch (fun g => some B = some g) wr w5 := Tch.of_gr hg5 fun i hi => hi
          have h := compact_any wA.heap.size B cB M w5 (by rw [hlen]; exact ho5) (by omega) (by omega) (fun x hx => by
            have hx := hp.subset hx
            have hno : ¬ (some B : Option Nat) = some x.g := HPG.out.off x hx
            exact ⟨((HPG.out.els x hx).tch t hno).rd, fun e => hno (by rw [e]), by rw [HPG.out.two x hx]; omega⟩) hup
          rw [hlen] at h
          exact h)
        have HP := Lib.hid hp
        have HG5 := Lib.hid hg5
        clear CS hup ho5 hp hg5
        go_wp2_with fail
        refine CC.out.mono ?_
        rintro e w6 ⟨C, hK, hCl, rfl, hcell, hg6⟩
        have hC0 : 0 < C.length := by
          have hm := hK.all (biAt M 0) (bi_mem (by omega))
          rcases Nat.eq_zero_or_pos C.length with h | h
          · rw [List.eq_nil_of_length_eq_zero h] at hm; cases hm
          · exact h
        have HKK := Lib.hid hK
        have HCL := Lib.hid hcell
        have HG6 := Lib.hid hg6
        clear CC hK hcell hg6
        go_wp2_with fail
        refine (clip_any B C.length cB _ hC0 (by omega) (by omega)).mono ?_
        rintro e w7 ⟨rfl, hf7⟩
        have hRC : C.map BI.r = r := by
          rw [HRR.out, ← HL2.out]
          exact HKK.out.rows fun x => (HP.out.map BI.r).mem_iff
        have hrl : r.length = C.length := by rw [← hRC]; simp
        have hS := PrG.told HPG.out HP.out HG5.out HG6.out hf7 HKK.out HCL.out (by unfold maxLen; omega) hB2 hBr
        have hF : Fr w w7 := ((hfww.grown HG5.out (fun k hk => by cases hk; omega)).grown HG6.out (fun k hk => by cases hk; omega)).trans hf7
        have HS := Lib.hid hS
        have HRC := Lib.hid hRC
        have HRL := Lib.hid hrl
        clear hS hRC hrl HL2 HRR
        go_wp2_with fail
        go_ret
        exact ⟨some ⟨B, 0, none⟩, C.length, by rw [HRL.out]; rfl, by rw [← HRC.out]; have := HS.out; rw [List.length_map]; exact IntSSV.mono this (by omega) (Nat.le_refl _), hF⟩
end Go.Proofs.YtmdgdnkllclpcaaGreat
