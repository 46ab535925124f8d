/- Texts in one: Owd, Nmq, Qos, Sta, Sta2. -/
import Derived.Test.YtmdgdnkllclpcaaGreatGMof
import Derived.Test.YtmdgdnkllclpcaaGreatGPutE
import Derived.Test.YtmdgdnkllclpcaaGreatGPen
import Derived.Test.YtmdgdnkllclpcaaGreatGQfl
import Derived.Test.YtmdgdnkllclpcaaGreatGOParcel
import Derived.BigQuiet
/- What a worker owns, of both; rows beside rows. No condition. -/
namespace Go.Proofs.YtmdgdnkllclpcaaGreat
open Go.RowKit
set_option linter.unusedVariables false
set_option linter.unusedSimpArgs false
/-- The row of v lies below lo or from hi on. -/
def Off (lo hi : Nat) (v : Value) : Prop := ∀ g, v.ownBlock = some g → g < lo ∨ hi ≤ g
theorem Off.app {lo hi H : Nat} {v v' : Value} (h : Off lo hi v) (hat : v'.ownBlock = v.ownBlock ∨ v'.ownBlock = some H) (hh : hi ≤ H) : Off lo hi v' := by
  intro g hg
  rcases hat with e | e
  · exact h g (e ▸ hg)
  · rw [e] at hg; cases hg; exact .inr hh
theorem Off.none (lo hi n c : Nat) : Off lo hi (.slice none n c) := fun g h => by cases h
theorem Off.below {lo hi l : Nat} {v : Value} (h : RowIn l lo v) : Off lo hi v := fun g hg => .inl (h g hg).2
theorem Off.above {lo hi l h' : Nat} {v : Value} (h : RowIn l h' v) (hl : hi ≤ l) : Off lo hi v := fun g hg => .inr (Nat.le_trans hl (h g hg).1)
theorem Ab.gr2 {lo : Nat} {a w w' : World} {v : Value} (h : Ab lo a w) (hg : w.grownBy w' v.ownBlock) (hr : Off lo a.heap.size v) : Ab lo a w' :=
  ⟨Nat.le_trans h.1 hg.size, fun k hk hs => (hg.block k (Nat.lt_of_lt_of_le hs h.1) (fun e => by have := hr k e.symm; omega)).trans (h.2 k hk hs)⟩
theorem IntsO.ab {w w' : World} {lo : Nat} {v : Value} {xs : List Int} (h : IntsO w lo v xs) (hf : Ab lo w w') : IntsO w' lo v xs := owns_ab h hf
set_option maxHeartbeats 2000000 in
theorem implOwned_any (g : GraphD) (ev : Value) (k n : Int) (w : World) (he : EdgesR w ev g.f1) :
    Calls Tryz.prog 89 #[.agg #[.int .i64 g.f0, ev], .int .i64 k, .int .i64 n] w fun e w' => ∃ v, e = .returned v ∧ IntsO w' w.heap.size v (ownL g k n) ∧ Fr w w' := by
  obtain ⟨gb, hgb⟩ : ∃ gb, graphB g = gb := ⟨_, rfl⟩; have HG := Lib.hid he; obtain ⟨i0, hi, hz0, hz1, hz2⟩ := info_parts info_int
  have CG : Hid (∀ w', Fr w w' → Calls Tryz.prog 84 #[.agg #[.int .i64 g.f0, ev]] w' fun e w'' => e = .returned (.bool gb) ∧ Fr w' w'') := Lib.hid fun w' h => by rw [← hgb]; exact implGraphOk_any ev g.f0 g.f1 w' (HG.out.fr h)
  obtain ⟨ae, be, oe, ce, rfl, hce, hme, fe⟩ := he.one
  clear he fe HG
  cases gb
  · have HL : Hid (ownL g k n = []) := Lib.hid (by unfold ownL; rw [hgb]; rfl)
    clear hgb
    go_enter Tryz.func89, Tryz.ntmps89
    go_wp2_with fail
    refine (CG.out _ (by exact Qf)).mono ?_
    rintro e w1 ⟨rfl, hf1⟩
    go_wp2_with fail
    go_ret
    exact ⟨_, rfl, by rw [HL.out]; exact World.ownsRow_nil _ _ _ _, by exact Qf⟩
  · obtain ⟨m, hm, hm0, hm1, _⟩ := graph_nat hgb
    have HL : Hid (ownL g k n = ownK k n m) := Lib.hid (by unfold ownL; rw [hgb, hm]; rfl)
    rw [hm] at CG ⊢
    clear hgb hm
    go_enter Tryz.func89, Tryz.ntmps89
    go_wp2_with fail
    refine (CG.out _ (by exact Qf)).mono ?_
    rintro e w1 ⟨rfl, hf1⟩
    have B1 : Box w1 w.heap.size #[.int .i64 (m : Int), .slice ae g.f1.length ce] 55 := (Box.new _ _ _).fr hf1
    have F1 := B1.facts
    have z1 := hf1.size
    (try simp only [World.size_alloc] at z1)
    go_wp2_with fail
    go_loopw [7, 14] (fun o i wr => ∃ (j c : Nat) (a : Option Addr) (l : List Int), j ≤ m ∧ i = .int .i64 j ∧ o = .slice a l.length c ∧ Hid (l = ownK k n j) ∧ Hid (IntsO wr (w.heap.size + 1) (.slice a l.length c) l) ∧ Fr w wr) (fun _ i _ => m - (intOf i).toNat)
    case atStart => exact ⟨0, 0, none, [], Nat.zero_le _, rfl, rfl, Lib.hid rfl, Lib.hid (World.ownsRow_nil _ _ _ _), by exact Qf⟩
    case round =>
      obtain ⟨j, c, a, l, hj, rfl, rfl, HE, HO, hfr⟩ := hrel
      have zr := hfr.size
      by_cases hlt : j < m
      · have hll := ownK_len k n j
        rw [← HE.out] at hll
        go_wp2_with fail
        refine (implOwnerOf_any (j : Int) n _).mono ?_
        rintro e w2 ⟨rfl, hf2⟩
        have HO2 := Lib.hid (IntsO.fr HO.out hf2)
        have z2 := hf2.size
        by_cases how : owR (j : Int) n = k
        · have q : (owR (j : Int) n == k) = true := by simpa using how
          have HS : Hid (l ++ [(j : Int)] = ownK k n (j + 1)) := Lib.hid (by rw [HE.out, ownK_yes how])
          have HLN := Lib.hid (show (l ++ [(j : Int)]).length = l.length + 1 by simp)
          clear how
          go_wp2_with (at_builtin; refine wpList_append_rd rfl _ _ 86 rfl (w.heap.size + 1) 3 i0 (.int .i64 0) 1 8 Tryz.underlying86 hi hz0 hz1 hz2 rfl (by decide) (.slice a l.length c) l.length (l.map (Value.int .i64)) rfl (World.ownsRow.alloc HO2.out _) _ 1 [.int .i64 (j : Int)] rfl (RdS.new (by first | rfl | (simp; done)) rfl) (by simp [Value.oneCell']) (by unfold maxLen; omega) (by omega) (by exact Qz) ?_; intro a3 c3 w3 hown hgrow hat)
          have hf3 : Fr w w3 := append_fr (by exact Qf) (owns_lo HO2.out (by omega)) hgrow
          have HO3 : Hid (IntsO w3 (w.heap.size + 1) (.slice a3 (l ++ [(j : Int)]).length c3) (l ++ [(j : Int)])) := Lib.hid (by unfold IntsO; rw [HLN.out]; simpa using hown)
          rw [← HLN.out]
          go_roundw
          case rel => exact ⟨j + 1, c3, a3, l ++ [(j : Int)], by omega, by go_num, rfl, HS, HO3, hf3⟩
          case measure => (simp [intOf]; omega)
        · have q : (owR (j : Int) n == k) = false := by simpa using how
          have HS : Hid (l = ownK k n (j + 1)) := Lib.hid (by rw [HE.out, ownK_no how])
          clear how
          go_wp2_with fail
          go_roundw
          case rel => exact ⟨j + 1, c, a, l, by omega, by go_num, rfl, HS, HO2, by exact Qf⟩
          case measure => (simp [intOf]; omega)
      · obtain rfl : j = m := by omega
        go_wp2_with fail
        go_ret
        exact ⟨_, rfl, by rw [HL.out, ← HE.out]; exact owns_lo HO.out (by omega), hfr⟩
set_option maxHeartbeats 2000000 in
theorem specOwned_any (g : GraphD) (ev : Value) (k n : Int) (w : World) (he : EdgesR w ev g.f1) :
    Calls Tryz.prog 88 #[.agg #[.int .i64 g.f0, ev], .int .i64 k, .int .i64 n] w fun e w' => ∃ v, e = .returned v ∧ IntsO w' w.heap.size v (ownL g k n) ∧ Fr w w' := by
  obtain ⟨gb, hgb⟩ : ∃ gb, graphB g = gb := ⟨_, rfl⟩; have HG := Lib.hid he; obtain ⟨i0, hi, hz0, hz1, hz2⟩ := info_parts info_int
  have CG : Hid (∀ w', Fr w w' → Calls Tryz.prog 81 #[.agg #[.int .i64 g.f0, ev]] w' fun e w'' => e = .returned (.bool gb) ∧ Fr w' w'') := Lib.hid fun w' h => by rw [← hgb]; exact specGraphOk_any ev g.f0 g.f1 w' (HG.out.fr h)
  obtain ⟨ae, be, oe, ce, rfl, hce, hme, fe⟩ := he.one
  clear he fe HG
  cases gb
  · have HL : Hid (ownL g k n = []) := Lib.hid (by unfold ownL; rw [hgb]; rfl)
    clear hgb
    go_enter Tryz.func88, Tryz.ntmps88
    go_wp2_with fail
    refine (CG.out _ (by exact Qf)).mono ?_
    rintro e w1 ⟨rfl, hf1⟩
    have HM : Hid (IntsO (w1) w.heap.size (.slice (some ⟨w.heap.size + 1, 0, none⟩) 0 0) []) := Lib.hid (IntsO.fr (made_empty (w := w.alloc (.cells #[.int .i64 g.f0, .slice ae g.f1.length ce] 55)) (by simp) (by omega)) hf1)
    go_wp2_with fail
    go_ret
    exact ⟨_, rfl, by rw [HL.out]; exact HM.out, by exact Qf⟩
  · obtain ⟨m, hm, hm0, hm1, _⟩ := graph_nat hgb
    have HL : Hid (ownL g k n = ownK k n m) := Lib.hid (by unfold ownL; rw [hgb, hm]; rfl)
    rw [hm] at CG ⊢
    clear hgb hm
    go_enter Tryz.func88, Tryz.ntmps88
    go_wp2_with fail
    refine (CG.out _ (by exact Qf)).mono ?_
    rintro e w1 ⟨rfl, hf1⟩
    have B1 : Box w1 w.heap.size #[.int .i64 (m : Int), .slice ae g.f1.length ce] 55 := ((Box.new _ _ _).alloc _).fr hf1
    have F1 := B1.facts
    have HM : Hid (IntsO (w1) (w.heap.size + 1) (.slice (some ⟨w.heap.size + 1, 0, none⟩) 0 0) []) := Lib.hid (IntsO.fr (made_empty (w := w.alloc (.cells #[.int .i64 (m : Int), .slice ae g.f1.length ce] 55)) (by simp) (by omega)) hf1)
    have z1 := hf1.size
    (try simp only [World.size_alloc] at z1)
    go_wp2_with fail
    go_loopw [7, 8] (fun o i wr => ∃ (j c : Nat) (a : Option Addr) (l : List Int), j ≤ m ∧ i = .int .i64 j ∧ o = .slice a l.length c ∧ Hid (l = ownK k n j) ∧ Hid (IntsO wr (w.heap.size + 1) (.slice a l.length c) l) ∧ Box wr w.heap.size #[.int .i64 (m : Int), .slice ae g.f1.length ce] 55 ∧ Fr w wr) (fun _ i _ => m - (intOf i).toNat)
    case atStart => exact ⟨0, 0, _, [], Nat.zero_le _, rfl, rfl, Lib.hid rfl, HM, B1, by exact Qf⟩
    case round =>
      obtain ⟨j, c, a, l, hj, rfl, rfl, HE, HO, hB, hfr⟩ := hrel
      have zr := hfr.size
      have FB := hB.facts
      by_cases hlt : j < m
      · have hll := ownK_len k n j
        rw [← HE.out] at hll
        go_wp2_with fail
        refine (specOwnerOf_any (j : Int) n _).mono ?_
        rintro e w2 ⟨rfl, hf2⟩
        have HO2 := Lib.hid (IntsO.fr HO.out hf2)
        have z2 := hf2.size
        have B2 := hB.fr hf2
        by_cases how : owR (j : Int) n = k
        · have q : (owR (j : Int) n == k) = true := by simpa using how
          have HS : Hid (l ++ [(j : Int)] = ownK k n (j + 1)) := Lib.hid (by rw [HE.out, ownK_yes how])
          have HLN := Lib.hid (show (l ++ [(j : Int)]).length = l.length + 1 by simp)
          clear how
          go_wp2_with (at_builtin; refine wpList_append_rd rfl _ _ 86 rfl (w.heap.size + 1) 3 i0 (.int .i64 0) 1 8 Tryz.underlying86 hi hz0 hz1 hz2 rfl (by decide) (.slice a l.length c) l.length (l.map (Value.int .i64)) rfl (World.ownsRow.alloc HO2.out _) _ 1 [.int .i64 (j : Int)] rfl (RdS.new (by first | rfl | (simp; done)) rfl) (by simp [Value.oneCell']) (by unfold maxLen; omega) (by omega) (by exact Qz) ?_; intro a3 c3 w3 hown hgrow hat)
          have hf3 : Fr w w3 := append_fr (by exact Qf) (owns_lo HO2.out (by omega)) hgrow
          have B3 : Box w3 w.heap.size #[.int .i64 (m : Int), .slice ae g.f1.length ce] 55 := Box.gr (B2.alloc _) hgrow (fun e => by have := (World.ownsRow.lt HO2.out _ e).1; omega)
          have HO3 : Hid (IntsO w3 (w.heap.size + 1) (.slice a3 (l ++ [(j : Int)]).length c3) (l ++ [(j : Int)])) := Lib.hid (by unfold IntsO; rw [HLN.out]; simpa using hown)
          rw [← HLN.out]
          go_roundw
          case rel => exact ⟨j + 1, c3, a3, l ++ [(j : Int)], by omega, by go_num, rfl, HS, HO3, B3, hf3⟩
          case measure => (simp [intOf]; omega)
        · have q : (owR (j : Int) n == k) = false := by simpa using how
          have HS : Hid (l = ownK k n (j + 1)) := Lib.hid (by rw [HE.out, ownK_no how])
          clear how
          go_wp2_with fail
          go_roundw
          case rel => exact ⟨j + 1, c, a, l, by omega, by go_num, rfl, HS, HO2, B2, by exact Qf⟩
          case measure => (simp [intOf]; omega)
      · obtain rfl : j = m := by omega
        go_wp2_with fail
        go_ret
        exact ⟨_, rfl, by rw [HL.out, ← HE.out]; exact owns_lo HO.out (by omega), hfr⟩
end Go.Proofs.YtmdgdnkllclpcaaGreat

/- The reference's l08In makes nothing. No condition. -/
namespace Go.Proofs.YtmdgdnkllclpcaaGreat
open Go.RowKit
set_option linter.unusedVariables false
set_option linter.unusedSimpArgs false
set_option maxHeartbeats 2000000 in
theorem l08In_same (v : Value) (l : List ByteArray) (s : ByteArray) (w : World) (hv : StrsR w v l) :
    Calls Tryz.prog 122 #[v, .string s] w fun e w' => e = .returned (.bool (inB l s)) ∧ w' = w := by
  obtain ⟨ao, b, o, cap, rfl, hc, hm, hf⟩ := hv.one
  have HF := Lib.hid hf
  clear hf hv
  go_enter Tryz.func122, Tryz.ntmps122
  go_wp2_with fail
  go_loopw [5] (fun i wr => ∃ k : Nat, k ≤ l.length ∧ i = .int .i64 k ∧ Hid (inB (l.take k) s = false) ∧ wr = w) (fun i _ => l.length - (intOf i).toNat)
  case atStart => exact ⟨0, Nat.zero_le _, rfl, Lib.hid rfl, rfl⟩
  case round =>
    obtain ⟨k, hk, rfl, HL, rfl⟩ := hrel
    by_cases hlt : k < l.length
    · obtain ⟨rfl, hb, hf⟩ := HF.out (by omega)
      have hcell := hf k hlt
      obtain ⟨x, hx⟩ : ∃ x, sAt l k = x := ⟨_, rfl⟩
      rw [hx] at hcell
      clear hf
      cases hp : (x.toList == s.toList)
      · have HS := Lib.hid (inB_step hlt (by rw [hx]; exact hp) HL.out)
        clear hx
        go_wp2_with fail
        go_roundw
        case rel => exact ⟨k + 1, by omega, by go_num, HS, by first | rfl | trivial⟩
        case measure => (simp [intOf]; omega)
      · have HS := Lib.hid (inB_yes hlt (by rw [hx]; exact hp))
        clear hx
        go_wp2_with fail
        go_ret
        exact ⟨ret_bool (by rw [HS.out]), rfl⟩
    · obtain rfl : k = l.length := by omega
      have HN : Hid (inB l s = false) := Lib.hid (by have := HL.out; rwa [List.take_length] at this)
      go_wp2_with fail
      go_ret
      exact ⟨ret_bool (by rw [HN.out]), rfl⟩
end Go.Proofs.YtmdgdnkllclpcaaGreat

/- QueryOk of the reference. Conditions: bounds on the texts. -/
namespace Go.Proofs.YtmdgdnkllclpcaaGreat
open Go.RowKit
set_option linter.unusedVariables false
set_option linter.unusedSimpArgs false
set_option maxHeartbeats 4000000 in
theorem specQueryOk_any (q : Bool) (vo va vf : Value) (out : List ByteArray) (xs : List AtomR) (fs : List FilterR) (w : World) (ho : StrsR w vo out) (ha : AtomsR w va xs) (hf : FiltersR w vf fs) (hsz : ∀ k, k < xs.length → (atomAt xs k).f0.size ≤ 1048576 ∧ (atomAt xs k).f1.size ≤ 1048576 ∧ (atomAt xs k).f2.size ≤ 1048576) :
    Calls Tryz.prog 55 #[.agg #[.bool q, vo, va, vf]] w fun e w' => e = .returned (.bool (qryB out xs fs)) ∧ Fr w w' := by
  obtain ⟨ao, bo, oo, co, rfl, hco, hmo, ko⟩ := ho.one
  obtain ⟨ax, bx, ox, cx, rfl, hcx, hmx, kx⟩ := ha.one
  obtain ⟨af, bf, of, cf, rfl, hcf, hmf, kf⟩ := hf.one
  have KO := Lib.hid ko; have KX := Lib.hid kx; have KF := Lib.hid kf; have HO := Lib.hid ho; have HA := Lib.hid ha; have HF := Lib.hid hf; have HSZ := Lib.hid hsz
  clear ko kx kf ho ha hf hsz
  by_cases h1 : (1 ≤ xs.length ∧ xs.length ≤ 4) ∧ fs.length ≤ 3 ∧ (1 ≤ out.length ∧ out.length ≤ 4)
  · obtain ⟨⟨h1a, h1b⟩, h2, h3a, h3b⟩ := h1
    have HQ : Hid (qryB out xs fs = (atK xs xs.length && (decide ((nmK xs xs.length).length ≤ 4) && ((dstK out out.length && allIn (nmK xs xs.length) out) && fiK (nmK xs xs.length) fs fs.length)))) := Lib.hid (by unfold qryB; rw [decide_eq_true (⟨h1a, h1b⟩ : 1 ≤ xs.length ∧ xs.length ≤ 4), decide_eq_true h2, decide_eq_true (⟨h3a, h3b⟩ : 1 ≤ out.length ∧ out.length ≤ 4), Bool.true_and, Bool.true_and, Bool.and_true])
    have g1 : decide ((1 : Int) ≤ (xs.length : Int) ∧ (xs.length : Int) ≤ 4) = true := by simp; omega
    have g2 : decide ((1 : Int) ≤ (out.length : Int) ∧ (out.length : Int) ≤ 4) = true := by simp; omega
    have g3 : decide ((fs.length : Int) > 3) = false := by simp; omega
    have i1 : (1 : Int) ≤ (xs.length : Int) := by omega
    have i2 : (xs.length : Int) ≤ 4 := by omega
    have i3 : (1 : Int) ≤ (out.length : Int) := by omega
    have i4 : (out.length : Int) ≤ 4 := by omega
    have i5 : ¬ (3 : Int) < (fs.length : Int) := by omega
    go_enter Tryz.func55, Tryz.ntmps55
    go_wp2_with (go_at_call 56; refine (l01In_any _ _ _ _).mono ?_; rintro e w1 ⟨rfl, rfl⟩)
    go_loopw [3] (fun i wr => ∃ k : Nat, k ≤ xs.length ∧ i = .int .i64 k ∧ Hid (atK xs k = true) ∧ Box wr w.heap.size #[.bool q, .slice ao out.length co, .slice ax xs.length cx, .slice af fs.length cf] 35 ∧ Fr w wr) (fun i _ => xs.length - (intOf i).toNat)
    case atStart => exact ⟨0, Nat.zero_le _, rfl, Lib.hid rfl, Box.new _ _ _, by exact Qf⟩
    case round =>
      obtain ⟨k, hk, rfl, HL, hB, hfr⟩ := hrel
      have FB := hB.facts
      by_cases hlt : k < xs.length
      · obtain ⟨rfl, hb, hf⟩ := KX.out (by omega)
        obtain ⟨g0, g1, g2⟩ := hf k hlt
        have hs3 := HSZ.out k hlt
        obtain ⟨x, hx⟩ : ∃ x, atomAt xs k = x := ⟨_, rfl⟩
        rw [hx] at g0 g1 g2 hs3
        obtain ⟨x0, x1, x2⟩ := x
        simp only [] at g0 g1 g2 hs3
        have q0 := (hfr.cell (p := ⟨bx, _, none⟩) hb).trans g0
        have q1 := (hfr.cell (p := ⟨bx, _, none⟩) hb).trans g1
        have q2 := (hfr.cell (p := ⟨bx, _, none⟩) hb).trans g2
        have HX := Lib.hid hx
        have zr := hfr.size
        obtain ⟨s0, s1, s2⟩ := hs3
        clear hf g0 g1 g2 hx
        go_wp2_with fail
        refine (specAtomOk_any x0 x1 x2 _ s0 s1 s2).mono ?_
        rintro e w1 ⟨rfl, hf1⟩
        cases h3 : atomB x0 x1 x2
        · have HN : Hid (qryB out xs fs = false) := Lib.hid (by rw [HQ.out, show atK xs xs.length = false from all_no hlt (by rw [HX.out]; exact h3)]; rfl)
          clear h3
          go_wp2_with fail
          go_ret
          exact ⟨ret_bool (by rw [HN.out]), by exact Qf⟩
        · have HS : Hid (atK xs (k + 1) = true) := Lib.hid (all_step (by rw [HX.out]; exact h3) HL.out)
          clear h3
          go_wp2_with fail
          go_roundw
          case rel => exact ⟨k + 1, by omega, by go_num, HS, hB.fr hf1, by exact Qf⟩
          case measure => (simp [intOf]; omega)
      · obtain rfl : k = xs.length := by omega
        go_wp2_with fail
        refine (specNamesOf_any q ao af out.length co fs.length cf _ xs _ (HA.out.fr hfr) (by omega)).mono ?_
        rintro e w1 ⟨v, rfl, hN, hf1⟩
        obtain ⟨an, cn, rfl⟩ := hN.val
        have B1 := hB.fr hf1
        have F1 := B1.facts
        have HQ2 : Hid (qryB out xs fs = (decide ((nmK xs xs.length).length ≤ 4) && ((dstK out out.length && allIn (nmK xs xs.length) out) && fiK (nmK xs xs.length) fs fs.length))) := Lib.hid (by rw [HQ.out, HL.out, Bool.true_and])
        obtain ⟨ns, hns⟩ : ∃ ns, nmK xs xs.length = ns := ⟨_, rfl⟩
        have hnl := nmK_len xs xs.length
        rw [hns] at hN HQ2 hnl
        rw [hns]
        have HNS := Lib.hid (StrsO.rd hN)
        clear hns hN
        go_wp2_with fail
        go_loopw [5] (fun i w' => ∃ k : Nat, k ≤ out.length ∧ i = .int .i64 k ∧ Hid (dstK out k = true) ∧ Hid (allIn ns (out.take k) = true) ∧ Fr w1 w') (fun i _ => out.length - (intOf i).toNat)
        case atStart => exact ⟨0, Nat.zero_le _, rfl, Lib.hid rfl, Lib.hid rfl, Fr.refl _⟩
        case round =>
          obtain ⟨j, hj, rfl, HD, HI, hfr2⟩ := hrel
          have B2 := B1.fr hfr2
          have F2 := B2.facts
          by_cases hltj : j < out.length
          · obtain ⟨rfl, hb, hf⟩ := KO.out (by omega)
            obtain ⟨x, hx⟩ : ∃ x, sAt out j = x := ⟨_, rfl⟩
            have g0 := hf j hltj
            rw [hx] at g0
            have fr2 : Fr w wr := (hfr.trans hf1).trans hfr2
            have q0 := (fr2.cell (p := ⟨bo, _, none⟩) hb).trans g0
            have HX := Lib.hid hx
            have C1 := Lib.hid (fun w' (h : Fr wr w') => l08In_same _ ns x w' (HNS.out.fr (hfr2.trans h)))
            have C2 := Lib.hid (fun w' (h : Fr wr w') => l08In_same _ (out.take j) x w' ((HO.out.fr (fr2.trans h)).pre hj))
            have hjc : j ≤ co := by omega
            clear hf g0 hx
            cases h1 : inB ns x
            · have HN : Hid (qryB out xs fs = false) := Lib.hid (by rw [HQ2.out, show allIn ns out = false from allIn_no hltj (by rw [HX.out]; exact h1)]; simp)
              rw [h1] at C1
              clear h1
              go_wp2_with fail
              go_quiet (first | (go_at_call 122; with_reducible exact Calls.quiet_of_same ((C1.out _ (by exact Qf)).mono fun _ _ h => ⟨h.1, h.2⟩)) | (go_at_call 122; with_reducible exact Calls.quiet_of_same ((C2.out _ (by exact Qf)).mono fun _ _ h => ⟨h.1, h.2⟩)))
              go_wp2_with fail
              go_ret
              exact ⟨ret_bool (by rw [HN.out]), by exact Qf⟩
            · have HI2 := Lib.hid (allIn_step hltj (by rw [HX.out]; exact h1) HI.out)
              rw [h1] at C1
              clear h1
              cases h2 : inB (out.take j) x
              · have HD2 := Lib.hid (dstK_step (by rw [HX.out]; exact h2) HD.out)
                rw [h2] at C2
                clear h2
                go_wp2_with fail
                go_quiet (first | (go_at_call 122; with_reducible exact Calls.quiet_of_same ((C1.out _ (by exact Qf)).mono fun _ _ h => ⟨h.1, h.2⟩)) | (go_at_call 122; with_reducible exact Calls.quiet_of_same ((C2.out _ (by exact Qf)).mono fun _ _ h => ⟨h.1, h.2⟩)))
                go_wp2_with fail
                go_roundw
                case rel => exact ⟨j + 1, by omega, by go_num, HD2, HI2, by exact Qf⟩
                case measure => (simp [intOf]; omega)
              · have HN : Hid (qryB out xs fs = false) := Lib.hid (by rw [HQ2.out, show dstK out out.length = false from dstK_no hltj (by rw [HX.out]; exact h2)]; simp)
                rw [h2] at C2
                clear h2
                go_wp2_with fail
                go_quiet (first | (go_at_call 122; with_reducible exact Calls.quiet_of_same ((C1.out _ (by exact Qf)).mono fun _ _ h => ⟨h.1, h.2⟩)) | (go_at_call 122; with_reducible exact Calls.quiet_of_same ((C2.out _ (by exact Qf)).mono fun _ _ h => ⟨h.1, h.2⟩)))
                go_wp2_with fail
                go_ret
                exact ⟨ret_bool (by rw [HN.out]), by exact Qf⟩
          · obtain rfl : j = out.length := by omega
            have HI3 : Hid (allIn ns out = true) := Lib.hid (by have := HI.out; rwa [List.take_length] at this)
            have HQ3 : Hid (qryB out xs fs = (decide (ns.length ≤ 4) && fiK ns fs fs.length)) := Lib.hid (by rw [HQ2.out, HD.out, HI3.out]; rfl)
            have fr2 : Fr w wr := (hfr.trans hf1).trans hfr2
            have HN2 := Lib.hid (HNS.out.fr hfr2)
            go_wp2_with fail
            go_loopw [6] (fun i w' => ∃ k : Nat, k ≤ fs.length ∧ i = .int .i64 k ∧ Hid (fiK ns fs k = true) ∧ Fr wr w') (fun i _ => fs.length - (intOf i).toNat)
            case atStart => exact ⟨0, Nat.zero_le _, rfl, Lib.hid rfl, Fr.refl _⟩
            case round =>
              obtain ⟨k, hk, rfl, HL4, hfr4⟩ := hrel
              have B3 := B2.fr hfr4
              have F3 := B3.facts
              by_cases hlt4 : k < fs.length
              · obtain ⟨rfl, hb, hf⟩ := KF.out (by omega)
                obtain ⟨g0, g1, g2, g3⟩ := hf k hlt4
                obtain ⟨x, hx⟩ : ∃ x, filterAt fs k = x := ⟨_, rfl⟩
                rw [hx] at g0 g1 g2 g3
                obtain ⟨x0, x1, x2, x3⟩ := x
                simp only [] at g0 g1 g2 g3
                have fr4 : Fr w wr := fr2.trans hfr4
                have q0 := (fr4.cell (p := ⟨bf, _, none⟩) hb).trans g0
                have q1 := (fr4.cell (p := ⟨bf, _, none⟩) hb).trans g1
                have q2 := (fr4.cell (p := ⟨bf, _, none⟩) hb).trans g2
                have q3 := (fr4.cell (p := ⟨bf, _, none⟩) hb).trans g3
                have HX := Lib.hid hx
                have zr4 := fr4.size
                have HN3 := Lib.hid (HN2.out.fr hfr4)
                clear hf g0 g1 g2 g3 hx
                obtain ⟨be, hbe⟩ : ∃ be, (x2.toList == []) = be := ⟨_, rfl⟩
                have HFB : Hid (filB ns x0 x1 x2 x3 = (inB ns x0 && (decide (x1 = 1 ∨ x1 = 2) && if be = true then decide (0 ≤ x3 ∧ x3 ≤ 99) else decide (x3 = 0) && inB ns x2))) := Lib.hid (by unfold filB; rw [hbe])
                have HNO : Hid (filB ns x0 x1 x2 x3 = false → qryB out xs fs = false) := Lib.hid fun h => by rw [HQ3.out, show fiK ns fs fs.length = false from all_no hlt4 (by rw [HX.out]; exact h)]; simp
                have HYE : Hid (filB ns x0 x1 x2 x3 = true → fiK ns fs (k + 1) = true) := Lib.hid fun h => all_step (by rw [HX.out]; exact h) HL4.out
                go_wp2_with fail
                refine (l08In_same _ ns x0 _ (HN3.out.fr (by exact Qf))).mono ?_
                rintro e w5 ⟨rfl, rfl⟩
                cases h8 : inB ns x0
                · have HN := Lib.hid (HNO.out (by rw [HFB.out, h8]; rfl))
                  clear h8
                  go_wp2_with fail
                  go_ret
                  exact ⟨ret_bool (by rw [HN.out]), by exact Qf⟩
                · have H8 := Lib.hid h8
                  clear h8
                  go_wp2_with fail
                  refine (l01In_any _ _ _ _).mono ?_
                  rintro e w6 ⟨rfl, rfl⟩
                  obtain ⟨oo, hoo⟩ : ∃ oo, decide (1 ≤ x1 ∧ x1 ≤ 2) = oo := ⟨_, rfl⟩
                  rw [hoo]
                  have HOO : Hid (decide (x1 = 1 ∨ x1 = 2) = oo) := Lib.hid (by rw [← hoo, Bool.eq_iff_iff]; simp; omega)
                  clear hoo
                  cases oo
                  · have HN := Lib.hid (HNO.out (by rw [HFB.out, HOO.out]; simp))
                    go_wp2_with fail
                    go_ret
                    exact ⟨ret_bool (by rw [HN.out]), by exact Qf⟩
                  · cases be
                    · go_wp2_with fail
                      refine (l08In_same _ ns x2 _ (HN3.out.fr (by exact Qf))).mono ?_
                      rintro e w7 ⟨rfl, rfl⟩
                      cases h9 : inB ns x2
                      · have HN := Lib.hid (HNO.out (by rw [HFB.out, h9]; simp))
                        clear h9
                        go_wp2_with fail
                        go_ret
                        exact ⟨ret_bool (by rw [HN.out]), by exact Qf⟩
                      · have H9 := Lib.hid h9
                        clear h9
                        by_cases h0 : x3 = 0
                        · subst h0
                          have HY := Lib.hid (HYE.out (by rw [HFB.out, H8.out, H9.out, HOO.out]; rfl))
                          go_wp2_with fail
                          refine (l01In_any _ _ _ _).mono ?_
                          rintro e w8 ⟨rfl, rfl⟩
                          go_wp2_with fail
                          go_roundw
                          case rel => exact ⟨k + 1, by omega, by go_num, HY, by exact Qf⟩
                          case measure => (simp [intOf]; omega)
                        · have g1 : (x3 != 0) = true := by simp [h0]
                          have HN := Lib.hid (HNO.out (by rw [HFB.out, decide_eq_false h0]; simp))
                          clear h0
                          go_wp2_with fail
                          go_ret
                          exact ⟨ret_bool (by rw [HN.out]), by exact Qf⟩
                    · go_wp2_with fail
                      refine (l01In_any _ _ _ _).mono ?_
                      rintro e w7 ⟨rfl, rfl⟩
                      obtain ⟨o3, ho3⟩ : ∃ o3, decide (0 ≤ x3 ∧ x3 ≤ 99) = o3 := ⟨_, rfl⟩
                      rw [ho3]
                      have HO3 := Lib.hid ho3
                      clear ho3
                      cases o3
                      · have HN := Lib.hid (HNO.out (by rw [HFB.out, HO3.out]; simp))
                        go_wp2_with fail
                        go_ret
                        exact ⟨ret_bool (by rw [HN.out]), by exact Qf⟩
                      · have HY := Lib.hid (HYE.out (by rw [HFB.out, H8.out, HOO.out, HO3.out]; rfl))
                        go_wp2_with fail
                        go_roundw
                        case rel => exact ⟨k + 1, by omega, by go_num, HY, by exact Qf⟩
                        case measure => (simp [intOf]; omega)
              · obtain rfl : k = fs.length := by omega
                go_wp2_with fail
                go_ret
                exact ⟨ret_bool (by rw [HQ3.out, HL4.out]; simp <;> omega), by exact Qf⟩
  · have HN : Hid (qryB out xs fs = false) := Lib.hid (by
      unfold qryB
      by_cases a1 : 1 ≤ xs.length ∧ xs.length ≤ 4
      · by_cases a2 : fs.length ≤ 3
        · rw [decide_eq_false (fun a3 : 1 ≤ out.length ∧ out.length ≤ 4 => h1 ⟨a1, a2, a3⟩)]; simp
        · rw [decide_eq_false a2]; simp
      · rw [decide_eq_false a1]; simp)
    go_enter Tryz.func55, Tryz.ntmps55
    go_wp2_with (go_at_call 56; refine (l01In_any _ _ _ _).mono ?_; rintro e w1 ⟨rfl, rfl⟩)
    all_goals first | (exfalso; simp at *; omega) | (go_ret; exact ⟨ret_bool (by rw [HN.out]), by exact Qf⟩)
end Go.Proofs.YtmdgdnkllclpcaaGreat

/- StartWalks of both. Conditions: the bound on the query that the law gives. -/
namespace Go.Proofs.YtmdgdnkllclpcaaGreat
open Go.RowKit
set_option linter.unusedVariables false
set_option linter.unusedSimpArgs false
theorem atoms_sz {d : QueryD} (hn : d.bulk ≤ 1048576) : ∀ k, k < d.f2.length → (atomAt d.f2 k).f0.size ≤ 1048576 ∧ (atomAt d.f2 k).f1.size ≤ 1048576 ∧ (atomAt d.f2 k).f2.size ≤ 1048576 := fun k hk => by
  have h1 := sumAtom_succ d.f2 k hk
  have h2 := sumAtom_le d.f2 (k + 1)
  unfold QueryD.bulk AtomsBulk at hn
  unfold AtomR.bulk at h1
  omega
theorem specQueryOk_d (v : Value) (d : QueryD) (w : World) (hv : QueryRd w v d) (hn : d.bulk ≤ 1048576) :
    Calls Tryz.prog 55 #[v] w fun e w' => e = .returned (.bool (qryD d)) ∧ Fr w w' := by
  obtain ⟨u1, u2, u3, rfl, r1, r2, r3⟩ := hv
  exact specQueryOk_any d.f0 u1 u2 u3 d.f1 d.f2 d.f3 w r1 r2 r3 (atoms_sz hn)
theorem implQueryOk_d (v : Value) (d : QueryD) (w : World) (hv : QueryRd w v d) (hn : d.bulk ≤ 1048576) :
    Calls Tryz.prog 62 #[v] w fun e w' => e = .returned (.bool (qryD d)) ∧ Fr w w' := by
  obtain ⟨u1, u2, u3, rfl, r1, r2, r3⟩ := hv
  exact implQueryOk_any d.f0 u1 u2 u3 d.f1 d.f2 d.f3 w r1 r2 r3 (atoms_sz hn)
set_option maxHeartbeats 8000000 in
set_option maxRecDepth 100000 in
theorem specStartWalks_any (gv qv : Value) (g : GraphD) (q : QueryD) (k n : Int) (w : World) (hg : GraphRd w gv g) (hq : QueryRd w qv q) (hn : q.bulk ≤ 1048576) :
    Calls Tryz.prog 32 #[gv, qv, .int .i64 k, .int .i64 n] w fun e w' => ∃ ao cap, e = .returned (.slice ao (staL g q k n).length cap) ∧ WalksW w' w.heap.size w'.heap.size (.slice ao (staL g q k n).length cap) (staL g q k n) ∧ Fr w w' := by
  obtain ⟨gb, hgb⟩ : ∃ gb, graphB g = gb := ⟨_, rfl⟩; obtain ⟨qb, hqb⟩ : ∃ qb, qryD q = qb := ⟨_, rfl⟩; have HG := Lib.hid hg; have HQ := Lib.hid hq; obtain ⟨i0, hi, hz0, hz1, hz2⟩ := info_parts info_Walk
  have CG : Hid (∀ w', Fr w w' → Calls Tryz.prog 81 #[gv] w' fun e w'' => e = .returned (.bool gb) ∧ Fr w' w'') := Lib.hid fun w' h => by obtain ⟨u, rfl, he⟩ := HG.out; rw [← hgb]; exact specGraphOk_any u g.f0 g.f1 w' (he.fr h)
  have CQ : Hid (∀ w', Fr w w' → Calls Tryz.prog 55 #[qv] w' fun e w'' => e = .returned (.bool qb) ∧ Fr w' w'') := Lib.hid fun w' h => by rw [← hqb]; exact specQueryOk_d qv q w' (HQ.out.fr h) hn
  have CO : Hid (∀ w', Fr w w' → Calls Tryz.prog 88 #[gv, .int .i64 k, .int .i64 n] w' fun e w'' => ∃ v, e = .returned v ∧ IntsO w'' w'.heap.size v (ownL g k n) ∧ Fr w' w'') := Lib.hid fun w' h => by obtain ⟨u, rfl, he⟩ := HG.out; exact specOwned_any g u k n w' (he.fr h)
  obtain ⟨ue, rfl, he⟩ := hg; obtain ⟨ae, be, oe, ce, rfl, hce, hme, fe⟩ := he.one; obtain ⟨u1, u2, u3, rfl, r1, r2, r3⟩ := hq; obtain ⟨ao, bo, oo, co, rfl, hco, hmo, ko⟩ := r1.one; obtain ⟨ax, bx, ox, cx, rfl, hcx, hmx, kx⟩ := r2.one; obtain ⟨af, bf, of, cf, rfl, hcf, hmf, kf⟩ := r3.one; clear he fe r1 r2 r3 ko kx kf
  clear HG HQ hn
  have HME : Hid (WalksW ((((w.alloc (.cells #[.int .i64 g.f0, .slice ae g.f1.length ce] 55)).alloc (.cells #[.bool q.f0, .slice ao q.f1.length co, .slice ax q.f2.length cx, .slice af q.f3.length cf] 35)).alloc (.cells #[] 57))) (w.heap.size + 1 + 1) (w.heap.size + 1 + 1 + 1) (.slice (some ⟨w.heap.size + 1 + 1, 0, none⟩) 0 0) []) := Lib.hid ⟨made_empty (by simp) (Nat.le_refl _), RowIn.one (Nat.le_refl _) (by omega)⟩
  cases gb
  · have HL : Hid (staL g q k n = []) := Lib.hid (by unfold staL; rw [if_neg]; rintro ⟨h, _⟩; rw [hgb] at h; cases h)
    clear hgb hqb
    go_enter Tryz.func32, Tryz.ntmps32
    go_wp2_with fail
    refine (CG.out _ (by exact Qf)).mono ?_
    rintro e w1 ⟨rfl, hf1⟩
    have z1 := hf1.size
    (try simp only [World.size_alloc] at z1)
    go_wp2_with fail
    go_ret
    refine ⟨_, _, by rw [HL.out]; try rfl, ?_, by exact Qf⟩
    rw [HL.out]
    exact OwW.mono (OwW.fr HME.out hf1) (by omega) (by omega)
  cases qb
  · have HL : Hid (staL g q k n = []) := Lib.hid (by unfold staL; rw [if_neg]; rintro ⟨_, h⟩; rw [hqb] at h; cases h)
    clear hgb hqb
    go_enter Tryz.func32, Tryz.ntmps32
    go_wp2_with fail
    refine (CG.out _ (by exact Qf)).mono ?_
    rintro e w1 ⟨rfl, hf1⟩
    have B1 : Box w1 (w.heap.size + 1) #[.bool q.f0, .slice ao q.f1.length co, .slice ax q.f2.length cx, .slice af q.f3.length cf] 35 := Box.fr (Box.alloc (Box.new' (by simp)) _) hf1
    have F1 := B1.facts
    have z1 := hf1.size
    (try simp only [World.size_alloc] at z1)
    go_wp2_with fail
    refine (CQ.out _ (by exact Qf)).mono ?_
    rintro e w2 ⟨rfl, hf2⟩
    have z2 := hf2.size
    go_wp2_with fail
    go_ret
    refine ⟨_, _, by rw [HL.out]; try rfl, ?_, by exact Qf⟩
    rw [HL.out]
    exact OwW.mono (OwW.fr (OwW.fr HME.out hf1) hf2) (by omega) (by omega)
  obtain ⟨ow, how⟩ : ∃ ow, ownL g k n = ow := ⟨_, rfl⟩
  have hol : ow.length ≤ 12 := by rw [← how]; exact ownL_len
  have HL : Hid (staL g q k n = staK ow q.f2.length) := Lib.hid (by unfold staL; rw [if_pos ⟨hgb, hqb⟩, how])
  have hx4 : q.f2.length ≤ 4 := (qryB_atoms hqb).1.2
  rw [how] at CO
  clear hgb hqb how
  go_enter Tryz.func32, Tryz.ntmps32
  go_wp2_with fail
  refine (CG.out _ (by exact Qf)).mono ?_
  rintro e w1 ⟨rfl, hf1⟩
  have A1 : Box w1 w.heap.size #[.int .i64 g.f0, .slice ae g.f1.length ce] 55 := Box.fr (Box.alloc (Box.alloc (Box.new _ _ _) _) _) hf1
  have B1 : Box w1 (w.heap.size + 1) #[.bool q.f0, .slice ao q.f1.length co, .slice ax q.f2.length cx, .slice af q.f3.length cf] 35 := Box.fr (Box.alloc (Box.new' (by simp)) _) hf1
  have F1 := B1.facts
  have G1 := A1.facts
  have HM1 := Lib.hid (WalksW.fr HME.out hf1)
  have z1 := hf1.size
  (try simp only [World.size_alloc] at z1)
  go_wp2_with fail
  refine (CQ.out _ (by exact Qf)).mono ?_
  rintro e w2 ⟨rfl, hf2⟩
  have A2 := A1.fr hf2
  have B2 := B1.fr hf2
  have F2 := B2.facts
  have G2 := A2.facts
  have HM2 := Lib.hid (WalksW.fr HM1.out hf2)
  have z2 := hf2.size
  go_wp2_with fail
  refine (CO.out _ (by exact Qf)).mono ?_
  rintro e w3 ⟨v3, rfl, hO, hf3⟩
  obtain ⟨a3, c3, rfl⟩ := hO.val
  have B3 := B2.fr hf3
  have HM3 := Lib.hid (WalksW.fr HM2.out hf3)
  have z3 := hf3.size
  have hf03 : Fr w w3 := by exact Qf
  have HO := Lib.hid hO
  clear hO F1 F2 G1 G2 A1 A2 B1 B2 HME HM1 HM2 CG CQ CO
  have F3 := B3.facts
  go_wp2_with fail
  go_loopw [9, 11] (fun o i wr => ∃ (j c : Nat) (a : Option Addr) (l : List WalkR), j ≤ q.f2.length ∧ i = .int .i64 j ∧ o = .slice a l.length c ∧ Hid (l = staK ow j) ∧ Hid (WalksW wr (w.heap.size + 1 + 1) wr.heap.size (.slice a l.length c) l) ∧ Hid (Off w2.heap.size w3.heap.size (.slice a l.length c)) ∧ Hid (Ab w2.heap.size w3 wr) ∧ Box wr (w.heap.size + 1) #[.bool q.f0, .slice ao q.f1.length co, .slice ax q.f2.length cx, .slice af q.f3.length cf] 35 ∧ Fr w wr) (fun _ i _ => q.f2.length - (intOf i).toNat)
  case atStart => exact ⟨0, 0, _, [], Nat.zero_le _, rfl, rfl, Lib.hid rfl, Lib.hid (OwW.mono HM3.out (Nat.le_refl _) (by omega)), Lib.hid (Off.below (l := 0) (RowIn.mono HM3.out.2 (by omega) (by omega))), Lib.hid (Ab.refl _ _), B3, hf03⟩
  case round =>
    clear HM3 B3 F3
    obtain ⟨j, c, a, l, hj, rfl, rfl, HE, HW, HF, HA, hB, hfr⟩ := hrel
    have FB := hB.facts
    have zr := hfr.size
    have hz3 := HA.out.1
    by_cases hlt : j < q.f2.length
    · go_wp2_with fail
      obtain ⟨wo, rfl⟩ : ∃ wo : World, wo = wr := ⟨_, rfl⟩
      go_loopw [9, 12] (fun o i wr => ∃ (p c : Nat) (a : Option Addr) (l : List WalkR), p ≤ ow.length ∧ i = .int .i64 p ∧ o = .slice a l.length c ∧ Hid (l = staTo ow j p) ∧ Hid (WalksW wr (w.heap.size + 1 + 1) wr.heap.size (.slice a l.length c) l) ∧ Hid (Off w2.heap.size w3.heap.size (.slice a l.length c)) ∧ Hid (Ab w2.heap.size w3 wr) ∧ Box wr (w.heap.size + 1) #[.bool q.f0, .slice ao q.f1.length co, .slice ax q.f2.length cx, .slice af q.f3.length cf] 35 ∧ Fr w wr) (fun _ i _ => ow.length - (intOf i).toNat)
      case atStart => exact ⟨0, c, a, l, Nat.zero_le _, rfl, rfl, Lib.hid (by rw [staTo_0]; exact HE.out), HW, HF, HA, hB, hfr⟩
      case round =>
        clear HE HW HF HA hB FB zr hz3 hfr
        obtain ⟨p, c, a, l, hp, rfl, rfl, HE, HW, HF, HA, hB, hfr⟩ := hrel
        have FB := hB.facts
        have zr := hfr.size
        have hz3 := HA.out.1
        by_cases hltp : p < ow.length
        · obtain ⟨bb, hbb⟩ := IntsO.get (IntsO.ab HO.out HA.out)
          obtain ⟨rfl, hb1, hb2, hb3⟩ := hbb (by omega)
          have c0 := hb3 p hltp
          obtain ⟨x, hx⟩ : ∃ x, iAt ow p = x := ⟨_, rfl⟩
          rw [hx] at c0
          have HS : Hid (l ++ [⟨(j : Int), x, x, 0⟩] = staTo ow j (p + 1)) := Lib.hid (by rw [HE.out, staTo_step hltp, hx])
          have HLN := Lib.hid (show (l ++ [(⟨(j : Int), x, x, 0⟩ : WalkR)]).length = l.length + 1 by simp)
          have hll : l.length ≤ 60 := by
            rw [HE.out]
            have := staTo_len (ow := ow) (m := j) (k := p)
            have h2 : (j + 1) * ow.length ≤ 4 * 12 := Nat.mul_le_mul (by omega) hol
            omega
          have HCA := Lib.hid (wlk_snoc l ⟨(j : Int), x, x, 0⟩)
          clear hb3 hx hbb
          go_wp2_with fail
          go_region_law ((refine step_append_rd (by rfl) _ _ 37 (by rfl) (w.heap.size + 1 + 1) 57 i0 (.agg #[.int .i64 0, .int .i64 0, .int .i64 0, .int .i64 0]) 4 32 Tryz.underlying37 hi hz0 hz1 hz2 rfl (by decide) (.slice a l.length c) l.length (l.flatMap WalkR.cells) (by rfl) ((OwW.alloc (OwW.drew HW.out) _).1) _ 1 [.int .i64 (j : Int), .int .i64 x, .int .i64 x, .int .i64 0] (by rfl) (RdS.new (by first | rfl | (simp; done)) rfl) (by simp [Value.oneCell']) (by unfold maxLen; omega) (by omega) (by exact Qz) ?_; intro a6 c6 w6 hown hgrow hat))
          all_goals
            have z6 := hgrow.size
            (try simp only [World.size_alloc, World.size_drew] at z6)
            have hB6 := Box.gr (Box.alloc hB.drew _) hgrow (fun e => by have := HW.out.2 _ e; omega)
            have hf6 : Fr w w6 := Fr.app (by exact Qf) hgrow HW.out.2 (by omega)
            have HA6 := Lib.hid (Ab.gr2 (show Ab w2.heap.size w3 _ from (HA.out.drew).alloc _) hgrow HF.out)
            have HF6 := Lib.hid (Off.app HF.out hat (by simp; omega))
            have HW6 : Hid (WalksW w6 (w.heap.size + 1 + 1) w6.heap.size (.slice a6 (l ++ [(⟨(j : Int), x, x, 0⟩ : WalkR)]).length c6) (l ++ [⟨(j : Int), x, x, 0⟩])) := Lib.hid (by
              have := OwW.of_owns hown
              rw [← HCA.out, ← HLN.out] at this
              exact this)
            go_wp2_with fail
            go_roundw
            case rel => exact ⟨p + 1, c6, a6, l ++ [⟨(j : Int), x, x, 0⟩], by omega, by go_num, by rw [HLN.out], HS, HW6, by rw [HLN.out]; exact HF6, HA6, hB6, hf6⟩
            case measure => (simp [intOf]; omega)
        · obtain rfl : p = ow.length := by omega
          go_wp2_with fail
          go_roundw
          case rel => exact ⟨j + 1, c, a, l, by omega, by go_num, rfl, Lib.hid (by rw [HE.out, staTo_all]), HW, HF, HA, hB, hfr⟩
          case measure => (simp [intOf]; omega)
    · obtain rfl : j = q.f2.length := by omega
      go_wp2_with fail
      go_ret
      refine ⟨_, _, by rw [HL.out, ← HE.out]; try rfl, ?_, hfr⟩
      rw [HL.out, ← HE.out]
      exact OwW.mono HW.out (by omega) (Nat.le_refl _)
end Go.Proofs.YtmdgdnkllclpcaaGreat

/- StartWalks of the program. Conditions: the bound on the query that the law gives. -/
namespace Go.Proofs.YtmdgdnkllclpcaaGreat
open Go.RowKit
set_option linter.unusedVariables false
set_option linter.unusedSimpArgs false
set_option maxHeartbeats 8000000 in
set_option maxRecDepth 100000 in
theorem implStartWalks_any (gv qv : Value) (g : GraphD) (q : QueryD) (k n : Int) (w : World) (hg : GraphRd w gv g) (hq : QueryRd w qv q) (hn : q.bulk ≤ 1048576) :
    Calls Tryz.prog 33 #[gv, qv, .int .i64 k, .int .i64 n] w fun e w' => ∃ ao cap, e = .returned (.slice ao (staL g q k n).length cap) ∧ WalksW w' w.heap.size w'.heap.size (.slice ao (staL g q k n).length cap) (staL g q k n) ∧ Fr w w' := by
  obtain ⟨gb, hgb⟩ : ∃ gb, graphB g = gb := ⟨_, rfl⟩; obtain ⟨qb, hqb⟩ : ∃ qb, qryD q = qb := ⟨_, rfl⟩; have HG := Lib.hid hg; have HQ := Lib.hid hq; obtain ⟨i0, hi, hz0, hz1, hz2⟩ := info_parts info_Walk
  have CG : Hid (∀ w', Fr w w' → Calls Tryz.prog 84 #[gv] w' fun e w'' => e = .returned (.bool gb) ∧ Fr w' w'') := Lib.hid fun w' h => by obtain ⟨u, rfl, he⟩ := HG.out; rw [← hgb]; exact implGraphOk_any u g.f0 g.f1 w' (he.fr h)
  have CQ : Hid (∀ w', Fr w w' → Calls Tryz.prog 62 #[qv] w' fun e w'' => e = .returned (.bool qb) ∧ Fr w' w'') := Lib.hid fun w' h => by rw [← hqb]; exact implQueryOk_d qv q w' (HQ.out.fr h) hn
  have CO : Hid (∀ w', Fr w w' → Calls Tryz.prog 89 #[gv, .int .i64 k, .int .i64 n] w' fun e w'' => ∃ v, e = .returned v ∧ IntsO w'' w'.heap.size v (ownL g k n) ∧ Fr w' w'') := Lib.hid fun w' h => by obtain ⟨u, rfl, he⟩ := HG.out; exact implOwned_any g u k n w' (he.fr h)
  obtain ⟨ue, rfl, he⟩ := hg; obtain ⟨ae, be, oe, ce, rfl, hce, hme, fe⟩ := he.one; obtain ⟨u1, u2, u3, rfl, r1, r2, r3⟩ := hq; obtain ⟨ao, bo, oo, co, rfl, hco, hmo, ko⟩ := r1.one; obtain ⟨ax, bx, ox, cx, rfl, hcx, hmx, kx⟩ := r2.one; obtain ⟨af, bf, of, cf, rfl, hcf, hmf, kf⟩ := r3.one; clear he fe r1 r2 r3 ko kx kf
  clear HG HQ hn
  cases gb
  · have HL : Hid (staL g q k n = []) := Lib.hid (by unfold staL; rw [if_neg]; rintro ⟨h, _⟩; rw [hgb] at h; cases h)
    clear hgb hqb
    go_enter Tryz.func33, Tryz.ntmps33
    go_wp2_with fail
    refine (CG.out _ (by exact Qf)).mono ?_
    rintro e w1 ⟨rfl, hf1⟩
    go_wp2_with fail
    go_ret
    refine ⟨_, _, by rw [HL.out]; try rfl, ?_, by exact Qf⟩
    rw [HL.out]
    exact WalksW.nil _ _ _
  cases qb
  · have HL : Hid (staL g q k n = []) := Lib.hid (by unfold staL; rw [if_neg]; rintro ⟨_, h⟩; rw [hqb] at h; cases h)
    clear hgb hqb
    go_enter Tryz.func33, Tryz.ntmps33
    go_wp2_with fail
    refine (CG.out _ (by exact Qf)).mono ?_
    rintro e w1 ⟨rfl, hf1⟩
    have B1 : Box w1 (w.heap.size + 1) #[.bool q.f0, .slice ao q.f1.length co, .slice ax q.f2.length cx, .slice af q.f3.length cf] 35 := Box.fr (Box.new' (by simp)) hf1
    have F1 := B1.facts
    go_wp2_with fail
    refine (CQ.out _ (by exact Qf)).mono ?_
    rintro e w2 ⟨rfl, hf2⟩
    go_wp2_with fail
    go_ret
    refine ⟨_, _, by rw [HL.out]; try rfl, ?_, by exact Qf⟩
    rw [HL.out]
    exact WalksW.nil _ _ _
  obtain ⟨ow, how⟩ : ∃ ow, ownL g k n = ow := ⟨_, rfl⟩
  have hol : ow.length ≤ 12 := by rw [← how]; exact ownL_len
  have HL : Hid (staL g q k n = staK ow q.f2.length) := Lib.hid (by unfold staL; rw [if_pos ⟨hgb, hqb⟩, how])
  have hx4 : q.f2.length ≤ 4 := (qryB_atoms hqb).1.2
  rw [how] at CO
  clear hgb hqb how
  go_enter Tryz.func33, Tryz.ntmps33
  go_wp2_with fail
  refine (CG.out _ (by exact Qf)).mono ?_
  rintro e w1 ⟨rfl, hf1⟩
  have A1 : Box w1 w.heap.size #[.int .i64 g.f0, .slice ae g.f1.length ce] 55 := Box.fr (Box.alloc (Box.new _ _ _) _) hf1
  have B1 : Box w1 (w.heap.size + 1) #[.bool q.f0, .slice ao q.f1.length co, .slice ax q.f2.length cx, .slice af q.f3.length cf] 35 := Box.fr (Box.new' (by simp)) hf1
  have F1 := B1.facts
  have G1 := A1.facts
  have z1 := hf1.size
  (try simp only [World.size_alloc] at z1)
  go_wp2_with fail
  refine (CQ.out _ (by exact Qf)).mono ?_
  rintro e w2 ⟨rfl, hf2⟩
  have A2 := A1.fr hf2
  have B2 := B1.fr hf2
  have F2 := B2.facts
  have G2 := A2.facts
  have z2 := hf2.size
  have hf02 : Fr w w2 := by exact Qf
  clear F1 G1 A1 B1 CG CQ
  go_wp2_with fail
  go_loopw [9, 24] (fun o i wr => ∃ (j c : Nat) (a : Option Addr) (l : List WalkR), j ≤ q.f2.length ∧ i = .int .i64 j ∧ o = .slice a l.length c ∧ Hid (l = staK ow j) ∧ Hid (WalksW wr (w.heap.size + 1 + 1) wr.heap.size (.slice a l.length c) l) ∧ Box wr w.heap.size #[.int .i64 g.f0, .slice ae g.f1.length ce] 55 ∧ Fr w wr) (fun _ i _ => q.f2.length - (intOf i).toNat)
  case atStart => exact ⟨0, 0, none, [], Nat.zero_le _, rfl, rfl, Lib.hid rfl, Lib.hid (WalksW.nil _ _ _), A2, hf02⟩
  case round =>
    obtain ⟨j, c, a, l, hj, rfl, rfl, HE, HW, hA, hfr⟩ := hrel
    have FA := hA.facts
    have zr := hfr.size
    by_cases hlt : j < q.f2.length
    · go_wp2_with fail
      refine (CO.out _ (by exact Qf)).mono ?_
      rintro e w3 ⟨v3, rfl, hO, hf3⟩
      obtain ⟨a3, c3, rfl⟩ := hO.val
      have A3 := hA.fr hf3
      have z3 := hf3.size
      have hf03 : Fr w w3 := by exact Qf
      have HO := Lib.hid hO
      have HW3 : Hid (WalksW w3 (w.heap.size + 1 + 1) w3.heap.size (.slice a l.length c) l) := Lib.hid (OwW.mono (OwW.fr HW.out hf3) (Nat.le_refl _) z3)
      have HF3 : Hid (Off wr.heap.size w3.heap.size (.slice a l.length c)) := Lib.hid (Off.below HW.out.2)
      obtain ⟨HH, hHH⟩ : ∃ HH, wr.heap.size = HH := ⟨_, rfl⟩
      rw [hHH] at HO HF3
      clear hO HW FA hA A2 B2 F2 G2 hHH
      have F3 := A3.facts
      go_wp2_with fail
      go_loopw [9, 32] (fun o i wr => ∃ (p c : Nat) (a : Option Addr) (l : List WalkR), p ≤ ow.length ∧ i = .int .i64 p ∧ o = .slice a l.length c ∧ Hid (l = staTo ow j p) ∧ Hid (WalksW wr (w.heap.size + 1 + 1) wr.heap.size (.slice a l.length c) l) ∧ Hid (Off HH w3.heap.size (.slice a l.length c)) ∧ Hid (Ab HH w3 wr) ∧ Box wr w.heap.size #[.int .i64 g.f0, .slice ae g.f1.length ce] 55 ∧ Fr w wr) (fun _ i _ => ow.length - (intOf i).toNat)
      case atStart => exact ⟨0, c, a, l, Nat.zero_le _, rfl, rfl, Lib.hid (by rw [staTo_0]; exact HE.out), HW3, HF3, Lib.hid (Ab.refl _ _), A3, hf03⟩
      case round =>
        clear HE HW3 HF3 A3 F3
        obtain ⟨p, c, a, l, hp, rfl, rfl, HE, HW, HF, HA, hB, hfr⟩ := hrel
        have FB := hB.facts
        have zr := hfr.size
        have hz3 := HA.out.1
        by_cases hltp : p < ow.length
        · obtain ⟨bb, hbb⟩ := IntsO.get (IntsO.ab HO.out HA.out)
          obtain ⟨rfl, hb1, hb2, hb3⟩ := hbb (by omega)
          have c0 := hb3 p hltp
          obtain ⟨x, hx⟩ : ∃ x, iAt ow p = x := ⟨_, rfl⟩
          rw [hx] at c0
          have HS : Hid (l ++ [⟨(j : Int), x, x, 0⟩] = staTo ow j (p + 1)) := Lib.hid (by rw [HE.out, staTo_step hltp, hx])
          have HLN := Lib.hid (show (l ++ [(⟨(j : Int), x, x, 0⟩ : WalkR)]).length = l.length + 1 by simp)
          have hll : l.length ≤ 60 := by
            rw [HE.out]
            have := staTo_len (ow := ow) (m := j) (k := p)
            have h2 : (j + 1) * ow.length ≤ 4 * 12 := Nat.mul_le_mul (by omega) hol
            omega
          have HCA := Lib.hid (wlk_snoc l ⟨(j : Int), x, x, 0⟩)
          clear hb3 hx hbb
          go_wp2_with (at_builtin; refine wpList_append_rd rfl _ _ 37 rfl (w.heap.size + 1 + 1) 57 i0 (.agg #[.int .i64 0, .int .i64 0, .int .i64 0, .int .i64 0]) 4 32 Tryz.underlying37 hi hz0 hz1 hz2 rfl (by decide) (.slice a l.length c) l.length (l.flatMap WalkR.cells) rfl (World.ownsRow.alloc HW.out.1 _) _ 1 [.int .i64 (j : Int), .int .i64 x, .int .i64 x, .int .i64 0] rfl (RdS.new (by first | rfl | (simp; done)) rfl) (by simp [Value.oneCell']) (by unfold maxLen; omega) (by omega) (by exact Qz) ?_; intro a6 c6 w6 hown hgrow hat)
          have z6 := hgrow.size
          (try simp only [World.size_alloc, World.size_drew] at z6)
          have hB6 := Box.gr (Box.alloc hB _) hgrow (fun e => by have := HW.out.2 _ e; omega)
          have hf6 : Fr w w6 := Fr.app (by exact Qf) hgrow HW.out.2 (by omega)
          have HA6 := Lib.hid (Ab.gr2 (show Ab HH w3 _ from HA.out.alloc _) hgrow HF.out)
          have HF6 := Lib.hid (Off.app HF.out hat (by simp; omega))
          have HW6 : Hid (WalksW w6 (w.heap.size + 1 + 1) w6.heap.size (.slice a6 (l ++ [(⟨(j : Int), x, x, 0⟩ : WalkR)]).length c6) (l ++ [⟨(j : Int), x, x, 0⟩])) := Lib.hid (by
            have := OwW.of_owns hown
            rw [← HCA.out, ← HLN.out] at this
            exact this)
          go_wp2_with fail
          go_roundw
          case rel => exact ⟨p + 1, c6, a6, l ++ [⟨(j : Int), x, x, 0⟩], by omega, by go_num, by rw [HLN.out], HS, HW6, by rw [HLN.out]; exact HF6, HA6, hB6, hf6⟩
          case measure => (simp [intOf]; omega)
        · obtain rfl : p = ow.length := by omega
          go_wp2_with fail
          go_roundw
          case rel => exact ⟨j + 1, c, a, l, by omega, by go_num, rfl, Lib.hid (by rw [HE.out, staTo_all]), HW, hB, hfr⟩
          case measure => (simp [intOf]; omega)
    · obtain rfl : j = q.f2.length := by omega
      go_wp2_with fail
      go_ret
      refine ⟨_, _, by rw [HL.out, ← HE.out]; try rfl, ?_, hfr⟩
      rw [HL.out, ← HE.out]
      exact OwW.mono HW.out (by omega) (Nat.le_refl _)
end Go.Proofs.YtmdgdnkllclpcaaGreat
