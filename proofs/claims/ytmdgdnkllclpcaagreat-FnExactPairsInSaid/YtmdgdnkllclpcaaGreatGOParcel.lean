/- Texts in one: Nmo, Nmi, Qok, SWalk, TWalk, OParcel. -/
import Derived.Test.YtmdgdnkllclpcaaGreatGQfl
import Derived.Test.YtmdgdnkllclpcaaGreatGTFilter
import Derived.Test.YtmdgdnkllclpcaaGreatGFlat
import Derived.Deep.QuietTactic
import Derived.BigQuiet
import Derived.Deep.RegionHeld3
import Derived.Test.YtmdgdnkllclpcaaGreatGApp
/- NamesOf of the reference. No condition but the bound on the atoms. -/
namespace Go.Proofs.YtmdgdnkllclpcaaGreat
open Go.RowKit
set_option linter.unusedVariables false
set_option linter.unusedSimpArgs false
def addN (l : List ByteArray) (s : ByteArray) : List ByteArray := if inB l s = true then l else l ++ [s]
def nmK (xs : List AtomR) : Nat → List ByteArray
  | 0 => []
  | k + 1 => addN (addN (nmK xs k) (atomAt xs k).f0) (atomAt xs k).f2
theorem addN_len (l : List ByteArray) (s : ByteArray) : (addN l s).length ≤ l.length + 1 := by unfold addN; split <;> simp
theorem nmK_len (xs : List AtomR) : ∀ k, (nmK xs k).length ≤ 2 * k
  | 0 => by simp [nmK]
  | k + 1 => by
    rw [nmK]
    have := nmK_len xs k
    have h1 := addN_len (nmK xs k) (atomAt xs k).f0
    have h2 := addN_len (addN (nmK xs k) (atomAt xs k).f0) (atomAt xs k).f2
    omega
theorem addN_yes {l : List ByteArray} {s : ByteArray} (h : inB l s = true) : addN l s = l := if_pos h
theorem addN_no {l : List ByteArray} {s : ByteArray} (h : inB l s = false) : addN l s = l ++ [s] := if_neg (by rw [h]; simp)
set_option maxHeartbeats 2000000 in
theorem specNamesOf_any (q : Bool) (ao af : Option Addr) (no co nf cf : Nat) (va : Value) (xs : List AtomR) (w : World) (hv : AtomsR w va xs) (hn : xs.length ≤ 1000) :
    Calls Tryz.prog 121 #[.agg #[.bool q, .slice ao no co, va, .slice af nf cf]] w fun e w' => ∃ v, e = .returned v ∧ StrsO w' w.heap.size v (nmK xs xs.length) ∧ Fr w w' := by
  obtain ⟨ax, bx, ox, cx, rfl, hcx, hmx, hfx⟩ := hv.one
  have HF := Lib.hid hfx
  obtain ⟨i0, hi, hz0, hz1, hz2⟩ := info_parts info_string
  clear hv hfx
  go_enter Tryz.func121, Tryz.ntmps121
  go_wp2_with fail
  go_loopw [3, 4] (fun o i wr => ∃ (k c : Nat) (a : Option Addr) (l : List ByteArray), k ≤ xs.length ∧ i = .int .i64 k ∧ o = .slice a l.length c ∧ Hid (l = nmK xs k) ∧ Hid (StrsO wr (w.heap.size + 1) (.slice a l.length c) l) ∧ Box wr w.heap.size #[.bool q, .slice ao no co, .slice ax xs.length cx, .slice af nf cf] 35 ∧ Fr w wr) (fun _ i _ => xs.length - (intOf i).toNat)
  case atStart => exact ⟨0, 0, some ⟨w.heap.size + 1, 0, none⟩, [], Nat.zero_le _, rfl, rfl, Lib.hid rfl, Lib.hid (made_empty (by simp) (Nat.le_refl _)), (Box.new _ _ _).alloc _, by exact Qf⟩
  case round =>
    obtain ⟨k, c, a, l, hk, rfl, rfl, HE, HO, hB, hfr⟩ := hrel
    have FB := hB.facts
    by_cases hlt : k < xs.length
    · obtain ⟨rfl, hb, hf⟩ := HF.out (by omega)
      obtain ⟨g0, g1, g2⟩ := hf k hlt
      obtain ⟨x, hx⟩ : ∃ x, atomAt xs k = x := ⟨_, rfl⟩
      rw [hx] at g0 g1 g2
      obtain ⟨x0, x1, x2⟩ := x
      simp only [] at g0 g2
      have q0 := (hfr.cell (p := ⟨bx, _, none⟩) hb).trans g0
      have q2 := (hfr.cell (p := ⟨bx, _, none⟩) hb).trans g2
      have HX := Lib.hid hx
      clear hf g1 hx
      have Q0 : Hid (∀ W, Fr w W → W.cell? ⟨bx, ox + k * 3, none⟩ = some (.string x0)) := Lib.hid fun W h => (h.cell (p := ⟨bx, _, none⟩) hb).trans g0
      have Q2 : Hid (∀ W, Fr w W → W.cell? ⟨bx, ox + k * 3 + 2, none⟩ = some (.string x2)) := Lib.hid fun W h => (h.cell (p := ⟨bx, _, none⟩) hb).trans g2
      have hll := nmK_len xs k
      rw [← HE.out] at hll
      clear g0 g2
      go_wp2_with fail
      refine (l08In_any _ l x0 _ HO.out.rd).mono ?_
      rintro e w1 ⟨rfl, hf1⟩
      have B1 := hB.fr hf1
      have F1 := B1.facts
      have fr1 : Fr w w1 := hfr.trans hf1
      have r0 := Q0.out _ fr1
      have r2 := Q2.out _ fr1
      have HO1 := Lib.hid (StrsO.fr HO.out hf1)
      cases h1 : inB l x0
      · have HA : Hid (l ++ [x0] = addN (nmK xs k) x0) := Lib.hid (by rw [← HE.out, addN_no h1])
        clear h1
        go_wp2_with (at_builtin; refine wpList_append_rd rfl _ _ 22 rfl (w.heap.size + 1) 9 i0 (.string ⟨#[]⟩) 1 16 Tryz.underlying22 hi hz0 hz1 hz2 rfl (by decide) (.slice a l.length c) l.length (l.map Value.string) rfl (World.ownsRow.alloc HO1.out _) _ 1 [.string x0] rfl (RdS.new (by first | rfl | (simp; done)) rfl) (by simp [Value.oneCell']) (by unfold maxLen; omega) (by omega) (by exact Qz) ?_; intro a2 c2 w2 hown hgrow hat; have B2 : Box w2 w.heap.size #[.bool q, .slice ao no co, .slice (some ⟨bx, ox, none⟩) xs.length cx, .slice af nf cf] 35 := Box.gr (B1.alloc _) hgrow (fun e => by have := (World.ownsRow.lt HO1.out _ e).1; omega); have F2 := B2.facts; have fr2 : Fr w w2 := append_fr fr1 (owns_lo HO1.out (by omega)) hgrow; have s0 := Q0.out _ fr2; have s2 := Q2.out _ fr2)
        obtain ⟨M, hM⟩ : ∃ M, l ++ [x0] = M := ⟨_, rfl⟩
        have hML : l.length + 1 = M.length := by rw [← hM]; simp
        have HO2 : Hid (StrsO w2 (w.heap.size + 1) (.slice a2 M.length c2) M) := Lib.hid (by unfold StrsO; rw [← hML, ← hM]; simpa using hown)
        rw [hM] at HA
        rw [hML]
        have hml : M.length ≤ 3000 := by omega
        have HML := Lib.hid hML
        clear hML hM hown hgrow hat
        refine (l08In_any _ M x2 _ (HO2).out.rd).mono ?_
        rintro e w5 ⟨rfl, hf5⟩
        have B5 := (B2).fr hf5
        have F5 := B5.facts
        have fr5 : Fr w w5 := (fr2).trans hf5
        have p0 := Q0.out _ fr5
        have p2 := Q2.out _ fr5
        have HO5 := Lib.hid (StrsO.fr (HO2).out hf5)
        cases h2 : inB M x2
        · have HH : Hid (M ++ [x2] = nmK xs (k + 1)) := Lib.hid (by rw [nmK, HX.out, ← (HA).out, addN_no h2])
          have HLN := Lib.hid (show (M ++ [x2]).length = M.length + 1 by simp)
          clear h2
          go_wp2_with (at_builtin; refine wpList_append_rd rfl _ _ 22 rfl (w.heap.size + 1) 9 i0 (.string ⟨#[]⟩) 1 16 Tryz.underlying22 hi hz0 hz1 hz2 rfl (by decide) (.slice a2 M.length c2) M.length (M.map Value.string) rfl (World.ownsRow.alloc HO5.out _) _ 1 [.string x2] rfl (RdS.new (by first | rfl | (simp; done)) rfl) (by simp [Value.oneCell']) (by unfold maxLen; omega) (by omega) (by exact Qz) ?_; intro a6 c6 w6 hown6 hgrow6 hat6; have B6 : Box w6 w.heap.size #[.bool q, .slice ao no co, .slice (some ⟨bx, ox, none⟩) xs.length cx, .slice af nf cf] 35 := Box.gr (B5.alloc _) hgrow6 (fun e => by have := (World.ownsRow.lt HO5.out _ e).1; omega); have fr6 : Fr w w6 := append_fr fr5 (owns_lo HO5.out (by omega)) hgrow6)
          have HO6 : Hid (StrsO w6 (w.heap.size + 1) (.slice a6 (M ++ [x2]).length c6) (M ++ [x2])) := Lib.hid (by unfold StrsO; rw [HLN.out]; simpa using hown6)
          rw [← HLN.out]
          go_roundw
          case rel => exact ⟨k + 1, c6, a6, M ++ [x2], by omega, by go_num, rfl, HH, HO6, B6, fr6⟩
          case measure => (simp [intOf]; omega)
        · have HH : Hid (M = nmK xs (k + 1)) := Lib.hid (by rw [nmK, HX.out, ← (HA).out, addN_yes h2])
          clear h2
          go_wp2_with fail
          go_roundw
          case rel => exact ⟨k + 1, c2, a2, M, by omega, by go_num, rfl, HH, HO5, B5, fr5⟩
          case measure => (simp [intOf]; omega)
      · have HA : Hid (l = addN (nmK xs k) x0) := Lib.hid (by rw [← HE.out, addN_yes h1])
        clear h1
        go_wp2_with fail
        refine (l08In_any _ l x2 _ (HO1).out.rd).mono ?_
        rintro e w5 ⟨rfl, hf5⟩
        have B5 := (B1).fr hf5
        have F5 := B5.facts
        have fr5 : Fr w w5 := (fr1).trans hf5
        have p0 := Q0.out _ fr5
        have p2 := Q2.out _ fr5
        have HO5 := Lib.hid (StrsO.fr (HO1).out hf5)
        cases h2 : inB l x2
        · have HH : Hid (l ++ [x2] = nmK xs (k + 1)) := Lib.hid (by rw [nmK, HX.out, ← (HA).out, addN_no h2])
          have HLN := Lib.hid (show (l ++ [x2]).length = l.length + 1 by simp)
          clear h2
          go_wp2_with (at_builtin; refine wpList_append_rd rfl _ _ 22 rfl (w.heap.size + 1) 9 i0 (.string ⟨#[]⟩) 1 16 Tryz.underlying22 hi hz0 hz1 hz2 rfl (by decide) (.slice a l.length c) l.length (l.map Value.string) rfl (World.ownsRow.alloc HO5.out _) _ 1 [.string x2] rfl (RdS.new (by first | rfl | (simp; done)) rfl) (by simp [Value.oneCell']) (by unfold maxLen; omega) (by omega) (by exact Qz) ?_; intro a6 c6 w6 hown6 hgrow6 hat6; have B6 : Box w6 w.heap.size #[.bool q, .slice ao no co, .slice (some ⟨bx, ox, none⟩) xs.length cx, .slice af nf cf] 35 := Box.gr (B5.alloc _) hgrow6 (fun e => by have := (World.ownsRow.lt HO5.out _ e).1; omega); have fr6 : Fr w w6 := append_fr fr5 (owns_lo HO5.out (by omega)) hgrow6)
          have HO6 : Hid (StrsO w6 (w.heap.size + 1) (.slice a6 (l ++ [x2]).length c6) (l ++ [x2])) := Lib.hid (by unfold StrsO; rw [HLN.out]; simpa using hown6)
          rw [← HLN.out]
          go_roundw
          case rel => exact ⟨k + 1, c6, a6, l ++ [x2], by omega, by go_num, rfl, HH, HO6, B6, fr6⟩
          case measure => (simp [intOf]; omega)
        · have HH : Hid (l = nmK xs (k + 1)) := Lib.hid (by rw [nmK, HX.out, ← (HA).out, addN_yes h2])
          clear h2
          go_wp2_with fail
          go_roundw
          case rel => exact ⟨k + 1, c, a, l, by omega, by go_num, rfl, HH, HO5, B5, fr5⟩
          case measure => (simp [intOf]; omega)
    · obtain rfl : k = xs.length := by omega
      go_wp2_with fail
      refine bodyPost_ret (v := .slice a l.length c) (by simp [results, Tryz.results121, go_sem, *]) rfl ⟨_, rfl, ?_, hfr⟩
      rw [← HE.out]
      exact owns_lo HO.out (by omega)
end Go.Proofs.YtmdgdnkllclpcaaGreat

/- NamesOf of the program. No condition but the bound on the atoms. -/
namespace Go.Proofs.YtmdgdnkllclpcaaGreat
open Go.RowKit
set_option linter.unusedVariables false
set_option linter.unusedSimpArgs false
def nmI (l : List ByteArray) (x y : ByteArray) : Nat → List ByteArray
  | 0 => l
  | 1 => addN l x
  | _ + 2 => addN (addN l x) y
theorem nmI_len (l : List ByteArray) (x y : ByteArray) (t : Nat) : (nmI l x y t).length ≤ l.length + 2 := by
  have h1 := addN_len l x
  have h2 := addN_len (addN l x) y
  unfold nmI
  split <;> omega
set_option maxHeartbeats 2000000 in
theorem implNamesOf_any (q : Bool) (ao af : Option Addr) (no co nf cf : Nat) (va : Value) (xs : List AtomR) (w : World) (hv : AtomsR w va xs) (hn : xs.length ≤ 1000) :
    Calls Tryz.prog 129 #[.agg #[.bool q, .slice ao no co, va, .slice af nf cf]] w fun e w' => ∃ v, e = .returned v ∧ StrsO w' w.heap.size v (nmK xs xs.length) ∧ Fr w w' := by
  obtain ⟨ax, bx, ox, cx, rfl, hcx, hmx, hfx⟩ := hv.one
  have HF := Lib.hid hfx
  obtain ⟨i0, hi, hz0, hz1, hz2⟩ := info_parts info_string
  clear hv hfx
  go_enter Tryz.func129, Tryz.ntmps129
  go_wp2_with fail
  go_loopw [3, 11] (fun o i wr => ∃ (k c : Nat) (a : Option Addr) (l : List ByteArray), k ≤ xs.length ∧ i = .int .i64 k ∧ o = .slice a l.length c ∧ Hid (l = nmK xs k) ∧ Hid (StrsO wr (w.heap.size + 1) (.slice a l.length c) l) ∧ Box wr w.heap.size #[.bool q, .slice ao no co, .slice ax xs.length cx, .slice af nf cf] 35 ∧ Fr w wr) (fun _ i _ => xs.length - (intOf i).toNat)
  case atStart => exact ⟨0, 0, none, [], Nat.zero_le _, rfl, rfl, Lib.hid rfl, Lib.hid (World.ownsRow_nil _ _ _ _), Box.new _ _ _, by exact Qf⟩
  case round =>
    obtain ⟨k, c, a, l, hk, rfl, rfl, HE, HO, hB, hfr⟩ := hrel
    have FB := hB.facts
    by_cases hlt : k < xs.length
    · obtain ⟨rfl, hb, hf⟩ := HF.out (by omega)
      obtain ⟨g0, g1, g2⟩ := hf k hlt
      obtain ⟨x, hx⟩ : ∃ x, atomAt xs k = x := ⟨_, rfl⟩
      rw [hx] at g0 g1 g2
      obtain ⟨x0, x1, x2⟩ := x
      simp only [] at g0 g1 g2
      have q0 := (hfr.cell (p := ⟨bx, _, none⟩) hb).trans g0
      have q1 := (hfr.cell (p := ⟨bx, _, none⟩) hb).trans g1
      have q2 := (hfr.cell (p := ⟨bx, _, none⟩) hb).trans g2
      have HX := Lib.hid hx
      have hll := nmK_len xs k
      have zr := hfr.size
      have HNG0 : Hid ((Value.slice a l.length c).ownBlock ≠ some (wr.heap.size + 1)) := Lib.hid (fun e => by have := owns_old HO.out _ e; omega)
      clear hf g0 g1 g2 hx
      go_wp2_with fail
      go_loopw [3, 21] (fun o i w' => ∃ (t c : Nat) (a : Option Addr) (l : List ByteArray), t ≤ 2 ∧ i = .int .i64 t ∧ o = .slice a l.length c ∧ Hid (l = nmI (nmK xs k) x0 x2 t) ∧ Hid (StrsO w' (w.heap.size + 1) (.slice a l.length c) l) ∧ Hid ((Value.slice a l.length c).ownBlock ≠ some (wr.heap.size + 1)) ∧ Box w' w.heap.size #[.bool q, .slice ao no co, .slice (some ⟨bx, ox, none⟩) xs.length cx, .slice af nf cf] 35 ∧ Box w' (wr.heap.size + 1) #[.string x0, .string x2] 9 ∧ Fr w w') (fun _ i _ => 2 - (intOf i).toNat)
      case atStart => exact ⟨0, c, a, l, by omega, rfl, rfl, HE, Lib.hid (StrsO.fr HO.out (by exact Qf)), HNG0, (hB.alloc _).alloc _, Box.new' (by simp), by exact Qf⟩
      case round =>
        clear HE HO HNG0 hB FB
        obtain ⟨t, c, a, l, ht, rfl, rfl, HE2, HO, HNG, hB, hG, hfr⟩ := hrel
        have FB := hB.facts
        have FG := hG.facts
        have hml := nmI_len (nmK xs k) x0 x2 t
        rw [← HE2.out] at hml
        by_cases t0 : t = 0
        · subst t0
          go_wp2_with fail
          refine (contains_any _ l x0 _ (StrsO.fr HO.out (by exact Qf)).rd).mono ?_
          rintro e w5 ⟨rfl, hf5⟩
          have B5 := hB.fr hf5
          have G5 := hG.fr hf5
          have F5 := B5.facts
          have fr5 : Fr w w5 := hfr.trans hf5
          have HO5 := Lib.hid (StrsO.fr HO.out hf5)
          cases h2 : inB l x0
          · have HH : Hid (l ++ [x0] = nmI (nmK xs k) x0 x2 1) := Lib.hid (by rw [show nmI (nmK xs k) x0 x2 1 = addN (nmI (nmK xs k) x0 x2 0) x0 from rfl, ← HE2.out, addN_no h2])
            have HLN := Lib.hid (show (l ++ [x0]).length = l.length + 1 by simp)
            clear h2
            go_wp2_with (at_builtin; refine wpList_append_rd rfl _ _ 22 rfl (w.heap.size + 1) 9 i0 (.string ⟨#[]⟩) 1 16 Tryz.underlying22 hi hz0 hz1 hz2 rfl (by decide) (.slice a l.length c) l.length (l.map Value.string) rfl (World.ownsRow.alloc HO5.out _) _ 1 [.string x0] rfl (RdS.new (by first | rfl | (simp; done)) rfl) (by simp [Value.oneCell']) (by unfold maxLen; omega) (by omega) (by exact Qz) ?_; intro a6 c6 w6 hown6 hgrow6 hat6; have B6 : Box w6 w.heap.size #[.bool q, .slice ao no co, .slice (some ⟨bx, ox, none⟩) xs.length cx, .slice af nf cf] 35 := Box.gr (B5.alloc _) hgrow6 (fun e => by have := (World.ownsRow.lt HO5.out _ e).1; omega); have fr6 : Fr w w6 := append_fr fr5 (owns_lo HO5.out (by omega)) hgrow6; have G6 := Box.gr (G5.alloc _) hgrow6 (fun e => HNG.out e))
            have HO6 : Hid (StrsO w6 (w.heap.size + 1) (.slice a6 (l ++ [x0]).length c6) (l ++ [x0])) := Lib.hid (by unfold StrsO; rw [HLN.out]; simpa using hown6)
            have HN6 : Hid ((Value.slice a6 (l ++ [x0]).length c6).ownBlock ≠ some _) := Lib.hid (by rw [HLN.out]; exact (Mvd.of_app (n := w5.heap.size) hat6 (by exact Qz)).ne (fun e => HNG.out e) G5.lt)
            rw [← HLN.out]
            go_roundw
            case rel => exact ⟨1, c6, a6, l ++ [x0], by omega, by go_num, rfl, HH, HO6, HN6, B6, G6, fr6⟩
            case measure => first | (simp [intOf]; done) | ((simp [intOf]; omega))
          · have HH : Hid (l = nmI (nmK xs k) x0 x2 1) := Lib.hid (by rw [show nmI (nmK xs k) x0 x2 1 = addN (nmI (nmK xs k) x0 x2 0) x0 from rfl, ← HE2.out, addN_yes h2])
            clear h2
            go_wp2_with fail
            go_roundw
            case rel => exact ⟨1, c, a, l, by omega, by go_num, rfl, HH, HO5, HNG, B5, G5, fr5⟩
            case measure => first | (simp [intOf]; done) | ((simp [intOf]; omega))
        · by_cases t1 : t = 1
          · subst t1
            go_wp2_with fail
            refine (contains_any _ l x2 _ (StrsO.fr HO.out (by exact Qf)).rd).mono ?_
            rintro e w5 ⟨rfl, hf5⟩
            have B5 := hB.fr hf5
            have G5 := hG.fr hf5
            have F5 := B5.facts
            have fr5 : Fr w w5 := hfr.trans hf5
            have HO5 := Lib.hid (StrsO.fr HO.out hf5)
            cases h2 : inB l x2
            · have HH : Hid (l ++ [x2] = nmI (nmK xs k) x0 x2 2) := Lib.hid (by rw [show nmI (nmK xs k) x0 x2 2 = addN (nmI (nmK xs k) x0 x2 1) x2 from rfl, ← HE2.out, addN_no h2])
              have HLN := Lib.hid (show (l ++ [x2]).length = l.length + 1 by simp)
              clear h2
              go_wp2_with (at_builtin; refine wpList_append_rd rfl _ _ 22 rfl (w.heap.size + 1) 9 i0 (.string ⟨#[]⟩) 1 16 Tryz.underlying22 hi hz0 hz1 hz2 rfl (by decide) (.slice a l.length c) l.length (l.map Value.string) rfl (World.ownsRow.alloc HO5.out _) _ 1 [.string x2] rfl (RdS.new (by first | rfl | (simp; done)) rfl) (by simp [Value.oneCell']) (by unfold maxLen; omega) (by omega) (by exact Qz) ?_; intro a6 c6 w6 hown6 hgrow6 hat6; have B6 : Box w6 w.heap.size #[.bool q, .slice ao no co, .slice (some ⟨bx, ox, none⟩) xs.length cx, .slice af nf cf] 35 := Box.gr (B5.alloc _) hgrow6 (fun e => by have := (World.ownsRow.lt HO5.out _ e).1; omega); have fr6 : Fr w w6 := append_fr fr5 (owns_lo HO5.out (by omega)) hgrow6; have G6 := Box.gr (G5.alloc _) hgrow6 (fun e => HNG.out e))
              have HO6 : Hid (StrsO w6 (w.heap.size + 1) (.slice a6 (l ++ [x2]).length c6) (l ++ [x2])) := Lib.hid (by unfold StrsO; rw [HLN.out]; simpa using hown6)
              have HN6 : Hid ((Value.slice a6 (l ++ [x2]).length c6).ownBlock ≠ some _) := Lib.hid (by rw [HLN.out]; exact (Mvd.of_app (n := w5.heap.size) hat6 (by exact Qz)).ne (fun e => HNG.out e) G5.lt)
              rw [← HLN.out]
              go_roundw
              case rel => exact ⟨2, c6, a6, l ++ [x2], by omega, by go_num, rfl, HH, HO6, HN6, B6, G6, fr6⟩
              case measure => first | (simp [intOf]; done) | ((simp [intOf]; omega))
            · have HH : Hid (l = nmI (nmK xs k) x0 x2 2) := Lib.hid (by rw [show nmI (nmK xs k) x0 x2 2 = addN (nmI (nmK xs k) x0 x2 1) x2 from rfl, ← HE2.out, addN_yes h2])
              clear h2
              go_wp2_with fail
              go_roundw
              case rel => exact ⟨2, c, a, l, by omega, by go_num, rfl, HH, HO5, HNG, B5, G5, fr5⟩
              case measure => first | (simp [intOf]; done) | ((simp [intOf]; omega))
          · obtain rfl : t = 2 := by omega
            have HE3 : Hid (l = nmK xs (k + 1)) := Lib.hid (by rw [HE2.out, nmK, HX.out]; rfl)
            go_wp2_with fail
            go_roundw
            case rel => exact ⟨k + 1, c, a, l, by omega, by go_num, rfl, HE3, HO, hB, hfr⟩
            case measure => first | (simp [intOf]; done) | ((simp [intOf]; omega))
    · obtain rfl : k = xs.length := by omega
      go_wp2_with fail
      refine bodyPost_ret (v := .slice a l.length c) (by simp [results, Tryz.results129, go_sem, *]) rfl ⟨_, rfl, ?_, hfr⟩
      rw [← HE.out]
      exact owns_lo HO.out (by omega)
end Go.Proofs.YtmdgdnkllclpcaaGreat

/- QueryOk of the program. Conditions: bounds on the texts. -/
namespace Go.Proofs.YtmdgdnkllclpcaaGreat
open Go.RowKit
set_option linter.unusedVariables false
set_option linter.unusedSimpArgs false
def atK (xs : List AtomR) (k : Nat) : Bool := (List.range k).all fun j => atomB (atomAt xs j).f0 (atomAt xs j).f1 (atomAt xs j).f2
def fiK (ns : List ByteArray) (fs : List FilterR) (k : Nat) : Bool := (List.range k).all fun j => filB ns (filterAt fs j).f0 (filterAt fs j).f1 (filterAt fs j).f2 (filterAt fs j).f3
def qryB (out : List ByteArray) (xs : List AtomR) (fs : List FilterR) : Bool :=
  (decide (1 ≤ xs.length ∧ xs.length ≤ 4) && decide (fs.length ≤ 3)) && (atK xs xs.length && ((decide ((nmK xs xs.length).length ≤ 4) && decide (1 ≤ out.length ∧ out.length ≤ 4)) && ((dstK out out.length && allIn (nmK xs xs.length) out) && fiK (nmK xs xs.length) fs fs.length)))
theorem all_no {p : Nat → Bool} {k n : Nat} (hk : k < n) (h : p k = false) : (List.range n).all p = false := by
  rw [List.all_eq_false]
  exact ⟨k, List.mem_range.2 hk, by rw [h]; simp⟩
theorem all_step {p : Nat → Bool} {k : Nat} (h : p k = true) (h0 : (List.range k).all p = true) : (List.range (k + 1)).all p = true := by
  rw [List.range_succ, List.all_append, h0]
  simp [h]
set_option maxHeartbeats 4000000 in
theorem implQueryOk_any (q : Bool) (vo va vf : Value) (out : List ByteArray) (xs : List AtomR) (fs : List FilterR) (w : World) (ho : StrsR w vo out) (ha : AtomsR w va xs) (hf : FiltersR w vf fs) (hsz : ∀ k, k < xs.length → (atomAt xs k).f0.size ≤ 1048576 ∧ (atomAt xs k).f1.size ≤ 1048576 ∧ (atomAt xs k).f2.size ≤ 1048576) :
    Calls Tryz.prog 62 #[.agg #[.bool q, vo, va, vf]] w fun e w' => e = .returned (.bool (qryB out xs fs)) ∧ Fr w w' := by
  obtain ⟨ao, bo, oo, co, rfl, hco, hmo, ko⟩ := ho.one
  obtain ⟨ax, bx, ox, cx, rfl, hcx, hmx, kx⟩ := ha.one
  obtain ⟨af, bf, of, cf, rfl, hcf, hmf, kf⟩ := hf.one
  have KX := Lib.hid kx; have KF := Lib.hid kf; have HO := Lib.hid ho; have HA := Lib.hid ha; have HF := Lib.hid hf; have HSZ := Lib.hid hsz
  clear ko kx kf ho ha hf hsz
  by_cases h1 : 1 ≤ xs.length ∧ xs.length ≤ 4
  · obtain ⟨h1a, h1b⟩ := h1
    by_cases h2 : fs.length ≤ 3
    · have HQ : Hid (qryB out xs fs = (atK xs xs.length && ((decide ((nmK xs xs.length).length ≤ 4) && decide (1 ≤ out.length ∧ out.length ≤ 4)) && ((dstK out out.length && allIn (nmK xs xs.length) out) && fiK (nmK xs xs.length) fs fs.length)))) := Lib.hid (by unfold qryB; rw [decide_eq_true (⟨h1a, h1b⟩ : 1 ≤ xs.length ∧ xs.length ≤ 4), decide_eq_true h2, Bool.true_and, Bool.true_and])
      go_enter Tryz.func62, Tryz.ntmps62
      go_wp2_with fail
      go_loopw [27] (fun i wr => ∃ k : Nat, k ≤ xs.length ∧ i = .int .i64 k ∧ Hid (atK xs k = true) ∧ Box wr w.heap.size #[.bool q, .slice ao out.length co, .slice ax xs.length cx, .slice af fs.length cf] 35 ∧ Fr w wr) (fun i _ => xs.length - (intOf i).toNat)
      case atStart => exact ⟨0, Nat.zero_le _, rfl, Lib.hid rfl, Box.new _ _ _, by exact Qf⟩
      case round =>
        obtain ⟨k, hk, rfl, HL, hB, hfr⟩ := hrel
        have FB := hB.facts
        by_cases hlt : k < xs.length
        · obtain ⟨rfl, hb, hf⟩ := KX.out (by omega)
          obtain ⟨g0, g1, g2⟩ := hf k hlt
          have hs3 := HSZ.out k hlt
          obtain ⟨x, hx⟩ : ∃ x, atomAt xs k = x := ⟨_, rfl⟩
          rw [hx] at g0 g1 g2 hs3
          obtain ⟨x0, x1, x2⟩ := x
          simp only [] at g0 g1 g2 hs3
          have q0 := (hfr.cell (p := ⟨bx, _, none⟩) hb).trans g0
          have q1 := (hfr.cell (p := ⟨bx, _, none⟩) hb).trans g1
          have q2 := (hfr.cell (p := ⟨bx, _, none⟩) hb).trans g2
          have HX := Lib.hid hx
          have zr := hfr.size
          obtain ⟨s0, s1, s2⟩ := hs3
          clear hf g0 g1 g2 hx
          go_wp2_with fail
          refine (implAtomOk_any x0 x1 x2 _ s0 s1 s2).mono ?_
          rintro e w1 ⟨rfl, hf1⟩
          cases h3 : atomB x0 x1 x2
          · have HN : Hid (qryB out xs fs = false) := Lib.hid (by rw [HQ.out, show atK xs xs.length = false from all_no hlt (by rw [HX.out]; exact h3)]; rfl)
            clear h3
            go_wp2_with fail
            go_ret
            exact ⟨ret_bool (by rw [HN.out]), by exact Qf⟩
          · have HS : Hid (atK xs (k + 1) = true) := Lib.hid (all_step (by rw [HX.out]; exact h3) HL.out)
            clear h3
            go_wp2_with fail
            go_roundw
            case rel => exact ⟨k + 1, by omega, by go_num, HS, (hB.alloc _).fr hf1, by exact Qf⟩
            case measure => (simp [intOf]; omega)
        · obtain rfl : k = xs.length := by omega
          go_wp2_with fail
          refine (implNamesOf_any q ao af out.length co fs.length cf _ xs _ (HA.out.fr hfr) (by omega)).mono ?_
          rintro e w1 ⟨v, rfl, hN, hf1⟩
          obtain ⟨an, cn, rfl⟩ := hN.val
          have B1 := hB.fr hf1
          have F1 := B1.facts
          have HQ2 : Hid (qryB out xs fs = ((decide ((nmK xs xs.length).length ≤ 4) && decide (1 ≤ out.length ∧ out.length ≤ 4)) && ((dstK out out.length && allIn (nmK xs xs.length) out) && fiK (nmK xs xs.length) fs fs.length))) := Lib.hid (by rw [HQ.out, HL.out, Bool.true_and])
          obtain ⟨ns, hns⟩ : ∃ ns, nmK xs xs.length = ns := ⟨_, rfl⟩
          rw [hns] at hN HQ2
          rw [hns]
          have HNS := Lib.hid (StrsO.rd hN)
          clear hns hN
          by_cases h5 : ns.length ≤ 4 ∧ (1 ≤ out.length ∧ out.length ≤ 4)
          · have HQ3 : Hid (qryB out xs fs = ((dstK out out.length && allIn ns out) && fiK ns fs fs.length)) := Lib.hid (by rw [HQ2.out, decide_eq_true h5.1, decide_eq_true h5.2]; rfl)
            obtain ⟨h5a, h5b, h5c⟩ := h5
            go_wp2_with fail
            refine (areDistinct_any _ out _ (HO.out.fr (by exact Qf))).mono ?_
            rintro e w2 ⟨rfl, hf2⟩
            have B2 := B1.fr hf2
            have F2 := B2.facts
            cases h6 : dstK out out.length
            · have HN : Hid (qryB out xs fs = false) := Lib.hid (by rw [HQ3.out, h6]; rfl)
              clear h6
              go_wp2_with fail
              go_ret
              exact ⟨ret_bool (by rw [HN.out]), by exact Qf⟩
            · have H6 := Lib.hid h6
              clear h6
              go_wp2_with fail
              refine (containsAll_any _ _ ns out _ (HNS.out.fr (by exact Qf)) (HO.out.fr (by exact Qf))).mono ?_
              rintro e w3 ⟨rfl, hf3⟩
              have B3 := B2.fr hf3
              have F3 := B3.facts
              cases h7 : allIn ns out
              · have HN : Hid (qryB out xs fs = false) := Lib.hid (by rw [HQ3.out, H6.out, h7]; rfl)
                clear h7
                go_wp2_with fail
                go_ret
                exact ⟨ret_bool (by rw [HN.out]), by exact Qf⟩
              · have HQ4 : Hid (qryB out xs fs = fiK ns fs fs.length) := Lib.hid (by rw [HQ3.out, H6.out, h7]; rfl)
                have HN3 := Lib.hid (HNS.out.fr (show Fr w1 w3 by exact Qf))
                have fr3 : Fr w w3 := by exact Qf
                clear h7
                go_wp2_with fail
                go_loopw [66] (fun i w' => ∃ k : Nat, k ≤ fs.length ∧ i = .int .i64 k ∧ Hid (fiK ns fs k = true) ∧ Fr w3 w') (fun i _ => fs.length - (intOf i).toNat)
                case atStart => exact ⟨0, Nat.zero_le _, rfl, Lib.hid rfl, Fr.refl _⟩
                case round =>
                  obtain ⟨j, hj, rfl, HL4, hfr4⟩ := hrel
                  by_cases hlt4 : j < fs.length
                  · obtain ⟨rfl, hb, hf⟩ := KF.out (by omega)
                    obtain ⟨g0, g1, g2, g3⟩ := hf j hlt4
                    obtain ⟨x, hx⟩ : ∃ x, filterAt fs j = x := ⟨_, rfl⟩
                    rw [hx] at g0 g1 g2 g3
                    obtain ⟨x0, x1, x2, x3⟩ := x
                    simp only [] at g0 g1 g2 g3
                    have fr4 : Fr w wr := fr3.trans hfr4
                    have q0 := (fr4.cell (p := ⟨bf, _, none⟩) hb).trans g0
                    have q1 := (fr4.cell (p := ⟨bf, _, none⟩) hb).trans g1
                    have q2 := (fr4.cell (p := ⟨bf, _, none⟩) hb).trans g2
                    have q3 := (fr4.cell (p := ⟨bf, _, none⟩) hb).trans g3
                    have HX := Lib.hid hx
                    clear hf g0 g1 g2 g3 hx
                    go_wp2_with fail
                    refine (filterOk_any _ ns x0 x2 x1 x3 _ (HN3.out.fr (by exact Qf))).mono ?_
                    rintro e w5 ⟨rfl, hf5⟩
                    cases h8 : filB ns x0 x1 x2 x3
                    · have HN : Hid (qryB out xs fs = false) := Lib.hid (by rw [HQ4.out, show fiK ns fs fs.length = false from all_no hlt4 (by rw [HX.out]; exact h8)])
                      clear h8
                      go_wp2_with fail
                      go_ret
                      exact ⟨ret_bool (by rw [HN.out]), by exact Qf⟩
                    · have HS : Hid (fiK ns fs (j + 1) = true) := Lib.hid (all_step (by rw [HX.out]; exact h8) HL4.out)
                      clear h8
                      go_wp2_with fail
                      go_roundw
                      case rel => exact ⟨j + 1, by omega, by go_num, HS, by exact Qf⟩
                      case measure => (simp [intOf]; omega)
                  · obtain rfl : j = fs.length := by omega
                    go_wp2_with fail
                    go_ret
                    exact ⟨ret_bool (by rw [HQ4.out, HL4.out]), by exact Qf⟩
          · have HN : Hid (qryB out xs fs = false) := Lib.hid (by
              rw [HQ2.out]
              by_cases h6 : ns.length ≤ 4
              · rw [decide_eq_false (fun h => h5 ⟨h6, h⟩)]; simp
              · rw [decide_eq_false h6]; rfl)
            go_wp2_with fail
            all_goals first | (exfalso; omega) | (go_ret; exact ⟨ret_bool (by rw [HN.out]), by exact Qf⟩)
    · have HN : Hid (qryB out xs fs = false) := Lib.hid (by unfold qryB; rw [decide_eq_false h2]; simp)
      go_enter Tryz.func62, Tryz.ntmps62
      go_wp2_with fail
      go_ret
      exact ⟨ret_bool (by rw [HN.out]), by exact Qf⟩
  · have HN : Hid (qryB out xs fs = false) := Lib.hid (by unfold qryB; rw [decide_eq_false h1]; simp)
    go_enter Tryz.func62, Tryz.ntmps62
    go_wp2_with fail
    all_goals first | (exfalso; omega) | (go_ret; exact ⟨ret_bool (by rw [HN.out]), by exact Qf⟩)
end Go.Proofs.YtmdgdnkllclpcaaGreat

/- The struct Walk and slices of it: what they read as; the laws' helpers. No condition but the sizes that the reading gives. (Printed by mk_structs.py.) -/
namespace Go.Proofs.YtmdgdnkllclpcaaGreat
open Go.RowKit
set_option linter.unusedVariables false
set_option linter.unusedSimpArgs false

structure WalkR where
  f0 : Int
  f1 : Int
  f2 : Int
  f3 : Int
instance : Inhabited WalkR := ⟨⟨default, default, default, default⟩⟩
def WalkR.cells (x : WalkR) : List Value := [.int .i64 x.f0, .int .i64 x.f1, .int .i64 x.f2, .int .i64 x.f3]
theorem WalkR.cells_length (x : WalkR) : x.cells.length = 4 := rfl
def walkAt (l : List WalkR) (k : Nat) : WalkR := l.getD k default
theorem WalkR.ext' {x y : WalkR} (h0 : x.f0 = y.f0) (h1 : x.f1 = y.f1) (h2 : x.f2 = y.f2) (h3 : x.f3 = y.f3) : x = y := by cases x; cases y; simp_all

def WalksR (w : World) (v : Value) (xs : List WalkR) : Prop := RdS w 4 v xs.length (xs.flatMap WalkR.cells)
theorem WalksR.fr {w w' : World} {v : Value} {xs : List WalkR} (h : WalksR w v xs) (hf : Fr w w') : WalksR w' v xs := RdS.fr h hf
theorem WalksR.le {w : World} {v : Value} {xs : List WalkR} (h : WalksR w v xs) : xs.length ≤ 9223372036854775807 := RdS.le h
theorem walk_flat (xs : List WalkR) (k j : Nat) (hk : k < xs.length) (hj : j < 4) (d : Value) : (xs.flatMap WalkR.cells).getD (k * 4 + j) d = (walkAt xs k).cells.getD j d := by
  induction xs generalizing k with
  | nil => simp at hk
  | cons x xs ih =>
    rw [List.flatMap_cons]
    cases k with
    | zero => simp [List.getD, List.getElem?_append_left (show j < x.cells.length by rw [WalkR.cells_length]; exact hj), walkAt]
    | succ k =>
      have := ih k (by simpa using hk)
      simp only [List.getD] at this ⊢
      rw [List.getElem?_append_right (by rw [WalkR.cells_length]; omega), show (k + 1) * 4 + j - x.cells.length = k * 4 + j by rw [WalkR.cells_length]; omega, this]
      simp [walkAt]
theorem WalksR.one {w : World} {v : Value} {xs : List WalkR} (h : WalksR w v xs) :
    ∃ ao b o cap, v = .slice ao xs.length cap ∧ xs.length ≤ cap ∧ cap ≤ 9223372036854775807 ∧ (0 < xs.length → ao = some ⟨b, o, none⟩ ∧ b < w.heap.size ∧ ∀ k, k < xs.length → w.cell? ⟨b, o + k * 4, none⟩ = some (.int .i64 (walkAt xs k).f0) ∧ w.cell? ⟨b, o + k * 4 + 1, none⟩ = some (.int .i64 (walkAt xs k).f1) ∧ w.cell? ⟨b, o + k * 4 + 2, none⟩ = some (.int .i64 (walkAt xs k).f2) ∧ w.cell? ⟨b, o + k * 4 + 3, none⟩ = some (.int .i64 (walkAt xs k).f3)) := by
  obtain ⟨ao, b, o, cap, h1, h2, h3, h4⟩ := RdS.one h undef
  refine ⟨ao, b, o, cap, h1, h2, h3, fun hn => ⟨(h4 hn).1, (h4 hn).2.1, fun k hk => ?_⟩⟩
  have hc := (h4 hn).2.2
  exact ⟨by have := hc (k * 4 + 0) (by omega); rw [walk_flat xs k 0 hk (by omega)] at this; exact this, by have := hc (k * 4 + 1) (by omega); rw [walk_flat xs k 1 hk (by omega)] at this; exact this, by have := hc (k * 4 + 2) (by omega); rw [walk_flat xs k 2 hk (by omega)] at this; exact this, by have := hc (k * 4 + 3) (by omega); rw [walk_flat xs k 3 hk (by omega)] at this; exact this⟩

theorem toWalk_any (x : WalkR) (w : World) :
    Calls Tryz.prog 27 #[.agg #[.int .i64 x.f0, .int .i64 x.f1, .int .i64 x.f2, .int .i64 x.f3]] w fun e w' => e = .returned (.agg #[.int .i64 x.f0, .int .i64 x.f1, .int .i64 x.f2, .int .i64 x.f3]) ∧ Fr w w' := by
  go_enter Tryz.func27, Tryz.ntmps27
  go_wp2
  exact bodyPost_ret (v := .agg #[.int .i64 x.f0, .int .i64 x.f1, .int .i64 x.f2, .int .i64 x.f3]) (by simp [results, Tryz.results27, go_sem]) rfl ⟨rfl, by exact Qf⟩

theorem eqWalk_same (x : WalkR) (w : World) :
    Calls Tryz.prog 75 #[.agg #[.int .i64 x.f0, .int .i64 x.f1, .int .i64 x.f2, .int .i64 x.f3], .agg #[.int .i64 x.f0, .int .i64 x.f1, .int .i64 x.f2, .int .i64 x.f3]] w fun e w' => e = .returned (.bool true) ∧ Fr w w' := by
  go_enter Tryz.func75, Tryz.ntmps75
  go_wp2
  go_ret
  exact ⟨rfl, by exact Qf⟩

def WalkR.bulk (x : WalkR) : Nat := 0
def WalkR.okSize (x : WalkR) : Prop := True

theorem info_Walk : (Tryz.prog.info? 57).map (fun i => (i.zero, i.size, i.bytes)) = some (some (.agg #[.int .i64 0, .int .i64 0, .int .i64 0, .int .i64 0]), 4, 32) := by kernel_rfl
def WalksO (w : World) (lo : Nat) (v : Value) (xs : List WalkR) : Prop := w.ownsRow lo 57 4 v xs.length (xs.flatMap WalkR.cells)
theorem WalksO.rd {w : World} {lo : Nat} {v : Value} {xs : List WalkR} (h : WalksO w lo v xs) : WalksR w v xs := RdS.of_owns h
theorem WalksO.val {w : World} {lo : Nat} {v : Value} {xs : List WalkR} (h : WalksO w lo v xs) : ∃ ao cap, v = .slice ao xs.length cap := owns_val h
theorem WalksO.fr {w w' : World} {lo : Nat} {v : Value} {xs : List WalkR} (h : WalksO w lo v xs) (hf : Fr w w') : WalksO w' lo v xs := owns_fr h hf
def sumWalk (xs : List WalkR) (k : Nat) : Nat := ((xs.take k).map WalkR.bulk).sum
theorem sumWalk_succ (xs : List WalkR) (k : Nat) (h : k < xs.length) : sumWalk xs (k + 1) = sumWalk xs k + (walkAt xs k).bulk := by
  unfold sumWalk walkAt
  rw [List.take_succ_eq_append_getElem h, List.map_append, List.sum_append]
  simp [List.getD, List.getElem?_eq_getElem h]
theorem sumWalk_le (xs : List WalkR) (k : Nat) : sumWalk xs k ≤ sumWalk xs xs.length := by
  unfold sumWalk
  rw [List.take_length]
  conv => rhs; rw [← List.take_append_drop k xs]
  rw [List.map_append, List.sum_append]
  omega
def WalksBulk (xs : List WalkR) : Nat := xs.length + sumWalk xs xs.length
theorem walk_mem {xs : List WalkR} {p : WalkR → Prop} (h : ∀ x ∈ xs, p x) (k : Nat) (hk : k < xs.length) : p (walkAt xs k) := by
  have := h xs[k] (List.getElem_mem hk)
  simpa [walkAt, List.getD, List.getElem?_eq_getElem hk] using this

theorem szWalkS_any (a : Value) (xs : List WalkR) (left : Int) (w : World) (ha : WalksR w a xs) (h0 : 0 ≤ left) (h1 : left ≤ 1048576) :
    Calls Tryz.prog 12 #[a, .int .i64 left] w fun e w' => e = .returned (.int .i64 (szR left xs.length)) ∧ w = w' := by
  obtain ⟨ao, ba, oa, ca, rfl, hca, hma, fa⟩ := ha.one
  clear ha fa
  by_cases hl : (xs.length : Int) ≤ left
  · have hr := szR_ok hl
    go_enter Tryz.func12, Tryz.ntmps12
    go_wp2
    go_ret
    exact ⟨ret_int (by first | rfl | exact hr.symm), rfl⟩
  · have hr := szR_no hl
    go_enter Tryz.func12, Tryz.ntmps12
    go_wp2
    go_ret
    exact ⟨ret_int (by first | rfl | exact hr.symm), rfl⟩

theorem walk_fill (xs : List WalkR) (k : Nat) (hk : k < xs.length) : (((((fillR xs WalkR.cells [.int .i64 0, .int .i64 0, .int .i64 0, .int .i64 0] k).set (k * 4) (Value.int .i64 (walkAt xs k).f0)).set (k * 4 + 1) (Value.int .i64 (walkAt xs k).f1)).set (k * 4 + 2) (Value.int .i64 (walkAt xs k).f2)).set (k * 4 + 3) (Value.int .i64 (walkAt xs k).f3)) = fillR xs WalkR.cells [.int .i64 0, .int .i64 0, .int .i64 0, .int .i64 0] (k + 1) := by
  rw [fillR_split xs WalkR.cells [.int .i64 0, .int .i64 0, .int .i64 0, .int .i64 0] k hk]
  have ha : ((xs.take k).flatMap WalkR.cells).length = k * 4 := flat_len xs WalkR.cells 4 WalkR.cells_length k (Nat.le_of_lt hk)
  rw [set_mid _ _ _ 0 _ (by rw [ha]; rfl) (by simp)]
  rw [set_mid _ _ _ 1 _ (by rw [ha]) (by simp)]
  rw [set_mid _ _ _ 2 _ (by rw [ha]) (by simp)]
  rw [set_mid _ _ _ 3 _ (by rw [ha]) (by simp)]
  rw [fillR_next xs WalkR.cells [.int .i64 0, .int .i64 0, .int .i64 0, .int .i64 0] k hk]
  rfl
set_option maxHeartbeats 400000 in
theorem toWalkS_any (a : Value) (xs : List WalkR) (w : World) (ha : WalksR w a xs) (hn : xs.length ≤ 1048576) :
    Calls Tryz.prog 15 #[a] w fun e w' => ∃ v, e = .returned v ∧ WalksO w' w.heap.size v xs ∧ Fr w w' := by
  obtain ⟨ao, ba, oa, ca, rfl, hca, hma, fa⟩ := ha.one
  clear ha
  obtain ⟨i0, hi, hz0, hz1, hz2⟩ := info_parts info_Walk
  go_enter Tryz.func15, Tryz.ntmps15
  go_wp2_with (at_make; refine wpList_make_full _ rfl _ _ 37 rfl w.heap.size 57 i0 (.agg #[.int .i64 0, .int .i64 0, .int .i64 0, .int .i64 0]) 4 Tryz.underlying37 hi hz0 hz1 _ _ _ _ xs.length rfl rfl rfl rfl (by rw [hz2]; omega) (by unfold maxLen; omega) (by omega) ?_; intro w1 hown hgrow)
  rw [show (madeCells (Value.cells (.agg #[.int .i64 0, .int .i64 0, .int .i64 0, .int .i64 0])) (xs.length * 4)).toList = fillR xs WalkR.cells [.int .i64 0, .int .i64 0, .int .i64 0, .int .i64 0] 0 from made_fill xs WalkR.cells [.int .i64 0, .int .i64 0, .int .i64 0, .int .i64 0] 4 rfl (by omega)] at hown
  go_loopw [4] (fun i wr => ∃ k : Nat, k ≤ xs.length ∧ i = .int .i64 k ∧ wr.ownsRow w.heap.size 57 4 (.slice (some ⟨w.heap.size, 0, none⟩) xs.length xs.length) xs.length (fillR xs WalkR.cells [.int .i64 0, .int .i64 0, .int .i64 0, .int .i64 0] k) ∧ Fr w wr) (fun i _ => xs.length - (intOf i).toNat)
  case atStart => exact ⟨0, Nat.zero_le _, rfl, hown, (Fr.refl w).grown hgrow (by simp)⟩
  case round =>
    clear hown hgrow
    obtain ⟨k, hk, rfl, ho, hfr⟩ := hrel
    by_cases hlt : k < xs.length
    · obtain ⟨rfl, hba, fa⟩ := fa (by omega)
      obtain ⟨x, hx⟩ : ∃ x, walkAt xs k = x := ⟨_, rfl⟩
      have c0 : wr.cell? ⟨ba, oa + k * 4, none⟩ = some (.int .i64 x.f0) := (hfr.cell (p := ⟨ba, _, none⟩) hba).trans (hx ▸ (fa k hlt).1)
      have c1 : wr.cell? ⟨ba, oa + k * 4 + 1, none⟩ = some (.int .i64 x.f1) := (hfr.cell (p := ⟨ba, _, none⟩) hba).trans (hx ▸ (fa k hlt).2.1)
      have c2 : wr.cell? ⟨ba, oa + k * 4 + 2, none⟩ = some (.int .i64 x.f2) := (hfr.cell (p := ⟨ba, _, none⟩) hba).trans (hx ▸ (fa k hlt).2.2.1)
      have c3 : wr.cell? ⟨ba, oa + k * 4 + 3, none⟩ = some (.int .i64 x.f3) := (hfr.cell (p := ⟨ba, _, none⟩) hba).trans (hx ▸ (fa k hlt).2.2.2)
      have hfl := Lib.hid (walk_fill xs k hlt)
      rw [hx] at hfl
      have hgs : w.heap.size < wr.heap.size := (ho.lt _ rfl).2
      clear fa hx
      go_wp2_with (go_at_call 27; refine (toWalk_any x _).mono ?_; rintro e w2 ⟨rfl, hf1⟩; have ho2 := owns_fr ho hf1; have g0 := ho2.frozenAt (k * 4); obtain ⟨u0, d0⟩ := owns_cell ho2 (k * 4) (by omega); have g1 := ho2.frozenAt (k * 4 + 1); obtain ⟨u1, d1⟩ := owns_cell ho2 (k * 4 + 1) (by omega); have g2 := ho2.frozenAt (k * 4 + 2); obtain ⟨u2, d2⟩ := owns_cell ho2 (k * 4 + 2) (by omega); have g3 := ho2.frozenAt (k * 4 + 3); obtain ⟨u3, d3⟩ := owns_cell ho2 (k * 4 + 3) (by omega))
      have ho2 := owns_fr ho hf1
      have s0 := ho2.stored (k * 4) (.int .i64 x.f0)
      have s1 := s0.1.stored (k * 4 + 1) (.int .i64 x.f1)
      have s2 := s1.1.stored (k * 4 + 2) (.int .i64 x.f2)
      have s3 := s2.1.stored (k * 4 + 3) (.int .i64 x.f3)
      go_roundw
      case rel => exact ⟨k + 1, by omega, by go_num, hfl.out ▸ s3.1, by exact Qf⟩
      case measure => (simp [intOf]; omega)
    · clear fa
      obtain rfl : k = xs.length := by omega
      rw [fillR_all] at ho
      go_wp2
      go_ret
      exact ⟨_, rfl, ho, hfr⟩

theorem eqWalkS_same (a b : Value) (xs : List WalkR) (w : World) (ha : WalksR w a xs) (hb : WalksR w b xs) :
    Calls Tryz.prog 19 #[a, b] w fun e w' => e = .returned (.bool true) ∧ Fr w w' := by
  obtain ⟨ao, ba, oa, ca, rfl, hca, hma, fa⟩ := ha.one
  obtain ⟨bo, bb, ob, cb, rfl, hcb, hmb, fb⟩ := hb.one
  clear ha hb
  go_enter Tryz.func19, Tryz.ntmps19
  go_wp2
  go_loopw [5] (fun i wr => ∃ k : Nat, k ≤ xs.length ∧ i = .int .i64 k ∧ Fr w wr) (fun i _ => xs.length - (intOf i).toNat)
  case atStart => exact ⟨0, Nat.zero_le _, rfl, Fr.refl _⟩
  case round =>
    obtain ⟨k, hk, rfl, hfr⟩ := hrel
    by_cases hlt : k < xs.length
    · obtain ⟨rfl, hba, fa⟩ := fa (by omega)
      obtain ⟨rfl, hbb, fb⟩ := fb (by omega)
      obtain ⟨x, hx⟩ : ∃ x, walkAt xs k = x := ⟨_, rfl⟩
      have c0 : ∀ w', Fr wr w' → w'.cell? ⟨ba, oa + k * 4, none⟩ = some (.int .i64 x.f0) := fun w' hf => ((hfr.trans hf).cell (p := ⟨ba, _, none⟩) hba).trans (hx ▸ (fa k hlt).1)
      have c1 : ∀ w', Fr wr w' → w'.cell? ⟨ba, oa + k * 4 + 1, none⟩ = some (.int .i64 x.f1) := fun w' hf => ((hfr.trans hf).cell (p := ⟨ba, _, none⟩) hba).trans (hx ▸ (fa k hlt).2.1)
      have c2 : ∀ w', Fr wr w' → w'.cell? ⟨ba, oa + k * 4 + 2, none⟩ = some (.int .i64 x.f2) := fun w' hf => ((hfr.trans hf).cell (p := ⟨ba, _, none⟩) hba).trans (hx ▸ (fa k hlt).2.2.1)
      have c3 : ∀ w', Fr wr w' → w'.cell? ⟨ba, oa + k * 4 + 3, none⟩ = some (.int .i64 x.f3) := fun w' hf => ((hfr.trans hf).cell (p := ⟨ba, _, none⟩) hba).trans (hx ▸ (fa k hlt).2.2.2)
      have e0 : ∀ w', Fr wr w' → w'.cell? ⟨bb, ob + k * 4, none⟩ = some (.int .i64 x.f0) := fun w' hf => ((hfr.trans hf).cell (p := ⟨bb, _, none⟩) hbb).trans (hx ▸ (fb k hlt).1)
      have e1 : ∀ w', Fr wr w' → w'.cell? ⟨bb, ob + k * 4 + 1, none⟩ = some (.int .i64 x.f1) := fun w' hf => ((hfr.trans hf).cell (p := ⟨bb, _, none⟩) hbb).trans (hx ▸ (fb k hlt).2.1)
      have e2 : ∀ w', Fr wr w' → w'.cell? ⟨bb, ob + k * 4 + 2, none⟩ = some (.int .i64 x.f2) := fun w' hf => ((hfr.trans hf).cell (p := ⟨bb, _, none⟩) hbb).trans (hx ▸ (fb k hlt).2.2.1)
      have e3 : ∀ w', Fr wr w' → w'.cell? ⟨bb, ob + k * 4 + 3, none⟩ = some (.int .i64 x.f3) := fun w' hf => ((hfr.trans hf).cell (p := ⟨bb, _, none⟩) hbb).trans (hx ▸ (fb k hlt).2.2.2)
      clear fa fb hx
      go_wp2_with fail
      go_region_held3 (fun w' => Fr wr w') (repeat (first | (with_reducible exact Fr.refl _) | (with_reducible assumption) | (with_reducible refine Fr.drewN ?_ _) | (with_reducible refine Fr.drew ?_) | (with_reducible refine Fr.alloc ?_ _) | (with_reducible refine Fr.setCell ?_ (by exact Qz) _) | (with_reducible refine Fr.trans ?_ (by with_reducible assumption)))) (first | (go_at_call 75; refine (eqWalk_same x _).mono ?_; rintro e w2 ⟨rfl, hf1⟩))
      go_wp2_with fail
      go_roundw
      case rel => exact ⟨k + 1, by omega, by go_num, by exact Qf⟩
      case measure => (simp [intOf]; omega)
    · clear fa fb
      go_wp2
      go_ret
      exact ⟨rfl, hfr⟩
end Go.Proofs.YtmdgdnkllclpcaaGreat

/- Marks of slices of Walk; their interface. (Printed by mk_types.py.) No condition but the sizes that the reading gives. -/
namespace Go.Proofs.YtmdgdnkllclpcaaGreat
open Go.RowKit
set_option linter.unusedVariables false
set_option linter.unusedSimpArgs false

def mkWalk (k : Int) : WalkR := ⟨k, (k + 1), (k + 1 + 1), (k + 1 + 1 + 1)⟩
def mkWalks (k : Int) (n : Nat) : List WalkR := (List.range n).map fun i : Nat => mkWalk (k + 4 * i)
theorem mkWalks_length (k : Int) (n : Nat) : (mkWalks k n).length = n := by simp [mkWalks]
theorem mkWalks_at (k : Int) (n j : Nat) (h : j < n) : walkAt (mkWalks k n) j = mkWalk (k + 4 * j) := by simp [mkWalks, walkAt, List.getD, h]
theorem walk_oneCells (xs : List WalkR) : ∀ u ∈ xs.flatMap WalkR.cells, u.oneCell' = true := by
  intro u hu
  obtain ⟨x, _, h⟩ := List.mem_flatMap.1 hu
  simp only [WalkR.cells, List.mem_cons, List.not_mem_nil, or_false] at h
  rcases h with rfl | rfl | rfl | rfl <;> rfl
def WalksW (w : World) (lo hi : Nat) (v : Value) (xs : List WalkR) : Prop := OwW w lo hi 57 4 v xs.length (xs.flatMap WalkR.cells)
theorem WalksW.rd {w : World} {lo hi : Nat} {v : Value} {xs : List WalkR} (h : WalksW w lo hi v xs) : WalksR w v xs := OwW.rd h
theorem WalksW.val {w : World} {lo hi : Nat} {v : Value} {xs : List WalkR} (h : WalksW w lo hi v xs) : ∃ ao cap, v = .slice ao xs.length cap := OwW.val h
theorem WalksW.fr {w w' : World} {lo hi : Nat} {v : Value} {xs : List WalkR} (h : WalksW w lo hi v xs) (hf : Fr w w') : WalksW w' lo hi v xs := OwW.fr h hf
theorem WalksW.span {w w' : World} {lo hi : Nat} {v : Value} {xs : List WalkR} (h : WalksW w lo hi v xs) {a b : Nat} (s : Span a b w w') (hd : hi ≤ a ∨ b ≤ lo) : WalksW w' lo hi v xs := OwW.span h s hd
theorem WalksW.nil (w : World) (lo hi : Nat) : WalksW w lo hi (.slice none 0 0) [] := OwW.nil _ _ _ _ _
theorem toWalkS_w (a : Value) (xs : List WalkR) (w : World) (ha : WalksR w a xs) (hn : xs.length ≤ 1048576) :
    Calls Tryz.prog 15 #[a] w fun e w' => ∃ ao cap, e = .returned (.slice ao xs.length cap) ∧ WalksW w' w.heap.size w'.heap.size (.slice ao xs.length cap) xs ∧ Fr w w' :=
  (toWalkS_any a xs w ha hn).mono fun e w' h => by
    obtain ⟨v, rfl, ho, hf⟩ := h
    obtain ⟨ao, cap, rfl⟩ := ho.val
    exact ⟨ao, cap, rfl, OwW.of_owns ho, hf⟩
theorem walk_part (new old : List WalkR) (m : Nat) (hm : m < old.length) (hl : new.length = old.length) : (((((partR new old WalkR.cells m).set (m * 4) (Value.int .i64 (walkAt new m).f0)).set (m * 4 + 1) (Value.int .i64 (walkAt new m).f1)).set (m * 4 + 2) (Value.int .i64 (walkAt new m).f2)).set (m * 4 + 3) (Value.int .i64 (walkAt new m).f3)) = partR new old WalkR.cells (m + 1) := by
  rw [partR_split new old WalkR.cells m hm]
  have ha : ((new.take m).flatMap WalkR.cells).length = m * 4 := flat_len new WalkR.cells 4 WalkR.cells_length m (by omega)
  rw [set_mid _ _ _ 0 _ (by rw [ha]; rfl) (by rw [WalkR.cells_length]; omega)]
  rw [set_mid _ _ _ 1 _ (by rw [ha]) (by simp only [List.length_set]; rw [WalkR.cells_length]; omega)]
  rw [set_mid _ _ _ 2 _ (by rw [ha]) (by simp only [List.length_set]; rw [WalkR.cells_length]; omega)]
  rw [set_mid _ _ _ 3 _ (by rw [ha]) (by simp only [List.length_set]; rw [WalkR.cells_length]; omega)]
  rw [partR_next new old WalkR.cells m (by omega)]
  rfl
set_option maxHeartbeats 1000000 in
set_option maxRecDepth 100000 in
theorem markWalkS_any (g n cap : Nat) (xs : List WalkR) (k : Int) (lo : Nat) (w : World) (ha : w.ownsRow lo 57 4 (.slice (some ⟨g, 0, none⟩) n cap) n (xs.flatMap WalkR.cells)) (hn : xs.length = n) (h0 : 0 < k) (h1 : k + 4 * n ≤ 4611686018427387904) :
    Calls Tryz.prog 21 #[.slice (some ⟨g, 0, none⟩) n cap, .int .i64 k] w fun e w' => e = .returned (.int .i64 (k + 4 * n)) ∧ w'.ownsRow lo 57 4 (.slice (some ⟨g, 0, none⟩) n cap) n ((mkWalks k n).flatMap WalkR.cells) ∧ w.grownBy w' (some g) := by
  have hg0 : g < w.heap.size := (ha.lt g rfl).2
  go_enter Tryz.func21, Tryz.ntmps21
  go_wp2
  go_loopw [1, 5] (fun l i wr => ∃ m : Nat, m ≤ n ∧ i = .int .i64 m ∧ l = .int .i64 (k + 4 * m) ∧ wr.ownsRow lo 57 4 (.slice (some ⟨g, 0, none⟩) n cap) n (partR (mkWalks k n) xs WalkR.cells m) ∧ w.grownBy wr (some g)) (fun _ i _ => n - (intOf i).toNat)
  case atStart => exact ⟨0, Nat.zero_le _, rfl, by simp, by rw [partR_zero]; exact ha, World.grownBy.refl _ _⟩
  case round =>
    clear ha
    obtain ⟨m, hm, rfl, rfl, ho, hfr⟩ := hrel
    by_cases hlt : m < n
    · have hp := walk_part (mkWalks k n) xs m (by omega) (by rw [mkWalks_length, hn])
      rw [mkWalks_at k n m hlt] at hp
      have HP := Lib.hid hp
      clear hp
      have f0 := ho.frozenAt (m * 4); obtain ⟨u0, c0⟩ := owns_cell ho (m * 4) (by omega); have s0 := ho.stored (m * 4) (.int .i64 (k + 4 * m))
      have f1 := s0.1.frozenAt (m * 4 + 1); obtain ⟨u1, c1⟩ := owns_cell s0.1 (m * 4 + 1) (by omega); have s1 := s0.1.stored (m * 4 + 1) (.int .i64 (k + 4 * m + 1))
      have f2 := s1.1.frozenAt (m * 4 + 2); obtain ⟨u2, c2⟩ := owns_cell s1.1 (m * 4 + 2) (by omega); have s2 := s1.1.stored (m * 4 + 2) (.int .i64 (k + 4 * m + 1 + 1))
      have f3 := s2.1.frozenAt (m * 4 + 3); obtain ⟨u3, c3⟩ := owns_cell s2.1 (m * 4 + 3) (by omega); have s3 := s2.1.stored (m * 4 + 3) (.int .i64 (k + 4 * m + 1 + 1 + 1))
      go_wp2_with fail
      go_roundw
      case rel => exact ⟨m + 1, by omega, by go_num, by go_num, HP.out ▸ s3.1, gr_trans (gr_trans (gr_trans (gr_trans hfr (s0.2)) (s1.2)) (s2.2)) (s3.2)⟩
      case measure => (simp [intOf]; omega)
    · obtain rfl : m = n := by omega
      rw [partR_all _ _ _ m (by rw [mkWalks_length]) hn] at ho
      go_wp2
      go_ret
      exact ⟨rfl, ho, hfr⟩
theorem markWalkS_w (v : Value) (xs : List WalkR) (k : Int) (lo hi : Nat) (w : World) (ha : WalksW w lo hi v xs) (h0 : 0 < k) (h1 : k + 4 * xs.length ≤ 4611686018427387904) :
    Calls Tryz.prog 21 #[v, .int .i64 k] w fun e w' => e = .returned (.int .i64 (k + 4 * xs.length)) ∧ WalksW w' lo hi v (mkWalks k xs.length) ∧ Span lo hi w w' := by
  rcases owns_shape ha.1 with ⟨rfl, hn, hx⟩ | ⟨g, cap, rfl, _⟩
  · have h3 : xs = [] := List.eq_nil_of_length_eq_zero hn
    subst h3
    clear ha hn hx
    go_enter Tryz.func21, Tryz.ntmps21
    go_wp2
    go_loopw [1, 5] (fun l i wr => i = .int .i64 0 ∧ l = .int .i64 k ∧ wr = w) (fun _ i _ => 0)
    case atStart => exact ⟨rfl, rfl, rfl⟩
    case round =>
      obtain ⟨rfl, rfl, rfl⟩ := hrel
      go_wp2
      go_ret
      exact ⟨by simp, by simpa [WalksW, mkWalks] using OwW.nil _ _ _ _ _, Span.refl _ _ _⟩
  · refine (markWalkS_any g xs.length cap xs k lo w ha.1 rfl h0 h1).mono fun e w' h => ⟨h.1, ⟨?_, ha.2⟩, Span.of_gr h.2.2 ha.2⟩
    rw [mkWalks_length]
    exact h.2.1
set_option maxHeartbeats 1000000 in
set_option maxRecDepth 100000 in
theorem heldWalkS_any (a : Value) (k : Int) (n : Nat) (w : World) (ha : WalksR w a (mkWalks k n)) (h0 : 0 < k) (h1 : k + 4 * n ≤ 4611686018427387904) :
    Calls Tryz.prog 31 #[a, .int .i64 k] w fun e w' => e = .returned (.int .i64 (k + 4 * n)) ∧ Fr w w' := by
  obtain ⟨ao, ba, oa, ca, rfl, hca, hma, fa⟩ := ha.one
  clear ha
  rw [mkWalks_length] at hca fa ⊢
  go_enter Tryz.func31, Tryz.ntmps31
  go_wp2
  go_loopw [1, 5] (fun l i wr => ∃ m : Nat, m ≤ n ∧ i = .int .i64 m ∧ l = .int .i64 (k + 4 * m) ∧ Fr w wr) (fun _ i _ => n - (intOf i).toNat)
  case atStart => exact ⟨0, Nat.zero_le _, rfl, by simp, Fr.refl _⟩
  case round =>
    obtain ⟨m, hm, rfl, rfl, hfr⟩ := hrel
    by_cases hlt : m < n
    · obtain ⟨rfl, hba, fa⟩ := fa (by omega)
      have c0 : ∀ w', Fr wr w' → w'.cell? ⟨ba, oa + m * 4, none⟩ = some (.int .i64 (k + 4 * m)) := fun w' hf => ((hfr.trans hf).cell (p := ⟨ba, _, none⟩) hba).trans ((fa m hlt).1.trans (by rw [mkWalks_at k n m hlt]; rfl))
      have c1 : ∀ w', Fr wr w' → w'.cell? ⟨ba, oa + m * 4 + 1, none⟩ = some (.int .i64 (k + 4 * m + 1)) := fun w' hf => ((hfr.trans hf).cell (p := ⟨ba, _, none⟩) hba).trans ((fa m hlt).2.1.trans (by rw [mkWalks_at k n m hlt]; rfl))
      have c2 : ∀ w', Fr wr w' → w'.cell? ⟨ba, oa + m * 4 + 2, none⟩ = some (.int .i64 (k + 4 * m + 1 + 1)) := fun w' hf => ((hfr.trans hf).cell (p := ⟨ba, _, none⟩) hba).trans ((fa m hlt).2.2.1.trans (by rw [mkWalks_at k n m hlt]; rfl))
      have c3 : ∀ w', Fr wr w' → w'.cell? ⟨ba, oa + m * 4 + 3, none⟩ = some (.int .i64 (k + 4 * m + 1 + 1 + 1)) := fun w' hf => ((hfr.trans hf).cell (p := ⟨ba, _, none⟩) hba).trans ((fa m hlt).2.2.2.trans (by rw [mkWalks_at k n m hlt]; rfl))
      clear fa
      have d0 := c0 wr (by exact Qf)
      have d1 := c1 wr (by exact Qf)
      have d2 := c2 wr (by exact Qf)
      have d3 := c3 wr (by exact Qf)
      go_wp2_with fail
      try go_quiet (fail)
      try go_wp2_with fail
      try go_wp2_with fail
      go_roundw
      case rel => exact ⟨m + 1, by omega, by go_num, by go_num, by exact Qf⟩
      case measure => (simp [intOf]; omega)
    · clear fa
      obtain rfl : m = n := by omega
      go_wp2
      go_ret
      exact ⟨rfl, hfr⟩
theorem heldWalkS_w (a : Value) (k : Int) (n : Nat) (w : World) (ha : WalksR w a (mkWalks k n)) (h0 : 0 < k) (h1 : k + 4 * n ≤ 4611686018427387904) :
    Calls Tryz.prog 31 #[a, .int .i64 k] w fun e w' => e = .returned (.int .i64 (k + 4 * n)) ∧ Fr w w' := heldWalkS_any a k n w ha h0 h1
set_option maxHeartbeats 1000000 in
set_option maxRecDepth 100000 in
theorem cloneWalk_w (v : Value) (xs : List WalkR) (w : World) (hv : WalksR w v xs) (hn : xs.length ≤ 1048576) :
    Calls Tryz.prog 91 #[v] w fun e w' => ∃ ao cap, e = .returned (.slice ao xs.length cap) ∧ WalksW w' w.heap.size w'.heap.size (.slice ao xs.length cap) xs ∧ Fr w w' := by
  obtain ⟨ao, cap, rfl, hnil⟩ := RdS.val hv
  obtain ⟨i0, hi, hz0, hz1, hz2⟩ := info_parts info_Walk
  have q : ∀ (w : World) (a : Option Addr) (n c n' c' : Nat), (binOp .eql 37 (.slice a n c) (.slice none n' c')).run Tryz.prog w = .ok (.bool a.isNone) w := fun w a n c n' c' => Lib.run_eql_slice_nil w _ _ a n c n' c' Tryz.underlying37
  cases ao with
  | none =>
    have h3 : xs = [] := List.eq_nil_of_length_eq_zero (hnil rfl)
    subst h3
    clear hnil hv
    go_enter Tryz.func91, Tryz.ntmps91
    go_wp2
    go_ret
    exact ⟨none, 0, rfl, WalksW.nil _ _ _, by exact Qf⟩
  | some a =>
    clear hnil
    have HV := Lib.hid hv
    clear hv
    go_enter Tryz.func91, Tryz.ntmps91
    go_wp2_with (at_builtin; refine wpList_append_rd rfl _ _ 37 rfl w.heap.size 57 i0 (.agg #[.int .i64 0, .int .i64 0, .int .i64 0, .int .i64 0]) 4 32 Tryz.underlying37 hi hz0 hz1 hz2 rfl (by decide) (.slice (some ⟨w.heap.size, 0, none⟩) 0 0) 0 [] rfl (World.ownsRow_made w #[] 0 (Nat.le_refl _) (Nat.zero_le _) rfl) _ xs.length (xs.flatMap WalkR.cells) rfl (RdS.fr HV.out (by exact Qf)) (walk_oneCells _) (by unfold maxLen; omega) (by omega) (by exact Qz) ?_; intro ao' cap' w1 hown hgrow hat)
    go_ret
    simp only [Nat.zero_add] at hown ⊢
    exact ⟨ao', cap', rfl, OwW.of_owns (by simpa using hown), ((Fr.refl _).alloc _).grown hgrow (by intro k hk; simp [Value.ownBlock] at hk; omega)⟩
end Go.Proofs.YtmdgdnkllclpcaaGreat

/- The struct Parcel, which holds one row: the laws' helpers. (Printed by mk_types.py.) No condition but the sizes that the reading gives. -/
namespace Go.Proofs.YtmdgdnkllclpcaaGreat
open Go.RowKit
set_option linter.unusedVariables false
set_option linter.unusedSimpArgs false

structure ParcelD where
  f0 : Int
  f1 : List WalkR
def ParcelRd (w : World) (v : Value) (d : ParcelD) : Prop := ∃ u, v = .agg #[.int .i64 d.f0, u] ∧ WalksR w u d.f1
def ParcelW (w : World) (lo hi : Nat) (v : Value) (d : ParcelD) : Prop := ∃ ao cap, v = .agg #[.int .i64 d.f0, .slice ao d.f1.length cap] ∧ WalksW w lo hi (.slice ao d.f1.length cap) d.f1
theorem ParcelRd.fr {w w' : World} {v : Value} {d : ParcelD} (h : ParcelRd w v d) (hf : Fr w w') : ParcelRd w' v d := by obtain ⟨u, h1, h2⟩ := h; exact ⟨u, h1, h2.fr hf⟩
theorem ParcelW.fr {w w' : World} {lo hi : Nat} {v : Value} {d : ParcelD} (h : ParcelW w lo hi v d) (hf : Fr w w') : ParcelW w' lo hi v d := by obtain ⟨a, c, h1, h2⟩ := h; exact ⟨a, c, h1, h2.fr hf⟩
theorem ParcelW.rd {w : World} {lo hi : Nat} {v : Value} {d : ParcelD} (h : ParcelW w lo hi v d) : ParcelRd w v d := by obtain ⟨a, c, h1, h2⟩ := h; exact ⟨_, h1, h2.rd⟩
theorem ParcelW.span {w w' : World} {lo hi : Nat} {v : Value} {d : ParcelD} (h : ParcelW w lo hi v d) {a b : Nat} (s : Span a b w w') (hd : hi ≤ a ∨ b ≤ lo) : ParcelW w' lo hi v d := by obtain ⟨x, c, h1, h2⟩ := h; exact ⟨x, c, h1, h2.span s hd⟩
theorem ParcelW.val {w : World} {lo hi : Nat} {v : Value} {d : ParcelD} (h : ParcelW w lo hi v d) : ∃ ao cap, v = .agg #[.int .i64 d.f0, .slice ao d.f1.length cap] := by obtain ⟨a, c, h1, h2⟩ := h; exact ⟨a, c, h1⟩
set_option maxHeartbeats 1000000 in
theorem toParcel_w (v : Value) (d : ParcelD) (w : World) (hv : ParcelRd w v d) (hn : d.f1.length ≤ 1048576) :
    Calls Tryz.prog 160 #[v] w fun e w' => ∃ ao cap, e = .returned (.agg #[.int .i64 d.f0, .slice ao d.f1.length cap]) ∧ ParcelW w' w.heap.size w'.heap.size (.agg #[.int .i64 d.f0, .slice ao d.f1.length cap]) d ∧ Fr w w' := by
  obtain ⟨u, rfl, hu⟩ := hv
  go_enter Tryz.func160, Tryz.ntmps160
  go_wp2_with fail
  refine (toWalkS_w _ d.f1 _ (hu.fr (by exact Qf)) hn).mono ?_
  rintro e w1 ⟨ao, ca, rfl, ho, hf⟩
  have k0 := hf.blk w.heap.size (by exact Qz); have k1 := hf.blk (w.heap.size + 1) (by exact Qz); have k2 := hf.blk (w.heap.size + 1 + 1) (by exact Qz); have z1 := hf.size; (try simp only [World.size_alloc, World.size_setCell, World.size_drew] at z1)
  go_wp2_with fail
  refine bodyPost_ret (v := .agg #[.int .i64 d.f0, .slice ao d.f1.length ca]) (by simp [results, Tryz.results160, go_sem, *]) rfl ⟨_, _, rfl, ?_, by exact Qf⟩
  exact ⟨ao, ca, rfl, OwW.mono (OwW.ab ho (by exact Qa)) (by exact Qz) (by exact Qz)⟩
set_option maxHeartbeats 1000000 in
theorem eqParcel_same (a b : Value) (d : ParcelD) (w : World) (ha : ParcelRd w a d) (hb : ParcelRd w b d) :
    Calls Tryz.prog 158 #[a, b] w fun e w' => e = .returned (.bool true) ∧ Fr w w' := by
  obtain ⟨u, rfl, hu⟩ := ha
  obtain ⟨v, rfl, hv⟩ := hb
  go_enter Tryz.func158, Tryz.ntmps158
  go_wp2_with (go_at_call 19; refine (eqWalkS_same _ _ d.f1 _ (hu.fr (by exact Qf)) (hv.fr (by exact Qf))).mono ?_; rintro e w1 ⟨rfl, hf⟩; have z1 := hf.size; (try simp only [World.size_alloc, World.size_setCell, World.size_drew] at z1); have k0 := hf.blk w.heap.size (by exact Qz); have k1 := hf.blk (w.heap.size + 1) (by exact Qz))
  go_ret
  exact ⟨rfl, by exact Qf⟩
def ParcelD.bulk (d : ParcelD) : Nat := (d.f1.length)
def ParcelD.okSize (d : ParcelD) : Prop := True
def ParcelD.cnt (d : ParcelD) : Nat := 4 * d.f1.length
set_option maxHeartbeats 1000000 in
set_option maxRecDepth 100000 in
theorem szParcel_w (v : Value) (d : ParcelD) (left : Int) (w : World) (hv : ParcelRd w v d) (hs : d.okSize) (h0 : 0 ≤ left) (h1 : left ≤ 1048576) :
    Calls Tryz.prog 159 #[v, .int .i64 left] w fun e w' => e = .returned (.int .i64 (szR left d.bulk)) ∧ Fr w w' := by
  obtain ⟨u, rfl, hu⟩ := hv
  unfold ParcelD.okSize at hs
  by_cases hl : (d.bulk : Int) ≤ left
  · have hr := szR_ok hl
    go_enter Tryz.func159, Tryz.ntmps159
    go_wp2_with (go_at_call 12; refine (szWalkS_any _ d.f1 _ _ (hu.fr (by exact Qf)) (by omega) (by omega)).mono ?_; rintro e w1 ⟨rfl, hf⟩; subst hf)
    all_goals go_ret
    all_goals exact ⟨ret_int (by first | rfl | exact hr.symm | (rw [hr]; omega) | (exfalso; unfold ParcelD.bulk at *; omega)), by exact Qf⟩
  · have hr := szR_no hl
    go_enter Tryz.func159, Tryz.ntmps159
    go_wp2_with (go_at_call 12; refine (szWalkS_any _ d.f1 _ _ (hu.fr (by exact Qf)) (by omega) (by omega)).mono ?_; rintro e w1 ⟨rfl, hf⟩; subst hf)
    all_goals go_ret
    all_goals exact ⟨ret_int (by first | rfl | exact hr.symm | (rw [hr]; omega) | (exfalso; unfold ParcelD.bulk at *; omega)), by exact Qf⟩
end Go.Proofs.YtmdgdnkllclpcaaGreat
