/- Links: LinkSends of the program and of the reference. No condition. -/
import Derived.Test.YtnlcgffffjjojaaLk2
import Derived.Test.YtnlcgffffjjojaaTPacket
namespace Go.Proofs.Ytnlcgffffjjojaa
open Go.RowKit
set_option linter.unusedVariables false
set_option linter.unusedSimpArgs false
def sendsN (d : LinkD) : Nat := if d.f1 < 0 then 0 else min 3 (d.f0.length - d.f1.toNat)
def sendsK (d : LinkD) (k : Nat) : List Int := (List.range k).map fun i : Nat => d.f1 + i + 1
def sendsL (d : LinkD) : List Int := sendsK d (sendsN d)
theorem sendsK_length (d : LinkD) (k : Nat) : (sendsK d k).length = k := by simp [sendsK]
theorem sendsL_length (d : LinkD) : (sendsL d).length = sendsN d := sendsK_length _ _
theorem sendsK_succ (d : LinkD) (k : Nat) : (sendsK d (k + 1)).map (Value.int .i64) = (sendsK d k).map (Value.int .i64) ++ [.int .i64 (d.f1 + k + 1)] := by simp [sendsK, List.range_succ]
theorem sendsN_le (d : LinkD) : sendsN d ≤ 3 := by unfold sendsN; split <;> omega
theorem sendsN_lt {d : LinkD} {k : Nat} (h : k < sendsN d) : 0 ≤ d.f1 ∧ d.f1 + k < d.f0.length ∧ k < 3 := by
  unfold sendsN at h; split at h <;> omega
theorem sendsN_ge {d : LinkD} (h : 0 ≤ d.f1) : ¬ d.f1 + sendsN d < d.f0.length ∨ sendsN d = 3 := by
  unfold sendsN; rw [if_neg (by omega)]; omega
theorem sends_at (d : LinkD) (k j : Nat) (h : j < k) : iAt (sendsK d k) j = d.f1 + j + 1 := by simp [sendsK, iAt, List.getD, h]
set_option maxHeartbeats 1000000 in
set_option maxRecDepth 100000 in
theorem implLinkSends_any (v : Value) (d : LinkD) (w : World) (hv : LinkRd w v d) :
    Calls Try.prog 34 #[v] w fun e w' => ∃ ao cap, e = .returned (.slice ao (sendsL d).length cap) ∧ IntsW w' w.heap.size w'.heap.size (.slice ao (sendsL d).length cap) (sendsL d) ∧ Fr w w' := by
  obtain ⟨i0, hi, hz0, hz1, hz2⟩ := info_parts info_int
  obtain ⟨u, rfl, hu⟩ := hv
  have hl := hu.le
  obtain ⟨a0, c0, rfl, _⟩ := RdS.val hu
  by_cases hneg : d.f1 < 0
  · have hN : Hid (sendsL d = []) := by unfold sendsL sendsN; rw [if_pos hneg]; rfl
    go_enter Try.func34, Try.ntmps34
    go_wp2
    go_ret
    rw [hN.out]
    exact ⟨none, 0, rfl, IntsW.nil _ _ _, by repeat (first | (with_reducible exact Fr.refl _) | (with_reducible assumption) | (with_reducible refine Fr.drewN ?_ _) | (with_reducible refine Fr.drew ?_) | (with_reducible refine Fr.alloc ?_ _) | (with_reducible refine Fr.setCell ?_ (by (first | (with_reducible assumption) | omega | (simp only [World.size_alloc, World.size_setCell, World.size_drew, World.heap_drewN]; omega) | (simp; done) | (simp; omega))) _) | (with_reducible refine Fr.trans ?_ (by with_reducible assumption)))⟩
  · skip
    have h0 : 0 ≤ d.f1 := by omega
    have h3 := sendsN_le d
    go_enter Try.func34, Try.ntmps34
    go_wp2
    go_loopw [3, 4] (fun o i wr => ∃ (k : Nat) (ao : Option Addr) (cap : Nat), k ≤ sendsN d ∧ i = .int .i64 (d.f1 + k) ∧ o = .slice ao k cap ∧ wr.ownsRow (w.heap.size + 1) 3 1 (.slice ao k cap) k ((sendsK d k).map (Value.int .i64)) ∧ Fr (w.alloc (.cells #[.slice a0 d.f0.length c0, .int .i64 d.f1, .int .i64 d.f2] 53)) wr) (fun o i _ => 3 - (match o with | .slice _ n _ => n | _ => 0))
    case atStart => exact ⟨0, none, 0, Nat.zero_le _, by simp, rfl, World.ownsRow_nil _ _ _ _, Fr.refl _⟩
    case round =>
      obtain ⟨k, ao, cap, hk, rfl, rfl, ho, hfr⟩ := hrel
      have hb := fun o => Fr.box hfr o
      have hz := hfr.size; (try simp only [World.size_alloc] at hz)
      by_cases hlt : k < sendsN d
      · obtain ⟨h1, h2, h4⟩ := sendsN_lt hlt
        go_wp2_with (at_builtin; refine wpList_append_rd rfl _ _ 36 rfl (w.heap.size + 1) 3 i0 (.int .i64 0) 1 8 Try.underlying36 hi hz0 hz1 hz2 rfl (by decide) (.slice ao k cap) k ((sendsK d k).map (Value.int .i64)) rfl (by exact owns_lo (owns_ab ho (by repeat (first | (with_reducible exact Ab.refl _ _) | (with_reducible assumption) | (with_reducible refine Ab.drewN ?_ _) | (with_reducible refine Ab.drew ?_) | (with_reducible refine Ab.alloc ?_ _) | (with_reducible refine Ab.setCell ?_ (by (first | (with_reducible assumption) | omega | (simp only [World.size_alloc, World.size_setCell, World.size_drew, World.heap_drewN]; omega) | (simp; done) | (simp; omega))) _) | (with_reducible refine Ab.fr ?_ (by with_reducible assumption))))) (by (first | (with_reducible assumption) | omega | (simp only [World.size_alloc, World.size_setCell, World.size_drew, World.heap_drewN]; omega) | (simp; done) | (simp; omega)))) _ 1 [.int .i64 (d.f1 + k + 1)] rfl (RdS.new (by simp) rfl) (by simp [Value.oneCell']) (by unfold maxLen; omega) (by omega) (by (first | (with_reducible assumption) | omega | (simp only [World.size_alloc, World.size_setCell, World.size_drew, World.heap_drewN]; omega) | (simp; done) | (simp; omega))) ?_; intro ao' cap' w1 hown hgrow hat)
        have hs := sendsK_succ d k
        rw [← hs] at hown
        have hf1 : Fr (w.alloc (.cells #[.slice a0 d.f0.length c0, .int .i64 d.f1, .int .i64 d.f2] 53)) w1 := Fr.app (show Fr (w.alloc (.cells #[.slice a0 d.f0.length c0, .int .i64 d.f1, .int .i64 d.f2] 53)) _ by repeat (first | (with_reducible exact Fr.refl _) | (with_reducible assumption) | (with_reducible refine Fr.drewN ?_ _) | (with_reducible refine Fr.drew ?_) | (with_reducible refine Fr.alloc ?_ _) | (with_reducible refine Fr.setCell ?_ (by (first | (with_reducible assumption) | omega | (simp only [World.size_alloc, World.size_setCell, World.size_drew, World.heap_drewN]; omega) | (simp; done) | (simp; omega))) _) | (with_reducible refine Fr.trans ?_ (by with_reducible assumption)))) hgrow (RowIn.of_owns ho) (by (first | (with_reducible assumption) | omega | (simp only [World.size_alloc, World.size_setCell, World.size_drew, World.heap_drewN]; omega) | (simp; done) | (simp; omega)))
        clear hs hgrow
        go_roundw
        case rel => exact ⟨k + 1, ao', cap', by omega, by go_num, rfl, hown, hf1⟩
        case measure => simp; omega
      · obtain rfl : k = sendsN d := by omega
        have hge := sendsN_ge h0
        have hN := Lib.hid (sendsL_length d)
        have hfin : Fr w wr := Fr.trans ((Fr.refl w).alloc _) hfr
        have hfr' := Lib.hid hfr
        have ho' := Lib.hid ho
        by_cases hc : d.f1 + sendsN d < d.f0.length
        · have h34 : 3 ≤ sendsN d := by omega
          clear hge
          go_wp2
          go_ret
          rw [hN.out]
          exact ⟨ao, cap, rfl, by unfold IntsW; rw [hN.out]; exact OwW.mono (OwW.of_owns ho'.out) (by omega) (Nat.le_refl _), hfin⟩
        · go_wp2
          go_ret
          rw [hN.out]
          exact ⟨ao, cap, rfl, by unfold IntsW; rw [hN.out]; exact OwW.mono (OwW.of_owns ho'.out) (by omega) (Nat.le_refl _), hfin⟩
set_option maxHeartbeats 1000000 in
set_option maxRecDepth 100000 in
theorem specLinkSends_any (v : Value) (d : LinkD) (w : World) (hv : LinkRd w v d) :
    Calls Try.prog 46 #[v] w fun e w' => ∃ ao cap, e = .returned (.slice ao (sendsL d).length cap) ∧ IntsW w' w.heap.size w'.heap.size (.slice ao (sendsL d).length cap) (sendsL d) ∧ Fr w w' := by
  obtain ⟨i0, hi, hz0, hz1, hz2⟩ := info_parts info_int
  obtain ⟨u, rfl, hu⟩ := hv
  have hl := hu.le
  obtain ⟨a0, c0, rfl, _⟩ := RdS.val hu
  by_cases hneg : d.f1 < 0
  · have hN : Hid (sendsL d = []) := by unfold sendsL sendsN; rw [if_pos hneg]; rfl
    go_enter Try.func46, Try.ntmps46
    go_wp2
    go_loopw [3, 4] (fun o i wr => i = .int .i64 d.f1 ∧ o = .slice (some ⟨w.heap.size + 1, 0, none⟩) 0 0 ∧ wr.ownsRow (w.heap.size + 1) 3 1 (.slice (some ⟨w.heap.size + 1, 0, none⟩) 0 0) 0 [] ∧ Fr (w.alloc (.cells #[.slice a0 d.f0.length c0, .int .i64 d.f1, .int .i64 d.f2] 53)) wr) (fun _ _ _ => 0)
    case atStart => exact ⟨rfl, rfl, made_empty (by simp) (Nat.le_refl _), by repeat (first | (with_reducible exact Fr.refl _) | (with_reducible assumption) | (with_reducible refine Fr.drewN ?_ _) | (with_reducible refine Fr.drew ?_) | (with_reducible refine Fr.alloc ?_ _) | (with_reducible refine Fr.setCell ?_ (by (first | (with_reducible assumption) | omega | (simp only [World.size_alloc, World.size_setCell, World.size_drew, World.heap_drewN]; omega) | (simp; done) | (simp; omega))) _) | (with_reducible refine Fr.trans ?_ (by with_reducible assumption)))⟩
    case round =>
      obtain ⟨rfl, rfl, ho, hfr⟩ := hrel
      have hb := fun o => Fr.box hfr o
      have hz := hfr.size; (try simp only [World.size_alloc] at hz)
      have hfin : Fr w wr := Fr.trans ((Fr.refl w).alloc _) hfr
      have hd : decide (0 ≤ d.f1) = false := by simp; omega
      go_wp2
      go_ret
      rw [hN.out]
      exact ⟨_, _, rfl, OwW.mono (OwW.of_owns ho) (by omega) (Nat.le_refl _), hfin⟩
  · skip
    have h0 : 0 ≤ d.f1 := by omega
    have h3 := sendsN_le d
    go_enter Try.func46, Try.ntmps46
    go_wp2
    go_loopw [3, 4] (fun o i wr => ∃ (k : Nat) (ao : Option Addr) (cap : Nat), k ≤ sendsN d ∧ i = .int .i64 (d.f1 + k) ∧ o = .slice ao k cap ∧ wr.ownsRow (w.heap.size + 1) 3 1 (.slice ao k cap) k ((sendsK d k).map (Value.int .i64)) ∧ Fr (w.alloc (.cells #[.slice a0 d.f0.length c0, .int .i64 d.f1, .int .i64 d.f2] 53)) wr) (fun o i _ => 3 - (match o with | .slice _ n _ => n | _ => 0))
    case atStart => exact ⟨0, some ⟨w.heap.size + 1, 0, none⟩, 0, Nat.zero_le _, by simp, rfl, made_empty (by simp) (Nat.le_refl _), by repeat (first | (with_reducible exact Fr.refl _) | (with_reducible assumption) | (with_reducible refine Fr.drewN ?_ _) | (with_reducible refine Fr.drew ?_) | (with_reducible refine Fr.alloc ?_ _) | (with_reducible refine Fr.setCell ?_ (by (first | (with_reducible assumption) | omega | (simp only [World.size_alloc, World.size_setCell, World.size_drew, World.heap_drewN]; omega) | (simp; done) | (simp; omega))) _) | (with_reducible refine Fr.trans ?_ (by with_reducible assumption)))⟩
    case round =>
      obtain ⟨k, ao, cap, hk, rfl, rfl, ho, hfr⟩ := hrel
      have hb := fun o => Fr.box hfr o
      have hz := hfr.size; (try simp only [World.size_alloc] at hz)
      by_cases hlt : k < sendsN d
      · obtain ⟨h1, h2, h4⟩ := sendsN_lt hlt
        go_wp2_with (at_builtin; refine wpList_append_rd rfl _ _ 36 rfl (w.heap.size + 1) 3 i0 (.int .i64 0) 1 8 Try.underlying36 hi hz0 hz1 hz2 rfl (by decide) (.slice ao k cap) k ((sendsK d k).map (Value.int .i64)) rfl (by exact owns_lo (owns_ab ho (by repeat (first | (with_reducible exact Ab.refl _ _) | (with_reducible assumption) | (with_reducible refine Ab.drewN ?_ _) | (with_reducible refine Ab.drew ?_) | (with_reducible refine Ab.alloc ?_ _) | (with_reducible refine Ab.setCell ?_ (by (first | (with_reducible assumption) | omega | (simp only [World.size_alloc, World.size_setCell, World.size_drew, World.heap_drewN]; omega) | (simp; done) | (simp; omega))) _) | (with_reducible refine Ab.fr ?_ (by with_reducible assumption))))) (by (first | (with_reducible assumption) | omega | (simp only [World.size_alloc, World.size_setCell, World.size_drew, World.heap_drewN]; omega) | (simp; done) | (simp; omega)))) _ 1 [.int .i64 (d.f1 + k + 1)] rfl (RdS.new (by simp) rfl) (by simp [Value.oneCell']) (by unfold maxLen; omega) (by omega) (by (first | (with_reducible assumption) | omega | (simp only [World.size_alloc, World.size_setCell, World.size_drew, World.heap_drewN]; omega) | (simp; done) | (simp; omega))) ?_; intro ao' cap' w1 hown hgrow hat)
        have hs := sendsK_succ d k
        rw [← hs] at hown
        have hf1 : Fr (w.alloc (.cells #[.slice a0 d.f0.length c0, .int .i64 d.f1, .int .i64 d.f2] 53)) w1 := Fr.app (show Fr (w.alloc (.cells #[.slice a0 d.f0.length c0, .int .i64 d.f1, .int .i64 d.f2] 53)) _ by repeat (first | (with_reducible exact Fr.refl _) | (with_reducible assumption) | (with_reducible refine Fr.drewN ?_ _) | (with_reducible refine Fr.drew ?_) | (with_reducible refine Fr.alloc ?_ _) | (with_reducible refine Fr.setCell ?_ (by (first | (with_reducible assumption) | omega | (simp only [World.size_alloc, World.size_setCell, World.size_drew, World.heap_drewN]; omega) | (simp; done) | (simp; omega))) _) | (with_reducible refine Fr.trans ?_ (by with_reducible assumption)))) hgrow (RowIn.of_owns ho) (by (first | (with_reducible assumption) | omega | (simp only [World.size_alloc, World.size_setCell, World.size_drew, World.heap_drewN]; omega) | (simp; done) | (simp; omega)))
        clear hs hgrow
        go_roundw
        case rel => exact ⟨k + 1, ao', cap', by omega, by go_num, rfl, hown, hf1⟩
        case measure => simp; omega
      · obtain rfl : k = sendsN d := by omega
        have hge := sendsN_ge h0
        have hN := Lib.hid (sendsL_length d)
        have hfin : Fr w wr := Fr.trans ((Fr.refl w).alloc _) hfr
        have hfr' := Lib.hid hfr
        have ho' := Lib.hid ho
        by_cases hc : d.f1 + sendsN d < d.f0.length
        · have h34 : 3 ≤ sendsN d := by omega
          clear hge
          go_wp2
          go_ret
          rw [hN.out]
          exact ⟨ao, cap, rfl, by unfold IntsW; rw [hN.out]; exact OwW.mono (OwW.of_owns ho'.out) (by omega) (Nat.le_refl _), hfin⟩
        · go_wp2
          go_ret
          rw [hN.out]
          exact ⟨ao, cap, rfl, by unfold IntsW; rw [hN.out]; exact OwW.mono (OwW.of_owns ho'.out) (by omega) (Nat.le_refl _), hfin⟩
end Go.Proofs.Ytnlcgffffjjojaa
