/- laws.turned: a text with one byte turned. Conditions: the two numbers are not negative; a bound on the text, which the law pays. -/
import Derived.Test.YtnlcgffffjjojaaSum
import Derived.Test.YtnlcgffffjjojaaDraw
import Derived.Laws.IdiomStrings
import Derived.RegionTactic
namespace Go.Proofs.Ytnlcgffffjjojaa
open Go.RowKit
set_option linter.unusedVariables false
set_option linter.unusedSimpArgs false

theorem bytesRow_at (s : ByteArray) (c i : Nat) (hi : i < s.size) : (bytesRow s c)[i]? = some (.int .u8 s[i].toNat) := by
  unfold bytesRow
  have h1 : i < s.data.size := hi
  rw [Array.getElem?_append_left (by simpa using h1), Array.getElem?_map, Array.getElem?_eq_getElem h1]
  rfl
theorem bytesRow_size (s : ByteArray) (c : Nat) : s.size ≤ (bytesRow s c).size := by
  unfold bytesRow
  rw [Array.size_append, Array.size_map]
  have : s.data.size = s.size := rfl
  omega
theorem bcell (w : World) (s : ByteArray) (c i : Nat) (T : TypeId) (z : Nat × Nat) (hi : i < s.size) : (w.alloc (.cells (bytesRow s c) T z)).cell? ⟨w.heap.size, i, none⟩ = some (.int .u8 s[i].toNat) := by
  have h := bytesRow_at s c i hi
  unfold World.cell? World.alloc
  simp [h]
theorem bfroz (w : World) (s : ByteArray) (c i : Nat) (T : TypeId) (z : Nat × Nat) (hi : i < z.1) : (w.alloc (.cells (bytesRow s c) T z)).frozen? ⟨w.heap.size, i, none⟩ = false := by
  unfold World.frozen? World.alloc
  simp
  intro h
  omega
/-- What is read of a row of bytes of which one has turned. -/
theorem turn_cells {w : World} {g i : Nat} {s : ByteArray} {c : UInt8} (hc : ∀ j (h : j < s.size), w.cell? ⟨g, j, none⟩ = some (.int .u8 s[j].toNat)) (hi : i < s.size) :
    ∀ j, j < s.size → (w.setCell ⟨g, i, none⟩ (.int .u8 c.toNat)).cell? ⟨g, 0 + j, none⟩ = some (.int .u8 ((nums (s.data.toList.set i c)).getD j 0)) := by
  intro j hj
  rw [Nat.zero_add]
  have hl : j < s.data.toList.length := by rw [Array.length_toList]; exact hj
  have hl2 : j < (nums (s.data.toList.set i c)).length := by simpa [nums] using hl
  rw [show (nums (s.data.toList.set i c)).getD j 0 = (nums (s.data.toList.set i c))[j] by simp [List.getD, List.getElem?_eq_getElem hl2]]
  simp only [nums, List.getElem_map, List.getElem_set]
  by_cases h : i = j
  · subst h
    rw [if_pos rfl]
    rw [World.cell?_setCell_same' _ _ _ (by rw [hc i hi]; rfl)]
  · rw [if_neg h]
    rw [World.cell?_setCell_other _ _ _ _ (by simp)]
    exact hc j hj
theorem convB (w : World) (s : ByteArray) : ∃ C w1, (convert 9 30 (.string s)).run Try.prog w = .ok (.slice (some ⟨w.heap.size, 0, none⟩) s.size C) w1 ∧ Fr w w1 ∧ w.heap.size < w1.heap.size ∧ (∀ j (h : j < s.size), w1.cell? ⟨w.heap.size, j, none⟩ = some (.int .u8 s[j].toNat)) ∧ (∀ j (h : j < s.size), w1.frozen? ⟨w.heap.size, j, none⟩ = false) :=
  ⟨_, _, run_bytes_of_string (P := Try.prog) w 9 30 5 s Try.underlying9 Try.underlying30 Try.underlying5, by repeat (first | (with_reducible exact Fr.refl _) | (with_reducible assumption) | (with_reducible refine Fr.drewN ?_ _) | (with_reducible refine Fr.drew ?_) | (with_reducible refine Fr.alloc ?_ _) | (with_reducible refine Fr.setCell ?_ (by (first | (with_reducible assumption) | omega | (simp only [World.size_alloc, World.size_setCell, World.size_drew, World.heap_drewN]; omega) | (simp; done) | (simp; omega))) _) | (with_reducible refine Fr.trans ?_ (by with_reducible assumption))), by show w.drew.heap.size < _; simp [World.alloc], fun j h => bcell w.drew s _ j _ _ h, fun j h => bfroz w.drew s _ j _ _ (by have := bytesRow_size s (grownCap w s.size 0 5); simp only []; omega)⟩
set_option maxHeartbeats 2000000 in
set_option maxRecDepth 100000 in
theorem turned_any (s : ByteArray) (v : Value) (ps : List Int) (w : World) (hv : IntsR w v ps) (h2 : 2 ≤ ps.length) (hr : ∀ x ∈ ps, 0 ≤ x ∧ x < 10000) (hs : s.size ≤ 1048576) :
    Calls Try.prog 53 #[.string s, v] w fun e w' => ∃ z : ByteArray, e = .returned (.string z) ∧ z.size ≤ s.size + 1 ∧ (0 < s.size → ∃ (i : Nat) (c : UInt8) (hi : i < s.data.toList.length), s.data.toList[i] ≠ c ∧ z.data.toList = s.data.toList.set i c) ∧ Fr w w' := by
  obtain ⟨ao, bp, op, cp, rfl, hcp, hmp, fp⟩ := hv.one
  obtain ⟨rfl, hbp, fp⟩ := fp (by omega)
  have c0 := fp 0 (by omega)
  have c1 := fp 1 (by omega)
  have m0 : iAt ps 0 ∈ ps := by unfold iAt; simp [List.getD, List.getElem?_eq_getElem (show 0 < ps.length by omega)]
  have m1 : iAt ps 1 ∈ ps := by unfold iAt; simp [List.getD, List.getElem?_eq_getElem (show 1 < ps.length by omega)]
  obtain ⟨p0, hp0, r0⟩ : ∃ p, iAt ps 0 = p ∧ 0 ≤ p ∧ p < 10000 := ⟨_, rfl, hr _ m0⟩
  obtain ⟨p1, hp1, r1⟩ : ∃ p, iAt ps 1 = p ∧ 0 ≤ p ∧ p < 10000 := ⟨_, rfl, hr _ m1⟩
  rw [hp0] at c0
  rw [hp1] at c1
  clear hv hr fp m0 m1 hp0 hp1
  obtain ⟨C, w1, hcv, hf1, hs1, hcl, hfz⟩ := convB w s
  rw [Nat.add_zero] at c0
  have c0 := (hf1.cell (p := ⟨bp, _, none⟩) hbp).trans c0
  have c1 := (hf1.cell (p := ⟨bp, _, none⟩) hbp).trans c1
  by_cases h0 : s.size = 0
  · go_enter Try.func53, Try.ntmps53
    go_wp2_with fail
    go_ret
    exact ⟨_, rfl, by show 1 ≤ _; omega, by repeat (first | (with_reducible exact Fr.refl _) | (with_reducible assumption) | (with_reducible refine Fr.drewN ?_ _) | (with_reducible refine Fr.drew ?_) | (with_reducible refine Fr.alloc ?_ _) | (with_reducible refine Fr.setCell ?_ (by (first | (with_reducible assumption) | omega | (simp only [World.size_alloc, World.size_setCell, World.size_drew, World.heap_drewN]; omega) | (simp; done) | (simp; omega))) _) | (with_reducible refine Fr.trans ?_ (by with_reducible assumption)))⟩
  · obtain ⟨q, hq, hq2⟩ := rem_lt (x := p0) (n := (s.size : Int)) (by omega)
    obtain ⟨r, hr1, hr2⟩ := rem_lt (x := p1) (n := 255) (by omega)
    have hql : q < s.size := by omega
    obtain ⟨k, hk⟩ : ∃ k, s[q].toNat ^^^ (1 + r) = k := ⟨_, rfl⟩
    have hk2 : k < 256 := by rw [← hk]; exact Nat.xor_lt_two_pow (n := 8) (by have := s[q].toNat_lt; omega) (by omega)
    have hkn : s[q].toNat ≠ k := by
      intro h
      rw [← hk] at h
      have h3 := congrArg (s[q].toNat ^^^ ·) h
      simp only [Nat.xor_self, ← Nat.xor_assoc, Nat.zero_xor] at h3
      omega
    have hx : bits .xor .u8 (s[q].toNat : Int) (1 + (r : Int)) = (k : Int) := by
      rw [show (1 + (r : Int)) = ((1 + r : Nat) : Int) by omega, u8_xor_nat _ _ (by have := s[q].toNat_lt; omega) (by omega), hk]
    have hn : (UInt8.ofNat k).toNat = k := by simp; omega
    have hcq := hcl q hql
    have hfq := hfz q hql
    have HCL := Lib.hid hcl
    clear hcl hfz
    have hz : ((s.size : Int) == 0) = false := by rw [beq_eq_false_iff_ne]; omega
    go_enter Try.func53, Try.ntmps53
    go_wp2_with fail
    have hcv2 : (convert 30 9 (.slice (some ⟨w.heap.size, 0, none⟩) s.size C)).run Try.prog (w1.setCell ⟨w.heap.size, q, none⟩ (.int .u8 (k : Int))).drew = .ok (.string (strOfNums (nums (s.data.toList.set q (UInt8.ofNat k))))) (w1.setCell ⟨w.heap.size, q, none⟩ (.int .u8 (k : Int))).drew := by
      refine run_convert_bytes_arg _ 30 5 Try.underlying30 Try.underlying5 w.heap.size 0 s.size C (nums (s.data.toList.set q (UInt8.ofNat k))) (by simp [nums]) (fun i hi => ?_) 9 Try.underlying9
      have := turn_cells (c := UInt8.ofNat k) HCL.out hql i hi
      rw [hn] at this
      exact this
    go_region
    all_goals
      go_wp2_with fail
      go_ret
      refine ⟨_, rfl, ?_, fun _ => ⟨q, UInt8.ofNat k, hql, ?_, ?_⟩, ?_⟩
      · rw [str_nums]
        show (s.data.toList.set q (UInt8.ofNat k)).toArray.size ≤ _
        simp
        try (show s.size ≤ s.size + 1; omega)
      · intro h
        have h3 := congrArg UInt8.toNat h
        rw [hn] at h3
        exact hkn h3
      · rw [str_nums]
      · repeat (first | (with_reducible exact Fr.refl _) | (with_reducible assumption) | (with_reducible refine Fr.drewN ?_ _) | (with_reducible refine Fr.drew ?_) | (with_reducible refine Fr.alloc ?_ _) | (with_reducible refine Fr.setCell ?_ (by (first | (with_reducible assumption) | omega | (simp only [World.size_alloc, World.size_setCell, World.size_drew, World.heap_drewN]; omega) | (simp; done) | (simp; omega))) _) | (with_reducible refine Fr.trans ?_ (by with_reducible assumption)))
end Go.Proofs.Ytnlcgffffjjojaa
