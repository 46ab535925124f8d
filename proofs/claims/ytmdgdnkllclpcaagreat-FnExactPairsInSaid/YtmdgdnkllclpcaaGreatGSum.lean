/- Texts in one: MQuery, Rv, Rv2, Sum. -/
import Derived.Test.YtmdgdnkllclpcaaGreatGTFilter
import Derived.Test.YtmdgdnkllclpcaaGreatGApp
import Derived.Deep.RegionHeld3
import Derived.Deep.QuietTactic
import Derived.BigQuiet
/- The struct Query, which holds several rows: the laws' helpers. (Printed by mk_multi.py.) No condition but the sizes that the reading gives. -/
namespace Go.Proofs.YtmdgdnkllclpcaaGreat
open Go.RowKit
set_option linter.unusedVariables false
set_option linter.unusedSimpArgs false

structure QueryD where
  f0 : Bool
  f1 : List ByteArray
  f2 : List AtomR
  f3 : List FilterR
def QueryRd (w : World) (v : Value) (d : QueryD) : Prop := ∃ u1 u2 u3, v = .agg #[.bool d.f0, u1, u2, u3] ∧ StrsR w u1 d.f1 ∧ AtomsR w u2 d.f2 ∧ FiltersR w u3 d.f3
theorem QueryRd.fr {w w' : World} {v : Value} {d : QueryD} (h : QueryRd w v d) (hf : Fr w w') : QueryRd w' v d := by obtain ⟨u1, u2, u3, hv, r1, r2, r3⟩ := h; exact ⟨u1, u2, u3, hv, r1.fr hf, r2.fr hf, r3.fr hf⟩
def QueryD.bulk (d : QueryD) : Nat := (strsBulk d.f1) + (AtomsBulk d.f2) + (FiltersBulk d.f3)
def QueryD.okSize (d : QueryD) : Prop := (∀ s ∈ d.f1, s.size ≤ maxLen) ∧ (∀ x ∈ d.f2, x.okSize) ∧ (∀ x ∈ d.f3, x.okSize)
set_option maxHeartbeats 2000000 in
set_option maxRecDepth 100000 in
theorem eqQuery_same (a b : Value) (d : QueryD) (w : World) (ha : QueryRd w a d) (hb : QueryRd w b d) :
    Calls Tryz.prog 18 #[a, b] w fun e w' => e = .returned (.bool true) ∧ Fr w w' := by
  obtain ⟨u1, u2, u3, rfl, r1, r2, r3⟩ := ha
  obtain ⟨x1, x2, x3, rfl, s1, s2, s3⟩ := hb
  have R1 := Lib.hid r1; have S1 := Lib.hid s1
  have R2 := Lib.hid r2; have S2 := Lib.hid s2
  have R3 := Lib.hid r3; have S3 := Lib.hid s3
  clear r1 s1 r2 s2 r3 s3
  go_enter Tryz.func18, Tryz.ntmps18
  go_wp2_with (first | (go_at_call 72; refine (eqStringS_same _ _ d.f1 _ (R1.out.fr (by exact Qf)) (S1.out.fr (by exact Qf))).mono ?_; rintro e wq1 ⟨rfl, hf1⟩; have z1 := hf1.size; (try simp only [World.size_alloc, World.size_setCell, World.size_drew] at z1); have k0 := hf1.blk w.heap.size (by exact Qz); have k1 := hf1.blk (w.heap.size + 1) (by exact Qz)) | (go_at_call 73; refine (eqAtomS_same _ _ d.f2 _ (R2.out.fr (by exact Qf)) (S2.out.fr (by exact Qf))).mono ?_; rintro e wq2 ⟨rfl, hf2⟩; have z1 := hf2.size; (try simp only [World.size_alloc, World.size_setCell, World.size_drew] at z1); have k0 := hf2.blk w.heap.size (by exact Qz); have k1 := hf2.blk (w.heap.size + 1) (by exact Qz)) | (go_at_call 74; refine (eqFilterS_same _ _ d.f3 _ (R3.out.fr (by exact Qf)) (S3.out.fr (by exact Qf))).mono ?_; rintro e wq3 ⟨rfl, hf3⟩; have z1 := hf3.size; (try simp only [World.size_alloc, World.size_setCell, World.size_drew] at z1); have k0 := hf3.blk w.heap.size (by exact Qz); have k1 := hf3.blk (w.heap.size + 1) (by exact Qz)))
  go_ret
  exact ⟨rfl, by exact Qf⟩
set_option maxHeartbeats 2000000 in
set_option maxRecDepth 100000 in
theorem szQuery_w (v : Value) (d : QueryD) (left : Int) (w : World) (hv : QueryRd w v d) (hs : d.okSize) (h0 : 0 ≤ left) (h1 : left ≤ 1048576) :
    Calls Tryz.prog 11 #[v, .int .i64 left] w fun e w' => e = .returned (.int .i64 (szR left d.bulk)) ∧ Fr w w' := by
  obtain ⟨u1, u2, u3, rfl, r1, r2, r3⟩ := hv
  unfold QueryD.okSize at hs
  obtain ⟨o1, o2, o3⟩ := hs
  have R1 := Lib.hid r1; clear r1
  have O1 := Lib.hid o1; clear o1
  obtain ⟨b1, hb1⟩ : ∃ b, strsBulk d.f1 = b := ⟨_, rfl⟩; have B1 := Lib.hid hb1; clear hb1
  have R2 := Lib.hid r2; clear r2
  have O2 := Lib.hid o2; clear o2
  obtain ⟨b2, hb2⟩ : ∃ b, AtomsBulk d.f2 = b := ⟨_, rfl⟩; have B2 := Lib.hid hb2; clear hb2
  have R3 := Lib.hid r3; clear r3
  have O3 := Lib.hid o3; clear o3
  obtain ⟨b3, hb3⟩ : ∃ b, FiltersBulk d.f3 = b := ⟨_, rfl⟩; have B3 := Lib.hid hb3; clear hb3
  have HB : Hid (d.bulk = b1 + b2 + b3) := by unfold QueryD.bulk; rw [B1.out, B2.out, B3.out]; exact rfl
  by_cases q1 : (b1 : Int) ≤ left
  · have z1 : szR left b1 = (left - b1) := szR_ok q1
    by_cases q2 : (b2 : Int) ≤ (left - b1)
    · have z2 : szR (left - b1) b2 = (left - b1 - b2) := szR_ok q2
      by_cases q3 : (b3 : Int) ≤ (left - b1 - b2)
      · have z3 : szR (left - b1 - b2) b3 = (left - b1 - b2 - b3) := szR_ok q3
        go_enter Tryz.func11, Tryz.ntmps11
        go_wp2_with (first | (go_at_call 52; refine (szStringS_any _ d.f1 left _ (R1.out.fr (by exact Qf)) O1.out (by omega) (by omega)).mono ?_; rintro e wz1 ⟨rfl, hf1⟩; subst hf1; rw [B1.out]) | (go_at_call 53; refine (szAtomS_any _ d.f2 (left - b1) _ (R2.out.fr (by exact Qf)) O2.out (by omega) (by omega)).mono ?_; rintro e wz2 ⟨rfl, hf2⟩; have z1 := hf2.size; (try simp only [World.size_alloc, World.size_setCell, World.size_drew] at z1); have k0 := hf2.blk w.heap.size (by exact Qz); rw [B2.out]) | (go_at_call 54; refine (szFilterS_any _ d.f3 (left - b1 - b2) _ (R3.out.fr (by exact Qf)) O3.out (by omega) (by omega)).mono ?_; rintro e wz3 ⟨rfl, hf3⟩; have z1 := hf3.size; (try simp only [World.size_alloc, World.size_setCell, World.size_drew] at z1); have k0 := hf3.blk w.heap.size (by exact Qz); rw [B3.out]))
        go_ret
        exact ⟨ret_int (by rw [HB.out, szR_ok (by omega)]; omega), by exact Qf⟩
      · have z3 : szR (left - b1 - b2) b3 = -1 := szR_no q3
        go_enter Tryz.func11, Tryz.ntmps11
        go_wp2_with (first | (go_at_call 52; refine (szStringS_any _ d.f1 left _ (R1.out.fr (by exact Qf)) O1.out (by omega) (by omega)).mono ?_; rintro e wz1 ⟨rfl, hf1⟩; subst hf1; rw [B1.out]) | (go_at_call 53; refine (szAtomS_any _ d.f2 (left - b1) _ (R2.out.fr (by exact Qf)) O2.out (by omega) (by omega)).mono ?_; rintro e wz2 ⟨rfl, hf2⟩; have z1 := hf2.size; (try simp only [World.size_alloc, World.size_setCell, World.size_drew] at z1); have k0 := hf2.blk w.heap.size (by exact Qz); rw [B2.out]) | (go_at_call 54; refine (szFilterS_any _ d.f3 (left - b1 - b2) _ (R3.out.fr (by exact Qf)) O3.out (by omega) (by omega)).mono ?_; rintro e wz3 ⟨rfl, hf3⟩; have z1 := hf3.size; (try simp only [World.size_alloc, World.size_setCell, World.size_drew] at z1); have k0 := hf3.blk w.heap.size (by exact Qz); rw [B3.out]))
        go_ret
        exact ⟨ret_int (by rw [HB.out, szR_no (by omega)]), by exact Qf⟩
    · have z2 : szR (left - b1) b2 = -1 := szR_no q2
      go_enter Tryz.func11, Tryz.ntmps11
      go_wp2_with (first | (go_at_call 52; refine (szStringS_any _ d.f1 left _ (R1.out.fr (by exact Qf)) O1.out (by omega) (by omega)).mono ?_; rintro e wz1 ⟨rfl, hf1⟩; subst hf1; rw [B1.out]) | (go_at_call 53; refine (szAtomS_any _ d.f2 (left - b1) _ (R2.out.fr (by exact Qf)) O2.out (by omega) (by omega)).mono ?_; rintro e wz2 ⟨rfl, hf2⟩; have z1 := hf2.size; (try simp only [World.size_alloc, World.size_setCell, World.size_drew] at z1); have k0 := hf2.blk w.heap.size (by exact Qz); rw [B2.out]))
      go_ret
      exact ⟨ret_int (by rw [HB.out, szR_no (by omega)]), by exact Qf⟩
  · have z1 : szR left b1 = -1 := szR_no q1
    go_enter Tryz.func11, Tryz.ntmps11
    go_wp2_with (first | (go_at_call 52; refine (szStringS_any _ d.f1 left _ (R1.out.fr (by exact Qf)) O1.out (by omega) (by omega)).mono ?_; rintro e wz1 ⟨rfl, hf1⟩; subst hf1; rw [B1.out]))
    go_ret
    exact ⟨ret_int (by rw [HB.out, szR_no (by omega)]), by exact Qf⟩
def QueryW (w : World) (lo hi : Nat) (v : Value) (d : QueryD) : Prop := ∃ a1 c1 a2 c2 a3 c3 m1 m2, v = .agg #[.bool d.f0, .slice a1 d.f1.length c1, .slice a2 d.f2.length c2, .slice a3 d.f3.length c3] ∧ (lo ≤ m1 ∧ m1 ≤ m2 ∧ m2 ≤ hi) ∧ StrsW w lo m1 (.slice a1 d.f1.length c1) d.f1 ∧ AtomsW w m1 m2 (.slice a2 d.f2.length c2) d.f2 ∧ FiltersW w m2 hi (.slice a3 d.f3.length c3) d.f3
theorem QueryW.fr {w w' : World} {lo hi : Nat} {v : Value} {d : QueryD} (h : QueryW w lo hi v d) (hf : Fr w w') : QueryW w' lo hi v d := by obtain ⟨a1, c1, a2, c2, a3, c3, m1, m2, h1, hm, o1, o2, o3⟩ := h; exact ⟨a1, c1, a2, c2, a3, c3, m1, m2, h1, hm, o1.fr hf, o2.fr hf, o3.fr hf⟩
theorem QueryW.rd {w : World} {lo hi : Nat} {v : Value} {d : QueryD} (h : QueryW w lo hi v d) : QueryRd w v d := by obtain ⟨a1, c1, a2, c2, a3, c3, m1, m2, h1, hm, o1, o2, o3⟩ := h; exact ⟨_, _, _, h1, o1.rd, o2.rd, o3.rd⟩
theorem QueryW.span {w w' : World} {lo hi : Nat} {v : Value} {d : QueryD} (h : QueryW w lo hi v d) {a b : Nat} (s : Span a b w w') (hd : hi ≤ a ∨ b ≤ lo) : QueryW w' lo hi v d := by obtain ⟨a1, c1, a2, c2, a3, c3, m1, m2, h1, hm, o1, o2, o3⟩ := h; exact ⟨a1, c1, a2, c2, a3, c3, m1, m2, h1, hm, o1.span s (by omega), o2.span s (by omega), o3.span s (by omega)⟩
def QueryD.cnt (d : QueryD) : Nat := 1 * d.f1.length + 3 * d.f2.length + 4 * d.f3.length
theorem QueryD.cnt_le (d : QueryD) : d.cnt ≤ 4 * d.bulk := by unfold QueryD.cnt QueryD.bulk strsBulk AtomsBulk FiltersBulk; omega
set_option maxHeartbeats 2000000 in
set_option maxRecDepth 100000 in
theorem toQuery_w (v : Value) (d : QueryD) (w : World) (hv : QueryRd w v d) (hn : d.bulk ≤ 1048576) :
    Calls Tryz.prog 14 #[v] w fun e w' => ∃ a1 c1 a2 c2 a3 c3, e = .returned (.agg #[.bool d.f0, .slice a1 d.f1.length c1, .slice a2 d.f2.length c2, .slice a3 d.f3.length c3]) ∧ QueryW w' w.heap.size w'.heap.size (.agg #[.bool d.f0, .slice a1 d.f1.length c1, .slice a2 d.f2.length c2, .slice a3 d.f3.length c3]) d ∧ Fr w w' := by
  obtain ⟨u1, u2, u3, rfl, r1, r2, r3⟩ := hv
  unfold QueryD.bulk strsBulk AtomsBulk FiltersBulk at hn
  have HN := Lib.hid hn
  clear hn
  have R1 := Lib.hid r1
  have R2 := Lib.hid r2
  have R3 := Lib.hid r3
  clear r1 r2 r3
  go_enter Tryz.func14, Tryz.ntmps14
  go_wp2_with fail
  refine (toStringS_w _ d.f1 _ (R1.out.fr (by exact Qf)) (by have := HN.out; omega)).mono ?_
  rintro e w1 ⟨a1, c1, rfl, ho1, hf1⟩
  have k0 := hf1.blk w.heap.size (by exact Qz); have k1 := hf1.blk (w.heap.size + 1) (by exact Qz); have k2 := hf1.blk (w.heap.size + 1 + 1) (by exact Qz); have z1 := hf1.size; (try simp only [World.size_alloc, World.size_setCell, World.size_drew] at z1)
  have HO1 := Lib.hid ho1
  clear ho1
  go_wp2_with fail
  refine (toAtomS_w _ d.f2 _ (R2.out.fr (by exact Qf)) (by have := HN.out; omega)).mono ?_
  rintro e w2 ⟨a2, c2, rfl, ho2, hf2⟩
  have k0 := hf2.blk w.heap.size (by exact Qz); have k1 := hf2.blk (w.heap.size + 1) (by exact Qz); have k2 := hf2.blk (w.heap.size + 1 + 1) (by exact Qz); have z2 := hf2.size; (try simp only [World.size_alloc, World.size_setCell, World.size_drew] at z2)
  have HO2 := Lib.hid ho2
  clear ho2
  go_wp2_with fail
  refine (toFilterS_w _ d.f3 _ (R3.out.fr (by exact Qf)) (by have := HN.out; omega)).mono ?_
  rintro e w3 ⟨a3, c3, rfl, ho3, hf3⟩
  have k0 := hf3.blk w.heap.size (by exact Qz); have k1 := hf3.blk (w.heap.size + 1) (by exact Qz); have k2 := hf3.blk (w.heap.size + 1 + 1) (by exact Qz); have z3 := hf3.size; (try simp only [World.size_alloc, World.size_setCell, World.size_drew] at z3)
  have HO3 := Lib.hid ho3
  clear ho3
  go_wp2_with fail
  refine bodyPost_ret (v := .agg #[.bool d.f0, .slice a1 d.f1.length c1, .slice a2 d.f2.length c2, .slice a3 d.f3.length c3]) (by simp [results, Tryz.results14, go_sem, *]) rfl ⟨_, _, _, _, _, _, rfl, ⟨_, _, _, _, _, _, w1.heap.size, w2.heap.size, rfl, ⟨?_, ?_, ?_⟩, OwW.mono (OwW.ab HO1.out (by exact Qa)) (by exact Qz) (by exact Qz), OwW.mono (OwW.ab HO2.out (by exact Qa)) (by exact Qz) (by exact Qz), OwW.mono (OwW.ab HO3.out (by exact Qa)) (by exact Qz) (by exact Qz)⟩, by exact Qf⟩
  all_goals first | (first | (with_reducible assumption) | omega | (simp only [World.size_alloc, World.size_setCell, World.size_drew, World.heap_drewN]; omega) | (simp; done) | (simp; omega)) | (simp only [World.size_alloc, World.size_setCell, World.size_drew]; omega)
def QueryD.mkd (d : QueryD) (k : Int) : QueryD := { d with f1 := mkStrs k d.f1.length, f2 := mkAtoms (k + 1 * d.f1.length) d.f2.length, f3 := mkFilters ((k + 1 * d.f1.length) + 3 * d.f2.length) d.f3.length }
theorem QueryD.mkd_cnt (d : QueryD) (k : Int) : (d.mkd k).cnt = d.cnt := by simp [QueryD.cnt, QueryD.mkd, mkStrs_length, mkAtoms_length, mkFilters_length]
set_option maxHeartbeats 2000000 in
set_option maxRecDepth 100000 in
theorem markQuery_w (v : Value) (d : QueryD) (k : Int) (lo hi : Nat) (w : World) (ha : QueryW w lo hi v d) (hh : hi ≤ w.heap.size) (h0 : 0 < k) (h1 : k + d.cnt ≤ 1073741824) :
    Calls Tryz.prog 20 #[v, .int .i64 k] w fun e w' => e = .returned (.int .i64 (k + d.cnt)) ∧ QueryW w' lo hi v (d.mkd k) ∧ Span lo hi w w' := by
  unfold QueryD.cnt at h1 ⊢
  obtain ⟨a1, c1, a2, c2, a3, c3, m1, m2, rfl, ⟨hm0, hm1, hm2⟩, o1, o2, o3⟩ := ha
  have O1 := Lib.hid o1; clear o1
  have O2 := Lib.hid o2; clear o2
  have O3 := Lib.hid o3; clear o3
  obtain ⟨k_1, hk1⟩ : ∃ q : Int, k + 1 * (d.f1.length : Int) = q := ⟨_, rfl⟩
  have hp1 : 0 < k_1 := by omega
  obtain ⟨k_2, hk2⟩ : ∃ q : Int, k_1 + 3 * (d.f2.length : Int) = q := ⟨_, rfl⟩
  have hp2 : 0 < k_2 := by omega
  have hb1 : k_1 + 3 * (d.f2.length : Int) ≤ 1073741824 := by omega
  have hb2 : k_2 + 4 * (d.f3.length : Int) ≤ 1073741824 := by omega
  have HK1 := Lib.hid hk1; clear hk1
  have HK2 := Lib.hid hk2; clear hk2
  go_enter Tryz.func20, Tryz.ntmps20
  go_wp2_with fail
  refine (markStringS_w _ d.f1 k lo m1 _ (O1.out.fr (by exact Qf)) (by omega) (by omega)).mono ?_
  rintro e w1 ⟨rfl, q1, sp1⟩
  rw [HK1.out]
  have zs1 := sp1.size; (try simp only [World.size_alloc] at zs1)
  have B1 := (Box.new w _ _).span sp1 (.inr (by exact Qz))
  have F1 := B1.facts
  have Q1_1 := Lib.hid q1; clear q1
  have p2 := OwW.span (O2.out.fr (show Fr w (w.alloc _) by exact Qf)) sp1 (by omega); have P2_1 := Lib.hid p2; clear p2
  have p3 := OwW.span (O3.out.fr (show Fr w (w.alloc _) by exact Qf)) sp1 (by omega); have P3_1 := Lib.hid p3; clear p3
  go_wp2_with fail
  refine (markAtomS_w _ d.f2 k_1 m1 m2 _ P2_1.out (by omega) (by omega)).mono ?_
  rintro e w2 ⟨rfl, q2, sp2⟩
  rw [HK2.out]
  have zs2 := sp2.size; (try simp only [World.size_alloc] at zs2)
  have B2 := (B1).span sp2 (.inr (by exact Qz))
  have F2 := B2.facts
  clear F1
  have Q2_2 := Lib.hid q2; clear q2
  have p1 := OwW.span Q1_1.out sp2 (by omega); have Q1_2 := Lib.hid p1; clear p1
  have p3 := OwW.span P3_1.out sp2 (by omega); have P3_2 := Lib.hid p3; clear p3
  go_wp2_with fail
  refine (markFilterS_w _ d.f3 k_2 m2 hi _ P3_2.out (by omega) (by omega)).mono ?_
  rintro e w3 ⟨rfl, q3, sp3⟩
  have zs3 := sp3.size; (try simp only [World.size_alloc] at zs3)
  have B3 := (B2).span sp3 (.inr (by exact Qz))
  have F3 := B3.facts
  clear F2
  have Q3_3 := Lib.hid q3; clear q3
  have p1 := OwW.span Q1_2.out sp3 (by omega); have Q1_3 := Lib.hid p1; clear p1
  have p2 := OwW.span Q2_2.out sp3 (by omega); have Q2_3 := Lib.hid p2; clear p2
  go_wp2_with fail
  go_ret
  refine ⟨ret_int (by have := HK1.out; have := HK2.out; omega), ⟨a1, c1, a2, c2, a3, c3, m1, m2, by simp [QueryD.mkd, mkStrs_length, mkAtoms_length, mkFilters_length], ⟨hm0, hm1, hm2⟩, by have := Q1_3.out; simpa [StrsW, QueryD.mkd, mkStrs_length, mkAtoms_length, mkFilters_length] using this, by have := Q2_3.out; rw [← HK1.out] at this; simpa [AtomsW, QueryD.mkd, mkStrs_length, mkAtoms_length, mkFilters_length] using this, by have := Q3_3.out; rw [← HK2.out, ← HK1.out] at this; simpa [FiltersW, QueryD.mkd, mkStrs_length, mkAtoms_length, mkFilters_length] using this⟩, ((((Span.of_fr (show Fr w (w.alloc _) by exact Qf)).trans (sp1.mono (by omega) (by omega))).trans (sp2.mono (by omega) (by omega))).trans (sp3.mono (by omega) (by omega)))⟩
end Go.Proofs.YtmdgdnkllclpcaaGreat

/- Numbers read from bytes: impl.ReadVar and spec.ReadVar give the same. Condition: the text has at most 2^24 bytes. -/
namespace Go.Proofs.YtmdgdnkllclpcaaGreat
open Go.RowKit
set_option linter.unusedVariables false
set_option linter.unusedSimpArgs false
/-- The number that bytes, low ones first, stand for. -/
def dec : List UInt8 → Nat
  | [] => 0
  | b :: l => b.toNat % 128 + 128 * dec l
theorem dec_snoc (l : List UInt8) (b : UInt8) : dec (l ++ [b]) = dec l + b.toNat % 128 * 128 ^ l.length := by
  induction l with
  | nil => simp [dec]
  | cons c l ih =>
    rw [List.cons_append]
    show c.toNat % 128 + 128 * dec (l ++ [b]) = c.toNat % 128 + 128 * dec l + b.toNat % 128 * 128 ^ (l.length + 1)
    rw [ih, Nat.pow_succ, Nat.mul_add, Nat.mul_comm 128 (b.toNat % 128 * 128 ^ l.length), Nat.mul_assoc (b.toNat % 128), Nat.add_assoc]
theorem dec_pos (l : List UInt8) (b : UInt8) (hb : b.toNat < 128) (h : b.toNat ≠ 0) : 0 < dec (l ++ [b]) := by
  rw [dec_snoc]
  have : 0 < 128 ^ l.length := Nat.pow_pos (by omega)
  have h2 : 0 < b.toNat % 128 * 128 ^ l.length := Nat.mul_pos (by omega) this
  omega
theorem varL_dec : ∀ (l : List UInt8) (b : UInt8), (∀ x ∈ l, 128 ≤ x.toNat) → b.toNat < 128 → (varL (dec (l ++ [b])) = l ++ [b] ↔ (l = [] ∨ b.toNat ≠ 0))
  | [], b, _, hb => by
    have h1 : dec ([] ++ [b]) = b.toNat := by simp [dec]; omega
    rw [h1, varL_small (by omega)]
    simp
  | c :: l, b, hl, hb => by
    have hc := hl c (by simp)
    have hcl := c.toNat_lt
    have ih := varL_dec l b (fun x hx => hl x (by simp [hx])) hb
    have h1 : dec ((c :: l) ++ [b]) = c.toNat % 128 + 128 * dec (l ++ [b]) := rfl
    by_cases hz : dec (l ++ [b]) = 0
    · rw [h1, hz, varL_small (by omega)]
      constructor
      · intro h
        have := congrArg List.length h
        simp at this
      · rintro (h | h)
        · cases h
        · exact absurd hz (by have := dec_pos l b hb h; omega)
    · rw [h1, varL_big (by omega)]
      have h2 : (c.toNat % 128 + 128 * dec (l ++ [b])) / 128 = dec (l ++ [b]) := by omega
      have h3 : UInt8.ofNat (128 + (c.toNat % 128 + 128 * dec (l ++ [b])) % 128) = c := by
        apply UInt8.toNat.inj
        simp
        omega
      rw [h2, h3, List.cons_append]
      simp only [List.cons.injEq, true_and, reduceCtorEq, false_or]
      rw [ih]
      constructor
      · rintro (h | h)
        · subst h
          intro h0
          apply hz
          simp [dec, h0]
        · exact h
      · exact fun h => .inr h
structure RvR where
  n : Int
  e : Int
  ok : Bool
def rvNo : RvR := ⟨0, 0, false⟩
def rvGo (s : ByteArray) (a i n u : Nat) : Nat → RvR
  | 0 => rvNo
  | f + 1 => if h : a + i < s.size then
      (if 128 ≤ s[a + i].toNat then rvGo s a (i + 1) (n + s[a + i].toNat % 128 * u) (u * 128) f
       else if (s[a + i].toNat = 0 ∧ 0 < i) ∨ 1000000000 < n + s[a + i].toNat % 128 * u then rvNo else ⟨(n + s[a + i].toNat % 128 * u : Nat), (a + i + 1 : Nat), true⟩)
    else rvNo
def rv (s : ByteArray) (at_ : Int) : RvR := if 0 ≤ at_ ∧ at_ ≤ s.size then rvGo s at_.toNat 0 0 1 5 else rvNo
theorem pow4 {i : Nat} (h : i ≤ 4) : 128 ^ i ≤ 268435456 := by
  have := Nat.pow_le_pow_right (show 0 < 128 by omega) h
  exact this
end Go.Proofs.YtmdgdnkllclpcaaGreat

/- Numbers read from bytes: impl.ReadVar and spec.ReadVar give the same. Condition: the text has at most 2^24 bytes. -/
namespace Go.Proofs.YtmdgdnkllclpcaaGreat
open Go.RowKit
set_option linter.unusedVariables false
set_option linter.unusedSimpArgs false
/-- The bytes of s from a on, k of them. -/
def bytesAt (s : ByteArray) (a k : Nat) : List UInt8 := (s.data.toList.drop a).take k
theorem bytesAt_length {s : ByteArray} {a k : Nat} (h : a + k ≤ s.size) : (bytesAt s a k).length = k := by
  have : s.data.toList.length = s.size := by rw [Array.length_toList]; rfl
  unfold bytesAt
  rw [List.length_take, List.length_drop]
  omega
theorem bytesAt_succ {s : ByteArray} {a k : Nat} (h : a + k < s.size) : bytesAt s a (k + 1) = bytesAt s a k ++ [s[a + k]] := by
  have hl : s.data.toList.length = s.size := by rw [Array.length_toList]; rfl
  unfold bytesAt
  rw [List.take_succ_eq_append_getElem (by rw [List.length_drop]; omega)]
  congr 1
  simp only [List.getElem_drop, Array.getElem_toList]
  rfl
theorem extract_bytes (s : ByteArray) (a k : Nat) : (s.extract a (a + k)).data.toList = bytesAt s a k := by
  unfold bytesAt
  rw [Lib.extract_data, Nat.add_sub_cancel_left]
end Go.Proofs.YtmdgdnkllclpcaaGreat

/- The check sum: impl.SumMore and spec.SumMore give the same number. No condition but the bound of the text that the reading gives. -/
namespace Go.Proofs.YtmdgdnkllclpcaaGreat
open Go.RowKit
set_option linter.unusedVariables false
set_option linter.unusedSimpArgs false

def poly : Nat := 3558460437
def step1 (x : Nat) : Nat := if x % 2 = 1 then (x / 2) ^^^ poly else x / 2
def stepN : Nat → Nat → Nat
  | 0, x => x
  | j + 1, x => step1 (stepN j x)
def sumByte (x : Nat) (b : UInt8) : Nat := stepN 8 (x ^^^ b.toNat)
def sumL (x : Nat) (l : List UInt8) : Nat := l.foldl sumByte x
theorem step1_lt {x : Nat} (h : x < 4294967296) : step1 x < 4294967296 := by
  unfold step1
  split
  · exact Nat.xor_lt_two_pow (n := 32) (by omega) (by unfold poly; omega)
  · omega
theorem stepN_lt {x : Nat} (h : x < 4294967296) (j : Nat) : stepN j x < 4294967296 := by
  induction j with
  | zero => exact h
  | succ j ih => exact step1_lt ih
theorem xor_byte_lt {x : Nat} (h : x < 4294967296) (b : UInt8) : x ^^^ b.toNat < 4294967296 := Nat.xor_lt_two_pow (n := 32) (by omega) (by have := b.toNat_lt; omega)
theorem sumByte_lt {x : Nat} (h : x < 4294967296) (b : UInt8) : sumByte x b < 4294967296 := stepN_lt (xor_byte_lt h b) 8
theorem sumL_lt {x : Nat} (h : x < 4294967296) (l : List UInt8) : sumL x l < 4294967296 := by
  induction l generalizing x with
  | nil => exact h
  | cons b l ih => exact ih (sumByte_lt h b)
theorem sumL_snoc (x : Nat) (l : List UInt8) (b : UInt8) : sumL x (l ++ [b]) = sumByte (sumL x l) b := by simp [sumL]
theorem take_snoc (s : ByteArray) (k : Nat) (h : k < s.size) : s.data.toList.take (k + 1) = s.data.toList.take k ++ [s[k]] := by
  rw [List.take_succ_eq_append_getElem (by simpa using h)]; rfl
theorem u32_and_one (x : Nat) (h : x < 4294967296) : bits .and .u32 (x : Int) 1 = ((x % 2 : Nat) : Int) := by
  have := u32_and_nat x 1 h (by omega)
  rw [Nat.and_one_is_mod] at this
  exact this

set_option maxRecDepth 100000 in
set_option maxHeartbeats 400000 in
theorem implSumMore_any (x : Nat) (s : ByteArray) (w : World) (hx : x < 4294967296) (hs : s.size ≤ maxLen) :
    Calls Tryz.prog 181 #[.int .u32 x, .string s] w fun e w' => e = .returned (.int .u32 (sumL x s.data.toList)) ∧ w = w' := by
  unfold maxLen at hs
  go_enter Tryz.func181, Tryz.ntmps181
  go_wp2
  go_loop [0, 5] (fun v i => ∃ k y : Nat, k ≤ s.size ∧ i = .int .i64 k ∧ v = .int .u32 y ∧ y < 4294967296 ∧ Hid (y = sumL x (s.data.toList.take k))) (fun _ i => s.size - (intOf i).toNat)
  case atStart => exact ⟨0, x, Nat.zero_le _, rfl, rfl, hx, by simp [Hid, sumL]⟩
  case round =>
    obtain ⟨k, y, hk, rfl, rfl, hy, hd⟩ := hrel
    by_cases hlt : k < s.size
    · obtain ⟨z, hz⟩ : ∃ z, z = y ^^^ s[k].toNat := ⟨_, rfl⟩
      have hb : bits .xor .u32 (y : Int) ((s[k].toNat : Int) % 4294967296) = (z : Int) := by
        have hb0 := s[k].toNat_lt
        rw [show ((s[k].toNat : Int) % 4294967296) = ((s[k].toNat : Nat) : Int) from by omega, hz]
        exact u32_xor_nat y _ hy (by omega)
      have hzl : z < 4294967296 := by rw [hz]; exact xor_byte_lt hy _
      have HZ := Lib.hid hz
      clear hz
      go_wp2
      go_loop [0, 19] (fun v i => ∃ j q : Nat, j ≤ 8 ∧ i = .int .i64 j ∧ v = .int .u32 q ∧ q < 4294967296 ∧ Hid (q = stepN j z)) (fun _ i => 8 - (intOf i).toNat)
      case atStart => exact ⟨0, z, by omega, rfl, rfl, hzl, rfl⟩
      case round =>
        clear hb
        obtain ⟨j, q, hj, rfl, rfl, hq, hdq⟩ := hrel
        by_cases hlj : j < 8
        · have ha := u32_and_one q hq
          by_cases hodd : q % 2 = 1
          · obtain ⟨r, hr⟩ : ∃ r, r = (q / 2) ^^^ poly := ⟨_, rfl⟩
            have hxr : bits .xor .u32 ((q : Int) / 2) 3558460437 = (r : Int) := by
              rw [hr, show ((q : Int) / 2) = ((q / 2 : Nat) : Int) from by omega]
              exact u32_xor_nat (q / 2) poly (by omega) (by unfold poly; omega)
            have hrl : r < 4294967296 := by rw [hr]; exact Nat.xor_lt_two_pow (n := 32) (by omega) (by unfold poly; omega)
            have HR : Hid (r = stepN (j + 1) z) := by show r = step1 (stepN j z); rw [← hdq.out, hr]; unfold step1; rw [if_pos hodd]
            have ho : ((q : Int) % 2) = 1 := by omega
            clear hr
            go_wp2
            go_round
            case rel => exact ⟨j + 1, r, by omega, by go_num, rfl, hrl, HR⟩
            case measure => (simp [intOf]; omega)
          · have ho : ((q : Int) % 2 == 1) = false := by simp; omega
            have HR : Hid (q / 2 = stepN (j + 1) z) := by show q / 2 = step1 (stepN j z); rw [← hdq.out]; unfold step1; rw [if_neg hodd]
            go_wp2
            go_round
            case rel => exact ⟨j + 1, q / 2, by omega, by go_num, by go_num, by omega, HR⟩
            case measure => (simp [intOf]; omega)
        · obtain rfl : j = 8 := by omega
          have hts := take_snoc s k hlt
          have HS : Hid (q = sumL x (s.data.toList.take (k + 1))) := by rw [hts, sumL_snoc, ← hd.out, hdq.out, HZ.out]; rfl
          clear hts
          go_wp2
          go_round
          case rel => exact ⟨k + 1, q, by omega, by go_num, rfl, hq, HS⟩
          case measure => (simp [intOf]; omega)
    · have hfin : Hid (y = sumL x s.data.toList) := by have := hd.out; rwa [List.take_of_length_le (by simp; omega)] at this
      go_wp2
      go_ret
      exact ⟨ret_int (by rw [hfin.out]), rfl⟩
set_option maxRecDepth 100000 in
set_option maxHeartbeats 400000 in
theorem specSumMore_any (x : Nat) (s : ByteArray) (w : World) (hx : x < 4294967296) (hs : s.size ≤ maxLen) :
    Calls Tryz.prog 185 #[.int .u32 x, .string s] w fun e w' => e = .returned (.int .u32 (sumL x s.data.toList)) ∧ w = w' := by
  unfold maxLen at hs
  go_enter Tryz.func185, Tryz.ntmps185
  go_wp2
  go_loop [0, 5] (fun v i => ∃ k y : Nat, k ≤ s.size ∧ i = .int .i64 k ∧ v = .int .u32 y ∧ y < 4294967296 ∧ Hid (y = sumL x (s.data.toList.take k))) (fun _ i => s.size - (intOf i).toNat)
  case atStart => exact ⟨0, x, Nat.zero_le _, rfl, rfl, hx, by simp [Hid, sumL]⟩
  case round =>
    obtain ⟨k, y, hk, rfl, rfl, hy, hd⟩ := hrel
    by_cases hlt : k < s.size
    · obtain ⟨z, hz⟩ : ∃ z, z = y ^^^ s[k].toNat := ⟨_, rfl⟩
      have hb : bits .xor .u32 (y : Int) ((s[k].toNat : Int) % 4294967296) = (z : Int) := by
        have hb0 := s[k].toNat_lt
        rw [show ((s[k].toNat : Int) % 4294967296) = ((s[k].toNat : Nat) : Int) from by omega, hz]
        exact u32_xor_nat y _ hy (by omega)
      have hzl : z < 4294967296 := by rw [hz]; exact xor_byte_lt hy _
      have HZ := Lib.hid hz
      clear hz
      go_wp2
      go_loop [0, 6] (fun v i => ∃ j q : Nat, j ≤ 8 ∧ i = .int .i64 j ∧ v = .int .u32 q ∧ q < 4294967296 ∧ Hid (q = stepN j z)) (fun _ i => 8 - (intOf i).toNat)
      case atStart => exact ⟨0, z, by omega, rfl, rfl, hzl, rfl⟩
      case round =>
        clear hb
        obtain ⟨j, q, hj, rfl, rfl, hq, hdq⟩ := hrel
        by_cases hlj : j < 8
        · have ha := u32_and_one q hq
          by_cases hodd : q % 2 = 1
          · obtain ⟨r, hr⟩ : ∃ r, r = (q / 2) ^^^ poly := ⟨_, rfl⟩
            have hxr : bits .xor .u32 ((q : Int) / 2) 3558460437 = (r : Int) := by
              rw [hr, show ((q : Int) / 2) = ((q / 2 : Nat) : Int) from by omega]
              exact u32_xor_nat (q / 2) poly (by omega) (by unfold poly; omega)
            have hrl : r < 4294967296 := by rw [hr]; exact Nat.xor_lt_two_pow (n := 32) (by omega) (by unfold poly; omega)
            have HR : Hid (r = stepN (j + 1) z) := by show r = step1 (stepN j z); rw [← hdq.out, hr]; unfold step1; rw [if_pos hodd]
            have ho : ((q : Int) % 2) = 1 := by omega
            clear hr
            go_wp2
            go_round
            case rel => exact ⟨j + 1, r, by omega, by go_num, rfl, hrl, HR⟩
            case measure => (simp [intOf]; omega)
          · have ho : ((q : Int) % 2 == 1) = false := by simp; omega
            have HR : Hid (q / 2 = stepN (j + 1) z) := by show q / 2 = step1 (stepN j z); rw [← hdq.out]; unfold step1; rw [if_neg hodd]
            go_wp2
            go_round
            case rel => exact ⟨j + 1, q / 2, by omega, by go_num, by go_num, by omega, HR⟩
            case measure => (simp [intOf]; omega)
        · obtain rfl : j = 8 := by omega
          have hts := take_snoc s k hlt
          have HS : Hid (q = sumL x (s.data.toList.take (k + 1))) := by rw [hts, sumL_snoc, ← hd.out, hdq.out, HZ.out]; rfl
          clear hts
          go_wp2
          go_round
          case rel => exact ⟨k + 1, q, by omega, by go_num, rfl, hq, HS⟩
          case measure => (simp [intOf]; omega)
    · have hfin : Hid (y = sumL x s.data.toList) := by have := hd.out; rwa [List.take_of_length_le (by simp; omega)] at this
      go_wp2
      go_ret
      exact ⟨ret_int (by rw [hfin.out]), rfl⟩

def sumOf (s : ByteArray) : Nat := sumL 4294967295 s.data.toList
theorem sumOf_lt (s : ByteArray) : sumOf s < 4294967296 := sumL_lt (by omega) _
/-- The check sum's four bytes. -/
def fourL (x : Nat) : List UInt8 := [UInt8.ofNat (x / 16777216), UInt8.ofNat (x / 65536 % 256), UInt8.ofNat (x / 256 % 256), UInt8.ofNat (x % 256)]
def fourT (x : Nat) : ByteArray := ⟨(fourL x).toArray⟩
theorem fourT_nums (x : Nat) : strOfNums [(x : Int) / 16777216, (x : Int) / 65536 % 256, (x : Int) / 256 % 256, (x : Int) % 256] = fourT x := by
  apply WideShapes.bytes_inj
  have e1 : ((x : Int) / 16777216).toNat = x / 16777216 := by omega
  have e2 : ((x : Int) / 65536 % 256).toNat = x / 65536 % 256 := by omega
  have e3 : ((x : Int) / 256 % 256).toNat = x / 256 % 256 := by omega
  have e4 : ((x : Int) % 256).toNat = x % 256 := by omega
  rw [strOfNums_data, List.map_cons, List.map_cons, List.map_cons, List.map_cons, List.map_nil, e1, e2, e3, e4]
  rfl
theorem implSumOf_any (s : ByteArray) (w : World) (hs : s.size ≤ maxLen) :
    Calls Tryz.prog 147 #[.string s] w fun e w' => e = .returned (.int .u32 (sumOf s)) ∧ w = w' := by
  go_enter Tryz.func147, Tryz.ntmps147
  go_wp2_with (go_at_call 181; refine (implSumMore_any 4294967295 s _ (by omega) hs).mono ?_; rintro e w1 ⟨rfl, rfl⟩)
  go_ret
  exact ⟨rfl, rfl⟩
theorem specSumOf_any (s : ByteArray) (w : World) (hs : s.size ≤ maxLen) :
    Calls Tryz.prog 152 #[.string s] w fun e w' => e = .returned (.int .u32 (sumOf s)) ∧ w = w' := by
  go_enter Tryz.func152, Tryz.ntmps152
  go_wp2_with (go_at_call 185; refine (specSumMore_any 4294967295 s _ (by omega) hs).mono ?_; rintro e w1 ⟨rfl, rfl⟩)
  go_ret
  exact ⟨rfl, rfl⟩
def frameT (s : ByteArray) : ByteArray := vText s.size ++ fourT (sumOf s) ++ s
def frameB (s : ByteArray) : Bool := decide (1 ≤ s.size ∧ s.size ≤ 9000)
def frameR (s : ByteArray) : ByteArray := if frameB s then frameT s else ByteArray.empty
theorem frameR_ok {s : ByteArray} (h : frameB s = true) : frameR s = frameT s := if_pos h
theorem frameR_no {s : ByteArray} (h : frameB s = false) : frameR s = ByteArray.empty := if_neg (by simp [h])
theorem ret_sb {a b : ByteArray} {c d : Bool} (h : a = b) (k : c = d) : Ending.returned (.tuple #[.string a, .bool c]) = .returned (.tuple #[.string b, .bool d]) := by rw [h, k]
end Go.Proofs.YtmdgdnkllclpcaaGreat
