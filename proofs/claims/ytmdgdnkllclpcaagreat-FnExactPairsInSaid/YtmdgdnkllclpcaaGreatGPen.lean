/- Texts in one: Mog, Pen. -/
import Derived.Test.YtmdgdnkllclpcaaGreatGMof
import Derived.Test.YtmdgdnkllclpcaaGreatGSEdge
/- meaningOf, reached of the program. Conditions: at most 12 places, a right path, a right graph. -/
namespace Go.Proofs.YtmdgdnkllclpcaaGreat
open Go.RowKit
set_option linter.unusedVariables false
set_option linter.unusedSimpArgs false
theorem map_set_range (us : Nat → Value) (m i : Nat) (v : Value) : ((List.range m).map us).set i v = (List.range m).map fun k => if k = i then v else us k := by
  refine List.ext_getElem? fun k => ?_
  rw [List.getElem?_set]
  by_cases hk : k < m
  · by_cases e : i = k
    · subst e
      simp [hk]
    · simp [hk, e, Ne.symm e]
  · rw [List.getElem?_eq_none (by simp; omega), List.getElem?_eq_none (by simp; omega)]
    split
    · rw [if_neg (by simp; omega)]
    · rfl
/-- The relations of the pieces so far: the program's row of rows at block A. -/
def AllI (w : World) (A m n : Nat) (acc : List (Nat → Nat → Bool)) : Prop := ∃ us : Nat → Value, w.ownsRow A 205 1 (.slice (some ⟨A, 0, none⟩) m m) m ((List.range m).map us) ∧ ∀ k, k < acc.length → RelO w (A + 1) (us k) n (nAt acc k)
theorem AllI.fr {w w' : World} {A m n : Nat} {acc : List (Nat → Nat → Bool)} (h : AllI w A m n acc) (hf : Fr w w') : AllI w' A m n acc := by
  obtain ⟨us, h1, h2⟩ := h
  exact ⟨us, owns_fr h1 hf, fun k hk => (h2 k hk).fr hf⟩
theorem AllI.lt {w : World} {A m n : Nat} {acc : List (Nat → Nat → Bool)} (h : AllI w A m n acc) : A < w.heap.size := by
  obtain ⟨us, h1, h2⟩ := h
  exact (World.ownsRow.lt h1 A rfl).2
theorem AllI.spot {w : World} {A m n : Nat} {acc : List (Nat → Nat → Bool)} (h : AllI w A m n acc) {k : Nat} (hk : k < m) : ∃ u, w.cell? ⟨A, k, none⟩ = some u ∧ w.frozen? ⟨A, k, none⟩ = false := by
  obtain ⟨us, h1, h2⟩ := h
  obtain ⟨u, hu⟩ := owns_cell h1 k (by omega)
  exact ⟨u, hu, h1.frozenAt k⟩
theorem AllI.get {w : World} {A m n : Nat} {acc : List (Nat → Nat → Bool)} (h : AllI w A m n acc) {k : Nat} (hk : k < acc.length) (hm : k < m) : ∃ ao cap, w.cell? ⟨A, k, none⟩ = some (.slice ao n cap) ∧ w.frozen? ⟨A, k, none⟩ = false ∧ RelR w (.slice ao n cap) n (nAt acc k) := by
  obtain ⟨us, h1, h2⟩ := h
  obtain ⟨ao, cap, e⟩ := (h2 k hk).val
  refine ⟨ao, cap, ?_, h1.frozenAt k, e ▸ (h2 k hk).rd⟩
  rw [h1.cellAt k (by omega)]
  simp [hm, e]
theorem AllI.put {w : World} {A m n : Nat} {acc acc0 : List (Nat → Nat → Bool)} {R : Nat → Nat → Bool} {v : Value} {i : Nat} (h : AllI w A m n acc) (hpre : ∀ k, k < acc0.length → k < acc.length ∧ nAt acc k = nAt acc0 k) (hv : RelO w (A + 1) v n R) (hi : i = acc0.length) : AllI (w.setCell ⟨A, i, none⟩ v) A m n (acc0 ++ [R]) := by
  subst hi
  obtain ⟨us, h1, h2⟩ := h
  refine ⟨fun k => if k = acc0.length then v else us k, ?_, fun k hk => ?_⟩
  · have := (World.ownsRow.stored h1 acc0.length v).1
    rw [map_set_range] at this
    exact this
  · simp only [List.length_append, List.length_singleton] at hk
    by_cases e : k = acc0.length
    · subst e
      rw [nAt_end _ _ rfl]
      simp only [if_true]
      exact owns_set hv (show A < A + 1 by omega) _
    · rw [nAt_front _ _ (by omega)]
      simp only [if_neg e]
      have := hpre k (by omega)
      rw [← this.2]
      exact owns_set (h2 k this.1) (show A < A + 1 by omega) _
theorem pre_same {acc : List (Nat → Nat → Bool)} {R : Nat → Nat → Bool} : ∀ k, k < acc.length → k < (acc ++ [R]).length ∧ nAt (acc ++ [R]) k = nAt acc k := fun k hk => ⟨by simp; omega, nAt_front _ _ hk⟩
theorem pre_refl {acc : List (Nat → Nat → Bool)} : ∀ k, k < acc.length → k < acc.length ∧ nAt acc k = nAt acc k := fun k hk => ⟨hk, rfl⟩
def KidsOk (k : Nat) (l : List Int) : Prop := ∀ m, m < l.length → ∃ j : Nat, iAt l m = (j : Int) ∧ j < k
theorem kidsB_ok {k : Nat} {l : List Int} (h : kidsB k l = true) : KidsOk k l := fun m hm => by
  unfold kidsB at h
  rw [List.all_eq_true] at h
  have := h l[m] (List.getElem_mem hm)
  rw [decide_eq_true_eq] at this
  have e : iAt l m = l[m] := by simp [iAt, List.getD, hm]
  obtain ⟨j, hj⟩ := Int.eq_ofNat_of_zero_le this.1
  exact ⟨j, by rw [e, hj], by omega⟩
theorem piece_cases {x : PieceD} {k : Nat} (h : pieceB x k = true) : x.f0 = 1 ∨ ((x.f0 = 2 ∨ x.f0 = 3) ∧ 2 ≤ x.f2.length ∧ KidsOk k x.f2) ∨ ((x.f0 = 4 ∨ x.f0 = 5 ∨ x.f0 = 6) ∧ x.f2.length = 1 ∧ ∃ j : Nat, iAt x.f2 0 = (j : Int) ∧ j < k) := by
  unfold pieceB at h
  split at h
  · exact .inl (by assumption)
  split at h
  · simp only [Bool.and_eq_true, decide_eq_true_eq] at h
    exact .inr (.inl ⟨by assumption, h.1, kidsB_ok h.2.1⟩)
  split at h
  · simp only [Bool.and_eq_true, decide_eq_true_eq] at h
    exact .inr (.inr ⟨by assumption, h.1, kidsB_ok h.2.1 0 (by omega)⟩)
  · cases h
theorem row_next {n : Nat} {acc : List (Nat → Nat → Bool)} {l : List Int} {m j : Nat} (h : iAt l m = (j : Int)) : rowR n acc l (m + 1) = rComp n (rowR n acc l m) (nAt acc j) := by
  rw [rowR, show kAt l m = j by unfold kAt; rw [h]; simp]
theorem alt_next {acc : List (Nat → Nat → Bool)} {l : List Int} {m j : Nat} (h : iAt l m = (j : Int)) : altR acc l (m + 1) = rOr (altR acc l m) (nAt acc j) := by
  rw [altR, show kAt l m = j by unfold kAt; rw [h]; simp]
set_option maxHeartbeats 16000000 in
set_option maxRecDepth 100000 in
theorem meaningOf_any (v : Value) (ps : List PieceD) (n B : Nat) (ev : Value) (es : List EdgeR) (w : World) (hn : 0 < n ∧ n ≤ 12) (hv : PiecesR w v ps) (hp : pathB ps = true) (hB : Box w B #[.int .i64 (n : Int), ev] 55) (he : EdgesR w ev es) (hin : EdgesIn n es) :
    Calls Tryz.prog 190 #[.agg #[v], .int .i64 (n : Int), .func (.func 191) #[] #[.pointer (some ⟨B, 0, none⟩)]] w fun e w' => ∃ ao cap, e = .returned (.slice ao n cap) ∧ RelR w' (.slice ao n cap) n (endR n (stR es) ps) ∧ Fr w w' := by
  obtain ⟨i0, hi, hz0, hz1, hz2⟩ := info_parts info_rel
  obtain ⟨j0, kj, jz0, jz1, jz2⟩ := info_parts info_u32
  obtain ⟨⟨hp1, hp2⟩, hpb⟩ := pathB_out hp
  have HPB := Lib.hid hpb
  obtain ⟨av, bv, ov, cv, rfl, hcv, hmv, fv⟩ := hv.one
  have FV := Lib.hid fv
  have CS : Hid (∀ (l : UInt8) w', Fr w w' → Calls Tryz.prog 191 #[.int .u8 (l.toNat : Int), .pointer (some ⟨B, 0, none⟩)] w' fun e w'' => ∃ ao cap, e = .returned (.slice ao n cap) ∧ RelO w'' w'.heap.size (.slice ao n cap) n (stR es l) ∧ Fr w' w'') := Lib.hid fun l w' h => stepOf_any l B n ev es w' hn (hB.fr h) (he.fr h) hin
  have HN := Lib.hid hn
  have hnn := hn.1
  have hnn2 := hn.2
  have eg : ∀ args w, (callFunc 191 args).run Tryz.prog w = .ok (.enter 191 args) w := enters_of Tryz.func191 (by kernel_rfl) rfl
  clear fv hv hp hpb hB he hin hn
  go_enter Tryz.func190, Tryz.ntmps190
  go_wp2_with (at_make; refine wpList_make_full _ rfl _ _ 266 rfl (w.heap.size + 1) 205 i0 (.slice none 0 0) 1 Tryz.underlying266 hi hz0 hz1 _ _ _ _ ps.length rfl rfl rfl rfl (by rw [hz2]; omega) (by unfold maxLen; omega) (by exact Qz) ?_; intro w1 hown hgrow; have HF1 : Fr (w.alloc (.cells #[.slice av ps.length cv] 138)) w1 := (Fr.refl _).grown hgrow (by simp); have F1 := ((Box.new w #[.slice av ps.length cv] 138).fr HF1).facts)
  have HA1 : Hid (AllI w1 (w.heap.size + 1) ps.length n (denR n (stR es) ps 0)) := Lib.hid ⟨fun _ => .slice none 0 0, by
    rw [show (List.range ps.length).map (fun _ => Value.slice none 0 0) = List.replicate ps.length (.slice none 0 0) from (by rw [List.map_const', List.length_range])]
    rw [show (madeCells (Value.cells (.slice none 0 0)) (ps.length * 1)).toList = List.replicate ps.length (.slice none 0 0) from by rw [Nat.mul_one]; exact toList_madeCells_one _ _] at hown
    first | exact hown | simpa using hown, fun k hk => by rw [denR_len] at hk; omega⟩
  have HF2 : Fr w w1 := by exact Qf
  clear hown hgrow
  go_loopw [21] (fun i wr => ∃ k : Nat, k ≤ ps.length ∧ i = .int .i64 k ∧ Hid (AllI wr (w.heap.size + 1) ps.length n (denR n (stR es) ps k)) ∧ Fr w wr) (fun i _ => ps.length - (intOf i).toNat)
  case atStart => exact ⟨0, Nat.zero_le _, rfl, HA1, HF2⟩
  case round =>
    clear HA1 HF1 HF2 F1
    obtain ⟨k, hk, rfl, HA, hfr⟩ := hrel
    have zr := hfr.size
    have hAl := HA.out.lt
    by_cases hlt : k < ps.length
    · obtain ⟨rfl, hbv, fv⟩ := FV.out (by omega)
      obtain ⟨va, ha, g0, g1, g2⟩ := fv k hlt
      have hpc := piece_cases (HPB.out k hlt)
      have hden : denR n (stR es) ps (k + 1) = denR n (stR es) ps k ++ [stepR n (stR es) (denR n (stR es) ps k) (nAt ps k)] := by rw [denR]
      have hal := denR_len n (stR es) ps k
      obtain ⟨acc, hacc⟩ : ∃ acc, denR n (stR es) ps k = acc := ⟨_, rfl⟩
      rw [hacc] at HA hal hden
      obtain ⟨x, hx⟩ : ∃ x, nAt ps k = x := ⟨_, rfl⟩
      rw [hx] at ha g0 g1 hpc hden
      have c0 := (hfr.cell (p := ⟨bv, _, none⟩) hbv).trans g0
      have c1 := (hfr.cell (p := ⟨bv, _, none⟩) hbv).trans g1
      have c2 := (hfr.cell (p := ⟨bv, _, none⟩) hbv).trans g2
      obtain ⟨aa, ba, oa, ca, rfl, hca, hma, fa⟩ := ha.one
      have FA := Lib.hid fa
      have hxl := x.f1.toNat_lt
      have HAL : acc.length ≤ k ∧ k ≤ acc.length := by omega
      obtain ⟨x0, x1, x2⟩ := x
      simp only [] at c0 c1 c2 hxl FA hca hpc
      have HD0 := Lib.hid hden
      have HIL : Hid (k = acc.length) := Lib.hid hal.symm
      clear fv ha g0 g1 g2 hx fa hacc hden hal
      rcases hpc with rfl | ⟨rfl | rfl, hl2, hks⟩ | ⟨rfl | rfl | rfl, hl1, j, hj, hjk⟩
      · -- a step
        have HD : Hid (denR n (stR es) ps (k + 1) = acc ++ [stR es x1]) := Lib.hid (by rw [HD0.out]; simp [stepR])
        clear HD0
        go_wp2_with (go_at_fn 191; refine (CS.out x1 _ (by exact Qf)).mono ?_; rintro e w5 ⟨a5, c5, rfl, ho5, hf5⟩; have z5 := hf5.size; (try simp only [World.size_alloc, World.size_setCell, World.size_drew, World.heap_drewN] at z5); obtain ⟨u5, s5, s6⟩ := (HA.out.fr (show Fr wr w5 by exact Qf)).spot hlt)
        have HA6 : AllI (w5.setCell ⟨w.heap.size + 1, k, none⟩ (.slice a5 n c5)) (w.heap.size + 1) ps.length n (acc ++ [stR es x1]) := (HA.out.fr (show Fr wr w5 by exact Qf)).put pre_refl (owns_lo ho5 (by exact Qz)) HIL.out
        (go_roundw; (case rel => exact ⟨k + 1, by omega, by go_num, Lib.hid (HD.out ▸ HA6), by exact Qf⟩); (case measure => (simp [intOf]; omega)))
      · -- a row
        have HD : Hid (denR n (stR es) ps (k + 1) = acc ++ [rowR n acc x2 x2.length]) := Lib.hid (by rw [HD0.out]; simp [stepR])
        clear HD0
        go_wp2_with (go_at_call 210; refine (identity_any n _ HN.out).mono ?_; rintro e w5 ⟨a5, c5, rfl, ho5, hf5⟩; have z5 := hf5.size; (try simp only [World.size_alloc, World.size_setCell, World.size_drew, World.heap_drewN] at z5); obtain ⟨u5, s5, s6⟩ := (HA.out.fr (show Fr wr w5 by exact Qf)).spot hlt; have BX5 := (Box.new wr #[.int .i64 2, .int .u8 (x1.toNat : Int), .slice aa x2.length ca] 237).fr hf5; have FX5 := BX5.facts)
        have HA6 : Hid (AllI (w5.setCell ⟨w.heap.size + 1, k, none⟩ (.slice a5 n c5)) (w.heap.size + 1) ps.length n (acc ++ [rowR n acc x2 0])) := Lib.hid ((HA.out.fr (show Fr wr w5 by exact Qf)).put pre_refl (owns_lo ho5 (by exact Qz)) HIL.out)
        have HF6 : Fr w (w5.setCell ⟨w.heap.size + 1, k, none⟩ (.slice a5 n c5)) := by exact Qf
        clear ho5 BX5 FX5 s5 s6
        go_loopw [47] (fun i wr => ∃ m : Nat, m ≤ x2.length ∧ i = .int .i64 m ∧ Hid (AllI wr (w.heap.size + 1) ps.length n (acc ++ [rowR n acc x2 m])) ∧ Fr w wr) (fun i _ => x2.length - (intOf i).toNat)
        case atStart => exact ⟨0, Nat.zero_le _, rfl, HA6, HF6⟩
        case round =>
          clear HA6 HF6 hf5 hfr HA c0 c1 c2 z5 zr hAl
          obtain ⟨m, hm, rfl, HA, hfr⟩ := hrel
          have zr := hfr.size
          have hAl := HA.out.lt
          by_cases hmt : m < x2.length
          · obtain ⟨rfl, hba, fa⟩ := FA.out (by omega)
            obtain ⟨j, hj, hjk⟩ := hks m hmt
            have hjl : j < ps.length := by omega
            have d0 := (hfr.cell (p := ⟨ba, _, none⟩) hba).trans (hj ▸ fa m hmt)
            obtain ⟨a1, e1, s1, z1, r1⟩ := HA.out.get (k := k) (by simp; omega) hlt
            obtain ⟨a2, e2, s2, z2, r2⟩ := HA.out.get (k := j) (by simp; omega) (by omega)
            rw [nAt_end _ _ HIL.out] at r1
            rw [nAt_front _ _ (by omega)] at r2
            have CT : Hid (∀ w', Fr wr w' → Calls Tryz.prog 211 #[.slice a1 n e1, .slice a2 n e2] w' fun e w'' => ∃ ao cap, e = .returned (.slice ao n cap) ∧ RelO w'' w'.heap.size (.slice ao n cap) n (rowR n acc x2 (m + 1)) ∧ Fr w' w'') := Lib.hid fun w' h => by rw [row_next hj]; exact relThen_any _ _ n _ _ w' HN.out (r1.fr h) (r2.fr h)
            clear fa r1 r2 hj
            go_wp2_with fail
            go_region_law ((go_simp; go_at_call 211; refine (CT.out _ (by exact Qf)).mono ?_; rintro e w9 ⟨a9, c9, rfl, ho9, hf9⟩; have z9 := hf9.size; (try simp only [World.size_alloc, World.size_setCell, World.size_drew, World.heap_drewN] at z9); have k9 := (show Fr wr w9 by exact Qf).blk (w.heap.size + 1) (by exact Qz)))
            all_goals
              have HA7 : Hid (∀ q, Fr w9 q → AllI (q.setCell ⟨w.heap.size + 1, k, none⟩ (.slice a9 n c9)) (w.heap.size + 1) ps.length n (acc ++ [rowR n acc x2 (m + 1)])) := Lib.hid fun q hq => (HA.out.fr (show Fr wr q from Fr.trans (show Fr wr w9 by exact Qf) hq)).put pre_same (owns_fr (owns_lo ho9 (by exact Qz)) hq) HIL.out
              go_wp2_with fail
              go_roundw
              case rel => exact ⟨m + 1, by omega, by go_num, by first | exact Lib.hid (HA7.out _ (by exact Qf)) | exact Lib.hid ((HA7.out _ (Fr.refl _)).fr (by exact Qf)), by exact Qf⟩
              case measure => (simp [intOf]; omega)
          · obtain rfl : m = x2.length := by omega
            have HA7 := HA.out
            go_wp2_with fail
            (go_roundw; (case rel => exact ⟨k + 1, by omega, by go_num, Lib.hid (HD.out ▸ HA7), by exact Qf⟩); (case measure => (simp [intOf]; omega)))
      · -- a choice
        have HD : Hid (denR n (stR es) ps (k + 1) = acc ++ [altR acc x2 x2.length]) := Lib.hid (by rw [HD0.out]; simp [stepR])
        clear HD0
        go_wp2_with (at_make; refine wpList_make_full _ rfl _ _ 205 rfl (w.heap.size + 1 + 1) 192 j0 (.int .u32 0) 1 Tryz.underlying205 kj jz0 jz1 _ _ _ _ n rfl rfl rfl rfl (by rw [jz2]; omega) (by unfold maxLen; omega) (by exact Qz) ?_; intro w5 hown hgrow; have hf5 : Fr (wr.alloc (.cells #[.int .i64 3, .int .u8 (x1.toNat : Int), .slice aa x2.length ca] 237)) w5 := (Fr.refl _).grown hgrow (by simp); have z5 := hf5.size; (try simp only [World.size_alloc, World.size_setCell, World.size_drew, World.heap_drewN] at z5); obtain ⟨u5, s5, s6⟩ := (HA.out.fr (show Fr wr w5 by exact Qf)).spot hlt; have BX5 := (Box.new wr #[.int .i64 3, .int .u8 (x1.toNat : Int), .slice aa x2.length ca] 237).fr hf5; have FX5 := BX5.facts)
        rw [show (madeCells (Value.cells (.int .u32 0)) (n * 1)).toList = rCells n rNo from by rw [rCells_no, Nat.mul_one]; exact toList_madeCells_one _ _] at hown
        have HA6 := Lib.hid ((HA.out.fr (show Fr wr w5 by exact Qf)).put pre_refl (show RelO w5 (w.heap.size + 1 + 1) _ n (altR acc x2 0) from hown) HIL.out)
        have HF6 : Fr w w5 := by exact Qf
        clear hown BX5 FX5 s5 s6 hgrow
        go_loopw [74] (fun i wr => ∃ m : Nat, m ≤ x2.length ∧ i = .int .i64 m ∧ Hid (AllI wr (w.heap.size + 1) ps.length n (acc ++ [altR acc x2 m])) ∧ Fr w wr) (fun i _ => x2.length - (intOf i).toNat)
        case atStart => exact ⟨0, Nat.zero_le _, rfl, by first | exact HA6 | (simpa using HA6), by exact Qf⟩
        case round =>
          clear HA6 HF6 hf5 hfr HA c0 c1 c2 z5 zr hAl
          obtain ⟨m, hm, rfl, HA, hfr⟩ := hrel
          have zr := hfr.size
          have hAl := HA.out.lt
          by_cases hmt : m < x2.length
          · obtain ⟨rfl, hba, fa⟩ := FA.out (by omega)
            obtain ⟨j, hj, hjk⟩ := hks m hmt
            have hjl : j < ps.length := by omega
            have d0 := (hfr.cell (p := ⟨ba, _, none⟩) hba).trans (hj ▸ fa m hmt)
            obtain ⟨a1, e1, s1, z1, r1⟩ := HA.out.get (k := k) (by simp; omega) hlt
            obtain ⟨a2, e2, s2, z2, r2⟩ := HA.out.get (k := j) (by simp; omega) (by omega)
            rw [nAt_end _ _ HIL.out] at r1
            rw [nAt_front _ _ (by omega)] at r2
            have CT : Hid (∀ w', Fr wr w' → Calls Tryz.prog 212 #[.slice a1 n e1, .slice a2 n e2] w' fun e w'' => ∃ ao cap, e = .returned (.slice ao n cap) ∧ RelO w'' w'.heap.size (.slice ao n cap) n (altR acc x2 (m + 1)) ∧ Fr w' w'') := Lib.hid fun w' h => by rw [alt_next hj]; exact relOr_any _ _ n _ _ w' HN.out (r1.fr h) (r2.fr h)
            clear fa r1 r2 hj
            go_wp2_with fail
            go_region_law ((go_simp; go_at_call 212; refine (CT.out _ (by exact Qf)).mono ?_; rintro e w9 ⟨a9, c9, rfl, ho9, hf9⟩; have z9 := hf9.size; (try simp only [World.size_alloc, World.size_setCell, World.size_drew, World.heap_drewN] at z9); have k9 := (show Fr wr w9 by exact Qf).blk (w.heap.size + 1) (by exact Qz)))
            all_goals
              have HA7 : Hid (∀ q, Fr w9 q → AllI (q.setCell ⟨w.heap.size + 1, k, none⟩ (.slice a9 n c9)) (w.heap.size + 1) ps.length n (acc ++ [altR acc x2 (m + 1)])) := Lib.hid fun q hq => (HA.out.fr (show Fr wr q from Fr.trans (show Fr wr w9 by exact Qf) hq)).put pre_same (owns_fr (owns_lo ho9 (by exact Qz)) hq) HIL.out
              go_wp2_with fail
              go_roundw
              case rel => exact ⟨m + 1, by omega, by go_num, by first | exact Lib.hid (HA7.out _ (by exact Qf)) | exact Lib.hid ((HA7.out _ (Fr.refl _)).fr (by exact Qf)), by exact Qf⟩
              case measure => (simp [intOf]; omega)
          · obtain rfl : m = x2.length := by omega
            have HA7 := HA.out
            go_wp2_with fail
            (go_roundw; (case rel => exact ⟨k + 1, by omega, by go_num, Lib.hid (HD.out ▸ HA7), by exact Qf⟩); (case measure => (simp [intOf]; omega)))
      · -- again and again
        obtain ⟨rfl, hba, fa⟩ := FA.out (by omega)
        have d0 : wr.cell? ⟨ba, oa, none⟩ = some (.int .i64 (j : Int)) := (hfr.cell (p := ⟨ba, _, none⟩) hba).trans (hj ▸ fa 0 (by omega))
        obtain ⟨a2, e2, s2, z2, r2⟩ := HA.out.get (k := j) (by omega) (by omega)
        have hkj : kAt x2 0 = j := by unfold kAt; rw [hj]; simp
        have R2 := Lib.hid r2
        have hl10 : 0 < x2.length := by omega
        have hjl : j < ps.length := by omega
        have hbar : ba < wr.heap.size := by omega
        have hban : ba ≠ wr.heap.size := by omega
        have HD : Hid (denR n (stR es) ps (k + 1) = acc ++ [rOr (wsh (nAt acc j) n) (rId n)]) := Lib.hid (by rw [HD0.out]; simp [stepR, hkj])
        have CP : Hid (∀ w', Fr wr w' → Calls Tryz.prog 213 #[.slice a2 n e2] w' fun e w'' => ∃ ao cap, e = .returned (.slice ao n cap) ∧ RelO w'' w'.heap.size (.slice ao n cap) n (wsh (nAt acc j) n) ∧ Fr w' w'') := Lib.hid fun w' h => relPlus_any _ n _ w' HN.out (r2.fr h)
        clear HD0 fa r2 hj hkj hl1
        go_wp2_with fail
        refine (CP.out _ (by exact Qf)).mono ?_
        rintro e w5 ⟨a5, c5, rfl, ho5, hf5⟩
        have z5 := hf5.size
        (try simp only [World.size_alloc, World.size_setCell, World.size_drew, World.heap_drewN] at z5)
        go_wp2_with fail
        refine (identity_any n _ HN.out).mono ?_
        rintro e w6 ⟨a6, c6, rfl, ho6, hf6⟩
        have z6 := hf6.size
        go_wp2_with fail
        refine (relOr_any _ _ n _ _ _ HN.out (ho5.rd.fr (by exact Qf)) ho6.rd).mono ?_
        rintro e w7 ⟨a7, c7, rfl, ho7, hf7⟩
        have z7 := hf7.size
        obtain ⟨u5, s5, s6⟩ := (HA.out.fr (show Fr wr w7 by exact Qf)).spot hlt
        have HA6 : AllI (w7.setCell ⟨w.heap.size + 1, k, none⟩ (.slice a7 n c7)) (w.heap.size + 1) ps.length n (acc ++ [rOr (wsh (nAt acc j) n) (rId n)]) := (HA.out.fr (show Fr wr w7 by exact Qf)).put pre_refl (owns_lo ho7 (by exact Qz)) HIL.out
        go_wp2_with fail
        (go_roundw; (case rel => exact ⟨k + 1, by omega, by go_num, Lib.hid (HD.out ▸ HA6), by exact Qf⟩); (case measure => (simp [intOf]; omega)))
      · -- once and again
        obtain ⟨rfl, hba, fa⟩ := FA.out (by omega)
        have d0 : wr.cell? ⟨ba, oa, none⟩ = some (.int .i64 (j : Int)) := (hfr.cell (p := ⟨ba, _, none⟩) hba).trans (hj ▸ fa 0 (by omega))
        obtain ⟨a2, e2, s2, z2, r2⟩ := HA.out.get (k := j) (by omega) (by omega)
        have hkj : kAt x2 0 = j := by unfold kAt; rw [hj]; simp
        have R2 := Lib.hid r2
        have hl10 : 0 < x2.length := by omega
        have hjl : j < ps.length := by omega
        have hbar : ba < wr.heap.size := by omega
        have hban : ba ≠ wr.heap.size := by omega
        have HD : Hid (denR n (stR es) ps (k + 1) = acc ++ [wsh (nAt acc j) n]) := Lib.hid (by rw [HD0.out]; simp [stepR, hkj])
        have CP : Hid (∀ w', Fr wr w' → Calls Tryz.prog 213 #[.slice a2 n e2] w' fun e w'' => ∃ ao cap, e = .returned (.slice ao n cap) ∧ RelO w'' w'.heap.size (.slice ao n cap) n (wsh (nAt acc j) n) ∧ Fr w' w'') := Lib.hid fun w' h => relPlus_any _ n _ w' HN.out (r2.fr h)
        clear HD0 fa r2 hj hkj hl1
        go_wp2_with fail
        refine (CP.out _ (by exact Qf)).mono ?_
        rintro e w7 ⟨a7, c7, rfl, ho7, hf7⟩
        have z7 := hf7.size
        (try simp only [World.size_alloc, World.size_setCell, World.size_drew, World.heap_drewN] at z7)
        obtain ⟨u5, s5, s6⟩ := (HA.out.fr (show Fr wr w7 by exact Qf)).spot hlt
        have HA6 : AllI (w7.setCell ⟨w.heap.size + 1, k, none⟩ (.slice a7 n c7)) (w.heap.size + 1) ps.length n (acc ++ [wsh (nAt acc j) n]) := (HA.out.fr (show Fr wr w7 by exact Qf)).put pre_refl (owns_lo ho7 (by exact Qz)) HIL.out
        go_wp2_with fail
        (go_roundw; (case rel => exact ⟨k + 1, by omega, by go_num, Lib.hid (HD.out ▸ HA6), by exact Qf⟩); (case measure => (simp [intOf]; omega)))
      · -- once or not
        obtain ⟨rfl, hba, fa⟩ := FA.out (by omega)
        have d0 : wr.cell? ⟨ba, oa, none⟩ = some (.int .i64 (j : Int)) := (hfr.cell (p := ⟨ba, _, none⟩) hba).trans (hj ▸ fa 0 (by omega))
        obtain ⟨a2, e2, s2, z2, r2⟩ := HA.out.get (k := j) (by omega) (by omega)
        have hkj : kAt x2 0 = j := by unfold kAt; rw [hj]; simp
        have R2 := Lib.hid r2
        have hl10 : 0 < x2.length := by omega
        have hjl : j < ps.length := by omega
        have hbar : ba < wr.heap.size := by omega
        have hban : ba ≠ wr.heap.size := by omega
        have HD : Hid (denR n (stR es) ps (k + 1) = acc ++ [rOr (nAt acc j) (rId n)]) := Lib.hid (by rw [HD0.out]; simp [stepR, hkj])
        obtain ⟨u5, s5, s6⟩ := HA.out.spot hlt
        clear HD0 fa r2 hj hkj hl1
        go_wp2_with fail
        go_region_law (first | (go_simp; go_at_call 210; refine (identity_any n _ HN.out).mono ?_; rintro e w6 ⟨a6, c6, rfl, ho6, hf6⟩; have z6 := hf6.size; (try simp only [World.size_alloc, World.size_setCell, World.size_drew, World.heap_drewN] at z6); have k6 := (show Fr wr w6 by exact Qf).blk (w.heap.size + 1) (by exact Qz); have k6b := (show Fr wr w6 by exact Qf).blk ba (by exact Qz); have k6c := ((Box.new wr #[.int .i64 6, .int .u8 (x1.toNat : Int), .slice (some ⟨ba, oa, none⟩) x2.length ca] 237).fr (show Fr (wr.alloc (.cells #[.int .i64 6, .int .u8 (x1.toNat : Int), .slice (some ⟨ba, oa, none⟩) x2.length ca] 237)) w6 by exact Qf)).facts) | (go_simp; go_at_call 212; refine (relOr_any _ _ n _ _ _ HN.out (R2.out.fr (by exact Qf)) (ho6.rd.fr (by exact Qf))).mono ?_; rintro e w7 ⟨a7, c7, rfl, ho7, hf7⟩; have z7 := hf7.size; (try simp only [World.size_alloc, World.size_setCell, World.size_drew, World.heap_drewN] at z7); have k7 := (show Fr wr w7 by exact Qf).blk (w.heap.size + 1) (by exact Qz)))
        all_goals
          have HA7 : Hid (∀ q, Fr w7 q → AllI (q.setCell ⟨w.heap.size + 1, k, none⟩ (.slice a7 n c7)) (w.heap.size + 1) ps.length n (acc ++ [rOr (nAt acc j) (rId n)])) := Lib.hid fun q hq => (HA.out.fr (show Fr wr q from Fr.trans (show Fr wr w7 by exact Qf) hq)).put pre_refl (owns_fr (owns_lo ho7 (by exact Qz)) hq) HIL.out
          go_wp2_with fail
          go_roundw
          case rel => exact ⟨k + 1, by omega, by go_num, by first | exact Lib.hid (HD.out ▸ HA7.out _ (by exact Qf)) | exact Lib.hid (HD.out ▸ (HA7.out _ (Fr.refl _)).fr (by exact Qf)), by exact Qf⟩
          case measure => (simp [intOf]; omega)
    · obtain rfl : k = ps.length := by omega
      obtain ⟨a9, c9, s9, _, r9⟩ := HA.out.get (k := ps.length - 1) (by rw [denR_len]; omega) (by omega)
      have HR9 : Hid (RelR wr (.slice a9 n c9) n (endR n (stR es) ps)) := Lib.hid r9
      have hwl : IntKind.i64.wrap ((ps.length : Int) - 1) = ((ps.length - 1 : Nat) : Int) := by rw [show (ps.length : Int) - 1 = ((ps.length - 1 : Nat) : Int) by omega]; exact IntWalk.i64_in _ (by omega)
      clear r9
      go_wp2_with fail
      go_ret
      exact ⟨_, _, rfl, HR9.out.fr (by exact Qf), by exact Qf⟩
end Go.Proofs.YtmdgdnkllclpcaaGreat

/- PathEnds, PathPairs, StepOnly of the program; rows of rows of ints. No condition but the reading. -/
namespace Go.Proofs.YtmdgdnkllclpcaaGreat
open Go.RowKit
set_option linter.unusedVariables false
set_option linter.unusedSimpArgs false
theorem info_ints : (Tryz.prog.info? 86).map (fun i => (i.zero, i.size, i.bytes)) = some (some (.slice none 0 0), 1, 24) := by kernel_rfl
def IntsEW (w : World) (lo hi : Nat) (u : List Value) (d : List Int) : Prop := ∃ v, u = [v] ∧ OwW w lo hi 3 1 v d.length (d.map (Value.int .i64))
def IntsE (w : World) (u : List Value) (d : List Int) : Prop := ∃ v, u = [v] ∧ IntsR w v d
theorem IntsEW.span {w w' : World} {lo hi : Nat} {u : List Value} {d : List Int} {a b : Nat} (h : IntsEW w lo hi u d) (s : Span a b w w') (hd : hi ≤ a ∨ b ≤ lo) : IntsEW w' lo hi u d := by
  obtain ⟨v, h1, h2⟩ := h
  exact ⟨v, h1, h2.span s hd⟩
theorem IntsE.fr {w w' : World} {u : List Value} {d : List Int} (h : IntsE w u d) (hf : Fr w w') : IntsE w' u d := by
  obtain ⟨v, h1, h2⟩ := h
  exact ⟨v, h1, h2.fr hf⟩
theorem IntsEW.rd {w : World} {lo hi : Nat} {u : List Value} {d : List Int} (h : IntsEW w lo hi u d) : IntsE w u d := by
  obtain ⟨v, h1, h2⟩ := h
  exact ⟨v, h1, h2.rd⟩
def IntSSR (w : World) (v : Value) (xs : List (List Int)) : Prop := NestR IntsE 1 w v xs
def IntSSW (w : World) (lo hi : Nat) (v : Value) (xs : List (List Int)) : Prop := NestW IntsEW 86 1 w lo hi v xs
theorem IntSSR.fr {w w' : World} {v : Value} {xs : List (List Int)} (h : IntSSR w v xs) (hf : Fr w w') : IntSSR w' v xs := NestR.fr (E := IntsE) (fun a b => IntsE.fr a b) h hf
theorem IntSSW.fr {w w' : World} {lo hi : Nat} {v : Value} {xs : List (List Int)} (h : IntSSW w lo hi v xs) (hf : Fr w w') : IntSSW w' lo hi v xs := NestP.fr (E := IntsEW) (fun a b c => IntsEW.span a b c) h hf
theorem IntSSW.mono {w : World} {lo hi hi' : Nat} {v : Value} {xs : List (List Int)} (h : IntSSW w lo hi v xs) (hh : hi ≤ hi') : IntSSW w lo hi' v xs := NestP.mono h (Nat.le_refl _) hh
theorem IntSSW.rd {w : World} {lo hi : Nat} {v : Value} {xs : List (List Int)} (h : IntSSW w lo hi v xs) : IntSSR w v xs := NestP.rd (E := IntsEW) (E' := IntsE) (fun a => IntsEW.rd a) h
theorem IntSSR.one {w : World} {v : Value} {xs : List (List Int)} (h : IntSSR w v xs) :
    ∃ ao b o cap, v = .slice ao xs.length cap ∧ xs.length ≤ cap ∧ cap ≤ 9223372036854775807 ∧ (0 < xs.length → ao = some ⟨b, o, none⟩ ∧ b < w.heap.size ∧ ∀ k, k < xs.length → ∃ a, IntsR w a (nAt xs k) ∧ w.cell? ⟨b, o + k, none⟩ = some a) := by
  obtain ⟨ao, b, o, cap, h1, h2, h3, h4⟩ := NestR.one h
  refine ⟨ao, b, o, cap, h1, h2, h3, fun hn => ⟨(h4 hn).1, (h4 hn).2.1, fun k hk => ?_⟩⟩
  obtain ⟨u, _, ⟨a, hu, ha⟩, hc⟩ := (h4 hn).2.2 k hk
  rw [hu] at hc
  exact ⟨a, ha, by simpa using hc 0 _ (by omega) rfl⟩
theorem IntSSW.nil (w : World) (lo hi : Nat) : IntSSW w lo hi (.slice none 0 0) [] := NestP.none_yet (OwW.nil _ _ _ _ _)
/-- A pair more, in blocks of its own. -/
theorem IntSSW.pair {W w w1 w2 w3 : World} {L : Nat} {az : Option Addr} {k cz : Nat} {xs : List (List Int)} {a b : Int} {v' : Value} {ys : List Value} (h : IntSSW w L w.heap.size (.slice az k cz) xs) (hk : k = xs.length) (hW : W.heap.size ≤ L) (hL : L ≤ w.heap.size) (hfr : Fr W w)
    (happ : ∀ (v' : Value) (w' w'' : World) (u : List Value) (x : List Int) (l1 h1 hi' J : Nat), Fr w w' → w''.ownsRow L 86 1 v' (xs.length + 1) (ys ++ u) → w'.grownBy w'' (Value.slice az k cz).ownBlock → (v'.ownBlock = (Value.slice az k cz).ownBlock ∨ v'.ownBlock = some J) → RowIn L hi' v' → h1 ≤ J → h1 ≤ hi' → u.length = 1 → IntsEW w' l1 h1 u x → L ≤ l1 → w.heap.size ≤ l1 → l1 ≤ h1 → NestW IntsEW 86 1 w'' L hi' v' (xs ++ [x]))
    (e1 : w1 = w.alloc (.cells #[.int .i64 a, .int .i64 b] 3)) (e2 : ∃ o, w2 = w1.alloc o) (hown : w3.ownsRow L 86 1 v' (k + 1) (ys ++ [.slice (some ⟨w.heap.size, 0, none⟩) 2 2])) (hg : w2.grownBy w3 (Value.slice az k cz).ownBlock) (hat : v'.ownBlock = (Value.slice az k cz).ownBlock ∨ v'.ownBlock = some w2.heap.size) :
    IntSSW w3 L w3.heap.size v' (xs ++ [[a, b]]) ∧ Fr W w3 := by
  subst hk e1
  obtain ⟨o, rfl⟩ := e2
  have z3 := hg.size
  have s2 : ((w.alloc (.cells #[.int .i64 a, .int .i64 b] 3)).alloc o).heap.size = w.heap.size + 2 := by simp
  have hf2 : Fr w ((w.alloc (.cells #[.int .i64 a, .int .i64 b] 3)).alloc o) := by exact Qf
  have hrow : OwW ((w.alloc (.cells #[.int .i64 a, .int .i64 b] 3)).alloc o) w.heap.size (w.heap.size + 1) 3 1 (.slice (some ⟨w.heap.size, 0, none⟩) 2 2) 2 [.int .i64 a, .int .i64 b] := by
    refine OwW.alloc ⟨⟨by simp, .inr ⟨w.heap.size, 2, #[.int .i64 a, .int .i64 b], rfl, Nat.le_refl _, heap_alloc_new w _, Nat.le_refl _, by unfold maxLen; omega, by simp, by simp⟩⟩, fun g e => by cases e; exact ⟨Nat.le_refl _, Nat.lt_succ_self _⟩⟩ _
  refine ⟨happ v' _ w3 _ [a, b] w.heap.size (w.heap.size + 1) w3.heap.size _ hf2 hown hg hat (RowIn.of_owns hown) (by omega) (by omega) rfl ⟨_, rfl, hrow⟩ hL (Nat.le_refl _) (by omega), ?_⟩
  exact Fr.app (hfr.trans hf2) hg (NestW.rowIn h) hW
theorem IntsO.get {w : World} {lo : Nat} {a : Option Addr} {c : Nat} {xs : List Int} (h : IntsO w lo (.slice a xs.length c) xs) : ∃ bb, 0 < xs.length → a = some ⟨bb, 0, none⟩ ∧ lo ≤ bb ∧ bb < w.heap.size ∧ ∀ q, q < xs.length → w.cell? ⟨bb, q, none⟩ = some (.int .i64 (iAt xs q)) := by
  rcases owns_shape h with ⟨_, h0, _⟩ | ⟨g, cap, e, h1, h2, _⟩
  · exact ⟨0, fun h => by omega⟩
  · cases e
    refine ⟨g, fun _ => ⟨rfl, h1, h2, fun q hq => ?_⟩⟩
    rw [World.ownsRow.cellAt h q (by omega)]
    simp [iAt, List.getD, hq]
/-! ### what is told of a path, plain -/
def endsL (g : GraphD) (ps : List PieceD) (x : Int) : List Int := if graphB g = true ∧ pathB ps = true ∧ (0 ≤ x ∧ x < g.f0) then reachL g.f0.toNat (endR g.f0.toNat (stR g.f1) ps x.toNat) else []
def pairsM (g : GraphD) (ps : List PieceD) : List (List Int) := if graphB g = true ∧ pathB ps = true then pairsL (endR g.f0.toNat (stR g.f1) ps) g.f0.toNat g.f0.toNat else []
theorem pairsL_more {n m : Nat} {R : Nat → Nat → Bool} (h : Sup n R) (hm : n ≤ m) : ∀ v, pairsL R m v = pairsL R n v
  | 0 => rfl
  | v + 1 => by rw [pairsL, pairsL, pairsL_more h hm v, reachL_more (fun k hk => (h _ _ hk).2) hm]
theorem graph_nat {g : GraphD} (h : graphB g = true) : ∃ n : Nat, g.f0 = (n : Int) ∧ 0 < n ∧ n ≤ 12 ∧ EdgesIn n g.f1 := by
  obtain ⟨⟨h1, h2⟩, _⟩ := graphB_out h
  obtain ⟨n, hn⟩ := Int.eq_ofNat_of_zero_le (show 0 ≤ g.f0 by omega)
  have := edges_in h
  rw [hn] at this
  exact ⟨n, hn, by omega, by omega, by simpa using this⟩
set_option maxHeartbeats 2000000 in
set_option maxRecDepth 100000 in
theorem reached_any (v : Value) (ps : List PieceD) (n : Nat) (ev : Value) (es : List EdgeR) (w : World) (hn : 0 < n ∧ n ≤ 12) (hv : PiecesR w v ps) (hp : pathB ps = true) (he : EdgesR w ev es) (hin : EdgesIn n es) :
    Calls Tryz.prog 156 #[.agg #[.int .i64 (n : Int), ev], .agg #[v]] w fun e w' => ∃ ao cap, e = .returned (.slice ao n cap) ∧ RelR w' (.slice ao n cap) n (endR n (stR es) ps) ∧ Fr w w' := by
  have CM : Hid (∀ w', Fr w w' → Box w' w.heap.size #[.int .i64 (n : Int), ev] 55 → Calls Tryz.prog 190 #[.agg #[v], .int .i64 (n : Int), .func (.func 191) #[] #[.pointer (some ⟨w.heap.size, 0, none⟩)]] w' fun e w'' => ∃ ao cap, e = .returned (.slice ao n cap) ∧ RelR w'' (.slice ao n cap) n (endR n (stR es) ps) ∧ Fr w' w'') := Lib.hid fun w' h hb => meaningOf_any v ps n w.heap.size ev es w' hn (hv.fr h) hp hb (he.fr h) hin
  obtain ⟨ae, be, oe, ce, rfl, hce, hme, fe⟩ := he.one
  obtain ⟨av, bv, ov, cv, rfl, hcv, hmv, fv⟩ := hv.one
  clear hv hp he hin fe fv
  go_enter Tryz.func156, Tryz.ntmps156
  go_wp2_with fail
  refine (CM.out _ (by exact Qf) ((Box.new _ _ _).alloc _)).mono ?_
  rintro e w1 ⟨ao, cap, rfl, hr, hf1⟩
  have HR := Lib.hid hr
  clear hr
  go_wp2_with fail
  go_ret
  exact ⟨_, _, rfl, HR.out, by exact Qf⟩
theorem pairs_next (R : Nat → Nat → Bool) (m v : Nat) : pairsL R m (v + 1) = pairsL R m v ++ (reachL m (R v)).map fun w => [(v : Int), w] := rfl
def pairsTo (R : Nat → Nat → Bool) (m v q : Nat) : List (List Int) := pairsL R m v ++ ((reachL m (R v)).take q).map fun w => [(v : Int), w]
theorem pairsTo_0 (R : Nat → Nat → Bool) (m v : Nat) : pairsTo R m v 0 = pairsL R m v := by simp [pairsTo]
theorem pairsTo_all {R : Nat → Nat → Bool} {m v q : Nat} (h : (reachL m (R v)).length ≤ q) : pairsTo R m v q = pairsL R m (v + 1) := by
  unfold pairsTo
  rw [List.take_of_length_le h]
  rfl
theorem pairsTo_step {R : Nat → Nat → Bool} {m v q : Nat} (h : q < (reachL m (R v)).length) : pairsTo R m v (q + 1) = pairsTo R m v q ++ [[(v : Int), iAt (reachL m (R v)) q]] := by
  unfold pairsTo
  rw [List.take_succ_eq_append_getElem h, List.map_append, ← List.append_assoc]
  simp [iAt, List.getD, h]
theorem pairsTo_len (R : Nat → Nat → Bool) (m v q : Nat) : (pairsTo R m v q).length ≤ (v + 1) * m := by
  unfold pairsTo
  rw [List.length_append, List.length_map, List.length_take, Nat.add_mul]
  have := pairsL_len R m v
  have := reachL_len m (R v)
  omega
set_option maxHeartbeats 16000000 in
set_option maxRecDepth 100000 in
theorem implPathPairs_w (g : GraphD) (ev : Value) (v : Value) (ps : List PieceD) (w : World) (he : EdgesR w ev g.f1) (hv : PiecesR w v ps) :
    Calls Tryz.prog 98 #[.agg #[.int .i64 g.f0, ev], .agg #[v]] w fun e w' => ∃ ao cap, e = .returned (.slice ao (pairsM g ps).length cap) ∧ IntSSW w' w.heap.size w'.heap.size (.slice ao (pairsM g ps).length cap) (pairsM g ps) ∧ Fr w w' := by
  obtain ⟨k0, ki, kz0, kz1, kz2⟩ := info_parts info_ints
  obtain ⟨gb, hgb⟩ : ∃ gb, graphB g = gb := ⟨_, rfl⟩
  obtain ⟨pb, hpb⟩ : ∃ pb, pathB ps = pb := ⟨_, rfl⟩
  have HE := Lib.hid he
  have HV := Lib.hid hv
  have CG : Hid (∀ w', Fr w w' → Calls Tryz.prog 84 #[.agg #[.int .i64 g.f0, ev]] w' fun e w'' => e = .returned (.bool gb) ∧ Fr w' w'') := Lib.hid fun w' h => by rw [← hgb]; exact implGraphOk_any ev g.f0 g.f1 w' (HE.out.fr h)
  have CP : Hid (∀ w', Fr w w' → Calls Tryz.prog 155 #[.agg #[v]] w' fun e w'' => e = .returned (.bool pb) ∧ Fr w' w'') := Lib.hid fun w' h => by rw [← hpb]; exact implPathOk_any v ps w' (HV.out.fr h)
  have HNO : Hid (¬ (gb = true ∧ pb = true) → pairsM g ps = []) := Lib.hid fun h => by
    unfold pairsM
    rw [if_neg]
    rintro ⟨h1, h2⟩
    exact h ⟨hgb ▸ h1, hpb ▸ h2⟩
  obtain ⟨ae, be, oe, ce, rfl, hce, hme, fe⟩ := he.one
  obtain ⟨av, bv, ov, cv, rfl, hcv, hmv, fv⟩ := hv.one
  clear he hv fe fv
  cases gb
  · have hL := HNO.out (by simp)
    rw [hL]
    clear HNO hgb hpb hL
    go_enter Tryz.func98, Tryz.ntmps98
    go_wp2_with fail
    refine (CG.out _ (by exact Qf)).mono ?_
    rintro e w1 ⟨rfl, hf1⟩
    have BP1 := (Box.new' (w := w.alloc (.cells #[.int .i64 g.f0, .slice ae g.f1.length ce] 55)) (X := #[.slice av ps.length cv]) (T := 138) (b := w.heap.size + 1) (by simp)).fr hf1
    have FP1 := BP1.facts
    go_wp2_with fail
    go_ret
    exact ⟨none, 0, rfl, IntSSW.nil _ _ _, by exact Qf⟩
  cases pb
  · have hL := HNO.out (by simp)
    rw [hL]
    clear HNO hgb hpb hL
    go_enter Tryz.func98, Tryz.ntmps98
    go_wp2_with fail
    refine (CG.out _ (by exact Qf)).mono ?_
    rintro e w1 ⟨rfl, hf1⟩
    have BP1 := (Box.new' (w := w.alloc (.cells #[.int .i64 g.f0, .slice ae g.f1.length ce] 55)) (X := #[.slice av ps.length cv]) (T := 138) (b := w.heap.size + 1) (by simp)).fr hf1
    have FP1 := BP1.facts
    go_wp2_with fail
    refine (CP.out _ (by exact Qf)).mono ?_
    rintro e w2 ⟨rfl, hf2⟩
    go_wp2_with fail
    go_ret
    exact ⟨none, 0, rfl, IntSSW.nil _ _ _, by exact Qf⟩
  obtain ⟨n, hn, hn0, hn1, hin⟩ := graph_nat hgb
  obtain ⟨R, hR⟩ : ∃ R, endR n (stR g.f1) ps = R := ⟨_, rfl⟩
  have HS : Hid (Sup n R) := Lib.hid (hR ▸ sup_end (sup_st hin) ps)
  have HL : Hid (pairsM g ps = pairsL R 32 n) := Lib.hid (by
    unfold pairsM
    rw [if_pos ⟨hgb, hpb⟩, hn, pairsL_more HS.out (by omega)]
    simp [hR])
  have CR : Hid (∀ w', Fr w w' → Calls Tryz.prog 156 #[.agg #[.int .i64 (n : Int), .slice ae g.f1.length ce], .agg #[.slice av ps.length cv]] w' fun e w'' => ∃ ao cap, e = .returned (.slice ao n cap) ∧ RelR w'' (.slice ao n cap) n R ∧ Fr w' w'') := Lib.hid fun w' h => by rw [← hR]; exact reached_any _ ps n _ g.f1 w' ⟨hn0, hn1⟩ (HV.out.fr h) hpb (HE.out.fr h) hin
  rw [HL.out]
  rw [hn] at CG ⊢
  clear HNO hgb hpb hn hin hR HL HS
  go_enter Tryz.func98, Tryz.ntmps98
  go_wp2_with fail
  refine (CG.out _ (by exact Qf)).mono ?_
  rintro e w1 ⟨rfl, hf1⟩
  have BG1 := ((Box.new w #[.int .i64 (n : Int), .slice ae g.f1.length ce] 55).alloc (.cells #[.slice av ps.length cv] 138)).fr hf1
  have BP1 := (Box.new' (w := w.alloc (.cells #[.int .i64 (n : Int), .slice ae g.f1.length ce] 55)) (X := #[.slice av ps.length cv]) (T := 138) (b := w.heap.size + 1) (by simp)).fr hf1
  have FP1 := BP1.facts
  go_wp2_with fail
  refine (CP.out _ (by exact Qf)).mono ?_
  rintro e w2 ⟨rfl, hf2⟩
  have FG2 := (BG1.fr hf2).facts
  have FP2 := (BP1.fr hf2).facts
  go_wp2_with fail
  refine (CR.out _ (by exact Qf)).mono ?_
  rintro e w3 ⟨ao, cap, rfl, hr, hf3⟩
  obtain ⟨ao', b, o, cap', hv, hc1, hc2, hf⟩ := hr.one
  cases hv
  obtain ⟨rfl, hb, hc⟩ := hf hn0
  have HC := Lib.hid hc
  have hfw3 : Fr w w3 := by exact Qf
  have HFW := Lib.hid hfw3
  clear hc hf hr FG2 FP2 FP1 BG1 BP1 hf1 hf2 hf3 hfw3
  go_wp2_with fail
  go_loopw [5, 22] (fun z i wr => ∃ (k : Nat) (az : Option Addr) (cz : Nat), k ≤ n ∧ i = .int .i64 k ∧ z = .slice az (pairsTo R 32 k 0).length cz ∧ Hid (IntSSW wr w3.heap.size wr.heap.size (.slice az (pairsTo R 32 k 0).length cz) (pairsTo R 32 k 0)) ∧ Hid (Fr w3 wr)) (fun _ i _ => n - (intOf i).toNat)
  case atStart => exact ⟨0, none, 0, Nat.zero_le _, rfl, rfl, Lib.hid (IntSSW.nil _ _ _), Lib.hid (Fr.refl _)⟩
  case round =>
    obtain ⟨k, az, cz, hk, rfl, rfl, HP, hf3⟩ := hrel
    have zr3 := hf3.out.size
    by_cases hlt : k < n
    · have c0 := (hf3.out.cell (p := ⟨b, _, none⟩) hb).trans (HC.out k hlt)
      go_wp2_with fail
      refine (bitsIn_any (R k) _).mono ?_
      rintro e w5 ⟨a5, c5, rfl, h5, hf5⟩
      have hl32 := reachL_len 32 (R k)
      obtain ⟨bb, hbb⟩ := IntsO.get h5
      have zf5 := hf5.size
      have hrow := NestW.rowIn HP.out
      have HRD : Hid (0 < (reachL 32 (R k)).length → bb < w5.heap.size ∧ (Value.slice az (pairsTo R 32 k 0).length cz).ownBlock ≠ some bb ∧ ∀ q, q < (reachL 32 (R k)).length → w5.cell? ⟨bb, q, none⟩ = some (.int .i64 (iAt (reachL 32 (R k)) q))) := Lib.hid fun h => ⟨(hbb h).2.2.1, fun e => by have := hrow bb e; have := (hbb h).2.1; omega, (hbb h).2.2.2⟩
      have HAD : Hid (0 < (reachL 32 (R k)).length → a5 = some ⟨bb, 0, none⟩) := Lib.hid fun h => (hbb h).1
      have HP5 : Hid (IntSSW w5 w3.heap.size w5.heap.size (.slice az (pairsTo R 32 k 0).length cz) (pairsTo R 32 k 0)) := Lib.hid ((HP.out.fr hf5).mono hf5.size)
      have HF35 : Hid (Fr w3 w5) := Lib.hid (hf3.out.trans hf5)
      clear h5 hbb c0 hrow
      go_wp2_with fail
      go_loopw [5, 30] (fun z i wr => ∃ (q : Nat) (az : Option Addr) (cz : Nat), q ≤ (reachL 32 (R k)).length ∧ i = .int .i64 q ∧ z = .slice az (pairsTo R 32 k q).length cz ∧ Hid (IntSSW wr w3.heap.size wr.heap.size (.slice az (pairsTo R 32 k q).length cz) (pairsTo R 32 k q)) ∧ Hid (Fr w3 wr) ∧ Hid (0 < (reachL 32 (R k)).length → bb < wr.heap.size ∧ (Value.slice az (pairsTo R 32 k q).length cz).ownBlock ≠ some bb ∧ ∀ q, q < (reachL 32 (R k)).length → wr.cell? ⟨bb, q, none⟩ = some (.int .i64 (iAt (reachL 32 (R k)) q)))) (fun _ i _ => (reachL 32 (R k)).length - (intOf i).toNat)
      case atStart => exact ⟨0, az, cz, Nat.zero_le _, rfl, rfl, HP5, HF35, HRD⟩
      case round =>
        clear HP5 HF35 HP hf3 hf5 zr3 HRD zf5
        obtain ⟨q, az, cz, hq, rfl, rfl, HP, hf3, hrd⟩ := hrel
        by_cases hqt : q < (reachL 32 (R k)).length
        · obtain rfl := HAD.out (by omega)
          obtain ⟨hb1, hb2, hb3⟩ := hrd.out (by omega)
          have d0 := hb3 q hqt
          have HB3 := Lib.hid hb3
          have HB2 := Lib.hid hb2
          obtain ⟨y, hy⟩ : ∃ y, iAt (reachL 32 (R k)) q = y := ⟨_, rfl⟩
          have hst := pairsTo_step (m := 32) (R := R) hqt
          rw [hy] at d0 hst
          have HST := Lib.hid hst
          have hle := pairsTo_len R 32 k q
          have hle2 : (k + 1) * 32 ≤ 12 * 32 := Nat.mul_le_mul_right _ (by omega)
          have zz := hf3.out.size
          obtain ⟨ys, hys, happ⟩ := NestW.app (E := IntsEW) (fun a b c => IntsEW.span a b c) HP.out
          have HYS := Lib.hid hys
          have HAPP := Lib.hid happ
          clear hys happ hst hy hb3 hrd hb2
          go_wp2_with ((at_builtin; (refine wpList_append_rd rfl _ _ 30 rfl w3.heap.size 86 k0 (.slice none 0 0) 1 24 Tryz.underlying30 ki kz0 kz1 kz2 rfl (by decide) (.slice az (pairsTo R 32 k q).length cz) (pairsTo R 32 k q).length ys rfl (World.ownsRow.alloc (World.ownsRow.alloc HYS.out.1 _) _) _ 1 [.slice (some ⟨wr.heap.size, 0, none⟩) 2 2] rfl (RdS.new (by first | rfl | (simp; done)) rfl) (by simp [Value.oneCell']) (by unfold maxLen; omega) (by omega) (by exact Qz) ?_; intro ay cy w9 hown9 hgrow9 hat9)))
          have HE := Lib.hid (IntSSW.pair (W := w3) (a := (k : Int)) (b := y) HP.out rfl (Nat.le_refl _) zz hf3.out HAPP.out rfl ⟨_, rfl⟩ hown9 hgrow9 hat9)
          have hlen : (pairsTo R 32 k (q + 1)).length = (pairsTo R 32 k q).length + 1 := by rw [HST.out]; simp
          have HRD : Hid (0 < (reachL 32 (R k)).length → bb < w9.heap.size ∧ (Value.slice ay ((pairsTo R 32 k q).length + 1) cy).ownBlock ≠ some bb ∧ ∀ q, q < (reachL 32 (R k)).length → w9.cell? ⟨bb, q, none⟩ = some (.int .i64 (iAt (reachL 32 (R k)) q))) := Lib.hid fun _ => ⟨by have := hgrow9.size; simp at this; omega, fun e => by
            rcases hat9 with h | h
            · rw [h] at e; exact HB2.out e
            · rw [h] at e; simp at e; omega, fun q hq => by
            rw [grown_cell hgrow9 (b := bb) (by simp; omega) HB2.out q, ← HB3.out q hq]
            exact (show Fr wr _ by exact Qf).cell (p := ⟨bb, _, none⟩) hb1⟩
          go_roundw
          case rel =>
            refine ⟨q + 1, ay, cy, by omega, by go_num, by rw [hlen], Lib.hid ?_, Lib.hid HE.out.2, Lib.hid ?_⟩
            · rw [hlen, HST.out]; exact HE.out.1
            · rw [hlen]; exact HRD.out
          case measure => (simp [intOf]; omega)
        · have HN : Hid (pairsTo R 32 k q = pairsTo R 32 (k + 1) 0) := Lib.hid (by rw [pairsTo_all (by omega), pairsTo_0])
          clear hrd
          go_wp2_with fail
          go_roundw
          case rel => exact ⟨k + 1, az, cz, by omega, by go_num, by rw [HN.out], by rw [← HN.out]; exact HP, hf3⟩
          case measure => (simp [intOf]; omega)
    · obtain rfl : k = n := by omega
      go_wp2_with fail
      go_ret
      have zw := HFW.out.size
      refine ⟨az, cz, by rw [pairsTo_0]; rfl, ?_, HFW.out.trans hf3.out⟩
      rw [← pairsTo_0]
      exact NestP.mono HP.out zw (Nat.le_refl _)
theorem implPathPairs_any (g : GraphD) (ev : Value) (v : Value) (ps : List PieceD) (w : World) (he : EdgesR w ev g.f1) (hv : PiecesR w v ps) :
    Calls Tryz.prog 98 #[.agg #[.int .i64 g.f0, ev], .agg #[v]] w fun e w' => ∃ u, e = .returned u ∧ IntSSR w' u (pairsM g ps) ∧ Fr w w' :=
  (implPathPairs_w g ev v ps w he hv).mono fun e w' ⟨_, _, h1, h2, h3⟩ => ⟨_, h1, h2.rd, h3⟩
end Go.Proofs.YtmdgdnkllclpcaaGreat
