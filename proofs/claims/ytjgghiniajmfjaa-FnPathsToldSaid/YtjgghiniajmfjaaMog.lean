/- meaningOf, reached of the program. Conditions: at most 12 places, a right path, a right graph. -/
import Derived.Test.YtjgghiniajmfjaaMof
namespace Go.Proofs.Ytjgghiniajmfjaa
open Go.RowKit
set_option linter.unusedVariables false
set_option linter.unusedSimpArgs false
theorem map_set_range (us : Nat → Value) (m i : Nat) (v : Value) : ((List.range m).map us).set i v = (List.range m).map fun k => if k = i then v else us k := by
  refine List.ext_getElem? fun k => ?_
  rw [List.getElem?_set]
  by_cases hk : k < m
  · by_cases e : i = k
    · subst e
      simp [hk]
    · simp [hk, e, Ne.symm e]
  · rw [List.getElem?_eq_none (by simp; omega), List.getElem?_eq_none (by simp; omega)]
    split
    · rw [if_neg (by simp; omega)]
    · rfl
/-- The relations of the pieces so far: the program's row of rows at block A. -/
def AllI (w : World) (A m n : Nat) (acc : List (Nat → Nat → Bool)) : Prop := ∃ us : Nat → Value, w.ownsRow A 126 1 (.slice (some ⟨A, 0, none⟩) m m) m ((List.range m).map us) ∧ ∀ k, k < acc.length → RelO w (A + 1) (us k) n (nAt acc k)
theorem AllI.fr {w w' : World} {A m n : Nat} {acc : List (Nat → Nat → Bool)} (h : AllI w A m n acc) (hf : Fr w w') : AllI w' A m n acc := by
  obtain ⟨us, h1, h2⟩ := h
  exact ⟨us, owns_fr h1 hf, fun k hk => (h2 k hk).fr hf⟩
theorem AllI.lt {w : World} {A m n : Nat} {acc : List (Nat → Nat → Bool)} (h : AllI w A m n acc) : A < w.heap.size := by
  obtain ⟨us, h1, h2⟩ := h
  exact (World.ownsRow.lt h1 A rfl).2
theorem AllI.spot {w : World} {A m n : Nat} {acc : List (Nat → Nat → Bool)} (h : AllI w A m n acc) {k : Nat} (hk : k < m) : ∃ u, w.cell? ⟨A, k, none⟩ = some u ∧ w.frozen? ⟨A, k, none⟩ = false := by
  obtain ⟨us, h1, h2⟩ := h
  obtain ⟨u, hu⟩ := owns_cell h1 k (by omega)
  exact ⟨u, hu, h1.frozenAt k⟩
theorem AllI.get {w : World} {A m n : Nat} {acc : List (Nat → Nat → Bool)} (h : AllI w A m n acc) {k : Nat} (hk : k < acc.length) (hm : k < m) : ∃ ao cap, w.cell? ⟨A, k, none⟩ = some (.slice ao n cap) ∧ w.frozen? ⟨A, k, none⟩ = false ∧ RelR w (.slice ao n cap) n (nAt acc k) := by
  obtain ⟨us, h1, h2⟩ := h
  obtain ⟨ao, cap, e⟩ := (h2 k hk).val
  refine ⟨ao, cap, ?_, h1.frozenAt k, e ▸ (h2 k hk).rd⟩
  rw [h1.cellAt k (by omega)]
  simp [hm, e]
theorem AllI.put {w : World} {A m n : Nat} {acc acc0 : List (Nat → Nat → Bool)} {R : Nat → Nat → Bool} {v : Value} {i : Nat} (h : AllI w A m n acc) (hpre : ∀ k, k < acc0.length → k < acc.length ∧ nAt acc k = nAt acc0 k) (hv : RelO w (A + 1) v n R) (hi : i = acc0.length) : AllI (w.setCell ⟨A, i, none⟩ v) A m n (acc0 ++ [R]) := by
  subst hi
  obtain ⟨us, h1, h2⟩ := h
  refine ⟨fun k => if k = acc0.length then v else us k, ?_, fun k hk => ?_⟩
  · have := (World.ownsRow.stored h1 acc0.length v).1
    rw [map_set_range] at this
    exact this
  · simp only [List.length_append, List.length_singleton] at hk
    by_cases e : k = acc0.length
    · subst e
      rw [nAt_end _ _ rfl]
      simp only [if_true]
      exact owns_set hv (show A < A + 1 by omega) _
    · rw [nAt_front _ _ (by omega)]
      simp only [if_neg e]
      have := hpre k (by omega)
      rw [← this.2]
      exact owns_set (h2 k this.1) (show A < A + 1 by omega) _
theorem pre_same {acc : List (Nat → Nat → Bool)} {R : Nat → Nat → Bool} : ∀ k, k < acc.length → k < (acc ++ [R]).length ∧ nAt (acc ++ [R]) k = nAt acc k := fun k hk => ⟨by simp; omega, nAt_front _ _ hk⟩
theorem pre_refl {acc : List (Nat → Nat → Bool)} : ∀ k, k < acc.length → k < acc.length ∧ nAt acc k = nAt acc k := fun k hk => ⟨hk, rfl⟩
def KidsOk (k : Nat) (l : List Int) : Prop := ∀ m, m < l.length → ∃ j : Nat, iAt l m = (j : Int) ∧ j < k
theorem kidsB_ok {k : Nat} {l : List Int} (h : kidsB k l = true) : KidsOk k l := fun m hm => by
  unfold kidsB at h
  rw [List.all_eq_true] at h
  have := h l[m] (List.getElem_mem hm)
  rw [decide_eq_true_eq] at this
  have e : iAt l m = l[m] := by simp [iAt, List.getD, hm]
  obtain ⟨j, hj⟩ := Int.eq_ofNat_of_zero_le this.1
  exact ⟨j, by rw [e, hj], by omega⟩
theorem piece_cases {x : PieceD} {k : Nat} (h : pieceB x k = true) : x.f0 = 1 ∨ ((x.f0 = 2 ∨ x.f0 = 3) ∧ 2 ≤ x.f2.length ∧ KidsOk k x.f2) ∨ ((x.f0 = 4 ∨ x.f0 = 5 ∨ x.f0 = 6) ∧ x.f2.length = 1 ∧ ∃ j : Nat, iAt x.f2 0 = (j : Int) ∧ j < k) := by
  unfold pieceB at h
  split at h
  · exact .inl (by assumption)
  split at h
  · simp only [Bool.and_eq_true, decide_eq_true_eq] at h
    exact .inr (.inl ⟨by assumption, h.1, kidsB_ok h.2.1⟩)
  split at h
  · simp only [Bool.and_eq_true, decide_eq_true_eq] at h
    exact .inr (.inr ⟨by assumption, h.1, kidsB_ok h.2.1 0 (by omega)⟩)
  · cases h
theorem row_next {n : Nat} {acc : List (Nat → Nat → Bool)} {l : List Int} {m j : Nat} (h : iAt l m = (j : Int)) : rowR n acc l (m + 1) = rComp n (rowR n acc l m) (nAt acc j) := by
  rw [rowR, show kAt l m = j by unfold kAt; rw [h]; simp]
theorem alt_next {acc : List (Nat → Nat → Bool)} {l : List Int} {m j : Nat} (h : iAt l m = (j : Int)) : altR acc l (m + 1) = rOr (altR acc l m) (nAt acc j) := by
  rw [altR, show kAt l m = j by unfold kAt; rw [h]; simp]
set_option maxHeartbeats 16000000 in
set_option maxRecDepth 100000 in
theorem meaningOf_any (v : Value) (ps : List PieceD) (n B : Nat) (ev : Value) (es : List EdgeR) (w : World) (hn : 0 < n ∧ n ≤ 12) (hv : PiecesR w v ps) (hp : pathB ps = true) (hB : Box w B #[.int .i64 (n : Int), ev] 32) (he : EdgesR w ev es) (hin : EdgesIn n es) :
    Calls Try.prog 165 #[.agg #[v], .int .i64 (n : Int), .func (.func 166) #[] #[.pointer (some ⟨B, 0, none⟩)]] w fun e w' => ∃ ao cap, e = .returned (.slice ao n cap) ∧ RelR w' (.slice ao n cap) n (endR n (stR es) ps) ∧ Fr w w' := by
  obtain ⟨i0, hi, hz0, hz1, hz2⟩ := info_parts info_rel
  obtain ⟨j0, kj, jz0, jz1, jz2⟩ := info_parts info_u32
  obtain ⟨⟨hp1, hp2⟩, hpb⟩ := pathB_out hp
  have HPB := Lib.hid hpb
  obtain ⟨av, bv, ov, cv, rfl, hcv, hmv, fv⟩ := hv.one
  have FV := Lib.hid fv
  have CS : Hid (∀ (l : UInt8) w', Fr w w' → Calls Try.prog 166 #[.int .u8 (l.toNat : Int), .pointer (some ⟨B, 0, none⟩)] w' fun e w'' => ∃ ao cap, e = .returned (.slice ao n cap) ∧ RelO w'' w'.heap.size (.slice ao n cap) n (stR es l) ∧ Fr w' w'') := Lib.hid fun l w' h => stepOf_any l B n ev es w' hn (hB.fr h) (he.fr h) hin
  have HN := Lib.hid hn
  have hnn := hn.1
  have hnn2 := hn.2
  have eg : ∀ args w, (callFunc 166 args).run Try.prog w = .ok (.enter 166 args) w := enters_of Try.func166 (by kernel_rfl) rfl
  clear fv hv hp hpb hB he hin hn
  go_enter Try.func165, Try.ntmps165
  go_wp2_with (at_make; refine wpList_make_full _ rfl _ _ 248 rfl (w.heap.size + 1) 126 i0 (.slice none 0 0) 1 Try.underlying248 hi hz0 hz1 _ _ _ _ ps.length rfl rfl rfl rfl (by rw [hz2]; omega) (by unfold maxLen; omega) (by (first | (with_reducible assumption) | omega | (simp only [World.size_alloc, World.size_setCell, World.size_drew, World.heap_drewN]; omega) | (simp; done) | (simp; omega))) ?_; intro w1 hown hgrow; have HF1 : Fr (w.alloc (.cells #[.slice av ps.length cv] 27)) w1 := (Fr.refl _).grown hgrow (by simp); have F1 := ((Box.new w #[.slice av ps.length cv] 27).fr HF1).facts)
  have HA1 : Hid (AllI w1 (w.heap.size + 1) ps.length n (denR n (stR es) ps 0)) := Lib.hid ⟨fun _ => .slice none 0 0, by
    rw [show (List.range ps.length).map (fun _ => Value.slice none 0 0) = List.replicate ps.length (.slice none 0 0) from (by rw [List.map_const', List.length_range])]
    rw [show (madeCells (Value.cells (.slice none 0 0)) (ps.length * 1)).toList = List.replicate ps.length (.slice none 0 0) from by rw [Nat.mul_one]; exact toList_madeCells_one _ _] at hown
    first | exact hown | simpa using hown, fun k hk => by rw [denR_len] at hk; omega⟩
  have HF2 : Fr w w1 := by repeat (first | (with_reducible exact Fr.refl _) | (with_reducible assumption) | (with_reducible refine Fr.drewN ?_ _) | (with_reducible refine Fr.drew ?_) | (with_reducible refine Fr.alloc ?_ _) | (with_reducible refine Fr.setCell ?_ (by (first | (with_reducible assumption) | omega | (simp only [World.size_alloc, World.size_setCell, World.size_drew, World.heap_drewN]; omega) | (simp; done) | (simp; omega))) _) | (with_reducible refine Fr.trans ?_ (by with_reducible assumption)))
  clear hown hgrow
  go_loopw [21] (fun i wr => ∃ k : Nat, k ≤ ps.length ∧ i = .int .i64 k ∧ Hid (AllI wr (w.heap.size + 1) ps.length n (denR n (stR es) ps k)) ∧ Fr w wr) (fun i _ => ps.length - (intOf i).toNat)
  case atStart => exact ⟨0, Nat.zero_le _, rfl, HA1, HF2⟩
  case round =>
    clear HA1 HF1 HF2 F1
    obtain ⟨k, hk, rfl, HA, hfr⟩ := hrel
    have zr := hfr.size
    have hAl := HA.out.lt
    by_cases hlt : k < ps.length
    · obtain ⟨rfl, hbv, fv⟩ := FV.out (by omega)
      obtain ⟨va, ha, g0, g1, g2⟩ := fv k hlt
      have hpc := piece_cases (HPB.out k hlt)
      have hden : denR n (stR es) ps (k + 1) = denR n (stR es) ps k ++ [stepR n (stR es) (denR n (stR es) ps k) (nAt ps k)] := by rw [denR]
      have hal := denR_len n (stR es) ps k
      obtain ⟨acc, hacc⟩ : ∃ acc, denR n (stR es) ps k = acc := ⟨_, rfl⟩
      rw [hacc] at HA hal hden
      obtain ⟨x, hx⟩ : ∃ x, nAt ps k = x := ⟨_, rfl⟩
      rw [hx] at ha g0 g1 hpc hden
      have c0 := (hfr.cell (p := ⟨bv, _, none⟩) hbv).trans g0
      have c1 := (hfr.cell (p := ⟨bv, _, none⟩) hbv).trans g1
      have c2 := (hfr.cell (p := ⟨bv, _, none⟩) hbv).trans g2
      obtain ⟨aa, ba, oa, ca, rfl, hca, hma, fa⟩ := ha.one
      have FA := Lib.hid fa
      have hxl := x.f1.toNat_lt
      have HAL : acc.length ≤ k ∧ k ≤ acc.length := by omega
      obtain ⟨x0, x1, x2⟩ := x
      simp only [] at c0 c1 c2 hxl FA hca hpc
      have HD0 := Lib.hid hden
      have HIL : Hid (k = acc.length) := Lib.hid hal.symm
      clear fv ha g0 g1 g2 hx fa hacc hden hal
      rcases hpc with rfl | ⟨rfl | rfl, hl2, hks⟩ | ⟨rfl | rfl | rfl, hl1, j, hj, hjk⟩
      · -- a step
        have HD : Hid (denR n (stR es) ps (k + 1) = acc ++ [stR es x1]) := Lib.hid (by rw [HD0.out]; simp [stepR])
        clear HD0
        go_wp2_with (go_at_fn 166; refine (CS.out x1 _ (by repeat (first | (with_reducible exact Fr.refl _) | (with_reducible assumption) | (with_reducible refine Fr.drewN ?_ _) | (with_reducible refine Fr.drew ?_) | (with_reducible refine Fr.alloc ?_ _) | (with_reducible refine Fr.setCell ?_ (by (first | (with_reducible assumption) | omega | (simp only [World.size_alloc, World.size_setCell, World.size_drew, World.heap_drewN]; omega) | (simp; done) | (simp; omega))) _) | (with_reducible refine Fr.trans ?_ (by with_reducible assumption))))).mono ?_; rintro e w5 ⟨a5, c5, rfl, ho5, hf5⟩; have z5 := hf5.size; (try simp only [World.size_alloc, World.size_setCell, World.size_drew, World.heap_drewN] at z5); obtain ⟨u5, s5, s6⟩ := (HA.out.fr (show Fr wr w5 by repeat (first | (with_reducible exact Fr.refl _) | (with_reducible assumption) | (with_reducible refine Fr.drewN ?_ _) | (with_reducible refine Fr.drew ?_) | (with_reducible refine Fr.alloc ?_ _) | (with_reducible refine Fr.setCell ?_ (by (first | (with_reducible assumption) | omega | (simp only [World.size_alloc, World.size_setCell, World.size_drew, World.heap_drewN]; omega) | (simp; done) | (simp; omega))) _) | (with_reducible refine Fr.trans ?_ (by with_reducible assumption))))).spot hlt)
        have HA6 : AllI (w5.setCell ⟨w.heap.size + 1, k, none⟩ (.slice a5 n c5)) (w.heap.size + 1) ps.length n (acc ++ [stR es x1]) := (HA.out.fr (show Fr wr w5 by repeat (first | (with_reducible exact Fr.refl _) | (with_reducible assumption) | (with_reducible refine Fr.drewN ?_ _) | (with_reducible refine Fr.drew ?_) | (with_reducible refine Fr.alloc ?_ _) | (with_reducible refine Fr.setCell ?_ (by (first | (with_reducible assumption) | omega | (simp only [World.size_alloc, World.size_setCell, World.size_drew, World.heap_drewN]; omega) | (simp; done) | (simp; omega))) _) | (with_reducible refine Fr.trans ?_ (by with_reducible assumption))))).put pre_refl (owns_lo ho5 (by (first | (with_reducible assumption) | omega | (simp only [World.size_alloc, World.size_setCell, World.size_drew, World.heap_drewN]; omega) | (simp; done) | (simp; omega)))) HIL.out
        (go_roundw; (case rel => exact ⟨k + 1, by omega, by go_num, Lib.hid (HD.out ▸ HA6), by repeat (first | (with_reducible exact Fr.refl _) | (with_reducible assumption) | (with_reducible refine Fr.drewN ?_ _) | (with_reducible refine Fr.drew ?_) | (with_reducible refine Fr.alloc ?_ _) | (with_reducible refine Fr.setCell ?_ (by (first | (with_reducible assumption) | omega | (simp only [World.size_alloc, World.size_setCell, World.size_drew, World.heap_drewN]; omega) | (simp; done) | (simp; omega))) _) | (with_reducible refine Fr.trans ?_ (by with_reducible assumption)))⟩); (case measure => (simp [intOf]; omega)))
      · -- a row
        have HD : Hid (denR n (stR es) ps (k + 1) = acc ++ [rowR n acc x2 x2.length]) := Lib.hid (by rw [HD0.out]; simp [stepR])
        clear HD0
        go_wp2_with (go_at_call 206; refine (identity_any n _ HN.out).mono ?_; rintro e w5 ⟨a5, c5, rfl, ho5, hf5⟩; have z5 := hf5.size; (try simp only [World.size_alloc, World.size_setCell, World.size_drew, World.heap_drewN] at z5); obtain ⟨u5, s5, s6⟩ := (HA.out.fr (show Fr wr w5 by repeat (first | (with_reducible exact Fr.refl _) | (with_reducible assumption) | (with_reducible refine Fr.drewN ?_ _) | (with_reducible refine Fr.drew ?_) | (with_reducible refine Fr.alloc ?_ _) | (with_reducible refine Fr.setCell ?_ (by (first | (with_reducible assumption) | omega | (simp only [World.size_alloc, World.size_setCell, World.size_drew, World.heap_drewN]; omega) | (simp; done) | (simp; omega))) _) | (with_reducible refine Fr.trans ?_ (by with_reducible assumption))))).spot hlt; have BX5 := (Box.new wr #[.int .i64 2, .int .u8 (x1.toNat : Int), .slice aa x2.length ca] 121).fr hf5; have FX5 := BX5.facts)
        have HA6 : Hid (AllI (w5.setCell ⟨w.heap.size + 1, k, none⟩ (.slice a5 n c5)) (w.heap.size + 1) ps.length n (acc ++ [rowR n acc x2 0])) := Lib.hid ((HA.out.fr (show Fr wr w5 by repeat (first | (with_reducible exact Fr.refl _) | (with_reducible assumption) | (with_reducible refine Fr.drewN ?_ _) | (with_reducible refine Fr.drew ?_) | (with_reducible refine Fr.alloc ?_ _) | (with_reducible refine Fr.setCell ?_ (by (first | (with_reducible assumption) | omega | (simp only [World.size_alloc, World.size_setCell, World.size_drew, World.heap_drewN]; omega) | (simp; done) | (simp; omega))) _) | (with_reducible refine Fr.trans ?_ (by with_reducible assumption))))).put pre_refl (owns_lo ho5 (by (first | (with_reducible assumption) | omega | (simp only [World.size_alloc, World.size_setCell, World.size_drew, World.heap_drewN]; omega) | (simp; done) | (simp; omega)))) HIL.out)
        have HF6 : Fr w (w5.setCell ⟨w.heap.size + 1, k, none⟩ (.slice a5 n c5)) := by repeat (first | (with_reducible exact Fr.refl _) | (with_reducible assumption) | (with_reducible refine Fr.drewN ?_ _) | (with_reducible refine Fr.drew ?_) | (with_reducible refine Fr.alloc ?_ _) | (with_reducible refine Fr.setCell ?_ (by (first | (with_reducible assumption) | omega | (simp only [World.size_alloc, World.size_setCell, World.size_drew, World.heap_drewN]; omega) | (simp; done) | (simp; omega))) _) | (with_reducible refine Fr.trans ?_ (by with_reducible assumption)))
        clear ho5 BX5 FX5 s5 s6
        go_loopw [47] (fun i wr => ∃ m : Nat, m ≤ x2.length ∧ i = .int .i64 m ∧ Hid (AllI wr (w.heap.size + 1) ps.length n (acc ++ [rowR n acc x2 m])) ∧ Fr w wr) (fun i _ => x2.length - (intOf i).toNat)
        case atStart => exact ⟨0, Nat.zero_le _, rfl, HA6, HF6⟩
        case round =>
          clear HA6 HF6 hf5 hfr HA c0 c1 c2 z5 zr hAl
          obtain ⟨m, hm, rfl, HA, hfr⟩ := hrel
          have zr := hfr.size
          have hAl := HA.out.lt
          by_cases hmt : m < x2.length
          · obtain ⟨rfl, hba, fa⟩ := FA.out (by omega)
            obtain ⟨j, hj, hjk⟩ := hks m hmt
            have hjl : j < ps.length := by omega
            have d0 := (hfr.cell (p := ⟨ba, _, none⟩) hba).trans (hj ▸ fa m hmt)
            obtain ⟨a1, e1, s1, z1, r1⟩ := HA.out.get (k := k) (by simp; omega) hlt
            obtain ⟨a2, e2, s2, z2, r2⟩ := HA.out.get (k := j) (by simp; omega) (by omega)
            rw [nAt_end _ _ HIL.out] at r1
            rw [nAt_front _ _ (by omega)] at r2
            have CT : Hid (∀ w', Fr wr w' → Calls Try.prog 207 #[.slice a1 n e1, .slice a2 n e2] w' fun e w'' => ∃ ao cap, e = .returned (.slice ao n cap) ∧ RelO w'' w'.heap.size (.slice ao n cap) n (rowR n acc x2 (m + 1)) ∧ Fr w' w'') := Lib.hid fun w' h => by rw [row_next hj]; exact relThen_any _ _ n _ _ w' HN.out (r1.fr h) (r2.fr h)
            clear fa r1 r2 hj
            go_wp2_with fail
            go_region_law ((go_simp; go_at_call 207; refine (CT.out _ (by repeat (first | (with_reducible exact Fr.refl _) | (with_reducible assumption) | (with_reducible refine Fr.drewN ?_ _) | (with_reducible refine Fr.drew ?_) | (with_reducible refine Fr.alloc ?_ _) | (with_reducible refine Fr.setCell ?_ (by (first | (with_reducible assumption) | omega | (simp only [World.size_alloc, World.size_setCell, World.size_drew, World.heap_drewN]; omega) | (simp; done) | (simp; omega))) _) | (with_reducible refine Fr.trans ?_ (by with_reducible assumption))))).mono ?_; rintro e w9 ⟨a9, c9, rfl, ho9, hf9⟩; have z9 := hf9.size; (try simp only [World.size_alloc, World.size_setCell, World.size_drew, World.heap_drewN] at z9); have k9 := (show Fr wr w9 by repeat (first | (with_reducible exact Fr.refl _) | (with_reducible assumption) | (with_reducible refine Fr.drewN ?_ _) | (with_reducible refine Fr.drew ?_) | (with_reducible refine Fr.alloc ?_ _) | (with_reducible refine Fr.setCell ?_ (by (first | (with_reducible assumption) | omega | (simp only [World.size_alloc, World.size_setCell, World.size_drew, World.heap_drewN]; omega) | (simp; done) | (simp; omega))) _) | (with_reducible refine Fr.trans ?_ (by with_reducible assumption)))).blk (w.heap.size + 1) (by (first | (with_reducible assumption) | omega | (simp only [World.size_alloc, World.size_setCell, World.size_drew, World.heap_drewN]; omega) | (simp; done) | (simp; omega)))))
            all_goals
              have HA7 : Hid (∀ q, Fr w9 q → AllI (q.setCell ⟨w.heap.size + 1, k, none⟩ (.slice a9 n c9)) (w.heap.size + 1) ps.length n (acc ++ [rowR n acc x2 (m + 1)])) := Lib.hid fun q hq => (HA.out.fr (show Fr wr q from Fr.trans (show Fr wr w9 by repeat (first | (with_reducible exact Fr.refl _) | (with_reducible assumption) | (with_reducible refine Fr.drewN ?_ _) | (with_reducible refine Fr.drew ?_) | (with_reducible refine Fr.alloc ?_ _) | (with_reducible refine Fr.setCell ?_ (by (first | (with_reducible assumption) | omega | (simp only [World.size_alloc, World.size_setCell, World.size_drew, World.heap_drewN]; omega) | (simp; done) | (simp; omega))) _) | (with_reducible refine Fr.trans ?_ (by with_reducible assumption)))) hq)).put pre_same (owns_fr (owns_lo ho9 (by (first | (with_reducible assumption) | omega | (simp only [World.size_alloc, World.size_setCell, World.size_drew, World.heap_drewN]; omega) | (simp; done) | (simp; omega)))) hq) HIL.out
              go_wp2_with fail
              go_roundw
              case rel => exact ⟨m + 1, by omega, by go_num, by first | exact Lib.hid (HA7.out _ (by repeat (first | (with_reducible exact Fr.refl _) | (with_reducible assumption) | (with_reducible refine Fr.drewN ?_ _) | (with_reducible refine Fr.drew ?_) | (with_reducible refine Fr.alloc ?_ _) | (with_reducible refine Fr.setCell ?_ (by (first | (with_reducible assumption) | omega | (simp only [World.size_alloc, World.size_setCell, World.size_drew, World.heap_drewN]; omega) | (simp; done) | (simp; omega))) _) | (with_reducible refine Fr.trans ?_ (by with_reducible assumption))))) | exact Lib.hid ((HA7.out _ (Fr.refl _)).fr (by repeat (first | (with_reducible exact Fr.refl _) | (with_reducible assumption) | (with_reducible refine Fr.drewN ?_ _) | (with_reducible refine Fr.drew ?_) | (with_reducible refine Fr.alloc ?_ _) | (with_reducible refine Fr.setCell ?_ (by (first | (with_reducible assumption) | omega | (simp only [World.size_alloc, World.size_setCell, World.size_drew, World.heap_drewN]; omega) | (simp; done) | (simp; omega))) _) | (with_reducible refine Fr.trans ?_ (by with_reducible assumption))))), by repeat (first | (with_reducible exact Fr.refl _) | (with_reducible assumption) | (with_reducible refine Fr.drewN ?_ _) | (with_reducible refine Fr.drew ?_) | (with_reducible refine Fr.alloc ?_ _) | (with_reducible refine Fr.setCell ?_ (by (first | (with_reducible assumption) | omega | (simp only [World.size_alloc, World.size_setCell, World.size_drew, World.heap_drewN]; omega) | (simp; done) | (simp; omega))) _) | (with_reducible refine Fr.trans ?_ (by with_reducible assumption)))⟩
              case measure => (simp [intOf]; omega)
          · obtain rfl : m = x2.length := by omega
            have HA7 := HA.out
            go_wp2_with fail
            (go_roundw; (case rel => exact ⟨k + 1, by omega, by go_num, Lib.hid (HD.out ▸ HA7), by repeat (first | (with_reducible exact Fr.refl _) | (with_reducible assumption) | (with_reducible refine Fr.drewN ?_ _) | (with_reducible refine Fr.drew ?_) | (with_reducible refine Fr.alloc ?_ _) | (with_reducible refine Fr.setCell ?_ (by (first | (with_reducible assumption) | omega | (simp only [World.size_alloc, World.size_setCell, World.size_drew, World.heap_drewN]; omega) | (simp; done) | (simp; omega))) _) | (with_reducible refine Fr.trans ?_ (by with_reducible assumption)))⟩); (case measure => (simp [intOf]; omega)))
      · -- a choice
        have HD : Hid (denR n (stR es) ps (k + 1) = acc ++ [altR acc x2 x2.length]) := Lib.hid (by rw [HD0.out]; simp [stepR])
        clear HD0
        go_wp2_with (at_make; refine wpList_make_full _ rfl _ _ 126 rfl (w.heap.size + 1 + 1) 124 j0 (.int .u32 0) 1 Try.underlying126 kj jz0 jz1 _ _ _ _ n rfl rfl rfl rfl (by rw [jz2]; omega) (by unfold maxLen; omega) (by (first | (with_reducible assumption) | omega | (simp only [World.size_alloc, World.size_setCell, World.size_drew, World.heap_drewN]; omega) | (simp; done) | (simp; omega))) ?_; intro w5 hown hgrow; have hf5 : Fr (wr.alloc (.cells #[.int .i64 3, .int .u8 (x1.toNat : Int), .slice aa x2.length ca] 121)) w5 := (Fr.refl _).grown hgrow (by simp); have z5 := hf5.size; (try simp only [World.size_alloc, World.size_setCell, World.size_drew, World.heap_drewN] at z5); obtain ⟨u5, s5, s6⟩ := (HA.out.fr (show Fr wr w5 by repeat (first | (with_reducible exact Fr.refl _) | (with_reducible assumption) | (with_reducible refine Fr.drewN ?_ _) | (with_reducible refine Fr.drew ?_) | (with_reducible refine Fr.alloc ?_ _) | (with_reducible refine Fr.setCell ?_ (by (first | (with_reducible assumption) | omega | (simp only [World.size_alloc, World.size_setCell, World.size_drew, World.heap_drewN]; omega) | (simp; done) | (simp; omega))) _) | (with_reducible refine Fr.trans ?_ (by with_reducible assumption))))).spot hlt; have BX5 := (Box.new wr #[.int .i64 3, .int .u8 (x1.toNat : Int), .slice aa x2.length ca] 121).fr hf5; have FX5 := BX5.facts)
        rw [show (madeCells (Value.cells (.int .u32 0)) (n * 1)).toList = rCells n rNo from by rw [rCells_no, Nat.mul_one]; exact toList_madeCells_one _ _] at hown
        have HA6 := Lib.hid ((HA.out.fr (show Fr wr w5 by repeat (first | (with_reducible exact Fr.refl _) | (with_reducible assumption) | (with_reducible refine Fr.drewN ?_ _) | (with_reducible refine Fr.drew ?_) | (with_reducible refine Fr.alloc ?_ _) | (with_reducible refine Fr.setCell ?_ (by (first | (with_reducible assumption) | omega | (simp only [World.size_alloc, World.size_setCell, World.size_drew, World.heap_drewN]; omega) | (simp; done) | (simp; omega))) _) | (with_reducible refine Fr.trans ?_ (by with_reducible assumption))))).put pre_refl (show RelO w5 (w.heap.size + 1 + 1) _ n (altR acc x2 0) from hown) HIL.out)
        have HF6 : Fr w w5 := by repeat (first | (with_reducible exact Fr.refl _) | (with_reducible assumption) | (with_reducible refine Fr.drewN ?_ _) | (with_reducible refine Fr.drew ?_) | (with_reducible refine Fr.alloc ?_ _) | (with_reducible refine Fr.setCell ?_ (by (first | (with_reducible assumption) | omega | (simp only [World.size_alloc, World.size_setCell, World.size_drew, World.heap_drewN]; omega) | (simp; done) | (simp; omega))) _) | (with_reducible refine Fr.trans ?_ (by with_reducible assumption)))
        clear hown BX5 FX5 s5 s6 hgrow
        go_loopw [74] (fun i wr => ∃ m : Nat, m ≤ x2.length ∧ i = .int .i64 m ∧ Hid (AllI wr (w.heap.size + 1) ps.length n (acc ++ [altR acc x2 m])) ∧ Fr w wr) (fun i _ => x2.length - (intOf i).toNat)
        case atStart => exact ⟨0, Nat.zero_le _, rfl, by first | exact HA6 | (simpa using HA6), by repeat (first | (with_reducible exact Fr.refl _) | (with_reducible assumption) | (with_reducible refine Fr.drewN ?_ _) | (with_reducible refine Fr.drew ?_) | (with_reducible refine Fr.alloc ?_ _) | (with_reducible refine Fr.setCell ?_ (by (first | (with_reducible assumption) | omega | (simp only [World.size_alloc, World.size_setCell, World.size_drew, World.heap_drewN]; omega) | (simp; done) | (simp; omega))) _) | (with_reducible refine Fr.trans ?_ (by with_reducible assumption)))⟩
        case round =>
          clear HA6 HF6 hf5 hfr HA c0 c1 c2 z5 zr hAl
          obtain ⟨m, hm, rfl, HA, hfr⟩ := hrel
          have zr := hfr.size
          have hAl := HA.out.lt
          by_cases hmt : m < x2.length
          · obtain ⟨rfl, hba, fa⟩ := FA.out (by omega)
            obtain ⟨j, hj, hjk⟩ := hks m hmt
            have hjl : j < ps.length := by omega
            have d0 := (hfr.cell (p := ⟨ba, _, none⟩) hba).trans (hj ▸ fa m hmt)
            obtain ⟨a1, e1, s1, z1, r1⟩ := HA.out.get (k := k) (by simp; omega) hlt
            obtain ⟨a2, e2, s2, z2, r2⟩ := HA.out.get (k := j) (by simp; omega) (by omega)
            rw [nAt_end _ _ HIL.out] at r1
            rw [nAt_front _ _ (by omega)] at r2
            have CT : Hid (∀ w', Fr wr w' → Calls Try.prog 208 #[.slice a1 n e1, .slice a2 n e2] w' fun e w'' => ∃ ao cap, e = .returned (.slice ao n cap) ∧ RelO w'' w'.heap.size (.slice ao n cap) n (altR acc x2 (m + 1)) ∧ Fr w' w'') := Lib.hid fun w' h => by rw [alt_next hj]; exact relOr_any _ _ n _ _ w' HN.out (r1.fr h) (r2.fr h)
            clear fa r1 r2 hj
            go_wp2_with fail
            go_region_law ((go_simp; go_at_call 208; refine (CT.out _ (by repeat (first | (with_reducible exact Fr.refl _) | (with_reducible assumption) | (with_reducible refine Fr.drewN ?_ _) | (with_reducible refine Fr.drew ?_) | (with_reducible refine Fr.alloc ?_ _) | (with_reducible refine Fr.setCell ?_ (by (first | (with_reducible assumption) | omega | (simp only [World.size_alloc, World.size_setCell, World.size_drew, World.heap_drewN]; omega) | (simp; done) | (simp; omega))) _) | (with_reducible refine Fr.trans ?_ (by with_reducible assumption))))).mono ?_; rintro e w9 ⟨a9, c9, rfl, ho9, hf9⟩; have z9 := hf9.size; (try simp only [World.size_alloc, World.size_setCell, World.size_drew, World.heap_drewN] at z9); have k9 := (show Fr wr w9 by repeat (first | (with_reducible exact Fr.refl _) | (with_reducible assumption) | (with_reducible refine Fr.drewN ?_ _) | (with_reducible refine Fr.drew ?_) | (with_reducible refine Fr.alloc ?_ _) | (with_reducible refine Fr.setCell ?_ (by (first | (with_reducible assumption) | omega | (simp only [World.size_alloc, World.size_setCell, World.size_drew, World.heap_drewN]; omega) | (simp; done) | (simp; omega))) _) | (with_reducible refine Fr.trans ?_ (by with_reducible assumption)))).blk (w.heap.size + 1) (by (first | (with_reducible assumption) | omega | (simp only [World.size_alloc, World.size_setCell, World.size_drew, World.heap_drewN]; omega) | (simp; done) | (simp; omega)))))
            all_goals
              have HA7 : Hid (∀ q, Fr w9 q → AllI (q.setCell ⟨w.heap.size + 1, k, none⟩ (.slice a9 n c9)) (w.heap.size + 1) ps.length n (acc ++ [altR acc x2 (m + 1)])) := Lib.hid fun q hq => (HA.out.fr (show Fr wr q from Fr.trans (show Fr wr w9 by repeat (first | (with_reducible exact Fr.refl _) | (with_reducible assumption) | (with_reducible refine Fr.drewN ?_ _) | (with_reducible refine Fr.drew ?_) | (with_reducible refine Fr.alloc ?_ _) | (with_reducible refine Fr.setCell ?_ (by (first | (with_reducible assumption) | omega | (simp only [World.size_alloc, World.size_setCell, World.size_drew, World.heap_drewN]; omega) | (simp; done) | (simp; omega))) _) | (with_reducible refine Fr.trans ?_ (by with_reducible assumption)))) hq)).put pre_same (owns_fr (owns_lo ho9 (by (first | (with_reducible assumption) | omega | (simp only [World.size_alloc, World.size_setCell, World.size_drew, World.heap_drewN]; omega) | (simp; done) | (simp; omega)))) hq) HIL.out
              go_wp2_with fail
              go_roundw
              case rel => exact ⟨m + 1, by omega, by go_num, by first | exact Lib.hid (HA7.out _ (by repeat (first | (with_reducible exact Fr.refl _) | (with_reducible assumption) | (with_reducible refine Fr.drewN ?_ _) | (with_reducible refine Fr.drew ?_) | (with_reducible refine Fr.alloc ?_ _) | (with_reducible refine Fr.setCell ?_ (by (first | (with_reducible assumption) | omega | (simp only [World.size_alloc, World.size_setCell, World.size_drew, World.heap_drewN]; omega) | (simp; done) | (simp; omega))) _) | (with_reducible refine Fr.trans ?_ (by with_reducible assumption))))) | exact Lib.hid ((HA7.out _ (Fr.refl _)).fr (by repeat (first | (with_reducible exact Fr.refl _) | (with_reducible assumption) | (with_reducible refine Fr.drewN ?_ _) | (with_reducible refine Fr.drew ?_) | (with_reducible refine Fr.alloc ?_ _) | (with_reducible refine Fr.setCell ?_ (by (first | (with_reducible assumption) | omega | (simp only [World.size_alloc, World.size_setCell, World.size_drew, World.heap_drewN]; omega) | (simp; done) | (simp; omega))) _) | (with_reducible refine Fr.trans ?_ (by with_reducible assumption))))), by repeat (first | (with_reducible exact Fr.refl _) | (with_reducible assumption) | (with_reducible refine Fr.drewN ?_ _) | (with_reducible refine Fr.drew ?_) | (with_reducible refine Fr.alloc ?_ _) | (with_reducible refine Fr.setCell ?_ (by (first | (with_reducible assumption) | omega | (simp only [World.size_alloc, World.size_setCell, World.size_drew, World.heap_drewN]; omega) | (simp; done) | (simp; omega))) _) | (with_reducible refine Fr.trans ?_ (by with_reducible assumption)))⟩
              case measure => (simp [intOf]; omega)
          · obtain rfl : m = x2.length := by omega
            have HA7 := HA.out
            go_wp2_with fail
            (go_roundw; (case rel => exact ⟨k + 1, by omega, by go_num, Lib.hid (HD.out ▸ HA7), by repeat (first | (with_reducible exact Fr.refl _) | (with_reducible assumption) | (with_reducible refine Fr.drewN ?_ _) | (with_reducible refine Fr.drew ?_) | (with_reducible refine Fr.alloc ?_ _) | (with_reducible refine Fr.setCell ?_ (by (first | (with_reducible assumption) | omega | (simp only [World.size_alloc, World.size_setCell, World.size_drew, World.heap_drewN]; omega) | (simp; done) | (simp; omega))) _) | (with_reducible refine Fr.trans ?_ (by with_reducible assumption)))⟩); (case measure => (simp [intOf]; omega)))
      · -- again and again
        obtain ⟨rfl, hba, fa⟩ := FA.out (by omega)
        have d0 : wr.cell? ⟨ba, oa, none⟩ = some (.int .i64 (j : Int)) := (hfr.cell (p := ⟨ba, _, none⟩) hba).trans (hj ▸ fa 0 (by omega))
        obtain ⟨a2, e2, s2, z2, r2⟩ := HA.out.get (k := j) (by omega) (by omega)
        have hkj : kAt x2 0 = j := by unfold kAt; rw [hj]; simp
        have R2 := Lib.hid r2
        have hl10 : 0 < x2.length := by omega
        have hjl : j < ps.length := by omega
        have hbar : ba < wr.heap.size := by omega
        have hban : ba ≠ wr.heap.size := by omega
        have HD : Hid (denR n (stR es) ps (k + 1) = acc ++ [rOr (wsh (nAt acc j) n) (rId n)]) := Lib.hid (by rw [HD0.out]; simp [stepR, hkj])
        have CP : Hid (∀ w', Fr wr w' → Calls Try.prog 209 #[.slice a2 n e2] w' fun e w'' => ∃ ao cap, e = .returned (.slice ao n cap) ∧ RelO w'' w'.heap.size (.slice ao n cap) n (wsh (nAt acc j) n) ∧ Fr w' w'') := Lib.hid fun w' h => relPlus_any _ n _ w' HN.out (r2.fr h)
        clear HD0 fa r2 hj hkj hl1
        go_wp2_with fail
        refine (CP.out _ (by repeat (first | (with_reducible exact Fr.refl _) | (with_reducible assumption) | (with_reducible refine Fr.drewN ?_ _) | (with_reducible refine Fr.drew ?_) | (with_reducible refine Fr.alloc ?_ _) | (with_reducible refine Fr.setCell ?_ (by (first | (with_reducible assumption) | omega | (simp only [World.size_alloc, World.size_setCell, World.size_drew, World.heap_drewN]; omega) | (simp; done) | (simp; omega))) _) | (with_reducible refine Fr.trans ?_ (by with_reducible assumption))))).mono ?_
        rintro e w5 ⟨a5, c5, rfl, ho5, hf5⟩
        have z5 := hf5.size
        (try simp only [World.size_alloc, World.size_setCell, World.size_drew, World.heap_drewN] at z5)
        go_wp2_with fail
        refine (identity_any n _ HN.out).mono ?_
        rintro e w6 ⟨a6, c6, rfl, ho6, hf6⟩
        have z6 := hf6.size
        go_wp2_with fail
        refine (relOr_any _ _ n _ _ _ HN.out (ho5.rd.fr (by repeat (first | (with_reducible exact Fr.refl _) | (with_reducible assumption) | (with_reducible refine Fr.drewN ?_ _) | (with_reducible refine Fr.drew ?_) | (with_reducible refine Fr.alloc ?_ _) | (with_reducible refine Fr.setCell ?_ (by (first | (with_reducible assumption) | omega | (simp only [World.size_alloc, World.size_setCell, World.size_drew, World.heap_drewN]; omega) | (simp; done) | (simp; omega))) _) | (with_reducible refine Fr.trans ?_ (by with_reducible assumption))))) ho6.rd).mono ?_
        rintro e w7 ⟨a7, c7, rfl, ho7, hf7⟩
        have z7 := hf7.size
        obtain ⟨u5, s5, s6⟩ := (HA.out.fr (show Fr wr w7 by repeat (first | (with_reducible exact Fr.refl _) | (with_reducible assumption) | (with_reducible refine Fr.drewN ?_ _) | (with_reducible refine Fr.drew ?_) | (with_reducible refine Fr.alloc ?_ _) | (with_reducible refine Fr.setCell ?_ (by (first | (with_reducible assumption) | omega | (simp only [World.size_alloc, World.size_setCell, World.size_drew, World.heap_drewN]; omega) | (simp; done) | (simp; omega))) _) | (with_reducible refine Fr.trans ?_ (by with_reducible assumption))))).spot hlt
        have HA6 : AllI (w7.setCell ⟨w.heap.size + 1, k, none⟩ (.slice a7 n c7)) (w.heap.size + 1) ps.length n (acc ++ [rOr (wsh (nAt acc j) n) (rId n)]) := (HA.out.fr (show Fr wr w7 by repeat (first | (with_reducible exact Fr.refl _) | (with_reducible assumption) | (with_reducible refine Fr.drewN ?_ _) | (with_reducible refine Fr.drew ?_) | (with_reducible refine Fr.alloc ?_ _) | (with_reducible refine Fr.setCell ?_ (by (first | (with_reducible assumption) | omega | (simp only [World.size_alloc, World.size_setCell, World.size_drew, World.heap_drewN]; omega) | (simp; done) | (simp; omega))) _) | (with_reducible refine Fr.trans ?_ (by with_reducible assumption))))).put pre_refl (owns_lo ho7 (by (first | (with_reducible assumption) | omega | (simp only [World.size_alloc, World.size_setCell, World.size_drew, World.heap_drewN]; omega) | (simp; done) | (simp; omega)))) HIL.out
        go_wp2_with fail
        (go_roundw; (case rel => exact ⟨k + 1, by omega, by go_num, Lib.hid (HD.out ▸ HA6), by repeat (first | (with_reducible exact Fr.refl _) | (with_reducible assumption) | (with_reducible refine Fr.drewN ?_ _) | (with_reducible refine Fr.drew ?_) | (with_reducible refine Fr.alloc ?_ _) | (with_reducible refine Fr.setCell ?_ (by (first | (with_reducible assumption) | omega | (simp only [World.size_alloc, World.size_setCell, World.size_drew, World.heap_drewN]; omega) | (simp; done) | (simp; omega))) _) | (with_reducible refine Fr.trans ?_ (by with_reducible assumption)))⟩); (case measure => (simp [intOf]; omega)))
      · -- once and again
        obtain ⟨rfl, hba, fa⟩ := FA.out (by omega)
        have d0 : wr.cell? ⟨ba, oa, none⟩ = some (.int .i64 (j : Int)) := (hfr.cell (p := ⟨ba, _, none⟩) hba).trans (hj ▸ fa 0 (by omega))
        obtain ⟨a2, e2, s2, z2, r2⟩ := HA.out.get (k := j) (by omega) (by omega)
        have hkj : kAt x2 0 = j := by unfold kAt; rw [hj]; simp
        have R2 := Lib.hid r2
        have hl10 : 0 < x2.length := by omega
        have hjl : j < ps.length := by omega
        have hbar : ba < wr.heap.size := by omega
        have hban : ba ≠ wr.heap.size := by omega
        have HD : Hid (denR n (stR es) ps (k + 1) = acc ++ [wsh (nAt acc j) n]) := Lib.hid (by rw [HD0.out]; simp [stepR, hkj])
        have CP : Hid (∀ w', Fr wr w' → Calls Try.prog 209 #[.slice a2 n e2] w' fun e w'' => ∃ ao cap, e = .returned (.slice ao n cap) ∧ RelO w'' w'.heap.size (.slice ao n cap) n (wsh (nAt acc j) n) ∧ Fr w' w'') := Lib.hid fun w' h => relPlus_any _ n _ w' HN.out (r2.fr h)
        clear HD0 fa r2 hj hkj hl1
        go_wp2_with fail
        refine (CP.out _ (by repeat (first | (with_reducible exact Fr.refl _) | (with_reducible assumption) | (with_reducible refine Fr.drewN ?_ _) | (with_reducible refine Fr.drew ?_) | (with_reducible refine Fr.alloc ?_ _) | (with_reducible refine Fr.setCell ?_ (by (first | (with_reducible assumption) | omega | (simp only [World.size_alloc, World.size_setCell, World.size_drew, World.heap_drewN]; omega) | (simp; done) | (simp; omega))) _) | (with_reducible refine Fr.trans ?_ (by with_reducible assumption))))).mono ?_
        rintro e w7 ⟨a7, c7, rfl, ho7, hf7⟩
        have z7 := hf7.size
        (try simp only [World.size_alloc, World.size_setCell, World.size_drew, World.heap_drewN] at z7)
        obtain ⟨u5, s5, s6⟩ := (HA.out.fr (show Fr wr w7 by repeat (first | (with_reducible exact Fr.refl _) | (with_reducible assumption) | (with_reducible refine Fr.drewN ?_ _) | (with_reducible refine Fr.drew ?_) | (with_reducible refine Fr.alloc ?_ _) | (with_reducible refine Fr.setCell ?_ (by (first | (with_reducible assumption) | omega | (simp only [World.size_alloc, World.size_setCell, World.size_drew, World.heap_drewN]; omega) | (simp; done) | (simp; omega))) _) | (with_reducible refine Fr.trans ?_ (by with_reducible assumption))))).spot hlt
        have HA6 : AllI (w7.setCell ⟨w.heap.size + 1, k, none⟩ (.slice a7 n c7)) (w.heap.size + 1) ps.length n (acc ++ [wsh (nAt acc j) n]) := (HA.out.fr (show Fr wr w7 by repeat (first | (with_reducible exact Fr.refl _) | (with_reducible assumption) | (with_reducible refine Fr.drewN ?_ _) | (with_reducible refine Fr.drew ?_) | (with_reducible refine Fr.alloc ?_ _) | (with_reducible refine Fr.setCell ?_ (by (first | (with_reducible assumption) | omega | (simp only [World.size_alloc, World.size_setCell, World.size_drew, World.heap_drewN]; omega) | (simp; done) | (simp; omega))) _) | (with_reducible refine Fr.trans ?_ (by with_reducible assumption))))).put pre_refl (owns_lo ho7 (by (first | (with_reducible assumption) | omega | (simp only [World.size_alloc, World.size_setCell, World.size_drew, World.heap_drewN]; omega) | (simp; done) | (simp; omega)))) HIL.out
        go_wp2_with fail
        (go_roundw; (case rel => exact ⟨k + 1, by omega, by go_num, Lib.hid (HD.out ▸ HA6), by repeat (first | (with_reducible exact Fr.refl _) | (with_reducible assumption) | (with_reducible refine Fr.drewN ?_ _) | (with_reducible refine Fr.drew ?_) | (with_reducible refine Fr.alloc ?_ _) | (with_reducible refine Fr.setCell ?_ (by (first | (with_reducible assumption) | omega | (simp only [World.size_alloc, World.size_setCell, World.size_drew, World.heap_drewN]; omega) | (simp; done) | (simp; omega))) _) | (with_reducible refine Fr.trans ?_ (by with_reducible assumption)))⟩); (case measure => (simp [intOf]; omega)))
      · -- once or not
        obtain ⟨rfl, hba, fa⟩ := FA.out (by omega)
        have d0 : wr.cell? ⟨ba, oa, none⟩ = some (.int .i64 (j : Int)) := (hfr.cell (p := ⟨ba, _, none⟩) hba).trans (hj ▸ fa 0 (by omega))
        obtain ⟨a2, e2, s2, z2, r2⟩ := HA.out.get (k := j) (by omega) (by omega)
        have hkj : kAt x2 0 = j := by unfold kAt; rw [hj]; simp
        have R2 := Lib.hid r2
        have hl10 : 0 < x2.length := by omega
        have hjl : j < ps.length := by omega
        have hbar : ba < wr.heap.size := by omega
        have hban : ba ≠ wr.heap.size := by omega
        have HD : Hid (denR n (stR es) ps (k + 1) = acc ++ [rOr (nAt acc j) (rId n)]) := Lib.hid (by rw [HD0.out]; simp [stepR, hkj])
        obtain ⟨u5, s5, s6⟩ := HA.out.spot hlt
        clear HD0 fa r2 hj hkj hl1
        go_wp2_with fail
        go_region_law (first | (go_simp; go_at_call 206; refine (identity_any n _ HN.out).mono ?_; rintro e w6 ⟨a6, c6, rfl, ho6, hf6⟩; have z6 := hf6.size; (try simp only [World.size_alloc, World.size_setCell, World.size_drew, World.heap_drewN] at z6); have k6 := (show Fr wr w6 by repeat (first | (with_reducible exact Fr.refl _) | (with_reducible assumption) | (with_reducible refine Fr.drewN ?_ _) | (with_reducible refine Fr.drew ?_) | (with_reducible refine Fr.alloc ?_ _) | (with_reducible refine Fr.setCell ?_ (by (first | (with_reducible assumption) | omega | (simp only [World.size_alloc, World.size_setCell, World.size_drew, World.heap_drewN]; omega) | (simp; done) | (simp; omega))) _) | (with_reducible refine Fr.trans ?_ (by with_reducible assumption)))).blk (w.heap.size + 1) (by (first | (with_reducible assumption) | omega | (simp only [World.size_alloc, World.size_setCell, World.size_drew, World.heap_drewN]; omega) | (simp; done) | (simp; omega))); have k6b := (show Fr wr w6 by repeat (first | (with_reducible exact Fr.refl _) | (with_reducible assumption) | (with_reducible refine Fr.drewN ?_ _) | (with_reducible refine Fr.drew ?_) | (with_reducible refine Fr.alloc ?_ _) | (with_reducible refine Fr.setCell ?_ (by (first | (with_reducible assumption) | omega | (simp only [World.size_alloc, World.size_setCell, World.size_drew, World.heap_drewN]; omega) | (simp; done) | (simp; omega))) _) | (with_reducible refine Fr.trans ?_ (by with_reducible assumption)))).blk ba (by (first | (with_reducible assumption) | omega | (simp only [World.size_alloc, World.size_setCell, World.size_drew, World.heap_drewN]; omega) | (simp; done) | (simp; omega))); have k6c := ((Box.new wr #[.int .i64 6, .int .u8 (x1.toNat : Int), .slice (some ⟨ba, oa, none⟩) x2.length ca] 121).fr (show Fr (wr.alloc (.cells #[.int .i64 6, .int .u8 (x1.toNat : Int), .slice (some ⟨ba, oa, none⟩) x2.length ca] 121)) w6 by repeat (first | (with_reducible exact Fr.refl _) | (with_reducible assumption) | (with_reducible refine Fr.drewN ?_ _) | (with_reducible refine Fr.drew ?_) | (with_reducible refine Fr.alloc ?_ _) | (with_reducible refine Fr.setCell ?_ (by (first | (with_reducible assumption) | omega | (simp only [World.size_alloc, World.size_setCell, World.size_drew, World.heap_drewN]; omega) | (simp; done) | (simp; omega))) _) | (with_reducible refine Fr.trans ?_ (by with_reducible assumption))))).facts) | (go_simp; go_at_call 208; refine (relOr_any _ _ n _ _ _ HN.out (R2.out.fr (by repeat (first | (with_reducible exact Fr.refl _) | (with_reducible assumption) | (with_reducible refine Fr.drewN ?_ _) | (with_reducible refine Fr.drew ?_) | (with_reducible refine Fr.alloc ?_ _) | (with_reducible refine Fr.setCell ?_ (by (first | (with_reducible assumption) | omega | (simp only [World.size_alloc, World.size_setCell, World.size_drew, World.heap_drewN]; omega) | (simp; done) | (simp; omega))) _) | (with_reducible refine Fr.trans ?_ (by with_reducible assumption))))) (ho6.rd.fr (by repeat (first | (with_reducible exact Fr.refl _) | (with_reducible assumption) | (with_reducible refine Fr.drewN ?_ _) | (with_reducible refine Fr.drew ?_) | (with_reducible refine Fr.alloc ?_ _) | (with_reducible refine Fr.setCell ?_ (by (first | (with_reducible assumption) | omega | (simp only [World.size_alloc, World.size_setCell, World.size_drew, World.heap_drewN]; omega) | (simp; done) | (simp; omega))) _) | (with_reducible refine Fr.trans ?_ (by with_reducible assumption)))))).mono ?_; rintro e w7 ⟨a7, c7, rfl, ho7, hf7⟩; have z7 := hf7.size; (try simp only [World.size_alloc, World.size_setCell, World.size_drew, World.heap_drewN] at z7); have k7 := (show Fr wr w7 by repeat (first | (with_reducible exact Fr.refl _) | (with_reducible assumption) | (with_reducible refine Fr.drewN ?_ _) | (with_reducible refine Fr.drew ?_) | (with_reducible refine Fr.alloc ?_ _) | (with_reducible refine Fr.setCell ?_ (by (first | (with_reducible assumption) | omega | (simp only [World.size_alloc, World.size_setCell, World.size_drew, World.heap_drewN]; omega) | (simp; done) | (simp; omega))) _) | (with_reducible refine Fr.trans ?_ (by with_reducible assumption)))).blk (w.heap.size + 1) (by (first | (with_reducible assumption) | omega | (simp only [World.size_alloc, World.size_setCell, World.size_drew, World.heap_drewN]; omega) | (simp; done) | (simp; omega)))))
        all_goals
          have HA7 : Hid (∀ q, Fr w7 q → AllI (q.setCell ⟨w.heap.size + 1, k, none⟩ (.slice a7 n c7)) (w.heap.size + 1) ps.length n (acc ++ [rOr (nAt acc j) (rId n)])) := Lib.hid fun q hq => (HA.out.fr (show Fr wr q from Fr.trans (show Fr wr w7 by repeat (first | (with_reducible exact Fr.refl _) | (with_reducible assumption) | (with_reducible refine Fr.drewN ?_ _) | (with_reducible refine Fr.drew ?_) | (with_reducible refine Fr.alloc ?_ _) | (with_reducible refine Fr.setCell ?_ (by (first | (with_reducible assumption) | omega | (simp only [World.size_alloc, World.size_setCell, World.size_drew, World.heap_drewN]; omega) | (simp; done) | (simp; omega))) _) | (with_reducible refine Fr.trans ?_ (by with_reducible assumption)))) hq)).put pre_refl (owns_fr (owns_lo ho7 (by (first | (with_reducible assumption) | omega | (simp only [World.size_alloc, World.size_setCell, World.size_drew, World.heap_drewN]; omega) | (simp; done) | (simp; omega)))) hq) HIL.out
          go_wp2_with fail
          go_roundw
          case rel => exact ⟨k + 1, by omega, by go_num, by first | exact Lib.hid (HD.out ▸ HA7.out _ (by repeat (first | (with_reducible exact Fr.refl _) | (with_reducible assumption) | (with_reducible refine Fr.drewN ?_ _) | (with_reducible refine Fr.drew ?_) | (with_reducible refine Fr.alloc ?_ _) | (with_reducible refine Fr.setCell ?_ (by (first | (with_reducible assumption) | omega | (simp only [World.size_alloc, World.size_setCell, World.size_drew, World.heap_drewN]; omega) | (simp; done) | (simp; omega))) _) | (with_reducible refine Fr.trans ?_ (by with_reducible assumption))))) | exact Lib.hid (HD.out ▸ (HA7.out _ (Fr.refl _)).fr (by repeat (first | (with_reducible exact Fr.refl _) | (with_reducible assumption) | (with_reducible refine Fr.drewN ?_ _) | (with_reducible refine Fr.drew ?_) | (with_reducible refine Fr.alloc ?_ _) | (with_reducible refine Fr.setCell ?_ (by (first | (with_reducible assumption) | omega | (simp only [World.size_alloc, World.size_setCell, World.size_drew, World.heap_drewN]; omega) | (simp; done) | (simp; omega))) _) | (with_reducible refine Fr.trans ?_ (by with_reducible assumption))))), by repeat (first | (with_reducible exact Fr.refl _) | (with_reducible assumption) | (with_reducible refine Fr.drewN ?_ _) | (with_reducible refine Fr.drew ?_) | (with_reducible refine Fr.alloc ?_ _) | (with_reducible refine Fr.setCell ?_ (by (first | (with_reducible assumption) | omega | (simp only [World.size_alloc, World.size_setCell, World.size_drew, World.heap_drewN]; omega) | (simp; done) | (simp; omega))) _) | (with_reducible refine Fr.trans ?_ (by with_reducible assumption)))⟩
          case measure => (simp [intOf]; omega)
    · obtain rfl : k = ps.length := by omega
      obtain ⟨a9, c9, s9, _, r9⟩ := HA.out.get (k := ps.length - 1) (by rw [denR_len]; omega) (by omega)
      have HR9 : Hid (RelR wr (.slice a9 n c9) n (endR n (stR es) ps)) := Lib.hid r9
      have hwl : IntKind.i64.wrap ((ps.length : Int) - 1) = ((ps.length - 1 : Nat) : Int) := by rw [show (ps.length : Int) - 1 = ((ps.length - 1 : Nat) : Int) by omega]; exact IntWalk.i64_in _ (by omega)
      clear r9
      go_wp2_with fail
      go_ret
      exact ⟨_, _, rfl, HR9.out.fr (by repeat (first | (with_reducible exact Fr.refl _) | (with_reducible assumption) | (with_reducible refine Fr.drewN ?_ _) | (with_reducible refine Fr.drew ?_) | (with_reducible refine Fr.alloc ?_ _) | (with_reducible refine Fr.setCell ?_ (by (first | (with_reducible assumption) | omega | (simp only [World.size_alloc, World.size_setCell, World.size_drew, World.heap_drewN]; omega) | (simp; done) | (simp; omega))) _) | (with_reducible refine Fr.trans ?_ (by with_reducible assumption)))), by repeat (first | (with_reducible exact Fr.refl _) | (with_reducible assumption) | (with_reducible refine Fr.drewN ?_ _) | (with_reducible refine Fr.drew ?_) | (with_reducible refine Fr.alloc ?_ _) | (with_reducible refine Fr.setCell ?_ (by (first | (with_reducible assumption) | omega | (simp only [World.size_alloc, World.size_setCell, World.size_drew, World.heap_drewN]; omega) | (simp; done) | (simp; omega))) _) | (with_reducible refine Fr.trans ?_ (by with_reducible assumption)))⟩
end Go.Proofs.Ytjgghiniajmfjaa
