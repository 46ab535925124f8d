/- Texts in one: Pth, Prs, Tch, Prw. -/
import Derived.Test.YtmdgdnkllclpcaaGreatGNest
import Derived.Test.YtmdgdnkllclpcaaGreatGTFilter
import Derived.Test.YtmdgdnkllclpcaaGreatGApp
import Derived.Deep.RegionLaw
import Derived.BigQuiet
/- Paths, plain: pieces, what a right path is, what a slice of pieces reads as. No condition. -/
namespace Go.Proofs.YtmdgdnkllclpcaaGreat
open Go.RowKit
set_option linter.unusedVariables false
set_option linter.unusedSimpArgs false
structure PieceD where
  f0 : Int
  f1 : UInt8
  f2 : List Int
deriving DecidableEq
instance : Inhabited PieceD := ⟨⟨0, 0, []⟩⟩
def kidsB (n : Nat) (l : List Int) : Bool := l.all fun k => decide (0 ≤ k ∧ k < (n : Int))
def pieceB (x : PieceD) (n : Nat) : Bool :=
  if x.f0 = 1 then decide (97 ≤ x.f1.toNat ∧ x.f1.toNat ≤ 100) && decide (x.f2.length = 0)
  else if x.f0 = 2 ∨ x.f0 = 3 then decide (2 ≤ x.f2.length) && (kidsB n x.f2 && decide (x.f1.toNat = 0))
  else if x.f0 = 4 ∨ x.f0 = 5 ∨ x.f0 = 6 then decide (x.f2.length = 1) && (kidsB n x.f2 && decide (x.f1.toNat = 0))
  else false
def pathB (ps : List PieceD) : Bool := decide (1 ≤ ps.length ∧ ps.length ≤ 60) && (List.range ps.length).all fun k => pieceB (nAt ps k) k
theorem kidsB_no {n : Nat} {l : List Int} {k : Nat} (hk : k < l.length) {x : Int} (hx : iAt l k = x) (h : ¬ (0 ≤ x ∧ x < (n : Int))) : kidsB n l = false := by
  unfold kidsB
  rw [List.all_eq_false]
  refine ⟨l[k], List.getElem_mem hk, ?_⟩
  have e : l[k] = x := by rw [← hx]; simp [iAt, List.getD, List.getElem?_eq_getElem hk]
  rw [e, decide_eq_true_eq]
  exact h
theorem kidsB_all {n : Nat} {l : List Int} (h : ∀ j, j < l.length → 0 ≤ iAt l j ∧ iAt l j < (n : Int)) : kidsB n l = true := by
  unfold kidsB
  rw [List.all_eq_true]
  intro x hx
  obtain ⟨k, hk, rfl⟩ := List.mem_iff_getElem.1 hx
  have := h k hk
  rw [show iAt l k = l[k] by simp [iAt, List.getD, List.getElem?_eq_getElem hk]] at this
  simpa using this
theorem pathB_far {ps : List PieceD} (h : ¬ (1 ≤ ps.length ∧ ps.length ≤ 60)) : pathB ps = false := by unfold pathB; rw [decide_eq_false h]; rfl
theorem pathB_no {ps : List PieceD} {k : Nat} (hk : k < ps.length) (h : pieceB (nAt ps k) k = false) : pathB ps = false := by unfold pathB; rw [rng_not_all (p := fun k => pieceB (nAt ps k) k) hk h, Bool.and_false]
theorem pathB_ok {ps : List PieceD} (h : ∀ j, j < ps.length → pieceB (nAt ps j) j = true) : pathB ps = decide (1 ≤ ps.length ∧ ps.length ≤ 60) := by unfold pathB; rw [rng_all (p := fun k => pieceB (nAt ps k) k) h, Bool.and_true]
theorem pathB_out {ps : List PieceD} (h : pathB ps = true) : (1 ≤ ps.length ∧ ps.length ≤ 60) ∧ ∀ j, j < ps.length → pieceB (nAt ps j) j = true := by
  unfold pathB at h
  simp only [Bool.and_eq_true, decide_eq_true_eq, List.all_eq_true] at h
  exact ⟨h.1, fun j hj => h.2 j (List.mem_range.2 hj)⟩
/-- What the cells of a piece read as. -/
def PieceE (w : World) (u : List Value) (d : PieceD) : Prop := ∃ a, u = [.int .i64 d.f0, .int .u8 (d.f1.toNat : Int), a] ∧ IntsR w a d.f2
theorem PieceE.fr {w w' : World} {u : List Value} {d : PieceD} (h : PieceE w u d) (hf : Fr w w') : PieceE w' u d := by obtain ⟨a, h1, h2⟩ := h; exact ⟨a, h1, h2.fr hf⟩
def PiecesR (w : World) (v : Value) (ps : List PieceD) : Prop := NestR PieceE 3 w v ps
theorem PiecesR.fr {w w' : World} {v : Value} {ps : List PieceD} (h : PiecesR w v ps) (hf : Fr w w') : PiecesR w' v ps := NestR.fr (E := PieceE) (fun a b => PieceE.fr a b) h hf
theorem PiecesR.one {w : World} {v : Value} {ps : List PieceD} (h : PiecesR w v ps) :
    ∃ ao b o cap, v = .slice ao ps.length cap ∧ ps.length ≤ cap ∧ cap ≤ 9223372036854775807 ∧ (0 < ps.length → ao = some ⟨b, o, none⟩ ∧ b < w.heap.size ∧ ∀ k, k < ps.length → ∃ a, IntsR w a (nAt ps k).f2 ∧ w.cell? ⟨b, o + k * 3, none⟩ = some (.int .i64 (nAt ps k).f0) ∧ w.cell? ⟨b, o + k * 3 + 1, none⟩ = some (.int .u8 ((nAt ps k).f1.toNat : Int)) ∧ w.cell? ⟨b, o + k * 3 + 2, none⟩ = some a) := by
  obtain ⟨ao, b, o, cap, h1, h2, h3, h4⟩ := NestR.one h
  refine ⟨ao, b, o, cap, h1, h2, h3, fun hn => ⟨(h4 hn).1, (h4 hn).2.1, fun k hk => ?_⟩⟩
  obtain ⟨u, _, ⟨a, hu, ha⟩, hc⟩ := (h4 hn).2.2 k hk
  rw [hu] at hc
  exact ⟨a, ha, by simpa using hc 0 _ (by omega) rfl, by have := hc 1 _ (by omega) rfl; exact this, by have := hc 2 _ (by omega) rfl; exact this⟩
theorem info_Piece : (Tryz.prog.info? 237).map (fun i => (i.zero, i.size, i.bytes)) = some (some (.agg #[.int .i64 0, .int .u8 0, .slice none 0 0]), 3, 40) := by kernel_rfl
set_option maxHeartbeats 4000000 in
set_option maxRecDepth 100000 in
theorem pieceOk_any (x : PieceD) (va : Value) (n : Nat) (w : World) (hv : IntsR w va x.f2) (hn : n ≤ 1048576) :
    Calls Tryz.prog 189 #[.agg #[.int .i64 x.f0, .int .u8 (x.f1.toNat : Int), va], .int .i64 n] w fun e w' => e = .returned (.bool (pieceB x n)) ∧ Fr w w' := by
  obtain ⟨av, bv, ov, cv, rfl, hcv, hmv, fv⟩ := hv.one
  have FV := Lib.hid fv
  have hxl := x.f1.toNat_lt
  clear hv fv
  by_cases h1 : x.f0 = 1
  · have HB : Hid (pieceB x n = (decide (97 ≤ x.f1.toNat ∧ x.f1.toNat ≤ 100) && decide (x.f2.length = 0))) := Lib.hid (by unfold pieceB; rw [if_pos h1])
    obtain ⟨x0, x1, x2⟩ := x
    simp only [] at h1 HB hxl FV ⊢
    subst h1
    obtain ⟨lb, hlb⟩ : ∃ lb, decide (97 ≤ x1.toNat ∧ x1.toNat ≤ 100) = lb := ⟨_, rfl⟩
    have CL : Hid (∀ w', Calls Tryz.prog 143 #[.int .u8 (x1.toNat : Int)] w' fun e w'' => e = .returned (.bool lb) ∧ w'' = w') := Lib.hid fun w' => by rw [← hlb]; exact isLabel_any x1 w'
    rw [hlb] at HB
    clear hlb
    cases lb
    · go_enter Tryz.func189, Tryz.ntmps189
      go_wp2_with (go_at_call 143; refine (CL.out _).mono ?_; rintro e w1 ⟨rfl, rfl⟩)
      go_ret
      exact ⟨ret_bool (by rw [HB.out]; rfl), by exact Qf⟩
    · by_cases hl : x2.length = 0
      · have q : ((x2.length : Int) == 0) = true := by simp [hl]
        go_enter Tryz.func189, Tryz.ntmps189
        go_wp2_with (go_at_call 143; refine (CL.out _).mono ?_; rintro e w1 ⟨rfl, rfl⟩)
        go_ret
        exact ⟨ret_bool (by rw [HB.out, hl]; first | rfl | simp), by exact Qf⟩
      · have q : ((x2.length : Int) == 0) = false := by rw [beq_eq_false_iff_ne]; omega
        go_enter Tryz.func189, Tryz.ntmps189
        go_wp2_with (go_at_call 143; refine (CL.out _).mono ?_; rintro e w1 ⟨rfl, rfl⟩)
        go_ret
        exact ⟨ret_bool (by rw [HB.out, decide_eq_false hl]; first | rfl | simp), by exact Qf⟩
  by_cases h2 : x.f0 = 2
  · have HB : Hid (pieceB x n = (decide (2 ≤ x.f2.length) && (kidsB n x.f2 && decide (x.f1.toNat = 0)))) := Lib.hid (by unfold pieceB; rw [if_neg h1, if_pos (.inl h2)])
    obtain ⟨x0, x1, x2⟩ := x
    simp only [] at h1 h2 HB hxl FV ⊢
    subst h2
    clear h1
    by_cases hl : 2 ≤ x2.length
    · have HN : Hid (∀ k, k < x2.length → ∀ y, iAt x2 k = y → ¬ (0 ≤ y ∧ y < (n : Int)) → pieceB ⟨2, x1, x2⟩ n = false) := Lib.hid fun k hk y hy h => by rw [HB.out, kidsB_no hk hy h]; simp
      have HY : Hid ((∀ j, j < x2.length → 0 ≤ iAt x2 j ∧ iAt x2 j < (n : Int)) → pieceB ⟨2, x1, x2⟩ n = decide (x1.toNat = 0)) := Lib.hid fun h => by rw [HB.out, kidsB_all h, decide_eq_true hl]; rfl
      clear HB
      go_enter Tryz.func189, Tryz.ntmps189
      go_wp2_with fail
      go_loopw [6, 38] (fun _ i wr => ∃ k : Nat, k ≤ x2.length ∧ i = .int .i64 k ∧ Fr w wr ∧ Hid (∀ j, j < k → 0 ≤ iAt x2 j ∧ iAt x2 j < (n : Int)) ∧ Box wr w.heap.size #[.int .i64 2, .int .u8 (x1.toNat : Int), .slice av x2.length cv] 237) (fun _ i _ => x2.length - (intOf i).toNat)
      case atStart => exact ⟨0, Nat.zero_le _, rfl, by exact Qf, Lib.hid (fun j hj => absurd hj (by omega)), Box.new _ _ _⟩
      case round =>
        obtain ⟨k, hk, rfl, hfr, hj, BX⟩ := hrel
        have FX := BX.facts
        by_cases hlt : k < x2.length
        · obtain ⟨rfl, hbv, fv⟩ := FV.out (by omega)
          obtain ⟨y, hy⟩ : ∃ y, iAt x2 k = y := ⟨_, rfl⟩
          have c0 := (hfr.cell (p := ⟨bv, _, none⟩) hbv).trans (hy ▸ fv k hlt)
          have HYK := Lib.hid hy
          clear fv hy
          by_cases hy0 : y < 0
          · have hF := Lib.hid (HN.out k hlt y HYK.out (by omega))
            go_wp2_with fail
            go_ret
            exact ⟨ret_bool hF.out.symm, by exact Qf⟩
          · by_cases hy1 : (n : Int) ≤ y
            · have hF := Lib.hid (HN.out k hlt y HYK.out (by omega))
              go_wp2_with fail
              go_ret
              exact ⟨ret_bool hF.out.symm, by exact Qf⟩
            · have hj2 : Hid (∀ j, j < k + 1 → 0 ≤ iAt x2 j ∧ iAt x2 j < (n : Int)) := Lib.hid fun j h => by
                rcases Nat.lt_succ_iff_lt_or_eq.1 h with h | rfl
                · exact hj.out j h
                · rw [HYK.out]; omega
              go_wp2_with fail
              go_roundw
              case rel => exact ⟨k + 1, by omega, by go_num, by exact Qf, hj2, BX⟩
              case measure => (simp [intOf]; omega)
        · have hF := Lib.hid (HY.out (fun j h => hj.out j (by omega)))
          go_wp2_with fail
          go_ret
          exact ⟨ret_bool (by rw [hF.out]; by_cases h0 : x1.toNat = 0 <;> simp [h0]), by exact Qf⟩
    · have hF : Hid (pieceB ⟨2, x1, x2⟩ n = false) := Lib.hid (by rw [HB.out, decide_eq_false hl]; rfl)
      clear HB
      go_enter Tryz.func189, Tryz.ntmps189
      go_wp2_with fail
      go_ret
      exact ⟨ret_bool hF.out.symm, by exact Qf⟩
  by_cases h3 : x.f0 = 3
  · have HB : Hid (pieceB x n = (decide (2 ≤ x.f2.length) && (kidsB n x.f2 && decide (x.f1.toNat = 0)))) := Lib.hid (by unfold pieceB; rw [if_neg h1, if_pos (.inr h3)])
    obtain ⟨x0, x1, x2⟩ := x
    simp only [] at h1 h2 h3 HB hxl FV ⊢
    subst h3
    clear h1 h2
    by_cases hl : 2 ≤ x2.length
    · have HN : Hid (∀ k, k < x2.length → ∀ y, iAt x2 k = y → ¬ (0 ≤ y ∧ y < (n : Int)) → pieceB ⟨3, x1, x2⟩ n = false) := Lib.hid fun k hk y hy h => by rw [HB.out, kidsB_no hk hy h]; simp
      have HY : Hid ((∀ j, j < x2.length → 0 ≤ iAt x2 j ∧ iAt x2 j < (n : Int)) → pieceB ⟨3, x1, x2⟩ n = decide (x1.toNat = 0)) := Lib.hid fun h => by rw [HB.out, kidsB_all h, decide_eq_true hl]; rfl
      clear HB
      go_enter Tryz.func189, Tryz.ntmps189
      go_wp2_with fail
      go_loopw [6, 38] (fun _ i wr => ∃ k : Nat, k ≤ x2.length ∧ i = .int .i64 k ∧ Fr w wr ∧ Hid (∀ j, j < k → 0 ≤ iAt x2 j ∧ iAt x2 j < (n : Int)) ∧ Box wr w.heap.size #[.int .i64 3, .int .u8 (x1.toNat : Int), .slice av x2.length cv] 237) (fun _ i _ => x2.length - (intOf i).toNat)
      case atStart => exact ⟨0, Nat.zero_le _, rfl, by exact Qf, Lib.hid (fun j hj => absurd hj (by omega)), Box.new _ _ _⟩
      case round =>
        obtain ⟨k, hk, rfl, hfr, hj, BX⟩ := hrel
        have FX := BX.facts
        by_cases hlt : k < x2.length
        · obtain ⟨rfl, hbv, fv⟩ := FV.out (by omega)
          obtain ⟨y, hy⟩ : ∃ y, iAt x2 k = y := ⟨_, rfl⟩
          have c0 := (hfr.cell (p := ⟨bv, _, none⟩) hbv).trans (hy ▸ fv k hlt)
          have HYK := Lib.hid hy
          clear fv hy
          by_cases hy0 : y < 0
          · have hF := Lib.hid (HN.out k hlt y HYK.out (by omega))
            go_wp2_with fail
            go_ret
            exact ⟨ret_bool hF.out.symm, by exact Qf⟩
          · by_cases hy1 : (n : Int) ≤ y
            · have hF := Lib.hid (HN.out k hlt y HYK.out (by omega))
              go_wp2_with fail
              go_ret
              exact ⟨ret_bool hF.out.symm, by exact Qf⟩
            · have hj2 : Hid (∀ j, j < k + 1 → 0 ≤ iAt x2 j ∧ iAt x2 j < (n : Int)) := Lib.hid fun j h => by
                rcases Nat.lt_succ_iff_lt_or_eq.1 h with h | rfl
                · exact hj.out j h
                · rw [HYK.out]; omega
              go_wp2_with fail
              go_roundw
              case rel => exact ⟨k + 1, by omega, by go_num, by exact Qf, hj2, BX⟩
              case measure => (simp [intOf]; omega)
        · have hF := Lib.hid (HY.out (fun j h => hj.out j (by omega)))
          go_wp2_with fail
          go_ret
          exact ⟨ret_bool (by rw [hF.out]; by_cases h0 : x1.toNat = 0 <;> simp [h0]), by exact Qf⟩
    · have hF : Hid (pieceB ⟨3, x1, x2⟩ n = false) := Lib.hid (by rw [HB.out, decide_eq_false hl]; rfl)
      clear HB
      go_enter Tryz.func189, Tryz.ntmps189
      go_wp2_with fail
      go_ret
      exact ⟨ret_bool hF.out.symm, by exact Qf⟩
  by_cases h4 : x.f0 = 4
  · have HB : Hid (pieceB x n = (decide (x.f2.length = 1) && (kidsB n x.f2 && decide (x.f1.toNat = 0)))) := Lib.hid (by unfold pieceB; rw [if_neg h1, if_neg (by rintro (h | h) <;> contradiction), if_pos (.inl h4)])
    obtain ⟨x0, x1, x2⟩ := x
    simp only [] at h1 h2 h3 h4 HB hxl FV ⊢
    subst h4
    clear h1 h2 h3
    by_cases hl : x2.length = 1
    · have HN : Hid (∀ k, k < x2.length → ∀ y, iAt x2 k = y → ¬ (0 ≤ y ∧ y < (n : Int)) → pieceB ⟨4, x1, x2⟩ n = false) := Lib.hid fun k hk y hy h => by rw [HB.out, kidsB_no hk hy h]; simp
      have HY : Hid ((∀ j, j < x2.length → 0 ≤ iAt x2 j ∧ iAt x2 j < (n : Int)) → pieceB ⟨4, x1, x2⟩ n = decide (x1.toNat = 0)) := Lib.hid fun h => by rw [HB.out, kidsB_all h, decide_eq_true hl]; rfl
      clear HB
      go_enter Tryz.func189, Tryz.ntmps189
      go_wp2_with fail
      go_loopw [6, 38] (fun _ i wr => ∃ k : Nat, k ≤ x2.length ∧ i = .int .i64 k ∧ Fr w wr ∧ Hid (∀ j, j < k → 0 ≤ iAt x2 j ∧ iAt x2 j < (n : Int)) ∧ Box wr w.heap.size #[.int .i64 4, .int .u8 (x1.toNat : Int), .slice av 1 cv] 237) (fun _ i _ => x2.length - (intOf i).toNat)
      case atStart => exact ⟨0, Nat.zero_le _, rfl, by exact Qf, Lib.hid (fun j hj => absurd hj (by omega)), Box.new _ _ _⟩
      case round =>
        obtain ⟨k, hk, rfl, hfr, hj, BX⟩ := hrel
        have FX := BX.facts
        by_cases hlt : k < x2.length
        · obtain ⟨rfl, hbv, fv⟩ := FV.out (by omega)
          obtain ⟨y, hy⟩ : ∃ y, iAt x2 k = y := ⟨_, rfl⟩
          have c0 := (hfr.cell (p := ⟨bv, _, none⟩) hbv).trans (hy ▸ fv k hlt)
          have HYK := Lib.hid hy
          clear fv hy
          by_cases hy0 : y < 0
          · have hF := Lib.hid (HN.out k hlt y HYK.out (by omega))
            go_wp2_with fail
            go_ret
            exact ⟨ret_bool hF.out.symm, by exact Qf⟩
          · by_cases hy1 : (n : Int) ≤ y
            · have hF := Lib.hid (HN.out k hlt y HYK.out (by omega))
              go_wp2_with fail
              go_ret
              exact ⟨ret_bool hF.out.symm, by exact Qf⟩
            · have hj2 : Hid (∀ j, j < k + 1 → 0 ≤ iAt x2 j ∧ iAt x2 j < (n : Int)) := Lib.hid fun j h => by
                rcases Nat.lt_succ_iff_lt_or_eq.1 h with h | rfl
                · exact hj.out j h
                · rw [HYK.out]; omega
              go_wp2_with fail
              go_roundw
              case rel => exact ⟨k + 1, by omega, by go_num, by exact Qf, hj2, BX⟩
              case measure => (simp [intOf]; omega)
        · have hF := Lib.hid (HY.out (fun j h => hj.out j (by omega)))
          go_wp2_with fail
          go_ret
          exact ⟨ret_bool (by rw [hF.out]; by_cases h0 : x1.toNat = 0 <;> simp [h0]), by exact Qf⟩
    · have hF : Hid (pieceB ⟨4, x1, x2⟩ n = false) := Lib.hid (by rw [HB.out, decide_eq_false hl]; rfl)
      clear HB
      have q : ((x2.length : Int) != 1) = true := by rw [bne_iff_ne]; omega
      go_enter Tryz.func189, Tryz.ntmps189
      go_wp2_with fail
      go_ret
      exact ⟨ret_bool hF.out.symm, by exact Qf⟩
  by_cases h5 : x.f0 = 5
  · have HB : Hid (pieceB x n = (decide (x.f2.length = 1) && (kidsB n x.f2 && decide (x.f1.toNat = 0)))) := Lib.hid (by unfold pieceB; rw [if_neg h1, if_neg (by rintro (h | h) <;> contradiction), if_pos (.inr (.inl h5))])
    obtain ⟨x0, x1, x2⟩ := x
    simp only [] at h1 h2 h3 h4 h5 HB hxl FV ⊢
    subst h5
    clear h1 h2 h3 h4
    by_cases hl : x2.length = 1
    · have HN : Hid (∀ k, k < x2.length → ∀ y, iAt x2 k = y → ¬ (0 ≤ y ∧ y < (n : Int)) → pieceB ⟨5, x1, x2⟩ n = false) := Lib.hid fun k hk y hy h => by rw [HB.out, kidsB_no hk hy h]; simp
      have HY : Hid ((∀ j, j < x2.length → 0 ≤ iAt x2 j ∧ iAt x2 j < (n : Int)) → pieceB ⟨5, x1, x2⟩ n = decide (x1.toNat = 0)) := Lib.hid fun h => by rw [HB.out, kidsB_all h, decide_eq_true hl]; rfl
      clear HB
      go_enter Tryz.func189, Tryz.ntmps189
      go_wp2_with fail
      go_loopw [6, 38] (fun _ i wr => ∃ k : Nat, k ≤ x2.length ∧ i = .int .i64 k ∧ Fr w wr ∧ Hid (∀ j, j < k → 0 ≤ iAt x2 j ∧ iAt x2 j < (n : Int)) ∧ Box wr w.heap.size #[.int .i64 5, .int .u8 (x1.toNat : Int), .slice av 1 cv] 237) (fun _ i _ => x2.length - (intOf i).toNat)
      case atStart => exact ⟨0, Nat.zero_le _, rfl, by exact Qf, Lib.hid (fun j hj => absurd hj (by omega)), Box.new _ _ _⟩
      case round =>
        obtain ⟨k, hk, rfl, hfr, hj, BX⟩ := hrel
        have FX := BX.facts
        by_cases hlt : k < x2.length
        · obtain ⟨rfl, hbv, fv⟩ := FV.out (by omega)
          obtain ⟨y, hy⟩ : ∃ y, iAt x2 k = y := ⟨_, rfl⟩
          have c0 := (hfr.cell (p := ⟨bv, _, none⟩) hbv).trans (hy ▸ fv k hlt)
          have HYK := Lib.hid hy
          clear fv hy
          by_cases hy0 : y < 0
          · have hF := Lib.hid (HN.out k hlt y HYK.out (by omega))
            go_wp2_with fail
            go_ret
            exact ⟨ret_bool hF.out.symm, by exact Qf⟩
          · by_cases hy1 : (n : Int) ≤ y
            · have hF := Lib.hid (HN.out k hlt y HYK.out (by omega))
              go_wp2_with fail
              go_ret
              exact ⟨ret_bool hF.out.symm, by exact Qf⟩
            · have hj2 : Hid (∀ j, j < k + 1 → 0 ≤ iAt x2 j ∧ iAt x2 j < (n : Int)) := Lib.hid fun j h => by
                rcases Nat.lt_succ_iff_lt_or_eq.1 h with h | rfl
                · exact hj.out j h
                · rw [HYK.out]; omega
              go_wp2_with fail
              go_roundw
              case rel => exact ⟨k + 1, by omega, by go_num, by exact Qf, hj2, BX⟩
              case measure => (simp [intOf]; omega)
        · have hF := Lib.hid (HY.out (fun j h => hj.out j (by omega)))
          go_wp2_with fail
          go_ret
          exact ⟨ret_bool (by rw [hF.out]; by_cases h0 : x1.toNat = 0 <;> simp [h0]), by exact Qf⟩
    · have hF : Hid (pieceB ⟨5, x1, x2⟩ n = false) := Lib.hid (by rw [HB.out, decide_eq_false hl]; rfl)
      clear HB
      have q : ((x2.length : Int) != 1) = true := by rw [bne_iff_ne]; omega
      go_enter Tryz.func189, Tryz.ntmps189
      go_wp2_with fail
      go_ret
      exact ⟨ret_bool hF.out.symm, by exact Qf⟩
  by_cases h6 : x.f0 = 6
  · have HB : Hid (pieceB x n = (decide (x.f2.length = 1) && (kidsB n x.f2 && decide (x.f1.toNat = 0)))) := Lib.hid (by unfold pieceB; rw [if_neg h1, if_neg (by rintro (h | h) <;> contradiction), if_pos (.inr (.inr h6))])
    obtain ⟨x0, x1, x2⟩ := x
    simp only [] at h1 h2 h3 h4 h5 h6 HB hxl FV ⊢
    subst h6
    clear h1 h2 h3 h4 h5
    by_cases hl : x2.length = 1
    · have HN : Hid (∀ k, k < x2.length → ∀ y, iAt x2 k = y → ¬ (0 ≤ y ∧ y < (n : Int)) → pieceB ⟨6, x1, x2⟩ n = false) := Lib.hid fun k hk y hy h => by rw [HB.out, kidsB_no hk hy h]; simp
      have HY : Hid ((∀ j, j < x2.length → 0 ≤ iAt x2 j ∧ iAt x2 j < (n : Int)) → pieceB ⟨6, x1, x2⟩ n = decide (x1.toNat = 0)) := Lib.hid fun h => by rw [HB.out, kidsB_all h, decide_eq_true hl]; rfl
      clear HB
      go_enter Tryz.func189, Tryz.ntmps189
      go_wp2_with fail
      go_loopw [6, 38] (fun _ i wr => ∃ k : Nat, k ≤ x2.length ∧ i = .int .i64 k ∧ Fr w wr ∧ Hid (∀ j, j < k → 0 ≤ iAt x2 j ∧ iAt x2 j < (n : Int)) ∧ Box wr w.heap.size #[.int .i64 6, .int .u8 (x1.toNat : Int), .slice av 1 cv] 237) (fun _ i _ => x2.length - (intOf i).toNat)
      case atStart => exact ⟨0, Nat.zero_le _, rfl, by exact Qf, Lib.hid (fun j hj => absurd hj (by omega)), Box.new _ _ _⟩
      case round =>
        obtain ⟨k, hk, rfl, hfr, hj, BX⟩ := hrel
        have FX := BX.facts
        by_cases hlt : k < x2.length
        · obtain ⟨rfl, hbv, fv⟩ := FV.out (by omega)
          obtain ⟨y, hy⟩ : ∃ y, iAt x2 k = y := ⟨_, rfl⟩
          have c0 := (hfr.cell (p := ⟨bv, _, none⟩) hbv).trans (hy ▸ fv k hlt)
          have HYK := Lib.hid hy
          clear fv hy
          by_cases hy0 : y < 0
          · have hF := Lib.hid (HN.out k hlt y HYK.out (by omega))
            go_wp2_with fail
            go_ret
            exact ⟨ret_bool hF.out.symm, by exact Qf⟩
          · by_cases hy1 : (n : Int) ≤ y
            · have hF := Lib.hid (HN.out k hlt y HYK.out (by omega))
              go_wp2_with fail
              go_ret
              exact ⟨ret_bool hF.out.symm, by exact Qf⟩
            · have hj2 : Hid (∀ j, j < k + 1 → 0 ≤ iAt x2 j ∧ iAt x2 j < (n : Int)) := Lib.hid fun j h => by
                rcases Nat.lt_succ_iff_lt_or_eq.1 h with h | rfl
                · exact hj.out j h
                · rw [HYK.out]; omega
              go_wp2_with fail
              go_roundw
              case rel => exact ⟨k + 1, by omega, by go_num, by exact Qf, hj2, BX⟩
              case measure => (simp [intOf]; omega)
        · have hF := Lib.hid (HY.out (fun j h => hj.out j (by omega)))
          go_wp2_with fail
          go_ret
          exact ⟨ret_bool (by rw [hF.out]; by_cases h0 : x1.toNat = 0 <;> simp [h0]), by exact Qf⟩
    · have hF : Hid (pieceB ⟨6, x1, x2⟩ n = false) := Lib.hid (by rw [HB.out, decide_eq_false hl]; rfl)
      clear HB
      have q : ((x2.length : Int) != 1) = true := by rw [bne_iff_ne]; omega
      go_enter Tryz.func189, Tryz.ntmps189
      go_wp2_with fail
      go_ret
      exact ⟨ret_bool hF.out.symm, by exact Qf⟩
  have hF : Hid (pieceB x n = false) := Lib.hid (by unfold pieceB; rw [if_neg h1, if_neg (by rintro (h | h) <;> contradiction), if_neg (by rintro (h | h | h) <;> contradiction)])
  obtain ⟨x0, x1, x2⟩ := x
  simp only [] at h1 h2 h3 h4 h5 h6 hF hxl FV ⊢
  have q1 : (x0 == 1) = false := by simpa using h1
  have q2 : (x0 == 2) = false := by simpa using h2
  have q3 : (x0 == 3) = false := by simpa using h3
  have q4 : (x0 == 4) = false := by simpa using h4
  have q5 : (x0 == 5) = false := by simpa using h5
  have q6 : (x0 == 6) = false := by simpa using h6
  clear h1 h2 h3 h4 h5 h6
  go_enter Tryz.func189, Tryz.ntmps189
  go_wp2_with fail
  go_ret
  exact ⟨ret_bool hF.out.symm, by exact Qf⟩
set_option maxHeartbeats 4000000 in
set_option maxRecDepth 100000 in
theorem implPathOk_any (v : Value) (ps : List PieceD) (w : World) (hv : PiecesR w v ps) :
    Calls Tryz.prog 155 #[.agg #[v]] w fun e w' => e = .returned (.bool (pathB ps)) ∧ Fr w w' := by
  have HV := Lib.hid hv
  obtain ⟨av, bv, ov, cv, rfl, hcv, hmv, fv⟩ := hv.one
  have FV := Lib.hid fv
  clear hv fv
  by_cases hl : 1 ≤ ps.length ∧ ps.length ≤ 60
  · have HN : Hid (∀ k, k < ps.length → pieceB (nAt ps k) k = false → pathB ps = false) := Lib.hid fun k hk h => pathB_no hk h
    have HY : Hid ((∀ j, j < ps.length → pieceB (nAt ps j) j = true) → pathB ps = true) := Lib.hid fun h => by rw [pathB_ok h, decide_eq_true hl]
    obtain ⟨hl1, hl2⟩ := hl
    go_enter Tryz.func155, Tryz.ntmps155
    go_wp2_with fail
    go_loopw [3, 4, 18] (fun _ _ i wr => ∃ k : Nat, k ≤ ps.length ∧ i = .int .i64 k ∧ Fr w wr ∧ Hid (∀ j, j < k → pieceB (nAt ps j) j = true)) (fun _ _ i _ => ps.length - (intOf i).toNat)
    case atStart => exact ⟨0, Nat.zero_le _, rfl, by exact Qf, Lib.hid (fun j hj => absurd hj (by omega))⟩
    case round =>
      obtain ⟨k, hk, rfl, hfr, hj⟩ := hrel
      by_cases hlt : k < ps.length
      · obtain ⟨rfl, hbv, fv⟩ := FV.out (by omega)
        obtain ⟨va, ha, g0, g1, g2⟩ := fv k hlt
        obtain ⟨x, hx⟩ : ∃ x, nAt ps k = x := ⟨_, rfl⟩
        rw [hx] at ha g0 g1
        have c0 := (hfr.cell (p := ⟨bv, _, none⟩) hbv).trans g0
        have c1 := (hfr.cell (p := ⟨bv, _, none⟩) hbv).trans g1
        have c2 := (hfr.cell (p := ⟨bv, _, none⟩) hbv).trans g2
        have hxl := x.f1.toNat_lt
        obtain ⟨aa, ba, oa, ca, rfl, _, _, _⟩ := ha.one
        obtain ⟨pb, hpb⟩ : ∃ pb, pieceB x k = pb := ⟨_, rfl⟩
        have HA := Lib.hid ha
        have CP : Hid (∀ w', Fr wr w' → Calls Tryz.prog 189 #[.agg #[.int .i64 x.f0, .int .u8 (x.f1.toNat : Int), .slice aa x.f2.length ca], .int .i64 k] w' fun e w'' => e = .returned (.bool pb) ∧ Fr w' w'') := Lib.hid fun w' h => by rw [← hpb]; exact pieceOk_any x _ k w' (HA.out.fr (hfr.trans h)) (by omega)
        have HX : Hid (pieceB (nAt ps k) k = pb) := Lib.hid (by rw [hx]; exact hpb)
        clear fv ha g0 g1 g2 hx hpb
        cases pb
        · have hF := Lib.hid (HN.out k hlt HX.out)
          go_wp2_with fail
          refine (CP.out _ (by exact Qf)).mono ?_
          rintro e w1 ⟨rfl, hf1⟩
          go_wp2_with fail
          go_ret
          exact ⟨ret_bool hF.out.symm, by exact Qf⟩
        · have hj2 : Hid (∀ j, j < k + 1 → pieceB (nAt ps j) j = true) := Lib.hid fun j h => by
            rcases Nat.lt_succ_iff_lt_or_eq.1 h with h | rfl
            · exact hj.out j h
            · exact HX.out
          go_wp2_with fail
          refine (CP.out _ (by exact Qf)).mono ?_
          rintro e w1 ⟨rfl, hf1⟩
          go_wp2_with fail
          go_roundw
          case rel => exact ⟨k + 1, by omega, by go_num, by exact Qf, hj2⟩
          case measure => (simp [intOf]; omega)
      · have hF := Lib.hid (HY.out (fun j h => hj.out j (by omega)))
        go_wp2_with fail
        go_ret
        exact ⟨ret_bool hF.out.symm, by exact Qf⟩
  · have hF := Lib.hid (pathB_far hl)
    by_cases h1 : ps.length < 1
    · clear hl
      go_enter Tryz.func155, Tryz.ntmps155
      go_wp2_with fail
      go_ret
      exact ⟨ret_bool hF.out.symm, by exact Qf⟩
    · have h2 : 60 < ps.length := by omega
      clear hl
      go_enter Tryz.func155, Tryz.ntmps155
      go_wp2_with fail
      go_ret
      exact ⟨ret_bool hF.out.symm, by exact Qf⟩
end Go.Proofs.YtmdgdnkllclpcaaGreat

/- The reading of a path, plain: what the program's reader does with a text. No condition. -/
namespace Go.Proofs.YtmdgdnkllclpcaaGreat
open Go.RowKit
set_option linter.unusedVariables false
set_option linter.unusedSimpArgs false
/-- The byte at a place, 0 at the end. -/
def nx (t : ByteArray) (a : Nat) : Nat := if h : a < t.size then (t[a]).toNat else 0
def isLab (n : Nat) : Bool := decide (97 ≤ n ∧ n ≤ 100)
def grp (op : Int) (ks : List Int) (ps : List PieceD) : Int × List PieceD :=
  match ks with
  | [k] => (k, ps)
  | _ => ((ps.length : Int), ps ++ [⟨op, 0, ks⟩])
inductive Job where
  | item
  | post (k : Int)
  | alt (ks : List Int)
  | expr (ks : List Int)
def prs (t : ByteArray) : Nat → Job → Nat → List PieceD → Option (Int × Nat × List PieceD)
  | 0, _, _, _ => none
  | f + 1, .item, a, ps =>
    if nx t a = 40 then
      match prs t f (.expr []) (a + 1) ps with
      | none => none
      | some (k, a1, ps1) => if nx t a1 = 41 then prs t f (.post k) (a1 + 1) ps1 else none
    else prs t f (.post (ps.length : Int)) (a + 1) (ps ++ [⟨1, UInt8.ofNat (nx t a), []⟩])
  | f + 1, .post k, a, ps =>
    if nx t a = 42 then prs t f (.post (ps.length : Int)) (a + 1) (ps ++ [⟨4, 0, [k]⟩])
    else if nx t a = 43 then prs t f (.post (ps.length : Int)) (a + 1) (ps ++ [⟨5, 0, [k]⟩])
    else if nx t a = 63 then prs t f (.post (ps.length : Int)) (a + 1) (ps ++ [⟨6, 0, [k]⟩])
    else some (k, a, ps)
  | f + 1, .alt ks, a, ps =>
    if isLab (nx t a) = true ∨ nx t a = 40 then
      match prs t f .item a ps with
      | none => none
      | some (k, a1, ps1) => prs t f (.alt (ks ++ [k])) a1 ps1
    else if ks.length = 0 then none else some ((grp 2 ks ps).1, a, (grp 2 ks ps).2)
  | f + 1, .expr ks, a, ps =>
    match prs t f (.alt []) a ps with
    | none => none
    | some (k, a1, ps1) =>
      if nx t a1 = 124 then prs t f (.expr (ks ++ [k])) (a1 + 1) ps1
      else some ((grp 3 (ks ++ [k]) ps1).1, a1, (grp 3 (ks ++ [k]) ps1).2)
def rpG (t : ByteArray) (r : Option (Int × Nat × List PieceD)) : List PieceD × Bool :=
  match r with
  | none => ([], false)
  | some (_, a, ps) => if a = t.size ∧ pathB ps = true then (ps, true) else ([], false)
def rpM (t : ByteArray) : List PieceD × Bool := if 20 < t.size then ([], false) else rpG t (prs t 100 (.expr []) 0 [])
example : rpM ⟨#[97, 98, 42]⟩ = ([⟨1, 97, []⟩, ⟨1, 98, []⟩, ⟨4, 0, [1]⟩, ⟨2, 0, [0, 2]⟩], true) := by decide
example : rpM ⟨#[40, 97, 124, 98, 99, 41, 63]⟩ = ([⟨1, 97, []⟩, ⟨1, 98, []⟩, ⟨1, 99, []⟩, ⟨2, 0, [1, 2]⟩, ⟨3, 0, [0, 3]⟩, ⟨6, 0, [4]⟩], true) := by decide
example : (rpM ⟨#[97, 124]⟩).2 = false := by decide
theorem nx_end {t : ByteArray} {a : Nat} (h : t.size ≤ a) : nx t a = 0 := by unfold nx; rw [dif_neg (by omega)]
theorem nx_in {t : ByteArray} {a : Nat} (h : nx t a ≠ 0) : a < t.size := by
  rcases Nat.lt_or_ge a t.size with h1 | h1
  · exact h1
  · exact absurd (nx_end h1) h
theorem nx_lt (t : ByteArray) (a : Nat) : nx t a < 256 := by
  unfold nx
  split
  · exact UInt8.toNat_lt _
  · omega
/-- Places only go on, pieces are only laid behind. -/
theorem prs_on (t : ByteArray) : ∀ (f : Nat) (j : Job) (a : Nat) (ps : List PieceD) (k : Int) (a1 : Nat) (ps1 : List PieceD), prs t f j a ps = some (k, a1, ps1) → a ≤ a1 ∧ (∃ more, ps1 = ps ++ more) ∧ (j = .item → a + 1 ≤ a1) := by
  intro f
  induction f with
  | zero => intro j a ps k a1 ps1 h; rw [prs] at h; cases h
  | succ f ih =>
    intro j a ps k a1 ps1 h
    cases j with
    | item =>
      rw [prs] at h
      split at h
      · cases hE : prs t f (.expr []) (a + 1) ps with
        | none => rw [hE] at h; cases h
        | some r =>
          obtain ⟨k2, a2, ps2⟩ := r
          rw [hE] at h
          simp only [] at h
          split at h
          · obtain ⟨b1, ⟨m1, b2⟩, _⟩ := ih _ _ _ _ _ _ hE
            obtain ⟨c1, ⟨m2, c2⟩, _⟩ := ih _ _ _ _ _ _ h
            exact ⟨by omega, ⟨m1 ++ m2, by rw [c2, b2, List.append_assoc]⟩, fun _ => by omega⟩
          · cases h
      · obtain ⟨c1, ⟨m2, c2⟩, _⟩ := ih _ _ _ _ _ _ h
        exact ⟨by omega, ⟨_, by rw [c2, List.append_assoc]⟩, fun _ => by omega⟩
    | post k0 =>
      rw [prs] at h
      split at h
      · obtain ⟨c1, ⟨m2, c2⟩, _⟩ := ih _ _ _ _ _ _ h
        exact ⟨by omega, ⟨_, by rw [c2, List.append_assoc]⟩, fun h => by cases h⟩
      · split at h
        · obtain ⟨c1, ⟨m2, c2⟩, _⟩ := ih _ _ _ _ _ _ h
          exact ⟨by omega, ⟨_, by rw [c2, List.append_assoc]⟩, fun h => by cases h⟩
        · split at h
          · obtain ⟨c1, ⟨m2, c2⟩, _⟩ := ih _ _ _ _ _ _ h
            exact ⟨by omega, ⟨_, by rw [c2, List.append_assoc]⟩, fun h => by cases h⟩
          · cases h
            exact ⟨Nat.le_refl _, ⟨[], by simp⟩, fun h => by cases h⟩
    | alt ks =>
      rw [prs] at h
      split at h
      · cases hE : prs t f .item a ps with
        | none => rw [hE] at h; cases h
        | some r =>
          obtain ⟨k2, a2, ps2⟩ := r
          rw [hE] at h
          simp only [] at h
          obtain ⟨b1, ⟨m1, b2⟩, _⟩ := ih _ _ _ _ _ _ hE
          obtain ⟨c1, ⟨m2, c2⟩, _⟩ := ih _ _ _ _ _ _ h
          exact ⟨by omega, ⟨m1 ++ m2, by rw [c2, b2, List.append_assoc]⟩, fun h => by cases h⟩
      · split at h
        · cases h
        · cases h
          refine ⟨Nat.le_refl _, ?_, fun h => by cases h⟩
          unfold grp
          split
          · exact ⟨[], by simp⟩
          · exact ⟨_, rfl⟩
    | expr ks =>
      rw [prs] at h
      cases hE : prs t f (.alt []) a ps with
      | none => rw [hE] at h; cases h
      | some r =>
        obtain ⟨k2, a2, ps2⟩ := r
        rw [hE] at h
        simp only [] at h
        obtain ⟨b1, ⟨m1, b2⟩, _⟩ := ih _ _ _ _ _ _ hE
        split at h
        · obtain ⟨c1, ⟨m2, c2⟩, _⟩ := ih _ _ _ _ _ _ h
          exact ⟨by omega, ⟨m1 ++ m2, by rw [c2, b2, List.append_assoc]⟩, fun h => by cases h⟩
        · cases h
          refine ⟨b1, ?_, fun h => by cases h⟩
          unfold grp
          split
          · exact ⟨m1, b2⟩
          · exact ⟨_, by rw [b2, List.append_assoc]⟩
end Go.Proofs.YtmdgdnkllclpcaaGreat

/- What a call may have turned: a set of blocks. No condition. -/
namespace Go.Proofs.YtmdgdnkllclpcaaGreat
open Go.RowKit
set_option linter.unusedVariables false
set_option linter.unusedSimpArgs false
/-- Nothing old has turned but one box and one row. -/
structure Two (b : Nat) (r : Option Nat) (w w' : World) : Prop where
  os : w'.os = w.os
  tape : w'.tape = w.tape
  output : w'.output = w.output
  size : w.heap.size ≤ w'.heap.size
  block : ∀ k, k < w.heap.size → k ≠ b → some k ≠ r → w'.heap[k]? = w.heap[k]?
theorem Two.box {b : Nat} {r : Option Nat} {w w' : World} {c : Nat} {X : Array Value} {T : TypeId} (h : Two b r w w') (k : Box w c X T) (h1 : c ≠ b) (h2 : some c ≠ r) : Box w' c X T := (h.block c k.lt h1 h2).trans k
theorem Two.fr {b : Nat} {r : Option Nat} {a w w' : World} (h : Two b r w w') (k : Fr a w) (h1 : a.heap.size ≤ b) (h2 : ∀ g, r = some g → a.heap.size ≤ g) : Fr a w' :=
  Below.trans k.out (show Below a.heap.size w w' from ⟨h.os, h.tape, h.output, h.size, fun c hc => h.block c (Nat.lt_of_lt_of_le hc k.size) (by omega) (fun e => by have := h2 c e.symm; omega)⟩)
theorem Two.of_gr {b : Nat} {r : Option Nat} {w w' : World} (h : w.grownBy w' r) : Two b r w w' := ⟨h.os, h.tape, h.output, h.size, fun k hk _ hr => h.block k hk hr⟩
theorem Two.of_fr {b : Nat} {r : Option Nat} {w w' : World} (h : Fr w w') : Two b r w w' := ⟨h.out.os, h.out.tape, h.out.output, h.size, fun k hk _ _ => h.out.block k hk⟩
theorem Two.trans {b : Nat} {r : Option Nat} {w w' w'' : World} (h : Two b r w w') (k : Two b r w' w'') : Two b r w w'' :=
  ⟨k.os.trans h.os, k.tape.trans h.tape, k.output.trans h.output, Nat.le_trans h.size k.size, fun c hc h1 h2 => (k.block c (Nat.lt_of_lt_of_le hc h.size) h1 h2).trans (h.block c hc h1 h2)⟩
theorem Two.set {b : Nat} {r : Option Nat} {w w' : World} (h : Two b r w w') (i : Nat) (v : Value) : Two b r w (w'.setCell ⟨b, i, none⟩ v) :=
  h.trans ⟨rfl, rfl, rfl, by simp, fun k _ h1 _ => heap_setCell_other w' ⟨b, i, none⟩ k v h1⟩
/-- Of the blocks that stood, only those in B have turned. -/
structure Tch (B : Nat → Prop) (w w' : World) : Prop where
  os : w'.os = w.os
  tape : w'.tape = w.tape
  output : w'.output = w.output
  size : w.heap.size ≤ w'.heap.size
  block : ∀ i, i < w.heap.size → ¬ B i → w'.heap[i]? = w.heap[i]?
theorem Tch.of_fr {B : Nat → Prop} {w w' : World} (h : Fr w w') : Tch B w w' := ⟨h.out.os, h.out.tape, h.out.output, h.size, fun i hi _ => h.out.block i hi⟩
theorem Tch.refl (B : Nat → Prop) (w : World) : Tch B w w := Tch.of_fr (Fr.refl w)
theorem Tch.then {B C : Nat → Prop} {w w' w'' : World} (h : Tch B w w') (k : Tch C w' w'') (hs : ∀ i, i < w.heap.size → C i → B i) : Tch B w w'' :=
  ⟨k.os.trans h.os, k.tape.trans h.tape, k.output.trans h.output, Nat.le_trans h.size k.size, fun i hi hb => (k.block i (Nat.lt_of_lt_of_le hi h.size) (fun c => hb (hs i hi c))).trans (h.block i hi hb)⟩
theorem Tch.trans {B : Nat → Prop} {w w' w'' : World} (h : Tch B w w') (k : Tch B w' w'') : Tch B w w'' := h.then k fun _ _ c => c
theorem Tch.fr {B : Nat → Prop} {w w' w'' : World} (h : Tch B w w') (k : Fr w' w'') : Tch B w w'' := h.trans (Tch.of_fr k)
theorem Tch.sub {B C : Nat → Prop} {w w' : World} (h : Tch B w w') (hs : ∀ i, i < w.heap.size → B i → C i) : Tch C w w' := ⟨h.os, h.tape, h.output, h.size, fun i hi hb => h.block i hi fun c => hb (hs i hi c)⟩
theorem Tch.of_gr {B : Nat → Prop} {w w' : World} {row : Option Nat} (h : w.grownBy w' row) (hr : ∀ i, row = some i → B i) : Tch B w w' := ⟨h.os, h.tape, h.output, h.size, fun i hi hb => h.block i hi fun e => hb (hr i e.symm)⟩
theorem Tch.set {B : Nat → Prop} {w w' : World} (h : Tch B w w') {p : Addr} (hp : B p.block ∨ w.heap.size ≤ p.block) (v : Value) : Tch B w (w'.setCell p v) :=
  ⟨h.os, h.tape, h.output, Nat.le_trans h.size (by simp), fun i hi hb => (heap_setCell_other w' p i v (fun e => by rcases hp with hp | hp; exact hb (e ▸ hp); omega)).trans (h.block i hi hb)⟩
theorem Tch.set3 {B : Nat → Prop} {w w' : World} (h : Tch B w w') {c : Nat} (hp : B c ∨ w.heap.size ≤ c) (u v x : Value) : Tch B w (((w'.setCell ⟨c, 0, none⟩ u).setCell ⟨c, 1, none⟩ v).setCell ⟨c, 2, none⟩ x) :=
  ((h.set (p := ⟨c, 0, none⟩) hp u).set (p := ⟨c, 1, none⟩) hp v).set (p := ⟨c, 2, none⟩) hp x
theorem Tch.box {B : Nat → Prop} {w w' : World} {c : Nat} {X : Array Value} {T : TypeId} (h : Tch B w w') (k : Box w c X T) (hb : ¬ B c) : Box w' c X T := (h.block c k.lt hb).trans k
theorem Tch.owns {B : Nat → Prop} {w w' : World} {lo : Nat} {e : TypeId} {sz : Nat} {v : Value} {n : Nat} {xs : List Value} (h : Tch B w w') (k : w.ownsRow lo e sz v n xs) (hb : ∀ g, v.ownBlock = some g → ¬ B g) : w'.ownsRow lo e sz v n xs := by
  obtain ⟨h1, h2 | ⟨g, cap, cur, hv, hg, hh, hr⟩⟩ := k
  · exact ⟨h1, .inl h2⟩
  · exact ⟨h1, .inr ⟨g, cap, cur, hv, hg, (h.block g (Array.getElem?_eq_some_iff.1 hh).1 (hb g (by rw [hv]; rfl))).trans hh, hr⟩⟩
theorem Tch.old {B : Nat → Prop} {a w w' : World} (h : Tch B w w') (k : Fr a w) (hb : ∀ i, i < a.heap.size → ¬ B i) : Fr a w' :=
  Below.trans k.out (show Below a.heap.size w w' from ⟨h.os, h.tape, h.output, h.size, fun c hc => h.block c (Nat.lt_of_lt_of_le hc k.size) (hb c hc)⟩)
/-- A row that may have moved to a block from n on. -/
def Mvd (n : Nat) (v v' : Value) : Prop := v'.ownBlock = v.ownBlock ∨ ∃ g, v'.ownBlock = some g ∧ n ≤ g
theorem Mvd.refl (n : Nat) (v : Value) : Mvd n v v := .inl rfl
theorem Mvd.mono {n m : Nat} {v v' : Value} (h : Mvd n v v') (hm : m ≤ n) : Mvd m v v' := by
  rcases h with r | ⟨g, r, hg⟩
  · exact .inl r
  · exact .inr ⟨g, r, by omega⟩
theorem Mvd.trans {n m : Nat} {v v' v'' : Value} (h : Mvd n v v') (k : Mvd m v' v'') (hs : n ≤ m) : Mvd n v v'' := by
  rcases k with r | ⟨g, r, hg⟩
  · unfold Mvd; rw [r]; exact h
  · exact .inr ⟨g, r, by omega⟩
/-- What a row's block was, if it stood. -/
theorem Mvd.old {n : Nat} {v v' : Value} {i : Nat} (h : Mvd n v v') (e : v'.ownBlock = some i) (hi : i < n) : v.ownBlock = some i := by
  rcases h with r | ⟨g, r, hg⟩
  · exact r ▸ e
  · rw [r] at e; cases e; omega
theorem Mvd.ne {n : Nat} {v v' : Value} {i : Nat} (h : Mvd n v v') (e : v.ownBlock ≠ some i) (hi : i < n) : v'.ownBlock ≠ some i := fun k => e (h.old k hi)
theorem Mvd.apart {n : Nat} {v v' u : Value} (h : Mvd n v v') (ha : Apart v u) (hu : ∀ g, u.ownBlock = some g → g < n) : Apart v' u := fun g h1 h2 => ha g (h.old h1 (hu g h2)) h2
theorem Mvd.of_app {n : Nat} {v v' : Value} {H : Nat} (h : v'.ownBlock = v.ownBlock ∨ v'.ownBlock = some H) (hn : n ≤ H) : Mvd n v v' := by
  rcases h with r | r
  · exact .inl r
  · exact .inr ⟨H, r, hn⟩
theorem Apart.symm' {v u : Value} (h : Apart v u) : Apart u v := fun g h1 h2 => h g h2 h1
theorem owns_old {w : World} {lo : Nat} {e : TypeId} {sz : Nat} {v : Value} {n : Nat} {xs : List Value} (h : w.ownsRow lo e sz v n xs) : ∀ g, v.ownBlock = some g → g < w.heap.size := fun g hg => (World.ownsRow.lt h g hg).2
end Go.Proofs.YtmdgdnkllclpcaaGreat

/- The program's path reader: its state (Prd), next, piece, group. Conditions: bounds on what is read. -/
namespace Go.Proofs.YtmdgdnkllclpcaaGreat
open Go.RowKit
set_option linter.unusedVariables false
set_option linter.unusedSimpArgs false
def pcells : List PieceD → List Value → List Value
  | d :: ps, u :: us => .int .i64 d.f0 :: .int .u8 (d.f1.toNat : Int) :: u :: pcells ps us
  | _, _ => []
theorem pcells_snoc : ∀ {ps : List PieceD} {us : List Value} (x : PieceD) (u : Value), us.length = ps.length → pcells (ps ++ [x]) (us ++ [u]) = pcells ps us ++ [.int .i64 x.f0, .int .u8 (x.f1.toNat : Int), u]
  | [], [], x, u, _ => rfl
  | [], _ :: _, _, _, h => by simp at h
  | _ :: _, [], _, _, h => by simp at h
  | d :: ps, e :: us, x, u, h => by
    simp only [List.cons_append, pcells]
    rw [pcells_snoc x u (by simpa using h)]
/-- The pieces that a reader has laid down so far: the row is its own, and so is each piece's row of kids; the rows lie apart. -/
structure Prd (w : World) (lo : Nat) (v : Value) (ps : List PieceD) (us : List Value) : Prop where
  len : us.length = ps.length
  own : w.ownsRow lo 237 3 v ps.length (pcells ps us)
  kid : ∀ k, k < ps.length → IntsO w lo (nAt us k) (nAt ps k).f2 ∧ Apart (nAt us k) v
theorem Prd.none (w : World) (lo : Nat) : Prd w lo (.slice none 0 0) [] [] := ⟨rfl, World.ownsRow_nil _ _ _ _, fun k hk => by simp at hk⟩
theorem Prd.fr {w w' : World} {lo : Nat} {v : Value} {ps : List PieceD} {us : List Value} (h : Prd w lo v ps us) (hf : Fr w w') : Prd w' lo v ps us :=
  ⟨h.len, owns_fr h.own hf, fun k hk => ⟨owns_fr (h.kid k hk).1 hf, (h.kid k hk).2⟩⟩
theorem Prd.set {w : World} {lo : Nat} {v : Value} {ps : List PieceD} {us : List Value} (h : Prd w lo v ps us) {p : Addr} (hp : p.block < lo) (u : Value) : Prd (w.setCell p u) lo v ps us :=
  ⟨h.len, owns_set h.own hp u, fun k hk => ⟨owns_set (h.kid k hk).1 hp u, (h.kid k hk).2⟩⟩
theorem Prd.val {w : World} {lo : Nat} {v : Value} {ps : List PieceD} {us : List Value} (h : Prd w lo v ps us) : ∃ ao cap, v = .slice ao ps.length cap := owns_val h.own
set_option maxHeartbeats 1000000 in
theorem next_any (b a : Nat) (t : ByteArray) (v : Value) (w : World) (hb : Box w b #[.string t, .int .i64 (a : Int), v] 201) (ht : t.size ≤ 1000) :
    Calls Tryz.prog 187 #[.pointer (some ⟨b, 0, none⟩)] w fun e w' => e = .returned (.int .u8 (nx t a : Int)) ∧ Fr w w' := by
  have F := hb.facts
  by_cases hlt : a < t.size
  · have HX : Hid (nx t a = (t[a]).toNat) := Lib.hid (dif_pos hlt)
    go_enter Tryz.func187, Tryz.ntmps187
    go_wp2_with fail
    go_quiet (fail)
    go_wp2_with fail
    go_quiet (fail)
    go_wp2_with fail
    go_ret
    exact ⟨ret_u8 (by rw [HX.out]), by exact Qf⟩
  · have HX : Hid (nx t a = 0) := Lib.hid (nx_end (by omega))
    go_enter Tryz.func187, Tryz.ntmps187
    go_wp2_with fail
    go_quiet (fail)
    go_wp2_with fail
    go_ret
    exact ⟨ret_u8 (by rw [HX.out]; rfl), by exact Qf⟩
theorem Prd.more {w w' : World} {lo : Nat} {v v' u : Value} {ps : List PieceD} {us : List Value} {x : PieceD} {H : Nat} (h : Prd w lo v ps us) (hu : IntsO w lo u x.f2) (hau : Apart u v) (hH : H = w.heap.size)
    (ho : w'.ownsRow lo 237 3 v' (ps.length + 1) (pcells ps us ++ [.int .i64 x.f0, .int .u8 (x.f1.toNat : Int), u])) (hg : ∀ (z : Value) (ks : List Int), IntsO w lo z ks → Apart z v → IntsO w' lo z ks) (hat : v'.ownBlock = v.ownBlock ∨ ∃ g, v'.ownBlock = some g ∧ w.heap.size ≤ g) : Prd w' lo v' (ps ++ [x]) (us ++ [u]) := by
  have ap : ∀ (z : Value) (ks : List Int), IntsO w lo z ks → Apart z v → Apart z v' := fun z ks hz haz g h1 h2 => by
    rcases hat with e | ⟨g', e, hge⟩
    · exact haz g h1 (e ▸ h2)
    · rw [e] at h2
      cases h2
      have := (World.ownsRow.lt hz g h1).2
      omega
  refine ⟨by simp [h.len], ?_, fun k hk => ?_⟩
  · rw [pcells_snoc x u h.len]
    simpa using ho
  · simp only [List.length_append, List.length_singleton] at hk
    by_cases hk2 : k < ps.length
    · have e1 : nAt (us ++ [u]) k = nAt us k := by unfold nAt; simp [List.getD, List.getElem?_append_left (show k < us.length by rw [h.len]; exact hk2)]
      have e2 : nAt (ps ++ [x]) k = nAt ps k := by unfold nAt; simp [List.getD, List.getElem?_append_left hk2]
      rw [e1, e2]
      obtain ⟨h1, h2⟩ := h.kid k hk2
      exact ⟨hg _ _ h1 h2, ap _ _ h1 h2⟩
    · obtain rfl : k = ps.length := by omega
      have e1 : nAt (us ++ [u]) ps.length = u := by unfold nAt; rw [← h.len]; simp [List.getD]
      have e2 : nAt (ps ++ [x]) ps.length = x := by unfold nAt; simp [List.getD]
      rw [e1, e2]
      exact ⟨hg _ _ hu hau, ap _ _ hu hau⟩
set_option maxHeartbeats 8000000 in
set_option maxRecDepth 100000 in
theorem piece_any (b lo a : Nat) (t : ByteArray) (v u : Value) (ps : List PieceD) (us : List Value) (x : PieceD) (w : World) (hb : Box w b #[.string t, .int .i64 (a : Int), v] 201) (hlo : b < lo) (hlw : lo ≤ w.heap.size)
    (hp : Prd w lo v ps us) (hu : IntsO w lo u x.f2) (hau : Apart u v) (hn : ps.length ≤ 1000) :
    Calls Tryz.prog 209 #[.pointer (some ⟨b, 0, none⟩), .agg #[.int .i64 x.f0, .int .u8 (x.f1.toNat : Int), u]] w fun e w' => ∃ v', e = .returned (.int .i64 (ps.length : Int)) ∧ Box w' b #[.string t, .int .i64 (a : Int), v'] 201 ∧ Prd w' lo v' (ps ++ [x]) (us ++ [u]) ∧ Two b v.ownBlock w w' ∧ (v'.ownBlock = v.ownBlock ∨ ∃ g, v'.ownBlock = some g ∧ w.heap.size ≤ g) := by
  obtain ⟨i0, hi, hz0, hz1, hz2⟩ := info_parts info_Piece
  obtain ⟨ao, cap, rfl⟩ := hp.val
  obtain ⟨au, cu, rfl⟩ := owns_val hu
  have hxl := x.f1.toNat_lt
  have hbl := hb.lt
  have HP := Lib.hid hp
  have HU := Lib.hid hu
  have HO : Hid (w.ownsRow lo 237 3 (.slice ao ps.length cap) ps.length (pcells ps us)) := Lib.hid hp.own
  have hwl : IntKind.i64.wrap ((ps.length : Int) + 1 - 1) = (ps.length : Int) := by rw [show (ps.length : Int) + 1 - 1 = ps.length by omega]; exact IntWalk.i64_in _ (by omega)
  clear hp hu
  have F := hb.facts
  have hne1 : b ≠ w.heap.size := by omega
  have hne2 : w.heap.size ≠ b := by omega
  go_enter Tryz.func209, Tryz.ntmps209
  go_wp2_with fail
  go_region_law ((refine step_append_rd (by rfl) _ _ 136 (by rfl) lo 237 i0 (.agg #[.int .i64 0, .int .u8 0, .slice none 0 0]) 3 40 Tryz.underlying136 hi hz0 hz1 hz2 rfl (by decide) (.slice ao ps.length cap) ps.length (pcells ps us) (by rfl) (by exact owns_lo (owns_ab HO.out (by exact Qa)) (by exact Qz)) _ 1 [.int .i64 x.f0, .int .u8 (x.f1.toNat : Int), .slice au x.f2.length cu] (by rfl) (RdS.drew (RdS.new (by first | rfl | (simp; done)) rfl)) (by simp [Value.oneCell']) (by unfold maxLen; omega) (by omega) (by exact Qz) ?_; intro ay cy w9 hown hgrow hat; have hB9 : Box w9 b _ _ := Box.gr (Box.fr hb (by exact Qf)) hgrow (fun e => by have := (World.ownsRow.lt HO.out b e).1; omega); have F9 := hB9.facts; have z9 := hgrow.size; (try simp only [World.size_alloc, World.size_drew] at z9)))
  all_goals
    go_wp2_with fail
    go_ret
    have hat2 : (Value.slice ay (ps.length + 1) cy).ownBlock = (Value.slice ao ps.length cap).ownBlock ∨ ∃ g, (Value.slice ay (ps.length + 1) cy).ownBlock = some g ∧ w.heap.size ≤ g := by
      rcases hat with h | h
      · exact .inl h
      · exact .inr ⟨_, h, by simp; try omega⟩
    have hP9 := Prd.more HP.out HU.out hau rfl hown (fun z ks hz haz => World.ownsRow.kept (owns_fr hz (by exact Qf)) hgrow (haz.symm.symm |> fun q => (Apart.ne q))) hat2
    refine ⟨.slice ay (ps.length + 1) cy, by first | rfl | (congr 1), ?_, ?_, ?_, hat2⟩
    · first | exact hB9.set_to (by simp) | exact (hB9.set_to (by simp)).drew
    · exact Prd.set hP9 (by show b < lo; omega) _
    · exact Two.set (Two.trans (Two.of_fr (by exact Qf)) (Two.of_gr hgrow)) 2 _
/-- What a call of the reader may have turned: its box, the row of its pieces, nothing else that stood. -/
structure PGo (b : Nat) (v v' : Value) (w w' : World) : Prop where
  two : Two b v.ownBlock w w'
  row : v'.ownBlock = v.ownBlock ∨ ∃ g, v'.ownBlock = some g ∧ w.heap.size ≤ g
theorem PGo.size {b : Nat} {v v' : Value} {w w' : World} (h : PGo b v v' w w') : w.heap.size ≤ w'.heap.size := h.two.size
theorem PGo.of_fr {b : Nat} {v : Value} {w w' : World} (h : Fr w w') : PGo b v v w w' := ⟨Two.of_fr h, .inl rfl⟩
theorem PGo.then {b : Nat} {v v' : Value} {w w' w'' : World} (h : PGo b v v' w w') (k : Two b v'.ownBlock w' w'') : Two b v.ownBlock w w'' :=
  ⟨k.os.trans h.two.os, k.tape.trans h.two.tape, k.output.trans h.two.output, Nat.le_trans h.two.size k.size, fun i hi h1 h2 => by
    rw [k.block i (Nat.lt_of_lt_of_le hi h.two.size) h1 (fun e => by
      rcases h.row with r | ⟨g, r, hg⟩
      · exact h2 (e.trans r)
      · rw [r] at e; cases e; omega)]
    exact h.two.block i hi h1 h2⟩
theorem PGo.trans {b : Nat} {v v' v'' : Value} {w w' w'' : World} (h : PGo b v v' w w') (k : PGo b v' v'' w' w'') : PGo b v v'' w w'' :=
  ⟨h.then k.two, by
    rcases k.row with r | ⟨g, r, hg⟩
    · rw [r]
      exact h.row
    · exact .inr ⟨g, r, Nat.le_trans h.two.size hg⟩⟩
/-- A row of the caller's own, apart from the pieces, stays as it is. -/
theorem PGo.kids {b lo : Nat} {v v' z : Value} {w w' : World} {ks : List Int} (h : PGo b v v' w w') (hz : IntsO w lo z ks) (ha : Apart z v) (hb : b < lo) : IntsO w' lo z ks ∧ Apart z v' := by
  refine ⟨?_, fun g h1 h2 => ?_⟩
  · obtain ⟨h1, h2 | ⟨g, cap, cur, hv, hg, hh, hr⟩⟩ := hz
    · exact ⟨h1, .inl h2⟩
    · refine ⟨h1, .inr ⟨g, cap, cur, hv, hg, (h.two.block g (Array.getElem?_eq_some_iff.1 hh).1 (by omega) (fun e => ?_)).trans hh, hr⟩⟩
      exact ha g (by rw [hv]; rfl) e.symm
  · rcases h.row with r | ⟨g', r, hg⟩
    · exact ha g h1 (r ▸ h2)
    · rw [r] at h2
      cases h2
      have := (World.ownsRow.lt hz g h1).2
      omega
/-- A row of a caller's: none of the pieces' rows. -/
def Apt (v : Value) (us : List Value) (y : Value) : Prop := Apart y v ∧ ∀ u, u ∈ us → Apart y u
def Old (w : World) (y : Value) : Prop := ∀ g, y.ownBlock = some g → g < w.heap.size
theorem Apt.snoc {v v' u y : Value} {us : List Value} {w : World} (h : Apt v us y) (ho : Old w y) (hu : Apart y u) (hr : v'.ownBlock = v.ownBlock ∨ ∃ g, v'.ownBlock = some g ∧ w.heap.size ≤ g) : Apt v' (us ++ [u]) y := by
  refine ⟨fun g h1 h2 => ?_, fun x hx => ?_⟩
  · rcases hr with r | ⟨g', r, hg⟩
    · exact h.1 g h1 (r ▸ h2)
    · rw [r] at h2
      cases h2
      have := ho g h1
      omega
  · rcases List.mem_append.1 hx with hx | hx
    · exact h.2 x hx
    · simp only [List.mem_singleton] at hx
      rw [hx]
      exact hu
/-- The reader's state behind a call: z is a row that the call was handed. -/
def RdSt (b lo a : Nat) (t : ByteArray) (v z : Value) (us : List Value) (ps : List PieceD) (w w' : World) : Prop := ∃ v' us', Box w' b #[.string t, .int .i64 (a : Int), v'] 201 ∧ Prd w' lo v' ps us' ∧ PGo b v v' w w' ∧ ∀ y, Old w y → Apt v us y → Apart y z → Apt v' us' y
set_option maxHeartbeats 4000000 in
theorem group_any (b lo a : Nat) (t : ByteArray) (v z : Value) (ps : List PieceD) (us : List Value) (op : Int) (ks : List Int) (w : World) (hb : Box w b #[.string t, .int .i64 (a : Int), v] 201) (hlo : b < lo) (hlw : lo ≤ w.heap.size)
    (hp : Prd w lo v ps us) (hu : IntsO w lo z ks) (hau : Apart z v) (hn : ps.length ≤ 1000) (hk : 0 < ks.length) :
    Calls Tryz.prog 188 #[.pointer (some ⟨b, 0, none⟩), .int .i64 op, z] w fun e w' => e = .returned (.int .i64 (grp op ks ps).1) ∧ RdSt b lo a t v z us (grp op ks ps).2 w w' := by
  have HB := Lib.hid hb
  have HP := Lib.hid hp
  have HU := Lib.hid hu
  obtain ⟨az, cz, rfl⟩ := owns_val hu
  obtain ⟨az', bz, oz, cz', hv, hcz, hmz, fz⟩ := (IntsO.rd hu).one
  cases hv
  obtain ⟨rfl, hbz, fz⟩ := fz hk
  by_cases h1 : ks.length = 1
  · obtain ⟨k, rfl⟩ : ∃ k, ks = [k] := by
      match ks, h1 with
      | [k], _ => exact ⟨k, rfl⟩
    have c0 : w.cell? ⟨bz, oz, none⟩ = some (.int .i64 k) := fz 0 (by simp)
    clear fz hb hp hu
    go_enter Tryz.func188, Tryz.ntmps188
    go_wp2_with fail
    go_ret
    exact ⟨rfl, v, us, HB.out.fr (by exact Qf), HP.out.fr (by exact Qf), PGo.of_fr (by exact Qf), fun y _ h _ => h⟩
  · have hg : grp op ks ps = ((ps.length : Int), ps ++ [⟨op, 0, ks⟩]) := by
      unfold grp
      split
      · simp at h1
      · rfl
    have HG := Lib.hid hg
    have q : ((ks.length : Int) == 1) = false := by rw [beq_eq_false_iff_ne]; omega
    have CP : Hid (∀ w', Fr w w' → Calls Tryz.prog 209 #[.pointer (some ⟨b, 0, none⟩), .agg #[.int .i64 op, .int .u8 0, .slice (some ⟨bz, oz, none⟩) ks.length cz]] w' fun e w'' => ∃ v', e = .returned (.int .i64 (ps.length : Int)) ∧ Box w'' b #[.string t, .int .i64 (a : Int), v'] 201 ∧ Prd w'' lo v' (ps ++ [⟨op, 0, ks⟩]) (us ++ [.slice (some ⟨bz, oz, none⟩) ks.length cz]) ∧ Two b v.ownBlock w' w'' ∧ (v'.ownBlock = v.ownBlock ∨ ∃ g, v'.ownBlock = some g ∧ w'.heap.size ≤ g)) := Lib.hid fun w' h => piece_any b lo a t v _ ps us ⟨op, 0, ks⟩ w' (HB.out.fr h) hlo (by have := h.size; omega) (HP.out.fr h) (owns_fr HU.out h) hau hn
    clear fz hb hp hu hg
    go_enter Tryz.func188, Tryz.ntmps188
    go_wp2_with fail
    refine (CP.out _ (by exact Qf)).mono ?_
    rintro e w1 ⟨v', rfl, hb1, hp1, ht1, hr1⟩
    have HB1 := Lib.hid hb1
    have HP1 := Lib.hid hp1
    clear hb1 hp1
    go_wp2_with fail
    go_ret
    rw [HG.out]
    have hr2 : v'.ownBlock = v.ownBlock ∨ ∃ g, v'.ownBlock = some g ∧ w.heap.size ≤ g := hr1
    exact ⟨rfl, v', _, HB1.out, HP1.out, ⟨ht1, hr2⟩, fun y hy h hz => h.snoc hy hz hr2⟩
end Go.Proofs.YtmdgdnkllclpcaaGreat
