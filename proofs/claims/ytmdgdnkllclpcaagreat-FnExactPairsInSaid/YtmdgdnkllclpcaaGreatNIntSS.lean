/- Rows of rows of ints: the laws' helpers. No condition but the sizes. -/
import Derived.Test.YtmdgdnkllclpcaaGreatGMof
import Derived.Test.YtmdgdnkllclpcaaGreatGPen
import Derived.Test.YtmdgdnkllclpcaaGreatGTFilter
import Derived.Deep.RegionHeld3
namespace Go.Proofs.YtmdgdnkllclpcaaGreat
open Go.RowKit
set_option linter.unusedVariables false
set_option linter.unusedSimpArgs false
theorem IntsEW.sl {w : World} {lo hi : Nat} {u : List Value} {d : List Int} (h : IntsEW w lo hi u d) : ∃ ao cap, u = [.slice ao d.length cap] ∧ IntsW w lo hi (.slice ao d.length cap) d := by
  obtain ⟨v, rfl, h⟩ := h
  obtain ⟨a, c, rfl⟩ := owns_val h.1
  exact ⟨a, c, rfl, h⟩
theorem IntsEW.ab {w w' : World} {lo hi : Nat} {u : List Value} {d : List Int} (h : IntsEW w lo hi u d) (s : Ab lo w w') : IntsEW w' lo hi u d := by obtain ⟨x, h1, h2⟩ := h; exact ⟨x, h1, OwW.ab h2 s⟩
theorem IntSSW.span {w w' : World} {lo hi : Nat} {v : Value} {xs : List (List Int)} (h : IntSSW w lo hi v xs) {a b : Nat} (s : Span a b w w') (hd : hi ≤ a ∨ b ≤ lo) : IntSSW w' lo hi v xs := NestP.span (E := IntsEW) (fun a b c => IntsEW.span a b c) h s hd
theorem IntSSW.ab {w w' : World} {lo hi : Nat} {v : Value} {xs : List (List Int)} (h : IntSSW w lo hi v xs) (s : Ab lo w w') : IntSSW w' lo hi v xs := NestP.ab (E := IntsEW) (fun a b => IntsEW.ab a b) h s
theorem IntSSW.val {w : World} {lo hi : Nat} {v : Value} {xs : List (List Int)} (h : IntSSW w lo hi v xs) : ∃ ao cap, v = .slice ao xs.length cap := NestW.val h
set_option maxHeartbeats 1000000 in
theorem eqIntSS_same (a b : Value) (xs : List (List Int)) (w : World) (ha : IntSSR w a xs) (hb : IntSSR w b xs) :
    Calls Tryz.prog 17 #[a, b] w fun e w' => e = .returned (.bool true) ∧ Fr w w' := by
  obtain ⟨ao, ba, oa, ca, rfl, hca, hma, fa⟩ := ha.one
  obtain ⟨bo, bb, ob, cb, rfl, hcb, hmb, fb⟩ := hb.one
  clear ha hb
  go_enter Tryz.func17, Tryz.ntmps17
  go_wp2
  go_loopw [5] (fun i wr => ∃ k : Nat, k ≤ xs.length ∧ i = .int .i64 k ∧ Fr w wr) (fun i _ => xs.length - (intOf i).toNat)
  case atStart => exact ⟨0, Nat.zero_le _, rfl, Fr.refl _⟩
  case round =>
    obtain ⟨k, hk, rfl, hfr⟩ := hrel
    by_cases hlt : k < xs.length
    · obtain ⟨rfl, hba, fa⟩ := fa (by omega)
      obtain ⟨rfl, hbb, fb⟩ := fb (by omega)
      obtain ⟨ac, ra, ga⟩ := fa k hlt
      obtain ⟨ae, rb, gb⟩ := fb k hlt
      obtain ⟨x, hx⟩ : ∃ x, nAt xs k = x := ⟨_, rfl⟩
      have c0 : ∀ w', Sf wr w' → w'.cell? ⟨ba, oa + k, none⟩ = some (ac) := fun w' hf => ((hfr.trans hf.out).cell (p := ⟨ba, _, none⟩) hba).trans ga
      have e0 : ∀ w', Sf wr w' → w'.cell? ⟨bb, ob + k, none⟩ = some (ae) := fun w' hf => ((hfr.trans hf.out).cell (p := ⟨bb, _, none⟩) hbb).trans gb
      rw [hx] at ra rb
      have RA := Lib.hid (RdS.fr ra hfr)
      have RB := Lib.hid (RdS.fr rb hfr)
      obtain ⟨aoc, capc, rfl, _⟩ := RdS.val ra
      obtain ⟨aoe, cape, rfl, _⟩ := RdS.val rb
      clear fa fb hx ga gb ra rb
      go_wp2_with fail
      go_region_held3 (fun w' => Sf wr w') ((refine Sf.mk ?_; repeat (first | (with_reducible exact Fr.refl _) | (with_reducible assumption) | (with_reducible refine Fr.drewN ?_ _) | (with_reducible refine Fr.drew ?_) | (with_reducible refine Fr.alloc ?_ _) | (with_reducible refine Fr.setCell ?_ (by exact Qz) _) | (with_reducible refine Fr.trans ?_ (by with_reducible assumption))))) (first | (go_at_call 50; refine (eqIntS_same _ _ x _ (RdS.fr RA.out (by exact Qf)) (RdS.fr RB.out (by exact Qf))).mono ?_; rintro e w2 ⟨rfl, hf1⟩))
      go_wp2_with fail
      go_roundw
      case rel => exact ⟨k + 1, by omega, by go_num, by exact Qf⟩
      case measure => (simp [intOf]; omega)
    · clear fa fb
      go_wp2
      go_ret
      exact ⟨rfl, hfr⟩
def mkIntSSs : Int → List (List Int) → List (List Int)
  | _, [] => []
  | k, d :: ds => mkInts k d.length :: mkIntSSs (k + (d.length : Int)) ds
theorem mkIntSSs_length : ∀ (k : Int) (ds : List (List Int)), (mkIntSSs k ds).length = ds.length
  | _, [] => rfl
  | k, d :: ds => by rw [mkIntSSs, List.length_cons, List.length_cons, mkIntSSs_length]
def IntSSCnt (ds : List (List Int)) : Nat := (ds.map List.length).sum
theorem IntSSCnt_cons (d : List Int) (ds : List (List Int)) : IntSSCnt (d :: ds) = d.length + IntSSCnt ds := by simp [IntSSCnt]
theorem Ints_drop {xs : List (List Int)} {k : Nat} (h : k < xs.length) : xs.drop k = nAt xs k :: xs.drop (k + 1) := by
  rw [List.drop_eq_getElem_cons h]
  simp [nAt, List.getD, List.getElem?_eq_getElem h]
set_option maxHeartbeats 2000000 in
set_option maxRecDepth 100000 in
theorem markIntSS_w (v : Value) (xs : List (List Int)) (k : Int) (lo hi : Nat) (w : World) (ha : IntSSW w lo hi v xs) (h0 : 0 < k) (h1 : k + (IntSSCnt xs : Int) ≤ 1073741824) :
    Calls Tryz.prog 22 #[v, .int .i64 k] w fun e w' => e = .returned (.int .i64 (k + (IntSSCnt xs : Int))) ∧ IntSSW w' lo hi v (mkIntSSs k xs) ∧ Span lo hi w w' := by
  obtain ⟨ao, cap, rfl⟩ := ha.val
  have hxl : xs.length ≤ 9223372036854775807 := (IntSSW.rd ha).le
  have HA := Lib.hid ha
  clear ha
  go_enter Tryz.func22, Tryz.ntmps22
  go_wp2
  go_loopw [1, 5] (fun l i wr => ∃ (m : Nat) (Dn : List (List Int)) (kk : Int), m ≤ xs.length ∧ i = .int .i64 m ∧ l = .int .i64 kk ∧ Dn.length = m ∧ Hid (Dn ++ mkIntSSs kk (xs.drop m) = mkIntSSs k xs) ∧ kk + (IntSSCnt (xs.drop m) : Int) = k + (IntSSCnt xs : Int) ∧ 0 < kk ∧ Hid (IntSSW wr lo hi (.slice ao xs.length cap) (Dn ++ xs.drop m)) ∧ Span lo hi w wr) (fun _ i _ => xs.length - (intOf i).toNat)
  case atStart => exact ⟨0, [], k, Nat.zero_le _, rfl, rfl, rfl, Lib.hid rfl, rfl, h0, Lib.hid HA.out, Span.refl _ _ _⟩
  case round =>
    clear HA
    obtain ⟨m, Dn, kk, hm, rfl, rfl, hdl, hd, hcn, hk0, HW, hsp⟩ := hrel
    by_cases hlt : m < xs.length
    · rw [Ints_drop hlt] at hd hcn HW
      rw [mkIntSSs] at hd
      rw [IntSSCnt_cons] at hcn
      have hdr : (xs.drop (m + 1)).length = xs.length - (m + 1) := List.length_drop
      generalize nAt xs m = x at hd hcn HW
      have HW0 : IntSSW wr lo hi (.slice ao xs.length cap) (Dn ++ x :: xs.drop (m + 1)) := HW.out
      obtain ⟨g0, cp0, hv0, ga0, gb0, gc0, u0, l0, h0, ul0, ue0, ub0, uc0, ud0, uf0, ug0, uh0⟩ := NestW.turn (E := IntsEW) (fun a b c => IntsEW.span a b c) HW0 (k := m) (by simp; omega) (by omega)
      rw [show (Dn ++ x :: xs.drop (m + 1)).length = xs.length by simp; omega] at hv0
      cases hv0
      rw [mid_at _ _ m _ (by omega)] at ue0
      obtain ⟨aow0, capw0, rfl, hr0⟩ := IntsEW.sl ue0
      have c1 : wr.cell? ⟨g0, m, none⟩ = some (.slice aow0 x.length capw0) := by have := (uf0 0 _ (by omega) rfl).1; simpa using this
      have HU1 := Lib.hid uh0
      have HR1 := Lib.hid hr0
      clear uf0 ug0 uh0 hr0 ue0
      go_wp2_with (go_at_call 51; refine (markIntS_w _ x kk l0 h0 _ HR1.out (by omega) (by omega)).mono ?_; rintro e w1 ⟨rfl, om, spw⟩; have zw := spw.size)
      have n1 := HU1.out w1 (mkInts kk x.length) spw ⟨_, rfl, by unfold IntsW at om; simpa [mkInts_length] using om⟩
      rw [set_mid'' _ _ m _ _ (by omega)] at n1
      have sp1 : Span lo hi w w1 := hsp.trans (Span.wide spw ub0 uc0)
      have NQ1 := Lib.hid n1
      clear n1
      go_wp2_with fail
      go_roundw
      case rel => exact ⟨m + 1, Dn ++ [mkInts kk x.length], kk + (x.length : Int), by omega, by go_num, by go_num, by simp [hdl], by have := hd.out; rw [List.append_assoc]; exact this, by omega, by omega, by have := NQ1.out; rw [List.append_assoc]; exact this, sp1⟩
      case measure => (simp [intOf]; omega)
    · obtain rfl : m = xs.length := by omega
      rw [List.drop_length] at hd hcn HW
      simp only [mkIntSSs, List.append_nil, IntSSCnt, List.map_nil, List.sum_nil] at hd hcn HW
      go_wp2
      go_ret
      exact ⟨ret_int (by unfold IntSSCnt; omega), by have h := HW.out; rw [hd.out] at h; unfold IntSSW at h ⊢; exact h, hsp⟩
set_option maxHeartbeats 2000000 in
set_option maxRecDepth 100000 in
theorem heldIntSS_w (v : Value) (xs : List (List Int)) (k : Int) (w : World) (ha : IntSSR w v (mkIntSSs k xs)) (h0 : 0 < k) (h1 : k + (IntSSCnt xs : Int) ≤ 1073741824) :
    Calls Tryz.prog 23 #[v, .int .i64 k] w fun e w' => e = .returned (.int .i64 (k + (IntSSCnt xs : Int))) ∧ Fr w w' := by
  obtain ⟨ao, ba, oa, ca, rfl, hca, hma, fa⟩ := ha.one
  clear ha
  rw [mkIntSSs_length] at hca fa ⊢
  have FA := Lib.hid fa
  clear fa
  go_enter Tryz.func23, Tryz.ntmps23
  go_wp2
  go_loopw [1, 5] (fun l i wr => ∃ (m : Nat) (kk : Int), m ≤ xs.length ∧ i = .int .i64 m ∧ l = .int .i64 kk ∧ Hid ((mkIntSSs k xs).drop m = mkIntSSs kk (xs.drop m)) ∧ kk + (IntSSCnt (xs.drop m) : Int) = k + (IntSSCnt xs : Int) ∧ 0 < kk ∧ Fr w wr) (fun _ i _ => xs.length - (intOf i).toNat)
  case atStart => exact ⟨0, k, Nat.zero_le _, rfl, rfl, Lib.hid rfl, rfl, h0, Fr.refl _⟩
  case round =>
    obtain ⟨m, kk, hm, rfl, rfl, hd, hcn, hk0, hfr⟩ := hrel
    by_cases hlt : m < xs.length
    · obtain ⟨rfl, hba, fa⟩ := FA.out (by omega)
      obtain ⟨a, ra, c0⟩ := fa m hlt
      have hml : m < (mkIntSSs k xs).length := by rw [mkIntSSs_length]; exact hlt
      have hd2 := hd.out
      rw [Ints_drop hml, Ints_drop hlt, mkIntSSs] at hd2
      injection hd2 with hd3 hd4
      simp only [hd3] at ra c0
      rw [Ints_drop hlt, IntSSCnt_cons] at hcn
      clear fa hd hd3
      have hd := Lib.hid hd4
      clear hd4
      generalize nAt xs m = x at ra hd hcn
      have HR := Lib.hid (RdS.fr ra hfr)
      obtain ⟨aor, capr, rfl, _⟩ := RdS.val ra
      clear ra
      have d0 := (hfr.cell (p := ⟨ba, _, none⟩) hba).trans c0
      clear c0
      go_wp2_with (go_at_call 79; refine (heldIntS_w _ kk x.length _ (RdS.fr HR.out (by exact Qf)) (by omega) (by omega)).mono ?_; rintro e w1 ⟨rfl, hf1⟩)
      go_roundw
      case rel => exact ⟨m + 1, kk + (x.length : Int), by omega, by go_num, by go_num, hd, by omega, by omega, by exact Qf⟩
      case measure => (simp [intOf]; omega)
    · obtain rfl : m = xs.length := by omega
      rw [List.drop_length] at hcn
      simp only [IntSSCnt, List.map_nil, List.sum_nil] at hcn
      go_wp2
      go_ret
      exact ⟨ret_int (by unfold IntSSCnt; omega), hfr⟩
theorem IntSSCnt_two {ds : List (List Int)} (h : ∀ d ∈ ds, d.length = 2) : IntSSCnt ds = 2 * ds.length := by
  induction ds with
  | nil => rfl
  | cons d ds ih =>
    rw [IntSSCnt_cons, ih fun x hx => h x (by simp [hx]), h d (by simp), List.length_cons]
    omega
end Go.Proofs.YtmdgdnkllclpcaaGreat
