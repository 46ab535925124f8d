/- Slices of impl.Parcel: what they read as; the laws' helpers. (Printed by mk_nest.py.) No condition but the sizes that the reading gives. -/
import Derived.Test.YtphjlecbhbcbcaaNest
import Derived.Test.YtphjlecbhbcbcaaOParcel
import Derived.Test.YtphjlecbhbcbcaaNest2
import Derived.Deep.QuietTactic
import Derived.BigQuiet
import Derived.Deep.RegionHeld3
namespace Go.Proofs.Ytphjlecbhbcbcaa
open Go.RowKit
set_option linter.unusedVariables false
set_option linter.unusedSimpArgs false

instance : Inhabited ParcelD := ⟨⟨0, []⟩⟩
def ParcelE (w : World) (u : List Value) (d : ParcelD) : Prop := ∃ a, u = [.int .i64 d.f0, a] ∧ WalksR w a d.f1
def ParcelEW (w : World) (lo hi : Nat) (u : List Value) (d : ParcelD) : Prop := ∃ ao cap, u = [.int .i64 d.f0, .slice ao d.f1.length cap] ∧ WalksW w lo hi (.slice ao d.f1.length cap) d.f1
theorem ParcelE.fr {w w' : World} {u : List Value} {d : ParcelD} (h : ParcelE w u d) (hf : Fr w w') : ParcelE w' u d := by obtain ⟨a, h1, h2⟩ := h; exact ⟨a, h1, h2.fr hf⟩
theorem ParcelEW.span {w w' : World} {lo hi : Nat} {u : List Value} {d : ParcelD} {a b : Nat} (h : ParcelEW w lo hi u d) (s : Span a b w w') (hd : hi ≤ a ∨ b ≤ lo) : ParcelEW w' lo hi u d := by obtain ⟨x, y, h1, h2⟩ := h; exact ⟨x, y, h1, h2.span s hd⟩
theorem ParcelEW.ab {w w' : World} {lo hi : Nat} {u : List Value} {d : ParcelD} (h : ParcelEW w lo hi u d) (s : Ab lo w w') : ParcelEW w' lo hi u d := by obtain ⟨x, y, h1, h2⟩ := h; exact ⟨x, y, h1, OwW.ab h2 s⟩
theorem ParcelEW.rd {w : World} {lo hi : Nat} {u : List Value} {d : ParcelD} (h : ParcelEW w lo hi u d) : ParcelE w u d := by obtain ⟨x, y, h1, h2⟩ := h; exact ⟨_, h1, h2.rd⟩
def ParcelSR (w : World) (v : Value) (xs : List (ParcelD)) : Prop := NestR ParcelE 2 w v xs
def ParcelSW (w : World) (lo hi : Nat) (v : Value) (xs : List (ParcelD)) : Prop := NestW ParcelEW 102 2 w lo hi v xs
theorem ParcelSR.fr {w w' : World} {v : Value} {xs : List (ParcelD)} (h : ParcelSR w v xs) (hf : Fr w w') : ParcelSR w' v xs := NestR.fr (E := ParcelE) (fun a b => ParcelE.fr a b) h hf
theorem ParcelSW.fr {w w' : World} {lo hi : Nat} {v : Value} {xs : List (ParcelD)} (h : ParcelSW w lo hi v xs) (hf : Fr w w') : ParcelSW w' lo hi v xs := NestP.fr (E := ParcelEW) (fun a b c => ParcelEW.span a b c) h hf
theorem ParcelSW.span {w w' : World} {lo hi : Nat} {v : Value} {xs : List (ParcelD)} (h : ParcelSW w lo hi v xs) {a b : Nat} (s : Span a b w w') (hd : hi ≤ a ∨ b ≤ lo) : ParcelSW w' lo hi v xs := NestP.span (E := ParcelEW) (fun a b c => ParcelEW.span a b c) h s hd
theorem ParcelSW.ab {w w' : World} {lo hi : Nat} {v : Value} {xs : List (ParcelD)} (h : ParcelSW w lo hi v xs) (s : Ab lo w w') : ParcelSW w' lo hi v xs := NestP.ab (E := ParcelEW) (fun a b => ParcelEW.ab a b) h s
theorem ParcelSW.rd {w : World} {lo hi : Nat} {v : Value} {xs : List (ParcelD)} (h : ParcelSW w lo hi v xs) : ParcelSR w v xs := NestP.rd (E := ParcelEW) (E' := ParcelE) (fun a => ParcelEW.rd a) h
theorem ParcelSW.val {w : World} {lo hi : Nat} {v : Value} {xs : List (ParcelD)} (h : ParcelSW w lo hi v xs) : ∃ ao cap, v = .slice ao xs.length cap := NestW.val h
theorem ParcelSR.one {w : World} {v : Value} {xs : List (ParcelD)} (h : ParcelSR w v xs) :
    ∃ ao b o cap, v = .slice ao xs.length cap ∧ xs.length ≤ cap ∧ cap ≤ 9223372036854775807 ∧ (0 < xs.length → ao = some ⟨b, o, none⟩ ∧ b < w.heap.size ∧ ∀ k, k < xs.length → ∃ a, WalksR w a (nAt xs k).f1 ∧ w.cell? ⟨b, o + k * 2, none⟩ = some (.int .i64 (nAt xs k).f0) ∧ w.cell? ⟨b, o + k * 2 + 1, none⟩ = some (a)) := by
  obtain ⟨ao, b, o, cap, h1, h2, h3, h4⟩ := NestR.one h
  refine ⟨ao, b, o, cap, h1, h2, h3, fun hn => ⟨(h4 hn).1, (h4 hn).2.1, fun k hk => ?_⟩⟩
  obtain ⟨u, _, ⟨a, hu, ha⟩, hc⟩ := (h4 hn).2.2 k hk
  rw [hu] at hc
  exact ⟨a, ha, by simpa using hc 0 _ (by omega) rfl, by simpa using hc 1 _ (by omega) rfl⟩
theorem info_Parcel : (Try.prog.info? 102).map (fun i => (i.zero, i.size, i.bytes)) = some (some (.agg #[.int .i64 0, .slice none 0 0]), 2, 32) := by kernel_rfl
def ParcelSBulk (xs : List (ParcelD)) : Nat := nBulk ParcelD.bulk xs
def ParcelSOk (xs : List (ParcelD)) : Prop := ∀ x ∈ xs, ParcelD.okSize x
set_option maxHeartbeats 1000000 in
theorem eqParcelS_same (a b : Value) (xs : List (ParcelD)) (w : World) (ha : ParcelSR w a xs) (hb : ParcelSR w b xs) :
    Calls Try.prog 18 #[a, b] w fun e w' => e = .returned (.bool true) ∧ Fr w w' := by
  obtain ⟨ao, ba, oa, ca, rfl, hca, hma, fa⟩ := ha.one
  obtain ⟨bo, bb, ob, cb, rfl, hcb, hmb, fb⟩ := hb.one
  clear ha hb
  go_enter Try.func18, Try.ntmps18
  go_wp2
  go_loopw [5] (fun i wr => ∃ k : Nat, k ≤ xs.length ∧ i = .int .i64 k ∧ Fr w wr) (fun i _ => xs.length - (intOf i).toNat)
  case atStart => exact ⟨0, Nat.zero_le _, rfl, Fr.refl _⟩
  case round =>
    obtain ⟨k, hk, rfl, hfr⟩ := hrel
    by_cases hlt : k < xs.length
    · obtain ⟨rfl, hba, fa⟩ := fa (by omega)
      obtain ⟨rfl, hbb, fb⟩ := fb (by omega)
      obtain ⟨ac, ra, ga⟩ := fa k hlt
      obtain ⟨ae, rb, gb⟩ := fb k hlt
      obtain ⟨x, hx⟩ : ∃ x, nAt xs k = x := ⟨_, rfl⟩
      have c0 : ∀ w', Sf wr w' → w'.cell? ⟨ba, oa + k * 2, none⟩ = some (.int .i64 x.f0) := fun w' hf => ((hfr.trans hf.out).cell (p := ⟨ba, _, none⟩) hba).trans (by first | exact ga.1 | (rw [← hx]; exact ga.1))
      have c1 : ∀ w', Sf wr w' → w'.cell? ⟨ba, oa + k * 2 + 1, none⟩ = some (ac) := fun w' hf => ((hfr.trans hf.out).cell (p := ⟨ba, _, none⟩) hba).trans (by first | exact ga.2 | (rw [← hx]; exact ga.2))
      have e0 : ∀ w', Sf wr w' → w'.cell? ⟨bb, ob + k * 2, none⟩ = some (.int .i64 x.f0) := fun w' hf => ((hfr.trans hf.out).cell (p := ⟨bb, _, none⟩) hbb).trans (by first | exact gb.1 | (rw [← hx]; exact gb.1))
      have e1 : ∀ w', Sf wr w' → w'.cell? ⟨bb, ob + k * 2 + 1, none⟩ = some (ae) := fun w' hf => ((hfr.trans hf.out).cell (p := ⟨bb, _, none⟩) hbb).trans (by first | exact gb.2 | (rw [← hx]; exact gb.2))
      rw [hx] at ra rb
      have RA := Lib.hid (RdS.fr ra hfr)
      have RB := Lib.hid (RdS.fr rb hfr)
      obtain ⟨aoc, capc, rfl, _⟩ := RdS.val ra
      obtain ⟨aoe, cape, rfl, _⟩ := RdS.val rb
      clear fa fb hx ga gb ra rb
      go_wp2_with fail
      go_region_held3 (fun w' => Sf wr w') ((refine Sf.mk ?_; repeat (first | (with_reducible exact Fr.refl _) | (with_reducible assumption) | (with_reducible refine Fr.drewN ?_ _) | (with_reducible refine Fr.drew ?_) | (with_reducible refine Fr.alloc ?_ _) | (with_reducible refine Fr.setCell ?_ (by (first | (with_reducible assumption) | omega | (simp only [World.size_alloc, World.size_setCell, World.size_drew, World.heap_drewN]; omega) | (simp; done) | (simp; omega))) _) | (with_reducible refine Fr.trans ?_ (by with_reducible assumption))))) (first | (go_at_call 81; refine (eqParcel_same _ _ x _ ⟨_, rfl, (RdS.fr RA.out (by repeat (first | (with_reducible exact Fr.refl _) | (with_reducible assumption) | (with_reducible refine Fr.drewN ?_ _) | (with_reducible refine Fr.drew ?_) | (with_reducible refine Fr.alloc ?_ _) | (with_reducible refine Fr.setCell ?_ (by (first | (with_reducible assumption) | omega | (simp only [World.size_alloc, World.size_setCell, World.size_drew, World.heap_drewN]; omega) | (simp; done) | (simp; omega))) _) | (with_reducible refine Fr.trans ?_ (by with_reducible assumption)))))⟩ ⟨_, rfl, (RdS.fr RB.out (by repeat (first | (with_reducible exact Fr.refl _) | (with_reducible assumption) | (with_reducible refine Fr.drewN ?_ _) | (with_reducible refine Fr.drew ?_) | (with_reducible refine Fr.alloc ?_ _) | (with_reducible refine Fr.setCell ?_ (by (first | (with_reducible assumption) | omega | (simp only [World.size_alloc, World.size_setCell, World.size_drew, World.heap_drewN]; omega) | (simp; done) | (simp; omega))) _) | (with_reducible refine Fr.trans ?_ (by with_reducible assumption)))))⟩).mono ?_; rintro e w2 ⟨rfl, hf1⟩))
      go_wp2_with fail
      go_roundw
      case rel => exact ⟨k + 1, by omega, by go_num, by repeat (first | (with_reducible exact Fr.refl _) | (with_reducible assumption) | (with_reducible refine Fr.drewN ?_ _) | (with_reducible refine Fr.drew ?_) | (with_reducible refine Fr.alloc ?_ _) | (with_reducible refine Fr.setCell ?_ (by (first | (with_reducible assumption) | omega | (simp only [World.size_alloc, World.size_setCell, World.size_drew, World.heap_drewN]; omega) | (simp; done) | (simp; omega))) _) | (with_reducible refine Fr.trans ?_ (by with_reducible assumption)))⟩
      case measure => (simp [intOf]; omega)
    · clear fa fb
      go_wp2
      go_ret
      exact ⟨rfl, hfr⟩
def mkParcel (k : Int) (d : ParcelD) : ParcelD := ⟨(k), mkWalks (k + 1) d.f1.length⟩
def ParcelCnt1 (d : ParcelD) : Nat := 1 + 4 * d.f1.length
def mkParcelSs : Int → List ParcelD → List ParcelD
  | _, [] => []
  | k, d :: ds => mkParcel k d :: mkParcelSs (k + (ParcelCnt1 d : Int)) ds
theorem mkParcelSs_length : ∀ (k : Int) (ds : List ParcelD), (mkParcelSs k ds).length = ds.length
  | _, [] => rfl
  | k, d :: ds => by rw [mkParcelSs, List.length_cons, List.length_cons, mkParcelSs_length]
def ParcelSCnt (ds : List ParcelD) : Nat := (ds.map ParcelCnt1).sum
theorem ParcelSCnt_cons (d : ParcelD) (ds : List ParcelD) : ParcelSCnt (d :: ds) = ParcelCnt1 d + ParcelSCnt ds := by simp [ParcelSCnt]
theorem ParcelSCnt_ge (ds : List ParcelD) : ds.length ≤ ParcelSCnt ds := by
  induction ds with
  | nil => simp [ParcelSCnt]
  | cons d ds ih => rw [ParcelSCnt_cons, List.length_cons]; unfold ParcelCnt1; omega
theorem Parcel_drop {xs : List ParcelD} {k : Nat} (h : k < xs.length) : xs.drop k = nAt xs k :: xs.drop (k + 1) := by
  rw [List.drop_eq_getElem_cons h]
  simp [nAt, List.getD, List.getElem?_eq_getElem h]
theorem set_mid'' {α : Type} (A B : List α) (k : Nat) (x y : α) (hA : A.length = k) : (A ++ y :: B).set k x = A ++ x :: B := by
  rw [set_mid' A B k x y hA]; simp
theorem Span.setb' {lo hi q i : Nat} {a w : World} {v : Value} (h : Span lo hi a w) (h1 : lo ≤ q) (h2 : q < hi) : Span lo hi a (w.setCell ⟨q, i, none⟩ v) := h.trans (by
  refine ⟨rfl, rfl, rfl, by simp, fun k hk ho => ?_⟩
  exact heap_setCell_other w ⟨q, i, none⟩ k v (by show k ≠ q; omega))
theorem Span.wide {lo hi a b : Nat} {w w' : World} (h : Span a b w w') (h1 : lo ≤ a) (h2 : b ≤ hi) : Span lo hi w w' := ⟨h.os, h.tape, h.output, h.size, fun k hk ho => h.block k hk (by omega)⟩
set_option maxHeartbeats 2000000 in
set_option maxRecDepth 100000 in
theorem markParcelS_w (v : Value) (xs : List ParcelD) (k : Int) (lo hi : Nat) (w : World) (ha : ParcelSW w lo hi v xs) (h0 : 0 < k) (h1 : k + (ParcelSCnt xs : Int) ≤ 1073741824) :
    Calls Try.prog 21 #[v, .int .i64 k] w fun e w' => e = .returned (.int .i64 (k + (ParcelSCnt xs : Int))) ∧ ParcelSW w' lo hi v (mkParcelSs k xs) ∧ Span lo hi w w' := by
  obtain ⟨ao, cap, rfl⟩ := ha.val
  have hxl : xs.length ≤ 1073741824 := by have := ParcelSCnt_ge xs; omega
  have HA := Lib.hid ha
  clear ha
  go_enter Try.func21, Try.ntmps21
  go_wp2
  go_loopw [1, 5] (fun l i wr => ∃ (m : Nat) (Dn : List ParcelD) (kk : Int), m ≤ xs.length ∧ i = .int .i64 m ∧ l = .int .i64 kk ∧ Dn.length = m ∧ Hid (Dn ++ mkParcelSs kk (xs.drop m) = mkParcelSs k xs) ∧ kk + (ParcelSCnt (xs.drop m) : Int) = k + (ParcelSCnt xs : Int) ∧ 0 < kk ∧ Hid (ParcelSW wr lo hi (.slice ao xs.length cap) (Dn ++ xs.drop m)) ∧ Span lo hi w wr) (fun _ i _ => xs.length - (intOf i).toNat)
  case atStart => exact ⟨0, [], k, Nat.zero_le _, rfl, rfl, rfl, Lib.hid rfl, rfl, h0, Lib.hid HA.out, Span.refl _ _ _⟩
  case round =>
    clear HA
    obtain ⟨m, Dn, kk, hm, rfl, rfl, hdl, hd, hcn, hk0, HW, hsp⟩ := hrel
    by_cases hlt : m < xs.length
    · rw [Parcel_drop hlt] at hd hcn HW
      rw [mkParcelSs] at hd
      rw [ParcelSCnt_cons] at hcn
      have hdr : (xs.drop (m + 1)).length = xs.length - (m + 1) := List.length_drop
      generalize nAt xs m = x at hd hcn HW
      have hc1 : ParcelCnt1 x = 1 + 4 * x.f1.length := rfl
      rw [hc1] at hcn
      have HW0 : ParcelSW wr lo hi (.slice ao xs.length cap) (Dn ++ x :: xs.drop (m + 1)) := HW.out
      obtain ⟨g0, cp0, hv0, ga0, gb0, gc0, u0, l0, h0, ul0, ue0, ub0, uc0, ud0, uf0, ug0, uh0⟩ := NestW.turn (E := ParcelEW) (fun a b c => ParcelEW.span a b c) HW0 (k := m) (by simp; omega) (by omega)
      rw [show (Dn ++ x :: xs.drop (m + 1)).length = xs.length by simp; omega] at hv0
      cases hv0
      have HG := Lib.hid (show lo ≤ g0 ∧ g0 < hi from ⟨ga0, gb0⟩)
      rw [mid_at _ _ m _ (by omega)] at ue0
      obtain ⟨aow0, capw0, rfl, hr0⟩ := ue0
      have c0 : wr.cell? ⟨g0, m * 2, none⟩ = some (.int .i64 x.f0) := (uf0 0 _ (by omega) rfl).1
      have f0 : wr.frozen? ⟨g0, m * 2, none⟩ = false := (uf0 0 _ (by omega) rfl).2
      have n0 : ParcelSW (wr.setCell ⟨g0, m * 2, none⟩ (.int .i64 (kk))) lo hi (.slice (some ⟨g0, 0, none⟩) xs.length cap) ((Dn ++ ⟨x.f0, x.f1⟩ :: xs.drop (m + 1)).set m ⟨(kk), x.f1⟩) := ug0 0 (.int .i64 (kk)) ⟨(kk), x.f1⟩ (by omega) ⟨aow0, capw0, rfl, hr0⟩
      rw [set_mid'' _ _ m _ _ (by omega)] at n0
      have sp0 : Span lo hi w (wr.setCell ⟨g0, m * 2, none⟩ (.int .i64 (kk))) := hsp.setb' HG.out.1 HG.out.2
      have NQ0 := Lib.hid n0
      clear n0 uf0 ug0 uh0 hr0
      obtain ⟨g1, cp1, hv1, ga1, gb1, gc1, u1, l1, h1, ul1, ue1, ub1, uc1, ud1, uf1, ug1, uh1⟩ := NestW.turn (E := ParcelEW) (fun a b c => ParcelEW.span a b c) NQ0.out (k := m) (by simp; omega) (by omega)
      rw [show (Dn ++ ⟨(kk), x.f1⟩ :: xs.drop (m + 1)).length = xs.length by simp; omega] at hv1
      cases hv1
      rw [mid_at _ _ m _ (by omega)] at ue1
      obtain ⟨aow1, capw1, rfl, hr1⟩ := ue1
      have c1 : (wr.setCell ⟨g0, m * 2, none⟩ (.int .i64 (kk))).cell? ⟨g0, m * 2 + 1, none⟩ = some (.slice aow1 x.f1.length capw1) := (uf1 1 _ (by omega) rfl).1
      have HU1 := Lib.hid uh1
      have HR1 := Lib.hid hr1
      clear uf1 ug1 uh1 hr1
      go_wp2_with (go_at_call 20; refine (markWalkS_w _ x.f1 (kk + 1) l1 h1 _ HR1.out (by omega) (by omega)).mono ?_; rintro e w1 ⟨rfl, om, spw⟩; have zw := spw.size; (try simp only [World.size_setCell] at zw))
      have n1 := HU1.out w1 ⟨(kk), mkWalks (kk + 1) x.f1.length⟩ spw ⟨aow1, capw1, by simp [mkWalks_length], by simpa [mkWalks_length] using om⟩
      rw [set_mid'' _ _ m _ _ (by omega)] at n1
      have sp1 : Span lo hi w w1 := sp0.trans (Span.wide spw ub1 uc1)
      have NQ1 := Lib.hid n1
      clear n1
      go_wp2_with fail
      go_roundw
      case rel => exact ⟨m + 1, Dn ++ [⟨(kk), mkWalks (kk + 1) x.f1.length⟩], kk + (ParcelCnt1 x : Int), by omega, by go_num, by rw [hc1]; go_num, by simp [hdl], by have := hd.out; rw [List.append_assoc]; exact this, by rw [hc1]; omega, by rw [hc1]; omega, by have := NQ1.out; rw [List.append_assoc]; exact this, sp1⟩
      case measure => (simp [intOf]; omega)
    · obtain rfl : m = xs.length := by omega
      rw [List.drop_length] at hd hcn HW
      simp only [mkParcelSs, List.append_nil, ParcelSCnt, List.map_nil, List.sum_nil] at hd hcn HW
      go_wp2
      go_ret
      exact ⟨ret_int (by unfold ParcelSCnt; omega), by have h := HW.out; rw [hd.out] at h; unfold ParcelSW at h ⊢; exact h, hsp⟩
set_option maxHeartbeats 2000000 in
set_option maxRecDepth 100000 in
theorem heldParcelS_w (v : Value) (xs : List ParcelD) (k : Int) (w : World) (ha : ParcelSR w v (mkParcelSs k xs)) (h0 : 0 < k) (h1 : k + (ParcelSCnt xs : Int) ≤ 1073741824) :
    Calls Try.prog 22 #[v, .int .i64 k] w fun e w' => e = .returned (.int .i64 (k + (ParcelSCnt xs : Int))) ∧ Fr w w' := by
  have hxl : xs.length ≤ 1073741824 := by have := ParcelSCnt_ge xs; omega
  obtain ⟨ao, ba, oa, ca, rfl, hca, hma, fa⟩ := ha.one
  clear ha
  rw [mkParcelSs_length] at hca fa ⊢
  have FA := Lib.hid fa
  clear fa
  go_enter Try.func22, Try.ntmps22
  go_wp2
  go_loopw [1, 5] (fun l i wr => ∃ (m : Nat) (kk : Int), m ≤ xs.length ∧ i = .int .i64 m ∧ l = .int .i64 kk ∧ Hid ((mkParcelSs k xs).drop m = mkParcelSs kk (xs.drop m)) ∧ kk + (ParcelSCnt (xs.drop m) : Int) = k + (ParcelSCnt xs : Int) ∧ 0 < kk ∧ Fr w wr) (fun _ i _ => xs.length - (intOf i).toNat)
  case atStart => exact ⟨0, k, Nat.zero_le _, rfl, rfl, Lib.hid rfl, rfl, h0, Fr.refl _⟩
  case round =>
    obtain ⟨m, kk, hm, rfl, rfl, hd, hcn, hk0, hfr⟩ := hrel
    by_cases hlt : m < xs.length
    · obtain ⟨rfl, hba, fa⟩ := FA.out (by omega)
      obtain ⟨a, ra, c0, c1⟩ := fa m hlt
      have hml : m < (mkParcelSs k xs).length := by rw [mkParcelSs_length]; exact hlt
      have hd2 := hd.out
      rw [Parcel_drop hml, Parcel_drop hlt, mkParcelSs] at hd2
      injection hd2 with hd3 hd4
      simp only [hd3] at ra c0 c1
      rw [Parcel_drop hlt, ParcelSCnt_cons] at hcn
      clear fa hd hd3
      have hd := Lib.hid hd4
      clear hd4
      generalize nAt xs m = x at ra hd hcn c0 c1
      have hc1 : ParcelCnt1 x = 1 + 4 * x.f1.length := rfl
      rw [hc1] at hcn
      simp only [mkParcel] at ra c0 c1
      have HR := Lib.hid (RdS.fr ra hfr)
      obtain ⟨aor, capr, rfl, _⟩ := RdS.val ra
      clear ra
      have d0 := (hfr.cell (p := ⟨ba, _, none⟩) hba).trans c0
      have d1 := (hfr.cell (p := ⟨ba, _, none⟩) hba).trans c1
      clear c0 c1
      go_wp2_with (go_at_call 83; refine (heldWalkS_w _ (kk + 1) x.f1.length _ (RdS.fr HR.out (by repeat (first | (with_reducible exact Fr.refl _) | (with_reducible assumption) | (with_reducible refine Fr.drewN ?_ _) | (with_reducible refine Fr.drew ?_) | (with_reducible refine Fr.alloc ?_ _) | (with_reducible refine Fr.setCell ?_ (by (first | (with_reducible assumption) | omega | (simp only [World.size_alloc, World.size_setCell, World.size_drew, World.heap_drewN]; omega) | (simp; done) | (simp; omega))) _) | (with_reducible refine Fr.trans ?_ (by with_reducible assumption))))) (by omega) (by omega)).mono ?_; rintro e w1 ⟨rfl, hf1⟩)
      go_roundw
      case rel => exact ⟨m + 1, kk + (ParcelCnt1 x : Int), by omega, by go_num, by rw [hc1]; go_num, hd, by rw [hc1]; omega, by rw [hc1]; omega, by repeat (first | (with_reducible exact Fr.refl _) | (with_reducible assumption) | (with_reducible refine Fr.drewN ?_ _) | (with_reducible refine Fr.drew ?_) | (with_reducible refine Fr.alloc ?_ _) | (with_reducible refine Fr.setCell ?_ (by (first | (with_reducible assumption) | omega | (simp only [World.size_alloc, World.size_setCell, World.size_drew, World.heap_drewN]; omega) | (simp; done) | (simp; omega))) _) | (with_reducible refine Fr.trans ?_ (by with_reducible assumption)))⟩
      case measure => (simp [intOf]; omega)
    · obtain rfl : m = xs.length := by omega
      rw [List.drop_length] at hcn
      simp only [ParcelSCnt, List.map_nil, List.sum_nil] at hcn
      go_wp2
      go_ret
      exact ⟨ret_int (by unfold ParcelSCnt; omega), hfr⟩
end Go.Proofs.Ytphjlecbhbcbcaa
