/- spec.BagText. No condition. -/
import Derived.Test.YtphjlecbhbcbcaaBagOk
namespace Go.Proofs.Ytphjlecbhbcbcaa
open Go.RowKit
set_option linter.unusedVariables false
set_option linter.unusedSimpArgs false
theorem bytes_append (s t : ByteArray) : (s ++ t).data.toList = s.data.toList ++ t.data.toList := by simp
def bagS (xs : List ItemD) : ByteArray := if bagB xs = true then ⟨(bagT xs).toArray⟩ else ⟨#[]⟩
theorem itm_take {xs : List ItemD} {k : Nat} (h : k < xs.length) {x : ItemD} (hx : itmAt xs k = x) : (xs.take (k + 1)).flatMap itemT = (xs.take k).flatMap itemT ++ itemT x := by
  subst hx
  rw [List.take_succ_eq_append_getElem h, List.flatMap_append]
  simp [itmAt, List.getD, List.getElem?_eq_getElem h]
theorem rowT_take {l : List Int} {k : Nat} (h : k < l.length) {x : Int} (hx : iAt l k = x) : rowT (l.take (k + 1)) = rowT (l.take k) ++ varL x.toNat := by
  subst hx
  unfold rowT
  rw [List.take_succ_eq_append_getElem h, List.flatMap_append]
  simp [iAt, List.getD, List.getElem?_eq_getElem h]
theorem vText_list (n : Int) : (vText n).data.toList = varL n.toNat := by simp [vText]
theorem vText_sz {n : Int} (h : n < 1099511627776) : (vText n).size ≤ 6 := by rw [vText_size]; exact varL_len40 _ (by omega)
theorem app_size (s t : ByteArray) : (s ++ t).size = s.size + t.size := by simp
theorem itemB_row4 {x : ItemD} (h : itemB x = true) : x.f0.length ≤ 4 ∧ (∀ j, j < x.f0.length → 0 ≤ iAt x.f0 j ∧ iAt x.f0 j ≤ 99) ∧ 1 ≤ x.f1 ∧ x.f1 ≤ 1000000 := by
  unfold itemB rowB at h
  simp only [Bool.and_eq_true, decide_eq_true_eq, List.all_eq_true] at h
  refine ⟨h.1.1, fun j hj => ?_, h.2⟩
  have := h.1.2 x.f0[j] (List.getElem_mem hj)
  simpa [iAt, List.getD, List.getElem?_eq_getElem hj] using this
set_option maxHeartbeats 2000000 in
set_option maxRecDepth 100000 in
theorem specBagText_any (v : Value) (xs : List ItemD) (w : World) (hv : ItemSR w v xs) :
    Calls Try.prog 140 #[.agg #[v]] w fun e w' => e = .returned (.tuple #[.string (bagS xs), .bool (bagB xs)]) ∧ Fr w w' := by
  have hv' := Lib.hid hv
  obtain ⟨ao, ba, oa, ca, rfl, hca, hma, fa⟩ := hv.one
  have FA := Lib.hid fa
  clear hv fa
  cases hb : bagB xs
  · have HS : Hid (bagS xs = ⟨#[]⟩) := Lib.hid (if_neg (by simp [hb]))
    have C1 : Hid (∀ w', Fr w w' → Calls Try.prog 171 #[.agg #[.slice ao xs.length ca]] w' fun e w'' => e = .returned (.bool false) ∧ Fr w' w'') := Lib.hid fun w' hf => by rw [← hb]; exact specBagOk_any _ _ _ (hv'.out.fr hf)
    clear hb
    go_enter Try.func140, Try.ntmps140
    go_wp2_with (go_at_call 171; refine (C1.out _ (by repeat (first | (with_reducible exact Fr.refl _) | (with_reducible assumption) | (with_reducible refine Fr.drewN ?_ _) | (with_reducible refine Fr.drew ?_) | (with_reducible refine Fr.alloc ?_ _) | (with_reducible refine Fr.setCell ?_ (by (first | (with_reducible assumption) | omega | (simp only [World.size_alloc, World.size_setCell, World.size_drew, World.heap_drewN]; omega) | (simp; done) | (simp; omega))) _) | (with_reducible refine Fr.trans ?_ (by with_reducible assumption))))).mono ?_; rintro e w1 ⟨rfl, hf1⟩)
    go_ret2
    exact ⟨by rw [HS.out]; rfl, by repeat (first | (with_reducible exact Fr.refl _) | (with_reducible assumption) | (with_reducible refine Fr.drewN ?_ _) | (with_reducible refine Fr.drew ?_) | (with_reducible refine Fr.alloc ?_ _) | (with_reducible refine Fr.setCell ?_ (by (first | (with_reducible assumption) | omega | (simp only [World.size_alloc, World.size_setCell, World.size_drew, World.heap_drewN]; omega) | (simp; done) | (simp; omega))) _) | (with_reducible refine Fr.trans ?_ (by with_reducible assumption)))⟩
  · have HS : Hid (bagS xs = ⟨(bagT xs).toArray⟩) := Lib.hid (if_pos hb)
    have C1 : Hid (∀ w', Fr w w' → Calls Try.prog 171 #[.agg #[.slice ao xs.length ca]] w' fun e w'' => e = .returned (.bool true) ∧ Fr w' w'') := Lib.hid fun w' hf => by rw [← hb]; exact specBagOk_any _ _ _ (hv'.out.fr hf)
    have hlen := bagB_len hb
    have HI : Hid (∀ k, k < xs.length → itemB (itmAt xs k) = true) := Lib.hid fun k hk => bagB_item hb hk
    clear hb
    go_enter Try.func140, Try.ntmps140
    go_wp2_with fail
    refine (C1.out _ (by repeat (first | (with_reducible exact Fr.refl _) | (with_reducible assumption) | (with_reducible refine Fr.drewN ?_ _) | (with_reducible refine Fr.drew ?_) | (with_reducible refine Fr.alloc ?_ _) | (with_reducible refine Fr.setCell ?_ (by (first | (with_reducible assumption) | omega | (simp only [World.size_alloc, World.size_setCell, World.size_drew, World.heap_drewN]; omega) | (simp; done) | (simp; omega))) _) | (with_reducible refine Fr.trans ?_ (by with_reducible assumption))))).mono ?_
    rintro e w1 ⟨rfl, hf1⟩
    have BX : Box w1 w.heap.size #[.slice ao xs.length ca] 111 := (Box.new _ _ _).fr hf1
    have FX := BX.facts
    have z1 := hf1.size; (try simp only [World.size_alloc, World.size_setCell, World.size_drew] at z1)
    go_wp2_with fail
    refine (l01Var_any _ _ (by omega) (by omega)).mono ?_
    rintro e w2 ⟨rfl, hf2⟩
    have z1 := hf2.size; (try simp only [World.size_alloc, World.size_setCell, World.size_drew] at z1)
    have BX := BX.fr hf2
    obtain ⟨n0, hn0⟩ : ∃ s0, s0 = vText (xs.length : Int) := ⟨_, rfl⟩
    rw [← hn0]
    have hn6 : n0.size ≤ 6 := by rw [hn0]; exact vText_sz (by omega)
    have HN0 : Hid (n0.data.toList = varL xs.length) := Lib.hid (by rw [hn0, vText_list]; rfl)
    clear hn0
    go_wp2_with fail
    go_loopw [4, 5, 6] (fun s i _ wr => ∃ (k : Nat) (t : ByteArray), k ≤ xs.length ∧ i = .int .i64 k ∧ s = .string t ∧ t.size ≤ 6 + 40 * k ∧ Hid (t.data.toList = varL xs.length ++ (xs.take k).flatMap itemT) ∧ Fr w wr ∧ Box wr w.heap.size #[.slice ao xs.length ca] 111) (fun _ i _ _ => xs.length - (intOf i).toNat)
    case atStart => exact ⟨0, n0, Nat.zero_le _, rfl, rfl, by omega, Lib.hid (by rw [HN0.out]; simp), by repeat (first | (with_reducible exact Fr.refl _) | (with_reducible assumption) | (with_reducible refine Fr.drewN ?_ _) | (with_reducible refine Fr.drew ?_) | (with_reducible refine Fr.alloc ?_ _) | (with_reducible refine Fr.setCell ?_ (by (first | (with_reducible assumption) | omega | (simp only [World.size_alloc, World.size_setCell, World.size_drew, World.heap_drewN]; omega) | (simp; done) | (simp; omega))) _) | (with_reducible refine Fr.trans ?_ (by with_reducible assumption))), BX⟩
    case round =>
      clear BX FX
      obtain ⟨k, t, hk, rfl, rfl, hts, ht, hfr, BX⟩ := hrel
      have FX := BX.facts
      by_cases hlt : k < xs.length
      · obtain ⟨rfl, hba, fa⟩ := FA.out (by omega)
        obtain ⟨x, hx⟩ : ∃ x, itmAt xs k = x := ⟨_, rfl⟩
        obtain ⟨a, ra, g0, g1⟩ := fa k hlt
        have hok := HI.out k hlt
        rw [hx] at ra g1 hok
        obtain ⟨hx4, hxr, ht1, ht2⟩ := itemB_row4 hok
        have HXR := Lib.hid hxr
        obtain ⟨ao1, b1, o1, cap1, rfl, hc1, hm1, f1⟩ := ra.one
        have F1 := Lib.hid f1
        have c0 := (hfr.cell (p := ⟨ba, _, none⟩) hba).trans g0
        have c1 := (hfr.cell (p := ⟨ba, _, none⟩) hba).trans g1
        have hbw : ba < wr.heap.size := Nat.lt_of_lt_of_le hba hfr.size
        have HX := Lib.hid hx
        clear g0 g1 ra fa f1 hok hx hxr
        go_wp2_with fail
        refine (l01Var_any _ _ (by omega) (by omega)).mono ?_
        rintro e w3 ⟨rfl, hf3⟩
        have BX3 := BX.fr hf3
        have FX3 := BX3.facts
        have k3 := hf3.blk ba hbw
        have HT3 : Hid ((t ++ vText (x.f0.length : Int)).data.toList = varL xs.length ++ (xs.take k).flatMap itemT ++ varL x.f0.length) := Lib.hid (by rw [bytes_append, ht.out, vText_list]; rfl)
        have hv6 : (vText (x.f0.length : Int)).size ≤ 6 := vText_sz (by omega)
        have ht3s : (t ++ vText (x.f0.length : Int)).size ≤ 12 + 40 * k := by rw [app_size]; omega
        obtain ⟨t3, ht3⟩ : ∃ t3, t ++ vText (x.f0.length : Int) = t3 := ⟨_, rfl⟩
        rw [ht3] at HT3 ht3s
        have HH3 := Lib.hid ht3
        clear ht3 FX ht
        go_wp2_with fail
        rw [HH3.out]
        obtain ⟨wo, hwo⟩ : ∃ w_ : World, w_ = w3 := ⟨_, rfl⟩
        subst hwo
        clear FX3 k3
        go_loopw [4, 6] (fun s j w4 => ∃ (m : Nat) (u : ByteArray), m ≤ x.f0.length ∧ j = .int .i64 m ∧ s = .string u ∧ u.size ≤ 12 + 40 * k + 6 * m ∧ Hid (u.data.toList = varL xs.length ++ (xs.take k).flatMap itemT ++ varL x.f0.length ++ rowT (x.f0.take m)) ∧ Fr wr w4 ∧ Box w4 w.heap.size #[.slice (some ⟨ba, oa, none⟩) xs.length ca] 111) (fun _ j _ => x.f0.length - (intOf j).toNat)
        case atStart => exact ⟨0, t3, Nat.zero_le _, rfl, rfl, by omega, Lib.hid (by rw [HT3.out]; simp [rowT]), hf3, BX3⟩
        case round =>
          clear BX3
          obtain ⟨m, u, hm, rfl, rfl, hus, hu, hf4, BX4⟩ := hrel
          have FX4 := BX4.facts
          have k4 := hf4.blk ba hbw
          by_cases hml : m < x.f0.length
          · obtain ⟨rfl, hb1, f1⟩ := F1.out (by omega)
            have d1 := ((hfr.trans hf4).cell (p := ⟨b1, _, none⟩) hb1).trans (f1 m hml)
            obtain ⟨y, hy⟩ : ∃ y, iAt x.f0 m = y := ⟨_, rfl⟩
            have hyb := HXR.out m hml
            rw [hy] at d1 hyb
            have HY := Lib.hid hy
            clear hy f1
            go_wp2_with fail
            refine (l01Var_any _ _ (by omega) (by omega)).mono ?_
            rintro e w5 ⟨rfl, hf5⟩
            have BX5 := BX4.fr hf5
            have hv5 : (vText y).size ≤ 6 := vText_sz (by omega)
            have hus5 : (u ++ vText y).size ≤ 12 + 40 * k + 6 * (m + 1) := by rw [app_size]; omega
            have HT5 : Hid ((u ++ vText y).data.toList = varL xs.length ++ (xs.take k).flatMap itemT ++ varL x.f0.length ++ rowT (x.f0.take (m + 1))) := Lib.hid (by rw [bytes_append, hu.out, vText_list, rowT_take hml HY.out, List.append_assoc _ (rowT _)])
            go_wp2_with fail
            go_roundw
            case rel => exact ⟨m + 1, _, by omega, by go_num, rfl, hus5, HT5, by repeat (first | (with_reducible exact Fr.refl _) | (with_reducible assumption) | (with_reducible refine Fr.drewN ?_ _) | (with_reducible refine Fr.drew ?_) | (with_reducible refine Fr.alloc ?_ _) | (with_reducible refine Fr.setCell ?_ (by (first | (with_reducible assumption) | omega | (simp only [World.size_alloc, World.size_setCell, World.size_drew, World.heap_drewN]; omega) | (simp; done) | (simp; omega))) _) | (with_reducible refine Fr.trans ?_ (by with_reducible assumption))), BX5⟩
            case measure => (simp [intOf]; omega)
          · obtain rfl : m = x.f0.length := by omega
            go_wp2_with fail
            refine (l01Var_any _ _ (by omega) (by omega)).mono ?_
            rintro e w5 ⟨rfl, hf5⟩
            have BX5 := BX4.fr hf5
            have hv5 : (vText x.f1).size ≤ 6 := vText_sz (by omega)
            have hus5 : (u ++ vText x.f1).size ≤ 6 + 40 * (k + 1) := by rw [app_size]; omega
            have HT5 : Hid ((u ++ vText x.f1).data.toList = varL xs.length ++ (xs.take (k + 1)).flatMap itemT) := Lib.hid (by
              rw [bytes_append, hu.out, vText_list, itm_take hlt HX.out, List.take_length, itemT]
              simp only [List.append_assoc])
            go_wp2_with fail
            go_roundw
            case rel => exact ⟨k + 1, _, by omega, by go_num, rfl, hus5, HT5, by repeat (first | (with_reducible exact Fr.refl _) | (with_reducible assumption) | (with_reducible refine Fr.drewN ?_ _) | (with_reducible refine Fr.drew ?_) | (with_reducible refine Fr.alloc ?_ _) | (with_reducible refine Fr.setCell ?_ (by (first | (with_reducible assumption) | omega | (simp only [World.size_alloc, World.size_setCell, World.size_drew, World.heap_drewN]; omega) | (simp; done) | (simp; omega))) _) | (with_reducible refine Fr.trans ?_ (by with_reducible assumption))), BX5⟩
            case measure => (simp [intOf]; omega)
      · obtain rfl : k = xs.length := by omega
        go_wp2_with fail
        go_ret2
        refine ⟨?_, by repeat (first | (with_reducible exact Fr.refl _) | (with_reducible assumption) | (with_reducible refine Fr.drewN ?_ _) | (with_reducible refine Fr.drew ?_) | (with_reducible refine Fr.alloc ?_ _) | (with_reducible refine Fr.setCell ?_ (by (first | (with_reducible assumption) | omega | (simp only [World.size_alloc, World.size_setCell, World.size_drew, World.heap_drewN]; omega) | (simp; done) | (simp; omega))) _) | (with_reducible refine Fr.trans ?_ (by with_reducible assumption)))⟩
        rw [HS.out]
        have : t = ⟨(bagT xs).toArray⟩ := by
          apply WideShapes.bytes_inj
          rw [ht.out, List.take_length]
          rfl
        rw [this]
        rfl
end Go.Proofs.Ytphjlecbhbcbcaa
