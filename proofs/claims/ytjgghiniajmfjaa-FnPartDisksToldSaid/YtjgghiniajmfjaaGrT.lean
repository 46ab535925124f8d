/- spec.GraphText. Condition: none but the graph's own. -/
import Derived.Test.YtjgghiniajmfjaaKGr
import Derived.Test.YtjgghiniajmfjaaCmp
import Derived.Test.YtjgghiniajmfjaaSml
import Derived.Deep.RegionLaw
import Derived.Deep.RegionHeld3
import Derived.Deep.RegionHeldLaw
import Derived.BigRegion
namespace Go.Proofs.Ytjgghiniajmfjaa
open Go.RowKit
set_option linter.unusedVariables false
set_option linter.unusedSimpArgs false
def edgeT (x : EdgeR) : List UInt8 := varL x.f0.toNat ++ (x.f1 :: varL x.f2.toNat)
/-- The bytes of a graph. -/
def graphL (g : GraphD) : List UInt8 := varL g.f0.toNat ++ varL g.f1.length ++ g.f1.flatMap edgeT
def graphS (g : GraphD) : ByteArray := if graphB g = true then ⟨(graphL g).toArray⟩ else ⟨#[]⟩
theorem graphL_ne (g : GraphD) : graphL g ≠ [] := by
  intro h
  have h2 := congrArg List.length h
  have := varL_pos g.f0.toNat
  unfold graphL at h2
  simp only [List.length_append, List.length_nil] at h2
  omega
theorem edgeT_take {xs : List EdgeR} {k : Nat} (h : k < xs.length) {x : EdgeR} (hx : edgeAt xs k = x) : (xs.take (k + 1)).flatMap edgeT = (xs.take k).flatMap edgeT ++ edgeT x := by
  subst hx
  rw [List.take_succ_eq_append_getElem h, List.flatMap_append]
  simp [edgeAt, List.getD, List.getElem?_eq_getElem h]
theorem edgK_rng {n : Int} {xs : List EdgeR} {k : Nat} {x : EdgeR} (hx : edgeAt xs k = x) (h : edgK n xs k = true) : (0 ≤ x.f0 ∧ x.f0 < n) ∧ (0 ≤ x.f2 ∧ x.f2 < n) ∧ 97 ≤ x.f1.toNat ∧ x.f1.toNat ≤ 100 := by
  unfold edgK edgB at h
  rw [hx] at h
  simp only [Bool.and_eq_true, decide_eq_true_eq] at h
  exact ⟨h.1.1, h.1.2.1, h.1.2.2⟩
theorem str_u8 (c : UInt8) : (strOfNums [(c.toNat : Int)]).data.toList = [c] := by simp [strOfNums]
set_option maxHeartbeats 4000000 in
set_option maxRecDepth 100000 in
theorem specGraphText_any (v : Value) (g : GraphD) (w : World) (hv : GraphRd w v g) :
    Calls Try.prog 127 #[v] w fun e w' => e = .returned (.tuple #[.string (graphS g), .bool (graphB g)]) ∧ Fr w w' := by
  obtain ⟨u, rfl, hu⟩ := hv
  obtain ⟨n, xs⟩ := g
  simp only at hu ⊢
  have hu2 := Lib.hid hu
  obtain ⟨ao, ba, oa, ca, rfl, hca, hma, fa⟩ := hu.one
  have FA := Lib.hid fa
  clear fa hu
  cases hB : graphB ⟨n, xs⟩
  · have CB : Hid (∀ w', Fr w w' → Calls Try.prog 64 #[.agg #[.int .i64 n, .slice ao xs.length ca]] w' fun e w'' => e = .returned (.bool false) ∧ Fr w' w'') := Lib.hid fun w' hf => by rw [← hB]; exact specGraphOk_any _ n xs w' (hu2.out.fr hf)
    have HS : Hid (graphS ⟨n, xs⟩ = ⟨#[]⟩) := Lib.hid (if_neg (by simp [hB]))
    clear hB
    go_enter Try.func127, Try.ntmps127
    go_wp2_with (go_at_call 64; refine (CB.out _ (by repeat (first | (with_reducible exact Fr.refl _) | (with_reducible assumption) | (with_reducible refine Fr.drewN ?_ _) | (with_reducible refine Fr.drew ?_) | (with_reducible refine Fr.alloc ?_ _) | (with_reducible refine Fr.setCell ?_ (by (first | (with_reducible assumption) | omega | (simp only [World.size_alloc, World.size_setCell, World.size_drew, World.heap_drewN]; omega) | (simp; done) | (simp; omega))) _) | (with_reducible refine Fr.trans ?_ (by with_reducible assumption))))).mono ?_; rintro e w1 ⟨rfl, hf1⟩)
    go_ret2
    exact ⟨by rw [HS.out]; rfl, by repeat (first | (with_reducible exact Fr.refl _) | (with_reducible assumption) | (with_reducible refine Fr.drewN ?_ _) | (with_reducible refine Fr.drew ?_) | (with_reducible refine Fr.alloc ?_ _) | (with_reducible refine Fr.setCell ?_ (by (first | (with_reducible assumption) | omega | (simp only [World.size_alloc, World.size_setCell, World.size_drew, World.heap_drewN]; omega) | (simp; done) | (simp; omega))) _) | (with_reducible refine Fr.trans ?_ (by with_reducible assumption)))⟩
  · have CB : Hid (∀ w', Fr w w' → Calls Try.prog 64 #[.agg #[.int .i64 n, .slice ao xs.length ca]] w' fun e w'' => e = .returned (.bool true) ∧ Fr w' w'') := Lib.hid fun w' hf => by rw [← hB]; exact specGraphOk_any _ n xs w' (hu2.out.fr hf)
    have HS : graphS ⟨n, xs⟩ = ⟨(graphL ⟨n, xs⟩).toArray⟩ := if_pos hB
    obtain ⟨⟨hn1, hn2⟩, hl, hK⟩ := graphB_out hB
    simp only at hn1 hn2 hl hK
    have HK := Lib.hid hK
    rw [HS]
    obtain ⟨p, hp⟩ : ∃ p, graphL ⟨n, xs⟩ = p := ⟨_, rfl⟩
    rw [hp]
    have HP := Lib.hid hp
    clear hB hp HS hK hu2
    go_enter Try.func127, Try.ntmps127
    go_wp2_with fail
    refine (CB.out _ (by repeat (first | (with_reducible exact Fr.refl _) | (with_reducible assumption) | (with_reducible refine Fr.drewN ?_ _) | (with_reducible refine Fr.drew ?_) | (with_reducible refine Fr.alloc ?_ _) | (with_reducible refine Fr.setCell ?_ (by (first | (with_reducible assumption) | omega | (simp only [World.size_alloc, World.size_setCell, World.size_drew, World.heap_drewN]; omega) | (simp; done) | (simp; omega))) _) | (with_reducible refine Fr.trans ?_ (by with_reducible assumption))))).mono ?_
    rintro e w1 ⟨rfl, hf1⟩
    have z1 := hf1.size; (try simp only [World.size_alloc] at z1)
    have BX : Box w1 w.heap.size #[.int .i64 n, .slice ao xs.length ca] 32 := (Box.new _ _ _).fr hf1
    have FX := BX.facts
    have RG : ∀ w', Sf w1 w' → ∀ o, w'.cell? ⟨w.heap.size, o, none⟩ = #[Value.int .i64 n, .slice ao xs.length ca][o]? := fun w' h o => (BX.fr h.out).cell o
    have CV : Hid (∀ (m : Int) (w' : World), 0 ≤ m → m ≤ 100 → Calls Try.prog 130 #[.int .i64 m] w' fun e w'' => e = .returned (.string (vText m)) ∧ Fr w' w'') := Lib.hid fun m w' h0 h1 => l01Var_any m w' h0 (by omega)
    have hvn : (vText n).size ≤ 6 := vText_sz (by omega)
    have hvl : (vText (xs.length : Int)).size ≤ 6 := vText_sz (by omega)
    have hsum := fun w' => run_string_add_sum (P := Try.prog) (w := w') (vText n) (vText (xs.length : Int)) (by omega)
    have hts : (vText n ++ vText (xs.length : Int)).size ≤ 12 := by rw [app_size]; omega
    have ht : Hid ((vText n ++ vText (xs.length : Int)).data.toList = varL n.toNat ++ varL xs.length) := Lib.hid (by rw [bytes_append, vText_list, vText_list]; rfl)
    have hnb : -9223372036854775808 ≤ n := by omega
    go_wp2_with fail
    go_region_held3 (fun w' => Sf w1 w') ((refine Sf.mk ?_; repeat (first | (with_reducible exact Fr.refl _) | (with_reducible assumption) | (with_reducible refine Fr.drewN ?_ _) | (with_reducible refine Fr.drew ?_) | (with_reducible refine Fr.alloc ?_ _) | (with_reducible refine Fr.setCell ?_ (by (first | (with_reducible assumption) | omega | (simp only [World.size_alloc, World.size_setCell, World.size_drew, World.heap_drewN]; omega) | (simp; done) | (simp; omega))) _) | (with_reducible refine Fr.trans ?_ (by with_reducible assumption))))) (first | (go_at_call 130; refine (CV.out _ _ (by omega) (by omega)).mono ?_; rintro e w5 ⟨rfl, hf5⟩))
    all_goals
      generalize vText n ++ vText (xs.length : Int) = t0 at ht hts ⊢
      have hfr0 : Fr w _ := Fr.trans (Fr.trans ((Fr.refl w).alloc _) hf1) (Sf.out (by assumption))
      have BX0 := Box.fr BX (Sf.out (by assumption))
      rename_i w2 hHeld
      clear hsum CB FX BX RG
      go_wp2_with fail
      go_loopw [4, 5] (fun sv i wr => ∃ (k : Nat) (t : ByteArray), k ≤ xs.length ∧ i = .int .i64 k ∧ sv = .string t ∧ t.size ≤ 12 + 13 * k ∧ Hid (t.data.toList = varL n.toNat ++ varL xs.length ++ (xs.take k).flatMap edgeT) ∧ Fr w wr ∧ Box wr w.heap.size #[.int .i64 n, .slice ao xs.length ca] 32) (fun _ i _ => xs.length - (intOf i).toNat)
      case atStart => exact ⟨0, t0, Nat.zero_le _, rfl, rfl, by omega, Lib.hid (by rw [ht.out]; simp), hfr0, BX0⟩
      case round =>
        clear BX0 hfr0 ht hts hHeld
        obtain ⟨k, t, hk, rfl, rfl, hts, ht, hfr, BX⟩ := hrel
        have FX := BX.facts
        by_cases hlt : k < xs.length
        · obtain ⟨rfl, hba, fa⟩ := FA.out (by omega); obtain ⟨x, hx⟩ : ∃ x, edgeAt xs k = x := ⟨_, rfl⟩; obtain ⟨g0, g1, g2⟩ := fa k hlt; rw [hx] at g0 g1 g2; have c0 := (hfr.cell (p := ⟨ba, _, none⟩) hba).trans g0; have c1 := (hfr.cell (p := ⟨ba, _, none⟩) hba).trans g1; have c2 := (hfr.cell (p := ⟨ba, _, none⟩) hba).trans g2; obtain ⟨⟨r0, r1⟩, ⟨r2, r3⟩, r4, r5⟩ := edgK_rng hx (HK.out k hlt); have hbw : ba < wr.heap.size := Nat.lt_of_lt_of_le hba hfr.size; have HX := Lib.hid hx; clear g0 g1 g2 fa hx
          have hv0 : (vText x.f0).size ≤ 6 := vText_sz (by omega)
          have hv2 : (vText x.f2).size ≤ 6 := vText_sz (by omega)
          have hs1 : (strOfNums [(x.f1.toNat : Int)]).size = 1 := by rw [strOfNums_size]; rfl
          have h1s : (t ++ vText x.f0).size ≤ 18 + 13 * k := by rw [app_size]; omega
          have h2s : (t ++ vText x.f0 ++ strOfNums [(x.f1.toNat : Int)]).size ≤ 19 + 13 * k := by rw [app_size]; omega
          have h3s : (t ++ vText x.f0 ++ strOfNums [(x.f1.toNat : Int)] ++ vText x.f2).size ≤ 12 + 13 * (k + 1) := by rw [app_size]; omega
          have hsum1 := fun w' => run_string_add_sum (P := Try.prog) (w := w') t (vText x.f0) (by omega)
          have hsum2 := fun w' => run_string_add_sum (P := Try.prog) (w := w') (t ++ vText x.f0) (strOfNums [(x.f1.toNat : Int)]) (by omega)
          have hsum3 := fun w' => run_string_add_sum (P := Try.prog) (w := w') (t ++ vText x.f0 ++ strOfNums [(x.f1.toNat : Int)]) (vText x.f2) (by omega)
          have hcv := conv_at1 (x.f1.toNat : Int)
          have ht2 : Hid ((t ++ vText x.f0 ++ strOfNums [(x.f1.toNat : Int)] ++ vText x.f2).data.toList = varL n.toNat ++ varL xs.length ++ (xs.take (k + 1)).flatMap edgeT) := Lib.hid (by rw [bytes_append, bytes_append, bytes_append, ht.out, vText_list, vText_list, str_u8, edgeT_take hlt HX.out]; simp [edgeT])
          have RG2 : ∀ w', Sf wr w' → ∀ o, w'.cell? ⟨w.heap.size, o, none⟩ = #[Value.int .i64 n, .slice (some ⟨ba, oa, none⟩) xs.length ca][o]? := fun w' h o => (BX.fr h.out).cell o
          have P0 : ∀ w', Sf wr w' → w'.cell? _ = _ := fun w' h => (h.out.cell (p := ⟨ba, _, none⟩) hbw).trans c0
          have P1 : ∀ w', Sf wr w' → w'.cell? _ = _ := fun w' h => (h.out.cell (p := ⟨ba, _, none⟩) hbw).trans c1
          have P2 : ∀ w', Sf wr w' → w'.cell? _ = _ := fun w' h => (h.out.cell (p := ⟨ba, _, none⟩) hbw).trans c2
          go_wp2_with fail
          go_region_held_law (fun w' => Sf wr w') ((refine Sf.mk ?_; repeat (first | (with_reducible exact Fr.refl _) | (with_reducible assumption) | (with_reducible refine Fr.drewN ?_ _) | (with_reducible refine Fr.drew ?_) | (with_reducible refine Fr.alloc ?_ _) | (with_reducible refine Fr.setCell ?_ (by (first | (with_reducible assumption) | omega | (simp only [World.size_alloc, World.size_setCell, World.size_drew, World.heap_drewN]; omega) | (simp; done) | (simp; omega))) _) | (with_reducible refine Fr.trans ?_ (by with_reducible assumption))))) (first | (go_at_call 130; refine (CV.out _ _ (by omega) (by omega)).mono ?_; rintro e w5 ⟨rfl, hf5⟩; have z5 := hf5.size; (try simp only [World.size_alloc, World.size_drew] at z5); (first | (have KB := Box.fr (Box.drew (Box.new _ _ _)) hf5) | (have KB := Box.fr (Box.new _ _ _) hf5) | (have KB := Box.fr KB hf5) | (have KB := Box.fr KB.drew hf5) | skip); (try (have k5 := KB.facts; (try simp only [World.size_alloc, World.size_drew] at k5)))))
          all_goals
            clear hsum1 hsum2 hsum3 hcv P0 P1 P2 RG2 h1s h2s
            generalize t ++ vText x.f0 ++ strOfNums [(x.f1.toNat : Int)] ++ vText x.f2 = t2 at h3s ht2 ⊢
            have hq : Fr wr _ := Sf.out (by assumption)
            go_wp2_with fail
            go_roundw
            case rel => exact ⟨k + 1, t2, by omega, by go_num, rfl, h3s, ht2, Fr.trans hfr hq, Box.fr BX hq⟩
            case measure => (simp [intOf]; omega)
        · obtain rfl : k = xs.length := by omega
          go_wp2_with fail
          go_ret2
          refine ⟨?_, by repeat (first | (with_reducible exact Fr.refl _) | (with_reducible assumption) | (with_reducible refine Fr.drewN ?_ _) | (with_reducible refine Fr.drew ?_) | (with_reducible refine Fr.alloc ?_ _) | (with_reducible refine Fr.setCell ?_ (by (first | (with_reducible assumption) | omega | (simp only [World.size_alloc, World.size_setCell, World.size_drew, World.heap_drewN]; omega) | (simp; done) | (simp; omega))) _) | (with_reducible refine Fr.trans ?_ (by with_reducible assumption)))⟩
          rw [show t = ⟨p.toArray⟩ from byte_of (by rw [ht.out, List.take_length, ← HP.out]; rfl)]
          rfl
end Go.Proofs.Ytjgghiniajmfjaa
