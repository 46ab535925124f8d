/- laws.FnKeeps: its walk. No condition but the reading of the draw. -/
import Derived.Test.YtnlcgffffjjojaaDraw10
import Derived.Test.YtnlcgffffjjojaaFrames
namespace Go.Proofs.Ytnlcgffffjjojaa
open Go.RowKit
set_option linter.unusedVariables false
set_option linter.unusedSimpArgs false
theorem begins_true (a b : ByteArray) (w : World) (h1 : a.size ≤ b.size) (h2 : b.extract 0 a.size = a) :
    Calls Try.prog 27 #[.string a, .string b] w fun e w' => e = .returned (.bool true) ∧ w' = w := by
  have q := bytes_beq h2
  clear h2
  go_enter Try.func27, Try.ntmps27
  go_wp2
  go_ret
  exact ⟨rfl, rfl⟩
theorem sameDisk_same (a b : Value) (xs : List FileR) (w : World) (ha : FilesR w a xs) (hb : FilesR w b xs) :
    Calls Try.prog 24 #[.agg #[a], .agg #[b]] w fun e w' => e = .returned (.bool true) ∧ Fr w w' := by
  obtain ⟨ao, ba, oa, ca, rfl, hca, hma, fa⟩ := ha.one
  obtain ⟨bo, bb, ob, cb, rfl, hcb, hmb, fb⟩ := hb.one
  clear ha hb
  have FA := Lib.hid fa
  have FB := Lib.hid fb
  clear fa fb
  go_enter Try.func24, Try.ntmps24
  go_wp2
  go_loopw [5] (fun i wr => ∃ k : Nat, k ≤ xs.length ∧ i = .int .i64 k ∧ Fr w wr ∧ Box wr w.heap.size #[.slice ao xs.length ca] 34 ∧ Box wr (w.heap.size + 1) #[.slice bo xs.length cb] 34) (fun i _ => xs.length - (intOf i).toNat)
  case atStart => exact ⟨0, Nat.zero_le _, rfl, by repeat (first | (with_reducible exact Fr.refl _) | (with_reducible assumption) | (with_reducible refine Fr.drewN ?_ _) | (with_reducible refine Fr.drew ?_) | (with_reducible refine Fr.alloc ?_ _) | (with_reducible refine Fr.setCell ?_ (by (first | (with_reducible assumption) | omega | (simp only [World.size_alloc, World.size_setCell, World.size_drew, World.heap_drewN]; omega) | (simp; done) | (simp; omega))) _) | (with_reducible refine Fr.trans ?_ (by with_reducible assumption))), (Box.new _ _ _).alloc _, Box.new' (by simp)⟩
  case round =>
    obtain ⟨k, hk, rfl, hfr, BA, BB⟩ := hrel
    have F1 := BA.facts
    have F2 := BB.facts
    by_cases hlt : k < xs.length
    · obtain ⟨rfl, hba, fa⟩ := FA.out (by omega)
      obtain ⟨rfl, hbb, fb⟩ := FB.out (by omega)
      obtain ⟨c0, c1, c2⟩ := fa k hlt
      obtain ⟨d0, d1, d2⟩ := fb k hlt
      clear fa fb
      obtain ⟨x, hx⟩ : ∃ x, fileAt xs k = x := ⟨_, rfl⟩
      rw [hx] at c0 c1 c2 d0 d1 d2
      clear hx
      have c0 := (hfr.cell (p := ⟨ba, _, none⟩) hba).trans c0
      have c1 := (hfr.cell (p := ⟨ba, _, none⟩) hba).trans c1
      have c2 := (hfr.cell (p := ⟨ba, _, none⟩) hba).trans c2
      have d0 := (hfr.cell (p := ⟨bb, _, none⟩) hbb).trans d0
      have d1 := (hfr.cell (p := ⟨bb, _, none⟩) hbb).trans d1
      have d2 := (hfr.cell (p := ⟨bb, _, none⟩) hbb).trans d2
      have q0 : (x.f0.toList == x.f0.toList) = true := bytes_beq rfl
      have q1 : (x.f1.toList == x.f1.toList) = true := bytes_beq rfl
      go_wp2
      go_quiet (fail)
      go_wp2
      go_roundw
      case rel => exact ⟨k + 1, by omega, by go_num, by repeat (first | (with_reducible exact Fr.refl _) | (with_reducible assumption) | (with_reducible refine Fr.drewN ?_ _) | (with_reducible refine Fr.drew ?_) | (with_reducible refine Fr.alloc ?_ _) | (with_reducible refine Fr.setCell ?_ (by (first | (with_reducible assumption) | omega | (simp only [World.size_alloc, World.size_setCell, World.size_drew, World.heap_drewN]; omega) | (simp; done) | (simp; omega))) _) | (with_reducible refine Fr.trans ?_ (by with_reducible assumption))), BA.drewN _, BB.drewN _⟩
      case measure => (simp [intOf]; omega)
    · go_wp2
      go_ret
      exact ⟨rfl, by repeat (first | (with_reducible exact Fr.refl _) | (with_reducible assumption) | (with_reducible refine Fr.drewN ?_ _) | (with_reducible refine Fr.drew ?_) | (with_reducible refine Fr.alloc ?_ _) | (with_reducible refine Fr.setCell ?_ (by (first | (with_reducible assumption) | omega | (simp only [World.size_alloc, World.size_setCell, World.size_drew, World.heap_drewN]; omega) | (simp; done) | (simp; omega))) _) | (with_reducible refine Fr.trans ?_ (by with_reducible assumption)))⟩
set_option maxHeartbeats 2000000 in
set_option maxRecDepth 100000 in
theorem lefts_any (v : Value) (ps : List Int) (w : World) (hv : IntsR w v ps) (h6 : 6 ≤ ps.length) (hr : ∀ p ∈ ps, 0 ≤ p ∧ p < 10000) :
    Calls Try.prog 21 #[v] w fun e w' => ∃ (ls : List Int) (ao' : Option Addr) (cap' : Nat), ls.length = 6 ∧ e = .returned (.slice ao' 6 cap') ∧ IntsR w' (.slice ao' 6 cap') ls ∧ Fr w w' := by
  obtain ⟨i0, hi, hz0, hz1, hz2⟩ := info_parts info_int
  obtain ⟨ao, ba, oa, ca, rfl, hca, hma, fa⟩ := hv.one
  obtain ⟨rfl, hba, fa⟩ := fa (by omega)
  have FA := Lib.hid fa
  have HRR := Lib.hid hr
  clear hv fa hr
  go_enter Try.func21, Try.ntmps21
  go_wp2_with fail
  go_loopw [3, 4] (fun v i wr => ∃ (ls : List Int), ls.length ≤ 6 ∧ i = .int .i64 ls.length ∧ IntsO wr w.heap.size v ls ∧ Fr w wr) (fun _ i _ => 6 - (intOf i).toNat)
  case atStart => exact ⟨[], by simp, rfl, World.ownsRow_made w #[] 0 (Nat.le_refl _) (Nat.zero_le _) rfl, (Fr.refl w).alloc _⟩
  case round =>
    obtain ⟨ls, hk, rfl, ho, hfr⟩ := hrel
    obtain ⟨ao1, cap1, rfl⟩ := owns_val ho
    by_cases hlt : ls.length < 6
    · have c1 := (hfr.cell (p := ⟨ba, _, none⟩) hba).trans (FA.out ls.length (by omega))
      obtain ⟨y, hy⟩ : ∃ y, iAt ps ls.length = y := ⟨_, rfl⟩
      rw [hy] at c1
      have hyr : 0 ≤ y ∧ y < 10000 := by
        rw [← hy]
        refine HRR.out _ ?_
        unfold iAt
        simp [List.getD, List.getElem?_eq_getElem (show ls.length < ps.length by omega)]
      obtain ⟨hy1, hy2⟩ := hyr
      have hsz := hfr.size
      clear hy
      go_wp2_with (at_builtin; (refine wpList_append_rd rfl _ _ 36 rfl w.heap.size 3 i0 (.int .i64 0) 1 8 Try.underlying36 hi hz0 hz1 hz2 rfl (by decide) _ ls.length (ls.map (Value.int .i64)) rfl (World.ownsRow.alloc ho _) _ 1 [.int .i64 (y % 300)] rfl (RdS.new (by first | rfl | simp) rfl) (by simp [Value.oneCell']) (by unfold maxLen; omega) (by omega) (by (first | (with_reducible assumption) | omega | (simp only [World.size_alloc, World.size_setCell, World.size_drew, World.heap_drewN]; omega) | (simp; done) | (simp; omega))) ?_; intro ao' cap' w4 hown hgrow hat))
      have hf4 : Fr w w4 := (hfr.alloc _).grown hgrow (fun k hk => (World.ownsRow.lt ho k hk).1)
      go_roundw
      case rel => exact ⟨ls ++ [y % 300], by first | (simp; done) | (simp; omega), by first | (simp; done) | (simp; go_num), by simpa [IntsO] using hown, hf4⟩
      case measure => (simp [intOf]; omega)
    · have hl : ls.length = 6 := by omega
      go_wp2_with fail
      go_ret
      rw [hl]
      refine ⟨ls, ao1, cap1, hl, rfl, ?_, by repeat (first | (with_reducible exact Fr.refl _) | (with_reducible assumption) | (with_reducible refine Fr.drewN ?_ _) | (with_reducible refine Fr.drew ?_) | (with_reducible refine Fr.alloc ?_ _) | (with_reducible refine Fr.setCell ?_ (by (first | (with_reducible assumption) | omega | (simp only [World.size_alloc, World.size_setCell, World.size_drew, World.heap_drewN]; omega) | (simp; done) | (simp; omega))) _) | (with_reducible refine Fr.trans ?_ (by with_reducible assumption)))⟩
      rw [← hl]
      exact RdS.of_owns ho
set_option maxHeartbeats 60000000 in
set_option maxRecDepth 100000 in
theorem fnKeeps_any (ao : Option Addr) (n cap : Nat) (w : World) (hy : ByR w w.heap.size ao n cap) :
    Calls Try.prog 4 #[.slice ao n cap] w fun e w' => e = .returned (.bool true) ∧ Fr w w' := by
  have HY := Lib.hid hy
  have hn : n ≤ 9223372036854775807 := by have := hy.1; have := hy.2.1; omega
  clear hy
  by_cases hbig : n ≤ 1048576
  · go_enter Try.func4, Try.ntmps4
    go_wp2_with (go_at_call 19; refine (big_any _ _ _ _ hn).mono ?_; rintro e w0 ⟨rfl, rfl⟩)
    refine (DrawRightDisk_any ao n cap _ HY.out).mono ?_
    rintro e w1 ⟨xs, ax, cx, hd, rfl, hr1, hf1⟩
    have HR1 := Lib.hid hr1
    have HD := Lib.hid hd
    have z1 := hf1.size
    have hxl := diskB_len hd
    clear hr1 hd
    go_wp2_with fail
    refine (DrawPlaces_any ao n cap _ (HY.out.here (by repeat (first | (with_reducible exact Fr.refl _) | (with_reducible assumption) | (with_reducible refine Fr.drewN ?_ _) | (with_reducible refine Fr.drew ?_) | (with_reducible refine Fr.alloc ?_ _) | (with_reducible refine Fr.setCell ?_ (by (first | (with_reducible assumption) | omega | (simp only [World.size_alloc, World.size_setCell, World.size_drew, World.heap_drewN]; omega) | (simp; done) | (simp; omega))) _) | (with_reducible refine Fr.trans ?_ (by with_reducible assumption)))))).mono ?_
    rintro e w2 ⟨ps, aop, capp, hpl, hpr, rfl, hp, hf2⟩
    have z2 := hf2.size
    simp only [World.size_alloc] at z2
    have B3 : Box w2 w1.heap.size #[.slice ax xs.length cx] 34 := (Box.new _ _ _).fr hf2
    have hp' : IntsR w2 (.slice aop 12 capp) ps := by have := hp.rd; exact this
    have HP := Lib.hid hp'
    have HPL := Lib.hid hpl
    have HPR := Lib.hid hpr
    clear hp hp' hpl hpr
    go_wp2_with fail
    refine (lefts_any _ ps _ HP.out (by have := HPL.out; omega) HPR.out).mono ?_
    rintro e w3 ⟨ls, al, cl, hll, rfl, hl3, hf3⟩
    have z3 := hf3.size
    have B3 := B3.fr hf3
    have F3 := B3.facts
    have HL3 := Lib.hid hl3
    obtain ⟨k1, k2, k3⟩ := lose_right (ls := ls) HD.out
    have KN := Lib.hid (fun k hk => lose_file (ls := ls) (k := k) HD.out hk)
    have hlen := loseK_length xs ls xs.length
    have HLS := Lib.hid (show loseD ⟨xs⟩ ls = ⟨loseK xs ls xs.length⟩ by unfold loseD; rw [HD.out]; rfl)
    have HBS := Lib.hid (show loseB ⟨xs⟩ = true from HD.out)
    generalize hys : loseK xs ls xs.length = ys at k1 k2 k3 KN hlen HLS
    clear hys hl3 hll
    have HLS2 := Lib.hid (show loseD ⟨ys⟩ [] = ⟨ys⟩ by unfold loseD; rw [k1, hlen, k3]; rfl)
    have HBS2 := Lib.hid (show loseB ⟨ys⟩ = true from k1)
    have HK2 := Lib.hid k2
    have HLN := Lib.hid hlen
    clear k1 k2 k3 hlen
    have C1 : Hid (∀ w', Fr w3 w' → Calls Try.prog 23 #[.agg #[.slice ax xs.length cx], .slice al 6 cl] w' fun e w'' => ∃ ao cap, e = .returned (.tuple #[.agg #[.slice ao xs.length cap], .bool true]) ∧ FilesR w'' (.slice ao xs.length cap) ys ∧ Fr w' w'') := fun w' h => (implLoseDisk_any ⟨xs⟩ ls (by show xs.length ≤ _; omega) _ _ w' ⟨_, rfl, HR1.out.fr (((((Fr.refl w1).alloc _).trans hf2).trans hf3).trans h)⟩ (HL3.out.fr h)).mono fun e w'' h => by
      obtain ⟨a1, c1, h1, h2, h3⟩ := h
      obtain ⟨u, h4, h5⟩ := h2.rd
      rw [HLS.out] at h1 h4 h5
      rw [HBS.out] at h1
      simp only [HLN.out] at h1 h4
      cases h4
      exact ⟨a1, c1, h1, h5, h3⟩
    go_wp2_with fail
    refine (C1.out _ (by repeat (first | (with_reducible exact Fr.refl _) | (with_reducible assumption) | (with_reducible refine Fr.drewN ?_ _) | (with_reducible refine Fr.drew ?_) | (with_reducible refine Fr.alloc ?_ _) | (with_reducible refine Fr.setCell ?_ (by (first | (with_reducible assumption) | omega | (simp only [World.size_alloc, World.size_setCell, World.size_drew, World.heap_drewN]; omega) | (simp; done) | (simp; omega))) _) | (with_reducible refine Fr.trans ?_ (by with_reducible assumption))))).mono ?_
    rintro e w4 ⟨a4, c4, rfl, hr4, hf4⟩
    have z4 := hf4.size
    have B3 := B3.fr hf4
    have HR4 := Lib.hid hr4
    clear hr4 F3
    have C2 : Hid (∀ (ae : Option Addr) w', Fr w4 w' → Calls Try.prog 23 #[.agg #[.slice a4 xs.length c4], .slice ae 0 0] w' fun e w'' => ∃ ao cap, e = .returned (.tuple #[.agg #[.slice ao xs.length cap], .bool true]) ∧ FilesR w'' (.slice ao xs.length cap) ys ∧ Fr w' w'') := fun ae w' h => by
      have hr := HR4.out.fr h
      rw [← HLN.out] at hr ⊢
      refine (implLoseDisk_any ⟨ys⟩ [] (by show ys.length ≤ _; have := HLN.out; omega) _ _ w' ⟨_, rfl, hr⟩ ⟨rfl, ae, 0, rfl, Nat.le_refl _, Nat.zero_le _, fun h => absurd h (by decide)⟩).mono fun e w'' h => ?_
      obtain ⟨a1, c1, h1, h2, h3⟩ := h
      obtain ⟨u, h4, h5⟩ := h2.rd
      rw [HLS2.out] at h1 h4 h5
      rw [HBS2.out] at h1
      cases h4
      exact ⟨a1, c1, h1, h5, h3⟩
    go_wp2_with fail
    refine (C2.out _ _ (by repeat (first | (with_reducible exact Fr.refl _) | (with_reducible assumption) | (with_reducible refine Fr.drewN ?_ _) | (with_reducible refine Fr.drew ?_) | (with_reducible refine Fr.alloc ?_ _) | (with_reducible refine Fr.setCell ?_ (by (first | (with_reducible assumption) | omega | (simp only [World.size_alloc, World.size_setCell, World.size_drew, World.heap_drewN]; omega) | (simp; done) | (simp; omega))) _) | (with_reducible refine Fr.trans ?_ (by with_reducible assumption))))).mono ?_
    rintro e w5 ⟨a5, c5, rfl, hr5, hf5⟩
    have z5 := hf5.size
    simp only [World.size_alloc] at z5
    have B3 := ((B3.alloc _).alloc _).fr hf5
    have B5 : Box w5 w4.heap.size #[.slice a4 xs.length c4] 34 := ((Box.new _ _ _).alloc _).fr hf5
    have HR5 := Lib.hid hr5
    clear hr5
    have F3 := B3.facts
    have F5 := B5.facts
    go_wp2_with fail
    refine (sameDisk_same _ _ ys _ (by rw [← HLN.out]; rw [← HLN.out] at HR4; exact HR4.out.fr (by repeat (first | (with_reducible exact Fr.refl _) | (with_reducible assumption) | (with_reducible refine Fr.drewN ?_ _) | (with_reducible refine Fr.drew ?_) | (with_reducible refine Fr.alloc ?_ _) | (with_reducible refine Fr.setCell ?_ (by (first | (with_reducible assumption) | omega | (simp only [World.size_alloc, World.size_setCell, World.size_drew, World.heap_drewN]; omega) | (simp; done) | (simp; omega))) _) | (with_reducible refine Fr.trans ?_ (by with_reducible assumption))))) (by rw [← HLN.out]; rw [← HLN.out] at HR5; exact HR5.out.fr (by repeat (first | (with_reducible exact Fr.refl _) | (with_reducible assumption) | (with_reducible refine Fr.drewN ?_ _) | (with_reducible refine Fr.drew ?_) | (with_reducible refine Fr.alloc ?_ _) | (with_reducible refine Fr.setCell ?_ (by (first | (with_reducible assumption) | omega | (simp only [World.size_alloc, World.size_setCell, World.size_drew, World.heap_drewN]; omega) | (simp; done) | (simp; omega))) _) | (with_reducible refine Fr.trans ?_ (by with_reducible assumption)))))).mono ?_
    rintro e w6 ⟨rfl, hf6⟩
    have z6 := hf6.size
    simp only [World.size_alloc] at z6
    have B3 := (B3.alloc _).fr hf6
    have B5 := (B5.alloc _).fr hf6
    clear F3 F5
    have F3 := B3.facts
    have F5 := B5.facts
    have C6 : Hid (∀ w', Fr w4 w' → Calls Try.prog 25 #[.agg #[.slice a4 xs.length c4]] w' fun e w'' => e = .returned (.bool true) ∧ Fr w' w'') := fun w' h => by
      have hr := HR4.out.fr h
      have := implAllKept_any _ ys w' hr
      rw [HK2.out] at this
      exact this
    go_wp2_with fail
    refine (C6.out _ (by repeat (first | (with_reducible exact Fr.refl _) | (with_reducible assumption) | (with_reducible refine Fr.drewN ?_ _) | (with_reducible refine Fr.drew ?_) | (with_reducible refine Fr.alloc ?_ _) | (with_reducible refine Fr.setCell ?_ (by (first | (with_reducible assumption) | omega | (simp only [World.size_alloc, World.size_setCell, World.size_drew, World.heap_drewN]; omega) | (simp; done) | (simp; omega))) _) | (with_reducible refine Fr.trans ?_ (by with_reducible assumption))))).mono ?_
    rintro e w7 ⟨rfl, hf7⟩
    have z7 := hf7.size
    have B3 := B3.fr hf7
    have B5 := B5.fr hf7
    clear F3 F5
    have F3 := B3.facts
    have C7 : Hid (∀ w', Fr w1 w' → Calls Try.prog 26 #[.agg #[.slice ax xs.length cx]] w' fun e w'' => e = .returned (.bool true) ∧ Fr w' w'') := fun w' h => by
      have := implDiskOk_any _ xs w' (HR1.out.fr h)
      rw [HD.out] at this
      exact this
    go_wp2_with fail
    refine (C7.out _ (by repeat (first | (with_reducible exact Fr.refl _) | (with_reducible assumption) | (with_reducible refine Fr.drewN ?_ _) | (with_reducible refine Fr.drew ?_) | (with_reducible refine Fr.alloc ?_ _) | (with_reducible refine Fr.setCell ?_ (by (first | (with_reducible assumption) | omega | (simp only [World.size_alloc, World.size_setCell, World.size_drew, World.heap_drewN]; omega) | (simp; done) | (simp; omega))) _) | (with_reducible refine Fr.trans ?_ (by with_reducible assumption))))).mono ?_
    rintro e w8 ⟨rfl, hf8⟩
    have z8 := hf8.size
    have hf48 : Fr w4 w8 := by repeat (first | (with_reducible exact Fr.refl _) | (with_reducible assumption) | (with_reducible refine Fr.drewN ?_ _) | (with_reducible refine Fr.drew ?_) | (with_reducible refine Fr.alloc ?_ _) | (with_reducible refine Fr.setCell ?_ (by (first | (with_reducible assumption) | omega | (simp only [World.size_alloc, World.size_setCell, World.size_drew, World.heap_drewN]; omega) | (simp; done) | (simp; omega))) _) | (with_reducible refine Fr.trans ?_ (by with_reducible assumption)))
    have hf18 : Fr w1 w8 := by repeat (first | (with_reducible exact Fr.refl _) | (with_reducible assumption) | (with_reducible refine Fr.drewN ?_ _) | (with_reducible refine Fr.drew ?_) | (with_reducible refine Fr.alloc ?_ _) | (with_reducible refine Fr.setCell ?_ (by (first | (with_reducible assumption) | omega | (simp only [World.size_alloc, World.size_setCell, World.size_drew, World.heap_drewN]; omega) | (simp; done) | (simp; omega))) _) | (with_reducible refine Fr.trans ?_ (by with_reducible assumption)))
    have B3 := B3.fr hf8
    have B5 := B5.fr hf8
    clear F3
    have HY1 := HR1.out.fr hf18
    have HY4 := HR4.out.fr hf48
    obtain ⟨_, bc, oc, _, hvc, _, _, fc⟩ := HY1.one
    cases hvc
    rw [← HLN.out] at HY4
    obtain ⟨_, bd, od, _, hvd, _, _, fd⟩ := HY4.one
    rw [HLN.out] at hvd fd
    cases hvd
    have FC := Lib.hid fc
    have FD := Lib.hid fd
    clear fc fd HY1 HY4
    clear HR1 HR4 HR5 C1 C2 C6 C7 HLS HLS2 HBS HBS2 HL3 HP HPL HPR
    go_wp2_with fail
    go_loopw [9, 10, 11] (fun i _ _ wr => ∃ j : Nat, j ≤ xs.length ∧ i = .int .i64 j ∧ Fr w8 wr) (fun i _ _ _ => xs.length - (intOf i).toNat)
    case atStart => exact ⟨0, Nat.zero_le _, rfl, Fr.refl _⟩
    case round =>
      obtain ⟨j, hj, rfl, hfr⟩ := hrel
      have B3 := B3.fr hfr
      have B5 := B5.fr hfr
      have F3 := B3.facts
      have F5 := B5.facts
      by_cases hlt : j < xs.length
      · obtain ⟨rfl, hbc, fc⟩ := FC.out (by omega)
        obtain ⟨rfl, hbd, fd⟩ := FD.out (by omega)
        obtain ⟨m, nn, hm1, hm2, hm3, hm4⟩ := KN.out j hlt
        obtain ⟨g0, g1, g2⟩ := fc j hlt
        obtain ⟨d0, d1, d2⟩ := fd j hlt
        rw [hm4] at d0 d1 d2
        rw [hm1] at g2
        obtain ⟨nm, hnm⟩ : ∃ nm, (fileAt xs j).f0 = nm := ⟨_, rfl⟩
        obtain ⟨tx, htx⟩ : ∃ tx, (fileAt xs j).f1 = tx := ⟨_, rfl⟩
        simp only [hnm, htx] at g0 g1 d0 d1 d2 hm3
        clear fc fd hm4 hm1 hnm htx
        have c0 := (hfr.cell (p := ⟨bc, _, none⟩) hbc).trans g0
        have c1 := (hfr.cell (p := ⟨bc, _, none⟩) hbc).trans g1
        have c2 := (hfr.cell (p := ⟨bc, _, none⟩) hbc).trans g2
        have e0 := (hfr.cell (p := ⟨bd, _, none⟩) hbd).trans d0
        have e1 := (hfr.cell (p := ⟨bd, _, none⟩) hbd).trans d1
        have e2 := (hfr.cell (p := ⟨bd, _, none⟩) hbd).trans d2
        clear g0 g1 g2 d0 d1 d2
        have hbc2 : bc < wr.heap.size := Nat.lt_of_lt_of_le hbc hfr.size
        have hbd2 : bd < wr.heap.size := Nat.lt_of_lt_of_le hbd hfr.size
        have q0 : (nm.toList == nm.toList) = true := bytes_beq rfl
        have hi1 : (0 : Int) ≤ (m : Int) := by omega
        have hi2 : (m : Int) ≤ (tx.size : Int) := by omega
        have hA1 : Hid ((tx.extract 0 nn).size = nn) := extract_len0 hm3
        have hA2 : Hid (tx.extract 0 (tx.extract 0 nn).size = tx.extract 0 nn) := by rw [hA1.out]; rfl
        have hB1 : Hid ((tx.extract 0 m).size = m) := extract_len0 (by omega)
        have hB2 : Hid ((tx.extract 0 nn).extract 0 (tx.extract 0 m).size = tx.extract 0 m) := by rw [hB1.out]; exact extract_twice hm2 hm3
        have G1 : Hid (∀ w', Calls Try.prog 27 #[.string (tx.extract 0 nn), .string tx] w' fun e w'' => e = .returned (.bool true) ∧ w'' = w') := fun w' => begins_true _ _ w' (by rw [hA1.out]; exact hm3) hA2.out
        have G2 : Hid (∀ w', Calls Try.prog 27 #[.string (tx.extract 0 m), .string (tx.extract 0 nn)] w' fun e w'' => e = .returned (.bool true) ∧ w'' = w') := fun w' => begins_true _ _ w' (by rw [hB1.out, hA1.out]; exact hm2) hB2.out
        go_wp2_with fail
        have B10 : Box ((wr.alloc (.cells #[.string nm, .string tx, .int .i64 (m : Int)] 44)).alloc (.cells #[.string nm, .string (tx.extract 0 nn), .int .i64 (nn : Int)] 44)) wr.heap.size #[.string nm, .string tx, .int .i64 (m : Int)] 44 := (Box.new _ _ _).alloc _
        have B11 : Box ((wr.alloc (.cells #[.string nm, .string tx, .int .i64 (m : Int)] 44)).alloc (.cells #[.string nm, .string (tx.extract 0 nn), .int .i64 (nn : Int)] 44)) (wr.heap.size + 1) #[.string nm, .string (tx.extract 0 nn), .int .i64 (nn : Int)] 44 := Box.new' (by simp)
        go_quiet (first | (go_at_call 27; with_reducible exact Calls.quiet_of_same ((G1.out _).mono fun _ _ h => ⟨h.1, h.2⟩)) | (go_at_call 27; with_reducible exact Calls.quiet_of_same ((G2.out _).mono fun _ _ h => ⟨h.1, h.2⟩)))
        go_wp2_with fail
        go_roundw
        case rel => exact ⟨j + 1, by omega, by go_num, by repeat (first | (with_reducible exact Fr.refl _) | (with_reducible assumption) | (with_reducible refine Fr.drewN ?_ _) | (with_reducible refine Fr.drew ?_) | (with_reducible refine Fr.alloc ?_ _) | (with_reducible refine Fr.setCell ?_ (by (first | (with_reducible assumption) | omega | (simp only [World.size_alloc, World.size_setCell, World.size_drew, World.heap_drewN]; omega) | (simp; done) | (simp; omega))) _) | (with_reducible refine Fr.trans ?_ (by with_reducible assumption)))⟩
        case measure => (simp [intOf]; omega)
      · go_wp2_with fail
        go_ret
        exact ⟨rfl, by repeat (first | (with_reducible exact Fr.refl _) | (with_reducible assumption) | (with_reducible refine Fr.drewN ?_ _) | (with_reducible refine Fr.drew ?_) | (with_reducible refine Fr.alloc ?_ _) | (with_reducible refine Fr.setCell ?_ (by (first | (with_reducible assumption) | omega | (simp only [World.size_alloc, World.size_setCell, World.size_drew, World.heap_drewN]; omega) | (simp; done) | (simp; omega))) _) | (with_reducible refine Fr.trans ?_ (by with_reducible assumption)))⟩
  · go_enter Try.func4, Try.ntmps4
    go_wp2_with (go_at_call 19; refine (big_any _ _ _ _ hn).mono ?_; rintro e w0 ⟨rfl, rfl⟩)
    go_ret
    exact ⟨rfl, by repeat (first | (with_reducible exact Fr.refl _) | (with_reducible assumption) | (with_reducible refine Fr.drewN ?_ _) | (with_reducible refine Fr.drew ?_) | (with_reducible refine Fr.alloc ?_ _) | (with_reducible refine Fr.setCell ?_ (by (first | (with_reducible assumption) | omega | (simp only [World.size_alloc, World.size_setCell, World.size_drew, World.heap_drewN]; omega) | (simp; done) | (simp; omega))) _) | (with_reducible refine Fr.trans ?_ (by with_reducible assumption)))⟩
end Go.Proofs.Ytnlcgffffjjojaa
