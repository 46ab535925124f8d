/- laws.FnLinksTold: its walk. No condition but the reading of the draw. -/
import Derived.Test.YtnlcgffffjjojaaDraw7
import Derived.Test.YtnlcgffffjjojaaDraw8
import Derived.Test.YtnlcgffffjjojaaDraw9
import Derived.Test.YtnlcgffffjjojaaLk5
import Derived.Test.YtnlcgffffjjojaaFrames
namespace Go.Proofs.Ytnlcgffffjjojaa
open Go.RowKit
set_option linter.unusedVariables false
set_option linter.unusedSimpArgs false
theorem sameInts_same (a b : Value) (ss : List Int) (w : World) (ha : IntsR w a ss) (hb : IntsR w b ss) :
    Calls Try.prog 45 #[a, b] w fun e w' => e = .returned (.bool true) ∧ ∃ m, w' = w.drewN m := by
  obtain ⟨ao, ba, oa, ca, rfl, hca, hma, fa⟩ := ha.one
  obtain ⟨bo, bb, ob, cb, rfl, hcb, hmb, fb⟩ := hb.one
  clear ha hb
  go_enter Try.func45, Try.ntmps45
  go_wp2
  go_loopw [5] (fun i wr => ∃ k : Nat, k ≤ ss.length ∧ i = .int .i64 k ∧ (∃ m, wr = w.drewN m)) (fun i _ => ss.length - (intOf i).toNat)
  case atStart => exact ⟨0, Nat.zero_le _, rfl, ⟨0, rfl⟩⟩
  case round =>
    obtain ⟨k, hk, rfl, ⟨md, rfl⟩⟩ := hrel
    by_cases hlt : k < ss.length
    · obtain ⟨rfl, hba, fa⟩ := fa (by omega)
      obtain ⟨rfl, hbb, fb⟩ := fb (by omega)
      have c1 := fa k hlt
      have c2 := fb k hlt
      clear fa fb
      go_wp2
      go_quiet (fail)
      go_wp2
      go_roundw
      case rel => exact ⟨k + 1, by omega, by go_num, ⟨_, rfl⟩⟩
      case measure => (simp [intOf]; omega)
    · clear fa fb
      go_wp2
      go_ret
      exact ⟨rfl, ⟨_, rfl⟩⟩
set_option maxHeartbeats 60000000 in
set_option maxRecDepth 100000 in
theorem fnLinksTold_any (ao : Option Addr) (n cap : Nat) (w : World) (hy : ByR w w.heap.size ao n cap) :
    Calls Try.prog 7 #[.slice ao n cap] w fun e w' => e = .returned (.bool true) ∧ Fr w w' := by
  have HY := Lib.hid hy
  have hn : n ≤ 9223372036854775807 := by have := hy.1; have := hy.2.1; omega
  clear hy
  by_cases hbig : n ≤ 1048576
  · go_enter Try.func7, Try.ntmps7
    go_wp2_with (go_at_call 19; refine (big_any _ _ _ _ hn).mono ?_; rintro e w0 ⟨rfl, rfl⟩)
    refine (DrawLinkTake_any ao n cap _ HY.out).mono ?_
    rintro e w1 ⟨d, al, cl, p, hl, hp5, rfl, hr1, hf1⟩
    have HR1 := Lib.hid hr1
    clear hr1
    have z1 := hf1.size
    obtain ⟨D, hD⟩ : ∃ D, takeD d p = D := ⟨_, rfl⟩
    obtain ⟨X, hX⟩ : ∃ X, takeT d p = X := ⟨_, rfl⟩
    have C1 : Hid (∀ w', StrsR w' (.slice al d.f0.length cl) d.f0 → Calls Try.prog 33 #[.agg #[.slice al d.f0.length cl, .int .i64 d.f1, .int .i64 d.f2], .agg #[.int .i64 p.f0, .int .i64 p.f1, .int .i64 p.f2, .int .i64 p.f3, .int .i64 p.f4, .string p.f5]] w' fun e w'' => ∃ ao' cap', e = .returned (.tuple #[.agg #[.slice ao' D.f0.length cap', .int .i64 D.f1, .int .i64 D.f2], .string X]) ∧ Fr w' w'') := fun w' h => (implLinkTake_any d p (by omega) _ w' ⟨_, rfl, h⟩).mono fun e w'' h => by obtain ⟨a1, c1, h1, h2, h3⟩ := h; rw [hD, hX] at h1; exact ⟨a1, c1, h1, h3⟩
    have C2 : Hid (∀ w', StrsR w' (.slice al d.f0.length cl) d.f0 → Calls Try.prog 40 #[.agg #[.slice al d.f0.length cl, .int .i64 d.f1, .int .i64 d.f2], .agg #[.int .i64 p.f0, .int .i64 p.f1, .int .i64 p.f2, .int .i64 p.f3, .int .i64 p.f4, .string p.f5]] w' fun e w'' => ∃ ao' cap', e = .returned (.tuple #[.agg #[.slice ao' D.f0.length cap', .int .i64 D.f1, .int .i64 D.f2], .string X]) ∧ Fr w' w'') := fun w' h => (specLinkTake_any d p (by omega) _ w' ⟨_, rfl, h⟩).mono fun e w'' h => by obtain ⟨a1, c1, h1, h2, h3⟩ := h; rw [hD, hX] at h1; exact ⟨a1, c1, h1, h3⟩
    clear hD hX
    go_wp2_with fail
    refine (C1.out _ (HR1.out.fr (by repeat (first | (with_reducible exact Fr.refl _) | (with_reducible assumption) | (with_reducible refine Fr.drewN ?_ _) | (with_reducible refine Fr.drew ?_) | (with_reducible refine Fr.alloc ?_ _) | (with_reducible refine Fr.setCell ?_ (by (first | (with_reducible assumption) | omega | (simp only [World.size_alloc, World.size_setCell, World.size_drew, World.heap_drewN]; omega) | (simp; done) | (simp; omega))) _) | (with_reducible refine Fr.trans ?_ (by with_reducible assumption)))))).mono ?_
    rintro e w2 ⟨a2, c2, rfl, hf2⟩
    have z2 := hf2.size
    simp only [World.size_alloc] at z2
    have B3 : Box w2 w1.heap.size #[.slice al d.f0.length cl, .int .i64 d.f1, .int .i64 d.f2] 53 := ((Box.new _ _ _).alloc _).fr hf2
    have B4 : Box w2 (w1.heap.size + 1) #[.int .i64 p.f0, .int .i64 p.f1, .int .i64 p.f2, .int .i64 p.f3, .int .i64 p.f4, .string p.f5] 27 := (Box.new' (by simp)).fr hf2
    have F3 := B3.facts
    have F4 := B4.facts
    go_wp2_with fail
    refine (C2.out _ (HR1.out.fr (by repeat (first | (with_reducible exact Fr.refl _) | (with_reducible assumption) | (with_reducible refine Fr.drewN ?_ _) | (with_reducible refine Fr.drew ?_) | (with_reducible refine Fr.alloc ?_ _) | (with_reducible refine Fr.setCell ?_ (by (first | (with_reducible assumption) | omega | (simp only [World.size_alloc, World.size_setCell, World.size_drew, World.heap_drewN]; omega) | (simp; done) | (simp; omega))) _) | (with_reducible refine Fr.trans ?_ (by with_reducible assumption)))))).mono ?_
    rintro e w3 ⟨a3, c3, rfl, hf3⟩
    have z3 := hf3.size
    simp only [World.size_alloc] at z3
    have B5 : Box w3 w2.heap.size #[.slice a2 D.f0.length c2, .int .i64 D.f1, .int .i64 D.f2] 53 := (Box.new _ _ _).fr hf3
    have B3 := (B3.alloc _).fr hf3
    clear F3 F4 B4
    go_wp2_with fail
    refine (DrawLinkPackets_any ao n cap _ (HY.out.here (by repeat (first | (with_reducible exact Fr.refl _) | (with_reducible assumption) | (with_reducible refine Fr.drewN ?_ _) | (with_reducible refine Fr.drew ?_) | (with_reducible refine Fr.alloc ?_ _) | (with_reducible refine Fr.setCell ?_ (by (first | (with_reducible assumption) | omega | (simp only [World.size_alloc, World.size_setCell, World.size_drew, World.heap_drewN]; omega) | (simp; done) | (simp; omega))) _) | (with_reducible refine Fr.trans ?_ (by with_reducible assumption)))))).mono ?_
    rintro e w4 ⟨x, ax, cx, u1, u2, u3, hxl, rfl, hr4, hf4⟩
    have HR4 := Lib.hid hr4
    clear hr4
    have z4 := hf4.size
    simp only [World.size_alloc] at z4
    have B7 : Box w4 w3.heap.size #[.slice a3 D.f0.length c3, .int .i64 D.f1, .int .i64 D.f2] 53 := (Box.new _ _ _).fr hf4
    have B3 := (B3.alloc _).fr hf4
    have B5 := (B5.alloc _).fr hf4
    obtain ⟨P, hP⟩ : ∃ P, pkL x u1 u2 u3 = P := ⟨_, rfl⟩
    have hPl : P.length ≤ 3 := by rw [← hP]; unfold pkL; split <;> first | exact pkOne_le _ _ _ _ | simp
    have C3 : Hid (∀ w', StrsR w' (.slice ax x.f0.length cx) x.f0 → Calls Try.prog 37 #[.agg #[.slice ax x.f0.length cx, .int .i64 x.f1, .int .i64 x.f2], .int .i64 u1, .int .i64 u2, .int .i64 u3] w' fun e w'' => ∃ ao' cap', e = .returned (.slice ao' P.length cap') ∧ PacketsR w'' (.slice ao' P.length cap') P ∧ Fr w' w'') := fun w' h => (implLinkPackets_any x u1 u2 u3 (by omega) _ w' ⟨_, rfl, h⟩).mono fun e w'' h => by obtain ⟨a1, c1, h1, h2, h3⟩ := h; rw [hP] at h1 h2; exact ⟨a1, c1, h1, h2.rd, h3⟩
    have C4 : Hid (∀ w', StrsR w' (.slice ax x.f0.length cx) x.f0 → Calls Try.prog 38 #[.agg #[.slice ax x.f0.length cx, .int .i64 x.f1, .int .i64 x.f2], .int .i64 u1, .int .i64 u2, .int .i64 u3] w' fun e w'' => ∃ ao' cap', e = .returned (.slice ao' P.length cap') ∧ PacketsR w'' (.slice ao' P.length cap') P ∧ Fr w' w'') := fun w' h => (specLinkPackets_any x u1 u2 u3 (by omega) _ w' ⟨_, rfl, h⟩).mono fun e w'' h => by obtain ⟨a1, c1, h1, h2, h3⟩ := h; rw [hP] at h1 h2; exact ⟨a1, c1, h1, h2.rd, h3⟩
    clear hP
    go_wp2_with fail
    refine (C3.out _ (HR4.out.fr (by repeat (first | (with_reducible exact Fr.refl _) | (with_reducible assumption) | (with_reducible refine Fr.drewN ?_ _) | (with_reducible refine Fr.drew ?_) | (with_reducible refine Fr.alloc ?_ _) | (with_reducible refine Fr.setCell ?_ (by (first | (with_reducible assumption) | omega | (simp only [World.size_alloc, World.size_setCell, World.size_drew, World.heap_drewN]; omega) | (simp; done) | (simp; omega))) _) | (with_reducible refine Fr.trans ?_ (by with_reducible assumption)))))).mono ?_
    rintro e w5 ⟨ac, cc, rfl, hp5', hf5⟩
    have z5 := hf5.size
    simp only [World.size_alloc] at z5
    have B9 : Box w5 w4.heap.size #[.slice ax x.f0.length cx, .int .i64 x.f1, .int .i64 x.f2] 53 := (Box.new _ _ _).fr hf5
    have F9 := B9.facts
    have HP5 := Lib.hid hp5'
    clear hp5'
    go_wp2_with fail
    refine (C4.out _ (HR4.out.fr (by repeat (first | (with_reducible exact Fr.refl _) | (with_reducible assumption) | (with_reducible refine Fr.drewN ?_ _) | (with_reducible refine Fr.drew ?_) | (with_reducible refine Fr.alloc ?_ _) | (with_reducible refine Fr.setCell ?_ (by (first | (with_reducible assumption) | omega | (simp only [World.size_alloc, World.size_setCell, World.size_drew, World.heap_drewN]; omega) | (simp; done) | (simp; omega))) _) | (with_reducible refine Fr.trans ?_ (by with_reducible assumption)))))).mono ?_
    rintro e w6 ⟨ad, cd, rfl, hp6, hf6⟩
    have z6 := hf6.size
    have HP6 := Lib.hid hp6
    clear hp6 F9
    go_wp2_with fail
    refine (DrawLinkPut_any ao n cap _ (HY.out.here (by repeat (first | (with_reducible exact Fr.refl _) | (with_reducible assumption) | (with_reducible refine Fr.drewN ?_ _) | (with_reducible refine Fr.drew ?_) | (with_reducible refine Fr.alloc ?_ _) | (with_reducible refine Fr.setCell ?_ (by (first | (with_reducible assumption) | omega | (simp only [World.size_alloc, World.size_setCell, World.size_drew, World.heap_drewN]; omega) | (simp; done) | (simp; omega))) _) | (with_reducible refine Fr.trans ?_ (by with_reducible assumption)))))).mono ?_
    rintro e w7 ⟨y, ay, cy, s, hyl, hs3, rfl, hr7, hf7⟩
    have HR7 := Lib.hid hr7
    clear hr7
    have z7 := hf7.size
    obtain ⟨G, hG⟩ : ∃ G, putD y s = G := ⟨_, rfl⟩
    obtain ⟨K, hK⟩ : ∃ K, putB y s = K := ⟨_, rfl⟩
    have C5 : Hid (∀ w', StrsR w' (.slice ay y.f0.length cy) y.f0 → Calls Try.prog 35 #[.agg #[.slice ay y.f0.length cy, .int .i64 y.f1, .int .i64 y.f2], .string s] w' fun e w'' => ∃ ao' cap', e = .returned (.tuple #[.agg #[.slice ao' G.f0.length cap', .int .i64 G.f1, .int .i64 G.f2], .bool K]) ∧ Fr w' w'') := fun w' h => (implLinkPut_any y s (by omega) _ w' ⟨_, rfl, h⟩).mono fun e w'' h => by obtain ⟨a1, c1, h1, h2, h3⟩ := h; rw [hG, hK] at h1; exact ⟨a1, c1, h1, h3⟩
    have C6 : Hid (∀ w', StrsR w' (.slice ay y.f0.length cy) y.f0 → Calls Try.prog 43 #[.agg #[.slice ay y.f0.length cy, .int .i64 y.f1, .int .i64 y.f2], .string s] w' fun e w'' => ∃ ao' cap', e = .returned (.tuple #[.agg #[.slice ao' G.f0.length cap', .int .i64 G.f1, .int .i64 G.f2], .bool K]) ∧ Fr w' w'') := fun w' h => (specLinkPut_any y s (by omega) _ w' ⟨_, rfl, h⟩).mono fun e w'' h => by obtain ⟨a1, c1, h1, h2, h3⟩ := h; rw [hG, hK] at h1; exact ⟨a1, c1, h1, h3⟩
    clear hG hK
    go_wp2_with fail
    refine (C5.out _ (HR7.out.fr (by repeat (first | (with_reducible exact Fr.refl _) | (with_reducible assumption) | (with_reducible refine Fr.drewN ?_ _) | (with_reducible refine Fr.drew ?_) | (with_reducible refine Fr.alloc ?_ _) | (with_reducible refine Fr.setCell ?_ (by (first | (with_reducible assumption) | omega | (simp only [World.size_alloc, World.size_setCell, World.size_drew, World.heap_drewN]; omega) | (simp; done) | (simp; omega))) _) | (with_reducible refine Fr.trans ?_ (by with_reducible assumption)))))).mono ?_
    rintro e w8 ⟨ag, cg, rfl, hf8⟩
    have z8 := hf8.size
    simp only [World.size_alloc] at z8
    have B15 : Box w8 w7.heap.size #[.slice ay y.f0.length cy, .int .i64 y.f1, .int .i64 y.f2] 53 := (Box.new _ _ _).fr hf8
    have F15 := B15.facts
    go_wp2_with fail
    refine (C6.out _ (HR7.out.fr (by repeat (first | (with_reducible exact Fr.refl _) | (with_reducible assumption) | (with_reducible refine Fr.drewN ?_ _) | (with_reducible refine Fr.drew ?_) | (with_reducible refine Fr.alloc ?_ _) | (with_reducible refine Fr.setCell ?_ (by (first | (with_reducible assumption) | omega | (simp only [World.size_alloc, World.size_setCell, World.size_drew, World.heap_drewN]; omega) | (simp; done) | (simp; omega))) _) | (with_reducible refine Fr.trans ?_ (by with_reducible assumption)))))).mono ?_
    rintro e w9 ⟨ah, ch, rfl, hf9⟩
    have z9 := hf9.size
    simp only [World.size_alloc] at z9
    have B17 : Box w9 w8.heap.size #[.slice ag G.f0.length cg, .int .i64 G.f1, .int .i64 G.f2] 53 := (Box.new _ _ _).fr hf9
    clear F15
    have q0 : (X.toList == X.toList) = true := bytes_beq rfl
    have hf69 : Fr w6 w9 := by repeat (first | (with_reducible exact Fr.refl _) | (with_reducible assumption) | (with_reducible refine Fr.drewN ?_ _) | (with_reducible refine Fr.drew ?_) | (with_reducible refine Fr.alloc ?_ _) | (with_reducible refine Fr.setCell ?_ (by (first | (with_reducible assumption) | omega | (simp only [World.size_alloc, World.size_setCell, World.size_drew, World.heap_drewN]; omega) | (simp; done) | (simp; omega))) _) | (with_reducible refine Fr.trans ?_ (by with_reducible assumption)))
    have hf19 : Fr w1 w9 := by repeat (first | (with_reducible exact Fr.refl _) | (with_reducible assumption) | (with_reducible refine Fr.drewN ?_ _) | (with_reducible refine Fr.drew ?_) | (with_reducible refine Fr.alloc ?_ _) | (with_reducible refine Fr.setCell ?_ (by (first | (with_reducible assumption) | omega | (simp only [World.size_alloc, World.size_setCell, World.size_drew, World.heap_drewN]; omega) | (simp; done) | (simp; omega))) _) | (with_reducible refine Fr.trans ?_ (by with_reducible assumption)))
    have hf59 : Fr w5 w9 := hf6.trans hf69
    have hf49 : Fr w4 w9 := (((Fr.refl w4).alloc _).trans hf5).trans hf59
    have B3 := B3.fr hf49
    have B5 := B5.fr hf49
    have B7 := B7.fr hf49
    have B9 := B9.fr hf59
    have HP5 : Hid (PacketsR w9 _ _) := Lib.hid (HP5.out.fr hf59)
    have HP6 : Hid (PacketsR w9 _ _) := Lib.hid (HP6.out.fr hf69)
    have F5 := B5.facts
    have F7 := B7.facts
    have F17 := B17.facts
    go_wp2_with fail
    clear F5 F7 F17 B5 B7 B17 B15
    obtain ⟨_, bc, oc, _, hvc, _, _, fc⟩ := HP5.out.one
    cases hvc
    obtain ⟨_, bd, od, _, hvd, _, _, fd⟩ := HP6.out.one
    cases hvd
    have FC := Lib.hid fc
    have FD := Lib.hid fd
    clear fc fd HP5 HP6
    go_loopw [21] (fun i wr => ∃ j : Nat, j ≤ P.length ∧ i = .int .i64 j ∧ Fr w9 wr) (fun i _ => P.length - (intOf i).toNat)
    case atStart => exact ⟨0, Nat.zero_le _, rfl, by repeat (first | (with_reducible exact Fr.refl _) | (with_reducible assumption) | (with_reducible refine Fr.drewN ?_ _) | (with_reducible refine Fr.drew ?_) | (with_reducible refine Fr.alloc ?_ _) | (with_reducible refine Fr.setCell ?_ (by (first | (with_reducible assumption) | omega | (simp only [World.size_alloc, World.size_setCell, World.size_drew, World.heap_drewN]; omega) | (simp; done) | (simp; omega))) _) | (with_reducible refine Fr.trans ?_ (by with_reducible assumption)))⟩
    case round =>
      obtain ⟨j, hj, rfl, hfr⟩ := hrel
      by_cases hlt : j < P.length
      · obtain ⟨rfl, hbc, fc⟩ := FC.out (by omega)
        obtain ⟨rfl, hbd, fd⟩ := FD.out (by omega)
        obtain ⟨fc0, fc1, fc2, fc3, fc4, fc5⟩ := fc j hlt
        obtain ⟨fd0, fd1, fd2, fd3, fd4, fd5⟩ := fd j hlt
        clear fc fd
        obtain ⟨q, hq⟩ : ∃ q, packetAt P j = q := ⟨_, rfl⟩
        rw [hq] at fc0 fc1 fc2 fc3 fc4 fc5 fd0 fd1 fd2 fd3 fd4 fd5
        clear hq
        have gc0 := (hfr.cell (p := ⟨bc, _, none⟩) hbc).trans fc0
        have gc1 := (hfr.cell (p := ⟨bc, _, none⟩) hbc).trans fc1
        have gc2 := (hfr.cell (p := ⟨bc, _, none⟩) hbc).trans fc2
        have gc3 := (hfr.cell (p := ⟨bc, _, none⟩) hbc).trans fc3
        have gc4 := (hfr.cell (p := ⟨bc, _, none⟩) hbc).trans fc4
        have gc5 := (hfr.cell (p := ⟨bc, _, none⟩) hbc).trans fc5
        have gd0 := (hfr.cell (p := ⟨bd, _, none⟩) hbd).trans fd0
        have gd1 := (hfr.cell (p := ⟨bd, _, none⟩) hbd).trans fd1
        have gd2 := (hfr.cell (p := ⟨bd, _, none⟩) hbd).trans fd2
        have gd3 := (hfr.cell (p := ⟨bd, _, none⟩) hbd).trans fd3
        have gd4 := (hfr.cell (p := ⟨bd, _, none⟩) hbd).trans fd4
        have gd5 := (hfr.cell (p := ⟨bd, _, none⟩) hbd).trans fd5
        clear fc0 fc1 fc2 fc3 fc4 fc5 fd0 fd1 fd2 fd3 fd4 fd5
        have q1 : (q.f5.toList == q.f5.toList) = true := bytes_beq rfl
        go_wp2_with fail
        go_quiet (fail)
        go_wp2_with fail
        go_roundw
        case rel => exact ⟨j + 1, by omega, by go_num, by repeat (first | (with_reducible exact Fr.refl _) | (with_reducible assumption) | (with_reducible refine Fr.drewN ?_ _) | (with_reducible refine Fr.drew ?_) | (with_reducible refine Fr.alloc ?_ _) | (with_reducible refine Fr.setCell ?_ (by (first | (with_reducible assumption) | omega | (simp only [World.size_alloc, World.size_setCell, World.size_drew, World.heap_drewN]; omega) | (simp; done) | (simp; omega))) _) | (with_reducible refine Fr.trans ?_ (by with_reducible assumption)))⟩
        case measure => (simp [intOf]; omega)
      · obtain rfl : j = P.length := by omega
        have hw : Fr w wr := by repeat (first | (with_reducible exact Fr.refl _) | (with_reducible assumption) | (with_reducible refine Fr.drewN ?_ _) | (with_reducible refine Fr.drew ?_) | (with_reducible refine Fr.alloc ?_ _) | (with_reducible refine Fr.setCell ?_ (by (first | (with_reducible assumption) | omega | (simp only [World.size_alloc, World.size_setCell, World.size_drew, World.heap_drewN]; omega) | (simp; done) | (simp; omega))) _) | (with_reducible refine Fr.trans ?_ (by with_reducible assumption)))
        have HRA : Hid (∀ w', Fr wr w' → StrsR w' (.slice al d.f0.length cl) d.f0) := fun w' h => HR1.out.fr ((hf19.trans hfr).trans h)
        have HRB : Hid (∀ w', Fr wr w' → StrsR w' (.slice ax x.f0.length cx) x.f0) := fun w' h => HR4.out.fr ((hf49.trans hfr).trans h)
        have B3 := B3.fr hfr
        have B9 := B9.fr hfr
        clear HR1 HR4 FC FD HR7 hfr hf19 hf49 hf59 hf69 hf9 hf8 hf7 hf6 hf5 hf4 hf3 hf2 hf1
        obtain ⟨LB, hLB⟩ : ∃ b, linkB d.f0 d.f1 d.f2 = b := ⟨_, rfl⟩
        have C7 : Hid (∀ w', Fr wr w' → Calls Try.prog 36 #[.agg #[.slice al d.f0.length cl, .int .i64 d.f1, .int .i64 d.f2]] w' fun e w'' => e = .returned (.bool LB) ∧ Fr w' w'') := fun w' h => by rw [← hLB]; exact implLinkOk_any _ _ _ _ w' (HRA.out _ h)
        have C8 : Hid (∀ w', Fr wr w' → Calls Try.prog 44 #[.agg #[.slice al d.f0.length cl, .int .i64 d.f1, .int .i64 d.f2]] w' fun e w'' => e = .returned (.bool LB) ∧ Fr w' w'') := fun w' h => by rw [← hLB]; exact specLinkOk_any _ _ _ _ w' (HRA.out _ h)
        have C9 : Hid (∀ w', Calls Try.prog 36 #[.agg #[.slice none 0 0, .int .i64 0, .int .i64 0]] w' fun e w'' => e = .returned (.bool true) ∧ Fr w' w'') := fun w' => implLinkOk_any (.slice none 0 0) [] 0 0 w' ⟨rfl, none, 0, rfl, Nat.le_refl _, Nat.zero_le _, fun h => absurd h (by decide)⟩
        obtain ⟨SL, hSL⟩ : ∃ l, sendsL x = l := ⟨_, rfl⟩
        have C10 : Hid (∀ w', Fr wr w' → Calls Try.prog 34 #[.agg #[.slice ax x.f0.length cx, .int .i64 x.f1, .int .i64 x.f2]] w' fun e w'' => ∃ ao cap, e = .returned (.slice ao SL.length cap) ∧ IntsR w'' (.slice ao SL.length cap) SL ∧ Fr w' w'') := fun w' h => (implLinkSends_any _ x w' ⟨_, rfl, HRB.out _ h⟩).mono fun e w'' h => by obtain ⟨a1, c1, h1, h2, h3⟩ := h; rw [hSL] at h1 h2; exact ⟨a1, c1, h1, h2.rd, h3⟩
        have C11 : Hid (∀ w', Fr wr w' → Calls Try.prog 46 #[.agg #[.slice ax x.f0.length cx, .int .i64 x.f1, .int .i64 x.f2]] w' fun e w'' => ∃ ao cap, e = .returned (.slice ao SL.length cap) ∧ IntsR w'' (.slice ao SL.length cap) SL ∧ Fr w' w'') := fun w' h => (specLinkSends_any _ x w' ⟨_, rfl, HRB.out _ h⟩).mono fun e w'' h => by obtain ⟨a1, c1, h1, h2, h3⟩ := h; rw [hSL] at h1 h2; exact ⟨a1, c1, h1, h2.rd, h3⟩
        clear hLB hSL
        have d3 : ∀ w', Fr wr w' → ∀ o, w'.cell? ⟨w1.heap.size, o, none⟩ = _ := fun w' h o => (B3.fr h).cell o
        have d9 : ∀ w', Fr wr w' → ∀ o, w'.cell? ⟨w4.heap.size, o, none⟩ = _ := fun w' h o => (B9.fr h).cell o
        have q2 : (LB == LB) = true := beq_self_eq_true _
        go_wp2_with fail
        go_region_held3 (fun w' => Fr wr w') (repeat (first | (with_reducible exact Fr.refl _) | (with_reducible assumption) | (with_reducible refine Fr.drewN ?_ _) | (with_reducible refine Fr.drew ?_) | (with_reducible refine Fr.alloc ?_ _) | (with_reducible refine Fr.setCell ?_ (by (first | (with_reducible assumption) | omega | (simp only [World.size_alloc, World.size_setCell, World.size_drew, World.heap_drewN]; omega) | (simp; done) | (simp; omega))) _) | (with_reducible refine Fr.trans ?_ (by with_reducible assumption)))) (first | (go_at_call 36; with_reducible refine (C9.out _).mono ?_; rintro e wa ⟨rfl, hfa⟩) | (go_at_call 36; with_reducible refine (C7.out _ (by repeat (first | (with_reducible exact Fr.refl _) | (with_reducible assumption) | (with_reducible refine Fr.drewN ?_ _) | (with_reducible refine Fr.drew ?_) | (with_reducible refine Fr.alloc ?_ _) | (with_reducible refine Fr.setCell ?_ (by (first | (with_reducible assumption) | omega | (simp only [World.size_alloc, World.size_setCell, World.size_drew, World.heap_drewN]; omega) | (simp; done) | (simp; omega))) _) | (with_reducible refine Fr.trans ?_ (by with_reducible assumption))))).mono ?_; rintro e wb ⟨rfl, hfb⟩) | (go_at_call 44; refine (C8.out _ (by repeat (first | (with_reducible exact Fr.refl _) | (with_reducible assumption) | (with_reducible refine Fr.drewN ?_ _) | (with_reducible refine Fr.drew ?_) | (with_reducible refine Fr.alloc ?_ _) | (with_reducible refine Fr.setCell ?_ (by (first | (with_reducible assumption) | omega | (simp only [World.size_alloc, World.size_setCell, World.size_drew, World.heap_drewN]; omega) | (simp; done) | (simp; omega))) _) | (with_reducible refine Fr.trans ?_ (by with_reducible assumption))))).mono ?_; rintro e wc ⟨rfl, hfc⟩) | (go_at_call 34; refine (C10.out _ (by repeat (first | (with_reducible exact Fr.refl _) | (with_reducible assumption) | (with_reducible refine Fr.drewN ?_ _) | (with_reducible refine Fr.drew ?_) | (with_reducible refine Fr.alloc ?_ _) | (with_reducible refine Fr.setCell ?_ (by (first | (with_reducible assumption) | omega | (simp only [World.size_alloc, World.size_setCell, World.size_drew, World.heap_drewN]; omega) | (simp; done) | (simp; omega))) _) | (with_reducible refine Fr.trans ?_ (by with_reducible assumption))))).mono ?_; rintro e wd ⟨as1, cs1, rfl, hs1, hfd⟩; have HS1 := Lib.hid hs1; clear hs1) | (go_at_call 46; refine (C11.out _ (by repeat (first | (with_reducible exact Fr.refl _) | (with_reducible assumption) | (with_reducible refine Fr.drewN ?_ _) | (with_reducible refine Fr.drew ?_) | (with_reducible refine Fr.alloc ?_ _) | (with_reducible refine Fr.setCell ?_ (by (first | (with_reducible assumption) | omega | (simp only [World.size_alloc, World.size_setCell, World.size_drew, World.heap_drewN]; omega) | (simp; done) | (simp; omega))) _) | (with_reducible refine Fr.trans ?_ (by with_reducible assumption))))).mono ?_; rintro e we ⟨as2, cs2, rfl, hs2, hfe⟩; have HS2 := Lib.hid hs2; clear hs2) | (go_at_call 45; refine (sameInts_same _ _ SL _ (HS1.out.fr (by repeat (first | (with_reducible exact Fr.refl _) | (with_reducible assumption) | (with_reducible refine Fr.drewN ?_ _) | (with_reducible refine Fr.drew ?_) | (with_reducible refine Fr.alloc ?_ _) | (with_reducible refine Fr.setCell ?_ (by (first | (with_reducible assumption) | omega | (simp only [World.size_alloc, World.size_setCell, World.size_drew, World.heap_drewN]; omega) | (simp; done) | (simp; omega))) _) | (with_reducible refine Fr.trans ?_ (by with_reducible assumption))))) (HS2.out.fr (by repeat (first | (with_reducible exact Fr.refl _) | (with_reducible assumption) | (with_reducible refine Fr.drewN ?_ _) | (with_reducible refine Fr.drew ?_) | (with_reducible refine Fr.alloc ?_ _) | (with_reducible refine Fr.setCell ?_ (by (first | (with_reducible assumption) | omega | (simp only [World.size_alloc, World.size_setCell, World.size_drew, World.heap_drewN]; omega) | (simp; done) | (simp; omega))) _) | (with_reducible refine Fr.trans ?_ (by with_reducible assumption)))))).mono ?_; rintro e wf ⟨rfl, mf, rfl⟩))
        go_wp2_with fail
        go_ret
        exact ⟨rfl, by repeat (first | (with_reducible exact Fr.refl _) | (with_reducible assumption) | (with_reducible refine Fr.drewN ?_ _) | (with_reducible refine Fr.drew ?_) | (with_reducible refine Fr.alloc ?_ _) | (with_reducible refine Fr.setCell ?_ (by (first | (with_reducible assumption) | omega | (simp only [World.size_alloc, World.size_setCell, World.size_drew, World.heap_drewN]; omega) | (simp; done) | (simp; omega))) _) | (with_reducible refine Fr.trans ?_ (by with_reducible assumption)))⟩
  · go_enter Try.func7, Try.ntmps7
    go_wp2_with (go_at_call 19; refine (big_any _ _ _ _ hn).mono ?_; rintro e w0 ⟨rfl, rfl⟩)
    go_ret
    exact ⟨rfl, by repeat (first | (with_reducible exact Fr.refl _) | (with_reducible assumption) | (with_reducible refine Fr.drewN ?_ _) | (with_reducible refine Fr.drew ?_) | (with_reducible refine Fr.alloc ?_ _) | (with_reducible refine Fr.setCell ?_ (by (first | (with_reducible assumption) | omega | (simp only [World.size_alloc, World.size_setCell, World.size_drew, World.heap_drewN]; omega) | (simp; done) | (simp; omega))) _) | (with_reducible refine Fr.trans ?_ (by with_reducible assumption)))⟩
end Go.Proofs.Ytnlcgffffjjojaa
