/- The reference's relations: l06Full. Conditions: at most 12 places, a right path, a right graph. -/
import Derived.Test.YtmdgdnkllclpcaaGreatSfu
import Derived.Test.YtmdgdnkllclpcaaGreatGPen
import Derived.Test.YtmdgdnkllclpcaaGreatGMof
import Derived.Test.YtmdgdnkllclpcaaGreatSpn
import Derived.Test.YtmdgdnkllclpcaaGreatGTFilter
import Derived.Deep.QuietTactic
import Derived.BigQuiet
import Derived.Deep.RegionHeld3
namespace Go.Proofs.YtmdgdnkllclpcaaGreat
open Go.RowKit
set_option linter.unusedVariables false
set_option linter.unusedSimpArgs false
theorem info_bools : (Tryz.prog.info? 101).map (fun i => (i.zero, i.size, i.bytes)) = some (some (.slice none 0 0), 1, 24) := by kernel_rfl
def SqEW (n : Nat) (w : World) (lo hi : Nat) (u : List Value) (R : Nat → Nat → Bool) : Prop := ∃ v, u = [v] ∧ OwW w lo hi 4 1 v (n * n) (sqCells n R)
theorem SqEW.span {n : Nat} {w w' : World} {lo hi : Nat} {u : List Value} {R : Nat → Nat → Bool} {a b : Nat} (h : SqEW n w lo hi u R) (s : Span a b w w') (hd : hi ≤ a ∨ b ≤ lo) : SqEW n w' lo hi u R := by
  obtain ⟨v, h1, h2⟩ := h
  exact ⟨v, h1, h2.span s hd⟩
/-- The relations of the pieces so far: the reference's row of rows, in the blocks of [lo, hi). -/
def SqSW (n : Nat) (w : World) (lo hi : Nat) (v : Value) (acc : List (Nat → Nat → Bool)) : Prop := NestW (SqEW n) 101 1 w lo hi v acc
theorem SqSW.fr {n : Nat} {w w' : World} {lo hi : Nat} {v : Value} {acc : List (Nat → Nat → Bool)} (h : SqSW n w lo hi v acc) (hf : Fr w w') : SqSW n w' lo hi v acc := NestP.fr (E := SqEW n) (fun a b c => SqEW.span a b c) h hf
theorem SqSW.span {n : Nat} {w w' : World} {lo hi : Nat} {v : Value} {acc : List (Nat → Nat → Bool)} (h : SqSW n w lo hi v acc) {a b : Nat} (s : Span a b w w') (hd : hi ≤ a ∨ b ≤ lo) : SqSW n w' lo hi v acc := NestP.span (E := SqEW n) (fun a b c => SqEW.span a b c) h s hd
theorem SqSW.get {n : Nat} {w : World} {lo hi : Nat} {v : Value} {acc : List (Nat → Nat → Bool)} (h : SqSW n w lo hi v acc) (hn : 0 < n) {k : Nat} (hk : k < acc.length) : ∃ g cap ga ca, v = .slice (some ⟨g, 0, none⟩) acc.length cap ∧ g < hi ∧ g < w.heap.size ∧ ga < hi ∧ ga < w.heap.size ∧ w.cell? ⟨g, k, none⟩ = some (.slice (some ⟨ga, 0, none⟩) (n * n) ca) ∧ SqR w (.slice (some ⟨ga, 0, none⟩) (n * n) ca) n (nAt acc k) := by
  obtain ⟨g, cap, hv, h1, h2, h3, u, l1, h1', hu, ⟨x, rfl, hx⟩, hl1, hh1, _, hc, _⟩ := NestW.turn (E := SqEW n) (fun a b c => SqEW.span a b c) h hk (by omega)
  rcases owns_shape hx.1 with ⟨rfl, h0, _⟩ | ⟨ga, ca, rfl, h5, h6, _⟩
  · have := Nat.mul_pos hn hn
    omega
  · have h7 := hx.2 ga rfl
    have c0 := (hc 0 _ (by omega) rfl).1
    rw [show k * 1 + 0 = k by omega] at c0
    exact ⟨g, cap, ga, ca, hv, h2, h3, by omega, h6, c0, hx.rd⟩
theorem SqSW.shape {n : Nat} {w : World} {lo hi : Nat} {az : Option Addr} {k cz : Nat} {acc : List (Nat → Nat → Bool)} (h : SqSW n w lo hi (.slice az k cz) acc) (hn : 0 < n) (hk : 0 < acc.length) : ∃ g, az = some ⟨g, 0, none⟩ := by
  obtain ⟨g, cap, ga, ca, hv, _⟩ := h.get hn hk
  cases hv
  exact ⟨g, rfl⟩
theorem SqSW.nth {n : Nat} {w : World} {lo hi g : Nat} {k cz : Nat} {acc : List (Nat → Nat → Bool)} (h : SqSW n w lo hi (.slice (some ⟨g, 0, none⟩) k cz) acc) (hn : 0 < n) (hk : k = acc.length) {j : Nat} (hj : j < k) : ∃ ga ca, ga < hi ∧ ga < w.heap.size ∧ g < w.heap.size ∧ w.cell? ⟨g, j, none⟩ = some (.slice (some ⟨ga, 0, none⟩) (n * n) ca) ∧ SqR w (.slice (some ⟨ga, 0, none⟩) (n * n) ca) n (nAt acc j) := by
  obtain ⟨g', cap, ga, ca, hv, h1, h2, h3, h4, h5, h6⟩ := h.get hn (show j < acc.length by omega)
  cases hv
  exact ⟨ga, ca, h3, h4, h2, h5, h6⟩
/-- A round of the reference: all that went before, the piece's copy in block H, the new relation in block go. -/
structure FulI (w W0 : World) (L H n : Nat) (X : Array Value) (z : Value) (acc : List (Nat → Nat → Bool)) (go co : Nat) (R : Nat → Nat → Bool) : Prop where
  all : SqSW n w L H z acc
  box : Box w H X 237
  out : SqO w (H + 1) (.slice (some ⟨go, 0, none⟩) (n * n) co) n R
  fr : Fr W0 w
theorem FulI.frs {w w' W0 : World} {L H n : Nat} {X : Array Value} {z : Value} {acc : List (Nat → Nat → Bool)} {go co : Nat} {R : Nat → Nat → Bool} (h : FulI w W0 L H n X z acc go co R) (hf : Fr w w') : FulI w' W0 L H n X z acc go co R :=
  ⟨h.all.fr hf, h.box.fr hf, h.out.fr hf, h.fr.trans hf⟩
theorem FulI.lt {w W0 : World} {L H n : Nat} {X : Array Value} {z : Value} {acc : List (Nat → Nat → Bool)} {go co : Nat} {R : Nat → Nat → Bool} (h : FulI w W0 L H n X z acc go co R) : H + 1 ≤ go ∧ go < w.heap.size := World.ownsRow.lt h.out go rfl
theorem FulI.turn {w w' W0 : World} {L H n : Nat} {X : Array Value} {z : Value} {acc : List (Nat → Nat → Bool)} {go co : Nat} {R R' : Nat → Nat → Bool} (h : FulI w W0 L H n X z acc go co R) (hW : W0.heap.size ≤ H) (hs : Span go (go + 1) w w') (ho : SqO w' (H + 1) (.slice (some ⟨go, 0, none⟩) (n * n) co) n R') : FulI w' W0 L H n X z acc go co R' :=
  ⟨h.all.span hs (.inl (by have := h.lt; omega)), h.box.span hs (.inl (by have := h.lt; omega)), ho, Span.fr h.fr hs (by have := h.lt; omega)⟩
theorem FulI.new {w w' W0 : World} {L H n : Nat} {X : Array Value} {z : Value} {acc : List (Nat → Nat → Bool)} {go co g' c' : Nat} {R R' : Nat → Nat → Bool} (h : FulI w W0 L H n X z acc go co R) (hf : Fr w w') (ho : SqO w' (H + 1) (.slice (some ⟨g', 0, none⟩) (n * n) c') n R') : FulI w' W0 L H n X z acc g' c' R' :=
  ⟨h.all.fr hf, h.box.fr hf, ho, h.fr.trans hf⟩
theorem FulI.cong {w W0 : World} {L H n : Nat} {X : Array Value} {z : Value} {acc : List (Nat → Nat → Bool)} {go co : Nat} {R R' : Nat → Nat → Bool} (h : FulI w W0 L H n X z acc go co R) (e : ∀ i j, i < n → j < n → R i j = R' i j) : FulI w W0 L H n X z acc go co R' := ⟨h.all, h.box, h.out.congr e, h.fr⟩
theorem Span.cell1 {g i : Nat} {w : World} {u : Value} : Span g (g + 1) w (w.setCell ⟨g, i, none⟩ u) := by
  refine ⟨rfl, rfl, rfl, by simp, fun k hk ho => ?_⟩
  exact heap_setCell_other w ⟨g, i, none⟩ k u (by show k ≠ g; omega)
/-- Each place leads to itself, so far. -/
def dgTo (n k : Nat) (A : Nat → Nat → Bool) : Nat → Nat → Bool := fun x y => A x y || decide (x = y ∧ x < k)
theorem dgTo_all {n : Nat} {A : Nat → Nat → Bool} {x y : Nat} (hx : x < n) : dgTo n n A x y = rOr A (rId n) x y := rfl
theorem FulI.ends {w w1 w2 W0 : World} {L H n k : Nat} {X : Array Value} {az : Option Addr} {cz : Nat} {acc : List (Nat → Nat → Bool)} {go co : Nat} {R : Nat → Nat → Bool} (h : FulI w W0 L H n X (.slice az k cz) acc go co R) (hk : k = acc.length) (hLW : W0.heap.size ≤ L) (hLH : L ≤ H) (hH : H ≤ w.heap.size) {ys : List Value} {v' : Value}
    (happ : ∀ (v' : Value) (w' w'' : World) (u : List Value) (x : Nat → Nat → Bool) (l1 h1 hi' J : Nat), Fr w w' → w''.ownsRow L 101 1 v' (acc.length + 1) (ys ++ u) → w'.grownBy w'' (Value.slice az k cz).ownBlock → (v'.ownBlock = (Value.slice az k cz).ownBlock ∨ v'.ownBlock = some J) → RowIn L hi' v' → h1 ≤ J → h1 ≤ hi' → u.length = 1 → SqEW n w' l1 h1 u x → L ≤ l1 → H ≤ l1 → l1 ≤ h1 → NestW (SqEW n) 101 1 w'' L hi' v' (acc ++ [x]))
    (hf : Fr w w1) (hs1 : w1.heap.size = w.heap.size + 1) (hown : w2.ownsRow L 101 1 v' (k + 1) (ys ++ [.slice (some ⟨go, 0, none⟩) (n * n) co])) (hg : w1.grownBy w2 (Value.slice az k cz).ownBlock) (hat : v'.ownBlock = (Value.slice az k cz).ownBlock ∨ v'.ownBlock = some w1.heap.size) :
    SqSW n w2 L w2.heap.size v' (acc ++ [R]) ∧ Fr W0 w2 := by
  subst hk
  have z2 := hg.size
  refine ⟨happ v' w1 w2 _ R (H + 1) w.heap.size w2.heap.size w1.heap.size hf hown hg hat (RowIn.of_owns hown) (by omega) (by omega) rfl ⟨_, rfl, owns_fr h.out hf, fun g e => by cases e; have := h.lt; omega⟩ (by omega) (by omega) (by have := h.lt; omega), ?_⟩
  exact Fr.app (h.fr.trans hf) hg (NestW.rowIn h.all) hLW
set_option maxHeartbeats 40000000 in
set_option maxRecDepth 100000 in
theorem l06Full_any (v : Value) (ps : List PieceD) (n : Nat) (ev : Value) (es : List EdgeR) (w : World) (hn : 0 < n ∧ n ≤ 12) (hv : PiecesR w v ps) (hp : pathB ps = true) (he : EdgesR w ev es) (hin : EdgesIn n es) :
    Calls Tryz.prog 184 #[.agg #[.int .i64 (n : Int), ev], .agg #[v]] w fun e w' => ∃ az cz, e = .returned (.slice az ps.length cz) ∧ SqSW n w' (w.heap.size + 2) w'.heap.size (.slice az ps.length cz) (denR n (stR es) ps ps.length) ∧ Fr w w' := by
  obtain ⟨i0, hi, hz0, hz1, hz2⟩ := info_parts info_bool
  obtain ⟨k0, ki, kz0, kz1, kz2⟩ := info_parts info_bools
  obtain ⟨⟨hp1, hp2⟩, hpb⟩ := pathB_out hp
  have HPB := Lib.hid hpb
  have hel := he.le
  obtain ⟨av, bv, ov, cv, rfl, hcv, hmv, fv⟩ := hv.one
  have FV := Lib.hid fv
  obtain ⟨ae, be, oe, ce, rfl, hce, hme, fe⟩ := he.one
  have FE := Lib.hid fe
  have HIN := Lib.hid hin
  have HN := Lib.hid hn
  have hnn := hn.1
  have hnn2 := hn.2
  have hq0 := Nat.mul_pos hnn hnn
  have hq1 := sq_le hnn2
  have hwn := wrap_mul hnn2 hnn2
  have HSUP := Lib.hid (sup_den (n := n) (sup_st hin) ps)
  clear fv hv hp hpb fe he hin hn
  obtain ⟨W0, hW0⟩ : ∃ W0, W0 = ((w.alloc (.cells #[.int .i64 (n : Int), .slice ae es.length ce] 55)).alloc (.cells #[.slice av ps.length cv] 138)) := ⟨_, rfl⟩
  have W0s : Hid (W0.heap.size = w.heap.size + 2) := Lib.hid (by rw [hW0]; simp)
  have BG0 : Hid (Box W0 w.heap.size #[.int .i64 (n : Int), .slice ae es.length ce] 55) := Lib.hid (by rw [hW0]; exact (Box.new w _ _).alloc _)
  have BP0 : Hid (Box W0 (w.heap.size + 1) #[.slice av ps.length cv] 138) := Lib.hid (by rw [hW0]; exact Box.new' (by simp))
  have HFW : Hid (Fr w W0) := Lib.hid (by rw [hW0]; repeat (first | (with_reducible exact Fr.refl _) | (with_reducible assumption) | (with_reducible refine Fr.drewN ?_ _) | (with_reducible refine Fr.drew ?_) | (with_reducible refine Fr.alloc ?_ _) | (with_reducible refine Fr.setCell ?_ (by exact Qz) _) | (with_reducible refine Fr.trans ?_ (by with_reducible assumption))))
  have HW0 := Lib.hid hW0
  clear hW0
  go_enter Tryz.func184, Tryz.ntmps184
  go_wp2_with fail
  go_loopw [6, 7] (fun z i wr => ∃ (k : Nat) (az : Option Addr) (cz : Nat), k ≤ ps.length ∧ i = .int .i64 k ∧ z = .slice az k cz ∧ Hid (SqSW n wr (w.heap.size + 2) wr.heap.size (.slice az k cz) (denR n (stR es) ps k)) ∧ Fr (W0) wr) (fun _ i _ => ps.length - (intOf i).toNat)
  case atStart => exact ⟨0, _, 0, Nat.zero_le _, rfl, rfl, Lib.hid (NestP.none_yet ⟨by first | exact made_empty (by simp) (by simp) | exact made_empty (by simp) (by omega), RowIn.one (by simp) (by simp)⟩), by rw [HW0.out]; repeat (first | (with_reducible exact Fr.refl _) | (with_reducible assumption) | (with_reducible refine Fr.drewN ?_ _) | (with_reducible refine Fr.drew ?_) | (with_reducible refine Fr.alloc ?_ _) | (with_reducible refine Fr.setCell ?_ (by exact Qz) _) | (with_reducible refine Fr.trans ?_ (by with_reducible assumption)))⟩
  case round =>
    obtain ⟨k, az, cz, hk, rfl, rfl, HA, hfr0⟩ := hrel
    have hfr : Fr w wr := Fr.trans HFW.out hfr0
    have zr := hfr0.size
    have BG := BG0.out.fr hfr0
    have BP := BP0.out.fr hfr0
    have FG := BG.facts
    have FP := BP.facts
    rw [W0s.out] at zr
    by_cases hlt : k < ps.length
    · obtain ⟨rfl, hbv, fv⟩ := FV.out (by omega)
      obtain ⟨va, ha, g0, g1, g2⟩ := fv k hlt
      have hpc := piece_cases (HPB.out k hlt)
      have hden : denR n (stR es) ps (k + 1) = denR n (stR es) ps k ++ [stepR n (stR es) (denR n (stR es) ps k) (nAt ps k)] := by rw [denR]
      have hal := denR_len n (stR es) ps k
      have hsup := HSUP.out k
      obtain ⟨acc, hacc⟩ : ∃ acc, denR n (stR es) ps k = acc := ⟨_, rfl⟩
      rw [hacc] at HA hal hden hsup
      obtain ⟨x, hx⟩ : ∃ x, nAt ps k = x := ⟨_, rfl⟩
      rw [hx] at ha g0 g1 hpc hden
      have c0 := (hfr.cell (p := ⟨bv, _, none⟩) hbv).trans g0
      have c1 := (hfr.cell (p := ⟨bv, _, none⟩) hbv).trans g1
      have c2 := (hfr.cell (p := ⟨bv, _, none⟩) hbv).trans g2
      obtain ⟨aa, ba, oa, ca, rfl, hca, hma, fa⟩ := ha.one
      have FA := Lib.hid fa
      have hxl := x.f1.toNat_lt
      have HAL : acc.length ≤ k ∧ k ≤ acc.length := by omega
      obtain ⟨x0, x1, x2⟩ := x
      simp only [] at c0 c1 c2 hxl FA hca hpc
      have HD0 := Lib.hid hden
      have HIL : Hid (k = acc.length) := Lib.hid hal.symm
      have HSU := Lib.hid hsup
      have HLH : Hid (w.heap.size + 2 ≤ wr.heap.size) := Lib.hid zr
      obtain ⟨H, hH⟩ : ∃ H, H = wr.heap.size := ⟨_, rfl⟩
      have HHS := Lib.hid hH
      clear fv ha g0 g1 g2 hx fa hacc hden hal hsup hH
      rcases hpc with rfl | ⟨rfl | rfl, hl2, hks⟩ | ⟨rfl | rfl | rfl, hl1, j, hj, hjk⟩
      · -- a step
        have HD : Hid (denR n (stR es) ps (k + 1) = acc ++ [stR es x1]) := Lib.hid (by rw [HD0.out]; simp [stepR])
        clear HD0
        go_wp2_with (at_make; refine wpList_make_full _ rfl _ _ 101 rfl (wr.heap.size + 1) 4 i0 (.bool false) 1 Tryz.underlying101 hi hz0 hz1 _ _ _ _ (n * n) rfl rfl rfl rfl (by rw [hz2]; omega) (by unfold maxLen; omega) (by exact Qz) ?_; intro w5 hown hgrow; have hf5 : Fr (wr.alloc (.cells (#[.int .i64 1, .int .u8 (x1.toNat : Int), .slice aa x2.length ca]) 237)) w5 := (Fr.refl _).grown hgrow (by simp); have z5 := hf5.size; (try simp only [World.size_alloc, World.size_setCell, World.size_drew, World.heap_drewN] at z5); have BX5 := (Box.new wr (#[.int .i64 1, .int .u8 (x1.toNat : Int), .slice aa x2.length ca]) 237).fr hf5; have FX5 := BX5.facts; have BG5 := BG.fr (show Fr wr w5 by exact Qf); have FG5 := BG5.facts; have BP5 := BP.fr (show Fr wr w5 by exact Qf))
        (have hown : SqO w5 (wr.heap.size + 1) (.slice (some ⟨wr.heap.size + 1, 0, none⟩) (n * n) (n * n)) n rNo := (by rw [show (madeCells (Value.cells (.bool false)) (n * n * 1)).toList = sqCells n rNo from by rw [sqCells_no, Nat.mul_one]; exact toList_madeCells_one _ _] at hown; unfold SqO; first | exact hown | (simpa using hown)); have I5 : FulI w5 W0 (w.heap.size + 2) wr.heap.size n (#[.int .i64 1, .int .u8 (x1.toNat : Int), .slice aa x2.length ca]) (.slice (az) k cz) acc (wr.heap.size + 1) (n * n) rNo := ⟨HA.out.fr (show Fr wr w5 by exact Qf), BX5, hown, hfr0.trans (show Fr wr w5 by exact Qf)⟩; skip)
        have hH5 : H + 1 < w5.heap.size := by have := HHS.out; have := I5.lt; omega
        have HI5 : Hid (FulI w5 W0 (w.heap.size + 2) H n (#[.int .i64 1, .int .u8 (x1.toNat : Int), .slice aa x2.length ca]) (.slice (az) k cz) acc (H + 1) (n * n) rNo) := Lib.hid (by rw [HHS.out]; exact I5)
        rw [← HHS.out] at HLH
        rw [← HHS.out]
        clear hown hgrow BX5 FX5 BG5 FG5 BP5 I5 HHS BG BP FG FP c0 c1 c2
        go_loopw [10] (fun i wr => ∃ q : Nat, q ≤ es.length ∧ i = .int .i64 q ∧ Hid (FulI wr W0 (w.heap.size + 2) H n (#[.int .i64 1, .int .u8 (x1.toNat : Int), .slice aa x2.length ca]) (.slice az k cz) acc (H + 1) (n * n) (stR (es.take q) x1))) (fun i _ => es.length - (intOf i).toNat)
        case atStart => exact ⟨0, Nat.zero_le _, rfl, Lib.hid (HI5.out.cong fun i j _ _ => by simp [stR, rNo])⟩
        case round =>
          clear HI5 hfr hfr0 HA hf5 z5 hH5
          obtain ⟨q, hq, rfl, I⟩ := hrel
          have BGr := BG0.out.fr I.out.fr; have FGr := BGr.facts; have BPr := BP0.out.fr I.out.fr; have FPr := BPr.facts; have BXr := I.out.box; have FXr := BXr.facts; have hIl := I.out.lt
          have hfw : Fr w wr := Fr.trans HFW.out I.out.fr
          by_cases hqt : q < es.length
          · obtain ⟨rfl, hbe, fe⟩ := FE.out (by omega)
            obtain ⟨g0, g1, g2⟩ := fe q hqt
            obtain ⟨hi0, hi2⟩ := HIN.out q hqt
            have hstep := fun i j => stR_take hqt x1 i j
            obtain ⟨y, hy⟩ : ∃ y, edgeAt es q = y := ⟨_, rfl⟩
            rw [hy] at g0 g1 g2 hi0 hi2
            have HST : Hid (∀ i j, stR (es.take (q + 1)) x1 i j = (stR (es.take q) x1 i j || (decide (y.f1 = x1) && (decide (y.f0 = (i : Int)) && decide (y.f2 = (j : Int)))))) := Lib.hid (by rw [← hy]; exact hstep)
            have c0 := (hfw.cell (p := ⟨be, _, none⟩) hbe).trans g0
            have c1 := (hfw.cell (p := ⟨be, _, none⟩) hbe).trans g1
            have c2 := (hfw.cell (p := ⟨be, _, none⟩) hbe).trans g2
            clear fe hy hstep g0 g1 g2
            obtain ⟨y0, y1, y2⟩ := y
            simp only [] at c0 c1 c2 hi0 hi2 HST
            have hyl := y1.toNat_lt
            obtain ⟨p, rfl⟩ := Int.eq_ofNat_of_zero_le hi0.1
            obtain ⟨r, rfl⟩ := Int.eq_ofNat_of_zero_le hi2.1
            have hpn : p < n := by omega
            have hrn : r < n := by omega
            have hw1 := wrap_mul (i := p) (n := n) (by omega) hnn2
            have hw2 := wrap_at (i := p) (n := n) (k := r) (by omega) hnn2 (by omega)
            have hpr := sq_lt hpn hrn
            clear hi0 hi2
            obtain ⟨g', cap', hv, hg1, hg2, hc0, hc, hz⟩ := I.out.out.one hnn
            cases hv
            have d1 := hc p r hpn hrn
            have z1 := hz (p * n + r)
            clear hc hz hc0
            by_cases hl : y1 = x1
            · subst hl
              have I2 : Hid (∀ wq, Fr wr wq → FulI (wq.setCell ⟨H + 1, p * n + r, none⟩ (.bool true)) W0 (w.heap.size + 2) H n #[.int .i64 1, .int .u8 (y1.toNat : Int), .slice aa x2.length ca] (.slice az k cz) acc (H + 1) (n * n) (stR (es.take (q + 1)) y1)) := Lib.hid fun wq hq => ((I.out.frs hq).turn (by rw [W0s.out]; exact HLH.out) Span.cell1 (SqO.set (I.out.frs hq).out hpn hrn true)).cong fun i j _ _ => by
                rw [HST.out]
                by_cases e : i = p ∧ j = r
                · rw [if_pos e, e.1, e.2]
                  simp
                · rw [if_neg e]
                  have : (decide ((p : Int) = (i : Int)) && decide ((r : Int) = (j : Int))) = false := by
                    rw [Bool.and_eq_false_iff, decide_eq_false_iff_not, decide_eq_false_iff_not]
                    omega
                  rw [this]
                  simp
              clear HST
              go_wp2_with fail
              go_quiet (fail)
              go_wp2_with fail
              go_region
              all_goals
                go_wp2_with fail
                go_roundw
                case rel => exact ⟨q + 1, by omega, by go_num, by first | exact Lib.hid (I2.out _ (by exact Qf)) | exact Lib.hid ((I2.out _ (Fr.refl _)).frs (by exact Qf))⟩
                case measure => (simp [intOf]; omega)
            · have hb3 : ((y1.toNat : Int) == (x1.toNat : Int)) = false := by rw [beq_eq_false_iff_ne, Ne, byte_eq]; exact hl
              have I2 : Hid (FulI wr W0 (w.heap.size + 2) H n (#[.int .i64 1, .int .u8 (x1.toNat : Int), .slice aa x2.length ca]) (.slice az k cz) acc (H + 1) (n * n) (stR (es.take (q + 1)) x1)) := Lib.hid (I.out.cong fun i j _ _ => by
                rw [HST.out, decide_eq_false hl]
                simp)
              clear HST hl
              go_wp2_with fail
              go_quiet (fail)
              go_wp2_with fail
              go_roundw
              case rel => exact ⟨q + 1, by omega, by go_num, Lib.hid (I2.out.frs (by exact Qf))⟩
              case measure => (simp [intOf]; omega)
          · have I2 : Hid (FulI wr W0 (w.heap.size + 2) H n (#[.int .i64 1, .int .u8 (x1.toNat : Int), .slice aa x2.length ca]) (.slice az k cz) acc (H + 1) (n * n) (stR es x1)) := Lib.hid (by have := I.out; rw [List.take_of_length_le (by omega)] at this; exact this)
            clear I
            have I := I2
            (have hWs := W0s.out; have hHs := I.out.box.lt; obtain ⟨ys, hys, happ⟩ := NestW.app (E := SqEW n) (fun a b c => SqEW.span a b c) I.out.all; rw [← HIL.out] at hys; have HYS := Lib.hid hys; have HAPP := Lib.hid happ; clear hys happ; go_wp2_with (at_builtin; (refine wpList_append_rd rfl _ _ 238 rfl (w.heap.size + 2) 101 k0 (.slice none 0 0) 1 24 Tryz.underlying238 ki kz0 kz1 kz2 rfl (by decide) (.slice (az) k cz) k ys rfl (World.ownsRow.alloc HYS.out.1 _) _ 1 [.slice (some ⟨H + 1, 0, none⟩) (n * n) (n * n)] rfl (RdS.new (by first | rfl | (simp; done)) rfl) (by simp [Value.oneCell']) (by unfold maxLen; omega) (by omega) (by exact Qz) ?_; intro ay cy w9 hown9 hgrow9 hat9)); have HE := Lib.hid (I.out.ends HIL.out (by omega) HLH.out (by omega) HAPP.out ((Fr.refl _).alloc _) (by simp) hown9 hgrow9 hat9); go_roundw; (case rel => exact ⟨k + 1, ay, cy, by omega, by go_num, rfl, Lib.hid (HD.out ▸ HE.out.1), HE.out.2⟩); (case measure => (simp [intOf]; omega)))
      · -- a row
        have HD : Hid (denR n (stR es) ps (k + 1) = acc ++ [rowR n acc x2 x2.length]) := Lib.hid (by rw [HD0.out]; simp [stepR])
        clear HD0
        obtain ⟨j, hj, hjk⟩ := hks 0 (by omega)
        obtain ⟨g, rfl⟩ := HA.out.shape hnn (by omega)
        obtain ⟨rfl, hba, fa⟩ := FA.out (by omega)
        have hjl : j < ps.length := by omega
        have hl0 : 0 < x2.length := by omega
        go_wp2_with (first | (at_make; refine wpList_make_full _ rfl _ _ 101 rfl (wr.heap.size + 1) 4 i0 (.bool false) 1 Tryz.underlying101 hi hz0 hz1 _ _ _ _ (n * n) rfl rfl rfl rfl (by rw [hz2]; omega) (by unfold maxLen; omega) (by exact Qz) ?_; intro w5 hown hgrow; have hf5 : Fr (wr.alloc (.cells (#[.int .i64 2, .int .u8 (x1.toNat : Int), .slice (some ⟨ba, oa, none⟩) x2.length ca]) 237)) w5 := (Fr.refl _).grown hgrow (by simp); have z5 := hf5.size; (try simp only [World.size_alloc, World.size_setCell, World.size_drew, World.heap_drewN] at z5); have BX5 := (Box.new wr (#[.int .i64 2, .int .u8 (x1.toNat : Int), .slice (some ⟨ba, oa, none⟩) x2.length ca]) 237).fr hf5; have FX5 := BX5.facts; have BG5 := BG.fr (show Fr wr w5 by exact Qf); have FG5 := BG5.facts; have BP5 := BP.fr (show Fr wr w5 by exact Qf); have hba5 : ba < w5.heap.size := (by have := hfr.size; omega); have d5 : w5.cell? ⟨ba, oa, none⟩ = some (.int .i64 (j : Int)) := (((hfr.trans (show Fr wr w5 by exact Qf)).cell (p := ⟨ba, _, none⟩) hba).trans (hj ▸ fa 0 (by omega))); obtain ⟨ga, ca2, hg1, hg2, hg3, s5, r5⟩ := (HA.out.fr (show Fr wr w5 by exact Qf)).nth hnn HIL.out hjk; have hg4 := BX5.lt) | (at_builtin; refine wpList_append_rd rfl _ _ 101 rfl (wr.heap.size + 1) 4 i0 (.bool false) 1 1 Tryz.underlying101 hi hz0 hz1 hz2 rfl (by decide) (.slice (some ⟨w5.heap.size, 0, none⟩) 0 0) 0 [] rfl (World.ownsRow_made w5 #[] 0 (by omega) (Nat.zero_le _) rfl) _ (n * n) (sqCells n (nAt acc j)) rfl (RdS.fr r5 (by exact Qf)) (oneCells_sq _ _) (by unfold maxLen; omega) (by omega) (by exact Qz) ?_; intro a7 c7 w7 hown7 hgrow7 hat7))
        (have hown : SqO w5 (wr.heap.size + 1) (.slice (some ⟨wr.heap.size + 1, 0, none⟩) (n * n) (n * n)) n rNo := (by rw [show (madeCells (Value.cells (.bool false)) (n * n * 1)).toList = sqCells n rNo from by rw [sqCells_no, Nat.mul_one]; exact toList_madeCells_one _ _] at hown; unfold SqO; first | exact hown | (simpa using hown)); have I5 : FulI w5 W0 (w.heap.size + 2) wr.heap.size n (#[.int .i64 2, .int .u8 (x1.toNat : Int), .slice (some ⟨ba, oa, none⟩) x2.length ca]) (.slice (some ⟨g, 0, none⟩) k cz) acc (wr.heap.size + 1) (n * n) rNo := ⟨HA.out.fr (show Fr wr w5 by exact Qf), BX5, hown, hfr0.trans (show Fr wr w5 by exact Qf)⟩; skip)
        have hH5 : H + 1 < w5.heap.size := by have := HHS.out; have := I5.lt; omega
        have HI5 : Hid (FulI w5 W0 (w.heap.size + 2) H n (#[.int .i64 2, .int .u8 (x1.toNat : Int), .slice (some ⟨ba, oa, none⟩) x2.length ca]) (.slice (some ⟨g, 0, none⟩) k cz) acc (H + 1) (n * n) rNo) := Lib.hid (by rw [HHS.out]; exact I5)
        rw [← HHS.out] at HLH
        have hf7 : Fr w5 w7 := ((Fr.refl _).alloc _).grown hgrow7 (by intro k hk; simp [Value.ownBlock] at hk; omega)
        simp only [Nat.zero_add, List.nil_append] at hown7
        obtain ⟨g7, c7', hv7, _⟩ := SqO.one (show SqO w7 (wr.heap.size + 1) (.slice a7 (n * n) c7) n (nAt acc j) from hown7) hnn
        cases hv7
        have hr1 : rowR n acc x2 1 = nAt acc j := by rw [row_next hj, rowR]; exact id_comp (HSU.out j)
        have HI7 : Hid (FulI w7 W0 (w.heap.size + 2) H n (#[.int .i64 2, .int .u8 (x1.toNat : Int), .slice (some ⟨ba, oa, none⟩) x2.length ca]) (.slice (some ⟨g, 0, none⟩) k cz) acc g7 c7 (rowR n acc x2 1)) := Lib.hid (by rw [hr1]; exact HI5.out.new hf7 (by rw [HHS.out]; exact hown7))
        rw [← HHS.out]
        clear hown hgrow BX5 FX5 BG5 FG5 BP5 I5 HHS BG BP FG FP c0 c1 c2 hown7 hgrow7 hr1 d5 s5 r5 hj HI5
        try simp only [Nat.zero_add]
        go_loopw [9, 11] (fun z i wr => ∃ q go co : Nat, 1 ≤ q ∧ q ≤ x2.length ∧ i = .int .i64 q ∧ z = .slice (some ⟨go, 0, none⟩) (n * n) co ∧ Hid (FulI wr W0 (w.heap.size + 2) H n (#[.int .i64 2, .int .u8 (x1.toNat : Int), .slice (some ⟨ba, oa, none⟩) x2.length ca]) (.slice (some ⟨g, 0, none⟩) k cz) acc go co (rowR n acc x2 q))) (fun _ i _ => x2.length - (intOf i).toNat)
        case atStart => exact ⟨1, g7, c7, Nat.le_refl _, by omega, rfl, rfl, HI7⟩
        case round =>
          clear HI7 hfr hfr0 HA hf5 z5 hH5 hf7 hg1 hg2 hg3 hg4 hba5
          obtain ⟨q, go, co, hq1, hq, rfl, rfl, I⟩ := hrel
          have BGr := BG0.out.fr I.out.fr; have FGr := BGr.facts; have BPr := BP0.out.fr I.out.fr; have FPr := BPr.facts; have BXr := I.out.box; have FXr := BXr.facts; have hIl := I.out.lt
          have hfw : Fr w wr := Fr.trans HFW.out I.out.fr
          by_cases hqt : q < x2.length
          · clear hjk hjl
            obtain ⟨j, hj, hjk⟩ := hks q hqt
            have hjl : j < ps.length := by omega
            have d0 := (hfw.cell (p := ⟨ba, _, none⟩) hba).trans (hj ▸ fa q hqt)
            obtain ⟨ga, ca2, hg1, hg2, hg3, s1, r1⟩ := I.out.all.nth hnn HIL.out hjk
            have hban : ba ≠ wr.heap.size := by have := hfw.size; omega
            have CB : Hid (Calls Tryz.prog 206 #[.slice (some ⟨go, 0, none⟩) (n * n) co, .slice (some ⟨ga, 0, none⟩) (n * n) ca2, .int .i64 (n : Int)] wr fun e w' => e = .returned (.slice (some ⟨wr.heap.size, 0, none⟩) (n * n) (n * n)) ∧ FulI w' W0 (w.heap.size + 2) H n (#[.int .i64 2, .int .u8 (x1.toNat : Int), .slice (some ⟨ba, oa, none⟩) x2.length ca]) (.slice (some ⟨g, 0, none⟩) k cz) acc wr.heap.size (n * n) (rowR n acc x2 (q + 1))) := Lib.hid ((l06Behind_any _ _ n _ _ wr HN.out I.out.out.rd r1).mono fun e w' ⟨e1, e2, e3⟩ => ⟨e1, I.out.new e3 (owns_lo (by rw [row_next hj]; exact e2) (by omega))⟩)
            clear r1 hj
            go_wp2_with fail
            refine CB.out.mono ?_
            rintro e w6 ⟨rfl, i6⟩
            have I6 := Lib.hid i6
            clear i6 CB
            go_wp2_with fail
            go_roundw
            case rel => exact ⟨q + 1, _, _, by omega, by omega, by go_num, rfl, I6⟩
            case measure => (simp [intOf]; omega)
          · obtain rfl : q = x2.length := by omega
            (have hWs := W0s.out; have hHs := I.out.box.lt; obtain ⟨ys, hys, happ⟩ := NestW.app (E := SqEW n) (fun a b c => SqEW.span a b c) I.out.all; rw [← HIL.out] at hys; have HYS := Lib.hid hys; have HAPP := Lib.hid happ; clear hys happ; go_wp2_with (at_builtin; (refine wpList_append_rd rfl _ _ 238 rfl (w.heap.size + 2) 101 k0 (.slice none 0 0) 1 24 Tryz.underlying238 ki kz0 kz1 kz2 rfl (by decide) (.slice (some ⟨g, 0, none⟩) k cz) k ys rfl (World.ownsRow.alloc HYS.out.1 _) _ 1 [.slice (some ⟨go, 0, none⟩) (n * n) (co)] rfl (RdS.new (by first | rfl | (simp; done)) rfl) (by simp [Value.oneCell']) (by unfold maxLen; omega) (by omega) (by exact Qz) ?_; intro ay cy w9 hown9 hgrow9 hat9)); have HE := Lib.hid (I.out.ends HIL.out (by omega) HLH.out (by omega) HAPP.out ((Fr.refl _).alloc _) (by simp) hown9 hgrow9 hat9); go_roundw; (case rel => exact ⟨k + 1, ay, cy, by omega, by go_num, rfl, Lib.hid (HD.out ▸ HE.out.1), HE.out.2⟩); (case measure => (simp [intOf]; omega)))
      · -- a choice
        have HD : Hid (denR n (stR es) ps (k + 1) = acc ++ [altR acc x2 x2.length]) := Lib.hid (by rw [HD0.out]; simp [stepR])
        clear HD0
        obtain ⟨j0, hj0, hjk0⟩ := hks 0 (by omega)
        obtain ⟨g, rfl⟩ := HA.out.shape hnn (by omega)
        obtain ⟨rfl, hba, fa⟩ := FA.out (by omega)
        go_wp2_with (at_make; refine wpList_make_full _ rfl _ _ 101 rfl (wr.heap.size + 1) 4 i0 (.bool false) 1 Tryz.underlying101 hi hz0 hz1 _ _ _ _ (n * n) rfl rfl rfl rfl (by rw [hz2]; omega) (by unfold maxLen; omega) (by exact Qz) ?_; intro w5 hown hgrow; have hf5 : Fr (wr.alloc (.cells (#[.int .i64 3, .int .u8 (x1.toNat : Int), .slice (some ⟨ba, oa, none⟩) x2.length ca]) 237)) w5 := (Fr.refl _).grown hgrow (by simp); have z5 := hf5.size; (try simp only [World.size_alloc, World.size_setCell, World.size_drew, World.heap_drewN] at z5); have BX5 := (Box.new wr (#[.int .i64 3, .int .u8 (x1.toNat : Int), .slice (some ⟨ba, oa, none⟩) x2.length ca]) 237).fr hf5; have FX5 := BX5.facts; have BG5 := BG.fr (show Fr wr w5 by exact Qf); have FG5 := BG5.facts; have BP5 := BP.fr (show Fr wr w5 by exact Qf))
        (have hown : SqO w5 (wr.heap.size + 1) (.slice (some ⟨wr.heap.size + 1, 0, none⟩) (n * n) (n * n)) n rNo := (by rw [show (madeCells (Value.cells (.bool false)) (n * n * 1)).toList = sqCells n rNo from by rw [sqCells_no, Nat.mul_one]; exact toList_madeCells_one _ _] at hown; unfold SqO; first | exact hown | (simpa using hown)); have I5 : FulI w5 W0 (w.heap.size + 2) wr.heap.size n (#[.int .i64 3, .int .u8 (x1.toNat : Int), .slice (some ⟨ba, oa, none⟩) x2.length ca]) (.slice (some ⟨g, 0, none⟩) k cz) acc (wr.heap.size + 1) (n * n) rNo := ⟨HA.out.fr (show Fr wr w5 by exact Qf), BX5, hown, hfr0.trans (show Fr wr w5 by exact Qf)⟩; skip)
        have hH5 : H + 1 < w5.heap.size := by have := HHS.out; have := I5.lt; omega
        have HI5 : Hid (FulI w5 W0 (w.heap.size + 2) H n (#[.int .i64 3, .int .u8 (x1.toNat : Int), .slice (some ⟨ba, oa, none⟩) x2.length ca]) (.slice (some ⟨g, 0, none⟩) k cz) acc (H + 1) (n * n) rNo) := Lib.hid (by rw [HHS.out]; exact I5)
        rw [← HHS.out] at HLH
        rw [← HHS.out]
        clear hown hgrow BX5 FX5 BG5 FG5 BP5 I5 HHS BG BP FG FP c0 c1 c2
        go_loopw [12] (fun i wr => ∃ q : Nat, q ≤ x2.length ∧ i = .int .i64 q ∧ Hid (FulI wr W0 (w.heap.size + 2) H n (#[.int .i64 3, .int .u8 (x1.toNat : Int), .slice (some ⟨ba, oa, none⟩) x2.length ca]) (.slice (some ⟨g, 0, none⟩) k cz) acc (H + 1) (n * n) (altR acc x2 q))) (fun i _ => x2.length - (intOf i).toNat)
        case atStart => exact ⟨0, Nat.zero_le _, rfl, HI5⟩
        case round =>
          clear HI5 hfr hfr0 HA hf5 z5 hH5
          obtain ⟨q, hq, rfl, I⟩ := hrel
          have BGr := BG0.out.fr I.out.fr; have FGr := BGr.facts; have BPr := BP0.out.fr I.out.fr; have FPr := BPr.facts; have BXr := I.out.box; have FXr := BXr.facts; have hIl := I.out.lt
          have hfw : Fr w wr := Fr.trans HFW.out I.out.fr
          by_cases hqt : q < x2.length
          · obtain ⟨j, hj, hjk⟩ := hks q hqt
            have hjl : j < ps.length := by omega
            have d0 := (hfw.cell (p := ⟨ba, _, none⟩) hba).trans (hj ▸ fa q hqt)
            obtain ⟨ga, ca2, hg1, hg2, hg3, s1, r1⟩ := I.out.all.nth hnn HIL.out hjk
            have CO : Hid (Calls Tryz.prog 207 #[.slice (some ⟨H + 1, 0, none⟩) (n * n) (n * n), .slice (some ⟨ga, 0, none⟩) (n * n) ca2] wr fun e w' => e = .returned (.tuple #[]) ∧ FulI w' W0 (w.heap.size + 2) H n (#[.int .i64 3, .int .u8 (x1.toNat : Int), .slice (some ⟨ba, oa, none⟩) x2.length ca]) (.slice (some ⟨g, 0, none⟩) k cz) acc (H + 1) (n * n) (altR acc x2 (q + 1))) := Lib.hid ((l06Or_any (H + 1) (H + 1) (n * n) n _ _ _ wr HN.out I.out.out r1 (fun a m c e => by cases e; show ga ≠ H + 1; omega)).mono fun e w' ⟨e1, e2, e3⟩ => ⟨e1, by rw [alt_next hj]; exact I.out.turn (by rw [W0s.out]; exact HLH.out) e3 e2⟩)
            clear r1 hj
            go_wp2_with fail
            refine CO.out.mono ?_
            rintro e w6 ⟨rfl, i6⟩
            have I6 := Lib.hid i6
            clear i6 CO
            go_wp2_with fail
            go_roundw
            case rel => exact ⟨q + 1, by omega, by go_num, I6⟩
            case measure => (simp [intOf]; omega)
          · obtain rfl : q = x2.length := by omega
            (have hWs := W0s.out; have hHs := I.out.box.lt; obtain ⟨ys, hys, happ⟩ := NestW.app (E := SqEW n) (fun a b c => SqEW.span a b c) I.out.all; rw [← HIL.out] at hys; have HYS := Lib.hid hys; have HAPP := Lib.hid happ; clear hys happ; go_wp2_with (at_builtin; (refine wpList_append_rd rfl _ _ 238 rfl (w.heap.size + 2) 101 k0 (.slice none 0 0) 1 24 Tryz.underlying238 ki kz0 kz1 kz2 rfl (by decide) (.slice (some ⟨g, 0, none⟩) k cz) k ys rfl (World.ownsRow.alloc HYS.out.1 _) _ 1 [.slice (some ⟨H + 1, 0, none⟩) (n * n) (n * n)] rfl (RdS.new (by first | rfl | (simp; done)) rfl) (by simp [Value.oneCell']) (by unfold maxLen; omega) (by omega) (by exact Qz) ?_; intro ay cy w9 hown9 hgrow9 hat9)); have HE := Lib.hid (I.out.ends HIL.out (by omega) HLH.out (by omega) HAPP.out ((Fr.refl _).alloc _) (by simp) hown9 hgrow9 hat9); go_roundw; (case rel => exact ⟨k + 1, ay, cy, by omega, by go_num, rfl, Lib.hid (HD.out ▸ HE.out.1), HE.out.2⟩); (case measure => (simp [intOf]; omega)))
      · -- again and again
        obtain ⟨g, rfl⟩ := HA.out.shape hnn (by omega)
        obtain ⟨rfl, hba, fa⟩ := FA.out (by omega)
        have hkj : kAt x2 0 = j := by unfold kAt; rw [hj]; simp
        have hjl : j < ps.length := by omega
        have hl0 : 0 < x2.length := by omega
        have HD : Hid (denR n (stR es) ps (k + 1) = acc ++ [rOr (wsh (nAt acc j) n) (rId n)]) := Lib.hid (by rw [HD0.out]; simp [stepR, hkj])
        clear HD0 hkj
        go_wp2_with (at_make; refine wpList_make_full _ rfl _ _ 101 rfl (wr.heap.size + 1) 4 i0 (.bool false) 1 Tryz.underlying101 hi hz0 hz1 _ _ _ _ (n * n) rfl rfl rfl rfl (by rw [hz2]; omega) (by unfold maxLen; omega) (by exact Qz) ?_; intro w5 hown hgrow; have hf5 : Fr (wr.alloc (.cells (#[.int .i64 4, .int .u8 (x1.toNat : Int), .slice (some ⟨ba, oa, none⟩) 1 ca]) 237)) w5 := (Fr.refl _).grown hgrow (by simp); have z5 := hf5.size; (try simp only [World.size_alloc, World.size_setCell, World.size_drew, World.heap_drewN] at z5); have BX5 := (Box.new wr (#[.int .i64 4, .int .u8 (x1.toNat : Int), .slice (some ⟨ba, oa, none⟩) 1 ca]) 237).fr hf5; have FX5 := BX5.facts; have BG5 := BG.fr (show Fr wr w5 by exact Qf); have FG5 := BG5.facts; have BP5 := BP.fr (show Fr wr w5 by exact Qf); have hba5 : ba < w5.heap.size := (by have := hfr.size; omega); have d5 : w5.cell? ⟨ba, oa, none⟩ = some (.int .i64 (j : Int)) := (((hfr.trans (show Fr wr w5 by exact Qf)).cell (p := ⟨ba, _, none⟩) hba).trans (hj ▸ fa 0 (by omega))); obtain ⟨ga, ca2, hg1, hg2, hg3, s5, r5⟩ := (HA.out.fr (show Fr wr w5 by exact Qf)).nth hnn HIL.out hjk; have hg4 := BX5.lt)
        (have hown : SqO w5 (wr.heap.size + 1) (.slice (some ⟨wr.heap.size + 1, 0, none⟩) (n * n) (n * n)) n rNo := (by rw [show (madeCells (Value.cells (.bool false)) (n * n * 1)).toList = sqCells n rNo from by rw [sqCells_no, Nat.mul_one]; exact toList_madeCells_one _ _] at hown; unfold SqO; first | exact hown | (simpa using hown)); have I5 : FulI w5 W0 (w.heap.size + 2) wr.heap.size n (#[.int .i64 4, .int .u8 (x1.toNat : Int), .slice (some ⟨ba, oa, none⟩) 1 ca]) (.slice (some ⟨g, 0, none⟩) k cz) acc (wr.heap.size + 1) (n * n) rNo := ⟨HA.out.fr (show Fr wr w5 by exact Qf), BX5, hown, hfr0.trans (show Fr wr w5 by exact Qf)⟩; skip)
        have hH5 : H + 1 < w5.heap.size := by have := HHS.out; have := I5.lt; omega
        have HI5 : Hid (FulI w5 W0 (w.heap.size + 2) H n (#[.int .i64 4, .int .u8 (x1.toNat : Int), .slice (some ⟨ba, oa, none⟩) 1 ca]) (.slice (some ⟨g, 0, none⟩) k cz) acc (H + 1) (n * n) rNo) := Lib.hid (by rw [HHS.out]; exact I5)
        rw [← HHS.out] at HLH
        have CO : Hid (Calls Tryz.prog 207 #[.slice (some ⟨H + 1, 0, none⟩) (n * n) (n * n), .slice (some ⟨ga, 0, none⟩) (n * n) ca2] w5 fun e w' => e = .returned (.tuple #[]) ∧ FulI w' W0 (w.heap.size + 2) H n (#[.int .i64 4, .int .u8 (x1.toNat : Int), .slice (some ⟨ba, oa, none⟩) 1 ca]) (.slice (some ⟨g, 0, none⟩) k cz) acc (H + 1) (n * n) (nAt acc j)) := Lib.hid ((l06Or_any (H + 1) (H + 1) (n * n) n _ _ _ w5 HN.out HI5.out.out r5 (fun a m c e => by cases e; show ga ≠ H + 1; have := HHS.out; omega)).mono fun e w' ⟨e1, e2, e3⟩ => ⟨e1, by rw [no_or] at e2; exact HI5.out.turn (by rw [W0s.out]; exact HLH.out) e3 e2⟩)
        rw [← HHS.out]
        clear hown hgrow BX5 FX5 BG5 FG5 BP5 I5 HHS BG BP FG FP c0 c1 c2 r5
        refine CO.out.mono ?_
        rintro e w6 ⟨rfl, i6⟩
        have I := Lib.hid i6
        clear i6 CO HI5
        have BGr := BG0.out.fr I.out.fr; have FGr := BGr.facts; have BPr := BP0.out.fr I.out.fr; have FPr := BPr.facts; have BXr := I.out.box; have FXr := BXr.facts; have hIl := I.out.lt
        go_wp2_with fail
        go_loopw [13] (fun i wr => ∃ q : Nat, q ≤ n ∧ i = .int .i64 q ∧ Hid (FulI wr W0 (w.heap.size + 2) H n (#[.int .i64 4, .int .u8 (x1.toNat : Int), .slice (some ⟨ba, oa, none⟩) 1 ca]) (.slice (some ⟨g, 0, none⟩) k cz) acc (H + 1) (n * n) (rnd n (nAt acc j) q))) (fun i _ => n - (intOf i).toNat)
        case atStart => exact ⟨0, Nat.zero_le _, rfl, I⟩
        case round =>
          clear I hfr hfr0 HA hf5 z5 hH5 BGr FGr BPr FPr BXr FXr hIl d5 s5
          obtain ⟨q, hq, rfl, I⟩ := hrel
          have BGr := BG0.out.fr I.out.fr; have FGr := BGr.facts; have BPr := BP0.out.fr I.out.fr; have FPr := BPr.facts; have BXr := I.out.box; have FXr := BXr.facts; have hIl := I.out.lt
          have hfw : Fr w wr := Fr.trans HFW.out I.out.fr
          by_cases hqt : q < n
          · have d0 : wr.cell? ⟨ba, oa, none⟩ = some (.int .i64 (j : Int)) := (hfw.cell (p := ⟨ba, _, none⟩) hba).trans (hj ▸ fa 0 (by omega))
            obtain ⟨gb, cb2, hb1, hb2, hb3, s1, r1⟩ := I.out.all.nth hnn HIL.out hjk
            have CB : Hid (Calls Tryz.prog 206 #[.slice (some ⟨H + 1, 0, none⟩) (n * n) (n * n), .slice (some ⟨gb, 0, none⟩) (n * n) cb2, .int .i64 (n : Int)] wr fun e w' => e = .returned (.slice (some ⟨wr.heap.size, 0, none⟩) (n * n) (n * n)) ∧ SqO w' wr.heap.size (.slice (some ⟨wr.heap.size, 0, none⟩) (n * n) (n * n)) n (rComp n (rnd n (nAt acc j) q) (nAt acc j)) ∧ Fr wr w') := Lib.hid (l06Behind_any _ _ n _ _ wr HN.out I.out.out.rd r1)
            clear r1
            go_wp2_with fail
            refine CB.out.mono ?_
            rintro e w7 ⟨rfl, o7, f7⟩
            have CO : Hid (Calls Tryz.prog 207 #[.slice (some ⟨H + 1, 0, none⟩) (n * n) (n * n), .slice (some ⟨wr.heap.size, 0, none⟩) (n * n) (n * n)] w7 fun e w' => e = .returned (.tuple #[]) ∧ FulI w' W0 (w.heap.size + 2) H n (#[.int .i64 4, .int .u8 (x1.toNat : Int), .slice (some ⟨ba, oa, none⟩) 1 ca]) (.slice (some ⟨g, 0, none⟩) k cz) acc (H + 1) (n * n) (rnd n (nAt acc j) (q + 1))) := Lib.hid ((l06Or_any (H + 1) (H + 1) (n * n) n _ _ _ w7 HN.out (I.out.frs f7).out o7.rd (fun a m c e => by cases e; show wr.heap.size ≠ H + 1; omega)).mono fun e w' ⟨e1, e2, e3⟩ => ⟨e1, (I.out.frs f7).turn (by rw [W0s.out]; exact HLH.out) e3 e2⟩)
            clear o7 CB
            go_wp2_with fail
            refine CO.out.mono ?_
            rintro e w8 ⟨rfl, i8⟩
            have I8 := Lib.hid i8
            clear i8 CO
            go_wp2_with fail
            go_roundw
            case rel => exact ⟨q + 1, by omega, by go_num, I8⟩
            case measure => (simp [intOf]; omega)
          · obtain rfl : q = n := by omega
            have I2 := Lib.hid ((rnd_wsh (HSU.out j)) ▸ I.out)
            clear I
            have I := I2
            go_wp2_with fail
            go_loopw [14] (fun i wr => ∃ p : Nat, p ≤ q ∧ i = .int .i64 p ∧ Hid (FulI wr W0 (w.heap.size + 2) H q (#[.int .i64 4, .int .u8 (x1.toNat : Int), .slice (some ⟨ba, oa, none⟩) 1 ca]) (.slice (some ⟨g, 0, none⟩) k cz) acc (H + 1) (q * q) (dgTo q p (wsh (nAt acc j) q)))) (fun i _ => q - (intOf i).toNat)
            case atStart => exact ⟨0, Nat.zero_le _, rfl, Lib.hid (I.out.cong fun i j _ _ => by simp [dgTo])⟩
            case round =>
              clear I BGr FGr BPr FPr BXr FXr hIl
              obtain ⟨p, hp, rfl, I⟩ := hrel
              have BGr := BG0.out.fr I.out.fr; have FGr := BGr.facts; have BPr := BP0.out.fr I.out.fr; have FPr := BPr.facts; have BXr := I.out.box; have FXr := BXr.facts; have hIl := I.out.lt
              by_cases hpt : p < q
              · have hw1 := wrap_mul (i := p) (n := q) (by omega) hnn2
                have hw2 := wrap_at (i := p) (n := q) (k := p) (by omega) hnn2 (by omega)
                have hpr := sq_lt hpt hpt
                obtain ⟨g', cap', hv, hg1', hg2', hc0, hc, hz⟩ := I.out.out.one hnn
                cases hv
                have d1 := hc p p hpt hpt
                have z1 := hz (p * q + p)
                clear hc hz hc0
                have I2 : Hid (FulI (wr.setCell ⟨H + 1, p * q + p, none⟩ (.bool true)) W0 (w.heap.size + 2) H q (#[.int .i64 4, .int .u8 (x1.toNat : Int), .slice (some ⟨ba, oa, none⟩) 1 ca]) (.slice (some ⟨g, 0, none⟩) k cz) acc (H + 1) (q * q) (dgTo q (p + 1) (wsh (nAt acc j) q))) := Lib.hid ((I.out.turn (by rw [W0s.out]; exact HLH.out) Span.cell1 (SqO.set I.out.out hpt hpt true)).cong fun i j _ _ => by
                  by_cases e : i = p ∧ j = p
                  · rw [if_pos e, e.1, e.2]
                    simp [dgTo]
                  · rw [if_neg e]
                    unfold dgTo
                    congr 1
                    rw [Bool.eq_iff_iff, decide_eq_true_eq, decide_eq_true_eq]
                    omega)
                clear I
                go_wp2_with fail
                go_roundw
                case rel => exact ⟨p + 1, by omega, by go_num, I2⟩
                case measure => (simp [intOf]; omega)
              · obtain rfl : p = q := by omega
                have I2 := Lib.hid (I.out.cong (R' := rOr (wsh (nAt acc j) p) (rId p)) fun i j hi _ => dgTo_all hi)
                clear I
                have I := I2
                (have hWs := W0s.out; have hHs := I.out.box.lt; obtain ⟨ys, hys, happ⟩ := NestW.app (E := SqEW p) (fun a b c => SqEW.span a b c) I.out.all; rw [← HIL.out] at hys; have HYS := Lib.hid hys; have HAPP := Lib.hid happ; clear hys happ; go_wp2_with (at_builtin; (refine wpList_append_rd rfl _ _ 238 rfl (w.heap.size + 2) 101 k0 (.slice none 0 0) 1 24 Tryz.underlying238 ki kz0 kz1 kz2 rfl (by decide) (.slice (some ⟨g, 0, none⟩) k cz) k ys rfl (World.ownsRow.alloc HYS.out.1 _) _ 1 [.slice (some ⟨H + 1, 0, none⟩) (p * p) (p * p)] rfl (RdS.new (by first | rfl | (simp; done)) rfl) (by simp [Value.oneCell']) (by unfold maxLen; omega) (by omega) (by exact Qz) ?_; intro ay cy w9 hown9 hgrow9 hat9)); have HE := Lib.hid (I.out.ends HIL.out (by omega) HLH.out (by omega) HAPP.out ((Fr.refl _).alloc _) (by simp) hown9 hgrow9 hat9); go_roundw; (case rel => exact ⟨k + 1, ay, cy, by omega, by go_num, rfl, Lib.hid (HD.out ▸ HE.out.1), HE.out.2⟩); (case measure => (simp [intOf]; omega)))
      · -- once and again
        obtain ⟨g, rfl⟩ := HA.out.shape hnn (by omega)
        obtain ⟨rfl, hba, fa⟩ := FA.out (by omega)
        have hkj : kAt x2 0 = j := by unfold kAt; rw [hj]; simp
        have hjl : j < ps.length := by omega
        have hl0 : 0 < x2.length := by omega
        have HD : Hid (denR n (stR es) ps (k + 1) = acc ++ [wsh (nAt acc j) n]) := Lib.hid (by rw [HD0.out]; simp [stepR, hkj])
        clear HD0 hkj
        go_wp2_with (at_make; refine wpList_make_full _ rfl _ _ 101 rfl (wr.heap.size + 1) 4 i0 (.bool false) 1 Tryz.underlying101 hi hz0 hz1 _ _ _ _ (n * n) rfl rfl rfl rfl (by rw [hz2]; omega) (by unfold maxLen; omega) (by exact Qz) ?_; intro w5 hown hgrow; have hf5 : Fr (wr.alloc (.cells (#[.int .i64 5, .int .u8 (x1.toNat : Int), .slice (some ⟨ba, oa, none⟩) 1 ca]) 237)) w5 := (Fr.refl _).grown hgrow (by simp); have z5 := hf5.size; (try simp only [World.size_alloc, World.size_setCell, World.size_drew, World.heap_drewN] at z5); have BX5 := (Box.new wr (#[.int .i64 5, .int .u8 (x1.toNat : Int), .slice (some ⟨ba, oa, none⟩) 1 ca]) 237).fr hf5; have FX5 := BX5.facts; have BG5 := BG.fr (show Fr wr w5 by exact Qf); have FG5 := BG5.facts; have BP5 := BP.fr (show Fr wr w5 by exact Qf); have hba5 : ba < w5.heap.size := (by have := hfr.size; omega); have d5 : w5.cell? ⟨ba, oa, none⟩ = some (.int .i64 (j : Int)) := (((hfr.trans (show Fr wr w5 by exact Qf)).cell (p := ⟨ba, _, none⟩) hba).trans (hj ▸ fa 0 (by omega))); obtain ⟨ga, ca2, hg1, hg2, hg3, s5, r5⟩ := (HA.out.fr (show Fr wr w5 by exact Qf)).nth hnn HIL.out hjk; have hg4 := BX5.lt)
        (have hown : SqO w5 (wr.heap.size + 1) (.slice (some ⟨wr.heap.size + 1, 0, none⟩) (n * n) (n * n)) n rNo := (by rw [show (madeCells (Value.cells (.bool false)) (n * n * 1)).toList = sqCells n rNo from by rw [sqCells_no, Nat.mul_one]; exact toList_madeCells_one _ _] at hown; unfold SqO; first | exact hown | (simpa using hown)); have I5 : FulI w5 W0 (w.heap.size + 2) wr.heap.size n (#[.int .i64 5, .int .u8 (x1.toNat : Int), .slice (some ⟨ba, oa, none⟩) 1 ca]) (.slice (some ⟨g, 0, none⟩) k cz) acc (wr.heap.size + 1) (n * n) rNo := ⟨HA.out.fr (show Fr wr w5 by exact Qf), BX5, hown, hfr0.trans (show Fr wr w5 by exact Qf)⟩; skip)
        have hH5 : H + 1 < w5.heap.size := by have := HHS.out; have := I5.lt; omega
        have HI5 : Hid (FulI w5 W0 (w.heap.size + 2) H n (#[.int .i64 5, .int .u8 (x1.toNat : Int), .slice (some ⟨ba, oa, none⟩) 1 ca]) (.slice (some ⟨g, 0, none⟩) k cz) acc (H + 1) (n * n) rNo) := Lib.hid (by rw [HHS.out]; exact I5)
        rw [← HHS.out] at HLH
        have CO : Hid (Calls Tryz.prog 207 #[.slice (some ⟨H + 1, 0, none⟩) (n * n) (n * n), .slice (some ⟨ga, 0, none⟩) (n * n) ca2] w5 fun e w' => e = .returned (.tuple #[]) ∧ FulI w' W0 (w.heap.size + 2) H n (#[.int .i64 5, .int .u8 (x1.toNat : Int), .slice (some ⟨ba, oa, none⟩) 1 ca]) (.slice (some ⟨g, 0, none⟩) k cz) acc (H + 1) (n * n) (nAt acc j)) := Lib.hid ((l06Or_any (H + 1) (H + 1) (n * n) n _ _ _ w5 HN.out HI5.out.out r5 (fun a m c e => by cases e; show ga ≠ H + 1; have := HHS.out; omega)).mono fun e w' ⟨e1, e2, e3⟩ => ⟨e1, by rw [no_or] at e2; exact HI5.out.turn (by rw [W0s.out]; exact HLH.out) e3 e2⟩)
        rw [← HHS.out]
        clear hown hgrow BX5 FX5 BG5 FG5 BP5 I5 HHS BG BP FG FP c0 c1 c2 r5
        refine CO.out.mono ?_
        rintro e w6 ⟨rfl, i6⟩
        have I := Lib.hid i6
        clear i6 CO HI5
        have BGr := BG0.out.fr I.out.fr; have FGr := BGr.facts; have BPr := BP0.out.fr I.out.fr; have FPr := BPr.facts; have BXr := I.out.box; have FXr := BXr.facts; have hIl := I.out.lt
        go_wp2_with fail
        go_loopw [13] (fun i wr => ∃ q : Nat, q ≤ n ∧ i = .int .i64 q ∧ Hid (FulI wr W0 (w.heap.size + 2) H n (#[.int .i64 5, .int .u8 (x1.toNat : Int), .slice (some ⟨ba, oa, none⟩) 1 ca]) (.slice (some ⟨g, 0, none⟩) k cz) acc (H + 1) (n * n) (rnd n (nAt acc j) q))) (fun i _ => n - (intOf i).toNat)
        case atStart => exact ⟨0, Nat.zero_le _, rfl, I⟩
        case round =>
          clear I hfr hfr0 HA hf5 z5 hH5 BGr FGr BPr FPr BXr FXr hIl d5 s5
          obtain ⟨q, hq, rfl, I⟩ := hrel
          have BGr := BG0.out.fr I.out.fr; have FGr := BGr.facts; have BPr := BP0.out.fr I.out.fr; have FPr := BPr.facts; have BXr := I.out.box; have FXr := BXr.facts; have hIl := I.out.lt
          have hfw : Fr w wr := Fr.trans HFW.out I.out.fr
          by_cases hqt : q < n
          · have d0 : wr.cell? ⟨ba, oa, none⟩ = some (.int .i64 (j : Int)) := (hfw.cell (p := ⟨ba, _, none⟩) hba).trans (hj ▸ fa 0 (by omega))
            obtain ⟨gb, cb2, hb1, hb2, hb3, s1, r1⟩ := I.out.all.nth hnn HIL.out hjk
            have CB : Hid (Calls Tryz.prog 206 #[.slice (some ⟨H + 1, 0, none⟩) (n * n) (n * n), .slice (some ⟨gb, 0, none⟩) (n * n) cb2, .int .i64 (n : Int)] wr fun e w' => e = .returned (.slice (some ⟨wr.heap.size, 0, none⟩) (n * n) (n * n)) ∧ SqO w' wr.heap.size (.slice (some ⟨wr.heap.size, 0, none⟩) (n * n) (n * n)) n (rComp n (rnd n (nAt acc j) q) (nAt acc j)) ∧ Fr wr w') := Lib.hid (l06Behind_any _ _ n _ _ wr HN.out I.out.out.rd r1)
            clear r1
            go_wp2_with fail
            refine CB.out.mono ?_
            rintro e w7 ⟨rfl, o7, f7⟩
            have CO : Hid (Calls Tryz.prog 207 #[.slice (some ⟨H + 1, 0, none⟩) (n * n) (n * n), .slice (some ⟨wr.heap.size, 0, none⟩) (n * n) (n * n)] w7 fun e w' => e = .returned (.tuple #[]) ∧ FulI w' W0 (w.heap.size + 2) H n (#[.int .i64 5, .int .u8 (x1.toNat : Int), .slice (some ⟨ba, oa, none⟩) 1 ca]) (.slice (some ⟨g, 0, none⟩) k cz) acc (H + 1) (n * n) (rnd n (nAt acc j) (q + 1))) := Lib.hid ((l06Or_any (H + 1) (H + 1) (n * n) n _ _ _ w7 HN.out (I.out.frs f7).out o7.rd (fun a m c e => by cases e; show wr.heap.size ≠ H + 1; omega)).mono fun e w' ⟨e1, e2, e3⟩ => ⟨e1, (I.out.frs f7).turn (by rw [W0s.out]; exact HLH.out) e3 e2⟩)
            clear o7 CB
            go_wp2_with fail
            refine CO.out.mono ?_
            rintro e w8 ⟨rfl, i8⟩
            have I8 := Lib.hid i8
            clear i8 CO
            go_wp2_with fail
            go_roundw
            case rel => exact ⟨q + 1, by omega, by go_num, I8⟩
            case measure => (simp [intOf]; omega)
          · obtain rfl : q = n := by omega
            have I2 := Lib.hid ((rnd_wsh (HSU.out j)) ▸ I.out)
            clear I
            have I := I2
            go_wp2_with fail
            go_loopw [14] (fun i wr => i = .int .i64 0 ∧ Hid (FulI wr W0 (w.heap.size + 2) H q (#[.int .i64 5, .int .u8 (x1.toNat : Int), .slice (some ⟨ba, oa, none⟩) 1 ca]) (.slice (some ⟨g, 0, none⟩) k cz) acc (H + 1) (q * q) (wsh (nAt acc j) q))) (fun i _ => 0)
            case atStart => exact ⟨rfl, I⟩
            case round =>
              clear I BGr FGr BPr FPr BXr FXr hIl
              obtain ⟨rfl, I⟩ := hrel
              have BGr := BG0.out.fr I.out.fr; have FGr := BGr.facts; have BPr := BP0.out.fr I.out.fr; have FPr := BPr.facts; have BXr := I.out.box; have FXr := BXr.facts; have hIl := I.out.lt
              (have hWs := W0s.out; have hHs := I.out.box.lt; obtain ⟨ys, hys, happ⟩ := NestW.app (E := SqEW q) (fun a b c => SqEW.span a b c) I.out.all; rw [← HIL.out] at hys; have HYS := Lib.hid hys; have HAPP := Lib.hid happ; clear hys happ; go_wp2_with (at_builtin; (refine wpList_append_rd rfl _ _ 238 rfl (w.heap.size + 2) 101 k0 (.slice none 0 0) 1 24 Tryz.underlying238 ki kz0 kz1 kz2 rfl (by decide) (.slice (some ⟨g, 0, none⟩) k cz) k ys rfl (World.ownsRow.alloc HYS.out.1 _) _ 1 [.slice (some ⟨H + 1, 0, none⟩) (q * q) (q * q)] rfl (RdS.new (by first | rfl | (simp; done)) rfl) (by simp [Value.oneCell']) (by unfold maxLen; omega) (by omega) (by exact Qz) ?_; intro ay cy w9 hown9 hgrow9 hat9)); have HE := Lib.hid (I.out.ends HIL.out (by omega) HLH.out (by omega) HAPP.out ((Fr.refl _).alloc _) (by simp) hown9 hgrow9 hat9); go_roundw; (case rel => exact ⟨k + 1, ay, cy, by omega, by go_num, rfl, Lib.hid (HD.out ▸ HE.out.1), HE.out.2⟩); (case measure => (simp [intOf]; omega)))
      · -- once or not
        obtain ⟨g, rfl⟩ := HA.out.shape hnn (by omega)
        obtain ⟨rfl, hba, fa⟩ := FA.out (by omega)
        have hkj : kAt x2 0 = j := by unfold kAt; rw [hj]; simp
        have hjl : j < ps.length := by omega
        have hl0 : 0 < x2.length := by omega
        have HD : Hid (denR n (stR es) ps (k + 1) = acc ++ [rOr (nAt acc j) (rId n)]) := Lib.hid (by rw [HD0.out]; simp [stepR, hkj])
        clear HD0 hkj
        go_wp2_with (at_make; refine wpList_make_full _ rfl _ _ 101 rfl (wr.heap.size + 1) 4 i0 (.bool false) 1 Tryz.underlying101 hi hz0 hz1 _ _ _ _ (n * n) rfl rfl rfl rfl (by rw [hz2]; omega) (by unfold maxLen; omega) (by exact Qz) ?_; intro w5 hown hgrow; have hf5 : Fr (wr.alloc (.cells (#[.int .i64 6, .int .u8 (x1.toNat : Int), .slice (some ⟨ba, oa, none⟩) 1 ca]) 237)) w5 := (Fr.refl _).grown hgrow (by simp); have z5 := hf5.size; (try simp only [World.size_alloc, World.size_setCell, World.size_drew, World.heap_drewN] at z5); have BX5 := (Box.new wr (#[.int .i64 6, .int .u8 (x1.toNat : Int), .slice (some ⟨ba, oa, none⟩) 1 ca]) 237).fr hf5; have FX5 := BX5.facts; have BG5 := BG.fr (show Fr wr w5 by exact Qf); have FG5 := BG5.facts; have BP5 := BP.fr (show Fr wr w5 by exact Qf); have hba5 : ba < w5.heap.size := (by have := hfr.size; omega); have d5 : w5.cell? ⟨ba, oa, none⟩ = some (.int .i64 (j : Int)) := (((hfr.trans (show Fr wr w5 by exact Qf)).cell (p := ⟨ba, _, none⟩) hba).trans (hj ▸ fa 0 (by omega))); obtain ⟨ga, ca2, hg1, hg2, hg3, s5, r5⟩ := (HA.out.fr (show Fr wr w5 by exact Qf)).nth hnn HIL.out hjk; have hg4 := BX5.lt)
        (have hown : SqO w5 (wr.heap.size + 1) (.slice (some ⟨wr.heap.size + 1, 0, none⟩) (n * n) (n * n)) n rNo := (by rw [show (madeCells (Value.cells (.bool false)) (n * n * 1)).toList = sqCells n rNo from by rw [sqCells_no, Nat.mul_one]; exact toList_madeCells_one _ _] at hown; unfold SqO; first | exact hown | (simpa using hown)); have I5 : FulI w5 W0 (w.heap.size + 2) wr.heap.size n (#[.int .i64 6, .int .u8 (x1.toNat : Int), .slice (some ⟨ba, oa, none⟩) 1 ca]) (.slice (some ⟨g, 0, none⟩) k cz) acc (wr.heap.size + 1) (n * n) rNo := ⟨HA.out.fr (show Fr wr w5 by exact Qf), BX5, hown, hfr0.trans (show Fr wr w5 by exact Qf)⟩; skip)
        have hH5 : H + 1 < w5.heap.size := by have := HHS.out; have := I5.lt; omega
        have HI5 : Hid (FulI w5 W0 (w.heap.size + 2) H n (#[.int .i64 6, .int .u8 (x1.toNat : Int), .slice (some ⟨ba, oa, none⟩) 1 ca]) (.slice (some ⟨g, 0, none⟩) k cz) acc (H + 1) (n * n) rNo) := Lib.hid (by rw [HHS.out]; exact I5)
        rw [← HHS.out] at HLH
        have CO : Hid (Calls Tryz.prog 207 #[.slice (some ⟨H + 1, 0, none⟩) (n * n) (n * n), .slice (some ⟨ga, 0, none⟩) (n * n) ca2] w5 fun e w' => e = .returned (.tuple #[]) ∧ FulI w' W0 (w.heap.size + 2) H n (#[.int .i64 6, .int .u8 (x1.toNat : Int), .slice (some ⟨ba, oa, none⟩) 1 ca]) (.slice (some ⟨g, 0, none⟩) k cz) acc (H + 1) (n * n) (nAt acc j)) := Lib.hid ((l06Or_any (H + 1) (H + 1) (n * n) n _ _ _ w5 HN.out HI5.out.out r5 (fun a m c e => by cases e; show ga ≠ H + 1; have := HHS.out; omega)).mono fun e w' ⟨e1, e2, e3⟩ => ⟨e1, by rw [no_or] at e2; exact HI5.out.turn (by rw [W0s.out]; exact HLH.out) e3 e2⟩)
        rw [← HHS.out]
        clear hown hgrow BX5 FX5 BG5 FG5 BP5 I5 HHS BG BP FG FP c0 c1 c2 r5
        refine CO.out.mono ?_
        rintro e w6 ⟨rfl, i6⟩
        have I := Lib.hid i6
        clear i6 CO HI5
        have BGr := BG0.out.fr I.out.fr; have FGr := BGr.facts; have BPr := BP0.out.fr I.out.fr; have FPr := BPr.facts; have BXr := I.out.box; have FXr := BXr.facts; have hIl := I.out.lt
        go_wp2_with fail
        go_loopw [13] (fun i wr => i = .int .i64 0 ∧ Hid (FulI wr W0 (w.heap.size + 2) H n (#[.int .i64 6, .int .u8 (x1.toNat : Int), .slice (some ⟨ba, oa, none⟩) 1 ca]) (.slice (some ⟨g, 0, none⟩) k cz) acc (H + 1) (n * n) (nAt acc j))) (fun i _ => 0)
        case atStart => exact ⟨rfl, I⟩
        case round =>
          clear I hfr hfr0 HA hf5 z5 hH5 BGr FGr BPr FPr BXr FXr hIl d5 s5
          obtain ⟨rfl, I⟩ := hrel
          have BGr := BG0.out.fr I.out.fr; have FGr := BGr.facts; have BPr := BP0.out.fr I.out.fr; have FPr := BPr.facts; have BXr := I.out.box; have FXr := BXr.facts; have hIl := I.out.lt
          by_cases hqt : True
          · go_wp2_with fail
            go_loopw [14] (fun i wr => ∃ p : Nat, p ≤ n ∧ i = .int .i64 p ∧ Hid (FulI wr W0 (w.heap.size + 2) H n (#[.int .i64 6, .int .u8 (x1.toNat : Int), .slice (some ⟨ba, oa, none⟩) 1 ca]) (.slice (some ⟨g, 0, none⟩) k cz) acc (H + 1) (n * n) (dgTo n p (nAt acc j)))) (fun i _ => n - (intOf i).toNat)
            case atStart => exact ⟨0, Nat.zero_le _, rfl, Lib.hid (I.out.cong fun i j _ _ => by simp [dgTo])⟩
            case round =>
              clear I BGr FGr BPr FPr BXr FXr hIl
              obtain ⟨p, hp, rfl, I⟩ := hrel
              have BGr := BG0.out.fr I.out.fr; have FGr := BGr.facts; have BPr := BP0.out.fr I.out.fr; have FPr := BPr.facts; have BXr := I.out.box; have FXr := BXr.facts; have hIl := I.out.lt
              by_cases hpt : p < n
              · have hw1 := wrap_mul (i := p) (n := n) (by omega) hnn2
                have hw2 := wrap_at (i := p) (n := n) (k := p) (by omega) hnn2 (by omega)
                have hpr := sq_lt hpt hpt
                obtain ⟨g', cap', hv, hg1', hg2', hc0, hc, hz⟩ := I.out.out.one hnn
                cases hv
                have d1 := hc p p hpt hpt
                have z1 := hz (p * n + p)
                clear hc hz hc0
                have I2 : Hid (FulI (wr.setCell ⟨H + 1, p * n + p, none⟩ (.bool true)) W0 (w.heap.size + 2) H n (#[.int .i64 6, .int .u8 (x1.toNat : Int), .slice (some ⟨ba, oa, none⟩) 1 ca]) (.slice (some ⟨g, 0, none⟩) k cz) acc (H + 1) (n * n) (dgTo n (p + 1) (nAt acc j))) := Lib.hid ((I.out.turn (by rw [W0s.out]; exact HLH.out) Span.cell1 (SqO.set I.out.out hpt hpt true)).cong fun i j _ _ => by
                  by_cases e : i = p ∧ j = p
                  · rw [if_pos e, e.1, e.2]
                    simp [dgTo]
                  · rw [if_neg e]
                    unfold dgTo
                    congr 1
                    rw [Bool.eq_iff_iff, decide_eq_true_eq, decide_eq_true_eq]
                    omega)
                clear I
                go_wp2_with fail
                go_roundw
                case rel => exact ⟨p + 1, by omega, by go_num, I2⟩
                case measure => (simp [intOf]; omega)
              · obtain rfl : p = n := by omega
                have I2 := Lib.hid (I.out.cong (R' := rOr (nAt acc j) (rId p)) fun i j hi _ => dgTo_all hi)
                clear I
                have I := I2
                (have hWs := W0s.out; have hHs := I.out.box.lt; obtain ⟨ys, hys, happ⟩ := NestW.app (E := SqEW p) (fun a b c => SqEW.span a b c) I.out.all; rw [← HIL.out] at hys; have HYS := Lib.hid hys; have HAPP := Lib.hid happ; clear hys happ; go_wp2_with (at_builtin; (refine wpList_append_rd rfl _ _ 238 rfl (w.heap.size + 2) 101 k0 (.slice none 0 0) 1 24 Tryz.underlying238 ki kz0 kz1 kz2 rfl (by decide) (.slice (some ⟨g, 0, none⟩) k cz) k ys rfl (World.ownsRow.alloc HYS.out.1 _) _ 1 [.slice (some ⟨H + 1, 0, none⟩) (p * p) (p * p)] rfl (RdS.new (by first | rfl | (simp; done)) rfl) (by simp [Value.oneCell']) (by unfold maxLen; omega) (by omega) (by exact Qz) ?_; intro ay cy w9 hown9 hgrow9 hat9)); have HE := Lib.hid (I.out.ends HIL.out (by omega) HLH.out (by omega) HAPP.out ((Fr.refl _).alloc _) (by simp) hown9 hgrow9 hat9); go_roundw; (case rel => exact ⟨k + 1, ay, cy, by omega, by go_num, rfl, Lib.hid (HD.out ▸ HE.out.1), HE.out.2⟩); (case measure => (simp [intOf]; omega)))
          · exact absurd trivial hqt
    · obtain rfl : k = ps.length := by omega
      go_wp2_with fail
      go_ret
      exact ⟨_, _, rfl, HA.out, hfr⟩
end Go.Proofs.YtmdgdnkllclpcaaGreat
