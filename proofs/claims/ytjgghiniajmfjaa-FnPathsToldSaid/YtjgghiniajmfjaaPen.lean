/- PathEnds, PathPairs, StepOnly of the program; rows of rows of ints. No condition but the reading. -/
import Derived.Test.YtjgghiniajmfjaaMog
import Derived.Test.YtjgghiniajmfjaaNest2
import Derived.Test.YtjgghiniajmfjaaCmp
namespace Go.Proofs.Ytjgghiniajmfjaa
open Go.RowKit
set_option linter.unusedVariables false
set_option linter.unusedSimpArgs false
theorem info_ints : (Try.prog.info? 38).map (fun i => (i.zero, i.size, i.bytes)) = some (some (.slice none 0 0), 1, 24) := by kernel_rfl
def IntsEW (w : World) (lo hi : Nat) (u : List Value) (d : List Int) : Prop := ∃ v, u = [v] ∧ OwW w lo hi 3 1 v d.length (d.map (Value.int .i64))
def IntsE (w : World) (u : List Value) (d : List Int) : Prop := ∃ v, u = [v] ∧ IntsR w v d
theorem IntsEW.span {w w' : World} {lo hi : Nat} {u : List Value} {d : List Int} {a b : Nat} (h : IntsEW w lo hi u d) (s : Span a b w w') (hd : hi ≤ a ∨ b ≤ lo) : IntsEW w' lo hi u d := by
  obtain ⟨v, h1, h2⟩ := h
  exact ⟨v, h1, h2.span s hd⟩
theorem IntsE.fr {w w' : World} {u : List Value} {d : List Int} (h : IntsE w u d) (hf : Fr w w') : IntsE w' u d := by
  obtain ⟨v, h1, h2⟩ := h
  exact ⟨v, h1, h2.fr hf⟩
theorem IntsEW.rd {w : World} {lo hi : Nat} {u : List Value} {d : List Int} (h : IntsEW w lo hi u d) : IntsE w u d := by
  obtain ⟨v, h1, h2⟩ := h
  exact ⟨v, h1, h2.rd⟩
def IntSSR (w : World) (v : Value) (xs : List (List Int)) : Prop := NestR IntsE 1 w v xs
def IntSSW (w : World) (lo hi : Nat) (v : Value) (xs : List (List Int)) : Prop := NestW IntsEW 38 1 w lo hi v xs
theorem IntSSR.fr {w w' : World} {v : Value} {xs : List (List Int)} (h : IntSSR w v xs) (hf : Fr w w') : IntSSR w' v xs := NestR.fr (E := IntsE) (fun a b => IntsE.fr a b) h hf
theorem IntSSW.fr {w w' : World} {lo hi : Nat} {v : Value} {xs : List (List Int)} (h : IntSSW w lo hi v xs) (hf : Fr w w') : IntSSW w' lo hi v xs := NestP.fr (E := IntsEW) (fun a b c => IntsEW.span a b c) h hf
theorem IntSSW.mono {w : World} {lo hi hi' : Nat} {v : Value} {xs : List (List Int)} (h : IntSSW w lo hi v xs) (hh : hi ≤ hi') : IntSSW w lo hi' v xs := NestP.mono h (Nat.le_refl _) hh
theorem IntSSW.rd {w : World} {lo hi : Nat} {v : Value} {xs : List (List Int)} (h : IntSSW w lo hi v xs) : IntSSR w v xs := NestP.rd (E := IntsEW) (E' := IntsE) (fun a => IntsEW.rd a) h
theorem IntSSR.one {w : World} {v : Value} {xs : List (List Int)} (h : IntSSR w v xs) :
    ∃ ao b o cap, v = .slice ao xs.length cap ∧ xs.length ≤ cap ∧ cap ≤ 9223372036854775807 ∧ (0 < xs.length → ao = some ⟨b, o, none⟩ ∧ b < w.heap.size ∧ ∀ k, k < xs.length → ∃ a, IntsR w a (nAt xs k) ∧ w.cell? ⟨b, o + k, none⟩ = some a) := by
  obtain ⟨ao, b, o, cap, h1, h2, h3, h4⟩ := NestR.one h
  refine ⟨ao, b, o, cap, h1, h2, h3, fun hn => ⟨(h4 hn).1, (h4 hn).2.1, fun k hk => ?_⟩⟩
  obtain ⟨u, _, ⟨a, hu, ha⟩, hc⟩ := (h4 hn).2.2 k hk
  rw [hu] at hc
  exact ⟨a, ha, by simpa using hc 0 _ (by omega) rfl⟩
theorem IntSSW.nil (w : World) (lo hi : Nat) : IntSSW w lo hi (.slice none 0 0) [] := NestP.none_yet (OwW.nil _ _ _ _ _)
/-- A pair more, in blocks of its own. -/
theorem IntSSW.pair {W w w1 w2 w3 : World} {L : Nat} {az : Option Addr} {k cz : Nat} {xs : List (List Int)} {a b : Int} {v' : Value} {ys : List Value} (h : IntSSW w L w.heap.size (.slice az k cz) xs) (hk : k = xs.length) (hW : W.heap.size ≤ L) (hL : L ≤ w.heap.size) (hfr : Fr W w)
    (happ : ∀ (v' : Value) (w' w'' : World) (u : List Value) (x : List Int) (l1 h1 hi' J : Nat), Fr w w' → w''.ownsRow L 38 1 v' (xs.length + 1) (ys ++ u) → w'.grownBy w'' (Value.slice az k cz).ownBlock → (v'.ownBlock = (Value.slice az k cz).ownBlock ∨ v'.ownBlock = some J) → RowIn L hi' v' → h1 ≤ J → h1 ≤ hi' → u.length = 1 → IntsEW w' l1 h1 u x → L ≤ l1 → w.heap.size ≤ l1 → l1 ≤ h1 → NestW IntsEW 38 1 w'' L hi' v' (xs ++ [x]))
    (e1 : w1 = w.alloc (.cells #[.int .i64 a, .int .i64 b] 3)) (e2 : ∃ o, w2 = w1.alloc o) (hown : w3.ownsRow L 38 1 v' (k + 1) (ys ++ [.slice (some ⟨w.heap.size, 0, none⟩) 2 2])) (hg : w2.grownBy w3 (Value.slice az k cz).ownBlock) (hat : v'.ownBlock = (Value.slice az k cz).ownBlock ∨ v'.ownBlock = some w2.heap.size) :
    IntSSW w3 L w3.heap.size v' (xs ++ [[a, b]]) ∧ Fr W w3 := by
  subst hk e1
  obtain ⟨o, rfl⟩ := e2
  have z3 := hg.size
  have s2 : ((w.alloc (.cells #[.int .i64 a, .int .i64 b] 3)).alloc o).heap.size = w.heap.size + 2 := by simp
  have hf2 : Fr w ((w.alloc (.cells #[.int .i64 a, .int .i64 b] 3)).alloc o) := by repeat (first | (with_reducible exact Fr.refl _) | (with_reducible assumption) | (with_reducible refine Fr.drewN ?_ _) | (with_reducible refine Fr.drew ?_) | (with_reducible refine Fr.alloc ?_ _) | (with_reducible refine Fr.setCell ?_ (by (first | (with_reducible assumption) | omega | (simp only [World.size_alloc, World.size_setCell, World.size_drew, World.heap_drewN]; omega) | (simp; done) | (simp; omega))) _) | (with_reducible refine Fr.trans ?_ (by with_reducible assumption)))
  have hrow : OwW ((w.alloc (.cells #[.int .i64 a, .int .i64 b] 3)).alloc o) w.heap.size (w.heap.size + 1) 3 1 (.slice (some ⟨w.heap.size, 0, none⟩) 2 2) 2 [.int .i64 a, .int .i64 b] := by
    refine OwW.alloc ⟨⟨by simp, .inr ⟨w.heap.size, 2, #[.int .i64 a, .int .i64 b], rfl, Nat.le_refl _, heap_alloc_new w _, Nat.le_refl _, by unfold maxLen; omega, by simp, by simp⟩⟩, fun g e => by cases e; exact ⟨Nat.le_refl _, Nat.lt_succ_self _⟩⟩ _
  refine ⟨happ v' _ w3 _ [a, b] w.heap.size (w.heap.size + 1) w3.heap.size _ hf2 hown hg hat (RowIn.of_owns hown) (by omega) (by omega) rfl ⟨_, rfl, hrow⟩ hL (Nat.le_refl _) (by omega), ?_⟩
  exact Fr.app (hfr.trans hf2) hg (NestW.rowIn h) hW
theorem IntsO.get {w : World} {lo : Nat} {a : Option Addr} {c : Nat} {xs : List Int} (h : IntsO w lo (.slice a xs.length c) xs) : ∃ bb, 0 < xs.length → a = some ⟨bb, 0, none⟩ ∧ lo ≤ bb ∧ bb < w.heap.size ∧ ∀ q, q < xs.length → w.cell? ⟨bb, q, none⟩ = some (.int .i64 (iAt xs q)) := by
  rcases owns_shape h with ⟨_, h0, _⟩ | ⟨g, cap, e, h1, h2, _⟩
  · exact ⟨0, fun h => by omega⟩
  · cases e
    refine ⟨g, fun _ => ⟨rfl, h1, h2, fun q hq => ?_⟩⟩
    rw [World.ownsRow.cellAt h q (by omega)]
    simp [iAt, List.getD, hq]
/-! ### what is told of a path, plain -/
def endsL (g : GraphD) (ps : List PieceD) (x : Int) : List Int := if graphB g = true ∧ pathB ps = true ∧ (0 ≤ x ∧ x < g.f0) then reachL g.f0.toNat (endR g.f0.toNat (stR g.f1) ps x.toNat) else []
def pairsM (g : GraphD) (ps : List PieceD) : List (List Int) := if graphB g = true ∧ pathB ps = true then pairsL (endR g.f0.toNat (stR g.f1) ps) g.f0.toNat g.f0.toNat else []
theorem pairsL_more {n m : Nat} {R : Nat → Nat → Bool} (h : Sup n R) (hm : n ≤ m) : ∀ v, pairsL R m v = pairsL R n v
  | 0 => rfl
  | v + 1 => by rw [pairsL, pairsL, pairsL_more h hm v, reachL_more (fun k hk => (h _ _ hk).2) hm]
theorem graph_nat {g : GraphD} (h : graphB g = true) : ∃ n : Nat, g.f0 = (n : Int) ∧ 0 < n ∧ n ≤ 12 ∧ EdgesIn n g.f1 := by
  obtain ⟨⟨h1, h2⟩, _⟩ := graphB_out h
  obtain ⟨n, hn⟩ := Int.eq_ofNat_of_zero_le (show 0 ≤ g.f0 by omega)
  have := edges_in h
  rw [hn] at this
  exact ⟨n, hn, by omega, by omega, by simpa using this⟩
set_option maxHeartbeats 2000000 in
set_option maxRecDepth 100000 in
theorem reached_any (v : Value) (ps : List PieceD) (n : Nat) (ev : Value) (es : List EdgeR) (w : World) (hn : 0 < n ∧ n ≤ 12) (hv : PiecesR w v ps) (hp : pathB ps = true) (he : EdgesR w ev es) (hin : EdgesIn n es) :
    Calls Try.prog 93 #[.agg #[.int .i64 (n : Int), ev], .agg #[v]] w fun e w' => ∃ ao cap, e = .returned (.slice ao n cap) ∧ RelR w' (.slice ao n cap) n (endR n (stR es) ps) ∧ Fr w w' := by
  have CM : Hid (∀ w', Fr w w' → Box w' w.heap.size #[.int .i64 (n : Int), ev] 32 → Calls Try.prog 165 #[.agg #[v], .int .i64 (n : Int), .func (.func 166) #[] #[.pointer (some ⟨w.heap.size, 0, none⟩)]] w' fun e w'' => ∃ ao cap, e = .returned (.slice ao n cap) ∧ RelR w'' (.slice ao n cap) n (endR n (stR es) ps) ∧ Fr w' w'') := Lib.hid fun w' h hb => meaningOf_any v ps n w.heap.size ev es w' hn (hv.fr h) hp hb (he.fr h) hin
  obtain ⟨ae, be, oe, ce, rfl, hce, hme, fe⟩ := he.one
  obtain ⟨av, bv, ov, cv, rfl, hcv, hmv, fv⟩ := hv.one
  clear hv hp he hin fe fv
  go_enter Try.func93, Try.ntmps93
  go_wp2_with fail
  refine (CM.out _ (by repeat (first | (with_reducible exact Fr.refl _) | (with_reducible assumption) | (with_reducible refine Fr.drewN ?_ _) | (with_reducible refine Fr.drew ?_) | (with_reducible refine Fr.alloc ?_ _) | (with_reducible refine Fr.setCell ?_ (by (first | (with_reducible assumption) | omega | (simp only [World.size_alloc, World.size_setCell, World.size_drew, World.heap_drewN]; omega) | (simp; done) | (simp; omega))) _) | (with_reducible refine Fr.trans ?_ (by with_reducible assumption)))) ((Box.new _ _ _).alloc _)).mono ?_
  rintro e w1 ⟨ao, cap, rfl, hr, hf1⟩
  have HR := Lib.hid hr
  clear hr
  go_wp2_with fail
  go_ret
  exact ⟨_, _, rfl, HR.out, by repeat (first | (with_reducible exact Fr.refl _) | (with_reducible assumption) | (with_reducible refine Fr.drewN ?_ _) | (with_reducible refine Fr.drew ?_) | (with_reducible refine Fr.alloc ?_ _) | (with_reducible refine Fr.setCell ?_ (by (first | (with_reducible assumption) | omega | (simp only [World.size_alloc, World.size_setCell, World.size_drew, World.heap_drewN]; omega) | (simp; done) | (simp; omega))) _) | (with_reducible refine Fr.trans ?_ (by with_reducible assumption)))⟩
set_option maxHeartbeats 8000000 in
set_option maxRecDepth 100000 in
theorem implPathEnds_any (g : GraphD) (ev : Value) (v : Value) (ps : List PieceD) (x : Int) (w : World) (he : EdgesR w ev g.f1) (hv : PiecesR w v ps) :
    Calls Try.prog 20 #[.agg #[.int .i64 g.f0, ev], .agg #[v], .int .i64 x] w fun e w' => ∃ ao cap, e = .returned (.slice ao (endsL g ps x).length cap) ∧ IntsR w' (.slice ao (endsL g ps x).length cap) (endsL g ps x) ∧ Fr w w' := by
  obtain ⟨gb, hgb⟩ : ∃ gb, graphB g = gb := ⟨_, rfl⟩
  obtain ⟨pb, hpb⟩ : ∃ pb, pathB ps = pb := ⟨_, rfl⟩
  obtain ⟨vb, hvb⟩ : ∃ vb, decide (0 ≤ x ∧ x < g.f0) = vb := ⟨_, rfl⟩
  have HE := Lib.hid he
  have HV := Lib.hid hv
  have CG : Hid (∀ w', Fr w w' → Calls Try.prog 90 #[.agg #[.int .i64 g.f0, ev]] w' fun e w'' => e = .returned (.bool gb) ∧ Fr w' w'') := Lib.hid fun w' h => by rw [← hgb]; exact implGraphOk_any ev g.f0 g.f1 w' (HE.out.fr h)
  have CP : Hid (∀ w', Fr w w' → Calls Try.prog 25 #[.agg #[v]] w' fun e w'' => e = .returned (.bool pb) ∧ Fr w' w'') := Lib.hid fun w' h => by rw [← hpb]; exact implPathOk_any v ps w' (HV.out.fr h)
  have CV : Hid (∀ w', Calls Try.prog 91 #[.agg #[.int .i64 g.f0, ev], .int .i64 x] w' fun e w'' => e = .returned (.bool vb) ∧ Fr w' w'') := Lib.hid fun w' => by rw [← hvb]; exact isVertex_any g.f0 ev x w'
  have HNO : Hid (¬ (gb = true ∧ pb = true ∧ vb = true) → endsL g ps x = []) := Lib.hid fun h => by
    unfold endsL
    rw [if_neg]
    rintro ⟨h1, h2, h3⟩
    exact h ⟨hgb ▸ h1, hpb ▸ h2, hvb ▸ decide_eq_true h3⟩
  obtain ⟨ae, be, oe, ce, rfl, hce, hme, fe⟩ := he.one
  obtain ⟨av, bv, ov, cv, rfl, hcv, hmv, fv⟩ := hv.one
  clear he hv fe fv
  cases gb
  · have hL := HNO.out (by simp)
    rw [hL]
    clear HNO hgb hpb hvb hL
    go_enter Try.func20, Try.ntmps20
    go_wp2_with fail
    refine (CG.out _ (by repeat (first | (with_reducible exact Fr.refl _) | (with_reducible assumption) | (with_reducible refine Fr.drewN ?_ _) | (with_reducible refine Fr.drew ?_) | (with_reducible refine Fr.alloc ?_ _) | (with_reducible refine Fr.setCell ?_ (by (first | (with_reducible assumption) | omega | (simp only [World.size_alloc, World.size_setCell, World.size_drew, World.heap_drewN]; omega) | (simp; done) | (simp; omega))) _) | (with_reducible refine Fr.trans ?_ (by with_reducible assumption))))).mono ?_
    rintro e w1 ⟨rfl, hf1⟩
    have BP1 := (Box.new' (w := w.alloc (.cells #[.int .i64 g.f0, .slice ae g.f1.length ce] 32)) (X := #[.slice av ps.length cv]) (T := 27) (b := w.heap.size + 1) (by simp)).fr hf1
    have FP1 := BP1.facts
    go_wp2_with fail
    go_ret
    exact ⟨none, 0, rfl, RdS.of_owns (World.ownsRow_nil _ 0 3 _), by repeat (first | (with_reducible exact Fr.refl _) | (with_reducible assumption) | (with_reducible refine Fr.drewN ?_ _) | (with_reducible refine Fr.drew ?_) | (with_reducible refine Fr.alloc ?_ _) | (with_reducible refine Fr.setCell ?_ (by (first | (with_reducible assumption) | omega | (simp only [World.size_alloc, World.size_setCell, World.size_drew, World.heap_drewN]; omega) | (simp; done) | (simp; omega))) _) | (with_reducible refine Fr.trans ?_ (by with_reducible assumption)))⟩
  cases pb
  · have hL := HNO.out (by simp)
    rw [hL]
    clear HNO hgb hpb hvb hL
    go_enter Try.func20, Try.ntmps20
    go_wp2_with fail
    refine (CG.out _ (by repeat (first | (with_reducible exact Fr.refl _) | (with_reducible assumption) | (with_reducible refine Fr.drewN ?_ _) | (with_reducible refine Fr.drew ?_) | (with_reducible refine Fr.alloc ?_ _) | (with_reducible refine Fr.setCell ?_ (by (first | (with_reducible assumption) | omega | (simp only [World.size_alloc, World.size_setCell, World.size_drew, World.heap_drewN]; omega) | (simp; done) | (simp; omega))) _) | (with_reducible refine Fr.trans ?_ (by with_reducible assumption))))).mono ?_
    rintro e w1 ⟨rfl, hf1⟩
    have BP1 := (Box.new' (w := w.alloc (.cells #[.int .i64 g.f0, .slice ae g.f1.length ce] 32)) (X := #[.slice av ps.length cv]) (T := 27) (b := w.heap.size + 1) (by simp)).fr hf1
    have FP1 := BP1.facts
    go_wp2_with fail
    refine (CP.out _ (by repeat (first | (with_reducible exact Fr.refl _) | (with_reducible assumption) | (with_reducible refine Fr.drewN ?_ _) | (with_reducible refine Fr.drew ?_) | (with_reducible refine Fr.alloc ?_ _) | (with_reducible refine Fr.setCell ?_ (by (first | (with_reducible assumption) | omega | (simp only [World.size_alloc, World.size_setCell, World.size_drew, World.heap_drewN]; omega) | (simp; done) | (simp; omega))) _) | (with_reducible refine Fr.trans ?_ (by with_reducible assumption))))).mono ?_
    rintro e w2 ⟨rfl, hf2⟩
    go_wp2_with fail
    go_ret
    exact ⟨none, 0, rfl, RdS.of_owns (World.ownsRow_nil _ 0 3 _), by repeat (first | (with_reducible exact Fr.refl _) | (with_reducible assumption) | (with_reducible refine Fr.drewN ?_ _) | (with_reducible refine Fr.drew ?_) | (with_reducible refine Fr.alloc ?_ _) | (with_reducible refine Fr.setCell ?_ (by (first | (with_reducible assumption) | omega | (simp only [World.size_alloc, World.size_setCell, World.size_drew, World.heap_drewN]; omega) | (simp; done) | (simp; omega))) _) | (with_reducible refine Fr.trans ?_ (by with_reducible assumption)))⟩
  cases vb
  · have hL := HNO.out (by simp)
    rw [hL]
    clear HNO hgb hpb hvb hL
    go_enter Try.func20, Try.ntmps20
    go_wp2_with fail
    refine (CG.out _ (by repeat (first | (with_reducible exact Fr.refl _) | (with_reducible assumption) | (with_reducible refine Fr.drewN ?_ _) | (with_reducible refine Fr.drew ?_) | (with_reducible refine Fr.alloc ?_ _) | (with_reducible refine Fr.setCell ?_ (by (first | (with_reducible assumption) | omega | (simp only [World.size_alloc, World.size_setCell, World.size_drew, World.heap_drewN]; omega) | (simp; done) | (simp; omega))) _) | (with_reducible refine Fr.trans ?_ (by with_reducible assumption))))).mono ?_
    rintro e w1 ⟨rfl, hf1⟩
    have BG1 := ((Box.new w #[.int .i64 g.f0, .slice ae g.f1.length ce] 32).alloc (.cells #[.slice av ps.length cv] 27)).fr hf1
    have BP1 := (Box.new' (w := w.alloc (.cells #[.int .i64 g.f0, .slice ae g.f1.length ce] 32)) (X := #[.slice av ps.length cv]) (T := 27) (b := w.heap.size + 1) (by simp)).fr hf1
    have FP1 := BP1.facts
    go_wp2_with fail
    refine (CP.out _ (by repeat (first | (with_reducible exact Fr.refl _) | (with_reducible assumption) | (with_reducible refine Fr.drewN ?_ _) | (with_reducible refine Fr.drew ?_) | (with_reducible refine Fr.alloc ?_ _) | (with_reducible refine Fr.setCell ?_ (by (first | (with_reducible assumption) | omega | (simp only [World.size_alloc, World.size_setCell, World.size_drew, World.heap_drewN]; omega) | (simp; done) | (simp; omega))) _) | (with_reducible refine Fr.trans ?_ (by with_reducible assumption))))).mono ?_
    rintro e w2 ⟨rfl, hf2⟩
    have FG2 := (BG1.fr hf2).facts
    go_wp2_with fail
    refine (CV.out _).mono ?_
    rintro e w3 ⟨rfl, hf3⟩
    go_wp2_with fail
    go_ret
    exact ⟨none, 0, rfl, RdS.of_owns (World.ownsRow_nil _ 0 3 _), by repeat (first | (with_reducible exact Fr.refl _) | (with_reducible assumption) | (with_reducible refine Fr.drewN ?_ _) | (with_reducible refine Fr.drew ?_) | (with_reducible refine Fr.alloc ?_ _) | (with_reducible refine Fr.setCell ?_ (by (first | (with_reducible assumption) | omega | (simp only [World.size_alloc, World.size_setCell, World.size_drew, World.heap_drewN]; omega) | (simp; done) | (simp; omega))) _) | (with_reducible refine Fr.trans ?_ (by with_reducible assumption)))⟩
  obtain ⟨n, hn, hn0, hn1, hin⟩ := graph_nat hgb
  have hx := of_decide_eq_true hvb
  obtain ⟨p, rfl⟩ := Int.eq_ofNat_of_zero_le hx.1
  have hpn : p < n := by omega
  have HS := Lib.hid (sup_end (sup_st hin) ps)
  have HL : Hid (endsL g ps (p : Int) = reachL 32 (endR n (stR g.f1) ps p)) := Lib.hid (by
    unfold endsL
    rw [if_pos ⟨hgb, hpb, hx⟩, hn]
    rw [reachL_more (n := n) (m := 32) (fun k hk => (HS.out _ _ hk).2) (by omega)]
    simp)
  have CR : Hid (∀ w', Fr w w' → Calls Try.prog 93 #[.agg #[.int .i64 (n : Int), .slice ae g.f1.length ce], .agg #[.slice av ps.length cv]] w' fun e w'' => ∃ ao cap, e = .returned (.slice ao n cap) ∧ RelR w'' (.slice ao n cap) n (endR n (stR g.f1) ps) ∧ Fr w' w'') := Lib.hid fun w' h => reached_any _ ps n _ g.f1 w' ⟨hn0, hn1⟩ (HV.out.fr h) hpb (HE.out.fr h) hin
  rw [HL.out]
  rw [hn] at CG CV ⊢
  clear HNO hgb hpb hvb hn hin hx
  go_enter Try.func20, Try.ntmps20
  go_wp2_with fail
  refine (CG.out _ (by repeat (first | (with_reducible exact Fr.refl _) | (with_reducible assumption) | (with_reducible refine Fr.drewN ?_ _) | (with_reducible refine Fr.drew ?_) | (with_reducible refine Fr.alloc ?_ _) | (with_reducible refine Fr.setCell ?_ (by (first | (with_reducible assumption) | omega | (simp only [World.size_alloc, World.size_setCell, World.size_drew, World.heap_drewN]; omega) | (simp; done) | (simp; omega))) _) | (with_reducible refine Fr.trans ?_ (by with_reducible assumption))))).mono ?_
  rintro e w1 ⟨rfl, hf1⟩
  have BG1 := ((Box.new w #[.int .i64 (n : Int), .slice ae g.f1.length ce] 32).alloc (.cells #[.slice av ps.length cv] 27)).fr hf1
  have BP1 := (Box.new' (w := w.alloc (.cells #[.int .i64 (n : Int), .slice ae g.f1.length ce] 32)) (X := #[.slice av ps.length cv]) (T := 27) (b := w.heap.size + 1) (by simp)).fr hf1
  have FP1 := BP1.facts
  go_wp2_with fail
  refine (CP.out _ (by repeat (first | (with_reducible exact Fr.refl _) | (with_reducible assumption) | (with_reducible refine Fr.drewN ?_ _) | (with_reducible refine Fr.drew ?_) | (with_reducible refine Fr.alloc ?_ _) | (with_reducible refine Fr.setCell ?_ (by (first | (with_reducible assumption) | omega | (simp only [World.size_alloc, World.size_setCell, World.size_drew, World.heap_drewN]; omega) | (simp; done) | (simp; omega))) _) | (with_reducible refine Fr.trans ?_ (by with_reducible assumption))))).mono ?_
  rintro e w2 ⟨rfl, hf2⟩
  have BG2 := BG1.fr hf2
  have BP2 := BP1.fr hf2
  have FG2 := BG2.facts
  go_wp2_with fail
  refine (CV.out _).mono ?_
  rintro e w3 ⟨rfl, hf3⟩
  have FG3 := (BG2.fr hf3).facts
  have FP3 := (BP2.fr hf3).facts
  go_wp2_with fail
  refine (CR.out _ (by repeat (first | (with_reducible exact Fr.refl _) | (with_reducible assumption) | (with_reducible refine Fr.drewN ?_ _) | (with_reducible refine Fr.drew ?_) | (with_reducible refine Fr.alloc ?_ _) | (with_reducible refine Fr.setCell ?_ (by (first | (with_reducible assumption) | omega | (simp only [World.size_alloc, World.size_setCell, World.size_drew, World.heap_drewN]; omega) | (simp; done) | (simp; omega))) _) | (with_reducible refine Fr.trans ?_ (by with_reducible assumption))))).mono ?_
  rintro e w4 ⟨ao, cap, rfl, hr, hf4⟩
  obtain ⟨ao', b, o, cap', hv, hc1, hc2, hf⟩ := hr.one
  cases hv
  obtain ⟨rfl, hb, hc⟩ := hf hn0
  have c0 := hc p hpn
  clear hc hf hr
  go_wp2_with fail
  refine (bitsIn_any (endR n (stR g.f1) ps p) _).mono ?_
  rintro e w5 ⟨a5, c5, rfl, h5, hf5⟩
  have H5 := Lib.hid (IntsO.rd h5)
  clear h5
  go_wp2_with fail
  go_ret
  exact ⟨_, _, rfl, H5.out, by repeat (first | (with_reducible exact Fr.refl _) | (with_reducible assumption) | (with_reducible refine Fr.drewN ?_ _) | (with_reducible refine Fr.drew ?_) | (with_reducible refine Fr.alloc ?_ _) | (with_reducible refine Fr.setCell ?_ (by (first | (with_reducible assumption) | omega | (simp only [World.size_alloc, World.size_setCell, World.size_drew, World.heap_drewN]; omega) | (simp; done) | (simp; omega))) _) | (with_reducible refine Fr.trans ?_ (by with_reducible assumption)))⟩
theorem pairs_next (R : Nat → Nat → Bool) (m v : Nat) : pairsL R m (v + 1) = pairsL R m v ++ (reachL m (R v)).map fun w => [(v : Int), w] := rfl
def pairsTo (R : Nat → Nat → Bool) (m v q : Nat) : List (List Int) := pairsL R m v ++ ((reachL m (R v)).take q).map fun w => [(v : Int), w]
theorem pairsTo_0 (R : Nat → Nat → Bool) (m v : Nat) : pairsTo R m v 0 = pairsL R m v := by simp [pairsTo]
theorem pairsTo_all {R : Nat → Nat → Bool} {m v q : Nat} (h : (reachL m (R v)).length ≤ q) : pairsTo R m v q = pairsL R m (v + 1) := by
  unfold pairsTo
  rw [List.take_of_length_le h]
  rfl
theorem pairsTo_step {R : Nat → Nat → Bool} {m v q : Nat} (h : q < (reachL m (R v)).length) : pairsTo R m v (q + 1) = pairsTo R m v q ++ [[(v : Int), iAt (reachL m (R v)) q]] := by
  unfold pairsTo
  rw [List.take_succ_eq_append_getElem h, List.map_append, ← List.append_assoc]
  simp [iAt, List.getD, h]
theorem pairsTo_len (R : Nat → Nat → Bool) (m v q : Nat) : (pairsTo R m v q).length ≤ (v + 1) * m := by
  unfold pairsTo
  rw [List.length_append, List.length_map, List.length_take, Nat.add_mul]
  have := pairsL_len R m v
  have := reachL_len m (R v)
  omega
set_option maxHeartbeats 16000000 in
set_option maxRecDepth 100000 in
theorem implPathPairs_any (g : GraphD) (ev : Value) (v : Value) (ps : List PieceD) (w : World) (he : EdgesR w ev g.f1) (hv : PiecesR w v ps) :
    Calls Try.prog 23 #[.agg #[.int .i64 g.f0, ev], .agg #[v]] w fun e w' => ∃ u, e = .returned u ∧ IntSSR w' u (pairsM g ps) ∧ Fr w w' := by
  obtain ⟨k0, ki, kz0, kz1, kz2⟩ := info_parts info_ints
  obtain ⟨gb, hgb⟩ : ∃ gb, graphB g = gb := ⟨_, rfl⟩
  obtain ⟨pb, hpb⟩ : ∃ pb, pathB ps = pb := ⟨_, rfl⟩
  have HE := Lib.hid he
  have HV := Lib.hid hv
  have CG : Hid (∀ w', Fr w w' → Calls Try.prog 90 #[.agg #[.int .i64 g.f0, ev]] w' fun e w'' => e = .returned (.bool gb) ∧ Fr w' w'') := Lib.hid fun w' h => by rw [← hgb]; exact implGraphOk_any ev g.f0 g.f1 w' (HE.out.fr h)
  have CP : Hid (∀ w', Fr w w' → Calls Try.prog 25 #[.agg #[v]] w' fun e w'' => e = .returned (.bool pb) ∧ Fr w' w'') := Lib.hid fun w' h => by rw [← hpb]; exact implPathOk_any v ps w' (HV.out.fr h)
  have HNO : Hid (¬ (gb = true ∧ pb = true) → pairsM g ps = []) := Lib.hid fun h => by
    unfold pairsM
    rw [if_neg]
    rintro ⟨h1, h2⟩
    exact h ⟨hgb ▸ h1, hpb ▸ h2⟩
  obtain ⟨ae, be, oe, ce, rfl, hce, hme, fe⟩ := he.one
  obtain ⟨av, bv, ov, cv, rfl, hcv, hmv, fv⟩ := hv.one
  clear he hv fe fv
  cases gb
  · have hL := HNO.out (by simp)
    rw [hL]
    clear HNO hgb hpb hL
    go_enter Try.func23, Try.ntmps23
    go_wp2_with fail
    refine (CG.out _ (by repeat (first | (with_reducible exact Fr.refl _) | (with_reducible assumption) | (with_reducible refine Fr.drewN ?_ _) | (with_reducible refine Fr.drew ?_) | (with_reducible refine Fr.alloc ?_ _) | (with_reducible refine Fr.setCell ?_ (by (first | (with_reducible assumption) | omega | (simp only [World.size_alloc, World.size_setCell, World.size_drew, World.heap_drewN]; omega) | (simp; done) | (simp; omega))) _) | (with_reducible refine Fr.trans ?_ (by with_reducible assumption))))).mono ?_
    rintro e w1 ⟨rfl, hf1⟩
    have BP1 := (Box.new' (w := w.alloc (.cells #[.int .i64 g.f0, .slice ae g.f1.length ce] 32)) (X := #[.slice av ps.length cv]) (T := 27) (b := w.heap.size + 1) (by simp)).fr hf1
    have FP1 := BP1.facts
    go_wp2_with fail
    go_ret
    exact ⟨_, rfl, (IntSSW.nil _ 0 0).rd, by repeat (first | (with_reducible exact Fr.refl _) | (with_reducible assumption) | (with_reducible refine Fr.drewN ?_ _) | (with_reducible refine Fr.drew ?_) | (with_reducible refine Fr.alloc ?_ _) | (with_reducible refine Fr.setCell ?_ (by (first | (with_reducible assumption) | omega | (simp only [World.size_alloc, World.size_setCell, World.size_drew, World.heap_drewN]; omega) | (simp; done) | (simp; omega))) _) | (with_reducible refine Fr.trans ?_ (by with_reducible assumption)))⟩
  cases pb
  · have hL := HNO.out (by simp)
    rw [hL]
    clear HNO hgb hpb hL
    go_enter Try.func23, Try.ntmps23
    go_wp2_with fail
    refine (CG.out _ (by repeat (first | (with_reducible exact Fr.refl _) | (with_reducible assumption) | (with_reducible refine Fr.drewN ?_ _) | (with_reducible refine Fr.drew ?_) | (with_reducible refine Fr.alloc ?_ _) | (with_reducible refine Fr.setCell ?_ (by (first | (with_reducible assumption) | omega | (simp only [World.size_alloc, World.size_setCell, World.size_drew, World.heap_drewN]; omega) | (simp; done) | (simp; omega))) _) | (with_reducible refine Fr.trans ?_ (by with_reducible assumption))))).mono ?_
    rintro e w1 ⟨rfl, hf1⟩
    have BP1 := (Box.new' (w := w.alloc (.cells #[.int .i64 g.f0, .slice ae g.f1.length ce] 32)) (X := #[.slice av ps.length cv]) (T := 27) (b := w.heap.size + 1) (by simp)).fr hf1
    have FP1 := BP1.facts
    go_wp2_with fail
    refine (CP.out _ (by repeat (first | (with_reducible exact Fr.refl _) | (with_reducible assumption) | (with_reducible refine Fr.drewN ?_ _) | (with_reducible refine Fr.drew ?_) | (with_reducible refine Fr.alloc ?_ _) | (with_reducible refine Fr.setCell ?_ (by (first | (with_reducible assumption) | omega | (simp only [World.size_alloc, World.size_setCell, World.size_drew, World.heap_drewN]; omega) | (simp; done) | (simp; omega))) _) | (with_reducible refine Fr.trans ?_ (by with_reducible assumption))))).mono ?_
    rintro e w2 ⟨rfl, hf2⟩
    go_wp2_with fail
    go_ret
    exact ⟨_, rfl, (IntSSW.nil _ 0 0).rd, by repeat (first | (with_reducible exact Fr.refl _) | (with_reducible assumption) | (with_reducible refine Fr.drewN ?_ _) | (with_reducible refine Fr.drew ?_) | (with_reducible refine Fr.alloc ?_ _) | (with_reducible refine Fr.setCell ?_ (by (first | (with_reducible assumption) | omega | (simp only [World.size_alloc, World.size_setCell, World.size_drew, World.heap_drewN]; omega) | (simp; done) | (simp; omega))) _) | (with_reducible refine Fr.trans ?_ (by with_reducible assumption)))⟩
  obtain ⟨n, hn, hn0, hn1, hin⟩ := graph_nat hgb
  obtain ⟨R, hR⟩ : ∃ R, endR n (stR g.f1) ps = R := ⟨_, rfl⟩
  have HS : Hid (Sup n R) := Lib.hid (hR ▸ sup_end (sup_st hin) ps)
  have HL : Hid (pairsM g ps = pairsL R 32 n) := Lib.hid (by
    unfold pairsM
    rw [if_pos ⟨hgb, hpb⟩, hn, pairsL_more HS.out (by omega)]
    simp [hR])
  have CR : Hid (∀ w', Fr w w' → Calls Try.prog 93 #[.agg #[.int .i64 (n : Int), .slice ae g.f1.length ce], .agg #[.slice av ps.length cv]] w' fun e w'' => ∃ ao cap, e = .returned (.slice ao n cap) ∧ RelR w'' (.slice ao n cap) n R ∧ Fr w' w'') := Lib.hid fun w' h => by rw [← hR]; exact reached_any _ ps n _ g.f1 w' ⟨hn0, hn1⟩ (HV.out.fr h) hpb (HE.out.fr h) hin
  rw [HL.out]
  rw [hn] at CG ⊢
  clear HNO hgb hpb hn hin hR HL HS
  go_enter Try.func23, Try.ntmps23
  go_wp2_with fail
  refine (CG.out _ (by repeat (first | (with_reducible exact Fr.refl _) | (with_reducible assumption) | (with_reducible refine Fr.drewN ?_ _) | (with_reducible refine Fr.drew ?_) | (with_reducible refine Fr.alloc ?_ _) | (with_reducible refine Fr.setCell ?_ (by (first | (with_reducible assumption) | omega | (simp only [World.size_alloc, World.size_setCell, World.size_drew, World.heap_drewN]; omega) | (simp; done) | (simp; omega))) _) | (with_reducible refine Fr.trans ?_ (by with_reducible assumption))))).mono ?_
  rintro e w1 ⟨rfl, hf1⟩
  have BG1 := ((Box.new w #[.int .i64 (n : Int), .slice ae g.f1.length ce] 32).alloc (.cells #[.slice av ps.length cv] 27)).fr hf1
  have BP1 := (Box.new' (w := w.alloc (.cells #[.int .i64 (n : Int), .slice ae g.f1.length ce] 32)) (X := #[.slice av ps.length cv]) (T := 27) (b := w.heap.size + 1) (by simp)).fr hf1
  have FP1 := BP1.facts
  go_wp2_with fail
  refine (CP.out _ (by repeat (first | (with_reducible exact Fr.refl _) | (with_reducible assumption) | (with_reducible refine Fr.drewN ?_ _) | (with_reducible refine Fr.drew ?_) | (with_reducible refine Fr.alloc ?_ _) | (with_reducible refine Fr.setCell ?_ (by (first | (with_reducible assumption) | omega | (simp only [World.size_alloc, World.size_setCell, World.size_drew, World.heap_drewN]; omega) | (simp; done) | (simp; omega))) _) | (with_reducible refine Fr.trans ?_ (by with_reducible assumption))))).mono ?_
  rintro e w2 ⟨rfl, hf2⟩
  have FG2 := (BG1.fr hf2).facts
  have FP2 := (BP1.fr hf2).facts
  go_wp2_with fail
  refine (CR.out _ (by repeat (first | (with_reducible exact Fr.refl _) | (with_reducible assumption) | (with_reducible refine Fr.drewN ?_ _) | (with_reducible refine Fr.drew ?_) | (with_reducible refine Fr.alloc ?_ _) | (with_reducible refine Fr.setCell ?_ (by (first | (with_reducible assumption) | omega | (simp only [World.size_alloc, World.size_setCell, World.size_drew, World.heap_drewN]; omega) | (simp; done) | (simp; omega))) _) | (with_reducible refine Fr.trans ?_ (by with_reducible assumption))))).mono ?_
  rintro e w3 ⟨ao, cap, rfl, hr, hf3⟩
  obtain ⟨ao', b, o, cap', hv, hc1, hc2, hf⟩ := hr.one
  cases hv
  obtain ⟨rfl, hb, hc⟩ := hf hn0
  have HC := Lib.hid hc
  have hfw3 : Fr w w3 := by repeat (first | (with_reducible exact Fr.refl _) | (with_reducible assumption) | (with_reducible refine Fr.drewN ?_ _) | (with_reducible refine Fr.drew ?_) | (with_reducible refine Fr.alloc ?_ _) | (with_reducible refine Fr.setCell ?_ (by (first | (with_reducible assumption) | omega | (simp only [World.size_alloc, World.size_setCell, World.size_drew, World.heap_drewN]; omega) | (simp; done) | (simp; omega))) _) | (with_reducible refine Fr.trans ?_ (by with_reducible assumption)))
  have HFW := Lib.hid hfw3
  clear hc hf hr FG2 FP2 FP1 BG1 BP1 hf1 hf2 hf3 hfw3
  go_wp2_with fail
  go_loopw [5, 22] (fun z i wr => ∃ (k : Nat) (az : Option Addr) (cz : Nat), k ≤ n ∧ i = .int .i64 k ∧ z = .slice az (pairsTo R 32 k 0).length cz ∧ Hid (IntSSW wr w3.heap.size wr.heap.size (.slice az (pairsTo R 32 k 0).length cz) (pairsTo R 32 k 0)) ∧ Hid (Fr w3 wr)) (fun _ i _ => n - (intOf i).toNat)
  case atStart => exact ⟨0, none, 0, Nat.zero_le _, rfl, rfl, Lib.hid (IntSSW.nil _ _ _), Lib.hid (Fr.refl _)⟩
  case round =>
    obtain ⟨k, az, cz, hk, rfl, rfl, HP, hf3⟩ := hrel
    have zr3 := hf3.out.size
    by_cases hlt : k < n
    · have c0 := (hf3.out.cell (p := ⟨b, _, none⟩) hb).trans (HC.out k hlt)
      go_wp2_with fail
      refine (bitsIn_any (R k) _).mono ?_
      rintro e w5 ⟨a5, c5, rfl, h5, hf5⟩
      have hl32 := reachL_len 32 (R k)
      obtain ⟨bb, hbb⟩ := IntsO.get h5
      have zf5 := hf5.size
      have hrow := NestW.rowIn HP.out
      have HRD : Hid (0 < (reachL 32 (R k)).length → bb < w5.heap.size ∧ (Value.slice az (pairsTo R 32 k 0).length cz).ownBlock ≠ some bb ∧ ∀ q, q < (reachL 32 (R k)).length → w5.cell? ⟨bb, q, none⟩ = some (.int .i64 (iAt (reachL 32 (R k)) q))) := Lib.hid fun h => ⟨(hbb h).2.2.1, fun e => by have := hrow bb e; have := (hbb h).2.1; omega, (hbb h).2.2.2⟩
      have HAD : Hid (0 < (reachL 32 (R k)).length → a5 = some ⟨bb, 0, none⟩) := Lib.hid fun h => (hbb h).1
      have HP5 : Hid (IntSSW w5 w3.heap.size w5.heap.size (.slice az (pairsTo R 32 k 0).length cz) (pairsTo R 32 k 0)) := Lib.hid ((HP.out.fr hf5).mono hf5.size)
      have HF35 : Hid (Fr w3 w5) := Lib.hid (hf3.out.trans hf5)
      clear h5 hbb c0 hrow
      go_wp2_with fail
      go_loopw [5, 30] (fun z i wr => ∃ (q : Nat) (az : Option Addr) (cz : Nat), q ≤ (reachL 32 (R k)).length ∧ i = .int .i64 q ∧ z = .slice az (pairsTo R 32 k q).length cz ∧ Hid (IntSSW wr w3.heap.size wr.heap.size (.slice az (pairsTo R 32 k q).length cz) (pairsTo R 32 k q)) ∧ Hid (Fr w3 wr) ∧ Hid (0 < (reachL 32 (R k)).length → bb < wr.heap.size ∧ (Value.slice az (pairsTo R 32 k q).length cz).ownBlock ≠ some bb ∧ ∀ q, q < (reachL 32 (R k)).length → wr.cell? ⟨bb, q, none⟩ = some (.int .i64 (iAt (reachL 32 (R k)) q)))) (fun _ i _ => (reachL 32 (R k)).length - (intOf i).toNat)
      case atStart => exact ⟨0, az, cz, Nat.zero_le _, rfl, rfl, HP5, HF35, HRD⟩
      case round =>
        clear HP5 HF35 HP hf3 hf5 zr3 HRD zf5
        obtain ⟨q, az, cz, hq, rfl, rfl, HP, hf3, hrd⟩ := hrel
        by_cases hqt : q < (reachL 32 (R k)).length
        · obtain rfl := HAD.out (by omega)
          obtain ⟨hb1, hb2, hb3⟩ := hrd.out (by omega)
          have d0 := hb3 q hqt
          have HB3 := Lib.hid hb3
          have HB2 := Lib.hid hb2
          obtain ⟨y, hy⟩ : ∃ y, iAt (reachL 32 (R k)) q = y := ⟨_, rfl⟩
          have hst := pairsTo_step (m := 32) (R := R) hqt
          rw [hy] at d0 hst
          have HST := Lib.hid hst
          have hle := pairsTo_len R 32 k q
          have hle2 : (k + 1) * 32 ≤ 12 * 32 := Nat.mul_le_mul_right _ (by omega)
          have zz := hf3.out.size
          obtain ⟨ys, hys, happ⟩ := NestW.app (E := IntsEW) (fun a b c => IntsEW.span a b c) HP.out
          have HYS := Lib.hid hys
          have HAPP := Lib.hid happ
          clear hys happ hst hy hb3 hrd hb2
          go_wp2_with ((at_builtin; (refine wpList_append_rd rfl _ _ 41 rfl w3.heap.size 38 k0 (.slice none 0 0) 1 24 Try.underlying41 ki kz0 kz1 kz2 rfl (by decide) (.slice az (pairsTo R 32 k q).length cz) (pairsTo R 32 k q).length ys rfl (World.ownsRow.alloc (World.ownsRow.alloc HYS.out.1 _) _) _ 1 [.slice (some ⟨wr.heap.size, 0, none⟩) 2 2] rfl (RdS.new (by first | rfl | (simp; done)) rfl) (by simp [Value.oneCell']) (by unfold maxLen; omega) (by omega) (by (first | (with_reducible assumption) | omega | (simp only [World.size_alloc, World.size_setCell, World.size_drew, World.heap_drewN]; omega) | (simp; done) | (simp; omega))) ?_; intro ay cy w9 hown9 hgrow9 hat9)))
          have HE := Lib.hid (IntSSW.pair (W := w3) (a := (k : Int)) (b := y) HP.out rfl (Nat.le_refl _) zz hf3.out HAPP.out rfl ⟨_, rfl⟩ hown9 hgrow9 hat9)
          have hlen : (pairsTo R 32 k (q + 1)).length = (pairsTo R 32 k q).length + 1 := by rw [HST.out]; simp
          have HRD : Hid (0 < (reachL 32 (R k)).length → bb < w9.heap.size ∧ (Value.slice ay ((pairsTo R 32 k q).length + 1) cy).ownBlock ≠ some bb ∧ ∀ q, q < (reachL 32 (R k)).length → w9.cell? ⟨bb, q, none⟩ = some (.int .i64 (iAt (reachL 32 (R k)) q))) := Lib.hid fun _ => ⟨by have := hgrow9.size; simp at this; omega, fun e => by
            rcases hat9 with h | h
            · rw [h] at e; exact HB2.out e
            · rw [h] at e; simp at e; omega, fun q hq => by
            rw [grown_cell hgrow9 (b := bb) (by simp; omega) HB2.out q, ← HB3.out q hq]
            exact (show Fr wr _ by repeat (first | (with_reducible exact Fr.refl _) | (with_reducible assumption) | (with_reducible refine Fr.drewN ?_ _) | (with_reducible refine Fr.drew ?_) | (with_reducible refine Fr.alloc ?_ _) | (with_reducible refine Fr.setCell ?_ (by (first | (with_reducible assumption) | omega | (simp only [World.size_alloc, World.size_setCell, World.size_drew, World.heap_drewN]; omega) | (simp; done) | (simp; omega))) _) | (with_reducible refine Fr.trans ?_ (by with_reducible assumption)))).cell (p := ⟨bb, _, none⟩) hb1⟩
          go_roundw
          case rel =>
            refine ⟨q + 1, ay, cy, by omega, by go_num, by rw [hlen], Lib.hid ?_, Lib.hid HE.out.2, Lib.hid ?_⟩
            · rw [hlen, HST.out]; exact HE.out.1
            · rw [hlen]; exact HRD.out
          case measure => (simp [intOf]; omega)
        · have HN : Hid (pairsTo R 32 k q = pairsTo R 32 (k + 1) 0) := Lib.hid (by rw [pairsTo_all (by omega), pairsTo_0])
          clear hrd
          go_wp2_with fail
          go_roundw
          case rel => exact ⟨k + 1, az, cz, by omega, by go_num, by rw [HN.out], by rw [← HN.out]; exact HP, hf3⟩
          case measure => (simp [intOf]; omega)
    · obtain rfl : k = n := by omega
      go_wp2_with fail
      go_ret
      refine ⟨_, rfl, ?_, HFW.out.trans hf3.out⟩
      rw [← pairsTo_0]
      exact HP.out.rd
def stepB (ps : List PieceD) : Bool := pathB ps && decide ((nAt ps (ps.length - 1)).f0 = 1)
set_option maxHeartbeats 4000000 in
set_option maxRecDepth 100000 in
theorem implStepOnly_any (v : Value) (ps : List PieceD) (w : World) (hv : PiecesR w v ps) :
    Calls Try.prog 27 #[.agg #[v]] w fun e w' => e = .returned (.bool (stepB ps)) ∧ Fr w w' := by
  obtain ⟨pb, hpb⟩ : ∃ pb, pathB ps = pb := ⟨_, rfl⟩
  have CP : Hid (∀ w', Fr w w' → Calls Try.prog 25 #[.agg #[v]] w' fun e w'' => e = .returned (.bool pb) ∧ Fr w' w'') := Lib.hid fun w' h => by rw [← hpb]; exact implPathOk_any v ps w' (hv.fr h)
  have HB : Hid (stepB ps = (pb && decide ((nAt ps (ps.length - 1)).f0 = 1))) := Lib.hid (by unfold stepB; rw [hpb])
  obtain ⟨av, bv, ov, cv, rfl, hcv, hmv, fv⟩ := hv.one
  rw [HB.out]
  cases pb
  · clear fv hv hpb HB
    go_enter Try.func27, Try.ntmps27
    go_wp2_with fail
    refine (CP.out _ (by repeat (first | (with_reducible exact Fr.refl _) | (with_reducible assumption) | (with_reducible refine Fr.drewN ?_ _) | (with_reducible refine Fr.drew ?_) | (with_reducible refine Fr.alloc ?_ _) | (with_reducible refine Fr.setCell ?_ (by (first | (with_reducible assumption) | omega | (simp only [World.size_alloc, World.size_setCell, World.size_drew, World.heap_drewN]; omega) | (simp; done) | (simp; omega))) _) | (with_reducible refine Fr.trans ?_ (by with_reducible assumption))))).mono ?_
    rintro e w1 ⟨rfl, hf1⟩
    go_wp2_with fail
    go_ret
    exact ⟨ret_bool (by simp), by repeat (first | (with_reducible exact Fr.refl _) | (with_reducible assumption) | (with_reducible refine Fr.drewN ?_ _) | (with_reducible refine Fr.drew ?_) | (with_reducible refine Fr.alloc ?_ _) | (with_reducible refine Fr.setCell ?_ (by (first | (with_reducible assumption) | omega | (simp only [World.size_alloc, World.size_setCell, World.size_drew, World.heap_drewN]; omega) | (simp; done) | (simp; omega))) _) | (with_reducible refine Fr.trans ?_ (by with_reducible assumption)))⟩
  · have hl := (pathB_out hpb).1
    obtain ⟨rfl, hbv, fv⟩ := fv (by omega)
    obtain ⟨va, ha, g0, g1, g2⟩ := fv (ps.length - 1) (by omega)
    obtain ⟨y, hy⟩ : ∃ y, (nAt ps (ps.length - 1)).f0 = y := ⟨_, rfl⟩
    rw [hy] at g0 ⊢
    have hwl : IntKind.i64.wrap ((ps.length : Int) - 1) = ((ps.length - 1 : Nat) : Int) := by rw [show (ps.length : Int) - 1 = ((ps.length - 1 : Nat) : Int) by omega]; exact IntWalk.i64_in _ (by omega)
    have hlt : ps.length - 1 < ps.length := by omega
    have hl1 := hl.1
    clear fv hv hpb HB hy ha g1 g2 hl
    go_enter Try.func27, Try.ntmps27
    go_wp2_with fail
    refine (CP.out _ (by repeat (first | (with_reducible exact Fr.refl _) | (with_reducible assumption) | (with_reducible refine Fr.drewN ?_ _) | (with_reducible refine Fr.drew ?_) | (with_reducible refine Fr.alloc ?_ _) | (with_reducible refine Fr.setCell ?_ (by (first | (with_reducible assumption) | omega | (simp only [World.size_alloc, World.size_setCell, World.size_drew, World.heap_drewN]; omega) | (simp; done) | (simp; omega))) _) | (with_reducible refine Fr.trans ?_ (by with_reducible assumption))))).mono ?_
    rintro e w1 ⟨rfl, hf1⟩
    have F1 := ((Box.new w #[.slice (some ⟨bv, ov, none⟩) ps.length cv] 27).fr hf1).facts
    have c0 : w1.cell? ⟨bv, ov + (ps.length - 1) * 3, none⟩ = some (.int .i64 y) := ((show Fr w w1 by repeat (first | (with_reducible exact Fr.refl _) | (with_reducible assumption) | (with_reducible refine Fr.drewN ?_ _) | (with_reducible refine Fr.drew ?_) | (with_reducible refine Fr.alloc ?_ _) | (with_reducible refine Fr.setCell ?_ (by (first | (with_reducible assumption) | omega | (simp only [World.size_alloc, World.size_setCell, World.size_drew, World.heap_drewN]; omega) | (simp; done) | (simp; omega))) _) | (with_reducible refine Fr.trans ?_ (by with_reducible assumption)))).cell (p := ⟨bv, _, none⟩) hbv).trans g0
    go_wp2_with fail
    go_ret
    exact ⟨ret_bool (by rw [Bool.eq_iff_iff]; simp), by repeat (first | (with_reducible exact Fr.refl _) | (with_reducible assumption) | (with_reducible refine Fr.drewN ?_ _) | (with_reducible refine Fr.drew ?_) | (with_reducible refine Fr.alloc ?_ _) | (with_reducible refine Fr.setCell ?_ (by (first | (with_reducible assumption) | omega | (simp only [World.size_alloc, World.size_setCell, World.size_drew, World.heap_drewN]; omega) | (simp; done) | (simp; omega))) _) | (with_reducible refine Fr.trans ?_ (by with_reducible assumption)))⟩
end Go.Proofs.Ytjgghiniajmfjaa
