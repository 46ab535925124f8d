/- An edge put into its place (spec.l04Put), an edge added to a right graph (spec.GraphAdd). Conditions: bounds on what is read. (Printed by mk_pute.py.) -/
import Derived.Test.YtjgghiniajmfjaaKGr
import Derived.Test.YtjgghiniajmfjaaKApp
import Derived.Deep.RegionLaw
import Derived.Deep.RegionHeld3
import Derived.Deep.Cut
namespace Go.Proofs.Ytjgghiniajmfjaa
open Go.RowKit
set_option linter.unusedVariables false
set_option linter.unusedSimpArgs false
def selE (p : EdgeR → Bool) (xs : List EdgeR) (k : Nat) : List EdgeR := (xs.take k).filter p
theorem selE_yes {p : EdgeR → Bool} {xs : List EdgeR} {k : Nat} {x : EdgeR} (hk : k < xs.length) (hx : edgeAt xs k = x) (h : p x = true) : selE p xs (k + 1) = selE p xs k ++ [x] := by
  have e : xs[k] = x := by rw [← hx]; simp [edgeAt, List.getD, List.getElem?_eq_getElem hk]
  unfold selE
  rw [List.take_succ_eq_append_getElem hk, List.filter_append, e]
  simp [h]
theorem selE_no {p : EdgeR → Bool} {xs : List EdgeR} {k : Nat} {x : EdgeR} (hk : k < xs.length) (hx : edgeAt xs k = x) (h : p x = false) : selE p xs (k + 1) = selE p xs k := by
  have e : xs[k] = x := by rw [← hx]; simp [edgeAt, List.getD, List.getElem?_eq_getElem hk]
  unfold selE
  rw [List.take_succ_eq_append_getElem hk, List.filter_append, e]
  simp [h]
theorem selE_all (p : EdgeR → Bool) (xs : List EdgeR) : selE p xs xs.length = xs.filter p := by unfold selE; rw [List.take_length]
theorem selE_le (p : EdgeR → Bool) (xs : List EdgeR) (k : Nat) : (selE p xs k).length ≤ xs.length := by
  unfold selE
  have h1 := List.length_filter_le p (xs.take k)
  have h2 := List.length_take_le k xs
  have h3 : (xs.take k).length ≤ xs.length := by rw [List.length_take]; omega
  omega
def putE (xs : List EdgeR) (f : EdgeR) : List EdgeR := xs.filter (fun x => edgeLt x f) ++ [f] ++ xs.filter (edgeLt f)
def putEK (xs : List EdgeR) (f : EdgeR) (k : Nat) : List EdgeR := xs.filter (fun x => edgeLt x f) ++ [f] ++ selE (edgeLt f) xs k
theorem putEK_zero (xs : List EdgeR) (f : EdgeR) : putEK xs f 0 = xs.filter (fun x => edgeLt x f) ++ [f] := by simp [putEK, selE]
theorem putEK_all (xs : List EdgeR) (f : EdgeR) : putEK xs f xs.length = putE xs f := by unfold putEK putE; rw [selE_all]
theorem putEK_yes {f : EdgeR} {xs : List EdgeR} {k : Nat} {x : EdgeR} (hk : k < xs.length) (hx : edgeAt xs k = x) (h : edgeLt f x = true) : putEK xs f (k + 1) = putEK xs f k ++ [x] := by
  unfold putEK; rw [selE_yes hk hx h]; simp only [List.append_assoc]
theorem putEK_no {f : EdgeR} {xs : List EdgeR} {k : Nat} {x : EdgeR} (hk : k < xs.length) (hx : edgeAt xs k = x) (h : edgeLt f x = false) : putEK xs f (k + 1) = putEK xs f k := by
  unfold putEK; rw [selE_no hk hx h]
theorem putEK_le (xs : List EdgeR) (f : EdgeR) (k : Nat) : (putEK xs f k).length ≤ 2 * xs.length + 1 := by
  have h1 := selE_le (edgeLt f) xs k
  have h2 := List.length_filter_le (fun x => edgeLt x f) xs
  unfold putEK
  simp only [List.length_append, List.length_singleton]
  omega
theorem edgeC_snoc (l : List EdgeR) (x : EdgeR) : (l ++ [x]).flatMap EdgeR.cells = l.flatMap EdgeR.cells ++ [.int .i64 x.f0, .int .u8 (x.f1.toNat : Int), .int .i64 x.f2] := by
  rw [List.flatMap_append]; simp [EdgeR.cells]
set_option maxHeartbeats 8000000 in
set_option maxRecDepth 100000 in
theorem l04Put_any (v : Value) (xs : List EdgeR) (f : EdgeR) (w : World) (hv : EdgesR w v xs) (hn : xs.length ≤ 1048576) :
    Calls Try.prog 122 #[v, .agg #[.int .i64 f.f0, .int .u8 (f.f1.toNat : Int), .int .i64 f.f2]] w fun e w' => ∃ ao cap, e = .returned (.slice ao (putE xs f).length cap) ∧ EdgesW w' w.heap.size w'.heap.size (.slice ao (putE xs f).length cap) (putE xs f) ∧ Fr w w' := by
  obtain ⟨i0, hi, hz0, hz1, hz2⟩ := info_parts info_Edge
  obtain ⟨a0, b0, o0, c0, rfl, hc0, hm0, f0⟩ := hv.one
  have F0 := Lib.hid f0
  have hfl := f.f1.toNat_lt
  clear f0
  go_enter Try.func122, Try.ntmps122
  have BF0 : Box (w.alloc (.cells #[.int .i64 f.f0, .int .u8 (f.f1.toNat : Int), .int .i64 f.f2] 157)) w.heap.size #[.int .i64 f.f0, .int .u8 (f.f1.toNat : Int), .int .i64 f.f2] 157 := Box.new _ _ _
  go_wp2_with fail
  go_loopw [5, 6] (fun o i wr => ∃ (k : Nat) (l : List EdgeR) (ao : Option Addr) (cap : Nat), k ≤ xs.length ∧ i = .int .i64 k ∧ o = .slice ao l.length cap ∧ Hid (l = selE (fun x => edgeLt x f) xs k) ∧ Hid (EdgesW wr (w.heap.size + 1) wr.heap.size (.slice ao l.length cap) l) ∧ Box wr w.heap.size #[.int .i64 f.f0, .int .u8 (f.f1.toNat : Int), .int .i64 f.f2] 157 ∧ Fr w wr) (fun _ i _ => xs.length - (intOf i).toNat)
  case atStart => exact ⟨0, [], some ⟨w.heap.size + 1, 0, none⟩, 0, Nat.zero_le _, rfl, rfl, Lib.hid rfl, Lib.hid ⟨made_empty (by simp) (by omega), RowIn.one (by omega) (by simp)⟩, BF0.alloc _, by repeat (first | (with_reducible exact Fr.refl _) | (with_reducible assumption) | (with_reducible refine Fr.drewN ?_ _) | (with_reducible refine Fr.drew ?_) | (with_reducible refine Fr.alloc ?_ _) | (with_reducible refine Fr.setCell ?_ (by (first | (with_reducible assumption) | omega | (simp only [World.size_alloc, World.size_setCell, World.size_drew, World.heap_drewN]; omega) | (simp; done) | (simp; omega))) _) | (with_reducible refine Fr.trans ?_ (by with_reducible assumption)))⟩
  case round =>
    clear BF0
    obtain ⟨k, l, ao, cap, hk, rfl, rfl, hl2, HW, BF, hfr⟩ := hrel
    have FF := BF.facts
    have hzo := BF.lt
    by_cases hlt : k < xs.length
    · obtain ⟨rfl, hb0, f0⟩ := F0.out (by omega)
      obtain ⟨x, hx⟩ : ∃ x, edgeAt xs k = x := ⟨_, rfl⟩
      have fk := f0 k hlt
      rw [hx] at fk
      obtain ⟨g0, g1, g2⟩ := fk
      have hxl := x.f1.toNat_lt
      have hb0r := Nat.lt_of_lt_of_le hb0 hfr.size
      have P0 : ∀ w', Sf wr w' → w'.cell? _ = _ := fun w' h => ((hfr.trans h.out).cell (p := ⟨b0, _, none⟩) hb0).trans g0
      have P1 : ∀ w', Sf wr w' → w'.cell? _ = _ := fun w' h => ((hfr.trans h.out).cell (p := ⟨b0, _, none⟩) hb0).trans g1
      have P2 : ∀ w', Sf wr w' → w'.cell? _ = _ := fun w' h => ((hfr.trans h.out).cell (p := ⟨b0, _, none⟩) hb0).trans g2
      have RF : ∀ w', Sf wr w' → ∀ o, w'.cell? ⟨w.heap.size, o, none⟩ = (#[.int .i64 f.f0, .int .u8 (f.f1.toNat : Int), .int .i64 f.f2] : Array Value)[o]? := fun w' h o => (BF.fr h.out).cell o
      clear f0
      cases hp : edgeLt x f
      · have CT : Hid (∀ w', Calls Try.prog 131 #[.agg #[.int .i64 x.f0, .int .u8 (x.f1.toNat : Int), .int .i64 x.f2], .agg #[.int .i64 f.f0, .int .u8 (f.f1.toNat : Int), .int .i64 f.f2]] w' fun e w'' => e = .returned (.bool false) ∧ Fr w' w'') := Lib.hid fun w' => by rw [← hp]; exact specEdgeLess_any x f w'
        have hs : Hid (l = _) := Lib.hid (hl2.out.trans (selE_no (p := fun x => edgeLt x f) hlt hx hp).symm)
        clear hp hx hl2
        go_wp2_with fail
        go_region_held3 (fun w' => Sf wr w') ((refine Sf.mk ?_; repeat (first | (with_reducible exact Fr.refl _) | (with_reducible assumption) | (with_reducible refine Fr.drewN ?_ _) | (with_reducible refine Fr.drew ?_) | (with_reducible refine Fr.alloc ?_ _) | (with_reducible refine Fr.setCell ?_ (by (first | (with_reducible assumption) | omega | (simp only [World.size_alloc, World.size_setCell, World.size_drew, World.heap_drewN]; omega) | (simp; done) | (simp; omega))) _) | (with_reducible refine Fr.trans ?_ (by with_reducible assumption))))) (first | (go_at_call 131; refine (CT.out _).mono ?_; rintro e w5 ⟨rfl, hf5⟩))
        have z5 := hf5.size; (try simp only [World.size_drew, World.heap_drewN] at z5)
        go_wp2_with fail
        go_roundw
        case rel => exact ⟨k + 1, l, ao, cap, by omega, by go_num, rfl, hs, Lib.hid (OwW.mono (OwW.fr HW.out (by repeat (first | (with_reducible exact Fr.refl _) | (with_reducible assumption) | (with_reducible refine Fr.drewN ?_ _) | (with_reducible refine Fr.drew ?_) | (with_reducible refine Fr.alloc ?_ _) | (with_reducible refine Fr.setCell ?_ (by (first | (with_reducible assumption) | omega | (simp only [World.size_alloc, World.size_setCell, World.size_drew, World.heap_drewN]; omega) | (simp; done) | (simp; omega))) _) | (with_reducible refine Fr.trans ?_ (by with_reducible assumption))))) (Nat.le_refl _) (by (first | (with_reducible assumption) | omega | (simp only [World.size_alloc, World.size_setCell, World.size_drew, World.heap_drewN]; omega) | (simp; done) | (simp; omega)))), BF.fr (by repeat (first | (with_reducible exact Fr.refl _) | (with_reducible assumption) | (with_reducible refine Fr.drewN ?_ _) | (with_reducible refine Fr.drew ?_) | (with_reducible refine Fr.alloc ?_ _) | (with_reducible refine Fr.setCell ?_ (by (first | (with_reducible assumption) | omega | (simp only [World.size_alloc, World.size_setCell, World.size_drew, World.heap_drewN]; omega) | (simp; done) | (simp; omega))) _) | (with_reducible refine Fr.trans ?_ (by with_reducible assumption)))), by repeat (first | (with_reducible exact Fr.refl _) | (with_reducible assumption) | (with_reducible refine Fr.drewN ?_ _) | (with_reducible refine Fr.drew ?_) | (with_reducible refine Fr.alloc ?_ _) | (with_reducible refine Fr.setCell ?_ (by (first | (with_reducible assumption) | omega | (simp only [World.size_alloc, World.size_setCell, World.size_drew, World.heap_drewN]; omega) | (simp; done) | (simp; omega))) _) | (with_reducible refine Fr.trans ?_ (by with_reducible assumption)))⟩
        case measure => (simp [intOf]; omega)
      · have CT : Hid (∀ w', Calls Try.prog 131 #[.agg #[.int .i64 x.f0, .int .u8 (x.f1.toNat : Int), .int .i64 x.f2], .agg #[.int .i64 f.f0, .int .u8 (f.f1.toNat : Int), .int .i64 f.f2]] w' fun e w'' => e = .returned (.bool true) ∧ Fr w' w'') := Lib.hid fun w' => by rw [← hp]; exact specEdgeLess_any x f w'
        have hs : Hid (l ++ [x] = _) := Lib.hid (((selE_yes (p := fun x => edgeLt x f) hlt hx hp).trans (congrArg (· ++ [x]) hl2.out.symm)).symm)
        have hml : l.length ≤ 3000000 := by have h1 := selE_le (fun x => edgeLt x f) xs k; have h2 := congrArg List.length hl2.out; omega
        have HC := Lib.hid (edgeC_snoc l x)
        have HL := Lib.hid (show (l ++ [x]).length = l.length + 1 by simp)
        clear hp hx hl2
        go_wp2_with fail
        go_region_held3 (fun w' => Sf wr w') ((refine Sf.mk ?_; repeat (first | (with_reducible exact Fr.refl _) | (with_reducible assumption) | (with_reducible refine Fr.drewN ?_ _) | (with_reducible refine Fr.drew ?_) | (with_reducible refine Fr.alloc ?_ _) | (with_reducible refine Fr.setCell ?_ (by (first | (with_reducible assumption) | omega | (simp only [World.size_alloc, World.size_setCell, World.size_drew, World.heap_drewN]; omega) | (simp; done) | (simp; omega))) _) | (with_reducible refine Fr.trans ?_ (by with_reducible assumption))))) (first | (go_at_call 131; refine (CT.out _).mono ?_; rintro e w5 ⟨rfl, hf5⟩))
        have z5 := hf5.size; (try simp only [World.size_drew, World.heap_drewN] at z5)
        have hfw : Fr wr w5 := by repeat (first | (with_reducible exact Fr.refl _) | (with_reducible assumption) | (with_reducible refine Fr.drewN ?_ _) | (with_reducible refine Fr.drew ?_) | (with_reducible refine Fr.alloc ?_ _) | (with_reducible refine Fr.setCell ?_ (by (first | (with_reducible assumption) | omega | (simp only [World.size_alloc, World.size_setCell, World.size_drew, World.heap_drewN]; omega) | (simp; done) | (simp; omega))) _) | (with_reducible refine Fr.trans ?_ (by with_reducible assumption)))
        have q0 := P0 w5 (Sf.mk hfw)
        have q1 := P1 w5 (Sf.mk hfw)
        have q2 := P2 w5 (Sf.mk hfw)
        have HW5 := Lib.hid (OwW.fr HW.out hfw)
        have BF5 := BF.fr hfw
        have hf05 : Fr w w5 := by repeat (first | (with_reducible exact Fr.refl _) | (with_reducible assumption) | (with_reducible refine Fr.drewN ?_ _) | (with_reducible refine Fr.drew ?_) | (with_reducible refine Fr.alloc ?_ _) | (with_reducible refine Fr.setCell ?_ (by (first | (with_reducible assumption) | omega | (simp only [World.size_alloc, World.size_setCell, World.size_drew, World.heap_drewN]; omega) | (simp; done) | (simp; omega))) _) | (with_reducible refine Fr.trans ?_ (by with_reducible assumption)))
        clear P0 P1 P2 RF FF HW BF
        go_wp2_with (at_builtin; (refine wpList_append_rd rfl _ _ 30 rfl (w.heap.size + 1) 157 i0 (.agg #[.int .i64 0, .int .u8 0, .int .i64 0]) 3 24 Try.underlying30 hi hz0 hz1 hz2 rfl (by decide) _ l.length (l.flatMap EdgeR.cells) rfl (World.ownsRow.alloc HW5.out.1 _) _ 1 [.int .i64 x.f0, .int .u8 (x.f1.toNat : Int), .int .i64 x.f2] rfl (RdS.new (by first | rfl | simp) rfl) (by simp [Value.oneCell']) (by unfold maxLen; omega) (by omega) (by (first | (with_reducible assumption) | omega | (simp only [World.size_alloc, World.size_setCell, World.size_drew, World.heap_drewN]; omega) | (simp; done) | (simp; omega))) ?_; intro ay2 cy2 w9 hown hgrow hat))
        have s9 : Span (w.heap.size + 1) wr.heap.size (w5.alloc (.cells #[.int .i64 x.f0, .int .u8 (x.f1.toNat : Int), .int .i64 x.f2] 157)) w9 := Span.of_gr hgrow (fun g hg => HW5.out.2 g hg)
        have z9 := s9.size
        simp only [World.size_alloc] at z9
        have BF9 := (BF5.alloc (.cells #[.int .i64 x.f0, .int .u8 (x.f1.toNat : Int), .int .i64 x.f2] 157)).span s9 (.inl (by omega))
        have hf9 : Fr w w9 := Span.fr (show Fr w _ by repeat (first | (with_reducible exact Fr.refl _) | (with_reducible assumption) | (with_reducible refine Fr.drewN ?_ _) | (with_reducible refine Fr.drew ?_) | (with_reducible refine Fr.alloc ?_ _) | (with_reducible refine Fr.setCell ?_ (by (first | (with_reducible assumption) | omega | (simp only [World.size_alloc, World.size_setCell, World.size_drew, World.heap_drewN]; omega) | (simp; done) | (simp; omega))) _) | (with_reducible refine Fr.trans ?_ (by with_reducible assumption)))) s9 (by omega)
        rw [← HC.out] at hown
        have hW9 : EdgesW w9 (w.heap.size + 1) w9.heap.size (.slice ay2 (l ++ [x]).length cy2) (l ++ [x]) := by
          have := OwW.of_owns hown
          rw [← HL.out] at this
          exact this
        try go_wp2_with fail
        go_roundw
        case rel => exact ⟨k + 1, l ++ [x], ay2, cy2, by omega, by go_num, by rw [HL.out], hs, Lib.hid hW9, BF9, hf9⟩
        case measure => (simp [intOf]; omega)
    · obtain rfl : k = xs.length := by omega
      have hml : l.length ≤ 3000000 := by have h1 := selE_le (fun x => edgeLt x f) xs xs.length; have h2 := congrArg List.length hl2.out; omega
      have hs : Hid (l ++ [f] = putEK xs f 0) := Lib.hid (by have := hl2.out; rw [selE_all] at this; rw [putEK_zero, this])
      have HC := Lib.hid (edgeC_snoc l f)
      have HL := Lib.hid (show (l ++ [f]).length = l.length + 1 by simp)
      clear hl2 hlt hk
      go_wp2_with (at_builtin; (refine wpList_append_rd rfl _ _ 30 rfl (w.heap.size + 1) 157 i0 (.agg #[.int .i64 0, .int .u8 0, .int .i64 0]) 3 24 Try.underlying30 hi hz0 hz1 hz2 rfl (by decide) _ l.length (l.flatMap EdgeR.cells) rfl (World.ownsRow.alloc HW.out.1 _) _ 1 [.int .i64 f.f0, .int .u8 (f.f1.toNat : Int), .int .i64 f.f2] rfl (RdS.new (by first | rfl | simp) rfl) (by simp [Value.oneCell']) (by unfold maxLen; omega) (by omega) (by (first | (with_reducible assumption) | omega | (simp only [World.size_alloc, World.size_setCell, World.size_drew, World.heap_drewN]; omega) | (simp; done) | (simp; omega))) ?_; intro ay2 cy2 w9 hown hgrow hat))
      have s9 : Span (w.heap.size + 1) wr.heap.size (wr.alloc (.cells #[.int .i64 f.f0, .int .u8 (f.f1.toNat : Int), .int .i64 f.f2] 157)) w9 := Span.of_gr hgrow (fun g hg => HW.out.2 g hg)
      have z9 := s9.size
      simp only [World.size_alloc] at z9
      have BF9 := (BF.alloc (.cells #[.int .i64 f.f0, .int .u8 (f.f1.toNat : Int), .int .i64 f.f2] 157)).span s9 (.inl (by omega))
      have hf9 : Fr w w9 := Span.fr (show Fr w _ by repeat (first | (with_reducible exact Fr.refl _) | (with_reducible assumption) | (with_reducible refine Fr.drewN ?_ _) | (with_reducible refine Fr.drew ?_) | (with_reducible refine Fr.alloc ?_ _) | (with_reducible refine Fr.setCell ?_ (by (first | (with_reducible assumption) | omega | (simp only [World.size_alloc, World.size_setCell, World.size_drew, World.heap_drewN]; omega) | (simp; done) | (simp; omega))) _) | (with_reducible refine Fr.trans ?_ (by with_reducible assumption)))) s9 (by omega)
      rw [← HC.out] at hown
      have hW9 : EdgesW w9 (w.heap.size + 1) w9.heap.size (.slice ay2 (l ++ [f]).length cy2) (l ++ [f]) := by
        have := OwW.of_owns hown
        rw [← HL.out] at this
        exact this
      have HW9 := Lib.hid hW9
      clear FF HW hown hgrow hat BF hzo
      try go_wp2_with fail
      go_loopw [5, 7] (fun o i wr => ∃ (k : Nat) (l : List EdgeR) (ao : Option Addr) (cap : Nat), k ≤ xs.length ∧ i = .int .i64 k ∧ o = .slice ao l.length cap ∧ Hid (l = putEK xs f k) ∧ Hid (EdgesW wr (w.heap.size + 1) wr.heap.size (.slice ao l.length cap) l) ∧ Box wr w.heap.size #[.int .i64 f.f0, .int .u8 (f.f1.toNat : Int), .int .i64 f.f2] 157 ∧ Fr w wr) (fun _ i _ => xs.length - (intOf i).toNat)
      case atStart => exact ⟨0, l ++ [f], ay2, cy2, Nat.zero_le _, rfl, by rw [HL.out], hs, HW9, BF9, hf9⟩
      case round =>
        clear hW9 HW9 BF9 hf9 s9 z9 hs HC HL hml hfr
        obtain ⟨k, l, ao, cap, hk, rfl, rfl, hl2, HW, BF, hfr⟩ := hrel
        have FF := BF.facts
        have hzo := BF.lt
        by_cases hlt : k < xs.length
        · obtain ⟨rfl, hb0, f0⟩ := F0.out (by omega)
          obtain ⟨x, hx⟩ : ∃ x, edgeAt xs k = x := ⟨_, rfl⟩
          have fk := f0 k hlt
          rw [hx] at fk
          obtain ⟨g0, g1, g2⟩ := fk
          have hxl := x.f1.toNat_lt
          have hb0r := Nat.lt_of_lt_of_le hb0 hfr.size
          have P0 : ∀ w', Sf wr w' → w'.cell? _ = _ := fun w' h => ((hfr.trans h.out).cell (p := ⟨b0, _, none⟩) hb0).trans g0
          have P1 : ∀ w', Sf wr w' → w'.cell? _ = _ := fun w' h => ((hfr.trans h.out).cell (p := ⟨b0, _, none⟩) hb0).trans g1
          have P2 : ∀ w', Sf wr w' → w'.cell? _ = _ := fun w' h => ((hfr.trans h.out).cell (p := ⟨b0, _, none⟩) hb0).trans g2
          have RF : ∀ w', Sf wr w' → ∀ o, w'.cell? ⟨w.heap.size, o, none⟩ = (#[.int .i64 f.f0, .int .u8 (f.f1.toNat : Int), .int .i64 f.f2] : Array Value)[o]? := fun w' h o => (BF.fr h.out).cell o
          clear f0
          cases hp : edgeLt f x
          · have CT : Hid (∀ w', Calls Try.prog 131 #[.agg #[.int .i64 f.f0, .int .u8 (f.f1.toNat : Int), .int .i64 f.f2], .agg #[.int .i64 x.f0, .int .u8 (x.f1.toNat : Int), .int .i64 x.f2]] w' fun e w'' => e = .returned (.bool false) ∧ Fr w' w'') := Lib.hid fun w' => by rw [← hp]; exact specEdgeLess_any f x w'
            have hs : Hid (l = _) := Lib.hid (hl2.out.trans (putEK_no hlt hx hp).symm)
            clear hp hx hl2
            go_wp2_with fail
            go_region_held3 (fun w' => Sf wr w') ((refine Sf.mk ?_; repeat (first | (with_reducible exact Fr.refl _) | (with_reducible assumption) | (with_reducible refine Fr.drewN ?_ _) | (with_reducible refine Fr.drew ?_) | (with_reducible refine Fr.alloc ?_ _) | (with_reducible refine Fr.setCell ?_ (by (first | (with_reducible assumption) | omega | (simp only [World.size_alloc, World.size_setCell, World.size_drew, World.heap_drewN]; omega) | (simp; done) | (simp; omega))) _) | (with_reducible refine Fr.trans ?_ (by with_reducible assumption))))) (first | (go_at_call 131; refine (CT.out _).mono ?_; rintro e w5 ⟨rfl, hf5⟩))
            have z5 := hf5.size; (try simp only [World.size_drew, World.heap_drewN] at z5)
            go_wp2_with fail
            go_roundw
            case rel => exact ⟨k + 1, l, ao, cap, by omega, by go_num, rfl, hs, Lib.hid (OwW.mono (OwW.fr HW.out (by repeat (first | (with_reducible exact Fr.refl _) | (with_reducible assumption) | (with_reducible refine Fr.drewN ?_ _) | (with_reducible refine Fr.drew ?_) | (with_reducible refine Fr.alloc ?_ _) | (with_reducible refine Fr.setCell ?_ (by (first | (with_reducible assumption) | omega | (simp only [World.size_alloc, World.size_setCell, World.size_drew, World.heap_drewN]; omega) | (simp; done) | (simp; omega))) _) | (with_reducible refine Fr.trans ?_ (by with_reducible assumption))))) (Nat.le_refl _) (by (first | (with_reducible assumption) | omega | (simp only [World.size_alloc, World.size_setCell, World.size_drew, World.heap_drewN]; omega) | (simp; done) | (simp; omega)))), BF.fr (by repeat (first | (with_reducible exact Fr.refl _) | (with_reducible assumption) | (with_reducible refine Fr.drewN ?_ _) | (with_reducible refine Fr.drew ?_) | (with_reducible refine Fr.alloc ?_ _) | (with_reducible refine Fr.setCell ?_ (by (first | (with_reducible assumption) | omega | (simp only [World.size_alloc, World.size_setCell, World.size_drew, World.heap_drewN]; omega) | (simp; done) | (simp; omega))) _) | (with_reducible refine Fr.trans ?_ (by with_reducible assumption)))), by repeat (first | (with_reducible exact Fr.refl _) | (with_reducible assumption) | (with_reducible refine Fr.drewN ?_ _) | (with_reducible refine Fr.drew ?_) | (with_reducible refine Fr.alloc ?_ _) | (with_reducible refine Fr.setCell ?_ (by (first | (with_reducible assumption) | omega | (simp only [World.size_alloc, World.size_setCell, World.size_drew, World.heap_drewN]; omega) | (simp; done) | (simp; omega))) _) | (with_reducible refine Fr.trans ?_ (by with_reducible assumption)))⟩
            case measure => (simp [intOf]; omega)
          · have CT : Hid (∀ w', Calls Try.prog 131 #[.agg #[.int .i64 f.f0, .int .u8 (f.f1.toNat : Int), .int .i64 f.f2], .agg #[.int .i64 x.f0, .int .u8 (x.f1.toNat : Int), .int .i64 x.f2]] w' fun e w'' => e = .returned (.bool true) ∧ Fr w' w'') := Lib.hid fun w' => by rw [← hp]; exact specEdgeLess_any f x w'
            have hs : Hid (l ++ [x] = _) := Lib.hid (((putEK_yes hlt hx hp).trans (congrArg (· ++ [x]) hl2.out.symm)).symm)
            have hml : l.length ≤ 3000000 := by have h1 := putEK_le xs f k; have h2 := congrArg List.length hl2.out; omega
            have HC := Lib.hid (edgeC_snoc l x)
            have HL := Lib.hid (show (l ++ [x]).length = l.length + 1 by simp)
            clear hp hx hl2
            go_wp2_with fail
            go_region_held3 (fun w' => Sf wr w') ((refine Sf.mk ?_; repeat (first | (with_reducible exact Fr.refl _) | (with_reducible assumption) | (with_reducible refine Fr.drewN ?_ _) | (with_reducible refine Fr.drew ?_) | (with_reducible refine Fr.alloc ?_ _) | (with_reducible refine Fr.setCell ?_ (by (first | (with_reducible assumption) | omega | (simp only [World.size_alloc, World.size_setCell, World.size_drew, World.heap_drewN]; omega) | (simp; done) | (simp; omega))) _) | (with_reducible refine Fr.trans ?_ (by with_reducible assumption))))) (first | (go_at_call 131; refine (CT.out _).mono ?_; rintro e w5 ⟨rfl, hf5⟩))
            have z5 := hf5.size; (try simp only [World.size_drew, World.heap_drewN] at z5)
            have hfw : Fr wr w5 := by repeat (first | (with_reducible exact Fr.refl _) | (with_reducible assumption) | (with_reducible refine Fr.drewN ?_ _) | (with_reducible refine Fr.drew ?_) | (with_reducible refine Fr.alloc ?_ _) | (with_reducible refine Fr.setCell ?_ (by (first | (with_reducible assumption) | omega | (simp only [World.size_alloc, World.size_setCell, World.size_drew, World.heap_drewN]; omega) | (simp; done) | (simp; omega))) _) | (with_reducible refine Fr.trans ?_ (by with_reducible assumption)))
            have q0 := P0 w5 (Sf.mk hfw)
            have q1 := P1 w5 (Sf.mk hfw)
            have q2 := P2 w5 (Sf.mk hfw)
            have HW5 := Lib.hid (OwW.fr HW.out hfw)
            have BF5 := BF.fr hfw
            have hf05 : Fr w w5 := by repeat (first | (with_reducible exact Fr.refl _) | (with_reducible assumption) | (with_reducible refine Fr.drewN ?_ _) | (with_reducible refine Fr.drew ?_) | (with_reducible refine Fr.alloc ?_ _) | (with_reducible refine Fr.setCell ?_ (by (first | (with_reducible assumption) | omega | (simp only [World.size_alloc, World.size_setCell, World.size_drew, World.heap_drewN]; omega) | (simp; done) | (simp; omega))) _) | (with_reducible refine Fr.trans ?_ (by with_reducible assumption)))
            clear P0 P1 P2 RF FF HW BF
            go_wp2_with (at_builtin; (refine wpList_append_rd rfl _ _ 30 rfl (w.heap.size + 1) 157 i0 (.agg #[.int .i64 0, .int .u8 0, .int .i64 0]) 3 24 Try.underlying30 hi hz0 hz1 hz2 rfl (by decide) _ l.length (l.flatMap EdgeR.cells) rfl (World.ownsRow.alloc HW5.out.1 _) _ 1 [.int .i64 x.f0, .int .u8 (x.f1.toNat : Int), .int .i64 x.f2] rfl (RdS.new (by first | rfl | simp) rfl) (by simp [Value.oneCell']) (by unfold maxLen; omega) (by omega) (by (first | (with_reducible assumption) | omega | (simp only [World.size_alloc, World.size_setCell, World.size_drew, World.heap_drewN]; omega) | (simp; done) | (simp; omega))) ?_; intro ay2 cy2 w9 hown hgrow hat))
            have s9 : Span (w.heap.size + 1) wr.heap.size (w5.alloc (.cells #[.int .i64 x.f0, .int .u8 (x.f1.toNat : Int), .int .i64 x.f2] 157)) w9 := Span.of_gr hgrow (fun g hg => HW5.out.2 g hg)
            have z9 := s9.size
            simp only [World.size_alloc] at z9
            have BF9 := (BF5.alloc (.cells #[.int .i64 x.f0, .int .u8 (x.f1.toNat : Int), .int .i64 x.f2] 157)).span s9 (.inl (by omega))
            have hf9 : Fr w w9 := Span.fr (show Fr w _ by repeat (first | (with_reducible exact Fr.refl _) | (with_reducible assumption) | (with_reducible refine Fr.drewN ?_ _) | (with_reducible refine Fr.drew ?_) | (with_reducible refine Fr.alloc ?_ _) | (with_reducible refine Fr.setCell ?_ (by (first | (with_reducible assumption) | omega | (simp only [World.size_alloc, World.size_setCell, World.size_drew, World.heap_drewN]; omega) | (simp; done) | (simp; omega))) _) | (with_reducible refine Fr.trans ?_ (by with_reducible assumption)))) s9 (by omega)
            rw [← HC.out] at hown
            have hW9 : EdgesW w9 (w.heap.size + 1) w9.heap.size (.slice ay2 (l ++ [x]).length cy2) (l ++ [x]) := by
              have := OwW.of_owns hown
              rw [← HL.out] at this
              exact this
            try go_wp2_with fail
            go_roundw
            case rel => exact ⟨k + 1, l ++ [x], ay2, cy2, by omega, by go_num, by rw [HL.out], hs, Lib.hid hW9, BF9, hf9⟩
            case measure => (simp [intOf]; omega)
        · obtain rfl : k = xs.length := by omega
          have hs := hl2.out
          rw [putEK_all] at hs
          have HS := Lib.hid hs
          clear hs hl2
          go_wp2_with fail
          go_ret
          rw [← HS.out]
          exact ⟨ao, cap, rfl, OwW.mono HW.out (by omega) (Nat.le_refl _), by repeat (first | (with_reducible exact Fr.refl _) | (with_reducible assumption) | (with_reducible refine Fr.drewN ?_ _) | (with_reducible refine Fr.drew ?_) | (with_reducible refine Fr.alloc ?_ _) | (with_reducible refine Fr.setCell ?_ (by (first | (with_reducible assumption) | omega | (simp only [World.size_alloc, World.size_setCell, World.size_drew, World.heap_drewN]; omega) | (simp; done) | (simp; omega))) _) | (with_reducible refine Fr.trans ?_ (by with_reducible assumption)))⟩
end Go.Proofs.Ytjgghiniajmfjaa
