/- Texts in one: Lw, Smg. -/
import Derived.Test.YtjgghiniajmfjaaKDraw
import Derived.Test.YtjgghiniajmfjaaKFile
import Derived.Test.YtjgghiniajmfjaaKGr
import Derived.Test.YtjgghiniajmfjaaKAct
import Derived.Test.YtjgghiniajmfjaaKApp
import Derived.BigQuiet
/- Small functions of the laws: big, sameDisk, lefts. No condition but the reading. -/
namespace Go.Proofs.Ytjgghiniajmfjaa
open Go.RowKit
set_option linter.unusedVariables false
set_option linter.unusedSimpArgs false
theorem big_any (ao : Option Addr) (n cap : Nat) (w : World) (hn : n ≤ 9223372036854775807) :
    Calls Try.prog 11 #[.slice ao n cap] w fun e w' => e = .returned (.bool (decide (1048576 < (n : Int)))) ∧ w = w' := by
  go_enter Try.func11, Try.ntmps11
  go_wp2
  go_ret
  exact ⟨rfl, rfl⟩
set_option maxHeartbeats 2000000 in
set_option maxRecDepth 100000 in
theorem lefts_any (v : Value) (ps : List Int) (w : World) (hv : IntsR w v ps) (h6 : 6 ≤ ps.length) (hr : ∀ p ∈ ps, 0 ≤ p ∧ p < 10000) :
    Calls Try.prog 34 #[v] w fun e w' => ∃ (ls : List Int) (ao' : Option Addr) (cap' : Nat), ls.length = 6 ∧ e = .returned (.slice ao' 6 cap') ∧ IntsR w' (.slice ao' 6 cap') ls ∧ Fr w w' := by
  obtain ⟨i0, hi, hz0, hz1, hz2⟩ := info_parts info_int
  obtain ⟨ao, ba, oa, ca, rfl, hca, hma, fa⟩ := hv.one
  obtain ⟨rfl, hba, fa⟩ := fa (by omega)
  have FA := Lib.hid fa
  have HRR := Lib.hid hr
  clear hv fa hr
  go_enter Try.func34, Try.ntmps34
  go_wp2_with fail
  go_loopw [3, 4] (fun v i wr => ∃ (ls : List Int), ls.length ≤ 6 ∧ i = .int .i64 ls.length ∧ IntsO wr w.heap.size v ls ∧ Fr w wr) (fun _ i _ => 6 - (intOf i).toNat)
  case atStart => exact ⟨[], by simp, rfl, World.ownsRow_made w #[] 0 (Nat.le_refl _) (Nat.zero_le _) rfl, (Fr.refl w).alloc _⟩
  case round =>
    obtain ⟨ls, hk, rfl, ho, hfr⟩ := hrel
    obtain ⟨ao1, cap1, rfl⟩ := owns_val ho
    by_cases hlt : ls.length < 6
    · have c1 := (hfr.cell (p := ⟨ba, _, none⟩) hba).trans (FA.out ls.length (by omega))
      obtain ⟨y, hy⟩ : ∃ y, iAt ps ls.length = y := ⟨_, rfl⟩
      rw [hy] at c1
      have hyr : 0 ≤ y ∧ y < 10000 := by
        rw [← hy]
        refine HRR.out _ ?_
        unfold iAt
        simp [List.getD, List.getElem?_eq_getElem (show ls.length < ps.length by omega)]
      obtain ⟨hy1, hy2⟩ := hyr
      have hsz := hfr.size
      clear hy
      go_wp2_with (at_builtin; (refine wpList_append_rd rfl _ _ 38 rfl w.heap.size 3 i0 (.int .i64 0) 1 8 Try.underlying38 hi hz0 hz1 hz2 rfl (by decide) _ ls.length (ls.map (Value.int .i64)) rfl (World.ownsRow.alloc ho _) _ 1 [.int .i64 (y % 300)] rfl (RdS.new (by first | rfl | simp) rfl) (by simp [Value.oneCell']) (by unfold maxLen; omega) (by omega) (by (first | (with_reducible assumption) | omega | (simp only [World.size_alloc, World.size_setCell, World.size_drew, World.heap_drewN]; omega) | (simp; done) | (simp; omega))) ?_; intro ao' cap' w4 hown hgrow hat))
      have hf4 : Fr w w4 := (hfr.alloc _).grown hgrow (fun k hk => (World.ownsRow.lt ho k hk).1)
      go_roundw
      case rel => exact ⟨ls ++ [y % 300], by first | (simp; done) | (simp; omega), by first | (simp; done) | (simp; go_num), by simpa [IntsO] using hown, hf4⟩
      case measure => (simp [intOf]; omega)
    · have hl : ls.length = 6 := by omega
      go_wp2_with fail
      go_ret
      rw [hl]
      refine ⟨ls, ao1, cap1, hl, rfl, ?_, by repeat (first | (with_reducible exact Fr.refl _) | (with_reducible assumption) | (with_reducible refine Fr.drewN ?_ _) | (with_reducible refine Fr.drew ?_) | (with_reducible refine Fr.alloc ?_ _) | (with_reducible refine Fr.setCell ?_ (by (first | (with_reducible assumption) | omega | (simp only [World.size_alloc, World.size_setCell, World.size_drew, World.heap_drewN]; omega) | (simp; done) | (simp; omega))) _) | (with_reducible refine Fr.trans ?_ (by with_reducible assumption)))⟩
      rw [← hl]
      exact RdS.of_owns ho
end Go.Proofs.Ytjgghiniajmfjaa

/- Small functions of the laws: sameGraph, sameActs. No condition but the reading. -/
namespace Go.Proofs.Ytjgghiniajmfjaa
open Go.RowKit
set_option linter.unusedVariables false
set_option linter.unusedSimpArgs false
theorem sameGraph_any (a b : Value) (n m : Int) (xs ys : List EdgeR) (w : World) (ha : EdgesR w a xs) (hb : EdgesR w b ys) :
    Calls Try.prog 62 #[.agg #[.int .i64 n, a], .agg #[.int .i64 m, b]] w fun e w' => ∃ r : Bool, e = .returned (.bool r) ∧ (n = m → xs = ys → r = true) ∧ Fr w w' := by
  obtain ⟨ao, ba, oa, ca, rfl, hca, hma, fa⟩ := ha.one
  obtain ⟨bo, bb, ob, cb, rfl, hcb, hmb, fb⟩ := hb.one
  clear ha hb
  by_cases hn : n = m
  · subst hn
    by_cases hl : xs.length = ys.length
    · rw [← hl] at fb hcb ⊢
      have FA := Lib.hid fa
      have FB := Lib.hid fb
      clear fa fb hl
      go_enter Try.func62, Try.ntmps62
      go_wp2
      go_loopw [5] (fun i wr => ∃ k : Nat, k ≤ xs.length ∧ i = .int .i64 k ∧ Fr w wr ∧ Box wr w.heap.size #[.int .i64 n, .slice ao xs.length ca] 32 ∧ Box wr (w.heap.size + 1) #[.int .i64 n, .slice bo xs.length cb] 32) (fun i _ => xs.length - (intOf i).toNat)
      case atStart => exact ⟨0, Nat.zero_le _, rfl, by repeat (first | (with_reducible exact Fr.refl _) | (with_reducible assumption) | (with_reducible refine Fr.drewN ?_ _) | (with_reducible refine Fr.drew ?_) | (with_reducible refine Fr.alloc ?_ _) | (with_reducible refine Fr.setCell ?_ (by (first | (with_reducible assumption) | omega | (simp only [World.size_alloc, World.size_setCell, World.size_drew, World.heap_drewN]; omega) | (simp; done) | (simp; omega))) _) | (with_reducible refine Fr.trans ?_ (by with_reducible assumption))), (Box.new _ _ _).alloc _, Box.new' (by simp)⟩
      case round =>
        obtain ⟨k, hk, rfl, hfr, BA, BB⟩ := hrel
        have F1 := BA.facts
        have F2 := BB.facts
        by_cases hlt : k < xs.length
        · obtain ⟨rfl, hba, fa⟩ := FA.out (by omega)
          obtain ⟨rfl, hbb, fb⟩ := FB.out (by omega)
          obtain ⟨c0, c1, c2⟩ := fa k hlt
          obtain ⟨d0, d1, d2⟩ := fb k hlt
          clear fa fb
          obtain ⟨x, hx⟩ : ∃ x, edgeAt xs k = x := ⟨_, rfl⟩
          obtain ⟨y, hy⟩ : ∃ y, edgeAt ys k = y := ⟨_, rfl⟩
          rw [hx] at c0 c1 c2
          rw [hy] at d0 d1 d2
          have hxy : Hid (xs = ys → x = y) := Lib.hid fun h => by rw [← hx, ← hy, h]
          clear hx hy
          have hba2 := hba
          have c0 := (hfr.cell (p := ⟨ba, _, none⟩) hba).trans c0
          have c1 := (hfr.cell (p := ⟨ba, _, none⟩) hba).trans c1
          have c2 := (hfr.cell (p := ⟨ba, _, none⟩) hba).trans c2
          have d0 := (hfr.cell (p := ⟨bb, _, none⟩) hbb).trans d0
          have d1 := (hfr.cell (p := ⟨bb, _, none⟩) hbb).trans d1
          have d2 := (hfr.cell (p := ⟨bb, _, none⟩) hbb).trans d2
          obtain ⟨x0, x1, x2⟩ := x
          obtain ⟨y0, y1, y2⟩ := y
          simp only [] at c0 c1 c2 d0 d1 d2
          have hb1 := x1.toNat_lt
          have hb2 := y1.toNat_lt
          by_cases h0 : x0 = y0
          · subst h0
            by_cases h1 : x1 = y1
            · subst h1
              by_cases h2 : x2 = y2
              · subst h2
                go_wp2
                go_quiet (fail)
                go_wp2
                go_roundw
                case rel => exact ⟨k + 1, by omega, by go_num, by repeat (first | (with_reducible exact Fr.refl _) | (with_reducible assumption) | (with_reducible refine Fr.drewN ?_ _) | (with_reducible refine Fr.drew ?_) | (with_reducible refine Fr.alloc ?_ _) | (with_reducible refine Fr.setCell ?_ (by (first | (with_reducible assumption) | omega | (simp only [World.size_alloc, World.size_setCell, World.size_drew, World.heap_drewN]; omega) | (simp; done) | (simp; omega))) _) | (with_reducible refine Fr.trans ?_ (by with_reducible assumption))), BA.drewN _, BB.drewN _⟩
                case measure => (simp [intOf]; omega)
              · have hb2 : (x2 == y2) = false := by simpa using h2
                have hno : Hid (¬ xs = ys) := Lib.hid fun h => by have := hxy.out h; simp at this; exact h2 this
                clear h2
                go_wp2
                go_quiet (fail)
                go_wp2
                go_ret
                exact ⟨_, rfl, fun _ h => absurd h hno.out, by repeat (first | (with_reducible exact Fr.refl _) | (with_reducible assumption) | (with_reducible refine Fr.drewN ?_ _) | (with_reducible refine Fr.drew ?_) | (with_reducible refine Fr.alloc ?_ _) | (with_reducible refine Fr.setCell ?_ (by (first | (with_reducible assumption) | omega | (simp only [World.size_alloc, World.size_setCell, World.size_drew, World.heap_drewN]; omega) | (simp; done) | (simp; omega))) _) | (with_reducible refine Fr.trans ?_ (by with_reducible assumption)))⟩
            · have hb3 : ((x1.toNat : Int) == (y1.toNat : Int)) = false := by rw [beq_eq_false_iff_ne, Ne, byte_eq]; exact h1
              have hno : Hid (¬ xs = ys) := Lib.hid fun h => by have := hxy.out h; simp at this; exact h1 this.1
              clear h1
              go_wp2
              go_quiet (fail)
              go_wp2
              go_ret
              exact ⟨_, rfl, fun _ h => absurd h hno.out, by repeat (first | (with_reducible exact Fr.refl _) | (with_reducible assumption) | (with_reducible refine Fr.drewN ?_ _) | (with_reducible refine Fr.drew ?_) | (with_reducible refine Fr.alloc ?_ _) | (with_reducible refine Fr.setCell ?_ (by (first | (with_reducible assumption) | omega | (simp only [World.size_alloc, World.size_setCell, World.size_drew, World.heap_drewN]; omega) | (simp; done) | (simp; omega))) _) | (with_reducible refine Fr.trans ?_ (by with_reducible assumption)))⟩
          · have hb3 : (x0 == y0) = false := by simpa using h0
            have hno : Hid (¬ xs = ys) := Lib.hid fun h => by have := hxy.out h; simp at this; exact h0 this.1
            clear h0
            go_wp2
            go_quiet (fail)
            go_wp2
            go_ret
            exact ⟨_, rfl, fun _ h => absurd h hno.out, by repeat (first | (with_reducible exact Fr.refl _) | (with_reducible assumption) | (with_reducible refine Fr.drewN ?_ _) | (with_reducible refine Fr.drew ?_) | (with_reducible refine Fr.alloc ?_ _) | (with_reducible refine Fr.setCell ?_ (by (first | (with_reducible assumption) | omega | (simp only [World.size_alloc, World.size_setCell, World.size_drew, World.heap_drewN]; omega) | (simp; done) | (simp; omega))) _) | (with_reducible refine Fr.trans ?_ (by with_reducible assumption)))⟩
        · go_wp2
          go_ret
          exact ⟨_, rfl, fun _ _ => rfl, by repeat (first | (with_reducible exact Fr.refl _) | (with_reducible assumption) | (with_reducible refine Fr.drewN ?_ _) | (with_reducible refine Fr.drew ?_) | (with_reducible refine Fr.alloc ?_ _) | (with_reducible refine Fr.setCell ?_ (by (first | (with_reducible assumption) | omega | (simp only [World.size_alloc, World.size_setCell, World.size_drew, World.heap_drewN]; omega) | (simp; done) | (simp; omega))) _) | (with_reducible refine Fr.trans ?_ (by with_reducible assumption)))⟩
    · have hno : Hid (¬ xs = ys) := Lib.hid fun h => hl (by rw [h])
      clear fa fb
      have hl2 : ((xs.length : Int) != (ys.length : Int)) = true := by rw [bne_iff_ne]; omega
      go_enter Try.func62, Try.ntmps62
      go_wp2
      go_ret
      exact ⟨_, rfl, fun _ h => absurd h hno.out, by repeat (first | (with_reducible exact Fr.refl _) | (with_reducible assumption) | (with_reducible refine Fr.drewN ?_ _) | (with_reducible refine Fr.drew ?_) | (with_reducible refine Fr.alloc ?_ _) | (with_reducible refine Fr.setCell ?_ (by (first | (with_reducible assumption) | omega | (simp only [World.size_alloc, World.size_setCell, World.size_drew, World.heap_drewN]; omega) | (simp; done) | (simp; omega))) _) | (with_reducible refine Fr.trans ?_ (by with_reducible assumption)))⟩
  · have hn2 : (n != m) = true := by rw [bne_iff_ne]; exact hn
    have hno := Lib.hid hn
    clear fa fb hn
    go_enter Try.func62, Try.ntmps62
    go_wp2
    go_ret
    exact ⟨_, rfl, fun h _ => absurd h hno.out, by repeat (first | (with_reducible exact Fr.refl _) | (with_reducible assumption) | (with_reducible refine Fr.drewN ?_ _) | (with_reducible refine Fr.drew ?_) | (with_reducible refine Fr.alloc ?_ _) | (with_reducible refine Fr.setCell ?_ (by (first | (with_reducible assumption) | omega | (simp only [World.size_alloc, World.size_setCell, World.size_drew, World.heap_drewN]; omega) | (simp; done) | (simp; omega))) _) | (with_reducible refine Fr.trans ?_ (by with_reducible assumption)))⟩
theorem sameActs_same (a b : Value) (xs : List ActR) (w : World) (ha : ActsR w a xs) (hb : ActsR w b xs) :
    Calls Try.prog 63 #[a, b] w fun e w' => e = .returned (.bool true) ∧ Fr w w' := by
  obtain ⟨ao, ba, oa, ca, rfl, hca, hma, fa⟩ := ha.one
  obtain ⟨bo, bb, ob, cb, rfl, hcb, hmb, fb⟩ := hb.one
  clear ha hb
  have FA := Lib.hid fa
  have FB := Lib.hid fb
  clear fa fb
  go_enter Try.func63, Try.ntmps63
  go_wp2
  go_loopw [5] (fun i wr => ∃ k : Nat, k ≤ xs.length ∧ i = .int .i64 k ∧ Fr w wr) (fun i _ => xs.length - (intOf i).toNat)
  case atStart => exact ⟨0, Nat.zero_le _, rfl, by repeat (first | (with_reducible exact Fr.refl _) | (with_reducible assumption) | (with_reducible refine Fr.drewN ?_ _) | (with_reducible refine Fr.drew ?_) | (with_reducible refine Fr.alloc ?_ _) | (with_reducible refine Fr.setCell ?_ (by (first | (with_reducible assumption) | omega | (simp only [World.size_alloc, World.size_setCell, World.size_drew, World.heap_drewN]; omega) | (simp; done) | (simp; omega))) _) | (with_reducible refine Fr.trans ?_ (by with_reducible assumption)))⟩
  case round =>
    obtain ⟨k, hk, rfl, hfr⟩ := hrel
    by_cases hlt : k < xs.length
    · obtain ⟨rfl, hba, fa⟩ := FA.out (by omega)
      obtain ⟨rfl, hbb, fb⟩ := FB.out (by omega)
      obtain ⟨c0, c1, c2, c3⟩ := fa k hlt
      obtain ⟨d0, d1, d2, d3⟩ := fb k hlt
      clear fa fb
      obtain ⟨x, hx⟩ : ∃ x, actAt xs k = x := ⟨_, rfl⟩
      rw [hx] at c0 c1 c2 c3 d0 d1 d2 d3
      clear hx
      have c0 := (hfr.cell (p := ⟨ba, _, none⟩) hba).trans c0
      have c1 := (hfr.cell (p := ⟨ba, _, none⟩) hba).trans c1
      have c2 := (hfr.cell (p := ⟨ba, _, none⟩) hba).trans c2
      have c3 := (hfr.cell (p := ⟨ba, _, none⟩) hba).trans c3
      have d0 := (hfr.cell (p := ⟨bb, _, none⟩) hbb).trans d0
      have d1 := (hfr.cell (p := ⟨bb, _, none⟩) hbb).trans d1
      have d2 := (hfr.cell (p := ⟨bb, _, none⟩) hbb).trans d2
      have d3 := (hfr.cell (p := ⟨bb, _, none⟩) hbb).trans d3
      have q1 : (x.f1.toList == x.f1.toList) = true := bytes_beq rfl
      have q2 : (x.f2.toList == x.f2.toList) = true := bytes_beq rfl
      have q3 : (x.f3.toList == x.f3.toList) = true := bytes_beq rfl
      go_wp2
      go_quiet (fail)
      go_wp2
      go_roundw
      case rel => exact ⟨k + 1, by omega, by go_num, by repeat (first | (with_reducible exact Fr.refl _) | (with_reducible assumption) | (with_reducible refine Fr.drewN ?_ _) | (with_reducible refine Fr.drew ?_) | (with_reducible refine Fr.alloc ?_ _) | (with_reducible refine Fr.setCell ?_ (by (first | (with_reducible assumption) | omega | (simp only [World.size_alloc, World.size_setCell, World.size_drew, World.heap_drewN]; omega) | (simp; done) | (simp; omega))) _) | (with_reducible refine Fr.trans ?_ (by with_reducible assumption)))⟩
      case measure => (simp [intOf]; omega)
    · go_wp2
      go_ret
      exact ⟨rfl, by repeat (first | (with_reducible exact Fr.refl _) | (with_reducible assumption) | (with_reducible refine Fr.drewN ?_ _) | (with_reducible refine Fr.drew ?_) | (with_reducible refine Fr.alloc ?_ _) | (with_reducible refine Fr.setCell ?_ (by (first | (with_reducible assumption) | omega | (simp only [World.size_alloc, World.size_setCell, World.size_drew, World.heap_drewN]; omega) | (simp; done) | (simp; omega))) _) | (with_reducible refine Fr.trans ?_ (by with_reducible assumption)))⟩
end Go.Proofs.Ytjgghiniajmfjaa
