/- Small functions of the laws: big, sameDisk, lefts. No condition but the reading. -/
import Derived.Test.YtjgghiniajmfjaaKDraw
import Derived.Test.YtjgghiniajmfjaaKFile
namespace Go.Proofs.Ytjgghiniajmfjaa
open Go.RowKit
set_option linter.unusedVariables false
set_option linter.unusedSimpArgs false
theorem big_any (ao : Option Addr) (n cap : Nat) (w : World) (hn : n ≤ 9223372036854775807) :
    Calls Try.prog 11 #[.slice ao n cap] w fun e w' => e = .returned (.bool (decide (1048576 < (n : Int)))) ∧ w = w' := by
  go_enter Try.func11, Try.ntmps11
  go_wp2
  go_ret
  exact ⟨rfl, rfl⟩
set_option maxHeartbeats 2000000 in
set_option maxRecDepth 100000 in
theorem lefts_any (v : Value) (ps : List Int) (w : World) (hv : IntsR w v ps) (h6 : 6 ≤ ps.length) (hr : ∀ p ∈ ps, 0 ≤ p ∧ p < 10000) :
    Calls Try.prog 34 #[v] w fun e w' => ∃ (ls : List Int) (ao' : Option Addr) (cap' : Nat), ls.length = 6 ∧ e = .returned (.slice ao' 6 cap') ∧ IntsR w' (.slice ao' 6 cap') ls ∧ Fr w w' := by
  obtain ⟨i0, hi, hz0, hz1, hz2⟩ := info_parts info_int
  obtain ⟨ao, ba, oa, ca, rfl, hca, hma, fa⟩ := hv.one
  obtain ⟨rfl, hba, fa⟩ := fa (by omega)
  have FA := Lib.hid fa
  have HRR := Lib.hid hr
  clear hv fa hr
  go_enter Try.func34, Try.ntmps34
  go_wp2_with fail
  go_loopw [3, 4] (fun v i wr => ∃ (ls : List Int), ls.length ≤ 6 ∧ i = .int .i64 ls.length ∧ IntsO wr w.heap.size v ls ∧ Fr w wr) (fun _ i _ => 6 - (intOf i).toNat)
  case atStart => exact ⟨[], by simp, rfl, World.ownsRow_made w #[] 0 (Nat.le_refl _) (Nat.zero_le _) rfl, (Fr.refl w).alloc _⟩
  case round =>
    obtain ⟨ls, hk, rfl, ho, hfr⟩ := hrel
    obtain ⟨ao1, cap1, rfl⟩ := owns_val ho
    by_cases hlt : ls.length < 6
    · have c1 := (hfr.cell (p := ⟨ba, _, none⟩) hba).trans (FA.out ls.length (by omega))
      obtain ⟨y, hy⟩ : ∃ y, iAt ps ls.length = y := ⟨_, rfl⟩
      rw [hy] at c1
      have hyr : 0 ≤ y ∧ y < 10000 := by
        rw [← hy]
        refine HRR.out _ ?_
        unfold iAt
        simp [List.getD, List.getElem?_eq_getElem (show ls.length < ps.length by omega)]
      obtain ⟨hy1, hy2⟩ := hyr
      have hsz := hfr.size
      clear hy
      go_wp2_with (at_builtin; (refine wpList_append_rd rfl _ _ 38 rfl w.heap.size 3 i0 (.int .i64 0) 1 8 Try.underlying38 hi hz0 hz1 hz2 rfl (by decide) _ ls.length (ls.map (Value.int .i64)) rfl (World.ownsRow.alloc ho _) _ 1 [.int .i64 (y % 300)] rfl (RdS.new (by first | rfl | simp) rfl) (by simp [Value.oneCell']) (by unfold maxLen; omega) (by omega) (by (first | (with_reducible assumption) | omega | (simp only [World.size_alloc, World.size_setCell, World.size_drew, World.heap_drewN]; omega) | (simp; done) | (simp; omega))) ?_; intro ao' cap' w4 hown hgrow hat))
      have hf4 : Fr w w4 := (hfr.alloc _).grown hgrow (fun k hk => (World.ownsRow.lt ho k hk).1)
      go_roundw
      case rel => exact ⟨ls ++ [y % 300], by first | (simp; done) | (simp; omega), by first | (simp; done) | (simp; go_num), by simpa [IntsO] using hown, hf4⟩
      case measure => (simp [intOf]; omega)
    · have hl : ls.length = 6 := by omega
      go_wp2_with fail
      go_ret
      rw [hl]
      refine ⟨ls, ao1, cap1, hl, rfl, ?_, by repeat (first | (with_reducible exact Fr.refl _) | (with_reducible assumption) | (with_reducible refine Fr.drewN ?_ _) | (with_reducible refine Fr.drew ?_) | (with_reducible refine Fr.alloc ?_ _) | (with_reducible refine Fr.setCell ?_ (by (first | (with_reducible assumption) | omega | (simp only [World.size_alloc, World.size_setCell, World.size_drew, World.heap_drewN]; omega) | (simp; done) | (simp; omega))) _) | (with_reducible refine Fr.trans ?_ (by with_reducible assumption)))⟩
      rw [← hl]
      exact RdS.of_owns ho
end Go.Proofs.Ytjgghiniajmfjaa
