/- laws.FnKeeps: its walk. No condition but the reading of the draw. -/
import Derived.Test.YthcamjijogmbhaaDraw10
import Derived.Test.YthcamjijogmbhaaFrames
namespace Go.Proofs.Ythcamjijogmbhaa
open Go.RowKit
set_option linter.unusedVariables false
set_option linter.unusedSimpArgs false
theorem sameDisk_same (a b : Value) (xs : List FileR) (w : World) (ha : FilesR w a xs) (hb : FilesR w b xs) :
    Calls Try.prog 39 #[.agg #[a], .agg #[b]] w fun e w' => e = .returned (.bool true) ∧ Fr w w' := by
  obtain ⟨ao, ba, oa, ca, rfl, hca, hma, fa⟩ := ha.one
  obtain ⟨bo, bb, ob, cb, rfl, hcb, hmb, fb⟩ := hb.one
  clear ha hb
  have FA := Lib.hid fa
  have FB := Lib.hid fb
  clear fa fb
  go_enter Try.func39, Try.ntmps39
  go_wp2
  go_loopw [5] (fun i wr => ∃ k : Nat, k ≤ xs.length ∧ i = .int .i64 k ∧ Fr w wr ∧ Box wr w.heap.size #[.slice ao xs.length ca] 64 ∧ Box wr (w.heap.size + 1) #[.slice bo xs.length cb] 64) (fun i _ => xs.length - (intOf i).toNat)
  case atStart => exact ⟨0, Nat.zero_le _, rfl, by repeat (first | (with_reducible exact Fr.refl _) | (with_reducible assumption) | (with_reducible refine Fr.drewN ?_ _) | (with_reducible refine Fr.drew ?_) | (with_reducible refine Fr.alloc ?_ _) | (with_reducible refine Fr.setCell ?_ (by (first | (with_reducible assumption) | omega | (simp only [World.size_alloc, World.size_setCell, World.size_drew, World.heap_drewN]; omega) | (simp; done) | (simp; omega))) _) | (with_reducible refine Fr.trans ?_ (by with_reducible assumption))), (Box.new _ _ _).alloc _, Box.new' (by simp)⟩
  case round =>
    obtain ⟨k, hk, rfl, hfr, BA, BB⟩ := hrel
    have F1 := BA.facts
    have F2 := BB.facts
    by_cases hlt : k < xs.length
    · obtain ⟨rfl, hba, fa⟩ := FA.out (by omega)
      obtain ⟨rfl, hbb, fb⟩ := FB.out (by omega)
      obtain ⟨c0, c1, c2⟩ := fa k hlt
      obtain ⟨d0, d1, d2⟩ := fb k hlt
      clear fa fb
      obtain ⟨x, hx⟩ : ∃ x, fileAt xs k = x := ⟨_, rfl⟩
      rw [hx] at c0 c1 c2 d0 d1 d2
      clear hx
      have c0 := (hfr.cell (p := ⟨ba, _, none⟩) hba).trans c0
      have c1 := (hfr.cell (p := ⟨ba, _, none⟩) hba).trans c1
      have c2 := (hfr.cell (p := ⟨ba, _, none⟩) hba).trans c2
      have d0 := (hfr.cell (p := ⟨bb, _, none⟩) hbb).trans d0
      have d1 := (hfr.cell (p := ⟨bb, _, none⟩) hbb).trans d1
      have d2 := (hfr.cell (p := ⟨bb, _, none⟩) hbb).trans d2
      have q0 : (x.f0.toList == x.f0.toList) = true := bytes_beq rfl
      have q1 : (x.f1.toList == x.f1.toList) = true := bytes_beq rfl
      go_wp2
      go_quiet (fail)
      go_wp2
      go_roundw
      case rel => exact ⟨k + 1, by omega, by go_num, by repeat (first | (with_reducible exact Fr.refl _) | (with_reducible assumption) | (with_reducible refine Fr.drewN ?_ _) | (with_reducible refine Fr.drew ?_) | (with_reducible refine Fr.alloc ?_ _) | (with_reducible refine Fr.setCell ?_ (by (first | (with_reducible assumption) | omega | (simp only [World.size_alloc, World.size_setCell, World.size_drew, World.heap_drewN]; omega) | (simp; done) | (simp; omega))) _) | (with_reducible refine Fr.trans ?_ (by with_reducible assumption))), BA.drewN _, BB.drewN _⟩
      case measure => (simp [intOf]; omega)
    · go_wp2
      go_ret
      exact ⟨rfl, by repeat (first | (with_reducible exact Fr.refl _) | (with_reducible assumption) | (with_reducible refine Fr.drewN ?_ _) | (with_reducible refine Fr.drew ?_) | (with_reducible refine Fr.alloc ?_ _) | (with_reducible refine Fr.setCell ?_ (by (first | (with_reducible assumption) | omega | (simp only [World.size_alloc, World.size_setCell, World.size_drew, World.heap_drewN]; omega) | (simp; done) | (simp; omega))) _) | (with_reducible refine Fr.trans ?_ (by with_reducible assumption)))⟩
end Go.Proofs.Ythcamjijogmbhaa
