/- The program's DoAct, all cases. Condition: bounds on what is read, which the laws pay. -/
import Derived.Test.YthcbnilmhenpgaaActI1
import Derived.Test.YthcbnilmhenpgaaActI2
import Derived.Test.YthcbnilmhenpgaaActI3
import Derived.Test.YthcbnilmhenpgaaActI4
import Derived.Test.YthcbnilmhenpgaaActI5
import Derived.Test.YthcbnilmhenpgaaActI6
namespace Go.Proofs.Ythcbnilmhenpgaa
open Go.RowKit
set_option linter.unusedVariables false
set_option linter.unusedSimpArgs false
theorem implDoAct_any (xs : List FileR) (a : ActR) (hn : xs.length ≤ 1048576) (ha : a.f2.size ≤ 1048576) (v : Value) (w : World) (hv : DiskRd w v ⟨xs⟩) :
    Calls Try.prog 11 #[v, .agg #[.int .i64 a.f0, .string a.f1, .string a.f2, .string a.f3]] w fun e w' => ∃ ao cap, e = .returned (.tuple #[.agg #[.slice ao (doL xs a).length cap], .bool (doB xs a)]) ∧ FilesW w' w.heap.size w'.heap.size (.slice ao (doL xs a).length cap) (doL xs a) ∧ Fr w w' := by
  obtain ⟨u, rfl, hu⟩ := hv
  simp only [] at hu
  obtain ⟨a0, b0, o0, c0, rfl, hc0, hm0, f0⟩ := hu.one
  obtain ⟨k, nm, tx, to⟩ := a
  show IDA xs k nm tx to a0 c0 w
  simp only [] at ha
  cases hd : diskB xs
  · exact ida_disk xs k nm tx to hn ha a0 b0 o0 c0 w hu f0 hd
  cases hf : fitsB ⟨k, nm, tx, to⟩
  · exact ida_fit xs k nm tx to hn ha a0 b0 o0 c0 w hu f0 hd hf
  have hk : k = 1 ∨ k = 2 ∨ k = 4 ∨ k = 3 := by
    unfold fitsB at hf
    simp only [Bool.and_eq_true, decide_eq_true_eq] at hf
    have := hf.1.1.1
    omega
  rcases fIx_cases xs nm with hmiss | ⟨j, hj, hhit⟩
  · by_cases hk1 : k = 1
    · subst hk1; exact ida_add0 xs nm tx to hn ha a0 b0 o0 c0 w hu f0 hd hf hmiss
    · exact ida_no xs k nm tx to hn ha a0 b0 o0 c0 w hu f0 hd hf hk1 hmiss
  · rcases hk with rfl | rfl | rfl | rfl
    · exact ida_add xs nm tx to hn ha a0 b0 o0 c0 w hu f0 hd hf j hj hhit
    · exact ida_keep xs nm tx to hn ha a0 b0 o0 c0 w hu f0 hd hf j hj hhit
    · exact ida_drop xs nm tx to hn ha a0 b0 o0 c0 w hu f0 hd hf j hj hhit
    · by_cases hkp : (fileAt xs j).f2 = ((fileAt xs j).f1.size : Int)
      · exact ida_mv xs nm tx to hn ha a0 b0 o0 c0 w hu f0 hd hf j hj hhit hkp
      · exact ida_mvk xs nm tx to hn ha a0 b0 o0 c0 w hu f0 hd hf j hj hhit hkp
end Go.Proofs.Ythcbnilmhenpgaa
