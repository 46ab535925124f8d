/- The reference's DoAct, all cases. Condition: bounds on what is read, which the laws pay. -/
import Derived.Test.YthcbnilmhenpgaaActS1
import Derived.Test.YthcbnilmhenpgaaActS2
import Derived.Test.YthcbnilmhenpgaaActS3
import Derived.Test.YthcbnilmhenpgaaActS4
import Derived.Test.YthcbnilmhenpgaaActS5
namespace Go.Proofs.Ythcbnilmhenpgaa
open Go.RowKit
set_option linter.unusedVariables false
set_option linter.unusedSimpArgs false
theorem specDoAct_any (xs : List FileR) (a : ActR) (hn : xs.length ≤ 1048576) (ha : a.f2.size ≤ 1048576) (v : Value) (w : World) (hv : DiskRd w v ⟨xs⟩) :
    Calls Try.prog 8 #[v, .agg #[.int .i64 a.f0, .string a.f1, .string a.f2, .string a.f3]] w fun e w' => ∃ ao cap, e = .returned (.tuple #[.agg #[.slice ao (doL xs a).length cap], .bool (doB xs a)]) ∧ FilesW w' w.heap.size w'.heap.size (.slice ao (doL xs a).length cap) (doL xs a) ∧ Fr w w' := by
  obtain ⟨u, rfl, hu⟩ := hv
  simp only [] at hu
  obtain ⟨a0, b0, o0, c0, rfl, hc0, hm0, f0⟩ := hu.one
  obtain ⟨k, nm, tx, to⟩ := a
  show SDA xs k nm tx to a0 c0 w
  simp only [] at ha
  cases hd : diskB xs
  · exact sda_disk xs k nm tx to hn ha a0 b0 o0 c0 w hu f0 hd
  cases h1 : nameB nm
  · exact sda_name xs k nm tx to hn ha a0 b0 o0 c0 w hu f0 hd h1
  by_cases hk3 : k = 3
  · subst hk3
    cases ht : tx.toList.isEmpty
    · exact sda_tx3 xs nm tx to hn ha a0 b0 o0 c0 w hu f0 hd h1 ht
    rcases fIx_cases xs nm with hmiss | ⟨j, hj, hhit⟩
    · exact sda_no3 xs nm tx to hn ha a0 b0 o0 c0 w hu f0 hd h1 ht hmiss
    by_cases hkp : (fileAt xs j).f2 = ((fileAt xs j).f1.size : Int)
    · cases h6 : (to.toList == nm.toList)
      · cases h5 : nameB to
        · exact sda_mvn xs nm tx to hn ha a0 b0 o0 c0 w hu f0 hd h1 ht j hj hhit hkp h6 h5
        · exact sda_mv xs nm tx to hn ha a0 b0 o0 c0 w hu f0 hd h1 ht j hj hhit hkp h6 h5
      · exact sda_mvs xs nm tx to hn ha a0 b0 o0 c0 w hu f0 hd h1 ht j hj hhit hkp h6
    · exact sda_mvk xs nm tx to hn ha a0 b0 o0 c0 w hu f0 hd h1 ht j hj hhit hkp
  cases h3 : to.toList.isEmpty
  · exact sda_to xs k nm tx to hn ha a0 b0 o0 c0 w hu f0 hd h1 hk3 h3
  by_cases hk1 : k = 1
  · subst hk1
    rcases fIx_cases xs nm with hmiss | ⟨j, hj, hhit⟩
    · exact sda_add0 xs nm tx to hn ha a0 b0 o0 c0 w hu f0 hd h1 h3 hmiss
    · exact sda_add xs nm tx to hn ha a0 b0 o0 c0 w hu f0 hd h1 h3 j hj hhit
  cases ht : tx.toList.isEmpty
  · exact sda_tx xs k nm tx to hn ha a0 b0 o0 c0 w hu f0 hd h1 h3 hk1 ht
  rcases fIx_cases xs nm with hmiss | ⟨j, hj, hhit⟩
  · by_cases hk2 : k = 2
    · subst hk2; exact sda_no2 xs nm tx to hn ha a0 b0 o0 c0 w hu f0 hd h1 h3 ht hmiss
    by_cases hk4 : k = 4
    · subst hk4; exact sda_no4 xs nm tx to hn ha a0 b0 o0 c0 w hu f0 hd h1 h3 ht hmiss
    exact sda_ot0 xs k nm tx to hn ha a0 b0 o0 c0 w hu f0 hd h1 h3 ht (by omega) hmiss
  · by_cases hk2 : k = 2
    · subst hk2; exact sda_keep xs nm tx to hn ha a0 b0 o0 c0 w hu f0 hd h1 h3 ht j hj hhit
    by_cases hk4 : k = 4
    · subst hk4; exact sda_drop xs nm tx to hn ha a0 b0 o0 c0 w hu f0 hd h1 h3 ht j hj hhit
    exact sda_ot xs k nm tx to hn ha a0 b0 o0 c0 w hu f0 hd h1 h3 ht (by omega) j hj hhit
end Go.Proofs.Ythcbnilmhenpgaa
