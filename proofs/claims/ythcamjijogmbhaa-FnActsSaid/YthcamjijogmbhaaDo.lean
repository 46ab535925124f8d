/- DoAct of both, in the form that the law wants. Condition: bounds on what is read, which the law pays. -/
import Derived.Test.YthcamjijogmbhaaActS
import Derived.Test.YthcamjijogmbhaaActI
import Derived.Test.YthcamjijogmbhaaODisk
namespace Go.Proofs.Ythcamjijogmbhaa
open Go.RowKit
set_option linter.unusedVariables false
set_option linter.unusedSimpArgs false
theorem act_text {a : ActR} (h : a.bulk ≤ 1048576) : a.f2.size ≤ 1048576 := by unfold ActR.bulk at h; omega
theorem doL_cnt (xs : List FileR) (a : ActR) : (⟨doL xs a⟩ : DiskD).cnt ≤ 100000000 := by
  have := doL_length (xs := xs) (a := a)
  show 3 * (doL xs a).length ≤ _
  omega
theorem specDoAct_d (d : DiskD) (a : ActR) (hn : d.f0.length ≤ 1048576) (hb : a.bulk ≤ 1048576) (v : Value) (w : World) (hv : DiskRd w v d) :
    Calls Try.prog 89 #[v, .agg #[.int .i64 a.f0, .string a.f1, .string a.f2, .string a.f3]] w fun e w' => ∃ ao cap, e = .returned (.tuple #[.agg #[.slice ao (⟨doL d.f0 a⟩ : DiskD).f0.length cap], .bool (doB d.f0 a)]) ∧ DiskW w' w.heap.size w'.heap.size (.agg #[.slice ao (⟨doL d.f0 a⟩ : DiskD).f0.length cap]) ⟨doL d.f0 a⟩ ∧ Fr w w' :=
  (specDoAct_any d.f0 a hn (act_text hb) v w hv).mono fun e w' h => by obtain ⟨ao, cap, h1, h2, h3⟩ := h; exact ⟨ao, cap, h1, ⟨ao, cap, rfl, h2⟩, h3⟩
theorem implDoAct_d (d : DiskD) (a : ActR) (hn : d.f0.length ≤ 1048576) (hb : a.bulk ≤ 1048576) (v : Value) (w : World) (hv : DiskRd w v d) :
    Calls Try.prog 40 #[v, .agg #[.int .i64 a.f0, .string a.f1, .string a.f2, .string a.f3]] w fun e w' => ∃ ao cap, e = .returned (.tuple #[.agg #[.slice ao (⟨doL d.f0 a⟩ : DiskD).f0.length cap], .bool (doB d.f0 a)]) ∧ DiskW w' w.heap.size w'.heap.size (.agg #[.slice ao (⟨doL d.f0 a⟩ : DiskD).f0.length cap]) ⟨doL d.f0 a⟩ ∧ Fr w w' :=
  (implDoAct_any d.f0 a hn (act_text hb) v w hv).mono fun e w' h => by obtain ⟨ao, cap, h1, h2, h3⟩ := h; exact ⟨ao, cap, h1, ⟨ao, cap, rfl, h2⟩, h3⟩
end Go.Proofs.Ythcamjijogmbhaa
