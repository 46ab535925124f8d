/- DoActs of both, in the form that the law wants. Conditions: bounds on what is read, which the law pays. -/
import Derived.Test.YthcamjijogmbhaaDos2
namespace Go.Proofs.Ythcamjijogmbhaa
open Go.RowKit
set_option linter.unusedVariables false
set_option linter.unusedSimpArgs false
theorem dosGo_len : ∀ (ls : List ActR) (xs : List FileR) (i : Nat), xs.length ≤ 1048576 → (dosGo ls xs i).1.length ≤ 1048576
  | [], xs, i, h => h
  | a :: ls, xs, i, h => by
    rw [dosGo]
    split
    · exact dosGo_len ls _ _ (by have := doL_length (xs := xs) (a := a); omega)
    · exact h
theorem dosGo_cnt {ls : List ActR} {xs : List FileR} (h : xs.length ≤ 1048576) : (⟨(dosGo ls xs 0).1⟩ : DiskD).cnt ≤ 100000000 := by
  have := dosGo_len ls xs 0 h
  show 3 * (dosGo ls xs 0).1.length ≤ _
  omega
theorem specDoActs_d (d : DiskD) (ls : List ActR) (hn : d.f0.length ≤ 1048576) (hb : ActsBulk ls ≤ 1048576) (v v1 : Value) (w : World) (hv : DiskRd w v d) (hv1 : ActsR w v1 ls) :
    Calls Try.prog 38 #[v, v1] w fun e w' => ∃ ao cap, e = .returned (.tuple #[.agg #[.slice ao (⟨(dosGo ls d.f0 0).1⟩ : DiskD).f0.length cap], .int .i64 ((dosGo ls d.f0 0).2 : Int)]) ∧ DiskW w' w.heap.size w'.heap.size (.agg #[.slice ao (⟨(dosGo ls d.f0 0).1⟩ : DiskD).f0.length cap]) ⟨(dosGo ls d.f0 0).1⟩ ∧ Fr w w' :=
  (specDoActs_any d.f0 ls hn hb v v1 w hv hv1).mono fun e w' h => by obtain ⟨ao, cap, h1, h2, h3⟩ := h; exact ⟨ao, cap, h1, ⟨ao, cap, rfl, h2⟩, h3⟩
theorem implDoActs_d (d : DiskD) (ls : List ActR) (hn : d.f0.length ≤ 1048576) (hb : ActsBulk ls ≤ 1048576) (v v1 : Value) (w : World) (hv : DiskRd w v d) (hv1 : ActsR w v1 ls) :
    Calls Try.prog 37 #[v, v1] w fun e w' => ∃ ao cap, e = .returned (.tuple #[.agg #[.slice ao (⟨(dosGo ls d.f0 0).1⟩ : DiskD).f0.length cap], .int .i64 ((dosGo ls d.f0 0).2 : Int)]) ∧ DiskW w' w.heap.size w'.heap.size (.agg #[.slice ao (⟨(dosGo ls d.f0 0).1⟩ : DiskD).f0.length cap]) ⟨(dosGo ls d.f0 0).1⟩ ∧ Fr w w' :=
  (implDoActs_any d.f0 ls hn hb v v1 w hv hv1).mono fun e w' h => by obtain ⟨ao, cap, h1, h2, h3⟩ := h; exact ⟨ao, cap, h1, ⟨ao, cap, rfl, h2⟩, h3⟩
end Go.Proofs.Ythcamjijogmbhaa
