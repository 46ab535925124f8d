/- What an operation does to a disk, plain. No condition. -/
import Derived.Test.YthcbnilmhenpgaaFit
import Derived.Test.YthcbnilmhenpgaaWo
import Derived.Test.YthcbnilmhenpgaaRe
import Derived.Test.YthcbnilmhenpgaaKpl2
namespace Go.Proofs.Ythcbnilmhenpgaa
open Go.RowKit
set_option linter.unusedVariables false
set_option linter.unusedSimpArgs false
def actX (xs : List FileR) (a : ActR) : FileR := fileAt xs (fIx xs a.f1).toNat
def addF (xs : List FileR) (a : ActR) : FileR := if fIx xs a.f1 < 0 then ⟨a.f1, ⟨#[]⟩ ++ a.f2, 0⟩ else ⟨(actX xs a).f0, (actX xs a).f1 ++ a.f2, (actX xs a).f2⟩
def outA (xs : List FileR) (a : ActR) : Option (List FileR) :=
  if a.f0 = 1 then some (putF xs (addF xs a))
  else if fIx xs a.f1 < 0 then none
  else if a.f0 = 2 then some (putF xs ⟨(actX xs a).f0, (actX xs a).f1, (actX xs a).f1.size⟩)
  else if a.f0 = 3 then (if (actX xs a).f2 = (actX xs a).f1.size then some (putF (woF xs a.f1) ⟨a.f3, (actX xs a).f1, (actX xs a).f2⟩) else none)
  else some (woF xs a.f1)
def doB (xs : List FileR) (a : ActR) : Bool := diskB xs && fitsB a && (match outA xs a with | some ys => diskB ys | none => false)
def doL (xs : List FileR) (a : ActR) : List FileR := if doB xs a then (outA xs a).getD [] else []
theorem doL_no {xs : List FileR} {a : ActR} (h : doB xs a = false) : doL xs a = [] := by unfold doL; rw [h]; rfl
theorem doB_disk {xs : List FileR} {a : ActR} (h : diskB xs = false) : doB xs a = false := by unfold doB; rw [h]; rfl
theorem doB_fits {xs : List FileR} {a : ActR} (h : fitsB a = false) : doB xs a = false := by unfold doB; rw [h]; simp
theorem doB_none {xs : List FileR} {a : ActR} (h : outA xs a = none) : doB xs a = false := by unfold doB; rw [h]; simp
theorem doB_some {xs ys : List FileR} {a : ActR} (h1 : diskB xs = true) (h2 : fitsB a = true) (h3 : outA xs a = some ys) : doB xs a = diskB ys := by unfold doB; rw [h1, h2, h3]; rfl
theorem doL_some {xs ys : List FileR} {a : ActR} (h1 : diskB xs = true) (h2 : fitsB a = true) (h3 : outA xs a = some ys) (h4 : diskB ys = true) : doL xs a = ys := by
  unfold doL; rw [doB_some h1 h2 h3, h4, h3]; rfl
theorem doL_length {xs : List FileR} {a : ActR} : (doL xs a).length ≤ 30 := by
  cases h : doB xs a
  · rw [doL_no h]; simp
  · have h0 := h
    unfold doB at h
    rw [Bool.and_eq_true, Bool.and_eq_true] at h
    unfold doL
    rw [h0]
    cases h2 : outA xs a with
    | none => simp
    | some ys =>
      rw [h2] at h
      exact diskB_len h.2
theorem empty_of {s : ByteArray} (h : s.toList.isEmpty = true) : s = ⟨#[]⟩ := by
  rw [empty_iff, decide_eq_true_eq] at h
  apply WideShapes.bytes_inj
  have : s.data.toList.length = 0 := by rw [Array.length_toList]; exact h
  rw [List.eq_nil_of_length_eq_zero this]
/-- Where the files of a slice lie. -/
def FilesAt (w : World) (xs : List FileR) (a0 : Option Addr) (b0 o0 : Nat) : Prop := 0 < xs.length → a0 = some ⟨b0, o0, none⟩ ∧ b0 < w.heap.size ∧ ∀ k, k < xs.length → w.cell? ⟨b0, o0 + k * 3, none⟩ = some (.string (fileAt xs k).f0) ∧ w.cell? ⟨b0, o0 + k * 3 + 1, none⟩ = some (.string (fileAt xs k).f1) ∧ w.cell? ⟨b0, o0 + k * 3 + 2, none⟩ = some (.int .i64 (fileAt xs k).f2)
def SDA (xs : List FileR) (k : Int) (nm tx to : ByteArray) (a0 : Option Addr) (c0 : Nat) (w : World) : Prop := Calls Try.prog 8 #[.agg #[.slice a0 xs.length c0], .agg #[.int .i64 k, .string nm, .string tx, .string to]] w fun e w' => ∃ ao cap, e = .returned (.tuple #[.agg #[.slice ao (doL xs ⟨k, nm, tx, to⟩).length cap], .bool (doB xs ⟨k, nm, tx, to⟩)]) ∧ FilesW w' w.heap.size w'.heap.size (.slice ao (doL xs ⟨k, nm, tx, to⟩).length cap) (doL xs ⟨k, nm, tx, to⟩) ∧ Fr w w'
end Go.Proofs.Ythcbnilmhenpgaa
