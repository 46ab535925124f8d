/- Small lemmas of many texts: a box beside a store, a byte as a string, the scanner's end. -/
import Derived.Test.YtjgghiniajmfjaaScan
import Derived.Test.YtjgghiniajmfjaaKBase
namespace Go.Proofs.Ytjgghiniajmfjaa
open Go.RowKit
set_option linter.unusedVariables false
set_option linter.unusedSimpArgs false
theorem Box.far {w : World} {b q i : Nat} {X : Array Value} {T : TypeId} (h : Box w b X T) (hp : b ≠ q) (v : Value) : Box (w.setCell ⟨q, i, none⟩ v) b X T := h.other (p := ⟨q, i, none⟩) hp v
theorem str1 (x : Int) : (strOfNums [x]).data.toList = [UInt8.ofNat x.toNat] := by simp [strOfNums]
theorem byte_of {s : ByteArray} {l : List UInt8} (h : s.data.toList = l) : s = ⟨l.toArray⟩ := by
  apply WideShapes.bytes_inj; rw [h]
theorem conv_lit' (xs : List Int) (w : World) (n B : Nat) (hn : xs.length = n) (hB : B = w.heap.size) :
    (convert 22 9 (.slice (some ⟨B, 0, none⟩) n n)).run Try.prog (w.alloc (.cells (xs.map (Value.int .u8)).toArray 5)) = .ok (.string (strOfNums xs)) (w.alloc (.cells (xs.map (Value.int .u8)).toArray 5)) := by
  subst hB; exact conv_lit xs w n hn
theorem conv_at1 (x : Int) (b : Nat) (w : World) (h0 : w.cell? ⟨b, 0, none⟩ = some (.int .u8 x)) :
    (convert 22 9 (.slice (some ⟨b, 0, none⟩) 1 1)).run Try.prog w = .ok (.string (strOfNums [x])) w := by
  refine run_convert_bytes_arg _ 22 5 Try.underlying22 Try.underlying5 b 0 1 1 [x] rfl (fun i hi => ?_) 9 Try.underlying9
  match i, hi with
  | 0, _ => simpa using h0
theorem done_any (b a : Nat) (bad : Bool) (s : ByteArray) (w : World) (hb : Box w b #[.string s, .int .i64 (a : Nat), .bool bad] 193) :
    Calls Try.prog 188 #[.pointer (some ⟨b, 0, none⟩)] w fun e w' => e = .returned (.bool (!bad && decide (a = s.size))) ∧ Fr w w' := by
  have FB := hb.facts
  cases bad
  · by_cases h : a = s.size
    · have hq : ((a : Int) == (s.size : Int)) = true := by simp [h]
      have HH := Lib.hid h
      clear h
      go_enter Try.func188, Try.ntmps188
      go_wp2_with fail
      go_quiet (fail)
      go_wp2_with fail
      go_ret
      exact ⟨ret_bool (by simp [HH.out]), by repeat (first | (with_reducible exact Fr.refl _) | (with_reducible assumption) | (with_reducible refine Fr.drewN ?_ _) | (with_reducible refine Fr.drew ?_) | (with_reducible refine Fr.alloc ?_ _) | (with_reducible refine Fr.setCell ?_ (by (first | (with_reducible assumption) | omega | (simp only [World.size_alloc, World.size_setCell, World.size_drew, World.heap_drewN]; omega) | (simp; done) | (simp; omega))) _) | (with_reducible refine Fr.trans ?_ (by with_reducible assumption)))⟩
    · have hq : ((a : Int) == (s.size : Int)) = false := by simp; omega
      have HH := Lib.hid h
      clear h
      go_enter Try.func188, Try.ntmps188
      go_wp2_with fail
      go_quiet (fail)
      go_wp2_with fail
      go_ret
      exact ⟨ret_bool (by simp [HH.out]), by repeat (first | (with_reducible exact Fr.refl _) | (with_reducible assumption) | (with_reducible refine Fr.drewN ?_ _) | (with_reducible refine Fr.drew ?_) | (with_reducible refine Fr.alloc ?_ _) | (with_reducible refine Fr.setCell ?_ (by (first | (with_reducible assumption) | omega | (simp only [World.size_alloc, World.size_setCell, World.size_drew, World.heap_drewN]; omega) | (simp; done) | (simp; omega))) _) | (with_reducible refine Fr.trans ?_ (by with_reducible assumption)))⟩
  · go_enter Try.func188, Try.ntmps188
    go_wp2_with fail
    go_quiet (fail)
    go_wp2_with fail
    go_ret
    exact ⟨ret_bool (by simp), by repeat (first | (with_reducible exact Fr.refl _) | (with_reducible assumption) | (with_reducible refine Fr.drewN ?_ _) | (with_reducible refine Fr.drew ?_) | (with_reducible refine Fr.alloc ?_ _) | (with_reducible refine Fr.setCell ?_ (by (first | (with_reducible assumption) | omega | (simp only [World.size_alloc, World.size_setCell, World.size_drew, World.heap_drewN]; omega) | (simp; done) | (simp; omega))) _) | (with_reducible refine Fr.trans ?_ (by with_reducible assumption)))⟩
end Go.Proofs.Ytjgghiniajmfjaa
