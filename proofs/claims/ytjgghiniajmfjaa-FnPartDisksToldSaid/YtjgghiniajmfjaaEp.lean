/- EpochActs of the program and of the reference. No condition. -/
import Derived.Test.YtjgghiniajmfjaaSum
import Derived.Test.YtjgghiniajmfjaaKAct
namespace Go.Proofs.Ytjgghiniajmfjaa
open Go.RowKit
set_option linter.unusedVariables false
set_option linter.unusedSimpArgs false
def emptyS : ByteArray := ⟨#[]⟩
def storeL (name frame : ByteArray) : List ActR := [⟨1, name, frame, ⟨#[]⟩⟩, ⟨2, name, ⟨#[]⟩, ⟨#[]⟩⟩]
def storeA (name r : ByteArray) : List ActR := if frameB r then storeL name (frameR r) else []
def timeN : ByteArray := ⟨#[116, 105, 109, 101]⟩
def epoB (n : Int) : Bool := decide (1 ≤ n ∧ n ≤ 100000)
def epoA (n : Int) : List ActR := if epoB n then storeL timeN (frameR (vText n)) else []
theorem epoA_len (n : Int) : (epoA n).length ≤ 2 := by unfold epoA storeL; split <;> simp
theorem vText_pos (n : Int) : 1 ≤ (vText n).size := by rw [vText_size]; exact varL_pos _
theorem epo_frame {n : Int} (h : epoB n = true) : frameB (vText n) = true := by
  unfold epoB at h; rw [decide_eq_true_eq] at h
  have h1 := vText_pos n
  have h2 : (vText n).size ≤ 6 := by rw [vText_size]; exact varL_len40 _ (by omega)
  unfold frameB; rw [decide_eq_true_eq]; omega
theorem storeL_own {w : World} {lo : Nat} {name frame : ByteArray} (hl : lo ≤ w.heap.size) :
    ActsW (w.alloc (.cells #[.int .i64 1, .string name, .string frame, .string ⟨#[]⟩, .int .i64 2, .string name, .string ⟨#[]⟩, .string ⟨#[]⟩] 145)) lo (w.heap.size + 1) (.slice (some ⟨w.heap.size, 0, none⟩) 2 2) (storeL name frame) :=
  ⟨World.ownsRow_lit w #[.int .i64 1, .string name, .string frame, .string ⟨#[]⟩, .int .i64 2, .string name, .string ⟨#[]⟩, .string ⟨#[]⟩] 2 hl (by unfold maxLen; omega) rfl, RowIn.one hl (Nat.lt_succ_self _)⟩
set_option maxRecDepth 100000 in
theorem storeActs_any (name r : ByteArray) (w : World) (hr : r.size ≤ maxLen) :
    Calls Try.prog 103 #[.string name, .string r] w fun e w' => ∃ ao cap, e = .returned (.tuple #[.slice ao (storeA name r).length cap, .bool (frameB r)]) ∧ ActsW w' w.heap.size w'.heap.size (.slice ao (storeA name r).length cap) (storeA name r) ∧ Fr w w' := by
  cases hb : frameB r
  · have HS : Hid (storeA name r = []) := by unfold storeA; rw [hb]; rfl
    go_enter Try.func103, Try.ntmps103
    go_wp2_with (go_at_call 171; refine (implFrame_any _ _ hr).mono ?_; rintro e w1 ⟨rfl, hf1⟩)
    go_ret2
    rw [HS.out]
    exact ⟨none, 0, rfl, ActsW.nil _ _ _, by repeat (first | (with_reducible exact Fr.refl _) | (with_reducible assumption) | (with_reducible refine Fr.drewN ?_ _) | (with_reducible refine Fr.drew ?_) | (with_reducible refine Fr.alloc ?_ _) | (with_reducible refine Fr.setCell ?_ (by (first | (with_reducible assumption) | omega | (simp only [World.size_alloc, World.size_setCell, World.size_drew, World.heap_drewN]; omega) | (simp; done) | (simp; omega))) _) | (with_reducible refine Fr.trans ?_ (by with_reducible assumption)))⟩
  · have HS : Hid (storeA name r = storeL name (frameR r)) := by unfold storeA; rw [hb]; rfl
    go_enter Try.func103, Try.ntmps103
    go_wp2_with (go_at_call 171; refine (implFrame_any _ _ hr).mono ?_; rintro e w1 ⟨rfl, hf1⟩; have z1 := hf1.size; (try simp only [World.size_alloc, World.size_setCell, World.size_drew] at z1))
    go_ret2
    rw [HS.out]
    exact ⟨some ⟨w1.heap.size, 0, none⟩, 2, rfl, OwW.mono (storeL_own (Nat.le_refl _)) (by (first | (with_reducible assumption) | omega | (simp only [World.size_alloc, World.size_setCell, World.size_drew, World.heap_drewN]; omega) | (simp; done) | (simp; omega))) (by (first | (with_reducible assumption) | omega | (simp only [World.size_alloc, World.size_setCell, World.size_drew, World.heap_drewN]; omega) | (simp; done) | (simp; omega))), by repeat (first | (with_reducible exact Fr.refl _) | (with_reducible assumption) | (with_reducible refine Fr.drewN ?_ _) | (with_reducible refine Fr.drew ?_) | (with_reducible refine Fr.alloc ?_ _) | (with_reducible refine Fr.setCell ?_ (by (first | (with_reducible assumption) | omega | (simp only [World.size_alloc, World.size_setCell, World.size_drew, World.heap_drewN]; omega) | (simp; done) | (simp; omega))) _) | (with_reducible refine Fr.trans ?_ (by with_reducible assumption)))⟩
set_option maxRecDepth 100000 in
theorem implEpochActs_any (n : Int) (w : World) :
    Calls Try.prog 32 #[.int .i64 n] w fun e w' => ∃ ao cap, e = .returned (.tuple #[.slice ao (epoA n).length cap, .bool (epoB n)]) ∧ ActsW w' w.heap.size w'.heap.size (.slice ao (epoA n).length cap) (epoA n) ∧ Fr w w' := by
  by_cases hn : 1 ≤ n ∧ n ≤ 100000
  · have hb : epoB n = true := decide_eq_true hn
    have hf := epo_frame hb
    have HA : Hid (epoA n = storeA timeN (vText n)) := by unfold epoA storeA; rw [hb, hf]; rfl
    have HB := Lib.hid hb
    have HF := Lib.hid hf
    obtain ⟨h1, h2⟩ := hn
    have hv : (vText n).size ≤ maxLen := by rw [vText_size]; have := varL_len40 n.toNat (by omega); unfold maxLen; omega
    clear hb hf
    go_enter Try.func32, Try.ntmps32
    go_wp2_with (first | (go_at_call 104; refine (varText_any _ _ (by omega) (by omega)).mono ?_; rintro e w1 ⟨rfl, hf1⟩; have z1 := hf1.size; (try simp only [World.size_alloc, World.size_setCell, World.size_drew] at z1)) | (go_at_call 103; refine (storeActs_any timeN (vText n) _ hv).mono ?_; rintro e w2 ⟨ao, cap, rfl, ho, hf2⟩))
    go_ret2
    rw [HA.out, HB.out, HF.out]
    exact ⟨ao, cap, rfl, OwW.mono ho (by (first | (with_reducible assumption) | omega | (simp only [World.size_alloc, World.size_setCell, World.size_drew, World.heap_drewN]; omega) | (simp; done) | (simp; omega))) (Nat.le_refl _), by repeat (first | (with_reducible exact Fr.refl _) | (with_reducible assumption) | (with_reducible refine Fr.drewN ?_ _) | (with_reducible refine Fr.drew ?_) | (with_reducible refine Fr.alloc ?_ _) | (with_reducible refine Fr.setCell ?_ (by (first | (with_reducible assumption) | omega | (simp only [World.size_alloc, World.size_setCell, World.size_drew, World.heap_drewN]; omega) | (simp; done) | (simp; omega))) _) | (with_reducible refine Fr.trans ?_ (by with_reducible assumption)))⟩
  · have hb : epoB n = false := decide_eq_false hn
    have HA : Hid (epoA n = []) := by unfold epoA; rw [hb]; rfl
    have HB := Lib.hid hb
    clear hb
    go_enter Try.func32, Try.ntmps32
    go_wp2_with fail
    all_goals go_ret2
    all_goals rw [HA.out, HB.out]
    all_goals exact ⟨none, 0, rfl, ActsW.nil _ _ _, by repeat (first | (with_reducible exact Fr.refl _) | (with_reducible assumption) | (with_reducible refine Fr.drewN ?_ _) | (with_reducible refine Fr.drew ?_) | (with_reducible refine Fr.alloc ?_ _) | (with_reducible refine Fr.setCell ?_ (by (first | (with_reducible assumption) | omega | (simp only [World.size_alloc, World.size_setCell, World.size_drew, World.heap_drewN]; omega) | (simp; done) | (simp; omega))) _) | (with_reducible refine Fr.trans ?_ (by with_reducible assumption)))⟩
set_option maxRecDepth 100000 in
theorem specEpochActs_any (n : Int) (w : World) :
    Calls Try.prog 61 #[.int .i64 n] w fun e w' => ∃ ao cap, e = .returned (.tuple #[.slice ao (epoA n).length cap, .bool (epoB n)]) ∧ ActsW w' w.heap.size w'.heap.size (.slice ao (epoA n).length cap) (epoA n) ∧ Fr w w' := by
  by_cases hn : 1 ≤ n ∧ n ≤ 100000
  · have hb : epoB n = true := decide_eq_true hn
    have HA : Hid (epoA n = storeL timeN (frameR (vText n))) := by unfold epoA; rw [hb]; rfl
    have hd : decide ((1 : Int) ≤ n ∧ n ≤ 100000) = true := decide_eq_true hn
    have HB := Lib.hid hb
    obtain ⟨h1, h2⟩ := hn
    have hv : (vText n).size ≤ maxLen := by rw [vText_size]; have := varL_len40 n.toNat (by omega); unfold maxLen; omega
    clear hb
    go_enter Try.func61, Try.ntmps61
    go_wp2_with (first | (go_at_call 94; refine (l01In_any _ _ _ _).mono ?_; rintro e w1 ⟨rfl, rfl⟩) | (go_at_call 130; refine (l01Var_any _ _ (by omega) (by omega)).mono ?_; rintro e w1 ⟨rfl, hf1⟩; have z1 := hf1.size; (try simp only [World.size_alloc, World.size_setCell, World.size_drew] at z1)) | (go_at_call 128; refine (specFrame_any (vText n) _ hv).mono ?_; rintro e w2 ⟨rfl, hf2⟩; have z2 := hf2.size))
    go_ret2
    rw [HA.out, HB.out]
    exact ⟨some ⟨w2.heap.size, 0, none⟩, 2, rfl, OwW.mono (storeL_own (Nat.le_refl _)) (by (first | (with_reducible assumption) | omega | (simp only [World.size_alloc, World.size_setCell, World.size_drew, World.heap_drewN]; omega) | (simp; done) | (simp; omega))) (by (first | (with_reducible assumption) | omega | (simp only [World.size_alloc, World.size_setCell, World.size_drew, World.heap_drewN]; omega) | (simp; done) | (simp; omega))), by repeat (first | (with_reducible exact Fr.refl _) | (with_reducible assumption) | (with_reducible refine Fr.drewN ?_ _) | (with_reducible refine Fr.drew ?_) | (with_reducible refine Fr.alloc ?_ _) | (with_reducible refine Fr.setCell ?_ (by (first | (with_reducible assumption) | omega | (simp only [World.size_alloc, World.size_setCell, World.size_drew, World.heap_drewN]; omega) | (simp; done) | (simp; omega))) _) | (with_reducible refine Fr.trans ?_ (by with_reducible assumption)))⟩
  · have hb : epoB n = false := decide_eq_false hn
    have HA : Hid (epoA n = []) := by unfold epoA; rw [hb]; rfl
    have hd : decide ((1 : Int) ≤ n ∧ n ≤ 100000) = false := decide_eq_false hn
    have HB := Lib.hid hb
    clear hb
    go_enter Try.func61, Try.ntmps61
    go_wp2_with (go_at_call 94; refine (l01In_any _ _ _ _).mono ?_; rintro e w1 ⟨rfl, rfl⟩)
    go_ret2
    rw [HA.out, HB.out]
    exact ⟨some ⟨w.heap.size, 0, none⟩, 0, rfl, ⟨made_empty rfl (Nat.le_refl _), RowIn.one (Nat.le_refl _) (by simp)⟩, by repeat (first | (with_reducible exact Fr.refl _) | (with_reducible assumption) | (with_reducible refine Fr.drewN ?_ _) | (with_reducible refine Fr.drew ?_) | (with_reducible refine Fr.alloc ?_ _) | (with_reducible refine Fr.setCell ?_ (by (first | (with_reducible assumption) | omega | (simp only [World.size_alloc, World.size_setCell, World.size_drew, World.heap_drewN]; omega) | (simp; done) | (simp; omega))) _) | (with_reducible refine Fr.trans ?_ (by with_reducible assumption)))⟩
end Go.Proofs.Ytjgghiniajmfjaa
