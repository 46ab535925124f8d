/- PartActs of the program and of the reference. No condition. -/
import Derived.Test.YtjgghiniajmfjaaEp
import Derived.Test.YtjgghiniajmfjaaGrU
namespace Go.Proofs.Ytjgghiniajmfjaa
open Go.RowKit
set_option linter.unusedVariables false
set_option linter.unusedSimpArgs false
def partN : ByteArray := ⟨#[112, 97, 114, 116]⟩
def partA (g : GraphD) : List ActR := if graphB g then storeL partN (frameR (graphS g)) else []
theorem partA_len (g : GraphD) : (partA g).length ≤ 2 := by unfold partA storeL; split <;> simp
theorem edges_len (n : Int) (xs : List EdgeR) (hn : n ≤ 12) (h : ∀ j, j < xs.length → edgK n xs j = true) : ∀ k, k ≤ xs.length → ((xs.take k).flatMap edgeT).length ≤ 13 * k
  | 0, _ => by simp
  | k + 1, hk => by
    obtain ⟨⟨a, b⟩, ⟨c, d⟩, e, f⟩ := edgK_rng rfl (h k (by omega))
    rw [edgeT_take (by omega) rfl, List.length_append]
    have ih := edges_len n xs hn h k (by omega)
    have h1 := varL_len40 (edgeAt xs k).f0.toNat (by omega)
    have h2 := varL_len40 (edgeAt xs k).f2.toNat (by omega)
    simp only [edgeT, List.length_append, List.length_cons]
    omega
theorem graphS_size {g : GraphD} (h : graphB g = true) : 1 ≤ (graphS g).size ∧ (graphS g).size ≤ 532 := by
  obtain ⟨⟨h1, h2⟩, h3, h4⟩ := graphB_out h
  have e := edges_len g.f0 g.f1 (by omega) h4 g.f1.length (Nat.le_refl _)
  rw [List.take_length] at e
  have a := varL_len40 g.f0.toNat (by omega)
  have b := varL_len40 g.f1.length (by omega)
  have c := varL_pos g.f0.toNat
  unfold graphS
  rw [if_pos h]
  show 1 ≤ (graphL g).toArray.size ∧ (graphL g).toArray.size ≤ 532
  unfold graphL
  simp only [List.size_toArray, List.length_append]
  omega
theorem graph_frame {g : GraphD} (h : graphB g = true) : frameB (graphS g) = true := by
  have := graphS_size h
  unfold frameB; rw [decide_eq_true_eq]; omega
theorem graphS_max (g : GraphD) : (graphS g).size ≤ maxLen := by
  cases h : graphB g
  · unfold graphS; rw [if_neg (by simp [h])]; exact Nat.zero_le _
  · have := (graphS_size h).2; unfold maxLen; omega
theorem graph_frame_no {g : GraphD} (h : graphB g = false) : frameB (graphS g) = false := by
  unfold graphS; rw [if_neg (by simp [h])]; rfl
set_option maxRecDepth 100000 in
theorem implPartActs_any (v : Value) (g : GraphD) (w : World) (hv : GraphRd w v g) :
    Calls Try.prog 58 #[v] w fun e w' => ∃ ao cap, e = .returned (.tuple #[.slice ao (partA g).length cap, .bool (graphB g)]) ∧ ActsW w' w.heap.size w'.heap.size (.slice ao (partA g).length cap) (partA g) ∧ Fr w w' := by
  obtain ⟨u, rfl, hu⟩ := hv
  have hv : GraphRd w _ g := ⟨_, rfl, hu⟩
  obtain ⟨ao0, ca0, rfl, _⟩ := RdS.val hu
  have hs := graphS_max g
  have CT : Hid (∀ w', Fr w w' → Calls Try.prog 126 #[.agg #[.int .i64 g.f0, .slice ao0 g.f1.length ca0]] w' fun e w'' => e = .returned (.tuple #[.string (graphS g), .bool (graphB g)]) ∧ Fr w' w'') := Lib.hid fun w' hf => implGraphText_any _ g w' (hv.fr hf)
  cases hb : graphB g
  · have HA : Hid (partA g = []) := Lib.hid (by unfold partA; rw [hb]; rfl)
    rw [hb] at CT
    clear hv hu
    go_enter Try.func58, Try.ntmps58
    go_wp2_with (go_at_call 126; refine (CT.out _ (by repeat (first | (with_reducible exact Fr.refl _) | (with_reducible assumption) | (with_reducible refine Fr.drewN ?_ _) | (with_reducible refine Fr.drew ?_) | (with_reducible refine Fr.alloc ?_ _) | (with_reducible refine Fr.setCell ?_ (by (first | (with_reducible assumption) | omega | (simp only [World.size_alloc, World.size_setCell, World.size_drew, World.heap_drewN]; omega) | (simp; done) | (simp; omega))) _) | (with_reducible refine Fr.trans ?_ (by with_reducible assumption))))).mono ?_; rintro e w1 ⟨rfl, hf1⟩)
    go_ret2
    rw [HA.out]
    exact ⟨none, 0, rfl, ActsW.nil _ _ _, by repeat (first | (with_reducible exact Fr.refl _) | (with_reducible assumption) | (with_reducible refine Fr.drewN ?_ _) | (with_reducible refine Fr.drew ?_) | (with_reducible refine Fr.alloc ?_ _) | (with_reducible refine Fr.setCell ?_ (by (first | (with_reducible assumption) | omega | (simp only [World.size_alloc, World.size_setCell, World.size_drew, World.heap_drewN]; omega) | (simp; done) | (simp; omega))) _) | (with_reducible refine Fr.trans ?_ (by with_reducible assumption)))⟩
  · have hf := graph_frame hb
    have HA : Hid (partA g = storeA partN (graphS g)) := Lib.hid (by unfold partA storeA; rw [hb, hf])
    have HF := Lib.hid hf
    rw [hb] at CT
    clear hv hu
    clear hf
    generalize graphS g = s at hs CT HA HF
    go_enter Try.func58, Try.ntmps58
    go_wp2_with (first | (go_at_call 126; refine (CT.out _ (by repeat (first | (with_reducible exact Fr.refl _) | (with_reducible assumption) | (with_reducible refine Fr.drewN ?_ _) | (with_reducible refine Fr.drew ?_) | (with_reducible refine Fr.alloc ?_ _) | (with_reducible refine Fr.setCell ?_ (by (first | (with_reducible assumption) | omega | (simp only [World.size_alloc, World.size_setCell, World.size_drew, World.heap_drewN]; omega) | (simp; done) | (simp; omega))) _) | (with_reducible refine Fr.trans ?_ (by with_reducible assumption))))).mono ?_; rintro e w1 ⟨rfl, hf1⟩; have z1 := hf1.size; (try simp only [World.size_alloc, World.size_setCell, World.size_drew] at z1)) | (go_at_call 103; refine (storeActs_any partN s _ hs).mono ?_; rintro e w2 ⟨ao, cap, rfl, ho, hf2⟩))
    go_ret2
    rw [HA.out, HF.out]
    exact ⟨ao, cap, rfl, OwW.mono ho (by (first | (with_reducible assumption) | omega | (simp only [World.size_alloc, World.size_setCell, World.size_drew, World.heap_drewN]; omega) | (simp; done) | (simp; omega))) (Nat.le_refl _), by repeat (first | (with_reducible exact Fr.refl _) | (with_reducible assumption) | (with_reducible refine Fr.drewN ?_ _) | (with_reducible refine Fr.drew ?_) | (with_reducible refine Fr.alloc ?_ _) | (with_reducible refine Fr.setCell ?_ (by (first | (with_reducible assumption) | omega | (simp only [World.size_alloc, World.size_setCell, World.size_drew, World.heap_drewN]; omega) | (simp; done) | (simp; omega))) _) | (with_reducible refine Fr.trans ?_ (by with_reducible assumption)))⟩
set_option maxRecDepth 100000 in
theorem specPartActs_any (v : Value) (g : GraphD) (w : World) (hv : GraphRd w v g) :
    Calls Try.prog 59 #[v] w fun e w' => ∃ ao cap, e = .returned (.tuple #[.slice ao (partA g).length cap, .bool (graphB g)]) ∧ ActsW w' w.heap.size w'.heap.size (.slice ao (partA g).length cap) (partA g) ∧ Fr w w' := by
  obtain ⟨u, rfl, hu⟩ := hv
  have hv : GraphRd w _ g := ⟨_, rfl, hu⟩
  obtain ⟨ao0, ca0, rfl, _⟩ := RdS.val hu
  have hs := graphS_max g
  have CT : Hid (∀ w', Fr w w' → Calls Try.prog 127 #[.agg #[.int .i64 g.f0, .slice ao0 g.f1.length ca0]] w' fun e w'' => e = .returned (.tuple #[.string (graphS g), .bool (graphB g)]) ∧ Fr w' w'') := Lib.hid fun w' hf => specGraphText_any _ g w' (hv.fr hf)
  cases hb : graphB g
  · have HA : Hid (partA g = []) := Lib.hid (by unfold partA; rw [hb]; rfl)
    have HF := Lib.hid (graph_frame_no hb)
    rw [hb] at CT
    clear hv hu
    generalize graphS g = s at hs CT HF
    go_enter Try.func59, Try.ntmps59
    go_wp2_with (first | (go_at_call 127; refine (CT.out _ (by repeat (first | (with_reducible exact Fr.refl _) | (with_reducible assumption) | (with_reducible refine Fr.drewN ?_ _) | (with_reducible refine Fr.drew ?_) | (with_reducible refine Fr.alloc ?_ _) | (with_reducible refine Fr.setCell ?_ (by (first | (with_reducible assumption) | omega | (simp only [World.size_alloc, World.size_setCell, World.size_drew, World.heap_drewN]; omega) | (simp; done) | (simp; omega))) _) | (with_reducible refine Fr.trans ?_ (by with_reducible assumption))))).mono ?_; rintro e w1 ⟨rfl, hf1⟩; have z1 := hf1.size; (try simp only [World.size_alloc, World.size_setCell, World.size_drew] at z1)) | (go_at_call 128; refine (specFrame_any s _ hs).mono ?_; rintro e w2 ⟨rfl, hf2⟩; have z2 := hf2.size))
    go_ret2
    rw [HA.out]
    exact ⟨some ⟨w2.heap.size, 0, none⟩, 0, rfl, ⟨made_empty rfl (by omega), RowIn.one (by omega) (by simp)⟩, by repeat (first | (with_reducible exact Fr.refl _) | (with_reducible assumption) | (with_reducible refine Fr.drewN ?_ _) | (with_reducible refine Fr.drew ?_) | (with_reducible refine Fr.alloc ?_ _) | (with_reducible refine Fr.setCell ?_ (by (first | (with_reducible assumption) | omega | (simp only [World.size_alloc, World.size_setCell, World.size_drew, World.heap_drewN]; omega) | (simp; done) | (simp; omega))) _) | (with_reducible refine Fr.trans ?_ (by with_reducible assumption)))⟩
  · have HF := Lib.hid (graph_frame hb)
    have HA : Hid (partA g = storeL partN (frameR (graphS g))) := Lib.hid (by unfold partA; rw [hb]; rfl)
    rw [hb] at CT
    clear hv hu
    generalize graphS g = s at hs CT HA HF
    go_enter Try.func59, Try.ntmps59
    go_wp2_with (first | (go_at_call 127; refine (CT.out _ (by repeat (first | (with_reducible exact Fr.refl _) | (with_reducible assumption) | (with_reducible refine Fr.drewN ?_ _) | (with_reducible refine Fr.drew ?_) | (with_reducible refine Fr.alloc ?_ _) | (with_reducible refine Fr.setCell ?_ (by (first | (with_reducible assumption) | omega | (simp only [World.size_alloc, World.size_setCell, World.size_drew, World.heap_drewN]; omega) | (simp; done) | (simp; omega))) _) | (with_reducible refine Fr.trans ?_ (by with_reducible assumption))))).mono ?_; rintro e w1 ⟨rfl, hf1⟩; have z1 := hf1.size; (try simp only [World.size_alloc, World.size_setCell, World.size_drew] at z1)) | (go_at_call 128; refine (specFrame_any s _ hs).mono ?_; rintro e w2 ⟨rfl, hf2⟩; have z2 := hf2.size; rw [HF.out]))
    go_ret2
    rw [HA.out]
    exact ⟨some ⟨w2.heap.size, 0, none⟩, 2, rfl, OwW.mono (storeL_own (Nat.le_refl _)) (by (first | (with_reducible assumption) | omega | (simp only [World.size_alloc, World.size_setCell, World.size_drew, World.heap_drewN]; omega) | (simp; done) | (simp; omega))) (by (first | (with_reducible assumption) | omega | (simp only [World.size_alloc, World.size_setCell, World.size_drew, World.heap_drewN]; omega) | (simp; done) | (simp; omega))), by repeat (first | (with_reducible exact Fr.refl _) | (with_reducible assumption) | (with_reducible refine Fr.drewN ?_ _) | (with_reducible refine Fr.drew ?_) | (with_reducible refine Fr.alloc ?_ _) | (with_reducible refine Fr.setCell ?_ (by (first | (with_reducible assumption) | omega | (simp only [World.size_alloc, World.size_setCell, World.size_drew, World.heap_drewN]; omega) | (simp; done) | (simp; omega))) _) | (with_reducible refine Fr.trans ?_ (by with_reducible assumption)))⟩
end Go.Proofs.Ytjgghiniajmfjaa
