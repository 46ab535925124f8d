/- FreshDisk of the program and of the reference. No condition. -/
import Derived.Test.YtjgghiniajmfjaaPac
import Derived.Test.YtjgghiniajmfjaaSto
import Derived.Test.YtjgghiniajmfjaaKDos
import Derived.Test.YtjgghiniajmfjaaGrF
namespace Go.Proofs.Ytjgghiniajmfjaa
open Go.RowKit
set_option linter.unusedVariables false
set_option linter.unusedSimpArgs false
def freD (g : GraphD) : DiskD := if graphB g then ⟨(dosGo (partA g) [] 0).1⟩ else ⟨[]⟩
theorem part_ok : nameB partN = true := by decide
theorem time_ok : nameB timeN = true := by decide
theorem partA_yes {g : GraphD} (h : graphB g = true) : partA g = storeL partN (frameR (graphS g)) := by unfold partA; rw [h]; rfl
theorem frameR_size {t : ByteArray} (h : frameB t = true) (hz : t.size ≤ 900) : (frameR t).size ≤ 910 := by
  rw [frameR_ok h]
  have := frL_len t
  unfold frL at this
  rw [list_size] at this
  have := varL_len40 t.size (by omega)
  omega
theorem fresh_store {g : GraphD} (h : graphB g = true) : ∃ zs ys, Stored [] partN (frameR (graphS g)) zs ys := by
  have := (graphS_size h).2
  have h1 := frameR_size (graph_frame h) (by omega)
  exact store_all (by rfl) (by simp) part_ok (by show (0 : Nat) + _ ≤ _; omega)
theorem freD_two {g : GraphD} (h : graphB g = true) : dosGo (partA g) [] 0 = ((freD g).f0, 2) := by
  obtain ⟨zs, ys, S⟩ := fresh_store h
  unfold freD
  rw [if_pos h, partA_yes h, S.all]
theorem freD_len (g : GraphD) : (freD g).f0.length ≤ 2 := by
  unfold freD
  split
  · rename_i h
    obtain ⟨zs, ys, S⟩ := fresh_store h
    rw [partA_yes h, S.all]
    exact S.len
  · simp
theorem partA_bulk (g : GraphD) : ActsBulk (partA g) ≤ 1048576 := by
  unfold partA
  split
  · rename_i h
    have := (graphS_size h).2
    have h1 := frameR_size (graph_frame h) (by omega)
    have : ActsBulk (storeL partN (frameR (graphS g))) = 2 + ((4 + (frameR (graphS g)).size + 0) + ((4 + 0 + 0) + 0)) := rfl
    rw [this]
    omega
  · decide
set_option maxRecDepth 100000 in
theorem implFreshDisk_any (v : Value) (g : GraphD) (w : World) (hv : GraphRd w v g) :
    Calls Try.prog 41 #[v] w fun e w' => ∃ ao cap, e = .returned (.tuple #[.agg #[.slice ao (freD g).f0.length cap], .bool (graphB g)]) ∧ DiskW w' w.heap.size w'.heap.size (.agg #[.slice ao (freD g).f0.length cap]) (freD g) ∧ Fr w w' := by
  obtain ⟨u, rfl, hu⟩ := hv; have hv : GraphRd w _ g := ⟨_, rfl, hu⟩; obtain ⟨ao0, ca0, rfl, _⟩ := RdS.val hu
  have CT : Hid (∀ w', Fr w w' → Calls Try.prog 58 #[.agg #[.int .i64 g.f0, .slice ao0 g.f1.length ca0]] w' fun e w'' => ∃ ao cap, e = .returned (.tuple #[.slice ao (partA g).length cap, .bool (graphB g)]) ∧ ActsW w'' w'.heap.size w''.heap.size (.slice ao (partA g).length cap) (partA g) ∧ Fr w' w'') := Lib.hid fun w' hf => implPartActs_any _ g w' (hv.fr hf)
  cases hb : graphB g
  · have HD : Hid (freD g = ⟨[]⟩) := Lib.hid (by unfold freD; rw [hb]; rfl)
    rw [hb] at CT
    clear hv hu hb
    go_enter Try.func41, Try.ntmps41
    go_wp2_with fail
    refine (CT.out _ (by repeat (first | (with_reducible exact Fr.refl _) | (with_reducible assumption) | (with_reducible refine Fr.drewN ?_ _) | (with_reducible refine Fr.drew ?_) | (with_reducible refine Fr.alloc ?_ _) | (with_reducible refine Fr.setCell ?_ (by (first | (with_reducible assumption) | omega | (simp only [World.size_alloc, World.size_setCell, World.size_drew, World.heap_drewN]; omega) | (simp; done) | (simp; omega))) _) | (with_reducible refine Fr.trans ?_ (by with_reducible assumption))))).mono ?_
    rintro e w1 ⟨ao1, cap1, rfl, ho1, hf1⟩
    have BR : Box w1 (w.heap.size + 1) #[.slice none 0 0] 46 := Box.fr (Box.new' (by simp)) hf1
    have FB := BR.facts
    have z1 := hf1.size; (try simp only [World.size_alloc] at z1)
    go_wp2_with fail
    rw [HD.out]
    refine bodyPost_ret (v := .tuple #[.agg #[.slice none 0 0], .bool false]) (by simp [results, Try.results41, go_sem, *]) rfl ⟨none, 0, rfl, ⟨none, 0, rfl, OwW.nil _ _ _ _ _⟩, by repeat (first | (with_reducible exact Fr.refl _) | (with_reducible assumption) | (with_reducible refine Fr.drewN ?_ _) | (with_reducible refine Fr.drew ?_) | (with_reducible refine Fr.alloc ?_ _) | (with_reducible refine Fr.setCell ?_ (by (first | (with_reducible assumption) | omega | (simp only [World.size_alloc, World.size_setCell, World.size_drew, World.heap_drewN]; omega) | (simp; done) | (simp; omega))) _) | (with_reducible refine Fr.trans ?_ (by with_reducible assumption)))⟩
  · have HL := Lib.hid (show (partA g).length = 2 by rw [partA_yes hb]; rfl)
    have HB := Lib.hid (partA_bulk g)
    have H2 := Lib.hid (freD_two hb)
    rw [hb, HL.out] at CT
    have CD : Hid (∀ w' v1, ActsR w' v1 (partA g) → Calls Try.prog 105 #[.agg #[.slice none 0 0], v1] w' fun e w'' => ∃ ao cap, e = .returned (.tuple #[.agg #[.slice ao (freD g).f0.length cap], .int .i64 2]) ∧ DiskW w'' w'.heap.size w''.heap.size (.agg #[.slice ao (freD g).f0.length cap]) (freD g) ∧ Fr w' w'') := Lib.hid fun w' v1 h1 => by
      have := implDoActs_d ⟨[]⟩ (partA g) (by simp) HB.out (.agg #[.slice none 0 0]) v1 w' ⟨_, rfl, (OwW.nil w' 0 0 147 3).rd⟩ h1
      simp only [H2.out] at this
      exact this
    clear hv hu hb HB H2
    obtain ⟨ls, hls⟩ : ∃ ls, partA g = ls := ⟨_, rfl⟩
    obtain ⟨d, hd⟩ : ∃ d, freD g = d := ⟨_, rfl⟩
    rw [hls] at CT CD HL
    rw [hd] at CD ⊢
    clear hls hd
    go_enter Try.func41, Try.ntmps41
    go_wp2_with fail
    refine (CT.out _ (by repeat (first | (with_reducible exact Fr.refl _) | (with_reducible assumption) | (with_reducible refine Fr.drewN ?_ _) | (with_reducible refine Fr.drew ?_) | (with_reducible refine Fr.alloc ?_ _) | (with_reducible refine Fr.setCell ?_ (by (first | (with_reducible assumption) | omega | (simp only [World.size_alloc, World.size_setCell, World.size_drew, World.heap_drewN]; omega) | (simp; done) | (simp; omega))) _) | (with_reducible refine Fr.trans ?_ (by with_reducible assumption))))).mono ?_
    rintro e w1 ⟨ao1, cap1, rfl, ho1, hf1⟩
    have HO1 := Lib.hid ho1
    clear ho1
    have BR : Box w1 (w.heap.size + 1) #[.slice none 0 0] 46 := Box.fr (Box.new' (by simp)) hf1
    have z1 := hf1.size; (try simp only [World.size_alloc] at z1)
    go_wp2_with fail
    refine (CD.out _ _ (by have := HO1.out.rd; unfold ActsR at this ⊢; rw [HL.out] at this ⊢; exact this)).mono ?_
    rintro e w2 ⟨ao2, cap2, rfl, ho2, hf2⟩
    have BR := BR.fr hf2
    have z2 := hf2.size
    obtain ⟨_, _, h4, ho2⟩ := ho2
    cases h4
    have HO2 := Lib.hid ho2
    clear ho2
    have BR2 := BR.alloc (.cells #[.slice ao2 d.f0.length cap2] 46)
    have FB := BR2.facts
    go_wp2_with fail
    refine bodyPost_ret (v := .tuple #[.agg #[.slice ao2 d.f0.length cap2], .bool true]) (by simp [results, Try.results41, go_sem, *]) rfl ⟨ao2, cap2, rfl, ⟨ao2, cap2, rfl, ?_⟩, by repeat (first | (with_reducible exact Fr.refl _) | (with_reducible assumption) | (with_reducible refine Fr.drewN ?_ _) | (with_reducible refine Fr.drew ?_) | (with_reducible refine Fr.alloc ?_ _) | (with_reducible refine Fr.setCell ?_ (by (first | (with_reducible assumption) | omega | (simp only [World.size_alloc, World.size_setCell, World.size_drew, World.heap_drewN]; omega) | (simp; done) | (simp; omega))) _) | (with_reducible refine Fr.trans ?_ (by with_reducible assumption)))⟩
    refine OwW.mono (lo := w1.heap.size) (hi := w2.heap.size) ?_ (by omega) (by simp)
    change OwW _ _ _ _ _ _ _ _; (repeat (first | (with_reducible refine OwW.drewN ?_ _) | (with_reducible refine OwW.drew ?_) | (with_reducible refine OwW.alloc ?_ _) | (with_reducible refine OwW.set ?_ (by (first | (with_reducible assumption) | omega | (simp only [World.size_alloc, World.size_setCell, World.size_drew, World.heap_drewN]; omega) | (simp; done) | (simp; omega))) _) | (exact HO2.out)))
set_option maxRecDepth 100000 in
theorem specFreshDisk_any (v : Value) (g : GraphD) (w : World) (hv : GraphRd w v g) :
    Calls Try.prog 39 #[v] w fun e w' => ∃ ao cap, e = .returned (.tuple #[.agg #[.slice ao (freD g).f0.length cap], .bool (graphB g)]) ∧ DiskW w' w.heap.size w'.heap.size (.agg #[.slice ao (freD g).f0.length cap]) (freD g) ∧ Fr w w' := by
  obtain ⟨u, rfl, hu⟩ := hv; have hv : GraphRd w _ g := ⟨_, rfl, hu⟩; obtain ⟨ao0, ca0, rfl, _⟩ := RdS.val hu
  have CT : Hid (∀ w', Fr w w' → Calls Try.prog 59 #[.agg #[.int .i64 g.f0, .slice ao0 g.f1.length ca0]] w' fun e w'' => ∃ ao cap, e = .returned (.tuple #[.slice ao (partA g).length cap, .bool (graphB g)]) ∧ ActsW w'' w'.heap.size w''.heap.size (.slice ao (partA g).length cap) (partA g) ∧ Fr w' w'') := Lib.hid fun w' hf => specPartActs_any _ g w' (hv.fr hf)
  cases hb : graphB g
  · have HD : Hid (freD g = ⟨[]⟩) := Lib.hid (by unfold freD; rw [hb]; rfl)
    rw [hb] at CT
    clear hv hu hb
    go_enter Try.func39, Try.ntmps39
    go_wp2_with fail
    refine (CT.out _ (by repeat (first | (with_reducible exact Fr.refl _) | (with_reducible assumption) | (with_reducible refine Fr.drewN ?_ _) | (with_reducible refine Fr.drew ?_) | (with_reducible refine Fr.alloc ?_ _) | (with_reducible refine Fr.setCell ?_ (by (first | (with_reducible assumption) | omega | (simp only [World.size_alloc, World.size_setCell, World.size_drew, World.heap_drewN]; omega) | (simp; done) | (simp; omega))) _) | (with_reducible refine Fr.trans ?_ (by with_reducible assumption))))).mono ?_
    rintro e w1 ⟨ao1, cap1, rfl, ho1, hf1⟩
    have BR : Box w1 (w.heap.size + 1) #[.slice none 0 0] 46 := Box.fr (Box.new' (by simp)) hf1
    have FB := BR.facts
    have z1 := hf1.size; (try simp only [World.size_alloc] at z1)
    go_wp2_with fail
    rw [HD.out]
    refine bodyPost_ret (v := .tuple #[.agg #[.slice none 0 0], .bool false]) (by simp [results, Try.results39, go_sem, *]) rfl ⟨none, 0, rfl, ⟨none, 0, rfl, OwW.nil _ _ _ _ _⟩, by repeat (first | (with_reducible exact Fr.refl _) | (with_reducible assumption) | (with_reducible refine Fr.drewN ?_ _) | (with_reducible refine Fr.drew ?_) | (with_reducible refine Fr.alloc ?_ _) | (with_reducible refine Fr.setCell ?_ (by (first | (with_reducible assumption) | omega | (simp only [World.size_alloc, World.size_setCell, World.size_drew, World.heap_drewN]; omega) | (simp; done) | (simp; omega))) _) | (with_reducible refine Fr.trans ?_ (by with_reducible assumption)))⟩
  · have HL := Lib.hid (show (partA g).length = 2 by rw [partA_yes hb]; rfl)
    have HB := Lib.hid (partA_bulk g)
    have H2 := Lib.hid (freD_two hb)
    rw [hb, HL.out] at CT
    have CD : Hid (∀ w' v1, ActsR w' v1 (partA g) → Calls Try.prog 36 #[.agg #[.slice none 0 0], v1] w' fun e w'' => ∃ ao cap, e = .returned (.tuple #[.agg #[.slice ao (freD g).f0.length cap], .int .i64 2]) ∧ DiskW w'' w'.heap.size w''.heap.size (.agg #[.slice ao (freD g).f0.length cap]) (freD g) ∧ Fr w' w'') := Lib.hid fun w' v1 h1 => by
      have := specDoActs_d ⟨[]⟩ (partA g) (by simp) HB.out (.agg #[.slice none 0 0]) v1 w' ⟨_, rfl, (OwW.nil w' 0 0 147 3).rd⟩ h1
      simp only [H2.out] at this
      exact this
    clear hv hu hb HB H2
    obtain ⟨ls, hls⟩ : ∃ ls, partA g = ls := ⟨_, rfl⟩
    obtain ⟨d, hd⟩ : ∃ d, freD g = d := ⟨_, rfl⟩
    rw [hls] at CT CD HL
    rw [hd] at CD ⊢
    clear hls hd
    go_enter Try.func39, Try.ntmps39
    go_wp2_with fail
    refine (CT.out _ (by repeat (first | (with_reducible exact Fr.refl _) | (with_reducible assumption) | (with_reducible refine Fr.drewN ?_ _) | (with_reducible refine Fr.drew ?_) | (with_reducible refine Fr.alloc ?_ _) | (with_reducible refine Fr.setCell ?_ (by (first | (with_reducible assumption) | omega | (simp only [World.size_alloc, World.size_setCell, World.size_drew, World.heap_drewN]; omega) | (simp; done) | (simp; omega))) _) | (with_reducible refine Fr.trans ?_ (by with_reducible assumption))))).mono ?_
    rintro e w1 ⟨ao1, cap1, rfl, ho1, hf1⟩
    have HO1 := Lib.hid ho1
    clear ho1
    have BR : Box w1 (w.heap.size + 1) #[.slice none 0 0] 46 := Box.fr (Box.new' (by simp)) hf1
    have z1 := hf1.size; (try simp only [World.size_alloc] at z1)
    go_wp2_with fail
    refine (CD.out _ _ (by have := HO1.out.rd; unfold ActsR at this ⊢; rw [HL.out] at this ⊢; exact this)).mono ?_
    rintro e w2 ⟨ao2, cap2, rfl, ho2, hf2⟩
    have BR := BR.fr hf2
    have z2 := hf2.size
    obtain ⟨_, _, h4, ho2⟩ := ho2
    cases h4
    have HO2 := Lib.hid ho2
    clear ho2
    have BR2 := BR.alloc (.cells #[.slice ao2 d.f0.length cap2] 46)
    have FB := BR2.facts
    go_wp2_with fail
    refine bodyPost_ret (v := .tuple #[.agg #[.slice ao2 d.f0.length cap2], .bool true]) (by simp [results, Try.results39, go_sem, *]) rfl ⟨ao2, cap2, rfl, ⟨ao2, cap2, rfl, ?_⟩, by repeat (first | (with_reducible exact Fr.refl _) | (with_reducible assumption) | (with_reducible refine Fr.drewN ?_ _) | (with_reducible refine Fr.drew ?_) | (with_reducible refine Fr.alloc ?_ _) | (with_reducible refine Fr.setCell ?_ (by (first | (with_reducible assumption) | omega | (simp only [World.size_alloc, World.size_setCell, World.size_drew, World.heap_drewN]; omega) | (simp; done) | (simp; omega))) _) | (with_reducible refine Fr.trans ?_ (by with_reducible assumption)))⟩
    refine OwW.mono (lo := w1.heap.size) (hi := w2.heap.size) ?_ (by omega) (by simp)
    change OwW _ _ _ _ _ _ _ _; (repeat (first | (with_reducible refine OwW.drewN ?_ _) | (with_reducible refine OwW.drew ?_) | (with_reducible refine OwW.alloc ?_ _) | (with_reducible refine OwW.set ?_ (by (first | (with_reducible assumption) | omega | (simp only [World.size_alloc, World.size_setCell, World.size_drew, World.heap_drewN]; omega) | (simp; done) | (simp; omega))) _) | (exact HO2.out)))
end Go.Proofs.Ytjgghiniajmfjaa
