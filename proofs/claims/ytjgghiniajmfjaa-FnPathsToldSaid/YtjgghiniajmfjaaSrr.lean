/- ReadPath of the reference: rpM too. No condition but the size of a text. -/
import Derived.Test.YtjgghiniajmfjaaSry
import Derived.Test.YtjgghiniajmfjaaPrr
import Derived.Test.YtjgghiniajmfjaaPth2
namespace Go.Proofs.Ytjgghiniajmfjaa
open Go.RowKit
set_option linter.unusedVariables false
set_option linter.unusedSimpArgs false
set_option maxHeartbeats 8000000 in
set_option maxRecDepth 100000 in
theorem specReadPath_any (t : ByteArray) (w : World) (ht : t.size ≤ 9223372036854775807) :
    Calls Try.prog 14 #[.string t] w fun e w' => ∃ v, e = .returned (.tuple #[.agg #[v], .bool (rpM t).2]) ∧ PiecesR w' v (rpM t).1 ∧ Fr w w' := by
  by_cases hs : 20 < t.size
  · have HM : Hid (rpM t = ([], false)) := Lib.hid (by unfold rpM; rw [if_pos hs])
    have q : decide (20 < (t.size : Int)) = true := decide_eq_true (by omega)
    clear hs
    go_enter Try.func14, Try.ntmps14
    go_wp2_with fail
    refine bodyPost_ret (v := .tuple #[.agg #[.slice none 0 0], .bool false]) (by simp [results, Try.results14, go_sem, *]) rfl ?_
    rw [HM.out]
    exact ⟨_, rfl, PiecesR.nil _, by repeat (first | (with_reducible exact Fr.refl _) | (with_reducible assumption) | (with_reducible refine Fr.drewN ?_ _) | (with_reducible refine Fr.drew ?_) | (with_reducible refine Fr.alloc ?_ _) | (with_reducible refine Fr.setCell ?_ (by (first | (with_reducible assumption) | omega | (simp only [World.size_alloc, World.size_setCell, World.size_drew, World.heap_drewN]; omega) | (simp; done) | (simp; omega))) _) | (with_reducible refine Fr.trans ?_ (by with_reducible assumption)))⟩
  · have q : decide (20 < (t.size : Int)) = false := decide_eq_false (by omega)
    have hs2 : t.size ≤ 20 := by omega
    obtain ⟨F, hFF⟩ : ∃ F : Nat, F = 100 := ⟨_, rfl⟩
    have hM : rpM t = rpG t (srs t F (.expr []) 0 []) := by rw [rpG_srs]; unfold rpM; rw [if_neg hs, hFF]
    obtain ⟨R, hR⟩ : ∃ R, srs t F (.expr []) 0 [] = R := ⟨_, rfl⟩
    have HM : Hid (rpM t = rpG t R) := Lib.hid (by rw [hM, hR])
    have CE : Hid (∀ w', Box w' (w.heap.size + 1) #[.string t, .int .i64 0, .bool false, .slice none 0 0] 115 → Calls Try.prog 85 #[.pointer (some ⟨w.heap.size + 1, 0, none⟩)] w' (SPost (w.heap.size + 1) (w.heap.size + 2) 0 2 t (.slice none 0 0) [] [] w' R)) := Lib.hid fun w' h => by
      have := (specReader_any t (by omega) F).2.2 (w.heap.size + 1) (w.heap.size + 2) 0 (.slice none 0 0) [] [] w' h (by omega) (by have := h.lt; omega) (Prd.none _ _) (by omega) (by omega) (by simp; omega)
      rw [hR] at this
      exact this
    clear hs hR hFF hM
    go_enter Try.func14, Try.ntmps14
    go_wp2_with fail
    refine (CE.out _ (Box.new' (by simp))).mono ?_
    rintro e w1 ⟨k, a, ps, bd, rfl, ⟨v', us', hb1, hp1, hg1, _⟩, ha1, ha2, hlen0, hres⟩
    have HF : Fr w w1 := Two.fr_new (b := w.heap.size + 1) (by repeat (first | (with_reducible exact Fr.refl _) | (with_reducible assumption) | (with_reducible refine Fr.drewN ?_ _) | (with_reducible refine Fr.drew ?_) | (with_reducible refine Fr.alloc ?_ _) | (with_reducible refine Fr.setCell ?_ (by (first | (with_reducible assumption) | omega | (simp only [World.size_alloc, World.size_setCell, World.size_drew, World.heap_drewN]; omega) | (simp; done) | (simp; omega))) _) | (with_reducible refine Fr.trans ?_ (by with_reducible assumption)))) (by omega) hg1.two
    have HP := Lib.hid hp1.rd
    have HPr := Lib.hid hp1
    have hlen : ps.length ≤ 9223372036854775807 := NestR.le HP.out
    have F1 := hb1.facts
    have B0 : Box w1 w.heap.size #[.slice none 0 0] 27 := hg1.two.box ((Box.new _ _ _).alloc _) (by omega) (by simp [Value.ownBlock])
    have F0 := B0.facts
    have hne0 := B0.lt
    have hne1 : w.heap.size ≠ w1.heap.size := by omega
    obtain ⟨av, cv, rfl⟩ := hp1.val
    clear hg1 hp1 hb1 ha1 hlen0
    rcases hres with ⟨rfl, rfl⟩ | ⟨rfl, rfl⟩
    · have HM2 : Hid (rpM t = if a = t.size ∧ pathB ps = true then (ps, true) else ([], false)) := HM
      clear HM
      by_cases ha : a = t.size
      · subst ha
        have CP : Hid (∀ w', Fr w1 w' → Calls Try.prog 26 #[.agg #[.slice av ps.length cv]] w' fun e w'' => e = .returned (.bool (pathB ps)) ∧ Fr w' w'') := Lib.hid fun w' h => specPathOk_any _ ps w' (HP.out.fr h)
        obtain ⟨pb, hpb⟩ : ∃ pb, pathB ps = pb := ⟨_, rfl⟩
        rw [hpb] at CP HM2
        clear hpb
        cases pb
        · go_wp2_with fail
          refine (CP.out _ (by repeat (first | (with_reducible exact Fr.refl _) | (with_reducible assumption) | (with_reducible refine Fr.drewN ?_ _) | (with_reducible refine Fr.drew ?_) | (with_reducible refine Fr.alloc ?_ _) | (with_reducible refine Fr.setCell ?_ (by (first | (with_reducible assumption) | omega | (simp only [World.size_alloc, World.size_setCell, World.size_drew, World.heap_drewN]; omega) | (simp; done) | (simp; omega))) _) | (with_reducible refine Fr.trans ?_ (by with_reducible assumption))))).mono ?_
          rintro e w2 ⟨rfl, hf2⟩
          have F02 := (B0.fr (show Fr w1 w2 by repeat (first | (with_reducible exact Fr.refl _) | (with_reducible assumption) | (with_reducible refine Fr.drewN ?_ _) | (with_reducible refine Fr.drew ?_) | (with_reducible refine Fr.alloc ?_ _) | (with_reducible refine Fr.setCell ?_ (by (first | (with_reducible assumption) | omega | (simp only [World.size_alloc, World.size_setCell, World.size_drew, World.heap_drewN]; omega) | (simp; done) | (simp; omega))) _) | (with_reducible refine Fr.trans ?_ (by with_reducible assumption))))).facts
          go_wp2_with fail
          refine bodyPost_ret (v := .tuple #[.agg #[.slice none 0 0], .bool false]) (by simp [results, Try.results14, go_sem, *]) rfl ?_
          rw [HM2.out, if_neg (by simp)]
          exact ⟨_, rfl, PiecesR.nil _, by repeat (first | (with_reducible exact Fr.refl _) | (with_reducible assumption) | (with_reducible refine Fr.drewN ?_ _) | (with_reducible refine Fr.drew ?_) | (with_reducible refine Fr.alloc ?_ _) | (with_reducible refine Fr.setCell ?_ (by (first | (with_reducible assumption) | omega | (simp only [World.size_alloc, World.size_setCell, World.size_drew, World.heap_drewN]; omega) | (simp; done) | (simp; omega))) _) | (with_reducible refine Fr.trans ?_ (by with_reducible assumption)))⟩
        · go_wp2_with fail
          refine (CP.out _ (by repeat (first | (with_reducible exact Fr.refl _) | (with_reducible assumption) | (with_reducible refine Fr.drewN ?_ _) | (with_reducible refine Fr.drew ?_) | (with_reducible refine Fr.alloc ?_ _) | (with_reducible refine Fr.setCell ?_ (by (first | (with_reducible assumption) | omega | (simp only [World.size_alloc, World.size_setCell, World.size_drew, World.heap_drewN]; omega) | (simp; done) | (simp; omega))) _) | (with_reducible refine Fr.trans ?_ (by with_reducible assumption))))).mono ?_
          rintro e w2 ⟨rfl, hf2⟩
          have hf12 : Fr w1 w2 := by repeat (first | (with_reducible exact Fr.refl _) | (with_reducible assumption) | (with_reducible refine Fr.drewN ?_ _) | (with_reducible refine Fr.drew ?_) | (with_reducible refine Fr.alloc ?_ _) | (with_reducible refine Fr.setCell ?_ (by (first | (with_reducible assumption) | omega | (simp only [World.size_alloc, World.size_setCell, World.size_drew, World.heap_drewN]; omega) | (simp; done) | (simp; omega))) _) | (with_reducible refine Fr.trans ?_ (by with_reducible assumption)))
          have F02 := (B0.fr hf12).facts
          have z1 := hf2.size
          (try simp only [World.size_alloc] at z1)
          have F03 := ((Box.new w1 #[.slice av ps.length cv] 27).fr hf2).facts
          have hne := B0.lt
          go_wp2_with fail
          refine bodyPost_ret (v := .tuple #[.agg #[.slice av ps.length cv], .bool true]) (by simp [results, Try.results14, go_sem, *]) rfl ?_
          rw [HM2.out, if_pos (by simp)]
          exact ⟨_, rfl, (Prd.set (HPr.out.fr hf12) (by show w.heap.size < w.heap.size + 2; omega) _).rd, by repeat (first | (with_reducible exact Fr.refl _) | (with_reducible assumption) | (with_reducible refine Fr.drewN ?_ _) | (with_reducible refine Fr.drew ?_) | (with_reducible refine Fr.alloc ?_ _) | (with_reducible refine Fr.setCell ?_ (by (first | (with_reducible assumption) | omega | (simp only [World.size_alloc, World.size_setCell, World.size_drew, World.heap_drewN]; omega) | (simp; done) | (simp; omega))) _) | (with_reducible refine Fr.trans ?_ (by with_reducible assumption)))⟩
      · have q2 : a < t.size := by omega
        have HM3 : Hid (rpM t = ([], false)) := Lib.hid (by rw [HM2.out, if_neg (fun h => ha h.1)])
        clear ha
        go_wp2_with fail
        refine bodyPost_ret (v := .tuple #[.agg #[.slice none 0 0], .bool false]) (by simp [results, Try.results14, go_sem, *]) rfl ?_
        rw [HM3.out]
        exact ⟨_, rfl, PiecesR.nil _, by repeat (first | (with_reducible exact Fr.refl _) | (with_reducible assumption) | (with_reducible refine Fr.drewN ?_ _) | (with_reducible refine Fr.drew ?_) | (with_reducible refine Fr.alloc ?_ _) | (with_reducible refine Fr.setCell ?_ (by (first | (with_reducible assumption) | omega | (simp only [World.size_alloc, World.size_setCell, World.size_drew, World.heap_drewN]; omega) | (simp; done) | (simp; omega))) _) | (with_reducible refine Fr.trans ?_ (by with_reducible assumption)))⟩
    · go_wp2_with fail
      refine bodyPost_ret (v := .tuple #[.agg #[.slice none 0 0], .bool false]) (by simp [results, Try.results14, go_sem, *]) rfl ?_
      rw [HM.out]
      exact ⟨_, rfl, PiecesR.nil _, by repeat (first | (with_reducible exact Fr.refl _) | (with_reducible assumption) | (with_reducible refine Fr.drewN ?_ _) | (with_reducible refine Fr.drew ?_) | (with_reducible refine Fr.alloc ?_ _) | (with_reducible refine Fr.setCell ?_ (by (first | (with_reducible assumption) | omega | (simp only [World.size_alloc, World.size_setCell, World.size_drew, World.heap_drewN]; omega) | (simp; done) | (simp; omega))) _) | (with_reducible refine Fr.trans ?_ (by with_reducible assumption)))⟩
end Go.Proofs.Ytjgghiniajmfjaa
