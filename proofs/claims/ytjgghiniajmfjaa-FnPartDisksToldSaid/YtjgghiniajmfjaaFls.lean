/- One cell of a row of files turned; what a row of files reads as. No condition. -/
import Derived.Test.YtjgghiniajmfjaaKFit
import Derived.Test.YtjgghiniajmfjaaKFile
namespace Go.Proofs.Ytjgghiniajmfjaa
open Go.RowKit
set_option linter.unusedVariables false
set_option linter.unusedSimpArgs false
theorem file_at_set {xs : List FileR} {j i : Nat} {x : FileR} {u : Value} (hj : j < xs.length) (hx : fileAt xs j = x) (hi : i < 3) (hu : x.cells.getD i default = u) : (xs.flatMap FileR.cells).set (j * 3 + i) u = xs.flatMap FileR.cells := by
  have hl := file_len xs
  have h := file_flat xs j i hj hi default
  rw [hx, hu] at h
  have hlt : j * 3 + i < (xs.flatMap FileR.cells).length := by omega
  simp only [List.getD, List.getElem?_eq_getElem hlt, Option.getD_some] at h
  rw [← h]
  exact List.set_getElem_self hlt
theorem text_cells {xs : List FileR} {j : Nat} {x : FileR} {v : ByteArray} (hj : j < xs.length) (hx : fileAt xs j = x) : (xs.set j ⟨x.f0, v, x.f2⟩).flatMap FileR.cells = (xs.flatMap FileR.cells).set (j * 3 + 1) (.string v) := by
  rw [set_cells xs j _ hj]
  have h0 := file_at_set (i := 0) hj hx (by omega) (u := .string x.f0) rfl
  rw [Nat.add_zero] at h0
  rw [h0, List.set_comm _ _ (show j * 3 + 1 ≠ j * 3 + 2 by omega), file_at_set (i := 2) hj hx (by omega) (u := .int .i64 x.f2) rfl]
theorem name_cells {xs : List FileR} {j : Nat} {x : FileR} {v : ByteArray} (hj : j < xs.length) (hx : fileAt xs j = x) : (xs.set j ⟨v, x.f1, x.f2⟩).flatMap FileR.cells = (xs.flatMap FileR.cells).set (j * 3) (.string v) := by
  rw [set_cells xs j _ hj, List.set_comm _ _ (show j * 3 ≠ j * 3 + 1 by omega), file_at_set (i := 1) hj hx (by omega) (u := .string x.f1) rfl, List.set_comm _ _ (show j * 3 ≠ j * 3 + 2 by omega), file_at_set (i := 2) hj hx (by omega) (u := .int .i64 x.f2) rfl]
section
variable {w : World} {lo hi g n cap : Nat} {xs : List FileR}
theorem FilesW.kept (h : FilesW w lo hi (.slice (some ⟨g, 0, none⟩) xs.length cap) xs) (k : Nat) (hk : k < xs.length) (v : Int) : ∃ ys : List FileR, ys.length = xs.length ∧ FilesW (w.setCell ⟨g, k * 3 + 2, none⟩ (.int .i64 v)) lo hi (.slice (some ⟨g, 0, none⟩) ys.length cap) ys := by
  refine ⟨xs.set k ⟨(fileAt xs k).f0, (fileAt xs k).f1, v⟩, by simp, ?_⟩
  have hs := h.1.stored (k * 3 + 2) (.int .i64 v)
  rw [← keep_cells hk rfl] at hs
  refine ⟨?_, h.2.mono (Nat.le_refl _) (Nat.le_refl _)⟩
  simpa using hs.1
theorem FilesW.text (h : FilesW w lo hi (.slice (some ⟨g, 0, none⟩) xs.length cap) xs) (k : Nat) (hk : k < xs.length) (v : ByteArray) : ∃ ys : List FileR, ys.length = xs.length ∧ FilesW (w.setCell ⟨g, k * 3 + 1, none⟩ (.string v)) lo hi (.slice (some ⟨g, 0, none⟩) ys.length cap) ys := by
  refine ⟨xs.set k ⟨(fileAt xs k).f0, v, (fileAt xs k).f2⟩, by simp, ?_⟩
  have hs := h.1.stored (k * 3 + 1) (.string v)
  rw [← text_cells hk rfl] at hs
  refine ⟨?_, h.2.mono (Nat.le_refl _) (Nat.le_refl _)⟩
  simpa using hs.1
theorem FilesW.name (h : FilesW w lo hi (.slice (some ⟨g, 0, none⟩) xs.length cap) xs) (k : Nat) (hk : k < xs.length) (v : ByteArray) : ∃ ys : List FileR, ys.length = xs.length ∧ FilesW (w.setCell ⟨g, k * 3, none⟩ (.string v)) lo hi (.slice (some ⟨g, 0, none⟩) ys.length cap) ys := by
  refine ⟨xs.set k ⟨v, (fileAt xs k).f1, (fileAt xs k).f2⟩, by simp, ?_⟩
  have hs := h.1.stored (k * 3) (.string v)
  rw [← name_cells hk rfl] at hs
  refine ⟨?_, h.2.mono (Nat.le_refl _) (Nat.le_refl _)⟩
  simpa using hs.1
theorem FilesW.from_ {v : Value} (h : FilesW w lo hi v xs) (h0 : 0 < xs.length) : ∃ g cap, v = .slice (some ⟨g, 0, none⟩) xs.length cap ∧ lo ≤ g ∧ g < hi ∧ g < w.heap.size ∧ Hid (∀ w', Fr w w' → ∀ k, k < xs.length → w'.cell? ⟨g, k * 3, none⟩ = some (.string (fileAt xs k).f0) ∧ w'.cell? ⟨g, k * 3 + 1, none⟩ = some (.string (fileAt xs k).f1) ∧ w'.cell? ⟨g, k * 3 + 2, none⟩ = some (.int .i64 (fileAt xs k).f2)) := by
  obtain ⟨a, b, o, c, hv, _, _, f⟩ := FilesR.one (FilesW.rd h)
  obtain ⟨rfl, hb, f⟩ := f h0
  subst hv
  rcases h.1.2 with ⟨e, _⟩ | ⟨g, cap, cur, e, _⟩
  · cases e
  · cases e
    have h2 := h.2 b rfl
    refine ⟨b, c, rfl, h2.1, h2.2, hb, fun w' hf k hk => ?_⟩
    obtain ⟨f0, f1, f2⟩ := f k hk
    rw [Nat.zero_add] at f0 f1 f2
    exact ⟨(hf.cell (p := ⟨b, _, none⟩) hb).trans f0, (hf.cell (p := ⟨b, _, none⟩) hb).trans f1, (hf.cell (p := ⟨b, _, none⟩) hb).trans f2⟩
end
theorem FilesW.drop1 {w : World} {lo hi g cap : Nat} {xs : List FileR} (h : FilesW w lo hi (.slice (some ⟨g, 0, none⟩) xs.length cap) xs) (h0 : 0 < xs.length) : FilesR w (.slice (some ⟨g, 3, none⟩) (xs.drop 1).length (cap - 1)) (xs.drop 1) := by
  obtain ⟨h1, ao, cp, hv, h2, h3, h4⟩ := FilesW.rd h
  cases hv
  obtain ⟨b, o, hb, hs, hc⟩ := h4 (by omega)
  cases hb
  have hl : (xs.drop 1).length = xs.length - 1 := by simp
  have hd : (xs.drop 1).flatMap FileR.cells = (xs.flatMap FileR.cells).drop 3 := by
    cases xs with
    | nil => simp at h0
    | cons x xs =>
      rw [List.flatMap_cons]
      rfl
  refine ⟨by rw [hd, List.length_drop, h1, hl]; omega, _, _, rfl, by omega, by omega, fun hn => ⟨g, 3, rfl, hs, fun j hj => ?_⟩⟩
  rw [hd, List.getElem?_drop]
  have := hc (3 + j) (by omega)
  rw [Nat.zero_add] at this
  exact this
end Go.Proofs.Ytjgghiniajmfjaa
