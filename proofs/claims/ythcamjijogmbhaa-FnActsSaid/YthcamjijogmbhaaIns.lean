/- slices.Insert of one file into the files of a disk that the call itself made: at the end, into spare room, into a new row. Condition: no more than 1000 files, which the callers pay. -/
import Derived.Test.YthcamjijogmbhaaCopyN
import Derived.Test.YthcamjijogmbhaaSFile
import Derived.Test.YthcamjijogmbhaaTFile
import Derived.Test.YthcamjijogmbhaaRow
import Derived.Deep.RegionLaw
namespace Go.Proofs.Ythcamjijogmbhaa
open Go.RowKit
set_option linter.unusedVariables false
set_option linter.unusedSimpArgs false
theorem grown_undrew {w w' : World} {r : Option Nat} (h : w.drew.grownBy w' r) : w.grownBy w' r := ⟨h.os, h.tape, h.output, h.size, h.block⟩
theorem grown_trans {w w' w'' : World} {r : Option Nat} (h : w.grownBy w' r) (k : w'.grownBy w'' r) : w.grownBy w'' r :=
  ⟨k.os.trans h.os, k.tape.trans h.tape, k.output.trans h.output, Nat.le_trans h.size k.size, fun b hb hn => (k.block b (Nat.lt_of_lt_of_le hb h.size) hn).trans (h.block b hb hn)⟩
def insL (xs : List FileR) (i : Nat) (f : FileR) : List FileR := xs.take i ++ [f] ++ xs.drop i
theorem file_takes (xs : List FileR) (i : Nat) : (xs.take i).flatMap FileR.cells = (xs.flatMap FileR.cells).take (i * 3) ∧ (xs.drop i).flatMap FileR.cells = (xs.flatMap FileR.cells).drop (i * 3) := by
  induction xs generalizing i with
  | nil => simp
  | cons x xs ih =>
    cases i with
    | zero => simp
    | succ i =>
      rw [List.flatMap_cons, List.take_succ_cons, List.drop_succ_cons, List.flatMap_cons, (ih i).1, (ih i).2]
      have hl : x.cells.length = 3 := rfl
      constructor
      · rw [List.take_append, List.take_of_length_le (l := x.cells) (by omega), hl]; congr 2; omega
      · rw [List.drop_append, show List.drop ((i + 1) * 3) x.cells = [] from List.drop_eq_nil_of_le (by omega), hl, List.nil_append]; congr 1; omega
theorem file_len (xs : List FileR) : (xs.flatMap FileR.cells).length = xs.length * 3 := by
  induction xs with
  | nil => rfl
  | cons x xs ih => rw [List.flatMap_cons, List.length_append, ih]; show 3 + _ = _; rw [List.length_cons]; omega
theorem insL_cells (xs : List FileR) (i : Nat) (f : FileR) : (insL xs i f).flatMap FileR.cells = (xs.flatMap FileR.cells).take (i * 3) ++ [.string f.f0, .string f.f1, .int .i64 f.f2] ++ (xs.flatMap FileR.cells).drop (i * 3) := by
  unfold insL
  rw [List.flatMap_append, List.flatMap_append, (file_takes xs i).1, (file_takes xs i).2]
  simp [FileR.cells]
theorem insL_length (xs : List FileR) (i : Nat) (f : FileR) (h : i ≤ xs.length) : (insL xs i f).length = xs.length + 1 := by
  unfold insL
  simp only [List.length_append, List.length_take, List.length_drop, List.length_singleton]
  omega
set_option maxHeartbeats 4000000 in
set_option maxRecDepth 100000 in
theorem insert_end (lo : Nat) (v : Value) (xs : List FileR) (f : FileR) (vb : Nat) (w : World) (ho : w.ownsRow lo 135 3 v xs.length (xs.flatMap FileR.cells)) (hn : xs.length ≤ 1000)
    (hb : Box w vb #[.string f.f0, .string f.f1, .int .i64 f.f2] 135) (hlo : lo ≤ w.heap.size) :
    Calls Try.prog 141 #[v, .int .i64 xs.length, .slice (some ⟨vb, 0, none⟩) 1 1] w fun e w' => ∃ ao cap, e = .returned (.slice ao (xs.length + 1) cap) ∧ w'.ownsRow lo 135 3 (.slice ao (xs.length + 1) cap) (xs.length + 1) (xs.flatMap FileR.cells ++ [.string f.f0, .string f.f1, .int .i64 f.f2]) ∧ w.grownBy w' v.ownBlock ∧ ((Value.slice ao (xs.length + 1) cap).ownBlock = v.ownBlock ∨ (Value.slice ao (xs.length + 1) cap).ownBlock = some w.heap.size) := by
  obtain ⟨i0, hi, hz0, hz1, hz2⟩ := info_parts info_File
  obtain ⟨ao, cap, rfl⟩ := owns_val ho
  have HO := Lib.hid ho
  have hnc : xs.length ≤ cap := by
    rcases ho.2 with ⟨h, h0⟩ | ⟨g, c, cur, h, _, _, h2, _⟩
    · omega
    · simp only [Value.slice.injEq] at h; omega
  have hcc : (ao = none → cap = 0) := by
    rcases ho.2 with ⟨h, h0⟩ | ⟨g, c, cur, h, _, _, h2, _⟩
    · simp only [Value.slice.injEq] at h; exact fun _ => h.2.2
    · simp only [Value.slice.injEq] at h; intro h3; rw [h3] at h; exact absurd h.1 (by simp)
  clear ho
  have hr : RdS w 3 (.slice (some ⟨vb, 0, none⟩) 1 1) 1 [.string f.f0, .string f.f1, .int .i64 f.f2] := ⟨rfl, some ⟨vb, 0, none⟩, 1, rfl, Nat.le_refl _, by decide, fun _ => ⟨vb, 0, rfl, hb.lt, fun j hj => by
    rw [Nat.zero_add, hb.cell]
    rcases (show j = 0 ∨ j = 1 ∨ j = 2 by omega) with rfl | rfl | rfl <;> rfl⟩⟩
  have HR := Lib.hid hr
  clear hr
  cases ao with
  | none =>
    obtain rfl := hcc rfl
    have hx0 : xs.length = 0 := by omega
    have hx : xs = [] := List.eq_nil_of_length_eq_zero hx0
    subst hx
    go_enter Try.func141, Try.ntmps141
    go_wp2_with (at_builtin; refine wpList_append_rd rfl _ _ 62 rfl lo 135 i0 (.agg #[.string ⟨#[]⟩, .string ⟨#[]⟩, .int .i64 0]) 3 40 Try.underlying62 hi hz0 hz1 hz2 rfl (by decide) _ 0 [] rfl HO.out _ 1 [.string f.f0, .string f.f1, .int .i64 f.f2] rfl HR.out (by simp [Value.oneCell']) (by unfold maxLen; omega) (by omega) hlo ?_; intro ao' cap' w2 hown hgrow hat)
    go_ret
    exact ⟨ao', cap', rfl, hown, hgrow, hat⟩
  | some ad =>
    obtain ⟨g, o, sp⟩ := ad
    go_enter Try.func141, Try.ntmps141
    go_wp2_with (at_builtin; refine wpList_append_rd rfl _ _ 62 rfl lo 135 i0 (.agg #[.string ⟨#[]⟩, .string ⟨#[]⟩, .int .i64 0]) 3 40 Try.underlying62 hi hz0 hz1 hz2 rfl (by decide) _ xs.length (xs.flatMap FileR.cells) rfl HO.out _ 1 [.string f.f0, .string f.f1, .int .i64 f.f2] rfl HR.out (by simp [Value.oneCell']) (by unfold maxLen; omega) (by omega) hlo ?_; intro ao' cap' w2 hown hgrow hat)
    all_goals
      go_ret
      exact ⟨ao', cap', rfl, hown, hgrow, hat⟩
set_option maxHeartbeats 4000000 in
set_option maxRecDepth 100000 in
theorem insert_room (lo g cap i : Nat) (xs : List FileR) (f : FileR) (vb : Nat) (w : World) (ho : w.ownsRow lo 135 3 (.slice (some ⟨g, 0, none⟩) xs.length cap) xs.length (xs.flatMap FileR.cells)) (hn : xs.length ≤ 1000) (hi : i < xs.length) (hc : xs.length + 1 ≤ cap)
    (hb : Box w vb #[.string f.f0, .string f.f1, .int .i64 f.f2] 135) (hne : vb ≠ g) :
    Calls Try.prog 141 #[.slice (some ⟨g, 0, none⟩) xs.length cap, .int .i64 i, .slice (some ⟨vb, 0, none⟩) 1 1] w fun e w' => e = .returned (.slice (some ⟨g, 0, none⟩) (xs.length + 1) cap) ∧ w'.ownsRow lo 135 3 (.slice (some ⟨g, 0, none⟩) (xs.length + 1) cap) (xs.length + 1) ((insL xs i f).flatMap FileR.cells) ∧ w.grownBy w' (some g) := by
  have hsz : (Try.prog.info? 135).map (·.size) = some 3 := by
    obtain ⟨i0, hi0, h0, h1, h2⟩ := info_parts info_File
    rw [hi0]; simp [h1]
  obtain ⟨hxl, ⟨h, _⟩ | ⟨g', cap', cur, h, hbase, hg, hnc, hcm, hcs, htake⟩⟩ := ho
  · simp at h
  simp only [Value.slice.injEq, Option.some.injEq, Addr.mk.injEq, and_true, true_and] at h
  obtain ⟨rfl, rfl⟩ := h
  obtain ⟨C, rfl⟩ : ∃ C : List Value, cur = C.toArray := ⟨cur.toList, by simp⟩
  simp only [List.toList_toArray, List.size_toArray] at hcs htake
  have hF : ([.string f.f0, .string f.f1, .int .i64 f.f2] : List Value).length = 3 := rfl
  obtain ⟨s1, s2⟩ := splice_two C [.string f.f0, .string f.f1, .int .i64 f.f2] (i * 3) 3 (xs.length * 3) hF (by omega) (by omega)
  rw [htake, ← insL_cells] at s1
  have hdl : ((C.take (xs.length * 3)).drop (i * 3)).length = (xs.length - i) * 3 := by rw [List.length_drop, List.length_take]; omega
  obtain ⟨D, hD⟩ : ∃ D, (C.take (xs.length * 3)).drop (i * 3) = D := ⟨_, rfl⟩
  rw [hD] at hdl s2
  rw [htake] at hD
  rw [hD] at s1
  have h1c : ∀ v ∈ D, v.oneCell' = true := by
    intro v hv
    rw [← hD] at hv
    exact file_oneCells xs v (List.mem_of_mem_drop hv)
  have hsrc : ∀ j v, D[j]? = some v → w.cell? ⟨g, i * 3 + j, none⟩ = some v := by
    intro j v hj
    rw [← hD, ← htake, List.getElem?_drop, List.getElem?_take] at hj
    split at hj
    · simp [World.cell?, hg, hj]
    · cases hj
  have hov : ∀ o la lc, (callFunc 162 #[.slice (some ⟨vb, 0, none⟩) 1 1, .slice (some ⟨g, o, none⟩) la lc]).run Try.prog w = .ok (.value (.bool false)) w := by
    intro o la lc
    rw [run_callFunc_extern Try.func162 (by kernel_rfl) (by kernel_rfl) (by kernel_rfl) (e := Extern.SlicesOverlaps.overlaps #[62, 62] #[4]) (by kernel_rfl),
      Lib.run_overlaps_apart w 62 4 135 Try.underlying62 3 (fun w => by
        obtain ⟨i0, hi0, h0, h1, h2⟩ := info_parts info_File
        simp [sizeOf, typeInfo, hi0, h1]) ⟨vb, 0, none⟩ ⟨g, o, none⟩ 1 1 la lc hne 135 135 3 (cap * 3) (by simp [World.shape?, show w.heap[vb]? = _ from hb]) (by simp [World.shape?, hg, hcs]) (by omega) (hb.frozen 0) (by simp [World.frozen?, show w.heap[vb]? = _ from hb])]
    rfl
  have hS1 := Lib.hid s1
  have hS2 := Lib.hid s2
  have hDL := Lib.hid hdl
  have hH1 := Lib.hid h1c
  have hSR := Lib.hid hsrc
  have hHG := Lib.hid hg
  have hcs' := hcs
  have hCS := Lib.hid hcs
  clear s1 s2 htake hxl hD hdl h1c hsrc hg hcs hcs'
  have hz2 : ¬ ((i : Int) = (xs.length : Int)) := by omega
  have hw1 : IntKind.i64.wrap ((i : Int) + 1) = (i : Int) + 1 := IntWalk.i64_in _ (by omega)
  have hw2 : IntKind.i64.wrap ((xs.length : Int) + 1) = (xs.length : Int) + 1 := IntWalk.i64_in _ (by omega)
  go_enter Try.func141, Try.ntmps141
  have hb1 : (0 : Int) ≤ (i : Int) + 1 := by omega
  have hb2 : ¬ (cap = i + 1) := by omega
  have hb3 : (i : Int) ≤ (xs.length : Int) + 1 := by omega
  have hb4 : ¬ (cap = i) := by omega
  have hin : i ≤ xs.length := by omega
  have htn : ((i : Int) + 1).toNat = i + 1 := by omega
  go_wp2_with (simp only [hov])
  go_region_law (refine step_copyN rfl _ _ 62 62 rfl 135 3 Try.underlying62 hsz g ((i + 1) * 3) (xs.length - i) (cap - (i + 1)) ⟨g, i * 3, none⟩ (xs.length + 1 - i) (cap - i) (by simp [Act.eval, Act.put]) (by simp [Act.eval, Act.put]) (xs.length - i) (by simp only [Nat.min_def]; split <;> omega) C 135 hHG.out D hDL.out (fun j v hj => by rw [Addr.add_lit]; exact hSR.out j v hj) (by have := hDL.out; have := hCS.out; omega) hH1.out ?_; intro w1 hg1 hgr1)
  go_wp2_with (refine wpList_copyN rfl _ _ 62 62 rfl 135 3 Try.underlying62 hsz g (i * 3) (xs.length + 1 - i) (cap - i) ⟨vb, 0, none⟩ 1 1 rfl rfl 1 (by simp only [Nat.min_def]; split <;> omega) (splice C ((i + 1) * 3) D) 135 hg1.out [.string f.f0, .string f.f1, .int .i64 f.f2] rfl (fun j v hj => by rw [Addr.add_lit, Nat.zero_add]; have hb1 : Box w1 vb _ _ := hb.drew.gr hgr1 (by simp; omega); rw [hb1.cell]; simpa using hj) (by rw [length_splice _ _ _ (by have := hDL.out; have := hCS.out; omega)]; have := hCS.out; show i * 3 + 3 ≤ _; omega) (by simp [Value.oneCell']) ?_; intro w2 hg2 hgr2)
  go_ret
  have hmul : (i + 1) * 3 = i * 3 + 3 := by omega
  rw [hmul] at hg2
  refine ⟨rfl, ⟨?_, .inr ⟨g, cap, _, rfl, hbase, hg2.out, by omega, hcm, ?_, ?_⟩⟩, grown_trans (grown_undrew hgr1) hgr2⟩
  · rw [file_len, insL_length _ _ _ (by omega)]
  · have := hS2.out; have := hCS.out; simp only [List.size_toArray]; omega
  · have := hS1.out
    simp only [List.toList_toArray]
    rw [show (xs.length + 1) * 3 = xs.length * 3 + 3 by omega]
    exact this
theorem grow_zeros (g cap i : Nat) (xs : List FileR) (w : World) (hn : xs.length ≤ 1000) (hi : i < xs.length) (hc : cap = xs.length)
    (hcl : ∀ j v, ((xs.flatMap FileR.cells).take (i * 3))[j]? = some v → w.cell? ⟨g, j, none⟩ = some v) :
    ∃ (w1 : World) (G : Nat) (R : List Value), (∀ ty, (Builtin.append_ #[62, 3] ty #[.slice (some ⟨g, 0, none⟩) i cap, .int .i64 ((xs.length : Int) + 1 - (i : Int))]).run Try.prog w = .ok (.slice (some ⟨w.heap.size, 0, none⟩) (xs.length + 1) G) w1) ∧
      w1.heap[w.heap.size]? = some (.cells R.toArray 135 (0, 0)) ∧ R.length = G * 3 ∧ R.take (i * 3) = (xs.flatMap FileR.cells).take (i * 3) ∧ xs.length + 1 ≤ G ∧ G ≤ maxLen ∧ Fr w w1 ∧ w1.heap.size = w.heap.size + 1 := by
  obtain ⟨i0, hi0, hz0, hz1, hz2⟩ := info_parts info_File
  subst hc
  have hxl := file_len xs
  have hik : i + (xs.length + 1 - i) = xs.length + 1 := by omega
  have hkk : (xs.length : Int) + 1 - (i : Int) = ((xs.length + 1 - i : Nat) : Int) := by omega
  have hold : (Builtin.firstCells i0.size i (.slice (some ⟨g, 0, none⟩) i xs.length)).run Try.prog w.drew = .ok ((xs.flatMap FileR.cells).take (i * 3)).toArray w.drew := by
    rw [hz1]
    exact run_firstCells_some w.drew 3 i ⟨g, 0, none⟩ i xs.length _ (by rw [List.length_take]; omega) (fun j v hj => by rw [Addr.add_lit, Nat.zero_add]; exact hcl j v hj)
  have hG1 := grownCap_ge w (xs.length + 1) xs.length 135
  have hG2 := grownCap_le_maxLen w (xs.length + 1) xs.length 135 (by unfold maxLen; omega)
  refine ⟨w.drew.alloc (.cells (((xs.flatMap FileR.cells).take (i * 3)).toArray ++ Builtin.zeroCells (Value.agg #[.string ⟨#[]⟩, .string ⟨#[]⟩, .int .i64 0]).cells (xs.length + 1 - i) ++ Builtin.zeroCells (Value.agg #[.string ⟨#[]⟩, .string ⟨#[]⟩, .int .i64 0]).cells (grownCap w (xs.length + 1) xs.length 135 - (xs.length + 1))) 135), grownCap w (xs.length + 1) xs.length 135, ((xs.flatMap FileR.cells).take (i * 3)) ++ (Builtin.zeroCells (Value.agg #[.string ⟨#[]⟩, .string ⟨#[]⟩, .int .i64 0]).cells (xs.length + 1 - i)).toList ++ (Builtin.zeroCells (Value.agg #[.string ⟨#[]⟩, .string ⟨#[]⟩, .int .i64 0]).cells (grownCap w (xs.length + 1) xs.length 135 - (xs.length + 1))).toList, fun ty => ?_, ?_, ?_, ?_, hG1, hG2, ?_, ?_⟩
  · have h := Lib.run_append_grow_zeros w 62 3 ty 135 i0 _ .i64 .i64 Try.underlying62 Try.underlying3 hi0 hz0 (some ⟨g, 0, none⟩) i xs.length _ hold (xs.length + 1 - i) (by omega) (by omega) (by omega) (by omega) (by rw [hz2]; omega) (by rw [hz2, hik]; exact growslice_fits (by omega) (by omega))
    rw [hik] at h
    rw [hkk]
    exact h
  · show (w.heap.push _)[w.heap.size]? = _
    simp
  · simp only [List.length_append, List.length_take, Array.length_toList, zeroCells_length, hxl]
    have : (Value.agg #[.string ⟨#[]⟩, .string ⟨#[]⟩, .int .i64 0]).cells.size = 3 := by rfl
    rw [this]
    omega
  · rw [List.append_assoc, List.take_append_of_le_length (by rw [List.length_take]; omega), List.take_take, Nat.min_self]
  · repeat (first | (with_reducible exact Fr.refl _) | (with_reducible assumption) | (with_reducible refine Fr.drewN ?_ _) | (with_reducible refine Fr.drew ?_) | (with_reducible refine Fr.alloc ?_ _) | (with_reducible refine Fr.setCell ?_ (by (first | (with_reducible assumption) | omega | (simp only [World.size_alloc, World.size_setCell, World.size_drew, World.heap_drewN]; omega) | (simp; done) | (simp; omega))) _) | (with_reducible refine Fr.trans ?_ (by with_reducible assumption)))
  · show (w.heap.push _).size = _
    simp
set_option maxHeartbeats 4000000 in
set_option maxRecDepth 100000 in
theorem insert_grow (lo g cap i : Nat) (xs : List FileR) (f : FileR) (vb : Nat) (w : World) (ho : w.ownsRow lo 135 3 (.slice (some ⟨g, 0, none⟩) xs.length cap) xs.length (xs.flatMap FileR.cells)) (hn : xs.length ≤ 1000) (hi : i < xs.length) (hc : ¬ xs.length + 1 ≤ cap)
    (hb : Box w vb #[.string f.f0, .string f.f1, .int .i64 f.f2] 135) (hne : vb ≠ g) :
    Calls Try.prog 141 #[.slice (some ⟨g, 0, none⟩) xs.length cap, .int .i64 i, .slice (some ⟨vb, 0, none⟩) 1 1] w fun e w' => ∃ G, e = .returned (.slice (some ⟨w.heap.size, 0, none⟩) (xs.length + 1) G) ∧ w'.ownsRow lo 135 3 (.slice (some ⟨w.heap.size, 0, none⟩) (xs.length + 1) G) (xs.length + 1) ((insL xs i f).flatMap FileR.cells) ∧ Fr w w' := by
  have hsz : (Try.prog.info? 135).map (·.size) = some 3 := by
    obtain ⟨i0, hi0, h0, h1, h2⟩ := info_parts info_File
    rw [hi0]; simp [h1]
  have hxl := file_len xs
  have hlo : lo ≤ g ∧ g < w.heap.size := ho.lt g rfl
  have hcap : cap = xs.length := by
    rcases ho.2 with ⟨h, _⟩ | ⟨g', c', cur, h, _, _, h2, _⟩
    · simp at h
    · simp only [Value.slice.injEq] at h; omega
  have hcells : ∀ j v, (xs.flatMap FileR.cells)[j]? = some v → w.cell? ⟨g, j, none⟩ = some v := by
    intro j v hj
    have hjl : j < xs.length * 3 := by
      have := (List.getElem?_eq_some_iff.1 hj).1
      omega
    rw [ho.cellAt j hjl, hj]
  subst hcap
  obtain ⟨w1, G, R, hr, hg, hRl, hRt, hG1, hG2, hf1, hz1⟩ := grow_zeros g xs.length i xs w hn hi rfl (fun j v hj => hcells j v (by rw [List.getElem?_take] at hj; split at hj; exact hj; cases hj))
  have hF : ([.string f.f0, .string f.f1, .int .i64 f.f2] : List Value).length = 3 := rfl
  obtain ⟨s1, s2⟩ := splice_two' R (xs.flatMap FileR.cells) [.string f.f0, .string f.f1, .int .i64 f.f2] (i * 3) 3 hF (by omega) (by omega) hRt
  rw [← insL_cells] at s1
  have hdl : ((xs.flatMap FileR.cells).drop (i * 3)).length = (xs.length - i) * 3 := by rw [List.length_drop, hxl]; omega
  have h1c : ∀ v ∈ (xs.flatMap FileR.cells).drop (i * 3), v.oneCell' = true := fun v hv => file_oneCells xs v (List.mem_of_mem_drop hv)
  have hsrc : ∀ (w' : World), Fr w w' ∨ True → ∀ j v, ((xs.flatMap FileR.cells).drop (i * 3))[j]? = some v → w.cell? ⟨g, i * 3 + j, none⟩ = some v := by
    intro w' _ j v hj
    rw [List.getElem?_drop] at hj
    exact hcells _ v hj
  have hsrc := hsrc w (.inr trivial)
  generalize (xs.flatMap FileR.cells).drop (i * 3) = D at *
  have hS1 := Lib.hid s1
  have hS2 := Lib.hid s2
  have hDL := Lib.hid hdl
  have hH1 := Lib.hid h1c
  have hSR := Lib.hid hsrc
  have hHG := Lib.hid hg
  have hRL := Lib.hid hRl
  have hHN := hlo.2
  have hLO := hlo.1
  clear s1 s2 hxl hdl h1c hsrc hg hRl hRt hcells ho hlo
  have hz2 : ¬ ((i : Int) = (xs.length : Int)) := by omega
  have hz3 : (xs.length : Int) < (xs.length : Int) + 1 := by omega
  clear hc
  have hw1 : IntKind.i64.wrap ((i : Int) + 1) = (i : Int) + 1 := IntWalk.i64_in _ (by omega)
  have hw2 : IntKind.i64.wrap ((xs.length : Int) + 1) = (xs.length : Int) + 1 := IntWalk.i64_in _ (by omega)
  have hw3 : IntKind.i64.wrap ((xs.length : Int) + 1 - (i : Int)) = (xs.length : Int) + 1 - (i : Int) := IntWalk.i64_in _ (by omega)
  have hb1 : (0 : Int) ≤ (i : Int) + 1 := by omega
  have hb3 : (i : Int) ≤ (xs.length : Int) + 1 := by omega
  have hb4 : ¬ (xs.length = i) := by omega
  have hb5 : ¬ (G = i) := by omega
  have hb6 : ¬ (G = i + 1) := by omega
  have hin : i ≤ xs.length := by omega
  have htn : ((i : Int) + 1).toNat = i + 1 := by omega
  have hG3 : G ≤ 9223372036854775807 := by unfold maxLen at hG2; exact hG2
  go_enter Try.func141, Try.ntmps141
  go_wp2_with (first | (at_builtin; refine Lib.wpList_append_run _ rfl _ _ _ _ rfl _ _ rfl rfl _ _ (hr _) ?_) | (refine wpList_copyN rfl _ _ 62 62 rfl 135 3 Try.underlying62 hsz w.heap.size (i * 3) (xs.length + 1 - i) (G - i) ⟨vb, 0, none⟩ 1 1 rfl rfl 1 (by simp only [Nat.min_def]; split <;> omega) R 135 hHG.out [.string f.f0, .string f.f1, .int .i64 f.f2] rfl (fun j v hj => by rw [Addr.add_lit, Nat.zero_add, (hb.fr hf1).cell]; simpa using hj) (by have := hRL.out; show i * 3 + 3 ≤ _; omega) (by simp [Value.oneCell']) ?_; intro w2 hg2 hgr2))
  have hz2 := hgr2.size
  have hgc : ∀ j, w2.cell? ⟨g, j, none⟩ = w.cell? ⟨g, j, none⟩ := by
    intro j
    unfold World.cell?
    rw [hgr2.block g (by omega) (by simp; omega), hf1.out.block g hHN]
  have HGC := Lib.hid hgc
  clear hgc
  go_region_law (refine step_copyN rfl _ _ 62 62 rfl 135 3 Try.underlying62 hsz w.heap.size ((i + 1) * 3) (xs.length - i) (G - (i + 1)) ⟨g, i * 3, none⟩ (xs.length - i) (xs.length - i) (by simp [Act.eval, Act.put]) (by simp [Act.eval, Act.put]) (xs.length - i) (by simp only [Nat.min_def]; split <;> omega) (splice R (i * 3) [.string f.f0, .string f.f1, .int .i64 f.f2]) 135 hg2.out D hDL.out (fun j v hj => by rw [Addr.add_lit]; show w2.cell? _ = _; rw [HGC.out]; exact hSR.out j v hj) (by rw [length_splice _ _ _ (by have := hRL.out; show i * 3 + 3 ≤ _; omega)]; have := hDL.out; have := hRL.out; omega) hH1.out ?_; intro w3 hg3 hgr3)
  go_wp2_with fail
  go_ret
  have hmul : (i + 1) * 3 = i * 3 + 3 := by omega
  rw [hmul] at hg3
  have hgr := grown_trans hgr2 (grown_undrew hgr3)
  refine ⟨G, rfl, ⟨?_, .inr ⟨w.heap.size, G, _, rfl, by omega, hg3.out, by omega, hG2, ?_, ?_⟩⟩, hf1.grown hgr (fun k hk => by simp at hk; omega)⟩
  · rw [file_len, insL_length _ _ _ (by omega)]
  · have := hS2.out; have := hRL.out; simp only [List.size_toArray]; omega
  · have := hS1.out
    simp only [List.toList_toArray]
    rw [show (xs.length + 1) * 3 = xs.length * 3 + 3 by omega]
    rw [file_len] at this
    exact this
end Go.Proofs.Ythcamjijogmbhaa
