/- slices.Delete of one file out of the files of a disk that the call itself made. Condition: no more than 1000 files, which the callers pay. -/
import Derived.Test.YthcamjijogmbhaaIns
namespace Go.Proofs.Ythcamjijogmbhaa
open Go.RowKit
set_option linter.unusedVariables false
set_option linter.unusedSimpArgs false
theorem setCells_row (g : Nat) (t : TypeId) : ∀ (cs : List Value) (o : Nat) (w : World) (cur : List Value), w.heap[g]? = some (.cells cur.toArray t (0, 0)) → o + cs.length ≤ cur.length →
    (w.setCells g o cs).heap[g]? = some (.cells (splice cur o cs).toArray t (0, 0)) ∧ w.grownBy (w.setCells g o cs) (some g)
  | [], o, w, cur, hg, h => by
    refine ⟨?_, ⟨rfl, rfl, rfl, Nat.le_refl _, fun _ _ _ => rfl⟩⟩
    show w.heap[g]? = _
    rw [hg]
    simp [splice]
  | v :: r, o, w, cur, hg, h => by
    have hl : (v :: r).length = r.length + 1 := rfl
    have hg1 : (w.setCell ⟨g, o, none⟩ v).heap[g]? = some (.cells (cur.set o v).toArray t (0, 0)) := by
      rw [heap_setCell_same w g o _ t v hg]; simp
    have h1 : w.grownBy (w.setCell ⟨g, o, none⟩ v) (some g) := ⟨rfl, rfl, rfl, by simp, fun k _ hk => heap_setCell_other w ⟨g, o, none⟩ k v (fun e => hk (by rw [e]))⟩
    obtain ⟨h2, h3⟩ := setCells_row g t r (o + 1) (w.setCell ⟨g, o, none⟩ v) (cur.set o v) hg1 (by rw [List.length_set]; omega)
    refine ⟨?_, grown_trans h1 h3⟩
    show ((w.setCell ⟨g, o, none⟩ v).setCells g (o + 1) r).heap[g]? = _
    rw [h2]
    congr 3
    have e := list_seg_step cur o v r (by omega)
    unfold splice
    simpa [List.append_assoc, Nat.add_assoc, Nat.add_comm 1] using e
theorem run_clear_rowM {P : Program} (w : World) (t e : TypeId) (z : Value) (ht : P.underlying t = some (.slice e)) (hv : ∀ w, (zeroValue e).run P w = .ok z w) (h1 : ∀ v ∈ z.cells, v.oneCell' = true) (g o n c : Nat) (hn : 0 < n) (cur : List Value) (te : TypeId)
    (hg : w.heap[g]? = some (.cells cur.toArray te (0, 0))) (hfit : o + n * z.cells.size ≤ cur.length) :
    ∃ (cur' : List Value) (w' : World), (∀ ty, (Builtin.clear_ #[t] ty #[.slice (some ⟨g, o, none⟩) n c]).run P w = .ok (.tuple #[]) w') ∧ w'.heap[g]? = some (.cells cur'.toArray te (0, 0)) ∧ w.grownBy w' (some g) ∧ cur'.length = cur.length ∧ cur'.take o = cur.take o := by
  obtain ⟨cur', h2, h3, h4⟩ := run_clear_rowN w t e t z ht hv h1 g o n c hn cur te hg hfit
  exact ⟨cur', w.setRow g cur'.toArray, fun ty => h2, setRow_heap w g _ _ te _ hg, grown_setRow _ _ _, h3, h4⟩
theorem del_take {α : Type} (C : List α) (a m n : Nat) (hn : a + m ≤ n) (hC : n ≤ C.length) : (splice C a ((C.take n).drop (a + m))).take (n - m) = (C.take n).take a ++ (C.take n).drop (a + m) ∧ (splice C a ((C.take n).drop (a + m))).length = C.length := by
  have hl : ((C.take n).drop (a + m)).length = n - (a + m) := by rw [List.length_drop, List.length_take]; omega
  refine ⟨?_, length_splice _ _ _ (by omega)⟩
  unfold splice
  have e : (C.take n).take a = C.take a := by rw [List.take_take]; congr 1; omega
  rw [e, ← List.append_assoc, List.take_append_of_le_length (by simp only [List.length_append, List.length_take, hl]; omega), List.take_of_length_le (by simp only [List.length_append, List.length_take, hl]; omega)]
theorem erase_cells (xs : List FileR) (i : Nat) : (xs.eraseIdx i).flatMap FileR.cells = (xs.flatMap FileR.cells).take (i * 3) ++ (xs.flatMap FileR.cells).drop (i * 3 + 3) := by
  rw [List.eraseIdx_eq_take_drop_succ, List.flatMap_append, (file_takes xs i).1, (file_takes xs (i + 1)).2]
  congr 2
  omega
theorem step_append_roomN {P : Program} {ops : Array Oper} {o : Oper} {a : Act} {w : World} {K : Act → World → Prop} {Q : Exit → Act → World → Prop} {E : Prop}
    (hg : o.guard = none) (s x : Operand) (t : TypeId) (hop : o.op = Op.call { callee := Callee.builtin Builtin.append, args := #[s, x], argTypes := #[t, t] })
    (e : TypeId) (i : TypeInfo) (size : Nat) (h1 : P.underlying t = some (.slice e)) (h2 : P.info? e = some i) (h4 : i.size = size)
    (b n cap : Nat) (hs : a.eval s = .slice (some ⟨b, 0, none⟩) n cap)
    (ad : Addr) (m c : Nat) (news : List Value) (hx : a.eval x = .slice (some ad) m c) (hn : news.length = m * size) (hc : ∀ j u, news[j]? = some u → w.cell? (ad.add j) = some u) (h1c : ∀ u ∈ news, u.oneCell' = true)
    (hroom : n + m ≤ cap) (hspare : ∀ j, j < news.length → (w.cell? ⟨b, n * size + j, none⟩).isSome = true ∧ w.frozen? ⟨b, n * size + j, none⟩ = false)
    (cur : List Value) (te : TypeId) (hcur : w.heap[b]? = some (.cells cur.toArray te (0, 0))) (hfit : n * size + news.length ≤ cur.length) (nm : Nat) (hnm : nm = n + m)
    (hK : ∀ w', Hid (w'.heap[b]? = some (.cells (splice cur (n * size) news).toArray te (0, 0))) → w.grownBy w' (some b) → K (a.put o.dst (.slice (some ⟨b, 0, none⟩) nm cap)) w') :
    if Region.wanted o (yielded ops a.tmps) = true then Oper.wp P o a w K Q else E := by
  subst hnm
  obtain ⟨h5, h6⟩ := setCells_row b te news (n * size) w cur hcur hfit
  refine step_append_room hg s x t hop e i size h1 h2 h4 b 0 n cap hs ad m c news hx hn hc h1c hroom (by simpa using hspare) ?_
  rw [Nat.zero_add]
  exact hK _ h5 h6
set_option maxHeartbeats 4000000 in
set_option maxRecDepth 100000 in
theorem delete_any (lo g cap i : Nat) (xs : List FileR) (w : World) (ho : w.ownsRow lo 135 3 (.slice (some ⟨g, 0, none⟩) xs.length cap) xs.length (xs.flatMap FileR.cells)) (hn : xs.length ≤ 1000) (hi : i < xs.length) :
    Calls Try.prog 94 #[.slice (some ⟨g, 0, none⟩) xs.length cap, .int .i64 i, .int .i64 ((i : Int) + 1)] w fun e w' => e = .returned (.slice (some ⟨g, 0, none⟩) (xs.length - 1) cap) ∧ w'.ownsRow lo 135 3 (.slice (some ⟨g, 0, none⟩) (xs.length - 1) cap) (xs.length - 1) ((xs.eraseIdx i).flatMap FileR.cells) ∧ w.grownBy w' (some g) := by
  obtain ⟨i0, hi0, hz0, hz1, hz2⟩ := info_parts info_File
  obtain ⟨hxl, ⟨h, _⟩ | ⟨g', cap', cur, h, hbase, hg, hnc, hcm, hcs, htake⟩⟩ := ho
  · simp at h
  simp only [Value.slice.injEq, Option.some.injEq, Addr.mk.injEq, and_true, true_and] at h
  obtain ⟨rfl, rfl⟩ := h
  obtain ⟨C, rfl⟩ : ∃ C : List Value, cur = C.toArray := ⟨cur.toList, by simp⟩
  simp only [List.toList_toArray, List.size_toArray] at hcs htake
  obtain ⟨s1, s2⟩ := del_take C (i * 3) 3 (xs.length * 3) (by omega) (by omega)
  rw [htake, ← erase_cells] at s1
  have hdl : ((C.take (xs.length * 3)).drop (i * 3 + 3)).length = (xs.length - (i + 1)) * 3 := by rw [List.length_drop, List.length_take]; omega
  obtain ⟨D, hD⟩ : ∃ D, (C.take (xs.length * 3)).drop (i * 3 + 3) = D := ⟨_, rfl⟩
  rw [hD] at hdl s2
  rw [htake] at hD
  rw [hD] at s1
  have h1c : ∀ v ∈ D, v.oneCell' = true := by
    intro v hv
    rw [← hD] at hv
    exact file_oneCells xs v (List.mem_of_mem_drop hv)
  have hsrc : ∀ j v, D[j]? = some v → w.cell? ⟨g, (i + 1) * 3 + j, none⟩ = some v := by
    intro j v hj
    rw [← hD, ← htake, List.getElem?_drop, List.getElem?_take] at hj
    split at hj
    · rw [show (i + 1) * 3 + j = i * 3 + 3 + j by omega]
      simp [World.cell?, hg, hj]
    · cases hj
  have hspare : ∀ j, j < D.length → (w.cell? ⟨g, i * 3 + j, none⟩).isSome = true ∧ w.frozen? ⟨g, i * 3 + j, none⟩ = false := by
    intro j hj
    have hjl : i * 3 + j < C.length := by omega
    refine ⟨?_, by simp [World.frozen?, hg]⟩
    simp [World.cell?, hg, hjl]
  have hS1 := Lib.hid s1
  have hS2 := Lib.hid s2
  have hDL := Lib.hid hdl
  have hH1 := Lib.hid h1c
  have hSR := Lib.hid hsrc
  have hSP := Lib.hid hspare
  have hHG := Lib.hid hg
  have hCS := Lib.hid hcs
  clear s1 s2 htake hxl hD hdl h1c hsrc hspare hg hcs
  have hw1 : ¬ ((i : Int) = (i : Int) + 1) := by omega
  have hb1 : (0 : Int) ≤ (i : Int) + 1 := by omega
  have hb2 : (i : Int) + 1 ≤ (xs.length : Int) := by omega
  have hb3 : (i : Int) ≤ (i : Int) + 1 := by omega
  have hin : i ≤ xs.length := by omega
  have htn : ((i : Int) + 1).toNat = i + 1 := by omega
  have hzv : ∀ w, (zeroValue 135).run Try.prog w = .ok (.agg #[.string ⟨#[]⟩, .string ⟨#[]⟩, .int .i64 0]) w := fun w => by simp [zeroValue, typeInfo, hi0, hz0]
  have hic : i ≤ cap := by omega
  have hic2 : (i : Int) ≤ (cap : Int) := by omega
  have hic3 : xs.length - 1 ≤ xs.length := by omega
  have hic4 : xs.length - 1 ≤ cap := by omega
  by_cases hlast : i + 1 = cap
  · have hxe : xs.length = i + 1 := by omega
    have HXE := Lib.hid hxe
    have hD0 : Hid (D = []) := List.eq_nil_of_length_eq_zero (by have := hDL.out; omega)
    have hb5 : ¬ (i + 1 = xs.length - 1) := by omega
    subst hlast
    clear hxe
    go_enter Try.func94, Try.ntmps94
    go_wp2_with fail
    go_region_law (refine step_append_roomN rfl _ _ 62 rfl 135 i0 3 Try.underlying62 hi0 hz1 g i (i + 1) (by simp [Act.eval, Act.put]) ⟨g, 0, none⟩ 0 0 D (by simp [Act.eval, Act.put]) (by rw [hD0.out]; rfl) (fun j v hj => by rw [hD0.out] at hj; simp at hj) hH1.out (by have := HXE.out; omega) hSP.out C 135 hHG.out (by have := hDL.out; have := hCS.out; omega) (xs.length - 1) (by have := HXE.out; omega) ?_; intro w1 hg1 hgr1)
    obtain ⟨C2, w2, hcl, hg2', hgr2, hl2, ht2⟩ := run_clear_rowM (P := Try.prog) w1 62 135 _ Try.underlying62 hzv (by simp [Value.cells, Value.oneCell']) g ((xs.length - 1) * 3) (xs.length - (xs.length - 1)) (i + 1 - (xs.length - 1)) (by omega) (splice C (i * 3) D) 135 hg1.out (by have := hS2.out; have := hCS.out; have h3 : (Value.agg #[.string ⟨#[]⟩, .string ⟨#[]⟩, .int .i64 0]).cells.size = 3 := rfl; rw [h3]; omega)
    have hg2 := Lib.hid hg2'
    clear hg2'
    go_wp2_with fail
    go_ret
    refine ⟨rfl, ⟨?_, .inr ⟨g, i + 1, _, rfl, hbase, hg2.out, by omega, hcm, ?_, ?_⟩⟩, grown_trans (grown_undrew hgr1) hgr2⟩
    · rw [file_len, List.length_eraseIdx, if_pos hi]
    · have := hS2.out; have := hCS.out; simp only [List.size_toArray]; omega
    · have h5 := hS1.out
      simp only [List.toList_toArray]
      rw [ht2, show (xs.length - 1) * 3 = xs.length * 3 - 3 by omega]
      exact h5
  · have hb4 : ¬ (cap = i + 1) := fun h => hlast h.symm
    have hb5 : ¬ (cap = xs.length - 1) := by omega
    have hb6 : ((xs.length - 1 : Nat) : Int) ≤ (xs.length : Int) := by omega
    clear hlast
    go_enter Try.func94, Try.ntmps94
    go_wp2_with fail
    go_region_law (refine step_append_roomN rfl _ _ 62 rfl 135 i0 3 Try.underlying62 hi0 hz1 g i cap (by simp [Act.eval, Act.put]) ⟨g, (i + 1) * 3, none⟩ (xs.length - (i + 1)) (cap - (i + 1)) D (by simp [Act.eval, Act.put]) hDL.out (fun j v hj => by rw [Addr.add_lit]; exact hSR.out j v hj) hH1.out (by omega) hSP.out C 135 hHG.out (by have := hDL.out; have := hCS.out; omega) (xs.length - 1) (by omega) ?_; intro w1 hg1 hgr1)
    obtain ⟨C2, w2, hcl, hg2', hgr2, hl2, ht2⟩ := run_clear_rowM (P := Try.prog) w1 62 135 _ Try.underlying62 hzv (by simp [Value.cells, Value.oneCell']) g ((xs.length - 1) * 3) (xs.length - (xs.length - 1)) (cap - (xs.length - 1)) (by omega) (splice C (i * 3) D) 135 hg1.out (by have := hS2.out; have := hCS.out; have h3 : (Value.agg #[.string ⟨#[]⟩, .string ⟨#[]⟩, .int .i64 0]).cells.size = 3 := rfl; rw [h3]; omega)
    have hg2 := Lib.hid hg2'
    clear hg2'
    go_wp2_with fail
    go_ret
    refine ⟨rfl, ⟨?_, .inr ⟨g, cap, _, rfl, hbase, hg2.out, by omega, hcm, ?_, ?_⟩⟩, grown_trans (grown_undrew hgr1) hgr2⟩
    · rw [file_len, List.length_eraseIdx, if_pos hi]
    · have := hS2.out; have := hCS.out; simp only [List.size_toArray]; omega
    · have h5 := hS1.out
      simp only [List.toList_toArray]
      rw [ht2, show (xs.length - 1) * 3 = xs.length * 3 - 3 by omega]
      exact h5
end Go.Proofs.Ythcamjijogmbhaa
