/- Texts in one: CopyN, CopyM. -/
import Derived.Test.YtmdgdnkllclpcaaGreatGApp
import Derived.Laws.CopyOwn
import Derived.Lib.AppendZerosOnto
import Derived.Lib.SliceRun
import Derived.Lib.Overlaps
import Derived.Laws.Externs
import Derived.Deep.RegionLaw
/- The builtins copy and clear at elements of several cells, as laws for the walk (after the kit's laws at one cell). No condition. -/
namespace Go.Proofs.YtmdgdnkllclpcaaGreat
open Go.RowKit
set_option linter.unusedVariables false
set_option linter.unusedSimpArgs false
theorem run_copy_rowN {P : Program} (w : World) (dT sT ty elem : TypeId) (sz : Nat) (g o dLen dCap : Nat) (a : Addr) (sLen sCap : Nat) (cur : Array Value) (t : TypeId) (cs : List Value) (k : Nat) (hk : k = Nat.min sLen dLen)
    (hu : P.underlying dT = some (.slice elem)) (hs : (P.info? elem).map (·.size) = some sz)
    (hg : w.heap[g]? = some (.cells cur t (0, 0))) (hn : cs.length = k * sz)
    (hsrc : ∀ j v, cs[j]? = some v → w.cell? (a.add j) = some v) (hfit : o + cs.length ≤ cur.size) (h1 : ∀ v ∈ cs, v.oneCell' = true) :
    (Builtin.copy_ #[dT, sT] ty #[.slice (some ⟨g, o, none⟩) dLen dCap, .slice (some a) sLen sCap]).run P w =
      .ok (goInt k) (w.setRow g (cur.toList.take o ++ cs ++ cur.toList.drop (o + cs.length)).toArray) := by
  have hl := run_loadCells_list (P := P) w a cs hsrc
  have hst := run_storeCells_at P g o t cs 0 cur w hg (by simpa using hfit) h1
  cases hq : P.info? elem with
  | none => simp [hq] at hs
  | some i =>
    have hi : i.size = sz := by simpa [hq] using hs
    rw [hn] at hl
    simp [Builtin.copy_, run_underlying hu, Builtin.lenOf, Builtin.firstCells, sizeOf, typeInfo, hq, hi, ← hk, hl, hst]
theorem grown_setRow (w : World) (g : Nat) (cs : Array Value) : w.grownBy (w.setRow g cs) (some g) :=
  ⟨rfl, rfl, rfl, by simp [World.setRow], fun k hk hne => setRow_other w g k cs (fun e => hne (by rw [e]))⟩
theorem wpList_copyN {P : Program} {w : World} {ops : Array Oper} {rest : List Oper} {o : Oper} {a : Act} {Q : Exit → Act → World → Prop} (hgd : o.guard = none) (d s : Operand) (dT sT : TypeId)
    (ho : o.op = .call { callee := .builtin .copy, args := #[d, s], argTypes := #[dT, sT] }) (elem : TypeId) (sz : Nat) (hu : P.underlying dT = some (.slice elem)) (hsz : (P.info? elem).map (·.size) = some sz)
    (g off dLen dCap : Nat) (ad : Addr) (sLen sCap : Nat) (hd : a.eval d = .slice (some ⟨g, off, none⟩) dLen dCap) (hs : a.eval s = .slice (some ad) sLen sCap) (k : Nat) (hk : k = Nat.min sLen dLen)
    (cur : List Value) (t : TypeId) (hg : w.heap[g]? = some (.cells cur.toArray t (0, 0))) (cs : List Value) (hn : cs.length = k * sz)
    (hsrc : ∀ j v, cs[j]? = some v → w.cell? (ad.add j) = some v) (hfit : off + cs.length ≤ cur.length) (h1 : ∀ v ∈ cs, v.oneCell' = true)
    (h : ∀ w', Hid (w'.heap[g]? = some (.cells (splice cur off cs).toArray t (0, 0))) → w.grownBy w' (some g) → wpList P ops Q rest (a.put o.dst (goInt k)) w') : wpList P ops Q (o :: rest) a w := by
  refine wpList_plain hgd fun K hK => ?_
  have hrun := run_copy_rowN (P := P) w dT sT o.type elem sz g off dLen dCap ad sLen sCap cur.toArray t cs k hk hu hsz hg hn hsrc (by simpa using hfit) h1
  have hh := h _ (show _ = _ by simpa [splice] using setRow_heap w g _ _ t _ hg) (grown_setRow w g _)
  unfold Oper.wp
  simp [execOp, ho, resolve, invoke, builtin, hd, hs, hrun, Result.andThen]
  exact hK _ _ (by simpa using hh)
theorem step_copyN {P : Program} {ops : Array Oper} {o : Oper} {a : Act} {w : World} {K : Act → World → Prop} {Q : Exit → Act → World → Prop} {E : Prop} (hgd : o.guard = none) (d s : Operand) (dT sT : TypeId)
    (ho : o.op = .call { callee := .builtin .copy, args := #[d, s], argTypes := #[dT, sT] }) (elem : TypeId) (sz : Nat) (hu : P.underlying dT = some (.slice elem)) (hsz : (P.info? elem).map (·.size) = some sz)
    (g off dLen dCap : Nat) (ad : Addr) (sLen sCap : Nat) (hd : a.eval d = .slice (some ⟨g, off, none⟩) dLen dCap) (hs : a.eval s = .slice (some ad) sLen sCap) (k : Nat) (hk : k = Nat.min sLen dLen)
    (cur : List Value) (t : TypeId) (hg : w.heap[g]? = some (.cells cur.toArray t (0, 0))) (cs : List Value) (hn : cs.length = k * sz)
    (hsrc : ∀ j v, cs[j]? = some v → w.cell? (ad.add j) = some v) (hfit : off + cs.length ≤ cur.length) (h1 : ∀ v ∈ cs, v.oneCell' = true)
    (h : ∀ w', Hid (w'.heap[g]? = some (.cells (splice cur off cs).toArray t (0, 0))) → w.grownBy w' (some g) → K (a.put o.dst (goInt k)) w') :
    if Region.wanted o (yielded ops a.tmps) = true then Oper.wp P o a w K Q else E := by
  have hw : Region.wanted o (yielded ops a.tmps) = true := by simp [Region.wanted, hgd]
  rw [if_pos hw]
  have hrun := run_copy_rowN (P := P) w dT sT o.type elem sz g off dLen dCap ad sLen sCap cur.toArray t cs k hk hu hsz hg hn hsrc (by simpa using hfit) h1
  have hh := h _ (show _ = _ by simpa [splice] using setRow_heap w g _ _ t _ hg) (grown_setRow w g _)
  unfold Oper.wp
  simp [execOp, ho, resolve, invoke, builtin, hd, hs, hrun, Result.andThen]
  exact (by simpa using hh : K (a.put o.dst (goInt k)) (w.setRow g (List.take off cur ++ (cs ++ List.drop (off + cs.length) cur)).toArray))
theorem zeroCells_length (z : Array Value) (n : Nat) : (Builtin.zeroCells z n).size = n * z.size := by simp [Builtin.zeroCells]
/-- 'clear(s)' over a row that is known whole: the row ahead stays. -/
theorem run_clear_rowN {P : Program} (w : World) (t e ty : TypeId) (z : Value) (ht : P.underlying t = some (.slice e)) (hv : ∀ w, (zeroValue e).run P w = .ok z w) (h1 : ∀ v ∈ z.cells, v.oneCell' = true) (g o n c : Nat) (hn : 0 < n) (cur : List Value) (te : TypeId)
    (hg : w.heap[g]? = some (.cells cur.toArray te (0, 0))) (hfit : o + n * z.cells.size ≤ cur.length) :
    ∃ cur' : List Value, (Builtin.clear_ #[t] ty #[.slice (some ⟨g, o, none⟩) n c]).run P w = .ok (.tuple #[]) (w.setRow g cur'.toArray) ∧ cur'.length = cur.length ∧ cur'.take o = cur.take o := by
  have hz1 : ∀ v ∈ (Builtin.zeroCells z.cells n).toList, v.oneCell' = true := by
    intro v hv'
    simp only [Builtin.zeroCells, Array.toList_map, List.mem_map, Array.mem_toList_iff, Array.mem_range] at hv'
    obtain ⟨i, hi, rfl⟩ := hv'
    have hp : 0 < z.cells.size := by
      rcases Nat.eq_zero_or_pos z.cells.size with h0 | h0
      · rw [h0] at hi; simp at hi
      · exact h0
    have hm : i % z.cells.size < z.cells.size := Nat.mod_lt _ hp
    rw [getElem!_pos z.cells _ hm]
    exact h1 _ (Array.getElem_mem hm)
  have hl : (Builtin.zeroCells z.cells n).toList.length = n * z.cells.size := by rw [Array.length_toList, zeroCells_length]
  have hst := run_storeCells_at P g o te (Builtin.zeroCells z.cells n).toList 0 cur.toArray w hg (by rw [hl]; simpa using hfit) hz1
  refine ⟨cur.take o ++ (Builtin.zeroCells z.cells n).toList ++ cur.drop (o + n * z.cells.size), ?_, ?_, ?_⟩
  · obtain ⟨m, rfl⟩ : ∃ m, n = m + 1 := ⟨n - 1, by omega⟩
    rw [hl] at hst
    simp only [Nat.add_zero, List.toList_toArray] at hst
    simp [Builtin.clear_, run_underlying ht, hv, hst]
  · simp only [List.length_append, List.length_take, List.length_drop, hl]
    omega
  · rw [List.append_assoc, List.take_append_of_le_length (by rw [List.length_take]; omega), List.take_take]
    congr 1
    omega
/-- A row into which cells were laid: the arithmetic of slices.Insert. -/
theorem splice_two {α : Type} (C F : List α) (a m n : Nat) (hF : F.length = m) (ha : a ≤ n) (hC : n + m ≤ C.length) :
    (splice (splice C (a + m) ((C.take n).drop a)) a F).take (n + m) = (C.take n).take a ++ F ++ (C.take n).drop a ∧ (splice (splice C (a + m) ((C.take n).drop a)) a F).length = C.length := by
  have h1 : ((C.take n).drop a).length = n - a := by rw [List.length_drop, List.length_take]; omega
  have l1 : (splice C (a + m) ((C.take n).drop a)).length = C.length := length_splice _ _ _ (by omega)
  refine ⟨?_, by rw [length_splice _ _ _ (by omega), l1]⟩
  unfold splice
  rw [h1, hF]
  have e1 : (List.take (a + m) C ++ (List.drop a (List.take n C) ++ List.drop (a + m + (n - a)) C)).take a = C.take a := by
    rw [List.take_append_of_le_length (by rw [List.length_take]; omega), List.take_take]; congr 1; omega
  have e2 : (List.take (a + m) C ++ (List.drop a (List.take n C) ++ List.drop (a + m + (n - a)) C)).drop (a + m) = List.drop a (List.take n C) ++ List.drop (a + m + (n - a)) C := by
    rw [List.drop_append_of_le_length (by rw [List.length_take]; omega), List.drop_eq_nil_of_le (by rw [List.length_take]; omega), List.nil_append]
  rw [e1, e2]
  have e3 : (C.take n).take a = C.take a := by rw [List.take_take]; congr 1; omega
  rw [e3, List.append_assoc]
  have e4 : (C.take a ++ (F ++ ((C.take n).drop a ++ C.drop (a + m + (n - a))))) = (C.take a ++ (F ++ (C.take n).drop a)) ++ C.drop (a + m + (n - a)) := by simp [List.append_assoc]
  rw [e4, List.take_append_of_le_length (by simp only [List.length_append, List.length_take, hF, h1]; omega), List.take_of_length_le (by simp only [List.length_append, List.length_take, hF, h1]; omega)]
theorem splice_two' {α : Type} (R X F : List α) (a m : Nat) (hF : F.length = m) (ha : a ≤ X.length) (hR : X.length + m ≤ R.length) (hRa : R.take a = X.take a) :
    (splice (splice R a F) (a + m) (X.drop a)).take (X.length + m) = X.take a ++ F ++ X.drop a ∧ (splice (splice R a F) (a + m) (X.drop a)).length = R.length := by
  have h1 : (X.drop a).length = X.length - a := List.length_drop
  have l1 : (splice R a F).length = R.length := length_splice _ _ _ (by omega)
  refine ⟨?_, by rw [length_splice _ _ _ (by omega), l1]⟩
  unfold splice
  rw [h1, hF]
  have e1 : (List.take a R ++ (F ++ List.drop (a + m) R)).take (a + m) = X.take a ++ F := by
    rw [← List.append_assoc, List.take_append_of_le_length (by simp only [List.length_append, List.length_take, hF]; omega), List.take_of_length_le (by simp only [List.length_append, List.length_take, hF]; omega), hRa]
  rw [e1]
  have hle : (X.take a ++ F ++ X.drop a).length = X.length + m := by simp only [List.length_append, List.length_take, hF, h1]; omega
  rw [← List.append_assoc, List.take_append_of_le_length (by omega), List.take_of_length_le (by omega)]
end Go.Proofs.YtmdgdnkllclpcaaGreat

/- 'clear' over a row, as it is laid: the row ahead stays. No condition. -/
namespace Go.Proofs.YtmdgdnkllclpcaaGreat
open Go.RowKit
set_option linter.unusedVariables false
set_option linter.unusedSimpArgs false
theorem grown_undrew {w w' : World} {r : Option Nat} (h : w.drew.grownBy w' r) : w.grownBy w' r := ⟨h.os, h.tape, h.output, h.size, h.block⟩
theorem grown_trans {w w' w'' : World} {r : Option Nat} (h : w.grownBy w' r) (k : w'.grownBy w'' r) : w.grownBy w'' r :=
  ⟨k.os.trans h.os, k.tape.trans h.tape, k.output.trans h.output, Nat.le_trans h.size k.size, fun b hb hn => (k.block b (Nat.lt_of_lt_of_le hb h.size) hn).trans (h.block b hb hn)⟩
theorem setCells_row (g : Nat) (t : TypeId) : ∀ (cs : List Value) (o : Nat) (w : World) (cur : List Value), w.heap[g]? = some (.cells cur.toArray t (0, 0)) → o + cs.length ≤ cur.length →
    (w.setCells g o cs).heap[g]? = some (.cells (splice cur o cs).toArray t (0, 0)) ∧ w.grownBy (w.setCells g o cs) (some g)
  | [], o, w, cur, hg, h => by
    refine ⟨?_, ⟨rfl, rfl, rfl, Nat.le_refl _, fun _ _ _ => rfl⟩⟩
    show w.heap[g]? = _
    rw [hg]
    simp [splice]
  | v :: r, o, w, cur, hg, h => by
    have hl : (v :: r).length = r.length + 1 := rfl
    have hg1 : (w.setCell ⟨g, o, none⟩ v).heap[g]? = some (.cells (cur.set o v).toArray t (0, 0)) := by
      rw [heap_setCell_same w g o _ t v hg]; simp
    have h1 : w.grownBy (w.setCell ⟨g, o, none⟩ v) (some g) := ⟨rfl, rfl, rfl, by simp, fun k _ hk => heap_setCell_other w ⟨g, o, none⟩ k v (fun e => hk (by rw [e]))⟩
    obtain ⟨h2, h3⟩ := setCells_row g t r (o + 1) (w.setCell ⟨g, o, none⟩ v) (cur.set o v) hg1 (by rw [List.length_set]; omega)
    refine ⟨?_, grown_trans h1 h3⟩
    show ((w.setCell ⟨g, o, none⟩ v).setCells g (o + 1) r).heap[g]? = _
    rw [h2]
    congr 3
    have e := list_seg_step cur o v r (by omega)
    unfold splice
    simpa [List.append_assoc, Nat.add_assoc, Nat.add_comm 1] using e
theorem run_clear_rowM {P : Program} (w : World) (t e : TypeId) (z : Value) (ht : P.underlying t = some (.slice e)) (hv : ∀ w, (zeroValue e).run P w = .ok z w) (h1 : ∀ v ∈ z.cells, v.oneCell' = true) (g o n c : Nat) (hn : 0 < n) (cur : List Value) (te : TypeId)
    (hg : w.heap[g]? = some (.cells cur.toArray te (0, 0))) (hfit : o + n * z.cells.size ≤ cur.length) :
    ∃ (cur' : List Value) (w' : World), (∀ ty, (Builtin.clear_ #[t] ty #[.slice (some ⟨g, o, none⟩) n c]).run P w = .ok (.tuple #[]) w') ∧ w'.heap[g]? = some (.cells cur'.toArray te (0, 0)) ∧ w.grownBy w' (some g) ∧ cur'.length = cur.length ∧ cur'.take o = cur.take o := by
  obtain ⟨cur', h2, h3, h4⟩ := run_clear_rowN w t e t z ht hv h1 g o n c hn cur te hg hfit
  exact ⟨cur', w.setRow g cur'.toArray, fun ty => h2, setRow_heap w g _ _ te _ hg, grown_setRow _ _ _, h3, h4⟩
theorem del_take {α : Type} (C : List α) (a m n : Nat) (hn : a + m ≤ n) (hC : n ≤ C.length) : (splice C a ((C.take n).drop (a + m))).take (n - m) = (C.take n).take a ++ (C.take n).drop (a + m) ∧ (splice C a ((C.take n).drop (a + m))).length = C.length := by
  have hl : ((C.take n).drop (a + m)).length = n - (a + m) := by rw [List.length_drop, List.length_take]; omega
  refine ⟨?_, length_splice _ _ _ (by omega)⟩
  unfold splice
  have e : (C.take n).take a = C.take a := by rw [List.take_take]; congr 1; omega
  rw [e, ← List.append_assoc, List.take_append_of_le_length (by simp only [List.length_append, List.length_take, hl]; omega), List.take_of_length_le (by simp only [List.length_append, List.length_take, hl]; omega)]
theorem step_append_roomN {P : Program} {ops : Array Oper} {o : Oper} {a : Act} {w : World} {K : Act → World → Prop} {Q : Exit → Act → World → Prop} {E : Prop}
    (hg : o.guard = none) (s x : Operand) (t : TypeId) (hop : o.op = Op.call { callee := Callee.builtin Builtin.append, args := #[s, x], argTypes := #[t, t] })
    (e : TypeId) (i : TypeInfo) (size : Nat) (h1 : P.underlying t = some (.slice e)) (h2 : P.info? e = some i) (h4 : i.size = size)
    (b n cap : Nat) (hs : a.eval s = .slice (some ⟨b, 0, none⟩) n cap)
    (ad : Addr) (m c : Nat) (news : List Value) (hx : a.eval x = .slice (some ad) m c) (hn : news.length = m * size) (hc : ∀ j u, news[j]? = some u → w.cell? (ad.add j) = some u) (h1c : ∀ u ∈ news, u.oneCell' = true)
    (hroom : n + m ≤ cap) (hspare : ∀ j, j < news.length → (w.cell? ⟨b, n * size + j, none⟩).isSome = true ∧ w.frozen? ⟨b, n * size + j, none⟩ = false)
    (cur : List Value) (te : TypeId) (hcur : w.heap[b]? = some (.cells cur.toArray te (0, 0))) (hfit : n * size + news.length ≤ cur.length) (nm : Nat) (hnm : nm = n + m)
    (hK : ∀ w', Hid (w'.heap[b]? = some (.cells (splice cur (n * size) news).toArray te (0, 0))) → w.grownBy w' (some b) → K (a.put o.dst (.slice (some ⟨b, 0, none⟩) nm cap)) w') :
    if Region.wanted o (yielded ops a.tmps) = true then Oper.wp P o a w K Q else E := by
  subst hnm
  obtain ⟨h5, h6⟩ := setCells_row b te news (n * size) w cur hcur hfit
  refine step_append_room hg s x t hop e i size h1 h2 h4 b 0 n cap hs ad m c news hx hn hc h1c hroom (by simpa using hspare) ?_
  rw [Nat.zero_add]
  exact hK _ h5 h6
end Go.Proofs.YtmdgdnkllclpcaaGreat
