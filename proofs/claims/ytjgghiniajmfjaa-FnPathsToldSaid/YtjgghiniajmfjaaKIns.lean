/- Texts in one: CopyN, Ins, Del. -/
import Derived.Test.YtjgghiniajmfjaaKApp
import Derived.Laws.CopyOwn
import Derived.Lib.AppendZerosOnto
import Derived.Lib.SliceRun
import Derived.Lib.Overlaps
import Derived.Laws.Externs
import Derived.Deep.RegionLaw
import Derived.Test.YtjgghiniajmfjaaKFile
/- The builtins copy and clear at elements of several cells, as laws for the walk (after the kit's laws at one cell). No condition. -/
namespace Go.Proofs.Ytjgghiniajmfjaa
open Go.RowKit
set_option linter.unusedVariables false
set_option linter.unusedSimpArgs false
theorem run_copy_rowN {P : Program} (w : World) (dT sT ty elem : TypeId) (sz : Nat) (g o dLen dCap : Nat) (a : Addr) (sLen sCap : Nat) (cur : Array Value) (t : TypeId) (cs : List Value) (k : Nat) (hk : k = Nat.min sLen dLen)
    (hu : P.underlying dT = some (.slice elem)) (hs : (P.info? elem).map (·.size) = some sz)
    (hg : w.heap[g]? = some (.cells cur t (0, 0))) (hn : cs.length = k * sz)
    (hsrc : ∀ j v, cs[j]? = some v → w.cell? (a.add j) = some v) (hfit : o + cs.length ≤ cur.size) (h1 : ∀ v ∈ cs, v.oneCell' = true) :
    (Builtin.copy_ #[dT, sT] ty #[.slice (some ⟨g, o, none⟩) dLen dCap, .slice (some a) sLen sCap]).run P w =
      .ok (goInt k) (w.setRow g (cur.toList.take o ++ cs ++ cur.toList.drop (o + cs.length)).toArray) := by
  have hl := run_loadCells_list (P := P) w a cs hsrc
  have hst := run_storeCells_at P g o t cs 0 cur w hg (by simpa using hfit) h1
  cases hq : P.info? elem with
  | none => simp [hq] at hs
  | some i =>
    have hi : i.size = sz := by simpa [hq] using hs
    rw [hn] at hl
    simp [Builtin.copy_, run_underlying hu, Builtin.lenOf, Builtin.firstCells, sizeOf, typeInfo, hq, hi, ← hk, hl, hst]
theorem grown_setRow (w : World) (g : Nat) (cs : Array Value) : w.grownBy (w.setRow g cs) (some g) :=
  ⟨rfl, rfl, rfl, by simp [World.setRow], fun k hk hne => setRow_other w g k cs (fun e => hne (by rw [e]))⟩
theorem wpList_copyN {P : Program} {w : World} {ops : Array Oper} {rest : List Oper} {o : Oper} {a : Act} {Q : Exit → Act → World → Prop} (hgd : o.guard = none) (d s : Operand) (dT sT : TypeId)
    (ho : o.op = .call { callee := .builtin .copy, args := #[d, s], argTypes := #[dT, sT] }) (elem : TypeId) (sz : Nat) (hu : P.underlying dT = some (.slice elem)) (hsz : (P.info? elem).map (·.size) = some sz)
    (g off dLen dCap : Nat) (ad : Addr) (sLen sCap : Nat) (hd : a.eval d = .slice (some ⟨g, off, none⟩) dLen dCap) (hs : a.eval s = .slice (some ad) sLen sCap) (k : Nat) (hk : k = Nat.min sLen dLen)
    (cur : List Value) (t : TypeId) (hg : w.heap[g]? = some (.cells cur.toArray t (0, 0))) (cs : List Value) (hn : cs.length = k * sz)
    (hsrc : ∀ j v, cs[j]? = some v → w.cell? (ad.add j) = some v) (hfit : off + cs.length ≤ cur.length) (h1 : ∀ v ∈ cs, v.oneCell' = true)
    (h : ∀ w', Hid (w'.heap[g]? = some (.cells (splice cur off cs).toArray t (0, 0))) → w.grownBy w' (some g) → wpList P ops Q rest (a.put o.dst (goInt k)) w') : wpList P ops Q (o :: rest) a w := by
  refine wpList_plain hgd fun K hK => ?_
  have hrun := run_copy_rowN (P := P) w dT sT o.type elem sz g off dLen dCap ad sLen sCap cur.toArray t cs k hk hu hsz hg hn hsrc (by simpa using hfit) h1
  have hh := h _ (show _ = _ by simpa [splice] using setRow_heap w g _ _ t _ hg) (grown_setRow w g _)
  unfold Oper.wp
  simp [execOp, ho, resolve, invoke, builtin, hd, hs, hrun, Result.andThen]
  exact hK _ _ (by simpa using hh)
theorem step_copyN {P : Program} {ops : Array Oper} {o : Oper} {a : Act} {w : World} {K : Act → World → Prop} {Q : Exit → Act → World → Prop} {E : Prop} (hgd : o.guard = none) (d s : Operand) (dT sT : TypeId)
    (ho : o.op = .call { callee := .builtin .copy, args := #[d, s], argTypes := #[dT, sT] }) (elem : TypeId) (sz : Nat) (hu : P.underlying dT = some (.slice elem)) (hsz : (P.info? elem).map (·.size) = some sz)
    (g off dLen dCap : Nat) (ad : Addr) (sLen sCap : Nat) (hd : a.eval d = .slice (some ⟨g, off, none⟩) dLen dCap) (hs : a.eval s = .slice (some ad) sLen sCap) (k : Nat) (hk : k = Nat.min sLen dLen)
    (cur : List Value) (t : TypeId) (hg : w.heap[g]? = some (.cells cur.toArray t (0, 0))) (cs : List Value) (hn : cs.length = k * sz)
    (hsrc : ∀ j v, cs[j]? = some v → w.cell? (ad.add j) = some v) (hfit : off + cs.length ≤ cur.length) (h1 : ∀ v ∈ cs, v.oneCell' = true)
    (h : ∀ w', Hid (w'.heap[g]? = some (.cells (splice cur off cs).toArray t (0, 0))) → w.grownBy w' (some g) → K (a.put o.dst (goInt k)) w') :
    if Region.wanted o (yielded ops a.tmps) = true then Oper.wp P o a w K Q else E := by
  have hw : Region.wanted o (yielded ops a.tmps) = true := by simp [Region.wanted, hgd]
  rw [if_pos hw]
  have hrun := run_copy_rowN (P := P) w dT sT o.type elem sz g off dLen dCap ad sLen sCap cur.toArray t cs k hk hu hsz hg hn hsrc (by simpa using hfit) h1
  have hh := h _ (show _ = _ by simpa [splice] using setRow_heap w g _ _ t _ hg) (grown_setRow w g _)
  unfold Oper.wp
  simp [execOp, ho, resolve, invoke, builtin, hd, hs, hrun, Result.andThen]
  exact (by simpa using hh : K (a.put o.dst (goInt k)) (w.setRow g (List.take off cur ++ (cs ++ List.drop (off + cs.length) cur)).toArray))
theorem zeroCells_length (z : Array Value) (n : Nat) : (Builtin.zeroCells z n).size = n * z.size := by simp [Builtin.zeroCells]
/-- 'clear(s)' over a row that is known whole: the row ahead stays. -/
theorem run_clear_rowN {P : Program} (w : World) (t e ty : TypeId) (z : Value) (ht : P.underlying t = some (.slice e)) (hv : ∀ w, (zeroValue e).run P w = .ok z w) (h1 : ∀ v ∈ z.cells, v.oneCell' = true) (g o n c : Nat) (hn : 0 < n) (cur : List Value) (te : TypeId)
    (hg : w.heap[g]? = some (.cells cur.toArray te (0, 0))) (hfit : o + n * z.cells.size ≤ cur.length) :
    ∃ cur' : List Value, (Builtin.clear_ #[t] ty #[.slice (some ⟨g, o, none⟩) n c]).run P w = .ok (.tuple #[]) (w.setRow g cur'.toArray) ∧ cur'.length = cur.length ∧ cur'.take o = cur.take o := by
  have hz1 : ∀ v ∈ (Builtin.zeroCells z.cells n).toList, v.oneCell' = true := by
    intro v hv'
    simp only [Builtin.zeroCells, Array.toList_map, List.mem_map, Array.mem_toList_iff, Array.mem_range] at hv'
    obtain ⟨i, hi, rfl⟩ := hv'
    have hp : 0 < z.cells.size := by
      rcases Nat.eq_zero_or_pos z.cells.size with h0 | h0
      · rw [h0] at hi; simp at hi
      · exact h0
    have hm : i % z.cells.size < z.cells.size := Nat.mod_lt _ hp
    rw [getElem!_pos z.cells _ hm]
    exact h1 _ (Array.getElem_mem hm)
  have hl : (Builtin.zeroCells z.cells n).toList.length = n * z.cells.size := by rw [Array.length_toList, zeroCells_length]
  have hst := run_storeCells_at P g o te (Builtin.zeroCells z.cells n).toList 0 cur.toArray w hg (by rw [hl]; simpa using hfit) hz1
  refine ⟨cur.take o ++ (Builtin.zeroCells z.cells n).toList ++ cur.drop (o + n * z.cells.size), ?_, ?_, ?_⟩
  · obtain ⟨m, rfl⟩ : ∃ m, n = m + 1 := ⟨n - 1, by omega⟩
    rw [hl] at hst
    simp only [Nat.add_zero, List.toList_toArray] at hst
    simp [Builtin.clear_, run_underlying ht, hv, hst]
  · simp only [List.length_append, List.length_take, List.length_drop, hl]
    omega
  · rw [List.append_assoc, List.take_append_of_le_length (by rw [List.length_take]; omega), List.take_take]
    congr 1
    omega
/-- A row into which cells were laid: the arithmetic of slices.Insert. -/
theorem splice_two {α : Type} (C F : List α) (a m n : Nat) (hF : F.length = m) (ha : a ≤ n) (hC : n + m ≤ C.length) :
    (splice (splice C (a + m) ((C.take n).drop a)) a F).take (n + m) = (C.take n).take a ++ F ++ (C.take n).drop a ∧ (splice (splice C (a + m) ((C.take n).drop a)) a F).length = C.length := by
  have h1 : ((C.take n).drop a).length = n - a := by rw [List.length_drop, List.length_take]; omega
  have l1 : (splice C (a + m) ((C.take n).drop a)).length = C.length := length_splice _ _ _ (by omega)
  refine ⟨?_, by rw [length_splice _ _ _ (by omega), l1]⟩
  unfold splice
  rw [h1, hF]
  have e1 : (List.take (a + m) C ++ (List.drop a (List.take n C) ++ List.drop (a + m + (n - a)) C)).take a = C.take a := by
    rw [List.take_append_of_le_length (by rw [List.length_take]; omega), List.take_take]; congr 1; omega
  have e2 : (List.take (a + m) C ++ (List.drop a (List.take n C) ++ List.drop (a + m + (n - a)) C)).drop (a + m) = List.drop a (List.take n C) ++ List.drop (a + m + (n - a)) C := by
    rw [List.drop_append_of_le_length (by rw [List.length_take]; omega), List.drop_eq_nil_of_le (by rw [List.length_take]; omega), List.nil_append]
  rw [e1, e2]
  have e3 : (C.take n).take a = C.take a := by rw [List.take_take]; congr 1; omega
  rw [e3, List.append_assoc]
  have e4 : (C.take a ++ (F ++ ((C.take n).drop a ++ C.drop (a + m + (n - a))))) = (C.take a ++ (F ++ (C.take n).drop a)) ++ C.drop (a + m + (n - a)) := by simp [List.append_assoc]
  rw [e4, List.take_append_of_le_length (by simp only [List.length_append, List.length_take, hF, h1]; omega), List.take_of_length_le (by simp only [List.length_append, List.length_take, hF, h1]; omega)]
theorem splice_two' {α : Type} (R X F : List α) (a m : Nat) (hF : F.length = m) (ha : a ≤ X.length) (hR : X.length + m ≤ R.length) (hRa : R.take a = X.take a) :
    (splice (splice R a F) (a + m) (X.drop a)).take (X.length + m) = X.take a ++ F ++ X.drop a ∧ (splice (splice R a F) (a + m) (X.drop a)).length = R.length := by
  have h1 : (X.drop a).length = X.length - a := List.length_drop
  have l1 : (splice R a F).length = R.length := length_splice _ _ _ (by omega)
  refine ⟨?_, by rw [length_splice _ _ _ (by omega), l1]⟩
  unfold splice
  rw [h1, hF]
  have e1 : (List.take a R ++ (F ++ List.drop (a + m) R)).take (a + m) = X.take a ++ F := by
    rw [← List.append_assoc, List.take_append_of_le_length (by simp only [List.length_append, List.length_take, hF]; omega), List.take_of_length_le (by simp only [List.length_append, List.length_take, hF]; omega), hRa]
  rw [e1]
  have hle : (X.take a ++ F ++ X.drop a).length = X.length + m := by simp only [List.length_append, List.length_take, hF, h1]; omega
  rw [← List.append_assoc, List.take_append_of_le_length (by omega), List.take_of_length_le (by omega)]
end Go.Proofs.Ytjgghiniajmfjaa

/- slices.Insert of one file into the files of a disk that the call itself made: at the end, into spare room, into a new row. Condition: no more than 1000 files, which the callers pay. -/
namespace Go.Proofs.Ytjgghiniajmfjaa
open Go.RowKit
set_option linter.unusedVariables false
set_option linter.unusedSimpArgs false
theorem grown_undrew {w w' : World} {r : Option Nat} (h : w.drew.grownBy w' r) : w.grownBy w' r := ⟨h.os, h.tape, h.output, h.size, h.block⟩
theorem grown_trans {w w' w'' : World} {r : Option Nat} (h : w.grownBy w' r) (k : w'.grownBy w'' r) : w.grownBy w'' r :=
  ⟨k.os.trans h.os, k.tape.trans h.tape, k.output.trans h.output, Nat.le_trans h.size k.size, fun b hb hn => (k.block b (Nat.lt_of_lt_of_le hb h.size) hn).trans (h.block b hb hn)⟩
def insL (xs : List FileR) (i : Nat) (f : FileR) : List FileR := xs.take i ++ [f] ++ xs.drop i
theorem file_takes (xs : List FileR) (i : Nat) : (xs.take i).flatMap FileR.cells = (xs.flatMap FileR.cells).take (i * 3) ∧ (xs.drop i).flatMap FileR.cells = (xs.flatMap FileR.cells).drop (i * 3) := by
  induction xs generalizing i with
  | nil => simp
  | cons x xs ih =>
    cases i with
    | zero => simp
    | succ i =>
      rw [List.flatMap_cons, List.take_succ_cons, List.drop_succ_cons, List.flatMap_cons, (ih i).1, (ih i).2]
      have hl : x.cells.length = 3 := rfl
      constructor
      · rw [List.take_append, List.take_of_length_le (l := x.cells) (by omega), hl]; congr 2; omega
      · rw [List.drop_append, show List.drop ((i + 1) * 3) x.cells = [] from List.drop_eq_nil_of_le (by omega), hl, List.nil_append]; congr 1; omega
theorem file_len (xs : List FileR) : (xs.flatMap FileR.cells).length = xs.length * 3 := by
  induction xs with
  | nil => rfl
  | cons x xs ih => rw [List.flatMap_cons, List.length_append, ih]; show 3 + _ = _; rw [List.length_cons]; omega
theorem insL_cells (xs : List FileR) (i : Nat) (f : FileR) : (insL xs i f).flatMap FileR.cells = (xs.flatMap FileR.cells).take (i * 3) ++ [.string f.f0, .string f.f1, .int .i64 f.f2] ++ (xs.flatMap FileR.cells).drop (i * 3) := by
  unfold insL
  rw [List.flatMap_append, List.flatMap_append, (file_takes xs i).1, (file_takes xs i).2]
  simp [FileR.cells]
theorem insL_length (xs : List FileR) (i : Nat) (f : FileR) (h : i ≤ xs.length) : (insL xs i f).length = xs.length + 1 := by
  unfold insL
  simp only [List.length_append, List.length_take, List.length_drop, List.length_singleton]
  omega
set_option maxHeartbeats 4000000 in
set_option maxRecDepth 100000 in
theorem insert_end (lo : Nat) (v : Value) (xs : List FileR) (f : FileR) (vb : Nat) (w : World) (ho : w.ownsRow lo 147 3 v xs.length (xs.flatMap FileR.cells)) (hn : xs.length ≤ 1000)
    (hb : Box w vb #[.string f.f0, .string f.f1, .int .i64 f.f2] 147) (hlo : lo ≤ w.heap.size) :
    Calls Try.prog 244 #[v, .int .i64 xs.length, .slice (some ⟨vb, 0, none⟩) 1 1] w fun e w' => ∃ ao cap, e = .returned (.slice ao (xs.length + 1) cap) ∧ w'.ownsRow lo 147 3 (.slice ao (xs.length + 1) cap) (xs.length + 1) (xs.flatMap FileR.cells ++ [.string f.f0, .string f.f1, .int .i64 f.f2]) ∧ w.grownBy w' v.ownBlock ∧ ((Value.slice ao (xs.length + 1) cap).ownBlock = v.ownBlock ∨ (Value.slice ao (xs.length + 1) cap).ownBlock = some w.heap.size) := by
  obtain ⟨i0, hi, hz0, hz1, hz2⟩ := info_parts info_File
  obtain ⟨ao, cap, rfl⟩ := owns_val ho
  have HO := Lib.hid ho
  have hnc : xs.length ≤ cap := by
    rcases ho.2 with ⟨h, h0⟩ | ⟨g, c, cur, h, _, _, h2, _⟩
    · omega
    · simp only [Value.slice.injEq] at h; omega
  have hcc : (ao = none → cap = 0) := by
    rcases ho.2 with ⟨h, h0⟩ | ⟨g, c, cur, h, _, _, h2, _⟩
    · simp only [Value.slice.injEq] at h; exact fun _ => h.2.2
    · simp only [Value.slice.injEq] at h; intro h3; rw [h3] at h; exact absurd h.1 (by simp)
  clear ho
  have hr : RdS w 3 (.slice (some ⟨vb, 0, none⟩) 1 1) 1 [.string f.f0, .string f.f1, .int .i64 f.f2] := ⟨rfl, some ⟨vb, 0, none⟩, 1, rfl, Nat.le_refl _, by decide, fun _ => ⟨vb, 0, rfl, hb.lt, fun j hj => by
    rw [Nat.zero_add, hb.cell]
    rcases (show j = 0 ∨ j = 1 ∨ j = 2 by omega) with rfl | rfl | rfl <;> rfl⟩⟩
  have HR := Lib.hid hr
  clear hr
  cases ao with
  | none =>
    obtain rfl := hcc rfl
    have hx0 : xs.length = 0 := by omega
    have hx : xs = [] := List.eq_nil_of_length_eq_zero hx0
    subst hx
    go_enter Try.func244, Try.ntmps244
    go_wp2_with (at_builtin; refine wpList_append_rd rfl _ _ 44 rfl lo 147 i0 (.agg #[.string ⟨#[]⟩, .string ⟨#[]⟩, .int .i64 0]) 3 40 Try.underlying44 hi hz0 hz1 hz2 rfl (by decide) _ 0 [] rfl HO.out _ 1 [.string f.f0, .string f.f1, .int .i64 f.f2] rfl HR.out (by simp [Value.oneCell']) (by unfold maxLen; omega) (by omega) hlo ?_; intro ao' cap' w2 hown hgrow hat)
    go_ret
    exact ⟨ao', cap', rfl, hown, hgrow, hat⟩
  | some ad =>
    obtain ⟨g, o, sp⟩ := ad
    go_enter Try.func244, Try.ntmps244
    go_wp2_with (at_builtin; refine wpList_append_rd rfl _ _ 44 rfl lo 147 i0 (.agg #[.string ⟨#[]⟩, .string ⟨#[]⟩, .int .i64 0]) 3 40 Try.underlying44 hi hz0 hz1 hz2 rfl (by decide) _ xs.length (xs.flatMap FileR.cells) rfl HO.out _ 1 [.string f.f0, .string f.f1, .int .i64 f.f2] rfl HR.out (by simp [Value.oneCell']) (by unfold maxLen; omega) (by omega) hlo ?_; intro ao' cap' w2 hown hgrow hat)
    all_goals
      go_ret
      exact ⟨ao', cap', rfl, hown, hgrow, hat⟩
set_option maxHeartbeats 4000000 in
set_option maxRecDepth 100000 in
theorem insert_room (lo g cap i : Nat) (xs : List FileR) (f : FileR) (vb : Nat) (w : World) (ho : w.ownsRow lo 147 3 (.slice (some ⟨g, 0, none⟩) xs.length cap) xs.length (xs.flatMap FileR.cells)) (hn : xs.length ≤ 1000) (hi : i < xs.length) (hc : xs.length + 1 ≤ cap)
    (hb : Box w vb #[.string f.f0, .string f.f1, .int .i64 f.f2] 147) (hne : vb ≠ g) :
    Calls Try.prog 244 #[.slice (some ⟨g, 0, none⟩) xs.length cap, .int .i64 i, .slice (some ⟨vb, 0, none⟩) 1 1] w fun e w' => e = .returned (.slice (some ⟨g, 0, none⟩) (xs.length + 1) cap) ∧ w'.ownsRow lo 147 3 (.slice (some ⟨g, 0, none⟩) (xs.length + 1) cap) (xs.length + 1) ((insL xs i f).flatMap FileR.cells) ∧ w.grownBy w' (some g) := by
  have hsz : (Try.prog.info? 147).map (·.size) = some 3 := by
    obtain ⟨i0, hi0, h0, h1, h2⟩ := info_parts info_File
    rw [hi0]; simp [h1]
  obtain ⟨hxl, ⟨h, _⟩ | ⟨g', cap', cur, h, hbase, hg, hnc, hcm, hcs, htake⟩⟩ := ho
  · simp at h
  simp only [Value.slice.injEq, Option.some.injEq, Addr.mk.injEq, and_true, true_and] at h
  obtain ⟨rfl, rfl⟩ := h
  obtain ⟨C, rfl⟩ : ∃ C : List Value, cur = C.toArray := ⟨cur.toList, by simp⟩
  simp only [List.toList_toArray, List.size_toArray] at hcs htake
  have hF : ([.string f.f0, .string f.f1, .int .i64 f.f2] : List Value).length = 3 := rfl
  obtain ⟨s1, s2⟩ := splice_two C [.string f.f0, .string f.f1, .int .i64 f.f2] (i * 3) 3 (xs.length * 3) hF (by omega) (by omega)
  rw [htake, ← insL_cells] at s1
  have hdl : ((C.take (xs.length * 3)).drop (i * 3)).length = (xs.length - i) * 3 := by rw [List.length_drop, List.length_take]; omega
  obtain ⟨D, hD⟩ : ∃ D, (C.take (xs.length * 3)).drop (i * 3) = D := ⟨_, rfl⟩
  rw [hD] at hdl s2
  rw [htake] at hD
  rw [hD] at s1
  have h1c : ∀ v ∈ D, v.oneCell' = true := by
    intro v hv
    rw [← hD] at hv
    exact file_oneCells xs v (List.mem_of_mem_drop hv)
  have hsrc : ∀ j v, D[j]? = some v → w.cell? ⟨g, i * 3 + j, none⟩ = some v := by
    intro j v hj
    rw [← hD, ← htake, List.getElem?_drop, List.getElem?_take] at hj
    split at hj
    · simp [World.cell?, hg, hj]
    · cases hj
  have hov : ∀ o la lc, (callFunc 268 #[.slice (some ⟨vb, 0, none⟩) 1 1, .slice (some ⟨g, o, none⟩) la lc]).run Try.prog w = .ok (.value (.bool false)) w := by
    intro o la lc
    rw [run_callFunc_extern Try.func268 (by kernel_rfl) (by kernel_rfl) (by kernel_rfl) (e := Extern.SlicesOverlaps.overlaps #[44, 44] #[4]) (by kernel_rfl),
      Lib.run_overlaps_apart w 44 4 147 Try.underlying44 3 (fun w => by
        obtain ⟨i0, hi0, h0, h1, h2⟩ := info_parts info_File
        simp [sizeOf, typeInfo, hi0, h1]) ⟨vb, 0, none⟩ ⟨g, o, none⟩ 1 1 la lc hne 147 147 3 (cap * 3) (by simp [World.shape?, show w.heap[vb]? = _ from hb]) (by simp [World.shape?, hg, hcs]) (by omega) (hb.frozen 0) (by simp [World.frozen?, show w.heap[vb]? = _ from hb])]
    rfl
  have hS1 := Lib.hid s1
  have hS2 := Lib.hid s2
  have hDL := Lib.hid hdl
  have hH1 := Lib.hid h1c
  have hSR := Lib.hid hsrc
  have hHG := Lib.hid hg
  have hcs' := hcs
  have hCS := Lib.hid hcs
  clear s1 s2 htake hxl hD hdl h1c hsrc hg hcs hcs'
  have hz2 : ¬ ((i : Int) = (xs.length : Int)) := by omega
  have hw1 : IntKind.i64.wrap ((i : Int) + 1) = (i : Int) + 1 := IntWalk.i64_in _ (by omega)
  have hw2 : IntKind.i64.wrap ((xs.length : Int) + 1) = (xs.length : Int) + 1 := IntWalk.i64_in _ (by omega)
  go_enter Try.func244, Try.ntmps244
  have hb1 : (0 : Int) ≤ (i : Int) + 1 := by omega
  have hb2 : ¬ (cap = i + 1) := by omega
  have hb3 : (i : Int) ≤ (xs.length : Int) + 1 := by omega
  have hb4 : ¬ (cap = i) := by omega
  have hin : i ≤ xs.length := by omega
  have htn : ((i : Int) + 1).toNat = i + 1 := by omega
  go_wp2_with (simp only [hov])
  go_region_law (refine step_copyN rfl _ _ 44 44 rfl 147 3 Try.underlying44 hsz g ((i + 1) * 3) (xs.length - i) (cap - (i + 1)) ⟨g, i * 3, none⟩ (xs.length + 1 - i) (cap - i) (by simp [Act.eval, Act.put]) (by simp [Act.eval, Act.put]) (xs.length - i) (by simp only [Nat.min_def]; split <;> omega) C 147 hHG.out D hDL.out (fun j v hj => by rw [Addr.add_lit]; exact hSR.out j v hj) (by have := hDL.out; have := hCS.out; omega) hH1.out ?_; intro w1 hg1 hgr1)
  go_wp2_with (refine wpList_copyN rfl _ _ 44 44 rfl 147 3 Try.underlying44 hsz g (i * 3) (xs.length + 1 - i) (cap - i) ⟨vb, 0, none⟩ 1 1 rfl rfl 1 (by simp only [Nat.min_def]; split <;> omega) (splice C ((i + 1) * 3) D) 147 hg1.out [.string f.f0, .string f.f1, .int .i64 f.f2] rfl (fun j v hj => by rw [Addr.add_lit, Nat.zero_add]; have hb1 : Box w1 vb _ _ := hb.drew.gr hgr1 (by simp; omega); rw [hb1.cell]; simpa using hj) (by rw [length_splice _ _ _ (by have := hDL.out; have := hCS.out; omega)]; have := hCS.out; show i * 3 + 3 ≤ _; omega) (by simp [Value.oneCell']) ?_; intro w2 hg2 hgr2)
  go_ret
  have hmul : (i + 1) * 3 = i * 3 + 3 := by omega
  rw [hmul] at hg2
  refine ⟨rfl, ⟨?_, .inr ⟨g, cap, _, rfl, hbase, hg2.out, by omega, hcm, ?_, ?_⟩⟩, grown_trans (grown_undrew hgr1) hgr2⟩
  · rw [file_len, insL_length _ _ _ (by omega)]
  · have := hS2.out; have := hCS.out; simp only [List.size_toArray]; omega
  · have := hS1.out
    simp only [List.toList_toArray]
    rw [show (xs.length + 1) * 3 = xs.length * 3 + 3 by omega]
    exact this
theorem grow_zeros (g cap i : Nat) (xs : List FileR) (w : World) (hn : xs.length ≤ 1000) (hi : i < xs.length) (hc : cap = xs.length)
    (hcl : ∀ j v, ((xs.flatMap FileR.cells).take (i * 3))[j]? = some v → w.cell? ⟨g, j, none⟩ = some v) :
    ∃ (w1 : World) (G : Nat) (R : List Value), (∀ ty, (Builtin.append_ #[44, 3] ty #[.slice (some ⟨g, 0, none⟩) i cap, .int .i64 ((xs.length : Int) + 1 - (i : Int))]).run Try.prog w = .ok (.slice (some ⟨w.heap.size, 0, none⟩) (xs.length + 1) G) w1) ∧
      w1.heap[w.heap.size]? = some (.cells R.toArray 147 (0, 0)) ∧ R.length = G * 3 ∧ R.take (i * 3) = (xs.flatMap FileR.cells).take (i * 3) ∧ xs.length + 1 ≤ G ∧ G ≤ maxLen ∧ Fr w w1 ∧ w1.heap.size = w.heap.size + 1 := by
  obtain ⟨i0, hi0, hz0, hz1, hz2⟩ := info_parts info_File
  subst hc
  have hxl := file_len xs
  have hik : i + (xs.length + 1 - i) = xs.length + 1 := by omega
  have hkk : (xs.length : Int) + 1 - (i : Int) = ((xs.length + 1 - i : Nat) : Int) := by omega
  have hold : (Builtin.firstCells i0.size i (.slice (some ⟨g, 0, none⟩) i xs.length)).run Try.prog w.drew = .ok ((xs.flatMap FileR.cells).take (i * 3)).toArray w.drew := by
    rw [hz1]
    exact run_firstCells_some w.drew 3 i ⟨g, 0, none⟩ i xs.length _ (by rw [List.length_take]; omega) (fun j v hj => by rw [Addr.add_lit, Nat.zero_add]; exact hcl j v hj)
  have hG1 := grownCap_ge w (xs.length + 1) xs.length 147
  have hG2 := grownCap_le_maxLen w (xs.length + 1) xs.length 147 (by unfold maxLen; omega)
  refine ⟨w.drew.alloc (.cells (((xs.flatMap FileR.cells).take (i * 3)).toArray ++ Builtin.zeroCells (Value.agg #[.string ⟨#[]⟩, .string ⟨#[]⟩, .int .i64 0]).cells (xs.length + 1 - i) ++ Builtin.zeroCells (Value.agg #[.string ⟨#[]⟩, .string ⟨#[]⟩, .int .i64 0]).cells (grownCap w (xs.length + 1) xs.length 147 - (xs.length + 1))) 147), grownCap w (xs.length + 1) xs.length 147, ((xs.flatMap FileR.cells).take (i * 3)) ++ (Builtin.zeroCells (Value.agg #[.string ⟨#[]⟩, .string ⟨#[]⟩, .int .i64 0]).cells (xs.length + 1 - i)).toList ++ (Builtin.zeroCells (Value.agg #[.string ⟨#[]⟩, .string ⟨#[]⟩, .int .i64 0]).cells (grownCap w (xs.length + 1) xs.length 147 - (xs.length + 1))).toList, fun ty => ?_, ?_, ?_, ?_, hG1, hG2, ?_, ?_⟩
  · have h := Lib.run_append_grow_zeros w 44 3 ty 147 i0 _ .i64 .i64 Try.underlying44 Try.underlying3 hi0 hz0 (some ⟨g, 0, none⟩) i xs.length _ hold (xs.length + 1 - i) (by omega) (by omega) (by omega) (by omega) (by rw [hz2]; omega) (by rw [hz2, hik]; exact growslice_fits (by omega) (by omega))
    rw [hik] at h
    rw [hkk]
    exact h
  · show (w.heap.push _)[w.heap.size]? = _
    simp
  · simp only [List.length_append, List.length_take, Array.length_toList, zeroCells_length, hxl]
    have : (Value.agg #[.string ⟨#[]⟩, .string ⟨#[]⟩, .int .i64 0]).cells.size = 3 := by rfl
    rw [this]
    omega
  · rw [List.append_assoc, List.take_append_of_le_length (by rw [List.length_take]; omega), List.take_take, Nat.min_self]
  · repeat (first | (with_reducible exact Fr.refl _) | (with_reducible assumption) | (with_reducible refine Fr.drewN ?_ _) | (with_reducible refine Fr.drew ?_) | (with_reducible refine Fr.alloc ?_ _) | (with_reducible refine Fr.setCell ?_ (by (first | (with_reducible assumption) | omega | (simp only [World.size_alloc, World.size_setCell, World.size_drew, World.heap_drewN]; omega) | (simp; done) | (simp; omega))) _) | (with_reducible refine Fr.trans ?_ (by with_reducible assumption)))
  · show (w.heap.push _).size = _
    simp
set_option maxHeartbeats 4000000 in
set_option maxRecDepth 100000 in
theorem insert_grow (lo g cap i : Nat) (xs : List FileR) (f : FileR) (vb : Nat) (w : World) (ho : w.ownsRow lo 147 3 (.slice (some ⟨g, 0, none⟩) xs.length cap) xs.length (xs.flatMap FileR.cells)) (hn : xs.length ≤ 1000) (hi : i < xs.length) (hc : ¬ xs.length + 1 ≤ cap)
    (hb : Box w vb #[.string f.f0, .string f.f1, .int .i64 f.f2] 147) (hne : vb ≠ g) :
    Calls Try.prog 244 #[.slice (some ⟨g, 0, none⟩) xs.length cap, .int .i64 i, .slice (some ⟨vb, 0, none⟩) 1 1] w fun e w' => ∃ G, e = .returned (.slice (some ⟨w.heap.size, 0, none⟩) (xs.length + 1) G) ∧ w'.ownsRow lo 147 3 (.slice (some ⟨w.heap.size, 0, none⟩) (xs.length + 1) G) (xs.length + 1) ((insL xs i f).flatMap FileR.cells) ∧ Fr w w' := by
  have hsz : (Try.prog.info? 147).map (·.size) = some 3 := by
    obtain ⟨i0, hi0, h0, h1, h2⟩ := info_parts info_File
    rw [hi0]; simp [h1]
  have hxl := file_len xs
  have hlo : lo ≤ g ∧ g < w.heap.size := ho.lt g rfl
  have hcap : cap = xs.length := by
    rcases ho.2 with ⟨h, _⟩ | ⟨g', c', cur, h, _, _, h2, _⟩
    · simp at h
    · simp only [Value.slice.injEq] at h; omega
  have hcells : ∀ j v, (xs.flatMap FileR.cells)[j]? = some v → w.cell? ⟨g, j, none⟩ = some v := by
    intro j v hj
    have hjl : j < xs.length * 3 := by
      have := (List.getElem?_eq_some_iff.1 hj).1
      omega
    rw [ho.cellAt j hjl, hj]
  subst hcap
  obtain ⟨w1, G, R, hr, hg, hRl, hRt, hG1, hG2, hf1, hz1⟩ := grow_zeros g xs.length i xs w hn hi rfl (fun j v hj => hcells j v (by rw [List.getElem?_take] at hj; split at hj; exact hj; cases hj))
  have hF : ([.string f.f0, .string f.f1, .int .i64 f.f2] : List Value).length = 3 := rfl
  obtain ⟨s1, s2⟩ := splice_two' R (xs.flatMap FileR.cells) [.string f.f0, .string f.f1, .int .i64 f.f2] (i * 3) 3 hF (by omega) (by omega) hRt
  rw [← insL_cells] at s1
  have hdl : ((xs.flatMap FileR.cells).drop (i * 3)).length = (xs.length - i) * 3 := by rw [List.length_drop, hxl]; omega
  have h1c : ∀ v ∈ (xs.flatMap FileR.cells).drop (i * 3), v.oneCell' = true := fun v hv => file_oneCells xs v (List.mem_of_mem_drop hv)
  have hsrc : ∀ (w' : World), Fr w w' ∨ True → ∀ j v, ((xs.flatMap FileR.cells).drop (i * 3))[j]? = some v → w.cell? ⟨g, i * 3 + j, none⟩ = some v := by
    intro w' _ j v hj
    rw [List.getElem?_drop] at hj
    exact hcells _ v hj
  have hsrc := hsrc w (.inr trivial)
  generalize (xs.flatMap FileR.cells).drop (i * 3) = D at *
  have hS1 := Lib.hid s1
  have hS2 := Lib.hid s2
  have hDL := Lib.hid hdl
  have hH1 := Lib.hid h1c
  have hSR := Lib.hid hsrc
  have hHG := Lib.hid hg
  have hRL := Lib.hid hRl
  have hHN := hlo.2
  have hLO := hlo.1
  clear s1 s2 hxl hdl h1c hsrc hg hRl hRt hcells ho hlo
  have hz2 : ¬ ((i : Int) = (xs.length : Int)) := by omega
  have hz3 : (xs.length : Int) < (xs.length : Int) + 1 := by omega
  clear hc
  have hw1 : IntKind.i64.wrap ((i : Int) + 1) = (i : Int) + 1 := IntWalk.i64_in _ (by omega)
  have hw2 : IntKind.i64.wrap ((xs.length : Int) + 1) = (xs.length : Int) + 1 := IntWalk.i64_in _ (by omega)
  have hw3 : IntKind.i64.wrap ((xs.length : Int) + 1 - (i : Int)) = (xs.length : Int) + 1 - (i : Int) := IntWalk.i64_in _ (by omega)
  have hb1 : (0 : Int) ≤ (i : Int) + 1 := by omega
  have hb3 : (i : Int) ≤ (xs.length : Int) + 1 := by omega
  have hb4 : ¬ (xs.length = i) := by omega
  have hb5 : ¬ (G = i) := by omega
  have hb6 : ¬ (G = i + 1) := by omega
  have hin : i ≤ xs.length := by omega
  have htn : ((i : Int) + 1).toNat = i + 1 := by omega
  have hG3 : G ≤ 9223372036854775807 := by unfold maxLen at hG2; exact hG2
  go_enter Try.func244, Try.ntmps244
  go_wp2_with (first | (at_builtin; refine Lib.wpList_append_run _ rfl _ _ _ _ rfl _ _ rfl rfl _ _ (hr _) ?_) | (refine wpList_copyN rfl _ _ 44 44 rfl 147 3 Try.underlying44 hsz w.heap.size (i * 3) (xs.length + 1 - i) (G - i) ⟨vb, 0, none⟩ 1 1 rfl rfl 1 (by simp only [Nat.min_def]; split <;> omega) R 147 hHG.out [.string f.f0, .string f.f1, .int .i64 f.f2] rfl (fun j v hj => by rw [Addr.add_lit, Nat.zero_add, (hb.fr hf1).cell]; simpa using hj) (by have := hRL.out; show i * 3 + 3 ≤ _; omega) (by simp [Value.oneCell']) ?_; intro w2 hg2 hgr2))
  have hz2 := hgr2.size
  have hgc : ∀ j, w2.cell? ⟨g, j, none⟩ = w.cell? ⟨g, j, none⟩ := by
    intro j
    unfold World.cell?
    rw [hgr2.block g (by omega) (by simp; omega), hf1.out.block g hHN]
  have HGC := Lib.hid hgc
  clear hgc
  go_region_law (refine step_copyN rfl _ _ 44 44 rfl 147 3 Try.underlying44 hsz w.heap.size ((i + 1) * 3) (xs.length - i) (G - (i + 1)) ⟨g, i * 3, none⟩ (xs.length - i) (xs.length - i) (by simp [Act.eval, Act.put]) (by simp [Act.eval, Act.put]) (xs.length - i) (by simp only [Nat.min_def]; split <;> omega) (splice R (i * 3) [.string f.f0, .string f.f1, .int .i64 f.f2]) 147 hg2.out D hDL.out (fun j v hj => by rw [Addr.add_lit]; show w2.cell? _ = _; rw [HGC.out]; exact hSR.out j v hj) (by rw [length_splice _ _ _ (by have := hRL.out; show i * 3 + 3 ≤ _; omega)]; have := hDL.out; have := hRL.out; omega) hH1.out ?_; intro w3 hg3 hgr3)
  go_wp2_with fail
  go_ret
  have hmul : (i + 1) * 3 = i * 3 + 3 := by omega
  rw [hmul] at hg3
  have hgr := grown_trans hgr2 (grown_undrew hgr3)
  refine ⟨G, rfl, ⟨?_, .inr ⟨w.heap.size, G, _, rfl, by omega, hg3.out, by omega, hG2, ?_, ?_⟩⟩, hf1.grown hgr (fun k hk => by simp at hk; omega)⟩
  · rw [file_len, insL_length _ _ _ (by omega)]
  · have := hS2.out; have := hRL.out; simp only [List.size_toArray]; omega
  · have := hS1.out
    simp only [List.toList_toArray]
    rw [show (xs.length + 1) * 3 = xs.length * 3 + 3 by omega]
    rw [file_len] at this
    exact this
end Go.Proofs.Ytjgghiniajmfjaa

/- slices.Delete of one file out of the files of a disk that the call itself made. Condition: no more than 1000 files, which the callers pay. -/
namespace Go.Proofs.Ytjgghiniajmfjaa
open Go.RowKit
set_option linter.unusedVariables false
set_option linter.unusedSimpArgs false
theorem setCells_row (g : Nat) (t : TypeId) : ∀ (cs : List Value) (o : Nat) (w : World) (cur : List Value), w.heap[g]? = some (.cells cur.toArray t (0, 0)) → o + cs.length ≤ cur.length →
    (w.setCells g o cs).heap[g]? = some (.cells (splice cur o cs).toArray t (0, 0)) ∧ w.grownBy (w.setCells g o cs) (some g)
  | [], o, w, cur, hg, h => by
    refine ⟨?_, ⟨rfl, rfl, rfl, Nat.le_refl _, fun _ _ _ => rfl⟩⟩
    show w.heap[g]? = _
    rw [hg]
    simp [splice]
  | v :: r, o, w, cur, hg, h => by
    have hl : (v :: r).length = r.length + 1 := rfl
    have hg1 : (w.setCell ⟨g, o, none⟩ v).heap[g]? = some (.cells (cur.set o v).toArray t (0, 0)) := by
      rw [heap_setCell_same w g o _ t v hg]; simp
    have h1 : w.grownBy (w.setCell ⟨g, o, none⟩ v) (some g) := ⟨rfl, rfl, rfl, by simp, fun k _ hk => heap_setCell_other w ⟨g, o, none⟩ k v (fun e => hk (by rw [e]))⟩
    obtain ⟨h2, h3⟩ := setCells_row g t r (o + 1) (w.setCell ⟨g, o, none⟩ v) (cur.set o v) hg1 (by rw [List.length_set]; omega)
    refine ⟨?_, grown_trans h1 h3⟩
    show ((w.setCell ⟨g, o, none⟩ v).setCells g (o + 1) r).heap[g]? = _
    rw [h2]
    congr 3
    have e := list_seg_step cur o v r (by omega)
    unfold splice
    simpa [List.append_assoc, Nat.add_assoc, Nat.add_comm 1] using e
theorem run_clear_rowM {P : Program} (w : World) (t e : TypeId) (z : Value) (ht : P.underlying t = some (.slice e)) (hv : ∀ w, (zeroValue e).run P w = .ok z w) (h1 : ∀ v ∈ z.cells, v.oneCell' = true) (g o n c : Nat) (hn : 0 < n) (cur : List Value) (te : TypeId)
    (hg : w.heap[g]? = some (.cells cur.toArray te (0, 0))) (hfit : o + n * z.cells.size ≤ cur.length) :
    ∃ (cur' : List Value) (w' : World), (∀ ty, (Builtin.clear_ #[t] ty #[.slice (some ⟨g, o, none⟩) n c]).run P w = .ok (.tuple #[]) w') ∧ w'.heap[g]? = some (.cells cur'.toArray te (0, 0)) ∧ w.grownBy w' (some g) ∧ cur'.length = cur.length ∧ cur'.take o = cur.take o := by
  obtain ⟨cur', h2, h3, h4⟩ := run_clear_rowN w t e t z ht hv h1 g o n c hn cur te hg hfit
  exact ⟨cur', w.setRow g cur'.toArray, fun ty => h2, setRow_heap w g _ _ te _ hg, grown_setRow _ _ _, h3, h4⟩
theorem del_take {α : Type} (C : List α) (a m n : Nat) (hn : a + m ≤ n) (hC : n ≤ C.length) : (splice C a ((C.take n).drop (a + m))).take (n - m) = (C.take n).take a ++ (C.take n).drop (a + m) ∧ (splice C a ((C.take n).drop (a + m))).length = C.length := by
  have hl : ((C.take n).drop (a + m)).length = n - (a + m) := by rw [List.length_drop, List.length_take]; omega
  refine ⟨?_, length_splice _ _ _ (by omega)⟩
  unfold splice
  have e : (C.take n).take a = C.take a := by rw [List.take_take]; congr 1; omega
  rw [e, ← List.append_assoc, List.take_append_of_le_length (by simp only [List.length_append, List.length_take, hl]; omega), List.take_of_length_le (by simp only [List.length_append, List.length_take, hl]; omega)]
theorem erase_cells (xs : List FileR) (i : Nat) : (xs.eraseIdx i).flatMap FileR.cells = (xs.flatMap FileR.cells).take (i * 3) ++ (xs.flatMap FileR.cells).drop (i * 3 + 3) := by
  rw [List.eraseIdx_eq_take_drop_succ, List.flatMap_append, (file_takes xs i).1, (file_takes xs (i + 1)).2]
  congr 2
  omega
theorem step_append_roomN {P : Program} {ops : Array Oper} {o : Oper} {a : Act} {w : World} {K : Act → World → Prop} {Q : Exit → Act → World → Prop} {E : Prop}
    (hg : o.guard = none) (s x : Operand) (t : TypeId) (hop : o.op = Op.call { callee := Callee.builtin Builtin.append, args := #[s, x], argTypes := #[t, t] })
    (e : TypeId) (i : TypeInfo) (size : Nat) (h1 : P.underlying t = some (.slice e)) (h2 : P.info? e = some i) (h4 : i.size = size)
    (b n cap : Nat) (hs : a.eval s = .slice (some ⟨b, 0, none⟩) n cap)
    (ad : Addr) (m c : Nat) (news : List Value) (hx : a.eval x = .slice (some ad) m c) (hn : news.length = m * size) (hc : ∀ j u, news[j]? = some u → w.cell? (ad.add j) = some u) (h1c : ∀ u ∈ news, u.oneCell' = true)
    (hroom : n + m ≤ cap) (hspare : ∀ j, j < news.length → (w.cell? ⟨b, n * size + j, none⟩).isSome = true ∧ w.frozen? ⟨b, n * size + j, none⟩ = false)
    (cur : List Value) (te : TypeId) (hcur : w.heap[b]? = some (.cells cur.toArray te (0, 0))) (hfit : n * size + news.length ≤ cur.length) (nm : Nat) (hnm : nm = n + m)
    (hK : ∀ w', Hid (w'.heap[b]? = some (.cells (splice cur (n * size) news).toArray te (0, 0))) → w.grownBy w' (some b) → K (a.put o.dst (.slice (some ⟨b, 0, none⟩) nm cap)) w') :
    if Region.wanted o (yielded ops a.tmps) = true then Oper.wp P o a w K Q else E := by
  subst hnm
  obtain ⟨h5, h6⟩ := setCells_row b te news (n * size) w cur hcur hfit
  refine step_append_room hg s x t hop e i size h1 h2 h4 b 0 n cap hs ad m c news hx hn hc h1c hroom (by simpa using hspare) ?_
  rw [Nat.zero_add]
  exact hK _ h5 h6
set_option maxHeartbeats 4000000 in
set_option maxRecDepth 100000 in
theorem delete_any (lo g cap i : Nat) (xs : List FileR) (w : World) (ho : w.ownsRow lo 147 3 (.slice (some ⟨g, 0, none⟩) xs.length cap) xs.length (xs.flatMap FileR.cells)) (hn : xs.length ≤ 1000) (hi : i < xs.length) :
    Calls Try.prog 215 #[.slice (some ⟨g, 0, none⟩) xs.length cap, .int .i64 i, .int .i64 ((i : Int) + 1)] w fun e w' => e = .returned (.slice (some ⟨g, 0, none⟩) (xs.length - 1) cap) ∧ w'.ownsRow lo 147 3 (.slice (some ⟨g, 0, none⟩) (xs.length - 1) cap) (xs.length - 1) ((xs.eraseIdx i).flatMap FileR.cells) ∧ w.grownBy w' (some g) := by
  obtain ⟨i0, hi0, hz0, hz1, hz2⟩ := info_parts info_File
  obtain ⟨hxl, ⟨h, _⟩ | ⟨g', cap', cur, h, hbase, hg, hnc, hcm, hcs, htake⟩⟩ := ho
  · simp at h
  simp only [Value.slice.injEq, Option.some.injEq, Addr.mk.injEq, and_true, true_and] at h
  obtain ⟨rfl, rfl⟩ := h
  obtain ⟨C, rfl⟩ : ∃ C : List Value, cur = C.toArray := ⟨cur.toList, by simp⟩
  simp only [List.toList_toArray, List.size_toArray] at hcs htake
  obtain ⟨s1, s2⟩ := del_take C (i * 3) 3 (xs.length * 3) (by omega) (by omega)
  rw [htake, ← erase_cells] at s1
  have hdl : ((C.take (xs.length * 3)).drop (i * 3 + 3)).length = (xs.length - (i + 1)) * 3 := by rw [List.length_drop, List.length_take]; omega
  obtain ⟨D, hD⟩ : ∃ D, (C.take (xs.length * 3)).drop (i * 3 + 3) = D := ⟨_, rfl⟩
  rw [hD] at hdl s2
  rw [htake] at hD
  rw [hD] at s1
  have h1c : ∀ v ∈ D, v.oneCell' = true := by
    intro v hv
    rw [← hD] at hv
    exact file_oneCells xs v (List.mem_of_mem_drop hv)
  have hsrc : ∀ j v, D[j]? = some v → w.cell? ⟨g, (i + 1) * 3 + j, none⟩ = some v := by
    intro j v hj
    rw [← hD, ← htake, List.getElem?_drop, List.getElem?_take] at hj
    split at hj
    · rw [show (i + 1) * 3 + j = i * 3 + 3 + j by omega]
      simp [World.cell?, hg, hj]
    · cases hj
  have hspare : ∀ j, j < D.length → (w.cell? ⟨g, i * 3 + j, none⟩).isSome = true ∧ w.frozen? ⟨g, i * 3 + j, none⟩ = false := by
    intro j hj
    have hjl : i * 3 + j < C.length := by omega
    refine ⟨?_, by simp [World.frozen?, hg]⟩
    simp [World.cell?, hg, hjl]
  have hS1 := Lib.hid s1
  have hS2 := Lib.hid s2
  have hDL := Lib.hid hdl
  have hH1 := Lib.hid h1c
  have hSR := Lib.hid hsrc
  have hSP := Lib.hid hspare
  have hHG := Lib.hid hg
  have hCS := Lib.hid hcs
  clear s1 s2 htake hxl hD hdl h1c hsrc hspare hg hcs
  have hw1 : ¬ ((i : Int) = (i : Int) + 1) := by omega
  have hb1 : (0 : Int) ≤ (i : Int) + 1 := by omega
  have hb2 : (i : Int) + 1 ≤ (xs.length : Int) := by omega
  have hb3 : (i : Int) ≤ (i : Int) + 1 := by omega
  have hin : i ≤ xs.length := by omega
  have htn : ((i : Int) + 1).toNat = i + 1 := by omega
  have hzv : ∀ w, (zeroValue 147).run Try.prog w = .ok (.agg #[.string ⟨#[]⟩, .string ⟨#[]⟩, .int .i64 0]) w := fun w => by simp [zeroValue, typeInfo, hi0, hz0]
  have hic : i ≤ cap := by omega
  have hic2 : (i : Int) ≤ (cap : Int) := by omega
  have hic3 : xs.length - 1 ≤ xs.length := by omega
  have hic4 : xs.length - 1 ≤ cap := by omega
  by_cases hlast : i + 1 = cap
  · have hxe : xs.length = i + 1 := by omega
    have HXE := Lib.hid hxe
    have hD0 : Hid (D = []) := List.eq_nil_of_length_eq_zero (by have := hDL.out; omega)
    have hb5 : ¬ (i + 1 = xs.length - 1) := by omega
    subst hlast
    clear hxe
    go_enter Try.func215, Try.ntmps215
    go_wp2_with fail
    go_region_law (refine step_append_roomN rfl _ _ 44 rfl 147 i0 3 Try.underlying44 hi0 hz1 g i (i + 1) (by simp [Act.eval, Act.put]) ⟨g, 0, none⟩ 0 0 D (by simp [Act.eval, Act.put]) (by rw [hD0.out]; rfl) (fun j v hj => by rw [hD0.out] at hj; simp at hj) hH1.out (by have := HXE.out; omega) hSP.out C 147 hHG.out (by have := hDL.out; have := hCS.out; omega) (xs.length - 1) (by have := HXE.out; omega) ?_; intro w1 hg1 hgr1)
    obtain ⟨C2, w2, hcl, hg2', hgr2, hl2, ht2⟩ := run_clear_rowM (P := Try.prog) w1 44 147 _ Try.underlying44 hzv (by simp [Value.cells, Value.oneCell']) g ((xs.length - 1) * 3) (xs.length - (xs.length - 1)) (i + 1 - (xs.length - 1)) (by omega) (splice C (i * 3) D) 147 hg1.out (by have := hS2.out; have := hCS.out; have h3 : (Value.agg #[.string ⟨#[]⟩, .string ⟨#[]⟩, .int .i64 0]).cells.size = 3 := rfl; rw [h3]; omega)
    have hg2 := Lib.hid hg2'
    clear hg2'
    go_wp2_with fail
    go_ret
    refine ⟨rfl, ⟨?_, .inr ⟨g, i + 1, _, rfl, hbase, hg2.out, by omega, hcm, ?_, ?_⟩⟩, grown_trans (grown_undrew hgr1) hgr2⟩
    · rw [file_len, List.length_eraseIdx, if_pos hi]
    · have := hS2.out; have := hCS.out; simp only [List.size_toArray]; omega
    · have h5 := hS1.out
      simp only [List.toList_toArray]
      rw [ht2, show (xs.length - 1) * 3 = xs.length * 3 - 3 by omega]
      exact h5
  · have hb4 : ¬ (cap = i + 1) := fun h => hlast h.symm
    have hb5 : ¬ (cap = xs.length - 1) := by omega
    have hb6 : ((xs.length - 1 : Nat) : Int) ≤ (xs.length : Int) := by omega
    clear hlast
    go_enter Try.func215, Try.ntmps215
    go_wp2_with fail
    go_region_law (refine step_append_roomN rfl _ _ 44 rfl 147 i0 3 Try.underlying44 hi0 hz1 g i cap (by simp [Act.eval, Act.put]) ⟨g, (i + 1) * 3, none⟩ (xs.length - (i + 1)) (cap - (i + 1)) D (by simp [Act.eval, Act.put]) hDL.out (fun j v hj => by rw [Addr.add_lit]; exact hSR.out j v hj) hH1.out (by omega) hSP.out C 147 hHG.out (by have := hDL.out; have := hCS.out; omega) (xs.length - 1) (by omega) ?_; intro w1 hg1 hgr1)
    obtain ⟨C2, w2, hcl, hg2', hgr2, hl2, ht2⟩ := run_clear_rowM (P := Try.prog) w1 44 147 _ Try.underlying44 hzv (by simp [Value.cells, Value.oneCell']) g ((xs.length - 1) * 3) (xs.length - (xs.length - 1)) (cap - (xs.length - 1)) (by omega) (splice C (i * 3) D) 147 hg1.out (by have := hS2.out; have := hCS.out; have h3 : (Value.agg #[.string ⟨#[]⟩, .string ⟨#[]⟩, .int .i64 0]).cells.size = 3 := rfl; rw [h3]; omega)
    have hg2 := Lib.hid hg2'
    clear hg2'
    go_wp2_with fail
    go_ret
    refine ⟨rfl, ⟨?_, .inr ⟨g, cap, _, rfl, hbase, hg2.out, by omega, hcm, ?_, ?_⟩⟩, grown_trans (grown_undrew hgr1) hgr2⟩
    · rw [file_len, List.length_eraseIdx, if_pos hi]
    · have := hS2.out; have := hCS.out; simp only [List.size_toArray]; omega
    · have h5 := hS1.out
      simp only [List.toList_toArray]
      rw [ht2, show (xs.length - 1) * 3 = xs.length * 3 - 3 by omega]
      exact h5
end Go.Proofs.Ytjgghiniajmfjaa
