/- A set of walks kept in a map: whether a walk is met for the first time. Condition: fewer than 2 to the 62nd meetings. -/
import Derived.Test.YtmdgdnkllclpcaaGreatTkp
import Derived.ChangeMaps5
import Derived.MapKept
import Derived.Laws.StructEq
import Derived.WideKeyEntry
namespace Go.Proofs.YtmdgdnkllclpcaaGreat
open Go.RowKit
set_option linter.unusedVariables false
set_option linter.unusedSimpArgs false
def wkv (x : WalkR) : Value := .agg #[.int .i64 x.f0, .int .i64 x.f1, .int .i64 x.f2, .int .i64 x.f3]
theorem run_eqWalk (w : World) (x y : WalkR) : (Op.equal 57 (wkv x) (wkv y)).run Tryz.prog w = .ok (eqW x y) w := by
  unfold wkv eqW
  simp [Op.equal, Op.maxDepth, go_sem]
  repeat' split
  all_goals simp [*]
theorem check_int (em : Bool) (n : Nat) (a : Int) (w : World) : (Instr.checkKey em (n + 1) 3 (.int .i64 a)).run Tryz.prog w = .ok () w := by
  unfold Instr.checkKey
  simp [go_sem, run_underlying Tryz.underlying3]
set_option maxRecDepth 4000 in
theorem run_checkWalk (em : Bool) (n : Nat) (w : World) (x : WalkR) : (Instr.checkKey em (n + 1 + 1) 57 (wkv x)).run Tryz.prog w = .ok () w := by
  unfold wkv
  unfold Instr.checkKey
  simp only [Sem.run_bind, run_underlying Tryz.underlying57, Result.andThen_ok]
  rw [← Array.forIn_toList]
  simp [go_sem, check_int]
theorem run_check (em : Bool) (w : World) (x : WalkR) : (Instr.checkKey em 10000 57 (wkv x)).run Tryz.prog w = .ok () w := run_checkWalk em 9998 w x
theorem same_walk (x : WalkR) : Instr.sameBits 10000 (wkv x) (wkv x) = true := by
  unfold wkv
  show Instr.sameBits (9998 + 1 + 1) _ _ = true
  simp [Instr.sameBits]
theorem run_stayWalk (w : World) (x : WalkR) : (Instr.keyThatStays (wkv x) (wkv x)).run Tryz.prog w = .ok (wkv x) w := by
  unfold Instr.keyThatStays
  rw [same_walk]
  rfl
def mkE (e : WalkR × Nat × Nat) : MapEntry := ⟨wkv e.1, .int .i64 e.2.1, e.2.2⟩
def mpO (L : List (WalkR × Nat × Nat)) (k : Nat) : Obj := .map (L.map mkE).toArray k
def fdE (x : WalkR) : List (WalkR × Nat × Nat) → Nat → Option (Nat × Value)
  | [], _ => none
  | e :: es, i => if eqW x e.1 = true then some (i, .int .i64 e.2.1) else fdE x es (i + 1)
theorem run_asking (x : WalkR) (w : World) : ∀ (L : List (WalkR × Nat × Nat)) (i : Nat), (Instr.findAsking 57 (wkv x) (L.map mkE) i).run Tryz.prog w = .ok (fdE x L i) w
  | [], i => by simp [Instr.findAsking, fdE]
  | e :: L, i => by
    rw [List.map_cons, Instr.findAsking]
    simp only [Sem.run_bind, mkE, run_eqWalk, Result.andThen_ok, fdE]
    cases h : eqW x e.1
    · simpa using run_asking x w L (i + 1)
    · simp
theorem run_find (x : WalkR) (w : World) (L : List (WalkR × Nat × Nat)) : (Instr.findKey 57 (wkv x) (L.map mkE)).run Tryz.prog w = .ok (fdE x L 0) w := by
  unfold Instr.findKey
  simp only [Sem.run_bind, run_underlying Tryz.underlying57, Result.andThen_ok]
  cases L with
  | nil => simp [Instr.findNow, fdE]
  | cons e L =>
    have h : ∀ fs, Instr.findNow (.struct fs) (wkv x) ((e :: L).map mkE) 0 = none := fun fs => by simp [Instr.findNow, Instr.sameNow]
    rw [h]
    exact run_asking x w (e :: L) 0
/-- The map's entries in order. -/
structure MapI (L : List (WalkR × Nat × Nat)) (k N : Nat) : Prop where
  keys : (L.map (·.1)).Nodup
  born : (L.map (·.2.2)).Nodup
  clk : ∀ e ∈ L, e.2.2 < k
  cnt : ∀ e ∈ L, 1 ≤ e.2.1 ∧ e.2.1 ≤ N
theorem fdE_no {x : WalkR} : ∀ {L : List (WalkR × Nat × Nat)} {i : Nat}, (∀ e ∈ L, ¬ e.1 = x) → fdE x L i = none
  | [], _, _ => rfl
  | e :: L, i, h => by
    rw [fdE, if_neg (fun q => h e (by simp) (eqW_iff.1 q).symm)]
    exact fdE_no fun y hy => h y (by simp [hy])
theorem fdE_yes {x : WalkR} {n st : Nat} : ∀ {L : List (WalkR × Nat × Nat)} {i j : Nat}, (L.map (·.1)).Nodup → L[j]? = some (x, n, st) → fdE x L i = some (i + j, .int .i64 n)
  | [], _, _, _, h => by simp at h
  | e :: L, i, 0, _, h => by
    simp only [List.getElem?_cons_zero, Option.some.injEq] at h
    subst h
    rw [fdE, if_pos (eqW_iff.2 rfl)]; rfl
  | e :: L, i, j + 1, hn, h => by
    simp only [List.getElem?_cons_succ] at h
    rw [List.map_cons, List.nodup_cons] at hn
    have hm : x ∈ L.map (·.1) := List.mem_map.2 ⟨_, List.mem_of_getElem? h, rfl⟩
    rw [fdE, if_neg (fun q => hn.1 (by rw [← eqW_iff.1 q]; exact hm)), fdE_yes hn.2 h, Nat.add_right_comm]
    simp [Nat.add_assoc]
def MapS (w : World) (b : Nat) (S : List WalkR) (N : Nat) : Prop := ∃ L k, w.heap[b]? = some (mpO L k) ∧ MapI L k N ∧ ∀ x, x ∈ S ↔ ∃ e ∈ L, e.1 = x
theorem MapS.new (w : World) : MapS (w.alloc (.map #[] 0)) w.heap.size [] 0 := ⟨[], 0, heap_alloc_new w _, ⟨by simp, by simp, by simp, by simp⟩, by simp⟩
theorem MapS.of {w w' : World} {b N : Nat} {S : List WalkR} (h : MapS w b S N) (hb : w'.heap[b]? = w.heap[b]?) : MapS w' b S N := by
  obtain ⟨L, k, h1, h2, h3⟩ := h
  exact ⟨L, k, hb.trans h1, h2, h3⟩
theorem MapS.lt {w : World} {b N : Nat} {S : List WalkR} (h : MapS w b S N) : b < w.heap.size := by
  obtain ⟨L, k, h1, _⟩ := h
  exact (Array.getElem?_eq_some_iff.1 h1).1
theorem MapS.fr {w w' : World} {b N : Nat} {S : List WalkR} (h : MapS w b S N) (hf : Fr w w') : MapS w' b S N := h.of (hf.out.block b h.lt)
theorem MapS.tch {B : Nat → Prop} {w w' : World} {b N : Nat} {S : List WalkR} (h : MapS w b S N) (hf : Tch B w w') (hb : ¬ B b) : MapS w' b S N := h.of (hf.block b h.lt hb)
theorem MapS.mono {w : World} {b N N' : Nat} {S : List WalkR} (h : MapS w b S N) (hn : N ≤ N') : MapS w b S N' := by
  obtain ⟨L, k, h1, h2, h3⟩ := h
  exact ⟨L, k, h1, ⟨h2.keys, h2.born, h2.clk, fun e he => by have := h2.cnt e he; omega⟩, h3⟩
theorem run_get {w : World} {b : Nat} {L : List (WalkR × Nat × Nat)} {k : Nat} (hb : w.heap[b]? = some (mpO L k)) : (getObj b).run Tryz.prog w = .ok (.map (L.map mkE).toArray k) w := MapKept.run_getObj_map hb
theorem run_set {w : World} {b : Nat} {L : List (WalkR × Nat × Nat)} {k : Nat} (hb : w.heap[b]? = some (mpO L k)) (o : Obj) : (setObj b o).run Tryz.prog w = .ok () (ChangeMaps.setBlock w b o) := MapKept.run_setObj_map o hb
theorem zero_int (w : World) : (zeroValue 3).run Tryz.prog w = .ok (.int .i64 0) w := by kernel_rfl
/-- What a find brings. -/
def fdV (f : Option (Nat × Value)) : Value := match f with | some (_, v) => v | none => .int .i64 0
theorem run_look {w : World} {b : Nat} {L : List (WalkR × Nat × Nat)} {k : Nat} (hb : w.heap[b]? = some (mpO L k)) (x : WalkR) : (Instr.lookup 133 (.map (some b)) (wkv x) false).run Tryz.prog w = .ok (fdV (fdE x L 0)) w := by
  unfold Instr.lookup
  simp only [Sem.run_bind, run_underlying Tryz.underlying133, Result.andThen_ok, run_get hb, Sem.run_pure, run_check, run_find]
  cases fdE x L 0 with
  | none => simp [zero_int, fdV]
  | some p => obtain ⟨i, v⟩ := p; simp [fdV]
theorem mk_push (L : List (WalkR × Nat × Nat)) (x : WalkR) (n k : Nat) : (L.map mkE).toArray.push ⟨wkv x, .int .i64 n, k⟩ = ((L ++ [(x, n, k)]).map mkE).toArray := by simp [mkE]
theorem tch_block {w : World} {b : Nat} {L : List (WalkR × Nat × Nat)} {k : Nat} (hb : w.heap[b]? = some (mpO L k)) (o : Obj) : Tch (fun i => i = b) w (ChangeMaps.setBlock w b o) :=
  ⟨rfl, rfl, rfl, by simp [ChangeMaps.setBlock], fun i _ hi => ChangeMaps.heap_setBlock_other (es := (L.map mkE).toArray) (clock := k) hb o hi⟩
theorem block_same {w : World} {b : Nat} {L : List (WalkR × Nat × Nat)} {k : Nat} (hb : w.heap[b]? = some (mpO L k)) (o : Obj) : (ChangeMaps.setBlock w b o).heap[b]? = some o := ChangeMaps.heap_setBlock_same (es := (L.map mkE).toArray) (clock := k) hb o
theorem run_entry_new {w : World} {b : Nat} {L : List (WalkR × Nat × Nat)} {k : Nat} (hb : w.heap[b]? = some (mpO L k)) (x : WalkR) (h : fdE x L 0 = none) : (Instr.mapEntry 133 (.map (some b)) (wkv x)).run Tryz.prog w = .ok (.tuple #[.int .i64 0, goInt k]) (ChangeMaps.setBlock w b (mpO (L ++ [(x, 0, k)]) (k + 1))) := by
  unfold Instr.mapEntry
  simp only [Sem.run_bind, run_underlying Tryz.underlying133, Result.andThen_ok, run_get hb, Sem.run_pure, run_check, run_find, h, zero_int, run_set hb]
  rw [show (Value.int .i64 0) = .int .i64 ((0 : Nat) : Int) from rfl, mk_push]
  rfl
theorem run_entry_old {w : World} {b : Nat} {L : List (WalkR × Nat × Nat)} {k : Nat} (hb : w.heap[b]? = some (mpO L k)) (x : WalkR) {j n st : Nat} (hj : L[j]? = some (x, n, st)) (h : fdE x L 0 = some (j, .int .i64 n)) : (Instr.mapEntry 133 (.map (some b)) (wkv x)).run Tryz.prog w = .ok (.tuple #[.int .i64 n, goInt st]) (ChangeMaps.setBlock w b (mpO L k)) := by
  have hk : (L.map mkE).toArray[j]? = some (mkE (x, n, st)) := by simp [hj]
  have hs : (L.map mkE).toArray.modify j (fun e => { e with key := wkv x }) = (L.map mkE).toArray := by
    apply Array.ext'
    rw [Array.toList_modify, ChangeMaps.modify_eq_set _ _ _ (mkE (x, n, st)) (by simp [hj])]
    exact WideElems.set_self _ _ _ (by simp [hj, mkE])
  unfold Instr.mapEntry
  simp only [Sem.run_bind, run_underlying Tryz.underlying133, Result.andThen_ok, run_get hb, Sem.run_pure, run_check, run_find, h, run_set hb, hk, Option.map_some, Option.getD_some]
  rw [show (mkE (x, n, st)).key = wkv x from rfl, run_stayWalk]
  simp only [Result.andThen_ok, run_set hb, hs]
  rfl
theorem run_store {w : World} {b : Nat} {L : List (WalkR × Nat × Nat)} {k : Nat} (hb : w.heap[b]? = some (mpO L k)) (x : WalkR) {j n st : Nat} (hj : L[j]? = some (x, n, st)) (hn : (L.map (·.2.2)).Nodup) (m : Nat) : (Instr.entryStore 133 (.map (some b)) (goInt st) (.int .i64 m)).run Tryz.prog w = .ok () (ChangeMaps.setBlock w b (mpO (L.set j (x, m, st)) k)) := by
  have hidx : (L.map mkE).toArray.findIdx? (fun e => ((e.born : Nat) : Int) == ((st : Nat) : Int)) = some j := by
    rw [WideElems.findIdx_arr]
    exact WideElems.findIdx_born (l := L.map mkE) (e0 := mkE (x, n, st)) (by rw [List.map_map]; exact hn) (by simp [hj])
  have hmod : (L.map mkE).toArray.modify j (fun e => { e with val := .int .i64 m }) = ((L.set j (x, m, st)).map mkE).toArray := by
    apply Array.ext'
    rw [Array.toList_modify, ChangeMaps.modify_eq_set _ _ _ (mkE (x, n, st)) (by simp [hj])]
    simp [List.map_set, mkE]
  unfold Instr.entryStore
  simp [run_get hb, asInt, asIntOf, goInt, hidx, hmod, run_set hb, Result.andThen, mpO]
theorem fst_set {L : List (WalkR × Nat × Nat)} {j n st m : Nat} {x : WalkR} (hj : L[j]? = some (x, n, st)) : (L.set j (x, m, st)).map (·.1) = L.map (·.1) ∧ (L.set j (x, m, st)).map (·.2.2) = L.map (·.2.2) := by
  rw [List.map_set, List.map_set]
  exact ⟨WideElems.set_self _ _ _ (by simp [hj]), WideElems.set_self _ _ _ (by simp [hj])⟩
theorem mem_fst {L : List (WalkR × Nat × Nat)} {y : WalkR} : (∃ e ∈ L, e.1 = y) ↔ y ∈ L.map (·.1) := by
  rw [List.mem_map]
theorem meet_runs {w : World} {b N : Nat} {S : List WalkR} (h : MapS w b S N) (x : WalkR) : ∃ (c st : Nat) (w1 w2 : World),
    (Instr.lookup 133 (.map (some b)) (wkv x) false).run Tryz.prog w = .ok (.int .i64 c) w ∧
    (Instr.mapEntry 133 (.map (some b)) (wkv x)).run Tryz.prog w = .ok (.tuple #[.int .i64 c, goInt st]) w1 ∧
    (Instr.lookup 133 (.map (some b)) (wkv x) false).run Tryz.prog w1 = .ok (.int .i64 c) w1 ∧
    (Instr.entryStore 133 (.map (some b)) (goInt st) (.int .i64 ((c : Int) + 1))).run Tryz.prog w1 = .ok () w2 ∧
    (Instr.lookup 133 (.map (some b)) (wkv x) false).run Tryz.prog w2 = .ok (.int .i64 ((c : Int) + 1)) w2 ∧
    Tch (fun i => i = b) w w1 ∧ Tch (fun i => i = b) w1 w2 ∧ c ≤ N ∧ (c = 0 ↔ ¬ x ∈ S) ∧ MapS w2 b (x :: S) (N + 1) := by
  obtain ⟨L, k, hb, hI, hS⟩ := h
  by_cases hx : ∃ e ∈ L, e.1 = x
  · obtain ⟨⟨x', n, st⟩, he, rfl⟩ := hx
    obtain ⟨j, hj', hj⟩ := List.getElem_of_mem he
    have hj : L[j]? = some (x', n, st) := by rw [List.getElem?_eq_getElem hj', hj]
    have hf := fdE_yes (i := 0) hI.keys hj
    rw [Nat.zero_add] at hf
    have hc := hI.cnt _ he
    simp only [] at hc ⊢
    have b1 := block_same hb (mpO L k)
    obtain ⟨q1, q2⟩ := fst_set (m := n + 1) hj
    have hj2 : (L.set j (x', n + 1, st))[j]? = some (x', n + 1, st) := by rw [List.getElem?_set_self hj']
    have hf2 := fdE_yes (i := 0) (by rw [q1]; exact hI.keys) hj2
    rw [Nat.zero_add] at hf2
    have b2 := block_same b1 (mpO (L.set j (x', n + 1, st)) k)
    refine ⟨n, st, _, _, ?_, run_entry_old hb x' hj hf, ?_, run_store b1 x' hj hI.born (n + 1), ?_, tch_block hb _, tch_block b1 _, hc.2, ?_, ⟨_, k, b2, ⟨by rw [q1]; exact hI.keys, by rw [q2]; exact hI.born, fun e he2 => ?_, fun e he2 => ?_⟩, fun y => ?_⟩⟩
    · rw [run_look hb, hf]; rfl
    · rw [run_look b1, hf]; rfl
    · rw [run_look b2, hf2]; rfl
    · constructor
      · intro h0; omega
      · intro hn; exact absurd ((hS x').2 ⟨_, he, rfl⟩) hn
    · rcases List.mem_or_eq_of_mem_set he2 with h2 | h2
      · exact hI.clk e h2
      · have h3 := hI.clk _ he; rw [h2]; exact h3
    · rcases List.mem_or_eq_of_mem_set he2 with h2 | h2
      · have := hI.cnt e h2; omega
      · rw [h2]; simp only []; omega
    · rw [mem_fst, q1, ← mem_fst, ← hS, List.mem_cons]
      constructor
      · rintro (rfl | h2)
        · exact (hS _).2 ⟨_, he, rfl⟩
        · exact h2
      · exact .inr
  · have hx' : ∀ e ∈ L, ¬ e.1 = x := fun e he h2 => hx ⟨e, he, h2⟩
    have hf := fdE_no (i := 0) hx'
    have b1 := block_same hb (mpO (L ++ [(x, 0, k)]) (k + 1))
    have hj : (L ++ [(x, 0, k)])[L.length]? = some (x, 0, k) := by simp
    have hset : (L ++ [(x, 0, k)]).set L.length (x, 1, k) = L ++ [(x, 1, k)] := by simp
    have hkeys : ∀ n : Nat, ((L ++ [(x, n, k)]).map (·.1)).Nodup := fun n => by
      rw [List.map_append, List.nodup_append]
      refine ⟨hI.keys, by simp, fun a ha c hc => ?_⟩
      simp only [List.map_cons, List.map_nil, List.mem_singleton] at hc
      rintro rfl
      obtain ⟨e, he, h2⟩ := List.mem_map.1 ha
      exact hx' e he (h2.trans hc)
    have hborn : ∀ n : Nat, ((L ++ [(x, n, k)]).map (·.2.2)).Nodup := fun n => by
      rw [List.map_append, List.nodup_append]
      refine ⟨hI.born, by simp, fun a ha c hc => ?_⟩
      simp only [List.map_cons, List.map_nil, List.mem_singleton] at hc
      rintro rfl
      obtain ⟨e, he, h2⟩ := List.mem_map.1 ha
      have := hI.clk e he
      omega
    have hf1 := fdE_yes (i := 0) (hkeys 0) hj
    have hj2 : (L ++ [(x, 1, k)])[L.length]? = some (x, 1, k) := by simp
    have hf2 := fdE_yes (i := 0) (hkeys 1) hj2
    have hst := run_store b1 x hj (hborn 0) 1
    have b2 := block_same b1 (mpO ((L ++ [(x, 0, k)]).set L.length (x, 1, k)) (k + 1))
    rw [hset] at b2
    rw [hset] at hst
    refine ⟨0, k, _, _, ?_, run_entry_new hb x hf, ?_, hst, ?_, tch_block hb _, tch_block b1 _, Nat.zero_le _, ?_, ⟨_, k + 1, b2, ⟨hkeys 1, hborn 1, fun e he => ?_, fun e he => ?_⟩, fun y => ?_⟩⟩
    · rw [run_look hb, hf]; rfl
    · rw [run_look b1, hf1]; rfl
    · rw [run_look b2, hf2]; rfl
    · simp only [true_iff]
      rw [hS]
      exact hx
    · rw [List.mem_append, List.mem_singleton] at he
      rcases he with he | rfl
      · have := hI.clk e he; omega
      · exact Nat.lt_succ_self _
    · rw [List.mem_append, List.mem_singleton] at he
      rcases he with he | rfl
      · have := hI.cnt e he; omega
      · simp only []; omega
    · rw [List.mem_cons, hS]
      constructor
      · rintro (rfl | ⟨e, he, h2⟩)
        · exact ⟨_, List.mem_append.2 (.inr (List.mem_singleton.2 rfl)), rfl⟩
        · exact ⟨e, List.mem_append.2 (.inl he), h2⟩
      · rintro ⟨e, he, h2⟩
        rw [List.mem_append, List.mem_singleton] at he
        rcases he with he | rfl
        · exact .inr ⟨e, he, h2⟩
        · exact .inl h2.symm
set_option maxHeartbeats 4000000 in
theorem meet_any (b : Nat) (S : List WalkR) (N : Nat) (x0 x1 x2 x3 : Int) (w : World) (h : MapS w b S N) (hN : N < 4611686018427387904) :
    Calls Tryz.prog 92 #[.map (some b), .agg #[.int .i64 x0, .int .i64 x1, .int .i64 x2, .int .i64 x3]] w fun e w' => e = .returned (.bool (!inW S ⟨x0, x1, x2, x3⟩)) ∧ MapS w' b (⟨x0, x1, x2, x3⟩ :: S) (N + 1) ∧ Tch (fun i => i = b) w w' := by
  have hbw := h.lt
  obtain ⟨c, st, w1, w2, r1, r2, r3, r4, r5, t1, t2, hcN, hc0, hM⟩ := meet_runs (w := (w.alloc (.cells #[.int .i64 x0, .int .i64 x1, .int .i64 x2, .int .i64 x3] 57)).drew) (h.fr (by exact Qf)) ⟨x0, x1, x2, x3⟩
  have B1 := Tch.box t1 (show Box (w.alloc (.cells #[.int .i64 x0, .int .i64 x1, .int .i64 x2, .int .i64 x3] 57)).drew w.heap.size #[.int .i64 x0, .int .i64 x1, .int .i64 x2, .int .i64 x3] 57 from (Box.new _ _ _).drew) (by omega)
  have B2 := Tch.box t2 B1 (by omega)
  have F1 := B1.facts
  have F2 := B2.facts
  have HM := Lib.hid hM; have HT1 := Lib.hid t1; have HT2 := Lib.hid t2; have HC0 := Lib.hid hc0
  unfold wkv at r1 r2 r3 r5
  simp only [goInt] at r2 r4
  clear hM t1 t2 hc0 h
  go_enter Tryz.func92, Tryz.ntmps92
  go_wp2_with fail
  go_region
  go_wp2_with fail
  go_ret
  refine ⟨ret_bool ?_, HM.out, ((Tch.of_fr (show Fr w (w.alloc (.cells #[.int .i64 x0, .int .i64 x1, .int .i64 x2, .int .i64 x3] 57)).drew by exact Qf)).trans HT1.out).trans HT2.out⟩
  cases hi : inW S ⟨x0, x1, x2, x3⟩
  · have := HC0.out.2 (inW_no hi)
    subst this
    rfl
  · have h0 : ¬ c = 0 := fun h => HC0.out.1 h (inW_iff.1 hi)
    have h1 : ¬ ((c : Int) + 1 = 1) := by omega
    simpa using h1
end Go.Proofs.YtmdgdnkllclpcaaGreat
