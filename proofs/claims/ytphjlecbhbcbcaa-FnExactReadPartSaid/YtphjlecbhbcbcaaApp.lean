/- append onto a slice of the call's own, the source any slice that reads (nil too): at a plain operation and at a step of a drawn region; owned rows between two bounds (..W). No condition. -/
import Derived.Test.YtphjlecbhbcbcaaRow
import Derived.Maps.AppendAt
import Derived.Lib.SliceRun
import Derived.Lib.Walk
namespace Go.Proofs.Ytphjlecbhbcbcaa
open Go.RowKit
set_option linter.unusedVariables false
set_option linter.unusedSimpArgs false

theorem run_append_none_any {P : Program} {w : World} (base : Nat) (t ty e : TypeId) (i : TypeInfo) (size : Nat) (ht : P.underlying t = some (.slice e)) (hi : P.info? e = some i)
    (v : Value) (n : Nat) (xs : List Value) (hown : w.ownsRow base e size v n xs) (c : Nat) :
    (Builtin.append_ #[t, t] ty #[v, .slice none 0 c]).run P w = .ok v w := by
  rcases hown.2 with ⟨rfl, rfl⟩ | ⟨g, cap, cur, rfl, _, _, hnc, _⟩
  · simp [Builtin.append_, run_underlying ht, sizeOf, typeInfo, hi, Builtin.lenOf, Builtin.firstCells]
  · simp [Builtin.append_, run_underlying ht, sizeOf, typeInfo, hi, Builtin.lenOf, Builtin.firstCells, hnc, storeCells]
theorem run_append_rd {P : Program} (w : World) (base : Nat) (t ty e : TypeId) (i : TypeInfo) (z : Value) (size bytes : Nat) (ht : P.underlying t = some (.slice e)) (hi : P.info? e = some i) (hz : i.zero = some z)
    (hsize : i.size = size) (hby : i.bytes = bytes) (hzs : z.cells.size = size) (hsz : 0 < size)
    (v : Value) (n : Nat) (xs : List Value) (hown : w.ownsRow base e size v n xs)
    (vx : Value) (m : Nat) (news : List Value) (hr : RdS w size vx m news) (h1 : ∀ u ∈ news, u.oneCell' = true)
    (h63 : n + m ≤ maxLen) (hbytes : (n + m) * bytes ≤ 140737488355328) (hbase : base ≤ w.heap.size) :
    ∃ ao cap w', (Builtin.append_ #[t, t] ty #[v, vx]).run P w = .ok (.slice ao (n + m) cap) w' ∧ w'.ownsRow base e size (.slice ao (n + m) cap) (n + m) (xs ++ news) ∧ w.grownBy w' v.ownBlock ∧
      ((Value.slice ao (n + m) cap).ownBlock = v.ownBlock ∨ (Value.slice ao (n + m) cap).ownBlock = some w.heap.size) := by
  obtain ⟨hl, ao, c, rfl, hc1, hc2, hc3⟩ := hr
  cases ao with
  | none =>
    have hm : m = 0 := by
      rcases Nat.eq_zero_or_pos m with h | h
      · exact h
      · obtain ⟨b, o, h, _⟩ := hc3 h; cases h
    subst hm
    have hn : news = [] := List.eq_nil_of_length_eq_zero (by simpa using hl)
    subst hn
    obtain ⟨ao', cap', rfl⟩ := owns_val hown
    have hr := run_append_none_any (P := P) base t ty e i size ht hi _ n xs hown c
    refine ⟨ao', cap', w, by simpa using hr, by simpa using hown, World.grownBy.refl _ _, Or.inl (by cases ao' <;> rfl)⟩
  | some ad =>
    have hnews : ∀ j u, news[j]? = some u → w.cell? (ad.add j) = some u := by
      intro j u hj
      have hlt := (List.getElem?_eq_some_iff.1 hj).1
      have hm : 0 < m := by
        rcases Nat.eq_zero_or_pos m with h | h
        · subst h; omega
        · exact h
      obtain ⟨b, o, h, hb, hcell⟩ := hc3 hm
      cases h
      rw [Addr.add_lit, hcell j (by omega)]
      exact hj
    obtain ⟨v', w', hrun, h2, h3, h4, h5⟩ := run_append_own_at (P := P) w base t ty e i z size bytes ht hi hz hsize hby hzs hsz v n xs hown ad m c news hl hnews h1 h63 hbytes hbase
    obtain ⟨ao', cap', rfl⟩ := owns_val h2
    exact ⟨ao', cap', w', hrun, h2, h3, h5⟩
theorem wp_append_rd {P : Program} {w : World} {o : Oper} {a : Act} {K : Act → World → Prop} {Q : Exit → Act → World → Prop} (s x : Operand) (t : TypeId)
    (ho : o.op = .call { callee := .builtin .append, args := #[s, x], argTypes := #[t, t] })
    (base : Nat) (e : TypeId) (i : TypeInfo) (z : Value) (size bytes : Nat) (ht : P.underlying t = some (.slice e)) (hi : P.info? e = some i) (hz : i.zero = some z)
    (hsize : i.size = size) (hby : i.bytes = bytes) (hzs : z.cells.size = size) (hsz : 0 < size)
    (v : Value) (n : Nat) (xs : List Value) (hs : a.eval s = v) (hown : w.ownsRow base e size v n xs)
    (vx : Value) (m : Nat) (news : List Value) (hx : a.eval x = vx) (hr : RdS w size vx m news) (h1 : ∀ u ∈ news, u.oneCell' = true)
    (h63 : n + m ≤ maxLen) (hbytes : (n + m) * bytes ≤ 140737488355328) (hbase : base ≤ w.heap.size)
    (h : ∀ ao cap w', w'.ownsRow base e size (.slice ao (n + m) cap) (n + m) (xs ++ news) → w.grownBy w' v.ownBlock → ((Value.slice ao (n + m) cap).ownBlock = v.ownBlock ∨ (Value.slice ao (n + m) cap).ownBlock = some w.heap.size) → K (a.put o.dst (.slice ao (n + m) cap)) w') : o.wp P a w K Q := by
  obtain ⟨ao, cap, w', hrun, h2, h3, h4⟩ := run_append_rd (P := P) w base t o.type e i z size bytes ht hi hz hsize hby hzs hsz v n xs hown vx m news hr h1 h63 hbytes hbase
  unfold Oper.wp execOp
  simp only [ho, resolve, invoke, builtin, Sem.run_bind, Sem.run_pure, Result.andThen_ok, List.map_toArray, List.map_cons, List.map_nil, hs, hx, hrun]
  exact h ao cap w' h2 h3 h4
theorem wpList_append_rd {P : Program} {w : World} {ops : Array Oper} {rest : List Oper} {o : Oper} {a : Act} {Q : Exit → Act → World → Prop} (hgd : o.guard = none) (s x : Operand) (t : TypeId)
    (ho : o.op = .call { callee := .builtin .append, args := #[s, x], argTypes := #[t, t] })
    (base : Nat) (e : TypeId) (i : TypeInfo) (z : Value) (size bytes : Nat) (ht : P.underlying t = some (.slice e)) (hi : P.info? e = some i) (hz : i.zero = some z)
    (hsize : i.size = size) (hby : i.bytes = bytes) (hzs : z.cells.size = size) (hsz : 0 < size)
    (v : Value) (n : Nat) (xs : List Value) (hs : a.eval s = v) (hown : w.ownsRow base e size v n xs)
    (vx : Value) (m : Nat) (news : List Value) (hx : a.eval x = vx) (hr : RdS w size vx m news) (h1 : ∀ u ∈ news, u.oneCell' = true)
    (h63 : n + m ≤ maxLen) (hbytes : (n + m) * bytes ≤ 140737488355328) (hbase : base ≤ w.heap.size)
    (h : ∀ ao cap w', w'.ownsRow base e size (.slice ao (n + m) cap) (n + m) (xs ++ news) → w.grownBy w' v.ownBlock → ((Value.slice ao (n + m) cap).ownBlock = v.ownBlock ∨ (Value.slice ao (n + m) cap).ownBlock = some w.heap.size) → wpList P ops Q rest (a.put o.dst (.slice ao (n + m) cap)) w') : wpList P ops Q (o :: rest) a w :=
  wpList_plain hgd fun _ hK => wp_append_rd s x t ho base e i z size bytes ht hi hz hsize hby hzs hsz v n xs hs hown vx m news hx hr h1 h63 hbytes hbase fun ao cap w' h2 h3 h4 => hK _ _ (h ao cap w' h2 h3 h4)
theorem step_append_rd {P : Program} {w : World} {ops : Array Oper} {o : Oper} {a : Act} {K : Act → World → Prop} {Q : Exit → Act → World → Prop} {E : Prop} (hgd : o.guard = none) (s x : Operand) (t : TypeId)
    (ho : o.op = .call { callee := .builtin .append, args := #[s, x], argTypes := #[t, t] })
    (base : Nat) (e : TypeId) (i : TypeInfo) (z : Value) (size bytes : Nat) (ht : P.underlying t = some (.slice e)) (hi : P.info? e = some i) (hz : i.zero = some z)
    (hsize : i.size = size) (hby : i.bytes = bytes) (hzs : z.cells.size = size) (hsz : 0 < size)
    (v : Value) (n : Nat) (xs : List Value) (hs : a.eval s = v) (hown : w.ownsRow base e size v n xs)
    (vx : Value) (m : Nat) (news : List Value) (hx : a.eval x = vx) (hr : RdS w size vx m news) (h1 : ∀ u ∈ news, u.oneCell' = true)
    (h63 : n + m ≤ maxLen) (hbytes : (n + m) * bytes ≤ 140737488355328) (hbase : base ≤ w.heap.size)
    (h : ∀ ao cap w', w'.ownsRow base e size (.slice ao (n + m) cap) (n + m) (xs ++ news) → w.grownBy w' v.ownBlock → ((Value.slice ao (n + m) cap).ownBlock = v.ownBlock ∨ (Value.slice ao (n + m) cap).ownBlock = some w.heap.size) → K (a.put o.dst (.slice ao (n + m) cap)) w') :
    if Region.wanted o (yielded ops a.tmps) = true then Oper.wp P o a w K Q else E := by
  have hw : Region.wanted o (yielded ops a.tmps) = true := by simp [Region.wanted, hgd]
  rw [if_pos hw]
  exact wp_append_rd s x t ho base e i z size bytes ht hi hz hsize hby hzs hsz v n xs hs hown vx m news hx hr h1 h63 hbytes hbase h

theorem RdS.val {w : World} {sz : Nat} {v : Value} {n : Nat} {xs : List Value} (h : RdS w sz v n xs) : ∃ ao cap, v = .slice ao n cap ∧ (ao = none → n = 0) := by
  obtain ⟨_, ao, cap, rfl, _, _, h4⟩ := h
  refine ⟨ao, cap, rfl, fun e => ?_⟩
  rcases Nat.eq_zero_or_pos n with h | h
  · exact h
  · obtain ⟨b, o, h, _⟩ := h4 h; rw [e] at h; cases h
/-- One element that was just laid in a block of its own, as a slice of one. -/
theorem RdS.new {w : World} {X : Array Value} {T : TypeId} {sz b : Nat} (hb : b = w.heap.size) (hX : X.size = sz) : RdS (w.alloc (.cells X T)) sz (.slice (some ⟨b, 0, none⟩) 1 1) 1 X.toList := by
  subst hb
  refine ⟨by simp [hX], some ⟨w.heap.size, 0, none⟩, 1, rfl, Nat.le_refl _, by unfold maxLen; omega, fun _ => ⟨w.heap.size, 0, rfl, by simp, fun j hj => ?_⟩⟩
  rw [Nat.zero_add, World.cell?_alloc_at _ _ _ _ rfl]
  simp
theorem RdS.drew {w : World} {sz n : Nat} {v : Value} {xs : List Value} (h : RdS w sz v n xs) : RdS w.drew sz v n xs := h.fr (Fr.refl w).drew
theorem oneCells_str (l : List ByteArray) : ∀ u ∈ l.map Value.string, u.oneCell' = true := fun u hu => by obtain ⟨x, _, rfl⟩ := List.mem_map.1 hu; rfl
theorem oneCells_int (k : IntKind) (l : List Int) : ∀ u ∈ l.map (Value.int k), u.oneCell' = true := fun u hu => by obtain ⟨x, _, rfl⟩ := List.mem_map.1 hu; rfl
theorem oneCells_bool (l : List Bool) : ∀ u ∈ l.map Value.bool, u.oneCell' = true := fun u hu => by obtain ⟨x, _, rfl⟩ := List.mem_map.1 hu; rfl
/-- Where the row lies behind an append. -/
theorem RowIn.at {lo hi hi' H : Nat} {v v' : Value} (h : RowIn lo hi v) (hat : v'.ownBlock = v.ownBlock ∨ v'.ownBlock = some H) (h1 : lo ≤ H) (h2 : H < hi') (h3 : hi ≤ hi') : RowIn lo hi' v' := by
  intro k hk
  rcases hat with e | e
  · rw [e] at hk; have := h k hk; omega
  · rw [e] at hk; cases hk; omega
theorem RowIn.nil (lo hi n c : Nat) : RowIn lo hi (.slice none n c) := fun _ h => by simp [Value.ownBlock] at h

theorem made_empty {w : World} {lo b sz : Nat} {e : TypeId} (hb : b = w.heap.size) (hl : lo ≤ b) : (w.alloc (.cells #[] e)).ownsRow lo e sz (.slice (some ⟨b, 0, none⟩) 0 0) 0 [] := by
  subst hb
  exact World.ownsRow_made w #[] 0 hl (Nat.zero_le _) (by simp)
/-- Behind an append to a row that lies above: nothing old has turned. -/
theorem Fr.app {a w w' : World} {v : Value} (h : Fr a w) (hg : w.grownBy w' v.ownBlock) {lo hi : Nat} (hr : RowIn lo hi v) (hl : a.heap.size ≤ lo) : Fr a w' := h.grown hg (fun k hk => by have := hr k hk; omega)
theorem RowIn.one {b lo hi n c : Nat} (h1 : lo ≤ b) (h2 : b < hi) : RowIn lo hi (.slice (some ⟨b, 0, none⟩) n c) := by
  intro k hk
  have : b = k := by simpa [Value.ownBlock] using hk
  omega
theorem owns_far {w : World} {b : Nat} {e : TypeId} {sz : Nat} {v : Value} {n : Nat} {xs : List Value} (h : w.ownsRow b e sz v n xs) {p : Addr} (hp : v.ownBlock ≠ some p.block) (u : Value) : (w.setCell p u).ownsRow b e sz v n xs := by
  obtain ⟨h1, h2 | ⟨g, cap, cur, hv, hg, hh, hr⟩⟩ := h
  · exact ⟨h1, .inl h2⟩
  · refine ⟨h1, .inr ⟨g, cap, cur, hv, hg, ?_, hr⟩⟩
    rw [heap_setCell_other w p g u (by rintro rfl; exact hp (by rw [hv]; rfl))]
    exact hh
/-- A row that lies in [lo, H) or in block H is in no block of [H', ..) but H. -/
theorem ne_block {lo hi H : Nat} {v v' : Value} (h : RowIn lo hi v) (hat : v'.ownBlock = v.ownBlock ∨ v'.ownBlock = some H) (p : Nat) (hp : hi ≤ p ∨ p < lo) (hq : p ≠ H) : v'.ownBlock ≠ some p := by
  intro e
  rcases hat with h1 | h1
  · rw [h1] at e; have := h p e; omega
  · rw [h1] at e; cases e; exact hq rfl
/-- 'Fr' under a name of its own, for what a drawn region holds throughout: the search for 'Fr' then does not meet it. -/
def Sf (a w : World) : Prop := Fr a w
theorem Sf.out {a w : World} (h : Sf a w) : Fr a w := h
theorem Sf.mk {a w : World} (h : Fr a w) : Sf a w := h
theorem Span.app {lo hi : Nat} {a w w' : World} {row : Option Nat} (h : Span lo hi a w) (hg : w.grownBy w' row) (hr : ∀ k, row = some k → (lo ≤ k ∧ k < hi) ∨ a.heap.size ≤ k) : Span lo hi a w' :=
  ⟨hg.os.trans h.os, hg.tape.trans h.tape, hg.output.trans h.output, Nat.le_trans h.size hg.size, fun k hk ho => (hg.block k (Nat.lt_of_lt_of_le hk h.size) (fun e => by have := hr k e.symm; omega)).trans (h.block k hk ho)⟩
/-- 'Span' under a name of its own, for what a drawn region holds throughout. -/
def Ss (lo hi : Nat) (a w : World) : Prop := Span lo hi a w
theorem Ss.out {lo hi : Nat} {a w : World} (h : Ss lo hi a w) : Span lo hi a w := h
theorem Ss.mk {lo hi : Nat} {a w : World} (h : Span lo hi a w) : Ss lo hi a w := h
/-- A slice of the call's own whose row lies in [lo, hi). -/
def OwW (w : World) (lo hi : Nat) (e : TypeId) (sz : Nat) (v : Value) (n : Nat) (xs : List Value) : Prop := w.ownsRow lo e sz v n xs ∧ RowIn lo hi v
section
variable {w w' : World} {lo hi n sz : Nat} {e : TypeId} {v : Value} {xs : List Value}
theorem OwW.fr (h : OwW w lo hi e sz v n xs) (hf : Fr w w') : OwW w' lo hi e sz v n xs := ⟨owns_fr h.1 hf, h.2⟩
theorem OwW.ab (h : OwW w lo hi e sz v n xs) (hf : Ab lo w w') : OwW w' lo hi e sz v n xs := ⟨owns_ab h.1 hf, h.2⟩
theorem OwW.span (h : OwW w lo hi e sz v n xs) {a b : Nat} (s : Span a b w w') (hd : hi ≤ a ∨ b ≤ lo) : OwW w' lo hi e sz v n xs :=
  ⟨s.owns h.1 (fun g hg => by have := h.2 g hg; omega), h.2⟩
theorem OwW.set (h : OwW w lo hi e sz v n xs) {p : Addr} (hp : p.block < lo ∨ hi ≤ p.block) (u : Value) : OwW (w.setCell p u) lo hi e sz v n xs :=
  ⟨owns_far h.1 (fun e => by have := h.2 _ e; omega) u, h.2⟩
theorem OwW.drew (h : OwW w lo hi e sz v n xs) : OwW w.drew lo hi e sz v n xs := ⟨World.ownsRow.drew h.1, h.2⟩
theorem OwW.drewN (h : OwW w lo hi e sz v n xs) (m : Nat) : OwW (w.drewN m) lo hi e sz v n xs := h.fr ((Fr.refl _).drewN m)
theorem OwW.alloc (h : OwW w lo hi e sz v n xs) (o : Obj) : OwW (w.alloc o) lo hi e sz v n xs := h.fr ((Fr.refl _).alloc o)
theorem OwW.rd (h : OwW w lo hi e sz v n xs) : RdS w sz v n xs := RdS.of_owns h.1
theorem OwW.val (h : OwW w lo hi e sz v n xs) : ∃ ao cap, v = .slice ao n cap := owns_val h.1
theorem OwW.mono (h : OwW w lo hi e sz v n xs) {lo' hi' : Nat} (h1 : lo' ≤ lo) (h2 : hi ≤ hi') : OwW w lo' hi' e sz v n xs := ⟨owns_lo h.1 h1, h.2.mono h1 h2⟩
theorem OwW.of_owns (h : w.ownsRow lo e sz v n xs) : OwW w lo w.heap.size e sz v n xs := ⟨h, RowIn.of_owns h⟩
end
theorem OwW.nil (w : World) (lo hi : Nat) (e : TypeId) (sz : Nat) : OwW w lo hi e sz (.slice none 0 0) 0 [] := ⟨World.ownsRow_nil _ _ _ _, RowIn.nil _ _ _ _⟩

/-! ### a row of structs that is written over, element by element -/
def partR {α : Type} (new old : List α) (f : α → List Value) (m : Nat) : List Value := (new.take m).flatMap f ++ (old.drop m).flatMap f
theorem partR_zero {α : Type} (new old : List α) (f : α → List Value) : partR new old f 0 = old.flatMap f := by simp [partR]
theorem partR_all {α : Type} (new old : List α) (f : α → List Value) (m : Nat) (h1 : new.length = m) (h2 : old.length = m) : partR new old f m = new.flatMap f := by
  unfold partR
  rw [List.take_of_length_le (by omega), List.drop_of_length_le (by omega)]
  simp
theorem partR_split {α : Type} [Inhabited α] (new old : List α) (f : α → List Value) (m : Nat) (hm : m < old.length) : partR new old f m = (new.take m).flatMap f ++ f (old.getD m default) ++ (old.drop (m + 1)).flatMap f := by
  unfold partR
  rw [List.drop_eq_getElem_cons hm, List.flatMap_cons, List.append_assoc]
  simp [List.getD, List.getElem?_eq_getElem hm]
theorem partR_next {α : Type} [Inhabited α] (new old : List α) (f : α → List Value) (m : Nat) (hm : m < new.length) : partR new old f (m + 1) = (new.take m).flatMap f ++ f (new.getD m default) ++ (old.drop (m + 1)).flatMap f := by
  unfold partR
  rw [List.take_succ_eq_append_getElem hm, List.flatMap_append]
  simp [List.getD, List.getElem?_eq_getElem hm]
end Go.Proofs.Ytphjlecbhbcbcaa
