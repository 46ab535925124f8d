/- Texts in one: Bld, Bld2. -/
import Derived.Test.YtjgghiniajmfjaaCmp
import Derived.Lib.Builder
import Derived.Lib.AppendStr
import Derived.Lib.UnsafeStr
import Derived.Laws.Externs
import Derived.RegionTactic
import Derived.BigRegion
/- strings.Builder, as the program uses it: WriteByte, WriteString, Write, String. Conditions: bounds on the sizes. -/
namespace Go.Proofs.Ytjgghiniajmfjaa
open Go.RowKit
set_option linter.unusedVariables false
set_option linter.unusedSimpArgs false
/-- Block b is a builder that holds the bytes l, in a row above b. -/
def Bld (w : World) (b : Nat) (l : List UInt8) : Prop := ∃ p v, (p = Value.pointer none ∨ p = Value.pointer (some ⟨b, 0, none⟩)) ∧ Box w b #[p, v] 184 ∧ OwW w (b + 1) w.heap.size 5 1 v l.length ((nums l).map (Value.int .u8))
theorem Bld.fr {w w' : World} {b : Nat} {l : List UInt8} (h : Bld w b l) (hf : Fr w w') : Bld w' b l := by
  obtain ⟨p, v, h1, h2, h3⟩ := h
  exact ⟨p, v, h1, h2.fr hf, OwW.mono (OwW.fr h3 hf) (Nat.le_refl _) hf.size⟩
theorem Bld.lt {w : World} {b : Nat} {l : List UInt8} (h : Bld w b l) : b < w.heap.size := by obtain ⟨p, v, h1, h2, h3⟩ := h; exact h2.lt
theorem Bld.new (w : World) : Bld (w.alloc (.cells #[.pointer none, .slice none 0 0] 184)) w.heap.size [] := ⟨_, _, .inl rfl, Box.new _ _ _, OwW.nil _ _ _ _ _⟩
theorem Bld.new' {w : World} {b : Nat} (hb : b = w.heap.size) : Bld (w.alloc (.cells #[.pointer none, .slice none 0 0] 184)) b [] := hb ▸ Bld.new w
theorem info_Builder : (Try.prog.info? 184).map (·.size) = some 2 := by kernel_rfl
theorem cells_nums (s : ByteArray) : Lib.strCells s = (nums s.data.toList).map (Value.int .u8) := by simp [Lib.strCells, nums]
set_option maxHeartbeats 1000000 in
set_option maxRecDepth 100000 in
theorem copyCheck_any (b : Nat) (p v : Value) (w : World) (hp : p = Value.pointer none ∨ p = Value.pointer (some ⟨b, 0, none⟩)) (hb : Box w b #[p, v] 184) :
    Calls Try.prog 197 #[.pointer (some ⟨b, 0, none⟩)] w fun e w' => e = .returned (.tuple #[]) ∧ Box w' b #[.pointer (some ⟨b, 0, none⟩), v] 184 ∧ Span b (b + 1) w w' := by
  obtain ⟨j, hj, hjs⟩ := Option.map_eq_some_iff.1 info_Builder
  have FB := hb.facts
  have hsh : w.shape? b = some (184, 2) := by simp [World.shape?, show w.heap[b]? = _ from hb]
  rcases hp with rfl | rfl
  · go_enter Try.func197, Try.ntmps197
    go_wp2
    rw [Lib.run_to_unsafe w ⟨b, 0, none⟩ Try.underlying182 Try.underlying283 hj (by rw [hjs]; decide) hsh (Nat.zero_lt_succ 1)]
    simp only [Result.andThen]
    rw [Oper.upon_value]
    go_wp2
    rw [run_callFunc_extern (P := Try.prog) (f := 237) (fn := Try.f237) (by kernel_rfl) (by kernel_rfl) (by kernel_rfl) (by kernel_rfl) (e := Extern.AbiNoEscape.same) (by kernel_rfl)]
    rw [Lib.run_noEscape]
    simp only [Result.andThen]
    rw [Oper.upon_value]
    go_wp2
    rw [Lib.run_from_unsafe w ⟨b, 0, none⟩ Try.underlying283 Try.underlying182 hj hsh (by kernel_rfl)]
    simp only [Result.andThen]
    rw [Oper.upon_value]
    go_wp2
    go_end0
    exact ⟨rfl, hb.set_to (by simp), Span.set1⟩
  · go_enter Try.func197, Try.ntmps197
    go_wp2
    rw [Lib.run_neq_ptr_same w _ Try.underlying182 hj]
    go_wp2
    go_end0
    exact ⟨rfl, hb, Span.refl _ _ _⟩
theorem nums_snoc (l : List UInt8) (c : UInt8) : nums (l ++ [c]) = nums l ++ [(c.toNat : Int)] := by simp [nums]
theorem Span.wide3 {lo hi a b : Nat} {w w' : World} (h : Span a b w w') (h1 : lo ≤ a) (h2 : b ≤ hi) : Span lo hi w w' := ⟨h.os, h.tape, h.output, h.size, fun k hk ho => h.block k hk (by omega)⟩
set_option maxHeartbeats 1000000 in
set_option maxRecDepth 100000 in
theorem bldByte_any (b : Nat) (l : List UInt8) (n : Int) (c : UInt8) (hn : n = (c.toNat : Int)) (w : World) (hb : Bld w b l) (hl : l.length ≤ 100000000) :
    Calls Try.prog 144 #[.pointer (some ⟨b, 0, none⟩), .int .u8 n] w fun e w' => e = .returned .nilIface ∧ Bld w' b (l ++ [c]) ∧ Span b w.heap.size w w' := by
  obtain ⟨i0, hi, hz0, hz1, hz2⟩ := info_parts info_byte
  obtain ⟨p, v, hp, BX, hr⟩ := hb
  have hblt := BX.lt
  have hbs : Hid (Value.int .u8 n = .int .u8 (c.toNat : Int)) := Lib.hid (by rw [hn])
  clear hn
  go_enter Try.func144, Try.ntmps144
  go_wp2_with fail
  refine (copyCheck_any b p v _ hp BX).mono ?_
  rintro e w1 ⟨rfl, B1, sp1⟩
  have z1 := sp1.size
  have F1 := B1.facts
  have HR := Lib.hid (OwW.span hr sp1 (.inr (Nat.le_refl _)))
  obtain ⟨ao, cap, rfl⟩ := hr.val
  clear hr
  go_wp2_with (at_builtin; (refine wpList_append_rd rfl _ _ 22 rfl (b + 1) 5 i0 (.int .u8 0) 1 1 Try.underlying22 hi hz0 hz1 hz2 rfl (by decide) (.slice ao l.length cap) l.length ((nums l).map (Value.int .u8)) rfl (World.ownsRow.alloc HR.out.1 _) _ 1 [.int .u8 n] rfl (RdS.new (by first | rfl | (simp; done)) rfl) (by simp [Value.oneCell']) (by unfold maxLen; omega) (by omega) (by (first | (with_reducible assumption) | omega | (simp only [World.size_alloc, World.size_setCell, World.size_drew, World.heap_drewN]; omega) | (simp; done) | (simp; omega))) ?_; intro ao2 cap2 w2 hown hgrow hat; have B2 := (B1.alloc (.cells #[.int .u8 n] 5)).row hgrow HR.out.2 (.inl (by omega)); have F2 := B2.facts))
  have s2 : Span (b + 1) w.heap.size (w1.alloc (.cells #[.int .u8 n] 5)) w2 := Span.of_gr hgrow (fun g hg => HR.out.2 g hg)
  have z2 := s2.size
  simp only [World.size_alloc] at z2
  have hrow : OwW w2 (b + 1) w2.heap.size 5 1 (.slice ao2 (l ++ [c]).length cap2) (l ++ [c]).length ((nums (l ++ [c])).map (Value.int .u8)) := by
    have := OwW.of_owns hown
    rw [hbs.out] at this
    rw [nums_snoc, List.map_append, List.length_append]
    exact this
  have hl2 : (l ++ [c]).length = l.length + 1 := by simp
  rw [hl2] at hrow
  go_ret
  refine ⟨rfl, ⟨_, _, .inr rfl, B2.set_to (by simp; rfl), ?_⟩, ?_⟩
  · rw [hl2, World.size_setCell]
    exact OwW.set hrow (.inl (by show b < b + 1; omega)) _
  · exact (((sp1.wide3 (Nat.le_refl _) (by omega)).trans (Span.of_fr ((Fr.refl _).alloc _))).trans ((s2.wide3 (by omega) (Nat.le_refl _)))).trans (Span.set1.wide3 (Nat.le_refl _) (by omega))
set_option maxHeartbeats 1000000 in
set_option maxRecDepth 100000 in
theorem bldString_any (b : Nat) (l : List UInt8) (s : ByteArray) (w : World) (hb : Bld w b l) (hl : l.length ≤ 100000000) (hs : s.size ≤ 100000000) :
    Calls Try.prog 145 #[.pointer (some ⟨b, 0, none⟩), .string s] w fun e w' => e = .returned (.tuple #[.int .i64 s.size, .nilIface]) ∧ Bld w' b (l ++ s.data.toList) ∧ Span b w.heap.size w w' := by
  obtain ⟨i0, hi, hz0, hz1, hz2⟩ := info_parts info_byte
  obtain ⟨p, v, hp, BX, hr⟩ := hb
  have hblt := BX.lt
  go_enter Try.func145, Try.ntmps145
  go_wp2_with fail
  refine (copyCheck_any b p v _ hp BX).mono ?_
  rintro e w1 ⟨rfl, B1, sp1⟩
  have z1 := sp1.size
  have F1 := B1.facts
  have HR := Lib.hid (OwW.span hr sp1 (.inr (Nat.le_refl _)))
  obtain ⟨ao, cap, rfl⟩ := hr.val
  clear hr
  go_wp2_with (at_builtin; (refine Lib.wpList_append_own_string _ rfl _ _ 22 9 rfl (b + 1) 5 i0 Try.underlying22 Try.underlying9 hi hz0 hz1 hz2 (.slice ao l.length cap) l.length ((nums l).map (Value.int .u8)) rfl HR.out.1 s rfl (by unfold maxLen; omega) (by omega) (by omega) ?_; intro v2 w2 hown hgrow _; have B2 := B1.row hgrow HR.out.2 (.inl (by omega)); have F2 := B2.facts; obtain ⟨ao2, cap2, rfl⟩ := owns_val hown))
  have s2 : Span (b + 1) w.heap.size w1 w2 := Span.of_gr hgrow (fun g hg => HR.out.2 g hg)
  have z2 := s2.size
  have hl2 : (l ++ s.data.toList).length = l.length + s.size := by simp
  have hrow : OwW w2 (b + 1) w2.heap.size 5 1 (.slice ao2 (l.length + s.size) cap2) (l ++ s.data.toList).length ((nums (l ++ s.data.toList)).map (Value.int .u8)) := by
    have := OwW.of_owns hown
    rw [hl2, nums_append, List.map_append, ← cells_nums]
    exact this
  go_ret2
  refine ⟨rfl, ⟨_, _, .inr rfl, B2.set_to (by simp; rfl), ?_⟩, ?_⟩
  · rw [World.size_setCell]
    exact OwW.set hrow (.inl (by show b < b + 1; omega)) _
  · exact ((sp1.wide3 (Nat.le_refl _) (by omega)).trans ((s2.wide3 (by omega) (Nat.le_refl _)))).trans (Span.set1.wide3 (Nat.le_refl _) (by omega))
set_option maxHeartbeats 1000000 in
set_option maxRecDepth 100000 in
theorem bldWrite_any (b q : Nat) (l m : List UInt8) (c : Nat) (T : TypeId) (w : World) (hb : Bld w b l) (hl : l.length ≤ 100000000) (hm : m.length ≤ 1000) (hq : Box w q ((nums m).map (Value.int .u8)).toArray T) (hbq : b < q) (hc : m.length ≤ c) (hc2 : c ≤ maxLen) :
    Calls Try.prog 146 #[.pointer (some ⟨b, 0, none⟩), .slice (some ⟨q, 0, none⟩) m.length c] w fun e w' => e = .returned (.tuple #[.int .i64 m.length, .nilIface]) ∧ Bld w' b (l ++ m) ∧ Span b w.heap.size w w' := by
  obtain ⟨i0, hi, hz0, hz1, hz2⟩ := info_parts info_byte
  obtain ⟨p, v, hp, BX, hr⟩ := hb
  have hblt := BX.lt
  go_enter Try.func146, Try.ntmps146
  go_wp2_with fail
  refine (copyCheck_any b p v _ hp BX).mono ?_
  rintro e w1 ⟨rfl, B1, sp1⟩
  have z1 := sp1.size
  have F1 := B1.facts
  have HR := Lib.hid (OwW.span hr sp1 (.inr (Nat.le_refl _)))
  have Q1 := hq.span sp1 (.inr (by omega))
  have hqs := Q1.lt
  have hrd : RdS w1 1 (.slice (some ⟨q, 0, none⟩) m.length c) m.length ((nums m).map (Value.int .u8)) := by
    refine ⟨by simp [nums], _, _, rfl, hc, hc2, fun hn => ⟨q, 0, rfl, hqs, fun j hj => ?_⟩⟩
    rw [Nat.zero_add, Q1.cell]
    simp
  obtain ⟨ao, cap, rfl⟩ := hr.val
  clear hr
  go_wp2_with (at_builtin; (refine wpList_append_rd rfl _ _ 22 rfl (b + 1) 5 i0 (.int .u8 0) 1 1 Try.underlying22 hi hz0 hz1 hz2 rfl (by decide) (.slice ao l.length cap) l.length ((nums l).map (Value.int .u8)) rfl HR.out.1 _ m.length ((nums m).map (Value.int .u8)) rfl hrd (oneCells_int _ _) (by unfold maxLen; omega) (by omega) (by omega) ?_; intro ao2 cap2 w2 hown hgrow hat; have B2 := B1.row hgrow HR.out.2 (.inl (by omega)); have F2 := B2.facts))
  have s2 : Span (b + 1) w.heap.size w1 w2 := Span.of_gr hgrow (fun g hg => HR.out.2 g hg)
  have z2 := s2.size
  have hl2 : (l ++ m).length = l.length + m.length := by simp
  have hrow : OwW w2 (b + 1) w2.heap.size 5 1 (.slice ao2 (l.length + m.length) cap2) (l ++ m).length ((nums (l ++ m)).map (Value.int .u8)) := by
    have := OwW.of_owns hown
    rw [hl2, nums_append, List.map_append]
    exact this
  go_ret2
  refine ⟨rfl, ⟨_, _, .inr rfl, B2.set_to (by simp; rfl), ?_⟩, ?_⟩
  · rw [World.size_setCell]
    exact OwW.set hrow (.inl (by show b < b + 1; omega)) _
  · exact ((sp1.wide3 (Nat.le_refl _) (by omega)).trans ((s2.wide3 (by omega) (Nat.le_refl _)))).trans (Span.set1.wide3 (Nat.le_refl _) (by omega))
theorem cellsByte : Try.prog.cellsOf 5 = 1 := by kernel_rfl
set_option maxHeartbeats 1000000 in
set_option maxRecDepth 100000 in
theorem bldText_any (b : Nat) (l : List UInt8) (w : World) (hb : Bld w b l) (h0 : l ≠ []) :
    Calls Try.prog 147 #[.pointer (some ⟨b, 0, none⟩)] w fun e w' => e = .returned (.string ⟨l.toArray⟩) ∧ ∀ W : World, W.heap.size ≤ b → Fr W w → Fr W w' := by
  obtain ⟨p, v, hp, BX, hr⟩ := hb
  have hl0 : l.length ≠ 0 := by simpa using h0
  rcases hr.1.2 with ⟨_, hz⟩ | ⟨g, cap, cur, rfl, hbg, hg, hnc, hcm, hcs, htake⟩
  · exact absurd hz hl0
  have c1 : w.drew.cell? ⟨b, 1, none⟩ = some (.slice (some ⟨g, 0, none⟩) l.length cap) := BX.drew.cell 1
  have hSD : (Builtin.unsafeSliceData_ #[22] 242 #[.slice (some ⟨g, 0, none⟩) l.length cap]).run Try.prog w.drew = .ok (.pointer (some ⟨g, 0, none⟩)) w.drew :=
    Lib.run_unsafeSliceData_row _ _ _ _ _ _ (by omega)
  have hUS : (Builtin.unsafeString_ #[242, 3] 9 #[.pointer (some ⟨g, 0, none⟩), .int .i64 l.length]).run Try.prog w.drew = .ok (.string ⟨l.toArray⟩) (w.drew.freeze ⟨g, 0, none⟩ l.length) := by
    refine Lib.run_unsafeString_row w.drew 242 3 9 5 Try.underlying242 cellsByte g cur.size (by have hg' : w.drew.heap[g]? = some (.cells cur 5 (0, 0)) := hg; simp [World.shape?, hg']) l h0 (by omega) (by unfold maxLen at hcm; omega) ?_
    intro j x hx
    have hj : j < l.length := (List.getElem?_eq_some_iff.1 hx).1
    have := hr.1.cellAt j (by omega)
    rw [Addr.add_lit, Nat.zero_add]
    show w.cell? ⟨g, j, none⟩ = _
    rw [this]
    simp [nums, hx]
  have HU := Lib.hid hr
  clear hr htake
  go_enter Try.func147, Try.ntmps147
  go_wp2
  go_region
  all_goals (go_wp2; go_ret; exact ⟨rfl, fun W hW hf => Lib.below_freeze (Below.drew hf.out) (p := ⟨g, 0, none⟩) (by show _ ≤ g; omega) _⟩)
end Go.Proofs.Ytjgghiniajmfjaa

/- strings.Builder: WriteByte and WriteString leave every box alone that holds no bytes. -/
namespace Go.Proofs.Ytjgghiniajmfjaa
open Go.RowKit
set_option linter.unusedVariables false
set_option linter.unusedSimpArgs false
/-- Every box but b whose cells are no bytes stays. -/
def BK (b : Nat) (w w' : World) : Prop := ∀ q X T, q ≠ b → T ≠ 5 → Box w q X T → Box w' q X T
theorem BK.trans {b : Nat} {w w1 w2 : World} (h : BK b w w1) (g : BK b w1 w2) : BK b w w2 := fun q X T h1 h2 hq => g q X T h1 h2 (h q X T h1 h2 hq)
theorem BK.one {b : Nat} {w w' : World} (h : Span b (b + 1) w w') : BK b w w' := fun q X T h1 _ hq => hq.span h (by omega)
theorem BK.fr {b : Nat} {w w' : World} (h : Fr w w') : BK b w w' := fun q X T _ _ hq => hq.fr h
theorem BK.gr {b base n sz : Nat} {v : Value} {xs : List Value} {w w' : World} (h : w.grownBy w' v.ownBlock) (ho : w.ownsRow base 5 sz v n xs) : BK b w w' := fun q X T _ h2 hq => by
  obtain ⟨_, ⟨rfl, _⟩ | ⟨g, cap, cur, rfl, _, hg, _⟩⟩ := ho
  · exact hq.span (Span.of_gr (lo := 0) (hi := 0) h (fun k hk => by cases hk)) (.inr (Nat.zero_le _))
  · have hne : q ≠ g := by
      rintro rfl
      have h3 : some (Obj.cells X T (0, 0)) = some (.cells cur 5 (0, 0)) := (show w.heap[q]? = _ from hq).symm.trans hg
      injection h3 with h3
      injection h3 with _ h4
      exact h2 h4
    exact hq.span (Span.of_gr (lo := g) (hi := g + 1) h (fun k hk => by have hk : g = k := Option.some.inj hk; omega)) (by omega)
set_option maxHeartbeats 1000000 in
set_option maxRecDepth 100000 in
theorem bldByteK_any (b : Nat) (l : List UInt8) (n : Int) (c : UInt8) (hn : n = (c.toNat : Int)) (w : World) (hb : Bld w b l) (hl : l.length ≤ 100000000) :
    Calls Try.prog 144 #[.pointer (some ⟨b, 0, none⟩), .int .u8 n] w fun e w' => e = .returned .nilIface ∧ Bld w' b (l ++ [c]) ∧ Span b w.heap.size w w' ∧ BK b w w' := by
  obtain ⟨i0, hi, hz0, hz1, hz2⟩ := info_parts info_byte
  obtain ⟨p, v, hp, BX, hr⟩ := hb
  have hblt := BX.lt
  have hbs : Hid (Value.int .u8 n = .int .u8 (c.toNat : Int)) := Lib.hid (by rw [hn])
  clear hn
  go_enter Try.func144, Try.ntmps144
  go_wp2_with fail
  refine (copyCheck_any b p v _ hp BX).mono ?_
  rintro e w1 ⟨rfl, B1, sp1⟩
  have z1 := sp1.size
  have F1 := B1.facts
  have HR := Lib.hid (OwW.span hr sp1 (.inr (Nat.le_refl _)))
  obtain ⟨ao, cap, rfl⟩ := hr.val
  clear hr
  go_wp2_with (at_builtin; (refine wpList_append_rd rfl _ _ 22 rfl (b + 1) 5 i0 (.int .u8 0) 1 1 Try.underlying22 hi hz0 hz1 hz2 rfl (by decide) (.slice ao l.length cap) l.length ((nums l).map (Value.int .u8)) rfl (World.ownsRow.alloc HR.out.1 _) _ 1 [.int .u8 n] rfl (RdS.new (by first | rfl | (simp; done)) rfl) (by simp [Value.oneCell']) (by unfold maxLen; omega) (by omega) (by (first | (with_reducible assumption) | omega | (simp only [World.size_alloc, World.size_setCell, World.size_drew, World.heap_drewN]; omega) | (simp; done) | (simp; omega))) ?_; intro ao2 cap2 w2 hown hgrow hat; have B2 := (B1.alloc (.cells #[.int .u8 n] 5)).row hgrow HR.out.2 (.inl (by omega)); have F2 := B2.facts))
  have k2 : BK b (w1.alloc (.cells #[.int .u8 n] 5)) w2 := BK.gr hgrow (World.ownsRow.alloc HR.out.1 _)
  have s2 : Span (b + 1) w.heap.size (w1.alloc (.cells #[.int .u8 n] 5)) w2 := Span.of_gr hgrow (fun g hg => HR.out.2 g hg)
  have z2 := s2.size
  simp only [World.size_alloc] at z2
  have hrow : OwW w2 (b + 1) w2.heap.size 5 1 (.slice ao2 (l ++ [c]).length cap2) (l ++ [c]).length ((nums (l ++ [c])).map (Value.int .u8)) := by
    have := OwW.of_owns hown
    rw [hbs.out] at this
    rw [nums_snoc, List.map_append, List.length_append]
    exact this
  have hl2 : (l ++ [c]).length = l.length + 1 := by simp
  rw [hl2] at hrow
  go_ret
  refine ⟨rfl, ⟨_, _, .inr rfl, B2.set_to (by simp; rfl), ?_⟩, ?_, ?_⟩
  · rw [hl2, World.size_setCell]
    exact OwW.set hrow (.inl (by show b < b + 1; omega)) _
  · exact (((sp1.wide3 (Nat.le_refl _) (by omega)).trans (Span.of_fr ((Fr.refl _).alloc _))).trans ((s2.wide3 (by omega) (Nat.le_refl _)))).trans (Span.set1.wide3 (Nat.le_refl _) (by omega))
  · exact (((BK.one sp1).trans (BK.fr ((Fr.refl _).alloc _))).trans k2).trans (BK.one Span.set1)
set_option maxHeartbeats 1000000 in
set_option maxRecDepth 100000 in
theorem bldStringK_any (b : Nat) (l : List UInt8) (s : ByteArray) (w : World) (hb : Bld w b l) (hl : l.length ≤ 100000000) (hs : s.size ≤ 100000000) :
    Calls Try.prog 145 #[.pointer (some ⟨b, 0, none⟩), .string s] w fun e w' => e = .returned (.tuple #[.int .i64 s.size, .nilIface]) ∧ Bld w' b (l ++ s.data.toList) ∧ Span b w.heap.size w w' ∧ BK b w w' := by
  obtain ⟨i0, hi, hz0, hz1, hz2⟩ := info_parts info_byte
  obtain ⟨p, v, hp, BX, hr⟩ := hb
  have hblt := BX.lt
  go_enter Try.func145, Try.ntmps145
  go_wp2_with fail
  refine (copyCheck_any b p v _ hp BX).mono ?_
  rintro e w1 ⟨rfl, B1, sp1⟩
  have z1 := sp1.size
  have F1 := B1.facts
  have HR := Lib.hid (OwW.span hr sp1 (.inr (Nat.le_refl _)))
  obtain ⟨ao, cap, rfl⟩ := hr.val
  clear hr
  go_wp2_with (at_builtin; (refine Lib.wpList_append_own_string _ rfl _ _ 22 9 rfl (b + 1) 5 i0 Try.underlying22 Try.underlying9 hi hz0 hz1 hz2 (.slice ao l.length cap) l.length ((nums l).map (Value.int .u8)) rfl HR.out.1 s rfl (by unfold maxLen; omega) (by omega) (by omega) ?_; intro v2 w2 hown hgrow _; have B2 := B1.row hgrow HR.out.2 (.inl (by omega)); have F2 := B2.facts; obtain ⟨ao2, cap2, rfl⟩ := owns_val hown))
  have k2 : BK b w1 w2 := BK.gr hgrow HR.out.1
  have s2 : Span (b + 1) w.heap.size w1 w2 := Span.of_gr hgrow (fun g hg => HR.out.2 g hg)
  have z2 := s2.size
  have hl2 : (l ++ s.data.toList).length = l.length + s.size := by simp
  have hrow : OwW w2 (b + 1) w2.heap.size 5 1 (.slice ao2 (l.length + s.size) cap2) (l ++ s.data.toList).length ((nums (l ++ s.data.toList)).map (Value.int .u8)) := by
    have := OwW.of_owns hown
    rw [hl2, nums_append, List.map_append, ← cells_nums]
    exact this
  go_ret2
  refine ⟨rfl, ⟨_, _, .inr rfl, B2.set_to (by simp; rfl), ?_⟩, ?_, ?_⟩
  · rw [World.size_setCell]
    exact OwW.set hrow (.inl (by show b < b + 1; omega)) _
  · exact ((sp1.wide3 (Nat.le_refl _) (by omega)).trans ((s2.wide3 (by omega) (Nat.le_refl _)))).trans (Span.set1.wide3 (Nat.le_refl _) (by omega))
  · exact ((BK.one sp1).trans k2).trans (BK.one Span.set1)
end Go.Proofs.Ytjgghiniajmfjaa
