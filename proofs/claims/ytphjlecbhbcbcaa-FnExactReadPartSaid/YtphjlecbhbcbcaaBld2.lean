/- strings.Builder: WriteByte and WriteString leave every box alone that holds no bytes. -/
import Derived.Test.YtphjlecbhbcbcaaBld
namespace Go.Proofs.Ytphjlecbhbcbcaa
open Go.RowKit
set_option linter.unusedVariables false
set_option linter.unusedSimpArgs false
/-- Every box but b whose cells are no bytes stays. -/
def BK (b : Nat) (w w' : World) : Prop := ∀ q X T, q ≠ b → T ≠ 5 → Box w q X T → Box w' q X T
theorem BK.trans {b : Nat} {w w1 w2 : World} (h : BK b w w1) (g : BK b w1 w2) : BK b w w2 := fun q X T h1 h2 hq => g q X T h1 h2 (h q X T h1 h2 hq)
theorem BK.one {b : Nat} {w w' : World} (h : Span b (b + 1) w w') : BK b w w' := fun q X T h1 _ hq => hq.span h (by omega)
theorem BK.fr {b : Nat} {w w' : World} (h : Fr w w') : BK b w w' := fun q X T _ _ hq => hq.fr h
theorem BK.gr {b base n sz : Nat} {v : Value} {xs : List Value} {w w' : World} (h : w.grownBy w' v.ownBlock) (ho : w.ownsRow base 5 sz v n xs) : BK b w w' := fun q X T _ h2 hq => by
  obtain ⟨_, ⟨rfl, _⟩ | ⟨g, cap, cur, rfl, _, hg, _⟩⟩ := ho
  · exact hq.span (Span.of_gr (lo := 0) (hi := 0) h (fun k hk => by cases hk)) (.inr (Nat.zero_le _))
  · have hne : q ≠ g := by
      rintro rfl
      have h3 : some (Obj.cells X T (0, 0)) = some (.cells cur 5 (0, 0)) := (show w.heap[q]? = _ from hq).symm.trans hg
      injection h3 with h3
      injection h3 with _ h4
      exact h2 h4
    exact hq.span (Span.of_gr (lo := g) (hi := g + 1) h (fun k hk => by have hk : g = k := Option.some.inj hk; omega)) (by omega)
set_option maxHeartbeats 1000000 in
set_option maxRecDepth 100000 in
theorem bldByteK_any (b : Nat) (l : List UInt8) (n : Int) (c : UInt8) (hn : n = (c.toNat : Int)) (w : World) (hb : Bld w b l) (hl : l.length ≤ 100000000) :
    Calls Try.prog 99 #[.pointer (some ⟨b, 0, none⟩), .int .u8 n] w fun e w' => e = .returned .nilIface ∧ Bld w' b (l ++ [c]) ∧ Span b w.heap.size w w' ∧ BK b w w' := by
  obtain ⟨i0, hi, hz0, hz1, hz2⟩ := info_parts info_byte
  obtain ⟨p, v, hp, BX, hr⟩ := hb
  have hblt := BX.lt
  have hbs : Hid (Value.int .u8 n = .int .u8 (c.toNat : Int)) := Lib.hid (by rw [hn])
  clear hn
  go_enter Try.func99, Try.ntmps99
  go_wp2_with fail
  refine (copyCheck_any b p v _ hp BX).mono ?_
  rintro e w1 ⟨rfl, B1, sp1⟩
  have z1 := sp1.size
  have F1 := B1.facts
  have HR := Lib.hid (OwW.span hr sp1 (.inr (Nat.le_refl _)))
  obtain ⟨ao, cap, rfl⟩ := hr.val
  clear hr
  go_wp2_with (at_builtin; (refine wpList_append_rd rfl _ _ 77 rfl (b + 1) 5 i0 (.int .u8 0) 1 1 Try.underlying77 hi hz0 hz1 hz2 rfl (by decide) (.slice ao l.length cap) l.length ((nums l).map (Value.int .u8)) rfl (World.ownsRow.alloc HR.out.1 _) _ 1 [.int .u8 n] rfl (RdS.new (by first | rfl | (simp; done)) rfl) (by simp [Value.oneCell']) (by unfold maxLen; omega) (by omega) (by (first | (with_reducible assumption) | omega | (simp only [World.size_alloc, World.size_setCell, World.size_drew, World.heap_drewN]; omega) | (simp; done) | (simp; omega))) ?_; intro ao2 cap2 w2 hown hgrow hat; have B2 := (B1.alloc (.cells #[.int .u8 n] 5)).row hgrow HR.out.2 (.inl (by omega)); have F2 := B2.facts))
  have k2 : BK b (w1.alloc (.cells #[.int .u8 n] 5)) w2 := BK.gr hgrow (World.ownsRow.alloc HR.out.1 _)
  have s2 : Span (b + 1) w.heap.size (w1.alloc (.cells #[.int .u8 n] 5)) w2 := Span.of_gr hgrow (fun g hg => HR.out.2 g hg)
  have z2 := s2.size
  simp only [World.size_alloc] at z2
  have hrow : OwW w2 (b + 1) w2.heap.size 5 1 (.slice ao2 (l ++ [c]).length cap2) (l ++ [c]).length ((nums (l ++ [c])).map (Value.int .u8)) := by
    have := OwW.of_owns hown
    rw [hbs.out] at this
    rw [nums_snoc, List.map_append, List.length_append]
    exact this
  have hl2 : (l ++ [c]).length = l.length + 1 := by simp
  rw [hl2] at hrow
  go_ret
  refine ⟨rfl, ⟨_, _, .inr rfl, B2.set_to (by simp; rfl), ?_⟩, ?_, ?_⟩
  · rw [hl2, World.size_setCell]
    exact OwW.set hrow (.inl (by show b < b + 1; omega)) _
  · exact (((sp1.wide3 (Nat.le_refl _) (by omega)).trans (Span.of_fr ((Fr.refl _).alloc _))).trans ((s2.wide3 (by omega) (Nat.le_refl _)))).trans (Span.set1.wide3 (Nat.le_refl _) (by omega))
  · exact (((BK.one sp1).trans (BK.fr ((Fr.refl _).alloc _))).trans k2).trans (BK.one Span.set1)
set_option maxHeartbeats 1000000 in
set_option maxRecDepth 100000 in
theorem bldStringK_any (b : Nat) (l : List UInt8) (s : ByteArray) (w : World) (hb : Bld w b l) (hl : l.length ≤ 100000000) (hs : s.size ≤ 100000000) :
    Calls Try.prog 100 #[.pointer (some ⟨b, 0, none⟩), .string s] w fun e w' => e = .returned (.tuple #[.int .i64 s.size, .nilIface]) ∧ Bld w' b (l ++ s.data.toList) ∧ Span b w.heap.size w w' ∧ BK b w w' := by
  obtain ⟨i0, hi, hz0, hz1, hz2⟩ := info_parts info_byte
  obtain ⟨p, v, hp, BX, hr⟩ := hb
  have hblt := BX.lt
  go_enter Try.func100, Try.ntmps100
  go_wp2_with fail
  refine (copyCheck_any b p v _ hp BX).mono ?_
  rintro e w1 ⟨rfl, B1, sp1⟩
  have z1 := sp1.size
  have F1 := B1.facts
  have HR := Lib.hid (OwW.span hr sp1 (.inr (Nat.le_refl _)))
  obtain ⟨ao, cap, rfl⟩ := hr.val
  clear hr
  go_wp2_with (at_builtin; (refine Lib.wpList_append_own_string _ rfl _ _ 77 9 rfl (b + 1) 5 i0 Try.underlying77 Try.underlying9 hi hz0 hz1 hz2 (.slice ao l.length cap) l.length ((nums l).map (Value.int .u8)) rfl HR.out.1 s rfl (by unfold maxLen; omega) (by omega) (by omega) ?_; intro v2 w2 hown hgrow _; have B2 := B1.row hgrow HR.out.2 (.inl (by omega)); have F2 := B2.facts; obtain ⟨ao2, cap2, rfl⟩ := owns_val hown))
  have k2 : BK b w1 w2 := BK.gr hgrow HR.out.1
  have s2 : Span (b + 1) w.heap.size w1 w2 := Span.of_gr hgrow (fun g hg => HR.out.2 g hg)
  have z2 := s2.size
  have hl2 : (l ++ s.data.toList).length = l.length + s.size := by simp
  have hrow : OwW w2 (b + 1) w2.heap.size 5 1 (.slice ao2 (l.length + s.size) cap2) (l ++ s.data.toList).length ((nums (l ++ s.data.toList)).map (Value.int .u8)) := by
    have := OwW.of_owns hown
    rw [hl2, nums_append, List.map_append, ← cells_nums]
    exact this
  go_ret2
  refine ⟨rfl, ⟨_, _, .inr rfl, B2.set_to (by simp; rfl), ?_⟩, ?_, ?_⟩
  · rw [World.size_setCell]
    exact OwW.set hrow (.inl (by show b < b + 1; omega)) _
  · exact ((sp1.wide3 (Nat.le_refl _) (by omega)).trans ((s2.wide3 (by omega) (Nat.le_refl _)))).trans (Span.set1.wide3 (Nat.le_refl _) (by omega))
  · exact ((BK.one sp1).trans k2).trans (BK.one Span.set1)
end Go.Proofs.Ytphjlecbhbcbcaa
