/- Rings: the law of RingNew. No condition. -/
import Derived.Test.YtlomckhfdcdljaaRing6
import Derived.Test.YtlomckhfdcdljaaRing7
namespace Go.Proofs.Ytlomckhfdcdljaa
open Go.RowKit
set_option linter.unusedVariables false
set_option linter.unusedSimpArgs false
set_option maxHeartbeats 1600000 in
theorem fnRingNew_any (n : Int) (w : World) :
    Calls Try.prog 11 #[.int .i64 n] w fun e w' => e = .returned (.bool true) ∧ Fr w w' := by
  obtain ⟨bl, hbl⟩ : ∃ bl, decide (1 ≤ n ∧ n ≤ 8) = bl := ⟨_, rfl⟩
  obtain ⟨xs, hxs⟩ : ∃ xs, List.replicate (newN n) true = xs := ⟨_, rfl⟩
  obtain ⟨cs, hcs⟩ : ∃ cs, List.replicate (newN n) (0 : Int) = cs := ⟨_, rfl⟩
  obtain ⟨bs, hbs⟩ : ∃ bs, List.replicate (newN n) false = bs := ⟨_, rfl⟩
  have hm : newN n ≤ 8 := by unfold newN; split <;> omega
  have lx : xs.length ≤ 8 := by rw [← hxs]; simpa using hm
  have lc : cs.length ≤ 8 := by rw [← hcs]; simpa using hm
  have lb : bs.length ≤ 8 := by rw [← hbs]; simpa using hm
  have HB := Lib.hid hbl; have HX := Lib.hid hxs; have HC := Lib.hid hcs; have HS := Lib.hid hbs
  clear hbl hxs hcs hbs hm
  go_enter Try.func11, Try.ntmps11
  go_wp2_with fail
  refine (specRingNew_any n _).mono ?_
  rintro e w1 ⟨va, vc, vb, rfl, o1, hf1⟩
  rw [HB.out]
  have va1 : BoolsO w1 _ va xs := HX.out ▸ o1.a
  have vc1 : IntsO w1 _ vc cs := HC.out ▸ o1.c
  have vb1 : BoolsO w1 _ vb bs := HS.out ▸ o1.b
  clear o1
  obtain ⟨p1, q1, rfl⟩ := va1.val
  obtain ⟨p2, q2, rfl⟩ := vc1.val
  obtain ⟨p3, q3, rfl⟩ := vb1.val
  go_wp2_with fail
  have B1 : Box (w1.alloc (.cells #[.slice p1 xs.length q1, .slice p2 cs.length q2, .slice p3 bs.length q3, .slice none 0 0, .int .i64 0, .int .i64 0, .bool bl, .bool false] 61)) w1.heap.size _ _ := Box.new _ _ _
  refine (implRingNew_any n _).mono ?_
  rintro e w2 ⟨ua, uc, ub, rfl, o2, hf2⟩
  rw [HB.out]
  have ua1 : BoolsO w2 _ ua xs := HX.out ▸ o2.a
  have uc1 : IntsO w2 _ uc cs := HC.out ▸ o2.c
  have ub1 : BoolsO w2 _ ub bs := HS.out ▸ o2.b
  have hac := o2.ac; have hab := o2.ab; have hcb := o2.cb
  clear o2
  have ra := RowIn.of_owns ua1; have rc := RowIn.of_owns uc1; have rb := RowIn.of_owns ub1
  obtain ⟨s1, t1, rfl⟩ := ua1.val
  obtain ⟨s2, t2, rfl⟩ := uc1.val
  obtain ⟨s3, t3, rfl⟩ := ub1.val
  have B1 := B1.fr hf2
  have F1 := B1.facts
  have z1 := hf2.size; (try simp only [World.size_alloc, World.size_setCell, World.size_drew] at z1)
  go_wp2_with fail
  have E1 := B1.alloc (.cells #[.slice s1 xs.length t1, .slice s2 cs.length t2, .slice s3 bs.length t3, .slice none 0 0, .int .i64 0, .int .i64 0, .bool bl, .bool false] 61)
  have E2 : Box (w2.alloc (.cells #[.slice s1 xs.length t1, .slice s2 cs.length t2, .slice s3 bs.length t3, .slice none 0 0, .int .i64 0, .int .i64 0, .bool bl, .bool false] 61)) w2.heap.size _ _ := Box.new _ _ _
  have nilI : ∀ W : World, IntsO W W.heap.size (.slice none 0 0) [] := fun W => World.ownsRow_nil _ _ _ _
  refine (eqRing_same _ _ _ _ _ _ _ _ xs bs cs [] 0 0 bl false _ (ua1.rd.fr (by repeat (first | (with_reducible exact Fr.refl _) | (with_reducible assumption) | (with_reducible refine Fr.drewN ?_ _) | (with_reducible refine Fr.drew ?_) | (with_reducible refine Fr.alloc ?_ _) | (with_reducible refine Fr.setCell ?_ (by (first | (with_reducible assumption) | omega | (simp only [World.size_alloc, World.size_setCell, World.size_drew, World.heap_drewN]; omega) | (simp; omega))) _) | (with_reducible refine Fr.trans ?_ (by with_reducible assumption))))) (uc1.rd.fr (by repeat (first | (with_reducible exact Fr.refl _) | (with_reducible assumption) | (with_reducible refine Fr.drewN ?_ _) | (with_reducible refine Fr.drew ?_) | (with_reducible refine Fr.alloc ?_ _) | (with_reducible refine Fr.setCell ?_ (by (first | (with_reducible assumption) | omega | (simp only [World.size_alloc, World.size_setCell, World.size_drew, World.heap_drewN]; omega) | (simp; omega))) _) | (with_reducible refine Fr.trans ?_ (by with_reducible assumption))))) (ub1.rd.fr (by repeat (first | (with_reducible exact Fr.refl _) | (with_reducible assumption) | (with_reducible refine Fr.drewN ?_ _) | (with_reducible refine Fr.drew ?_) | (with_reducible refine Fr.alloc ?_ _) | (with_reducible refine Fr.setCell ?_ (by (first | (with_reducible assumption) | omega | (simp only [World.size_alloc, World.size_setCell, World.size_drew, World.heap_drewN]; omega) | (simp; omega))) _) | (with_reducible refine Fr.trans ?_ (by with_reducible assumption))))) (nilI _).rd (va1.rd.fr (by repeat (first | (with_reducible exact Fr.refl _) | (with_reducible assumption) | (with_reducible refine Fr.drewN ?_ _) | (with_reducible refine Fr.drew ?_) | (with_reducible refine Fr.alloc ?_ _) | (with_reducible refine Fr.setCell ?_ (by (first | (with_reducible assumption) | omega | (simp only [World.size_alloc, World.size_setCell, World.size_drew, World.heap_drewN]; omega) | (simp; omega))) _) | (with_reducible refine Fr.trans ?_ (by with_reducible assumption))))) (vc1.rd.fr (by repeat (first | (with_reducible exact Fr.refl _) | (with_reducible assumption) | (with_reducible refine Fr.drewN ?_ _) | (with_reducible refine Fr.drew ?_) | (with_reducible refine Fr.alloc ?_ _) | (with_reducible refine Fr.setCell ?_ (by (first | (with_reducible assumption) | omega | (simp only [World.size_alloc, World.size_setCell, World.size_drew, World.heap_drewN]; omega) | (simp; omega))) _) | (with_reducible refine Fr.trans ?_ (by with_reducible assumption))))) (vb1.rd.fr (by repeat (first | (with_reducible exact Fr.refl _) | (with_reducible assumption) | (with_reducible refine Fr.drewN ?_ _) | (with_reducible refine Fr.drew ?_) | (with_reducible refine Fr.alloc ?_ _) | (with_reducible refine Fr.setCell ?_ (by (first | (with_reducible assumption) | omega | (simp only [World.size_alloc, World.size_setCell, World.size_drew, World.heap_drewN]; omega) | (simp; omega))) _) | (with_reducible refine Fr.trans ?_ (by with_reducible assumption))))) (nilI _).rd).mono ?_
  rintro e w3 ⟨rfl, hf3⟩
  have E1 := E1.fr hf3; have E2 := E2.fr hf3
  have F1 := E1.facts; have F2 := E2.facts
  clear B1
  go_wp2_with fail
  have rva := RowIn.of_owns va1; have rvc := RowIn.of_owns vc1; have rvb := RowIn.of_owns vb1
  refine (markRing_any _ _ _ _ xs bs cs [] 0 0 bl false 1 _ w2.heap.size _ (ua1.fr (by repeat (first | (with_reducible exact Fr.refl _) | (with_reducible assumption) | (with_reducible refine Fr.drewN ?_ _) | (with_reducible refine Fr.drew ?_) | (with_reducible refine Fr.alloc ?_ _) | (with_reducible refine Fr.setCell ?_ (by (first | (with_reducible assumption) | omega | (simp only [World.size_alloc, World.size_setCell, World.size_drew, World.heap_drewN]; omega) | (simp; omega))) _) | (with_reducible refine Fr.trans ?_ (by with_reducible assumption))))) (uc1.fr (by repeat (first | (with_reducible exact Fr.refl _) | (with_reducible assumption) | (with_reducible refine Fr.drewN ?_ _) | (with_reducible refine Fr.drew ?_) | (with_reducible refine Fr.alloc ?_ _) | (with_reducible refine Fr.setCell ?_ (by (first | (with_reducible assumption) | omega | (simp only [World.size_alloc, World.size_setCell, World.size_drew, World.heap_drewN]; omega) | (simp; omega))) _) | (with_reducible refine Fr.trans ?_ (by with_reducible assumption))))) (ub1.fr (by repeat (first | (with_reducible exact Fr.refl _) | (with_reducible assumption) | (with_reducible refine Fr.drewN ?_ _) | (with_reducible refine Fr.drew ?_) | (with_reducible refine Fr.alloc ?_ _) | (with_reducible refine Fr.setCell ?_ (by (first | (with_reducible assumption) | omega | (simp only [World.size_alloc, World.size_setCell, World.size_drew, World.heap_drewN]; omega) | (simp; omega))) _) | (with_reducible refine Fr.trans ?_ (by with_reducible assumption))))) (World.ownsRow_nil _ _ _ _) hac hab (Apart.none _ _ _).symm hcb (Apart.none _ _ _).symm (Apart.none _ _ _).symm ra rc rb (fun g hg => by simp [Value.ownBlock] at hg) (by omega) (by simp; omega)).mono ?_
  rintro e w4 ⟨rfl, oa4, oc4, ob4, of4, sp⟩
  have E1 := E1.span sp (.inl (by simp)); have E2 := E2.span sp (.inr (Nat.le_refl _))
  have F1 := E1.facts; have F2 := E2.facts
  have va4 : BoolsO w4 _ _ xs := sp.owns (va1.fr (by repeat (first | (with_reducible exact Fr.refl _) | (with_reducible assumption) | (with_reducible refine Fr.drewN ?_ _) | (with_reducible refine Fr.drew ?_) | (with_reducible refine Fr.alloc ?_ _) | (with_reducible refine Fr.setCell ?_ (by (first | (with_reducible assumption) | omega | (simp only [World.size_alloc, World.size_setCell, World.size_drew, World.heap_drewN]; omega) | (simp; omega))) _) | (with_reducible refine Fr.trans ?_ (by with_reducible assumption))))) (fun g hg => .inl (by have := rva g hg; simp; omega))
  have vc4 : IntsO w4 _ _ cs := sp.owns (vc1.fr (by repeat (first | (with_reducible exact Fr.refl _) | (with_reducible assumption) | (with_reducible refine Fr.drewN ?_ _) | (with_reducible refine Fr.drew ?_) | (with_reducible refine Fr.alloc ?_ _) | (with_reducible refine Fr.setCell ?_ (by (first | (with_reducible assumption) | omega | (simp only [World.size_alloc, World.size_setCell, World.size_drew, World.heap_drewN]; omega) | (simp; omega))) _) | (with_reducible refine Fr.trans ?_ (by with_reducible assumption))))) (fun g hg => .inl (by have := rvc g hg; simp; omega))
  have vb4 : BoolsO w4 _ _ bs := sp.owns (vb1.fr (by repeat (first | (with_reducible exact Fr.refl _) | (with_reducible assumption) | (with_reducible refine Fr.drewN ?_ _) | (with_reducible refine Fr.drew ?_) | (with_reducible refine Fr.alloc ?_ _) | (with_reducible refine Fr.setCell ?_ (by (first | (with_reducible assumption) | omega | (simp only [World.size_alloc, World.size_setCell, World.size_drew, World.heap_drewN]; omega) | (simp; omega))) _) | (with_reducible refine Fr.trans ?_ (by with_reducible assumption))))) (fun g hg => .inl (by have := rvb g hg; simp; omega))
  have h4 : Fr w w4 := Span.fr (show Fr w w3 by repeat (first | (with_reducible exact Fr.refl _) | (with_reducible assumption) | (with_reducible refine Fr.drewN ?_ _) | (with_reducible refine Fr.drew ?_) | (with_reducible refine Fr.alloc ?_ _) | (with_reducible refine Fr.setCell ?_ (by (first | (with_reducible assumption) | omega | (simp only [World.size_alloc, World.size_setCell, World.size_drew, World.heap_drewN]; omega) | (simp; omega))) _) | (with_reducible refine Fr.trans ?_ (by with_reducible assumption)))) sp (by have := hf1.size; simp; omega)
  have held := fun W hf => heldRing_any (.slice s1 xs.length t1) (.slice s2 cs.length t2) (.slice s3 bs.length t3) (.slice none 0 0) xs.length cs.length bs.length 0 0 0 bl false 1 W (oa4.rd.fr hf) (oc4.rd.fr hf) (ob4.rd.fr hf) (of4.rd.fr hf) (by omega) (by omega)
  clear ua1 uc1 ub1 va1 vc1 vb1 hf1 hf2 hf3 sp oa4 oc4 ob4 of4
  obtain ⟨q, hq⟩ : ∃ q : Int, 1 + ((xs.length + cs.length + bs.length + 0 : Nat) : Int) = q := ⟨_, rfl⟩
  have hq0 : decide (q < 0) = false := by simp; omega
  rw [List.length_nil, hq]
  rw [hq] at held
  have HH := Lib.hid held
  clear held hq
  go_wp2_with fail
  refine (HH.out _ (by repeat (first | (with_reducible exact Fr.refl _) | (with_reducible assumption) | (with_reducible refine Fr.drewN ?_ _) | (with_reducible refine Fr.drew ?_) | (with_reducible refine Fr.alloc ?_ _) | (with_reducible refine Fr.setCell ?_ (by (first | (with_reducible assumption) | omega | (simp only [World.size_alloc, World.size_setCell, World.size_drew, World.heap_drewN]; omega) | (simp; omega))) _) | (with_reducible refine Fr.trans ?_ (by with_reducible assumption))))).mono ?_
  rintro e w5 ⟨rfl, hf5⟩
  have E1 := E1.fr hf5; have E2 := E2.fr hf5
  have F1 := E1.facts; have F2 := E2.facts
  go_wp2_with fail
  refine (implRingNew_any n _).mono ?_
  rintro e w6 ⟨ya, yc, yb, rfl, o6, hf6⟩
  rw [HB.out]
  have ya1 : BoolsO w6 _ ya xs := HX.out ▸ o6.a
  have yc1 : IntsO w6 _ yc cs := HC.out ▸ o6.c
  have yb1 : BoolsO w6 _ yb bs := HS.out ▸ o6.b
  clear o6
  obtain ⟨i1, j1, rfl⟩ := ya1.val
  obtain ⟨i2, j2, rfl⟩ := yc1.val
  obtain ⟨i3, j3, rfl⟩ := yb1.val
  have E1 := E1.fr hf6; have E2 := E2.fr hf6
  have F1 := E1.facts; have F2 := E2.facts
  go_wp2_with fail
  refine (eqRing_same _ _ _ _ _ _ _ _ xs bs cs [] 0 0 bl false _ (ya1.rd.fr (by repeat (first | (with_reducible exact Fr.refl _) | (with_reducible assumption) | (with_reducible refine Fr.drewN ?_ _) | (with_reducible refine Fr.drew ?_) | (with_reducible refine Fr.alloc ?_ _) | (with_reducible refine Fr.setCell ?_ (by (first | (with_reducible assumption) | omega | (simp only [World.size_alloc, World.size_setCell, World.size_drew, World.heap_drewN]; omega) | (simp; omega))) _) | (with_reducible refine Fr.trans ?_ (by with_reducible assumption))))) (yc1.rd.fr (by repeat (first | (with_reducible exact Fr.refl _) | (with_reducible assumption) | (with_reducible refine Fr.drewN ?_ _) | (with_reducible refine Fr.drew ?_) | (with_reducible refine Fr.alloc ?_ _) | (with_reducible refine Fr.setCell ?_ (by (first | (with_reducible assumption) | omega | (simp only [World.size_alloc, World.size_setCell, World.size_drew, World.heap_drewN]; omega) | (simp; omega))) _) | (with_reducible refine Fr.trans ?_ (by with_reducible assumption))))) (yb1.rd.fr (by repeat (first | (with_reducible exact Fr.refl _) | (with_reducible assumption) | (with_reducible refine Fr.drewN ?_ _) | (with_reducible refine Fr.drew ?_) | (with_reducible refine Fr.alloc ?_ _) | (with_reducible refine Fr.setCell ?_ (by (first | (with_reducible assumption) | omega | (simp only [World.size_alloc, World.size_setCell, World.size_drew, World.heap_drewN]; omega) | (simp; omega))) _) | (with_reducible refine Fr.trans ?_ (by with_reducible assumption))))) (nilI _).rd (va4.rd.fr (by repeat (first | (with_reducible exact Fr.refl _) | (with_reducible assumption) | (with_reducible refine Fr.drewN ?_ _) | (with_reducible refine Fr.drew ?_) | (with_reducible refine Fr.alloc ?_ _) | (with_reducible refine Fr.setCell ?_ (by (first | (with_reducible assumption) | omega | (simp only [World.size_alloc, World.size_setCell, World.size_drew, World.heap_drewN]; omega) | (simp; omega))) _) | (with_reducible refine Fr.trans ?_ (by with_reducible assumption))))) (vc4.rd.fr (by repeat (first | (with_reducible exact Fr.refl _) | (with_reducible assumption) | (with_reducible refine Fr.drewN ?_ _) | (with_reducible refine Fr.drew ?_) | (with_reducible refine Fr.alloc ?_ _) | (with_reducible refine Fr.setCell ?_ (by (first | (with_reducible assumption) | omega | (simp only [World.size_alloc, World.size_setCell, World.size_drew, World.heap_drewN]; omega) | (simp; omega))) _) | (with_reducible refine Fr.trans ?_ (by with_reducible assumption))))) (vb4.rd.fr (by repeat (first | (with_reducible exact Fr.refl _) | (with_reducible assumption) | (with_reducible refine Fr.drewN ?_ _) | (with_reducible refine Fr.drew ?_) | (with_reducible refine Fr.alloc ?_ _) | (with_reducible refine Fr.setCell ?_ (by (first | (with_reducible assumption) | omega | (simp only [World.size_alloc, World.size_setCell, World.size_drew, World.heap_drewN]; omega) | (simp; omega))) _) | (with_reducible refine Fr.trans ?_ (by with_reducible assumption))))) (nilI _).rd).mono ?_
  rintro e w7 ⟨rfl, hf7⟩
  have E2 := (E2.alloc (.cells #[.slice i1 xs.length j1, .slice i2 cs.length j2, .slice i3 bs.length j3, .slice none 0 0, .int .i64 0, .int .i64 0, .bool bl, .bool false] 61)).fr hf7
  have F2 := E2.facts
  go_wp2_with fail
  refine (HH.out _ (by repeat (first | (with_reducible exact Fr.refl _) | (with_reducible assumption) | (with_reducible refine Fr.drewN ?_ _) | (with_reducible refine Fr.drew ?_) | (with_reducible refine Fr.alloc ?_ _) | (with_reducible refine Fr.setCell ?_ (by (first | (with_reducible assumption) | omega | (simp only [World.size_alloc, World.size_setCell, World.size_drew, World.heap_drewN]; omega) | (simp; omega))) _) | (with_reducible refine Fr.trans ?_ (by with_reducible assumption))))).mono ?_
  rintro e w8 ⟨rfl, hf8⟩
  go_wp2_with fail
  go_ret
  exact ⟨rfl, by repeat (first | (with_reducible exact Fr.refl _) | (with_reducible assumption) | (with_reducible refine Fr.drewN ?_ _) | (with_reducible refine Fr.drew ?_) | (with_reducible refine Fr.alloc ?_ _) | (with_reducible refine Fr.setCell ?_ (by (first | (with_reducible assumption) | omega | (simp only [World.size_alloc, World.size_setCell, World.size_drew, World.heap_drewN]; omega) | (simp; omega))) _) | (with_reducible refine Fr.trans ?_ (by with_reducible assumption)))⟩
end Go.Proofs.Ytlomckhfdcdljaa
