/- Rings: marks of rings, the law of RingNew. No condition. -/
import Derived.Test.YtlomckhfdcdljaaRing5
import Derived.Test.YtlomckhfdcdljaaRow
import Derived.Deep.RegionHeld3
namespace Go.Proofs.Ytlomckhfdcdljaa
open Go.RowKit
set_option linter.unusedVariables false
set_option linter.unusedSimpArgs false
set_option maxHeartbeats 800000 in
theorem markRing_any (va vc vb vf : Value) (xs bs : List Bool) (cs fs : List Int) (h n : Int) (bl ov : Bool) (k : Int) (lo hi : Nat) (w : World) (ha : BoolsO w lo va xs) (hc : IntsO w lo vc cs) (hb : BoolsO w lo vb bs) (hf : IntsO w lo vf fs)
    (ac : Apart va vc) (ab : Apart va vb) (af : Apart va vf) (cb : Apart vc vb) (cf : Apart vc vf) (bf : Apart vb vf) (ra : RowIn lo hi va) (rc : RowIn lo hi vc) (rb : RowIn lo hi vb) (rf : RowIn lo hi vf) (h0 : 0 < k) (h1 : k + ((xs.length + cs.length + bs.length + fs.length : Nat) : Int) ≤ 1048576) :
    Calls Try.prog 47 #[.agg #[va, vc, vb, vf, .int .i64 h, .int .i64 n, .bool bl, .bool ov], .int .i64 k] w fun e w' => e = .returned (.int .i64 (k + ((xs.length + cs.length + bs.length + fs.length : Nat) : Int))) ∧
      BoolsO w' lo va (marksBool k xs.length) ∧ IntsO w' lo vc (marksInt (k + xs.length) cs.length) ∧ BoolsO w' lo vb (marksBool (k + xs.length + cs.length) bs.length) ∧ IntsO w' lo vf (marksInt (k + xs.length + cs.length + bs.length) fs.length) ∧ Span lo hi w w' := by
  have sa := RowIn.of_owns ha
  have sc := RowIn.of_owns hc
  have sb := RowIn.of_owns hb
  have sf := RowIn.of_owns hf
  go_enter Try.func47, Try.ntmps47
  go_wp2_with fail
  have S0 : Span lo hi w (w.alloc (Obj.cells #[va, vc, vb, vf, Value.int IntKind.i64 h, Value.int IntKind.i64 n, Value.bool bl, Value.bool ov] 61)) := Span.of_fr ((Fr.refl w).alloc _)
  have B0 : Box (w.alloc (Obj.cells #[va, vc, vb, vf, Value.int IntKind.i64 h, Value.int IntKind.i64 n, Value.bool bl, Value.bool ov] 61)) w.heap.size _ _ := Box.new _ _ _
  refine (markBools_any va xs k lo _ (World.ownsRow.alloc ha _) h0 (by omega) (by omega)).mono ?_
  rintro e w1 ⟨rfl, oa, g1⟩
  have oc := World.ownsRow.kept (World.ownsRow.alloc hc _) g1 ac.symm.ne
  have ob := World.ownsRow.kept (World.ownsRow.alloc hb _) g1 ab.symm.ne
  have of' := World.ownsRow.kept (World.ownsRow.alloc hf _) g1 af.symm.ne
  have S1 := S0.trans (Span.of_gr g1 ra)
  have B1 := B0.row g1 sa (.inr (Nat.le_refl _))
  have F1 := B1.facts
  clear S0 B0
  go_wp2_with fail
  refine (markInts_any vc cs _ lo _ oc (by omega) (by omega) (by omega)).mono ?_
  rintro e w2 ⟨rfl, oc2, g2⟩
  have oa2 := World.ownsRow.kept oa g2 ac.ne
  have ob2 := World.ownsRow.kept ob g2 cb.symm.ne
  have of2 := World.ownsRow.kept of' g2 cf.symm.ne
  have S2 := S1.trans (Span.of_gr g2 rc)
  have B2 := B1.row g2 sc (.inr (Nat.le_refl _))
  have F2 := B2.facts
  clear S1 B1 F1 oa oc ob of' g1
  go_wp2_with fail
  refine (markBools_any vb bs _ lo _ ob2 (by omega) (by omega) (by omega)).mono ?_
  rintro e w3 ⟨rfl, ob3, g3⟩
  have oa3 := World.ownsRow.kept oa2 g3 ab.ne
  have oc3 := World.ownsRow.kept oc2 g3 cb.ne
  have of3 := World.ownsRow.kept of2 g3 bf.symm.ne
  have S3 := S2.trans (Span.of_gr g3 rb)
  have B3 := B2.row g3 sb (.inr (Nat.le_refl _))
  have F3 := B3.facts
  clear S2 B2 F2 oa2 oc2 ob2 of2 g2
  go_wp2_with fail
  refine (markInts_any vf fs _ lo _ of3 (by omega) (by omega) (by omega)).mono ?_
  rintro e w4 ⟨rfl, of4, g4⟩
  have oa4 := World.ownsRow.kept oa3 g4 af.ne
  have oc4 := World.ownsRow.kept oc3 g4 cf.ne
  have ob4 := World.ownsRow.kept ob3 g4 bf.ne
  have S4 := S3.trans (Span.of_gr g4 rf)
  clear S3 B3 F3 oa3 oc3 ob3 of3 g3 g4
  go_wp2_with fail
  go_ret
  exact ⟨ret_int (by omega), oa4, oc4, ob4, of4, S4⟩
set_option maxHeartbeats 800000 in
theorem heldRing_any (va vc vb vf : Value) (n1 n2 n3 n4 : Nat) (h n : Int) (bl ov : Bool) (k : Int) (w : World) (ha : BoolsR w va (marksBool k n1)) (hc : IntsR w vc (marksInt (k + n1) n2)) (hb : BoolsR w vb (marksBool (k + n1 + n2) n3)) (hf : IntsR w vf (marksInt (k + n1 + n2 + n3) n4))
    (h0 : 0 < k) (h1 : k + ((n1 + n2 + n3 + n4 : Nat) : Int) ≤ 1048576) :
    Calls Try.prog 48 #[.agg #[va, vc, vb, vf, .int .i64 h, .int .i64 n, .bool bl, .bool ov], .int .i64 k] w fun e w' => e = .returned (.int .i64 (k + ((n1 + n2 + n3 + n4 : Nat) : Int))) ∧ Fr w w' := by
  go_enter Try.func48, Try.ntmps48
  go_wp2_with fail
  refine (heldBoolS_any _ _ n1 _ (ha.fr (by repeat (first | (with_reducible exact Fr.refl _) | (with_reducible assumption) | (with_reducible refine Fr.drewN ?_ _) | (with_reducible refine Fr.drew ?_) | (with_reducible refine Fr.alloc ?_ _) | (with_reducible refine Fr.setCell ?_ (by (first | (with_reducible assumption) | omega | (simp only [World.size_alloc, World.size_setCell, World.size_drew, World.heap_drewN]; omega) | (simp; omega))) _) | (with_reducible refine Fr.trans ?_ (by with_reducible assumption))))) h0 (by omega) (by omega)).mono ?_
  rintro e w1 ⟨rfl, hf1⟩
  have k0 := hf1.blk w.heap.size (by (first | (with_reducible assumption) | omega | (simp only [World.size_alloc, World.size_setCell, World.size_drew, World.heap_drewN]; omega) | (simp; omega))); have z1 := hf1.size; (try simp only [World.size_alloc, World.size_setCell, World.size_drew] at z1)
  go_wp2_with fail
  refine (heldIntS_any _ _ n2 _ (hc.fr (by repeat (first | (with_reducible exact Fr.refl _) | (with_reducible assumption) | (with_reducible refine Fr.drewN ?_ _) | (with_reducible refine Fr.drew ?_) | (with_reducible refine Fr.alloc ?_ _) | (with_reducible refine Fr.setCell ?_ (by (first | (with_reducible assumption) | omega | (simp only [World.size_alloc, World.size_setCell, World.size_drew, World.heap_drewN]; omega) | (simp; omega))) _) | (with_reducible refine Fr.trans ?_ (by with_reducible assumption))))) (by omega) (by omega) (by omega)).mono ?_
  rintro e w2 ⟨rfl, hf2⟩
  have k0 := hf2.blk w.heap.size (by (first | (with_reducible assumption) | omega | (simp only [World.size_alloc, World.size_setCell, World.size_drew, World.heap_drewN]; omega) | (simp; omega))); have z1 := hf2.size; (try simp only [World.size_alloc, World.size_setCell, World.size_drew] at z1)
  go_wp2_with fail
  refine (heldBoolS_any _ _ n3 _ (hb.fr (by repeat (first | (with_reducible exact Fr.refl _) | (with_reducible assumption) | (with_reducible refine Fr.drewN ?_ _) | (with_reducible refine Fr.drew ?_) | (with_reducible refine Fr.alloc ?_ _) | (with_reducible refine Fr.setCell ?_ (by (first | (with_reducible assumption) | omega | (simp only [World.size_alloc, World.size_setCell, World.size_drew, World.heap_drewN]; omega) | (simp; omega))) _) | (with_reducible refine Fr.trans ?_ (by with_reducible assumption))))) (by omega) (by omega) (by omega)).mono ?_
  rintro e w3 ⟨rfl, hf3⟩
  have k0 := hf3.blk w.heap.size (by (first | (with_reducible assumption) | omega | (simp only [World.size_alloc, World.size_setCell, World.size_drew, World.heap_drewN]; omega) | (simp; omega))); have z1 := hf3.size; (try simp only [World.size_alloc, World.size_setCell, World.size_drew] at z1)
  go_wp2_with fail
  refine (heldIntS_any _ _ n4 _ (hf.fr (by repeat (first | (with_reducible exact Fr.refl _) | (with_reducible assumption) | (with_reducible refine Fr.drewN ?_ _) | (with_reducible refine Fr.drew ?_) | (with_reducible refine Fr.alloc ?_ _) | (with_reducible refine Fr.setCell ?_ (by (first | (with_reducible assumption) | omega | (simp only [World.size_alloc, World.size_setCell, World.size_drew, World.heap_drewN]; omega) | (simp; omega))) _) | (with_reducible refine Fr.trans ?_ (by with_reducible assumption))))) (by omega) (by omega) (by omega)).mono ?_
  rintro e w4 ⟨rfl, hf4⟩
  go_wp2_with fail
  go_ret
  exact ⟨ret_int (by omega), by repeat (first | (with_reducible exact Fr.refl _) | (with_reducible assumption) | (with_reducible refine Fr.drewN ?_ _) | (with_reducible refine Fr.drew ?_) | (with_reducible refine Fr.alloc ?_ _) | (with_reducible refine Fr.setCell ?_ (by (first | (with_reducible assumption) | omega | (simp only [World.size_alloc, World.size_setCell, World.size_drew, World.heap_drewN]; omega) | (simp; omega))) _) | (with_reducible refine Fr.trans ?_ (by with_reducible assumption)))⟩
end Go.Proofs.Ytlomckhfdcdljaa
