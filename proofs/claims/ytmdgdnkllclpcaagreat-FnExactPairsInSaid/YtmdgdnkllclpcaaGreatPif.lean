/- The two functions that PairsIn of the program hands on: rows compared, rows held against each other. No condition. -/
import Derived.Test.YtmdgdnkllclpcaaGreatShr
import Derived.Test.YtmdgdnkllclpcaaGreatGSEdge
namespace Go.Proofs.YtmdgdnkllclpcaaGreat
open Go.RowKit
set_option linter.unusedVariables false
set_option linter.unusedSimpArgs false
theorem pairsIn1_any (va vb : Value) (a b : List Int) (w : World) (ha : IntsR w va a) (hb : IntsR w vb b) :
    Calls Tryz.prog 66 #[va, vb] w fun e w' => e = .returned (.int .i64 (cmpL a b)) ∧ w' = w := by
  obtain ⟨ao, ba, oa, ca, rfl, hca, hma, fa⟩ := ha.one
  obtain ⟨bo, bb, ob, cb, rfl, hcb, hmb, fb⟩ := hb.one
  have HA := Lib.hid ha
  have HB := Lib.hid hb
  clear ha hb fa fb
  go_enter Tryz.func66, Tryz.ntmps66
  go_wp2_with fail
  refine (slicesCompare_any _ _ a b _ HA.out HB.out).mono ?_
  rintro e w1 ⟨rfl, rfl⟩
  go_wp2_with fail
  go_ret
  exact ⟨rfl, rfl⟩
theorem pairsIn2_any (va vb : Value) (a b : List Int) (w : World) (ha : IntsR w va a) (hb : IntsR w vb b) (ha0 : 0 < a.length) (hb0 : 0 < b.length) :
    Calls Tryz.prog 70 #[va, vb] w fun e w' => e = .returned (.bool (decide (a = b))) ∧ ∃ q, w' = w.drewN q := by
  obtain ⟨ao, ba, oa, ca, rfl, hca, hma, fa⟩ := ha.one
  obtain ⟨bo, bb, ob, cb, rfl, hcb, hmb, fb⟩ := hb.one
  obtain ⟨rfl, h1, h2⟩ := fa ha0
  obtain ⟨rfl, k1, k2⟩ := fb hb0
  have hla := ha.le
  have hlb := hb.le
  have HE := Lib.hid (sh_slices_Equal_int ba oa a.length ca bb ob b.length cb a b w (Nat.le_refl _) (Nat.le_refl _) hla hlb h2 k2)
  clear ha hb fa fb h2 k2
  go_enter Tryz.func70, Tryz.ntmps70
  go_wp2_with fail
  refine (HE.out).mono ?_
  rintro e w1 ⟨rfl, qn, rfl⟩
  go_wp2_with fail
  go_ret
  refine ⟨ret_bool ?_, qn, rfl⟩
  (try simp only [List.take_length])
  rw [Bool.eq_iff_iff]
  simp
end Go.Proofs.YtmdgdnkllclpcaaGreat
