/- laws.FnExactReadPacket: its walk, out of the contracts of the two functions. No condition but the size that the reading gives. -/
import Derived.Test.YtfokiabkebpblaaRdp
import Derived.Test.YtfokiabkebpblaaSPacket
namespace Go.Proofs.Ytfokiabkebpblaa
open Go.RowKit
set_option linter.unusedVariables false
set_option linter.unusedSimpArgs false
set_option maxHeartbeats 4000000 in
set_option maxRecDepth 100000 in
theorem fnReadPacket_any (a0 : ByteArray) (hz0 : a0.size ≤ maxLen) (w : World) :
    Calls Try.prog 7 #[.string a0] w fun e w' => e = .returned (.bool true) ∧ Fr w w' := by
  by_cases hl0 : (a0.size : Int) ≤ 1048576
  · have hs : a0.size ≤ 1048576 := by omega
    have HS := Lib.hid (fun w => specReadPacket_any a0 w hs)
    have HI := Lib.hid (fun w => implReadPacket_any a0 w hs)
    obtain ⟨⟨e, f, t, q, a, s, ok⟩, hr⟩ : ∃ r, rdp a0 = r := ⟨_, rfl⟩
    rw [hr] at HS HI
    clear hr
    go_enter Try.func7, Try.ntmps7
    go_wp2_with fail
    refine (HS.out _).mono ?_
    rintro e1 w1 ⟨rfl, hf1⟩
    have zhf1 := hf1.size; (try simp only [World.size_alloc, World.size_setCell, World.size_drew] at zhf1)
    go_wp2_with fail
    refine (HI.out _).mono ?_
    rintro e2 w2 ⟨rfl, hf2⟩
    have zhf2 := hf2.size; (try simp only [World.size_alloc, World.size_setCell, World.size_drew] at zhf2)
    have B0 := (Box.new w1 #[.int .i64 e, .int .i64 f, .int .i64 t, .int .i64 q, .int .i64 a, .string s] 39).fr hf2
    have F0 := B0.facts
    go_wp2_with fail
    refine (eqPacket_same ⟨e, f, t, q, a, s⟩ _).mono ?_
    rintro e3 w3 ⟨rfl, hf3⟩
    have zhf3 := hf3.size; (try simp only [World.size_alloc, World.size_setCell, World.size_drew] at zhf3)
    go_wp2_with fail
    all_goals go_ret
    all_goals exact ⟨rfl, by repeat (first | (with_reducible exact Fr.refl _) | (with_reducible assumption) | (with_reducible refine Fr.drewN ?_ _) | (with_reducible refine Fr.drew ?_) | (with_reducible refine Fr.alloc ?_ _) | (with_reducible refine Fr.setCell ?_ (by (first | (with_reducible assumption) | omega | (simp only [World.size_alloc, World.size_setCell, World.size_drew, World.heap_drewN]; omega) | (simp; done) | (simp; omega))) _) | (with_reducible refine Fr.trans ?_ (by with_reducible assumption)))⟩
  · go_enter Try.func7, Try.ntmps7
    go_wp2_with fail
    go_ret
    exact ⟨rfl, by repeat (first | (with_reducible exact Fr.refl _) | (with_reducible assumption) | (with_reducible refine Fr.drewN ?_ _) | (with_reducible refine Fr.drew ?_) | (with_reducible refine Fr.alloc ?_ _) | (with_reducible refine Fr.setCell ?_ (by (first | (with_reducible assumption) | omega | (simp only [World.size_alloc, World.size_setCell, World.size_drew, World.heap_drewN]; omega) | (simp; done) | (simp; omega))) _) | (with_reducible refine Fr.trans ?_ (by with_reducible assumption)))⟩
end Go.Proofs.Ytfokiabkebpblaa
