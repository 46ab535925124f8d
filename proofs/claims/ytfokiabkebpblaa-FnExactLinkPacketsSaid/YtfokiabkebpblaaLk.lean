/- Links: copies of links and LinkPut of the program and of the reference. Conditions: none but a bound on the length of what is copied, which the laws pay. -/
import Derived.Test.YtfokiabkebpblaaLink2
import Derived.Test.YtfokiabkebpblaaOLink
import Derived.Deep.RegionHeld3
namespace Go.Proofs.Ytfokiabkebpblaa
open Go.RowKit
set_option linter.unusedVariables false
set_option linter.unusedSimpArgs false
set_option maxHeartbeats 1600000 in
theorem copyLink_any (v : Value) (d : LinkD) (w : World) (hv : LinkRd w v d) (hn : d.f0.length ≤ 1048576) :
    Calls Try.prog 87 #[v] w fun e w' => ∃ ao cap, e = .returned (.agg #[.slice ao d.f0.length cap, .int .i64 d.f1, .int .i64 d.f2]) ∧ LinkW w' w.heap.size w'.heap.size (.agg #[.slice ao d.f0.length cap, .int .i64 d.f1, .int .i64 d.f2]) d ∧ Fr w w' := by
  obtain ⟨u, rfl, hu⟩ := hv
  go_enter Try.func87, Try.ntmps87
  go_wp2_with fail
  refine (cloneStr_w u d.f0 _ (hu.fr (by repeat (first | (with_reducible exact Fr.refl _) | (with_reducible assumption) | (with_reducible refine Fr.drewN ?_ _) | (with_reducible refine Fr.drew ?_) | (with_reducible refine Fr.alloc ?_ _) | (with_reducible refine Fr.setCell ?_ (by (first | (with_reducible assumption) | omega | (simp only [World.size_alloc, World.size_setCell, World.size_drew, World.heap_drewN]; omega) | (simp; done) | (simp; omega))) _) | (with_reducible refine Fr.trans ?_ (by with_reducible assumption))))) hn).mono ?_
  rintro e w1 ⟨ao, cap, rfl, o1, hf1⟩
  have B0 : Box (w.alloc (.cells #[u, .int .i64 d.f1, .int .i64 d.f2] 35)) w.heap.size _ _ := Box.new _ _ _
  have B1 := (B0.alloc (.cells #[.slice none 0 0, .int .i64 0, .int .i64 0] 35)).fr hf1
  have C1 : Box w1 (w.heap.size + 1) _ _ := (Box.new' (w := w.alloc (.cells #[u, .int .i64 d.f1, .int .i64 d.f2] 35)) (X := #[.slice none 0 0, .int .i64 0, .int .i64 0]) (T := 35) (by simp)).fr hf1
  have F1 := B1.facts; have F2 := C1.facts
  have z1 := hf1.size; (try simp only [World.size_alloc, World.size_setCell, World.size_drew] at z1)
  go_wp2
  refine bodyPost_ret (v := .agg #[.slice ao d.f0.length cap, .int .i64 d.f1, .int .i64 d.f2]) (by simp [results, Try.results87, go_sem, *]) rfl ⟨_, _, rfl, ⟨ao, cap, rfl, ?_⟩, by repeat (first | (with_reducible exact Fr.refl _) | (with_reducible assumption) | (with_reducible refine Fr.drewN ?_ _) | (with_reducible refine Fr.drew ?_) | (with_reducible refine Fr.alloc ?_ _) | (with_reducible refine Fr.setCell ?_ (by (first | (with_reducible assumption) | omega | (simp only [World.size_alloc, World.size_setCell, World.size_drew, World.heap_drewN]; omega) | (simp; done) | (simp; omega))) _) | (with_reducible refine Fr.trans ?_ (by with_reducible assumption)))⟩
  exact OwW.mono (OwW.ab o1 (by repeat (first | (with_reducible exact Ab.refl _ _) | (with_reducible assumption) | (with_reducible refine Ab.drewN ?_ _) | (with_reducible refine Ab.drew ?_) | (with_reducible refine Ab.alloc ?_ _) | (with_reducible refine Ab.setCell ?_ (by (first | (with_reducible assumption) | omega | (simp only [World.size_alloc, World.size_setCell, World.size_drew, World.heap_drewN]; omega) | (simp; done) | (simp; omega))) _) | (with_reducible refine Ab.fr ?_ (by with_reducible assumption))))) (by (first | (with_reducible assumption) | omega | (simp only [World.size_alloc, World.size_setCell, World.size_drew, World.heap_drewN]; omega) | (simp; done) | (simp; omega))) (by (first | (with_reducible assumption) | omega | (simp only [World.size_alloc, World.size_setCell, World.size_drew, World.heap_drewN]; omega) | (simp; done) | (simp; omega)))
set_option maxHeartbeats 1600000 in
set_option maxRecDepth 100000 in
theorem l18Copy_any (v : Value) (d : LinkD) (w : World) (hv : LinkRd w v d) (hn : d.f0.length ≤ 1048576) :
    Calls Try.prog 83 #[v] w fun e w' => ∃ ao cap, e = .returned (.agg #[.slice ao d.f0.length cap, .int .i64 d.f1, .int .i64 d.f2]) ∧ LinkW w' w.heap.size w'.heap.size (.agg #[.slice ao d.f0.length cap, .int .i64 d.f1, .int .i64 d.f2]) d ∧ Fr w w' := by
  obtain ⟨u, rfl, hu⟩ := hv
  obtain ⟨i0, hi, hz0, hz1, hz2⟩ := info_parts info_string
  obtain ⟨a0, c0, rfl, _⟩ := RdS.val hu
  have HU := Lib.hid hu
  clear hu
  go_enter Try.func83, Try.ntmps83
  go_wp2
  have r0 : ∀ w', Fr (w.alloc (.cells #[.slice a0 d.f0.length c0, .int .i64 d.f1, .int .i64 d.f2] 35)) w' → ∀ o, w'.cell? ⟨w.heap.size, o, none⟩ = _ := fun w' h o => Fr.box h o
  go_region_held3 (fun w' => Fr (w.alloc (.cells #[.slice a0 d.f0.length c0, .int .i64 d.f1, .int .i64 d.f2] 35)) w') (repeat (first | (with_reducible exact Fr.refl _) | (with_reducible assumption) | (with_reducible refine Fr.drewN ?_ _) | (with_reducible refine Fr.drew ?_) | (with_reducible refine Fr.alloc ?_ _) | (with_reducible refine Fr.setCell ?_ (by (first | (with_reducible assumption) | omega | (simp only [World.size_alloc, World.size_setCell, World.size_drew, World.heap_drewN]; omega) | (simp; done) | (simp; omega))) _) | (with_reducible refine Fr.trans ?_ (by with_reducible assumption)))) ((refine step_append_rd (by rfl) _ _ 28 (by rfl) (w.heap.size + 1 + 1) 9 i0 (.string ⟨#[]⟩) 1 16 Try.underlying28 hi hz0 hz1 hz2 rfl (by decide) (.slice (some ⟨w.heap.size + 1 + 1, 0, none⟩) 0 0) 0 [] (by rfl) (made_empty (by (first | (with_reducible assumption) | omega | (simp only [World.size_alloc, World.size_setCell, World.size_drew, World.heap_drewN]; omega) | (simp; done) | (simp; omega))) (Nat.le_refl _)) _ d.f0.length (d.f0.map Value.string) (by rfl) (RdS.fr HU.out (by repeat (first | (with_reducible exact Fr.refl _) | (with_reducible assumption) | (with_reducible refine Fr.drewN ?_ _) | (with_reducible refine Fr.drew ?_) | (with_reducible refine Fr.alloc ?_ _) | (with_reducible refine Fr.setCell ?_ (by (first | (with_reducible assumption) | omega | (simp only [World.size_alloc, World.size_setCell, World.size_drew, World.heap_drewN]; omega) | (simp; done) | (simp; omega))) _) | (with_reducible refine Fr.trans ?_ (by with_reducible assumption))))) (oneCells_str _) (by unfold maxLen; omega) (by omega) (by (first | (with_reducible assumption) | omega | (simp only [World.size_alloc, World.size_setCell, World.size_drew, World.heap_drewN]; omega) | (simp; done) | (simp; omega))) ?_; intro ao' cap' w1 hown hgrow hat; have hf0 : Fr ((w.alloc (.cells #[.slice a0 d.f0.length c0, .int .i64 d.f1, .int .i64 d.f2] 35)).alloc (.cells #[.slice none 0 0, .int .i64 0, .int .i64 0] 35)) w1 := Fr.app (show Fr ((w.alloc (.cells #[.slice a0 d.f0.length c0, .int .i64 d.f1, .int .i64 d.f2] 35)).alloc (.cells #[.slice none 0 0, .int .i64 0, .int .i64 0] 35)) _ by repeat (first | (with_reducible exact Fr.refl _) | (with_reducible assumption) | (with_reducible refine Fr.drewN ?_ _) | (with_reducible refine Fr.drew ?_) | (with_reducible refine Fr.alloc ?_ _) | (with_reducible refine Fr.setCell ?_ (by (first | (with_reducible assumption) | omega | (simp only [World.size_alloc, World.size_setCell, World.size_drew, World.heap_drewN]; omega) | (simp; done) | (simp; omega))) _) | (with_reducible refine Fr.trans ?_ (by with_reducible assumption)))) hgrow (RowIn.one (lo := w.heap.size + 1 + 1) (hi := w.heap.size + 1 + 1 + 1) (Nat.le_refl _) (Nat.lt_succ_self _)) (by (first | (with_reducible assumption) | omega | (simp only [World.size_alloc, World.size_setCell, World.size_drew, World.heap_drewN]; omega) | (simp; done) | (simp; omega))); have hf1 : Fr (w.alloc (.cells #[.slice a0 d.f0.length c0, .int .i64 d.f1, .int .i64 d.f2] 35)) w1 := Fr.trans (show Fr (w.alloc (.cells #[.slice a0 d.f0.length c0, .int .i64 d.f1, .int .i64 d.f2] 35)) ((w.alloc (.cells #[.slice a0 d.f0.length c0, .int .i64 d.f1, .int .i64 d.f2] 35)).alloc (.cells #[.slice none 0 0, .int .i64 0, .int .i64 0] 35)) by repeat (first | (with_reducible exact Fr.refl _) | (with_reducible assumption) | (with_reducible refine Fr.drewN ?_ _) | (with_reducible refine Fr.drew ?_) | (with_reducible refine Fr.alloc ?_ _) | (with_reducible refine Fr.setCell ?_ (by (first | (with_reducible assumption) | omega | (simp only [World.size_alloc, World.size_setCell, World.size_drew, World.heap_drewN]; omega) | (simp; done) | (simp; omega))) _) | (with_reducible refine Fr.trans ?_ (by with_reducible assumption)))) hf0; have FRR := ((Box.new' (b := w.heap.size + 1) (w := w.alloc (.cells #[.slice a0 d.f0.length c0, .int .i64 d.f1, .int .i64 d.f2] 35)) (X := #[.slice none 0 0, .int .i64 0, .int .i64 0]) (T := 35) (by (first | (with_reducible assumption) | omega | (simp only [World.size_alloc, World.size_setCell, World.size_drew, World.heap_drewN]; omega) | (simp; done) | (simp; omega)))).fr hf0).facts; clear hf0))
  go_wp2
  refine bodyPost_ret (v := .agg #[.slice ao' d.f0.length cap', .int .i64 d.f1, .int .i64 d.f2]) (by simp [results, Try.results83, go_sem, *]) rfl ⟨_, _, rfl, ⟨ao', cap', rfl, ?_⟩, ?_⟩
  · simp only [Nat.zero_add, List.nil_append] at hown
    exact OwW.mono (OwW.ab (OwW.of_owns hown) (by repeat (first | (with_reducible exact Ab.refl _ _) | (with_reducible assumption) | (with_reducible refine Ab.drewN ?_ _) | (with_reducible refine Ab.drew ?_) | (with_reducible refine Ab.alloc ?_ _) | (with_reducible refine Ab.setCell ?_ (by (first | (with_reducible assumption) | omega | (simp only [World.size_alloc, World.size_setCell, World.size_drew, World.heap_drewN]; omega) | (simp; done) | (simp; omega))) _) | (with_reducible refine Ab.fr ?_ (by with_reducible assumption))))) (by (first | (with_reducible assumption) | omega | (simp only [World.size_alloc, World.size_setCell, World.size_drew, World.heap_drewN]; omega) | (simp; done) | (simp; omega))) (by (first | (with_reducible assumption) | omega | (simp only [World.size_alloc, World.size_setCell, World.size_drew, World.heap_drewN]; omega) | (simp; done) | (simp; omega)))
  · repeat (first | (with_reducible exact Fr.refl _) | (with_reducible assumption) | (with_reducible refine Fr.drewN ?_ _) | (with_reducible refine Fr.drew ?_) | (with_reducible refine Fr.alloc ?_ _) | (with_reducible refine Fr.setCell ?_ (by (first | (with_reducible assumption) | omega | (simp only [World.size_alloc, World.size_setCell, World.size_drew, World.heap_drewN]; omega) | (simp; done) | (simp; omega))) _) | (with_reducible refine Fr.trans ?_ (by with_reducible assumption)))
def putB (d : LinkD) (s : ByteArray) : Bool := linkB d.f0 d.f1 d.f2 && decide (d.f0.length < 200) && bodyB s
def putD (d : LinkD) (s : ByteArray) : LinkD := if putB d s then { d with f0 := d.f0 ++ [s] } else d
theorem putD_ok {d : LinkD} {s : ByteArray} (h : putB d s = true) : putD d s = { d with f0 := d.f0 ++ [s] } := if_pos h
theorem putD_no {d : LinkD} {s : ByteArray} (h : putB d s = false) : putD d s = d := if_neg (by simp [h])
theorem putD_cnt {d : LinkD} {s : ByteArray} (hn : d.f0.length ≤ 1048576) : (putD d s).cnt ≤ 100000000 := by
  unfold putD
  split <;> simp [LinkD.cnt] <;> omega
theorem linkB_le {ss : List ByteArray} {a t : Int} (h : linkB ss a t = true) : ss.length ≤ 200 := by
  unfold linkB at h
  rw [Bool.and_eq_true, decide_eq_true_eq] at h
  exact h.1.1
theorem putB_parts {d : LinkD} {s : ByteArray} (h : putB d s = true) : linkB d.f0 d.f1 d.f2 = true ∧ d.f0.length < 200 ∧ bodyB s = true := by
  unfold putB at h
  simpa [Bool.and_eq_true, and_assoc] using h
theorem putB_more {d : LinkD} {s : ByteArray} (h : linkB d.f0 d.f1 d.f2 = true) : putB d s = linkB (d.f0 ++ [s]) d.f1 d.f2 := by
  unfold putB
  rw [h]
  unfold linkB at h ⊢
  rw [Bool.and_eq_true, decide_eq_true_eq] at h
  rw [Bool.eq_iff_iff]
  simp only [Bool.true_and, Bool.and_eq_true, decide_eq_true_eq, List.all_append, List.all_cons, List.all_nil, Bool.and_true, List.length_append, List.length_singleton, h.2, true_and]
  constructor
  · rintro ⟨h1, h2⟩; exact ⟨by omega, h2⟩
  · rintro ⟨h1, h2⟩; exact ⟨by omega, h2⟩
end Go.Proofs.Ytfokiabkebpblaa
