/- Links: copies of links and LinkPut of the program and of the reference. Conditions: none but a bound on the length of what is copied, which the laws pay. -/
import Derived.Test.YtnlcgffffjjojaaLink2
import Derived.Test.YtnlcgffffjjojaaOLink
import Derived.Deep.RegionHeld3
namespace Go.Proofs.Ytnlcgffffjjojaa
open Go.RowKit
set_option linter.unusedVariables false
set_option linter.unusedSimpArgs false
set_option maxHeartbeats 1600000 in
theorem copyLink_any (v : Value) (d : LinkD) (w : World) (hv : LinkRd w v d) (hn : d.f0.length ≤ 1048576) :
    Calls Try.prog 105 #[v] w fun e w' => ∃ ao cap, e = .returned (.agg #[.slice ao d.f0.length cap, .int .i64 d.f1, .int .i64 d.f2]) ∧ LinkW w' w.heap.size w'.heap.size (.agg #[.slice ao d.f0.length cap, .int .i64 d.f1, .int .i64 d.f2]) d ∧ Fr w w' := by
  obtain ⟨u, rfl, hu⟩ := hv
  go_enter Try.func105, Try.ntmps105
  go_wp2_with fail
  refine (cloneStr_w u d.f0 _ (hu.fr (by repeat (first | (with_reducible exact Fr.refl _) | (with_reducible assumption) | (with_reducible refine Fr.drewN ?_ _) | (with_reducible refine Fr.drew ?_) | (with_reducible refine Fr.alloc ?_ _) | (with_reducible refine Fr.setCell ?_ (by (first | (with_reducible assumption) | omega | (simp only [World.size_alloc, World.size_setCell, World.size_drew, World.heap_drewN]; omega) | (simp; done) | (simp; omega))) _) | (with_reducible refine Fr.trans ?_ (by with_reducible assumption))))) hn).mono ?_
  rintro e w1 ⟨ao, cap, rfl, o1, hf1⟩
  have B0 : Box (w.alloc (.cells #[u, .int .i64 d.f1, .int .i64 d.f2] 53)) w.heap.size _ _ := Box.new _ _ _
  have B1 := (B0.alloc (.cells #[.slice none 0 0, .int .i64 0, .int .i64 0] 53)).fr hf1
  have C1 : Box w1 (w.heap.size + 1) _ _ := (Box.new' (w := w.alloc (.cells #[u, .int .i64 d.f1, .int .i64 d.f2] 53)) (X := #[.slice none 0 0, .int .i64 0, .int .i64 0]) (T := 53) (by simp)).fr hf1
  have F1 := B1.facts; have F2 := C1.facts
  have z1 := hf1.size; (try simp only [World.size_alloc, World.size_setCell, World.size_drew] at z1)
  go_wp2
  refine bodyPost_ret (v := .agg #[.slice ao d.f0.length cap, .int .i64 d.f1, .int .i64 d.f2]) (by simp [results, Try.results105, go_sem, *]) rfl ⟨_, _, rfl, ⟨ao, cap, rfl, ?_⟩, by repeat (first | (with_reducible exact Fr.refl _) | (with_reducible assumption) | (with_reducible refine Fr.drewN ?_ _) | (with_reducible refine Fr.drew ?_) | (with_reducible refine Fr.alloc ?_ _) | (with_reducible refine Fr.setCell ?_ (by (first | (with_reducible assumption) | omega | (simp only [World.size_alloc, World.size_setCell, World.size_drew, World.heap_drewN]; omega) | (simp; done) | (simp; omega))) _) | (with_reducible refine Fr.trans ?_ (by with_reducible assumption)))⟩
  exact OwW.mono (OwW.ab o1 (by repeat (first | (with_reducible exact Ab.refl _ _) | (with_reducible assumption) | (with_reducible refine Ab.drewN ?_ _) | (with_reducible refine Ab.drew ?_) | (with_reducible refine Ab.alloc ?_ _) | (with_reducible refine Ab.setCell ?_ (by (first | (with_reducible assumption) | omega | (simp only [World.size_alloc, World.size_setCell, World.size_drew, World.heap_drewN]; omega) | (simp; done) | (simp; omega))) _) | (with_reducible refine Ab.fr ?_ (by with_reducible assumption))))) (by (first | (with_reducible assumption) | omega | (simp only [World.size_alloc, World.size_setCell, World.size_drew, World.heap_drewN]; omega) | (simp; done) | (simp; omega))) (by (first | (with_reducible assumption) | omega | (simp only [World.size_alloc, World.size_setCell, World.size_drew, World.heap_drewN]; omega) | (simp; done) | (simp; omega)))
set_option maxHeartbeats 1600000 in
set_option maxRecDepth 100000 in
theorem l18Copy_any (v : Value) (d : LinkD) (w : World) (hv : LinkRd w v d) (hn : d.f0.length ≤ 1048576) :
    Calls Try.prog 109 #[v] w fun e w' => ∃ ao cap, e = .returned (.agg #[.slice ao d.f0.length cap, .int .i64 d.f1, .int .i64 d.f2]) ∧ LinkW w' w.heap.size w'.heap.size (.agg #[.slice ao d.f0.length cap, .int .i64 d.f1, .int .i64 d.f2]) d ∧ Fr w w' := by
  obtain ⟨u, rfl, hu⟩ := hv
  obtain ⟨i0, hi, hz0, hz1, hz2⟩ := info_parts info_string
  obtain ⟨a0, c0, rfl, _⟩ := RdS.val hu
  have HU := Lib.hid hu
  clear hu
  go_enter Try.func109, Try.ntmps109
  go_wp2
  have r0 : ∀ w', Fr (w.alloc (.cells #[.slice a0 d.f0.length c0, .int .i64 d.f1, .int .i64 d.f2] 53)) w' → ∀ o, w'.cell? ⟨w.heap.size, o, none⟩ = _ := fun w' h o => Fr.box h o
  go_region_held3 (fun w' => Fr (w.alloc (.cells #[.slice a0 d.f0.length c0, .int .i64 d.f1, .int .i64 d.f2] 53)) w') (repeat (first | (with_reducible exact Fr.refl _) | (with_reducible assumption) | (with_reducible refine Fr.drewN ?_ _) | (with_reducible refine Fr.drew ?_) | (with_reducible refine Fr.alloc ?_ _) | (with_reducible refine Fr.setCell ?_ (by (first | (with_reducible assumption) | omega | (simp only [World.size_alloc, World.size_setCell, World.size_drew, World.heap_drewN]; omega) | (simp; done) | (simp; omega))) _) | (with_reducible refine Fr.trans ?_ (by with_reducible assumption)))) ((refine step_append_rd (by rfl) _ _ 47 (by rfl) (w.heap.size + 1 + 1) 9 i0 (.string ⟨#[]⟩) 1 16 Try.underlying47 hi hz0 hz1 hz2 rfl (by decide) (.slice (some ⟨w.heap.size + 1 + 1, 0, none⟩) 0 0) 0 [] (by rfl) (made_empty (by (first | (with_reducible assumption) | omega | (simp only [World.size_alloc, World.size_setCell, World.size_drew, World.heap_drewN]; omega) | (simp; done) | (simp; omega))) (Nat.le_refl _)) _ d.f0.length (d.f0.map Value.string) (by rfl) (RdS.fr HU.out (by repeat (first | (with_reducible exact Fr.refl _) | (with_reducible assumption) | (with_reducible refine Fr.drewN ?_ _) | (with_reducible refine Fr.drew ?_) | (with_reducible refine Fr.alloc ?_ _) | (with_reducible refine Fr.setCell ?_ (by (first | (with_reducible assumption) | omega | (simp only [World.size_alloc, World.size_setCell, World.size_drew, World.heap_drewN]; omega) | (simp; done) | (simp; omega))) _) | (with_reducible refine Fr.trans ?_ (by with_reducible assumption))))) (oneCells_str _) (by unfold maxLen; omega) (by omega) (by (first | (with_reducible assumption) | omega | (simp only [World.size_alloc, World.size_setCell, World.size_drew, World.heap_drewN]; omega) | (simp; done) | (simp; omega))) ?_; intro ao' cap' w1 hown hgrow hat; have hf0 : Fr ((w.alloc (.cells #[.slice a0 d.f0.length c0, .int .i64 d.f1, .int .i64 d.f2] 53)).alloc (.cells #[.slice none 0 0, .int .i64 0, .int .i64 0] 53)) w1 := Fr.app (show Fr ((w.alloc (.cells #[.slice a0 d.f0.length c0, .int .i64 d.f1, .int .i64 d.f2] 53)).alloc (.cells #[.slice none 0 0, .int .i64 0, .int .i64 0] 53)) _ by repeat (first | (with_reducible exact Fr.refl _) | (with_reducible assumption) | (with_reducible refine Fr.drewN ?_ _) | (with_reducible refine Fr.drew ?_) | (with_reducible refine Fr.alloc ?_ _) | (with_reducible refine Fr.setCell ?_ (by (first | (with_reducible assumption) | omega | (simp only [World.size_alloc, World.size_setCell, World.size_drew, World.heap_drewN]; omega) | (simp; done) | (simp; omega))) _) | (with_reducible refine Fr.trans ?_ (by with_reducible assumption)))) hgrow (RowIn.one (lo := w.heap.size + 1 + 1) (hi := w.heap.size + 1 + 1 + 1) (Nat.le_refl _) (Nat.lt_succ_self _)) (by (first | (with_reducible assumption) | omega | (simp only [World.size_alloc, World.size_setCell, World.size_drew, World.heap_drewN]; omega) | (simp; done) | (simp; omega))); have hf1 : Fr (w.alloc (.cells #[.slice a0 d.f0.length c0, .int .i64 d.f1, .int .i64 d.f2] 53)) w1 := Fr.trans (show Fr (w.alloc (.cells #[.slice a0 d.f0.length c0, .int .i64 d.f1, .int .i64 d.f2] 53)) ((w.alloc (.cells #[.slice a0 d.f0.length c0, .int .i64 d.f1, .int .i64 d.f2] 53)).alloc (.cells #[.slice none 0 0, .int .i64 0, .int .i64 0] 53)) by repeat (first | (with_reducible exact Fr.refl _) | (with_reducible assumption) | (with_reducible refine Fr.drewN ?_ _) | (with_reducible refine Fr.drew ?_) | (with_reducible refine Fr.alloc ?_ _) | (with_reducible refine Fr.setCell ?_ (by (first | (with_reducible assumption) | omega | (simp only [World.size_alloc, World.size_setCell, World.size_drew, World.heap_drewN]; omega) | (simp; done) | (simp; omega))) _) | (with_reducible refine Fr.trans ?_ (by with_reducible assumption)))) hf0; have FRR := ((Box.new' (b := w.heap.size + 1) (w := w.alloc (.cells #[.slice a0 d.f0.length c0, .int .i64 d.f1, .int .i64 d.f2] 53)) (X := #[.slice none 0 0, .int .i64 0, .int .i64 0]) (T := 53) (by (first | (with_reducible assumption) | omega | (simp only [World.size_alloc, World.size_setCell, World.size_drew, World.heap_drewN]; omega) | (simp; done) | (simp; omega)))).fr hf0).facts; clear hf0))
  go_wp2
  refine bodyPost_ret (v := .agg #[.slice ao' d.f0.length cap', .int .i64 d.f1, .int .i64 d.f2]) (by simp [results, Try.results109, go_sem, *]) rfl ⟨_, _, rfl, ⟨ao', cap', rfl, ?_⟩, ?_⟩
  · simp only [Nat.zero_add, List.nil_append] at hown
    exact OwW.mono (OwW.ab (OwW.of_owns hown) (by repeat (first | (with_reducible exact Ab.refl _ _) | (with_reducible assumption) | (with_reducible refine Ab.drewN ?_ _) | (with_reducible refine Ab.drew ?_) | (with_reducible refine Ab.alloc ?_ _) | (with_reducible refine Ab.setCell ?_ (by (first | (with_reducible assumption) | omega | (simp only [World.size_alloc, World.size_setCell, World.size_drew, World.heap_drewN]; omega) | (simp; done) | (simp; omega))) _) | (with_reducible refine Ab.fr ?_ (by with_reducible assumption))))) (by (first | (with_reducible assumption) | omega | (simp only [World.size_alloc, World.size_setCell, World.size_drew, World.heap_drewN]; omega) | (simp; done) | (simp; omega))) (by (first | (with_reducible assumption) | omega | (simp only [World.size_alloc, World.size_setCell, World.size_drew, World.heap_drewN]; omega) | (simp; done) | (simp; omega)))
  · repeat (first | (with_reducible exact Fr.refl _) | (with_reducible assumption) | (with_reducible refine Fr.drewN ?_ _) | (with_reducible refine Fr.drew ?_) | (with_reducible refine Fr.alloc ?_ _) | (with_reducible refine Fr.setCell ?_ (by (first | (with_reducible assumption) | omega | (simp only [World.size_alloc, World.size_setCell, World.size_drew, World.heap_drewN]; omega) | (simp; done) | (simp; omega))) _) | (with_reducible refine Fr.trans ?_ (by with_reducible assumption)))
def putB (d : LinkD) (s : ByteArray) : Bool := linkB d.f0 d.f1 d.f2 && decide (d.f0.length < 200) && bodyB s
def putD (d : LinkD) (s : ByteArray) : LinkD := if putB d s then { d with f0 := d.f0 ++ [s] } else d
theorem putD_ok {d : LinkD} {s : ByteArray} (h : putB d s = true) : putD d s = { d with f0 := d.f0 ++ [s] } := if_pos h
theorem putD_no {d : LinkD} {s : ByteArray} (h : putB d s = false) : putD d s = d := if_neg (by simp [h])
theorem putD_cnt {d : LinkD} {s : ByteArray} (hn : d.f0.length ≤ 1048576) : (putD d s).cnt ≤ 100000000 := by
  unfold putD
  split <;> simp [LinkD.cnt] <;> omega
theorem linkB_le {ss : List ByteArray} {a t : Int} (h : linkB ss a t = true) : ss.length ≤ 200 := by
  unfold linkB at h
  rw [Bool.and_eq_true, decide_eq_true_eq] at h
  exact h.1.1
theorem putB_parts {d : LinkD} {s : ByteArray} (h : putB d s = true) : linkB d.f0 d.f1 d.f2 = true ∧ d.f0.length < 200 ∧ bodyB s = true := by
  unfold putB at h
  simpa [Bool.and_eq_true, and_assoc] using h
theorem putB_more {d : LinkD} {s : ByteArray} (h : linkB d.f0 d.f1 d.f2 = true) : putB d s = linkB (d.f0 ++ [s]) d.f1 d.f2 := by
  unfold putB
  rw [h]
  unfold linkB at h ⊢
  rw [Bool.and_eq_true, decide_eq_true_eq] at h
  rw [Bool.eq_iff_iff]
  simp only [Bool.true_and, Bool.and_eq_true, decide_eq_true_eq, List.all_append, List.all_cons, List.all_nil, Bool.and_true, List.length_append, List.length_singleton, h.2, true_and]
  constructor
  · rintro ⟨h1, h2⟩; exact ⟨by omega, h2⟩
  · rintro ⟨h1, h2⟩; exact ⟨by omega, h2⟩
set_option maxHeartbeats 2000000 in
set_option maxRecDepth 100000 in
theorem implLinkPut_any (d : LinkD) (s : ByteArray) (hn : d.f0.length ≤ 1048576) (v : Value) (w : World) (hv : LinkRd w v d) :
    Calls Try.prog 35 #[v, .string s] w fun e w' => ∃ ao cap, e = .returned (.tuple #[.agg #[.slice ao (putD d s).f0.length cap, .int .i64 (putD d s).f1, .int .i64 (putD d s).f2], .bool (putB d s)]) ∧ LinkW w' w.heap.size w'.heap.size (.agg #[.slice ao (putD d s).f0.length cap, .int .i64 (putD d s).f1, .int .i64 (putD d s).f2]) (putD d s) ∧ Fr w w' := by
  obtain ⟨u, rfl, hu⟩ := hv
  have hv : LinkRd w _ d := ⟨_, rfl, hu⟩
  have hl := hu.le
  obtain ⟨i0, hi, hz0, hz1, hz2⟩ := info_parts info_string
  obtain ⟨a0, c0, rfl, _⟩ := RdS.val hu
  cases hb : putB d s
  all_goals
    have HB := Lib.hid hb
    clear hb
    go_enter Try.func35, Try.ntmps35
    go_wp2_with fail
    refine (copyLink_any _ d _ (hv.fr (by repeat (first | (with_reducible exact Fr.refl _) | (with_reducible assumption) | (with_reducible refine Fr.drewN ?_ _) | (with_reducible refine Fr.drew ?_) | (with_reducible refine Fr.alloc ?_ _) | (with_reducible refine Fr.setCell ?_ (by (first | (with_reducible assumption) | omega | (simp only [World.size_alloc, World.size_setCell, World.size_drew, World.heap_drewN]; omega) | (simp; done) | (simp; omega))) _) | (with_reducible refine Fr.trans ?_ (by with_reducible assumption))))) hn).mono ?_
    rintro e w1 ⟨ao, cap, rfl, o1, hf1⟩
    have BL : Box w1 (w.heap.size) #[.slice a0 d.f0.length c0, .int .i64 d.f1, .int .i64 d.f2] 53 := (Box.new' (w := w) rfl).fr (by repeat (first | (with_reducible exact Fr.refl _) | (with_reducible assumption) | (with_reducible refine Fr.drewN ?_ _) | (with_reducible refine Fr.drew ?_) | (with_reducible refine Fr.alloc ?_ _) | (with_reducible refine Fr.setCell ?_ (by (first | (with_reducible assumption) | omega | (simp only [World.size_alloc, World.size_setCell, World.size_drew, World.heap_drewN]; omega) | (simp; done) | (simp; omega))) _) | (with_reducible refine Fr.trans ?_ (by with_reducible assumption))))
    have BR : Box w1 (w.heap.size + 1) #[.slice none 0 0, .int .i64 0, .int .i64 0] 53 := (Box.new' (w := w.alloc (.cells #[.slice a0 d.f0.length c0, .int .i64 d.f1, .int .i64 d.f2] 53)) (by simp)).fr (by repeat (first | (with_reducible exact Fr.refl _) | (with_reducible assumption) | (with_reducible refine Fr.drewN ?_ _) | (with_reducible refine Fr.drew ?_) | (with_reducible refine Fr.alloc ?_ _) | (with_reducible refine Fr.setCell ?_ (by (first | (with_reducible assumption) | omega | (simp only [World.size_alloc, World.size_setCell, World.size_drew, World.heap_drewN]; omega) | (simp; done) | (simp; omega))) _) | (with_reducible refine Fr.trans ?_ (by with_reducible assumption))))
    have FL := BL.facts; have FRR := BR.facts
    have z1 := hf1.size; (try simp only [World.size_alloc, World.size_setCell, World.size_drew] at z1)
    go_wp2_with fail
    refine (implLinkOk_any _ d.f0 d.f1 d.f2 _ (hu.fr (by repeat (first | (with_reducible exact Fr.refl _) | (with_reducible assumption) | (with_reducible refine Fr.drewN ?_ _) | (with_reducible refine Fr.drew ?_) | (with_reducible refine Fr.alloc ?_ _) | (with_reducible refine Fr.setCell ?_ (by (first | (with_reducible assumption) | omega | (simp only [World.size_alloc, World.size_setCell, World.size_drew, World.heap_drewN]; omega) | (simp; done) | (simp; omega))) _) | (with_reducible refine Fr.trans ?_ (by with_reducible assumption)))))).mono ?_
    rintro e w2 ⟨rfl, hf2⟩
    have BL := BL.fr (show Fr w1 w2 by repeat (first | (with_reducible exact Fr.refl _) | (with_reducible assumption) | (with_reducible refine Fr.drewN ?_ _) | (with_reducible refine Fr.drew ?_) | (with_reducible refine Fr.alloc ?_ _) | (with_reducible refine Fr.setCell ?_ (by (first | (with_reducible assumption) | omega | (simp only [World.size_alloc, World.size_setCell, World.size_drew, World.heap_drewN]; omega) | (simp; done) | (simp; omega))) _) | (with_reducible refine Fr.trans ?_ (by with_reducible assumption))))
    have BR := BR.fr (show Fr w1 w2 by repeat (first | (with_reducible exact Fr.refl _) | (with_reducible assumption) | (with_reducible refine Fr.drewN ?_ _) | (with_reducible refine Fr.drew ?_) | (with_reducible refine Fr.alloc ?_ _) | (with_reducible refine Fr.setCell ?_ (by (first | (with_reducible assumption) | omega | (simp only [World.size_alloc, World.size_setCell, World.size_drew, World.heap_drewN]; omega) | (simp; done) | (simp; omega))) _) | (with_reducible refine Fr.trans ?_ (by with_reducible assumption))))
    have BO : Box w2 (w1.heap.size) #[.slice ao d.f0.length cap, .int .i64 d.f1, .int .i64 d.f2] 53 := (Box.new' (w := w1) rfl).fr (by repeat (first | (with_reducible exact Fr.refl _) | (with_reducible assumption) | (with_reducible refine Fr.drewN ?_ _) | (with_reducible refine Fr.drew ?_) | (with_reducible refine Fr.alloc ?_ _) | (with_reducible refine Fr.setCell ?_ (by (first | (with_reducible assumption) | omega | (simp only [World.size_alloc, World.size_setCell, World.size_drew, World.heap_drewN]; omega) | (simp; done) | (simp; omega))) _) | (with_reducible refine Fr.trans ?_ (by with_reducible assumption))))
    have FL := BL.facts; have FRR := BR.facts; have FO := BO.facts
    have z2 := hf2.size; (try simp only [World.size_alloc] at z2)
  · have HD := Lib.hid (putD_no HB.out)
    cases h1 : linkB d.f0 d.f1 d.f2
    · go_wp2_with fail
      rw [HD.out]
      refine bodyPost_ret (v := .tuple #[.agg #[.slice ao d.f0.length cap, .int .i64 d.f1, .int .i64 d.f2], .bool false]) (by simp [results, Try.results35, go_sem, *]) rfl ⟨_, _, rfl, ⟨ao, cap, rfl, ?_⟩, by repeat (first | (with_reducible exact Fr.refl _) | (with_reducible assumption) | (with_reducible refine Fr.drewN ?_ _) | (with_reducible refine Fr.drew ?_) | (with_reducible refine Fr.alloc ?_ _) | (with_reducible refine Fr.setCell ?_ (by (first | (with_reducible assumption) | omega | (simp only [World.size_alloc, World.size_setCell, World.size_drew, World.heap_drewN]; omega) | (simp; done) | (simp; omega))) _) | (with_reducible refine Fr.trans ?_ (by with_reducible assumption)))⟩
      obtain ⟨_, _, h9, o1⟩ := o1
      cases h9
      exact OwW.mono (OwW.ab o1 (by repeat (first | (with_reducible exact Ab.refl _ _) | (with_reducible assumption) | (with_reducible refine Ab.drewN ?_ _) | (with_reducible refine Ab.drew ?_) | (with_reducible refine Ab.alloc ?_ _) | (with_reducible refine Ab.setCell ?_ (by (first | (with_reducible assumption) | omega | (simp only [World.size_alloc, World.size_setCell, World.size_drew, World.heap_drewN]; omega) | (simp; done) | (simp; omega))) _) | (with_reducible refine Ab.fr ?_ (by with_reducible assumption))))) (by (first | (with_reducible assumption) | omega | (simp only [World.size_alloc, World.size_setCell, World.size_drew, World.heap_drewN]; omega) | (simp; done) | (simp; omega))) (by (first | (with_reducible assumption) | omega | (simp only [World.size_alloc, World.size_setCell, World.size_drew, World.heap_drewN]; omega) | (simp; done) | (simp; omega)))
    · by_cases h2 : d.f0.length = 200
      · go_wp2_with fail
        rw [HD.out]
        refine bodyPost_ret (v := .tuple #[.agg #[.slice ao d.f0.length cap, .int .i64 d.f1, .int .i64 d.f2], .bool false]) (by simp [results, Try.results35, go_sem, *]) rfl ⟨_, _, rfl, ⟨ao, cap, rfl, ?_⟩, by repeat (first | (with_reducible exact Fr.refl _) | (with_reducible assumption) | (with_reducible refine Fr.drewN ?_ _) | (with_reducible refine Fr.drew ?_) | (with_reducible refine Fr.alloc ?_ _) | (with_reducible refine Fr.setCell ?_ (by (first | (with_reducible assumption) | omega | (simp only [World.size_alloc, World.size_setCell, World.size_drew, World.heap_drewN]; omega) | (simp; done) | (simp; omega))) _) | (with_reducible refine Fr.trans ?_ (by with_reducible assumption)))⟩
        obtain ⟨_, _, h9, o1⟩ := o1
        cases h9
        exact OwW.mono (OwW.ab o1 (by repeat (first | (with_reducible exact Ab.refl _ _) | (with_reducible assumption) | (with_reducible refine Ab.drewN ?_ _) | (with_reducible refine Ab.drew ?_) | (with_reducible refine Ab.alloc ?_ _) | (with_reducible refine Ab.setCell ?_ (by (first | (with_reducible assumption) | omega | (simp only [World.size_alloc, World.size_setCell, World.size_drew, World.heap_drewN]; omega) | (simp; done) | (simp; omega))) _) | (with_reducible refine Ab.fr ?_ (by with_reducible assumption))))) (by (first | (with_reducible assumption) | omega | (simp only [World.size_alloc, World.size_setCell, World.size_drew, World.heap_drewN]; omega) | (simp; done) | (simp; omega))) (by (first | (with_reducible assumption) | omega | (simp only [World.size_alloc, World.size_setCell, World.size_drew, World.heap_drewN]; omega) | (simp; done) | (simp; omega)))
      · have h3 : bodyB s = false := by
          have := HB.out
          unfold putB at this
          have h4 := linkB_le h1
          rw [h1, decide_eq_true (show d.f0.length < 200 by omega)] at this
          simpa using this
        have h5 : decide (d.f0.length = 200) = false := by simpa using h2
        go_wp2_with (go_at_call 106; refine (isBody_any _ _).mono ?_; rintro e w3 ⟨rfl, rfl⟩)
        rw [HD.out]
        refine bodyPost_ret (v := .tuple #[.agg #[.slice ao d.f0.length cap, .int .i64 d.f1, .int .i64 d.f2], .bool false]) (by simp [results, Try.results35, go_sem, *]) rfl ⟨_, _, rfl, ⟨ao, cap, rfl, ?_⟩, by repeat (first | (with_reducible exact Fr.refl _) | (with_reducible assumption) | (with_reducible refine Fr.drewN ?_ _) | (with_reducible refine Fr.drew ?_) | (with_reducible refine Fr.alloc ?_ _) | (with_reducible refine Fr.setCell ?_ (by (first | (with_reducible assumption) | omega | (simp only [World.size_alloc, World.size_setCell, World.size_drew, World.heap_drewN]; omega) | (simp; done) | (simp; omega))) _) | (with_reducible refine Fr.trans ?_ (by with_reducible assumption)))⟩
        obtain ⟨_, _, h9, o1⟩ := o1
        cases h9
        exact OwW.mono (OwW.ab o1 (by repeat (first | (with_reducible exact Ab.refl _ _) | (with_reducible assumption) | (with_reducible refine Ab.drewN ?_ _) | (with_reducible refine Ab.drew ?_) | (with_reducible refine Ab.alloc ?_ _) | (with_reducible refine Ab.setCell ?_ (by (first | (with_reducible assumption) | omega | (simp only [World.size_alloc, World.size_setCell, World.size_drew, World.heap_drewN]; omega) | (simp; done) | (simp; omega))) _) | (with_reducible refine Ab.fr ?_ (by with_reducible assumption))))) (by (first | (with_reducible assumption) | omega | (simp only [World.size_alloc, World.size_setCell, World.size_drew, World.heap_drewN]; omega) | (simp; done) | (simp; omega))) (by (first | (with_reducible assumption) | omega | (simp only [World.size_alloc, World.size_setCell, World.size_drew, World.heap_drewN]; omega) | (simp; done) | (simp; omega)))
  · have HD := Lib.hid (putD_ok HB.out)
    obtain ⟨h1, h2, h3⟩ := putB_parts HB.out
    have h5 : decide (d.f0.length = 200) = false := by simp; omega
    obtain ⟨_, _, h9, o1⟩ := o1
    cases h9
    go_wp2_with (first | (go_at_call 106; refine (isBody_any _ _).mono ?_; rintro e w3 ⟨rfl, rfl⟩) | (at_builtin; refine wpList_append_rd rfl _ _ 47 rfl w.heap.size 9 i0 (.string ⟨#[]⟩) 1 16 Try.underlying47 hi hz0 hz1 hz2 rfl (by decide) (.slice ao d.f0.length cap) d.f0.length (d.f0.map Value.string) rfl (by exact owns_lo (owns_ab o1.1 (by repeat (first | (with_reducible exact Ab.refl _ _) | (with_reducible assumption) | (with_reducible refine Ab.drewN ?_ _) | (with_reducible refine Ab.drew ?_) | (with_reducible refine Ab.alloc ?_ _) | (with_reducible refine Ab.setCell ?_ (by (first | (with_reducible assumption) | omega | (simp only [World.size_alloc, World.size_setCell, World.size_drew, World.heap_drewN]; omega) | (simp; done) | (simp; omega))) _) | (with_reducible refine Ab.fr ?_ (by with_reducible assumption))))) (by (first | (with_reducible assumption) | omega | (simp only [World.size_alloc, World.size_setCell, World.size_drew, World.heap_drewN]; omega) | (simp; done) | (simp; omega)))) _ 1 [.string s] rfl (RdS.new rfl rfl) (by simp [Value.oneCell']) (by unfold maxLen; omega) (by omega) (by (first | (with_reducible assumption) | omega | (simp only [World.size_alloc, World.size_setCell, World.size_drew, World.heap_drewN]; omega) | (simp; done) | (simp; omega))) ?_; intro ao' cap' w3 hown hgrow hat; have BR := (BR.alloc _).row hgrow o1.2 (by (first | (with_reducible assumption) | omega | (simp only [World.size_alloc, World.size_setCell, World.size_drew, World.heap_drewN]; omega) | (simp; done) | (simp; omega))); have BO := (BO.alloc _).row hgrow o1.2 (by (first | (with_reducible assumption) | omega | (simp only [World.size_alloc, World.size_setCell, World.size_drew, World.heap_drewN]; omega) | (simp; done) | (simp; omega))); have FRR := BR.facts; have FO := BO.facts; have hf3 : Fr w w3 := Fr.app (show Fr w _ by repeat (first | (with_reducible exact Fr.refl _) | (with_reducible assumption) | (with_reducible refine Fr.drewN ?_ _) | (with_reducible refine Fr.drew ?_) | (with_reducible refine Fr.alloc ?_ _) | (with_reducible refine Fr.setCell ?_ (by (first | (with_reducible assumption) | omega | (simp only [World.size_alloc, World.size_setCell, World.size_drew, World.heap_drewN]; omega) | (simp; done) | (simp; omega))) _) | (with_reducible refine Fr.trans ?_ (by with_reducible assumption)))) hgrow o1.2 (by (first | (with_reducible assumption) | omega | (simp only [World.size_alloc, World.size_setCell, World.size_drew, World.heap_drewN]; omega) | (simp; done) | (simp; omega)))))
    rw [HD.out]
    have n1 := ne_block o1.2 hat w1.heap.size (.inl (Nat.le_refl _)) (by (first | (with_reducible assumption) | omega | (simp only [World.size_alloc, World.size_setCell, World.size_drew, World.heap_drewN]; omega) | (simp; done) | (simp; omega)))
    have n2 := ne_block o1.2 hat (w.heap.size + 1) (.inr (by (first | (with_reducible assumption) | omega | (simp only [World.size_alloc, World.size_setCell, World.size_drew, World.heap_drewN]; omega) | (simp; done) | (simp; omega)))) (by (first | (with_reducible assumption) | omega | (simp only [World.size_alloc, World.size_setCell, World.size_drew, World.heap_drewN]; omega) | (simp; done) | (simp; omega)))
    have hz := hgrow.size; (try simp only [World.size_alloc] at hz)
    refine bodyPost_ret (v := .tuple #[.agg #[.slice ao' (d.f0.length + 1) cap', .int .i64 d.f1, .int .i64 d.f2], .bool true]) (by simp [results, Try.results35, go_sem, *]) rfl ⟨ao', cap', by simp, ⟨ao', cap', by simp, ?_, ?_⟩, by repeat (first | (with_reducible exact Fr.refl _) | (with_reducible assumption) | (with_reducible refine Fr.drewN ?_ _) | (with_reducible refine Fr.drew ?_) | (with_reducible refine Fr.alloc ?_ _) | (with_reducible refine Fr.setCell ?_ (by (first | (with_reducible assumption) | omega | (simp only [World.size_alloc, World.size_setCell, World.size_drew, World.heap_drewN]; omega) | (simp; done) | (simp; omega))) _) | (with_reducible refine Fr.trans ?_ (by with_reducible assumption)))⟩
    · simp only [List.length_append, List.length_singleton, List.map_append, List.map_cons, List.map_nil]
      repeat (first | (with_reducible exact hown) | (refine owns_far ?_ (by first | (with_reducible assumption) | assumption) _))
    · simp only [List.length_append, List.length_singleton]
      exact (RowIn.of_owns hown).mono (Nat.le_refl _) (by (first | (with_reducible assumption) | omega | (simp only [World.size_alloc, World.size_setCell, World.size_drew, World.heap_drewN]; omega) | (simp; done) | (simp; omega)))
set_option maxHeartbeats 2000000 in
set_option maxRecDepth 100000 in
theorem specLinkPut_any (d : LinkD) (s : ByteArray) (hn : d.f0.length ≤ 1048576) (v : Value) (w : World) (hv : LinkRd w v d) :
    Calls Try.prog 43 #[v, .string s] w fun e w' => ∃ ao cap, e = .returned (.tuple #[.agg #[.slice ao (putD d s).f0.length cap, .int .i64 (putD d s).f1, .int .i64 (putD d s).f2], .bool (putB d s)]) ∧ LinkW w' w.heap.size w'.heap.size (.agg #[.slice ao (putD d s).f0.length cap, .int .i64 (putD d s).f1, .int .i64 (putD d s).f2]) (putD d s) ∧ Fr w w' := by
  obtain ⟨u, rfl, hu⟩ := hv
  have hv : LinkRd w _ d := ⟨_, rfl, hu⟩
  have hl := hu.le
  obtain ⟨i0, hi, hz0, hz1, hz2⟩ := info_parts info_string
  obtain ⟨a0, c0, rfl, _⟩ := RdS.val hu
  go_enter Try.func43, Try.ntmps43
  go_wp2_with fail
  refine (l18Copy_any _ d _ (hv.fr (by repeat (first | (with_reducible exact Fr.refl _) | (with_reducible assumption) | (with_reducible refine Fr.drewN ?_ _) | (with_reducible refine Fr.drew ?_) | (with_reducible refine Fr.alloc ?_ _) | (with_reducible refine Fr.setCell ?_ (by (first | (with_reducible assumption) | omega | (simp only [World.size_alloc, World.size_setCell, World.size_drew, World.heap_drewN]; omega) | (simp; done) | (simp; omega))) _) | (with_reducible refine Fr.trans ?_ (by with_reducible assumption))))) hn).mono ?_
  rintro e w1 ⟨ao, cap, rfl, o1, hf1⟩
  have BL : Box w1 (w.heap.size) #[.slice a0 d.f0.length c0, .int .i64 d.f1, .int .i64 d.f2] 53 := (Box.new' (w := w) rfl).fr (by repeat (first | (with_reducible exact Fr.refl _) | (with_reducible assumption) | (with_reducible refine Fr.drewN ?_ _) | (with_reducible refine Fr.drew ?_) | (with_reducible refine Fr.alloc ?_ _) | (with_reducible refine Fr.setCell ?_ (by (first | (with_reducible assumption) | omega | (simp only [World.size_alloc, World.size_setCell, World.size_drew, World.heap_drewN]; omega) | (simp; done) | (simp; omega))) _) | (with_reducible refine Fr.trans ?_ (by with_reducible assumption))))
  have BR : Box w1 (w.heap.size + 1) #[.slice none 0 0, .int .i64 0, .int .i64 0] 53 := (Box.new' (w := w.alloc (.cells #[.slice a0 d.f0.length c0, .int .i64 d.f1, .int .i64 d.f2] 53)) (by simp)).fr (by repeat (first | (with_reducible exact Fr.refl _) | (with_reducible assumption) | (with_reducible refine Fr.drewN ?_ _) | (with_reducible refine Fr.drew ?_) | (with_reducible refine Fr.alloc ?_ _) | (with_reducible refine Fr.setCell ?_ (by (first | (with_reducible assumption) | omega | (simp only [World.size_alloc, World.size_setCell, World.size_drew, World.heap_drewN]; omega) | (simp; done) | (simp; omega))) _) | (with_reducible refine Fr.trans ?_ (by with_reducible assumption))))
  have FL := BL.facts; have FRR := BR.facts
  have z1 := hf1.size; (try simp only [World.size_alloc, World.size_setCell, World.size_drew] at z1)
  obtain ⟨_, _, h9, o1⟩ := o1
  cases h9
  have BO : Box (w1.alloc (.cells #[.slice ao d.f0.length cap, .int .i64 d.f1, .int .i64 d.f2] 53)) (w1.heap.size) #[.slice ao d.f0.length cap, .int .i64 d.f1, .int .i64 d.f2] 53 := Box.new _ _ _
  go_wp2_with (at_builtin; refine wpList_append_rd rfl _ _ 47 rfl w.heap.size 9 i0 (.string ⟨#[]⟩) 1 16 Try.underlying47 hi hz0 hz1 hz2 rfl (by decide) (.slice ao d.f0.length cap) d.f0.length (d.f0.map Value.string) rfl (by exact owns_lo (owns_ab o1.1 (by repeat (first | (with_reducible exact Ab.refl _ _) | (with_reducible assumption) | (with_reducible refine Ab.drewN ?_ _) | (with_reducible refine Ab.drew ?_) | (with_reducible refine Ab.alloc ?_ _) | (with_reducible refine Ab.setCell ?_ (by (first | (with_reducible assumption) | omega | (simp only [World.size_alloc, World.size_setCell, World.size_drew, World.heap_drewN]; omega) | (simp; done) | (simp; omega))) _) | (with_reducible refine Ab.fr ?_ (by with_reducible assumption))))) (by (first | (with_reducible assumption) | omega | (simp only [World.size_alloc, World.size_setCell, World.size_drew, World.heap_drewN]; omega) | (simp; done) | (simp; omega)))) _ 1 [.string s] rfl (RdS.new (by simp) rfl) (by simp [Value.oneCell']) (by unfold maxLen; omega) (by omega) (by (first | (with_reducible assumption) | omega | (simp only [World.size_alloc, World.size_setCell, World.size_drew, World.heap_drewN]; omega) | (simp; done) | (simp; omega))) ?_; intro ao' cap' w3 hown hgrow hat; have BL := ((BL.alloc _).alloc _).row hgrow o1.2 (by (first | (with_reducible assumption) | omega | (simp only [World.size_alloc, World.size_setCell, World.size_drew, World.heap_drewN]; omega) | (simp; done) | (simp; omega))); have BR := ((BR.alloc _).alloc _).row hgrow o1.2 (by (first | (with_reducible assumption) | omega | (simp only [World.size_alloc, World.size_setCell, World.size_drew, World.heap_drewN]; omega) | (simp; done) | (simp; omega))); have BO := (BO.alloc _).row hgrow o1.2 (by (first | (with_reducible assumption) | omega | (simp only [World.size_alloc, World.size_setCell, World.size_drew, World.heap_drewN]; omega) | (simp; done) | (simp; omega))); have FL := BL.facts; have FRR := BR.facts; have FO := BO.facts; have hf3 : Fr w w3 := Fr.app (show Fr w _ by repeat (first | (with_reducible exact Fr.refl _) | (with_reducible assumption) | (with_reducible refine Fr.drewN ?_ _) | (with_reducible refine Fr.drew ?_) | (with_reducible refine Fr.alloc ?_ _) | (with_reducible refine Fr.setCell ?_ (by (first | (with_reducible assumption) | omega | (simp only [World.size_alloc, World.size_setCell, World.size_drew, World.heap_drewN]; omega) | (simp; done) | (simp; omega))) _) | (with_reducible refine Fr.trans ?_ (by with_reducible assumption)))) hgrow o1.2 (by (first | (with_reducible assumption) | omega | (simp only [World.size_alloc, World.size_setCell, World.size_drew, World.heap_drewN]; omega) | (simp; done) | (simp; omega))))
  have n1 := ne_block o1.2 hat w1.heap.size (.inl (Nat.le_refl _)) (by (first | (with_reducible assumption) | omega | (simp only [World.size_alloc, World.size_setCell, World.size_drew, World.heap_drewN]; omega) | (simp; done) | (simp; omega)))
  have n2 := ne_block o1.2 hat (w.heap.size + 1) (.inr (by (first | (with_reducible assumption) | omega | (simp only [World.size_alloc, World.size_setCell, World.size_drew, World.heap_drewN]; omega) | (simp; done) | (simp; omega)))) (by (first | (with_reducible assumption) | omega | (simp only [World.size_alloc, World.size_setCell, World.size_drew, World.heap_drewN]; omega) | (simp; done) | (simp; omega)))
  have hz := hgrow.size; (try simp only [World.size_alloc] at hz)
  have hown2 : StrsO (w3.setCell ⟨w1.heap.size, 0, none⟩ (.slice ao' (d.f0.length + 1) cap')) w.heap.size (.slice ao' (d.f0.length + 1) cap') (d.f0 ++ [s]) := by
    unfold StrsO
    simp only [List.length_append, List.length_singleton, List.map_append, List.map_cons, List.map_nil]
    repeat (first | (with_reducible exact hown) | (refine owns_far ?_ (by first | (with_reducible assumption) | assumption) _))
  have BL := BL.other (p := ⟨w1.heap.size, 0, none⟩) (by simp; omega) (.slice ao' (d.f0.length + 1) cap')
  have BR := BR.other (p := ⟨w1.heap.size, 0, none⟩) (by simp; omega) (.slice ao' (d.f0.length + 1) cap')
  have BO := BO.set 0 (.slice ao' (d.f0.length + 1) cap')
  refine (specLinkOk_any _ d.f0 d.f1 d.f2 _ (hu.fr (by repeat (first | (with_reducible exact Fr.refl _) | (with_reducible assumption) | (with_reducible refine Fr.drewN ?_ _) | (with_reducible refine Fr.drew ?_) | (with_reducible refine Fr.alloc ?_ _) | (with_reducible refine Fr.setCell ?_ (by (first | (with_reducible assumption) | omega | (simp only [World.size_alloc, World.size_setCell, World.size_drew, World.heap_drewN]; omega) | (simp; done) | (simp; omega))) _) | (with_reducible refine Fr.trans ?_ (by with_reducible assumption)))))).mono ?_
  rintro e w4 ⟨rfl, hf4⟩
  have hz4 := hf4.size; (try simp only [World.size_alloc, World.size_setCell] at hz4)
  have BL := BL.fr hf4; have BR := BR.fr hf4; have BO := BO.fr hf4
  have FL := BL.facts; have FRR := BR.facts; have FO := BO.facts
  have o4 := hown2.fr hf4
  cases hb : putB d s
  all_goals have HB := Lib.hid hb; clear hb
  · have HD := Lib.hid (putD_no HB.out)
    cases h1 : linkB d.f0 d.f1 d.f2
    · go_wp2_with fail
      refine (l18Copy_any _ d _ (hv.fr (by repeat (first | (with_reducible exact Fr.refl _) | (with_reducible assumption) | (with_reducible refine Fr.drewN ?_ _) | (with_reducible refine Fr.drew ?_) | (with_reducible refine Fr.alloc ?_ _) | (with_reducible refine Fr.setCell ?_ (by (first | (with_reducible assumption) | omega | (simp only [World.size_alloc, World.size_setCell, World.size_drew, World.heap_drewN]; omega) | (simp; done) | (simp; omega))) _) | (with_reducible refine Fr.trans ?_ (by with_reducible assumption))))) hn).mono ?_
      rintro e w5 ⟨ao5, cap5, rfl, o5, hf5⟩
      have hz5 := hf5.size; (try simp only [World.size_alloc, World.size_setCell] at hz5)
      have BR := BR.fr hf5
      have FRR := BR.facts
      go_wp2_with fail
      rw [HD.out]
      refine bodyPost_ret (v := .tuple #[.agg #[.slice ao5 d.f0.length cap5, .int .i64 d.f1, .int .i64 d.f2], .bool false]) (by simp [results, Try.results43, go_sem, *]) rfl ⟨_, _, by rw [HB.out], ⟨ao5, cap5, rfl, ?_⟩, by repeat (first | (with_reducible exact Fr.refl _) | (with_reducible assumption) | (with_reducible refine Fr.drewN ?_ _) | (with_reducible refine Fr.drew ?_) | (with_reducible refine Fr.alloc ?_ _) | (with_reducible refine Fr.setCell ?_ (by (first | (with_reducible assumption) | omega | (simp only [World.size_alloc, World.size_setCell, World.size_drew, World.heap_drewN]; omega) | (simp; done) | (simp; omega))) _) | (with_reducible refine Fr.trans ?_ (by with_reducible assumption)))⟩
      obtain ⟨_, _, h9, o5⟩ := o5
      cases h9
      exact OwW.mono (OwW.ab o5 (by repeat (first | (with_reducible exact Ab.refl _ _) | (with_reducible assumption) | (with_reducible refine Ab.drewN ?_ _) | (with_reducible refine Ab.drew ?_) | (with_reducible refine Ab.alloc ?_ _) | (with_reducible refine Ab.setCell ?_ (by (first | (with_reducible assumption) | omega | (simp only [World.size_alloc, World.size_setCell, World.size_drew, World.heap_drewN]; omega) | (simp; done) | (simp; omega))) _) | (with_reducible refine Ab.fr ?_ (by with_reducible assumption))))) (by (first | (with_reducible assumption) | omega | (simp only [World.size_alloc, World.size_setCell, World.size_drew, World.heap_drewN]; omega) | (simp; done) | (simp; omega))) (by (first | (with_reducible assumption) | omega | (simp only [World.size_alloc, World.size_setCell, World.size_drew, World.heap_drewN]; omega) | (simp; done) | (simp; omega)))
    · have h3 : linkB (d.f0 ++ [s]) d.f1 d.f2 = false := by
        have := HB.out
        rw [← putB_more h1]
        exact this
      have H3 := Lib.hid h3
      clear h3
      go_wp2_with fail
      refine (specLinkOk_any (.slice ao' (d.f0.length + 1) cap') (d.f0 ++ [s]) d.f1 d.f2 _ (by exact o4.rd)).mono ?_
      rintro e w5 ⟨rfl, hf5⟩
      rw [H3.out]
      have hz5 := hf5.size; (try simp only [World.size_alloc, World.size_setCell] at hz5)
      have BL := BL.fr hf5; have BR := BR.fr hf5
      have FL := BL.facts; have FRR := BR.facts
      go_wp2_with fail
      refine (l18Copy_any _ d _ (hv.fr (by repeat (first | (with_reducible exact Fr.refl _) | (with_reducible assumption) | (with_reducible refine Fr.drewN ?_ _) | (with_reducible refine Fr.drew ?_) | (with_reducible refine Fr.alloc ?_ _) | (with_reducible refine Fr.setCell ?_ (by (first | (with_reducible assumption) | omega | (simp only [World.size_alloc, World.size_setCell, World.size_drew, World.heap_drewN]; omega) | (simp; done) | (simp; omega))) _) | (with_reducible refine Fr.trans ?_ (by with_reducible assumption))))) hn).mono ?_
      rintro e w6 ⟨ao5, cap5, rfl, o5, hf6⟩
      have hz6 := hf6.size; (try simp only [World.size_alloc, World.size_setCell] at hz6)
      have BR := BR.fr hf6
      have FRR := BR.facts
      go_wp2_with fail
      rw [HD.out]
      refine bodyPost_ret (v := .tuple #[.agg #[.slice ao5 d.f0.length cap5, .int .i64 d.f1, .int .i64 d.f2], .bool false]) (by simp [results, Try.results43, go_sem, *]) rfl ⟨_, _, by rw [HB.out], ⟨ao5, cap5, rfl, ?_⟩, by repeat (first | (with_reducible exact Fr.refl _) | (with_reducible assumption) | (with_reducible refine Fr.drewN ?_ _) | (with_reducible refine Fr.drew ?_) | (with_reducible refine Fr.alloc ?_ _) | (with_reducible refine Fr.setCell ?_ (by (first | (with_reducible assumption) | omega | (simp only [World.size_alloc, World.size_setCell, World.size_drew, World.heap_drewN]; omega) | (simp; done) | (simp; omega))) _) | (with_reducible refine Fr.trans ?_ (by with_reducible assumption)))⟩
      obtain ⟨_, _, h9, o5⟩ := o5
      cases h9
      exact OwW.mono (OwW.ab o5 (by repeat (first | (with_reducible exact Ab.refl _ _) | (with_reducible assumption) | (with_reducible refine Ab.drewN ?_ _) | (with_reducible refine Ab.drew ?_) | (with_reducible refine Ab.alloc ?_ _) | (with_reducible refine Ab.setCell ?_ (by (first | (with_reducible assumption) | omega | (simp only [World.size_alloc, World.size_setCell, World.size_drew, World.heap_drewN]; omega) | (simp; done) | (simp; omega))) _) | (with_reducible refine Ab.fr ?_ (by with_reducible assumption))))) (by (first | (with_reducible assumption) | omega | (simp only [World.size_alloc, World.size_setCell, World.size_drew, World.heap_drewN]; omega) | (simp; done) | (simp; omega))) (by (first | (with_reducible assumption) | omega | (simp only [World.size_alloc, World.size_setCell, World.size_drew, World.heap_drewN]; omega) | (simp; done) | (simp; omega)))
  · have HD := Lib.hid (putD_ok HB.out)
    obtain ⟨h1, h2, h3⟩ := putB_parts HB.out
    have h3 : linkB (d.f0 ++ [s]) d.f1 d.f2 = true := by
      have := HB.out
      rw [← putB_more h1]
      exact this
    have H3 := Lib.hid h3
    clear h3
    go_wp2_with fail
    refine (specLinkOk_any (.slice ao' (d.f0.length + 1) cap') (d.f0 ++ [s]) d.f1 d.f2 _ (by exact o4.rd)).mono ?_
    rintro e w5 ⟨rfl, hf5⟩
    rw [H3.out]
    have hz5 := hf5.size; (try simp only [World.size_alloc, World.size_setCell] at hz5)
    have BR := BR.fr hf5; have BO := BO.fr hf5
    have FRR := BR.facts; have FO := BO.facts
    have o5 := o4.fr hf5
    unfold StrsO at o5
    simp only [List.length_append, List.length_singleton] at o5
    go_wp2_with fail
    rw [HD.out]
    refine bodyPost_ret (v := .tuple #[.agg #[.slice ao' (d.f0.length + 1) cap', .int .i64 d.f1, .int .i64 d.f2], .bool true]) (by simp [results, Try.results43, go_sem, *]) rfl ⟨ao', cap', by simp [HB.out], ⟨ao', cap', by simp, ?_, ?_⟩, by repeat (first | (with_reducible exact Fr.refl _) | (with_reducible assumption) | (with_reducible refine Fr.drewN ?_ _) | (with_reducible refine Fr.drew ?_) | (with_reducible refine Fr.alloc ?_ _) | (with_reducible refine Fr.setCell ?_ (by (first | (with_reducible assumption) | omega | (simp only [World.size_alloc, World.size_setCell, World.size_drew, World.heap_drewN]; omega) | (simp; done) | (simp; omega))) _) | (with_reducible refine Fr.trans ?_ (by with_reducible assumption)))⟩
    · simp only [List.length_append, List.length_singleton]
      repeat (first | (with_reducible exact o5) | (refine owns_far ?_ (by first | (with_reducible assumption) | assumption) _))
    · simp only [List.length_append, List.length_singleton]
      exact (RowIn.of_owns o5).mono (Nat.le_refl _) (by (first | (with_reducible assumption) | omega | (simp only [World.size_alloc, World.size_setCell, World.size_drew, World.heap_drewN]; omega) | (simp; done) | (simp; omega)))
end Go.Proofs.Ytnlcgffffjjojaa
