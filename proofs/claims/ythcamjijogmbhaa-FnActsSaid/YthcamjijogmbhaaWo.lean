/- The reference's l14Without: the files of a disk without those of a name. Condition: a bound on the length of what is read, which the callers pay. -/
import Derived.Test.YthcamjijogmbhaaPut
namespace Go.Proofs.Ythcamjijogmbhaa
open Go.RowKit
set_option linter.unusedVariables false
set_option linter.unusedSimpArgs false
def neF (nm : ByteArray) (x : FileR) : Bool := !(x.f0.toList == nm.toList)
def woF (xs : List FileR) (nm : ByteArray) : List FileR := xs.filter (neF nm)
set_option maxHeartbeats 8000000 in
set_option maxRecDepth 100000 in
theorem l14Without_any (v : Value) (xs : List FileR) (nm : ByteArray) (w : World) (hv : DiskRd w v ⟨xs⟩) (hn : xs.length ≤ 1048576) :
    Calls Try.prog 137 #[v, .string nm] w fun e w' => ∃ ao cap, e = .returned (.agg #[.slice ao (woF xs nm).length cap]) ∧ FilesW w' w.heap.size w'.heap.size (.slice ao (woF xs nm).length cap) (woF xs nm) ∧ Fr w w' := by
  obtain ⟨i0, hi, hz0, hz1, hz2⟩ := info_parts info_File
  obtain ⟨u, rfl, hu⟩ := hv
  simp only [] at hu
  have hl := hu.le
  obtain ⟨a0, b0, o0, c0, rfl, hc0, hm0, f0⟩ := hu.one
  have F0 := Lib.hid f0
  clear f0
  go_enter Try.func137, Try.ntmps137
  have BD0 : Box (((w.alloc (.cells #[.slice a0 xs.length c0] 64)).alloc (.cells #[.slice none 0 0] 64)).alloc (.cells #[.slice none 0 0] 64)) w.heap.size #[.slice a0 xs.length c0] 64 := ((Box.new _ _ _).alloc _).alloc _
  have BR0 : Box (((w.alloc (.cells #[.slice a0 xs.length c0] 64)).alloc (.cells #[.slice none 0 0] 64)).alloc (.cells #[.slice none 0 0] 64)) (w.heap.size + 1) #[.slice none 0 0] 64 := (Box.new' (by simp)).alloc _
  have BO0 : Box (((w.alloc (.cells #[.slice a0 xs.length c0] 64)).alloc (.cells #[.slice none 0 0] 64)).alloc (.cells #[.slice none 0 0] 64)) (w.heap.size + 1 + 1) #[.slice none 0 0] 64 := Box.new' (by simp)
  go_wp2_with fail
  go_loopw [6] (fun i wr => ∃ (k : Nat) (l : List FileR) (ao : Option Addr) (cap : Nat), k ≤ xs.length ∧ i = .int .i64 k ∧ Hid (l = selK (neF nm) xs k) ∧ wr.ownsRow (w.heap.size + 1 + 1 + 1) 135 3 (.slice ao l.length cap) l.length (l.flatMap FileR.cells) ∧ Box wr (w.heap.size + 1 + 1) #[.slice ao l.length cap] 64 ∧ Box wr w.heap.size #[.slice a0 xs.length c0] 64 ∧ Box wr (w.heap.size + 1) #[.slice none 0 0] 64 ∧ Fr w wr) (fun i _ => xs.length - (intOf i).toNat)
  case atStart => exact ⟨0, [], none, 0, Nat.zero_le _, rfl, rfl, World.ownsRow_nil _ _ _ _, BO0, BD0, BR0, by repeat (first | (with_reducible exact Fr.refl _) | (with_reducible assumption) | (with_reducible refine Fr.drewN ?_ _) | (with_reducible refine Fr.drew ?_) | (with_reducible refine Fr.alloc ?_ _) | (with_reducible refine Fr.setCell ?_ (by (first | (with_reducible assumption) | omega | (simp only [World.size_alloc, World.size_setCell, World.size_drew, World.heap_drewN]; omega) | (simp; done) | (simp; omega))) _) | (with_reducible refine Fr.trans ?_ (by with_reducible assumption)))⟩
  case round =>
    clear BO0 BR0 BD0
    obtain ⟨k, l, ao, cap, hk, rfl, hl2, ho, BO, BD, BR, hfr⟩ := hrel
    have FO := BO.facts; have FD := BD.facts
    have hzo := BO.lt
    by_cases hlt : k < xs.length
    · obtain ⟨rfl, hb0, f0⟩ := F0.out (by omega)
      obtain ⟨x, hx⟩ : ∃ x, fileAt xs k = x := ⟨_, rfl⟩
      have fk := f0 k hlt
      rw [hx] at fk
      obtain ⟨g0, g1, g2⟩ := fk
      have q0 := (hfr.cell (p := ⟨b0, _, none⟩) hb0).trans g0
      have q1 := (hfr.cell (p := ⟨b0, _, none⟩) hb0).trans g1
      have q2 := (hfr.cell (p := ⟨b0, _, none⟩) hb0).trans g2
      clear g0 g1 g2 f0
      cases hp : (x.f0.toList == nm.toList)
      · have hs : Hid (l ++ [x] = _) := ((selK_yes (p := neF nm) hlt hx (by unfold neF; rw [hp]; rfl)).trans (congrArg (· ++ [x]) hl2.out.symm)).symm
        have hml : l.length ≤ 3000000 := by have h1 := selK_le (neF nm) xs k hk; have h2 := congrArg List.length hl2.out; omega
        have HC := Lib.hid (cells_snoc l x)
        have HL := Lib.hid (show (l ++ [x]).length = l.length + 1 by simp)
        clear hx
        go_wp2_with fail
        go_region_law ((refine step_append_rd (by rfl) _ _ 62 (by rfl) (w.heap.size + 1 + 1 + 1) 135 i0 (.agg #[.string ⟨#[]⟩, .string ⟨#[]⟩, .int .i64 0]) 3 40 Try.underlying62 hi hz0 hz1 hz2 rfl (by decide) (.slice ao l.length cap) l.length (l.flatMap FileR.cells) (by rfl) (by exact owns_lo (owns_ab ho (by repeat (first | (with_reducible exact Ab.refl _ _) | (with_reducible assumption) | (with_reducible refine Ab.drewN ?_ _) | (with_reducible refine Ab.drew ?_) | (with_reducible refine Ab.alloc ?_ _) | (with_reducible refine Ab.setCell ?_ (by (first | (with_reducible assumption) | omega | (simp only [World.size_alloc, World.size_setCell, World.size_drew, World.heap_drewN]; omega) | (simp; done) | (simp; omega))) _) | (with_reducible refine Ab.fr ?_ (by with_reducible assumption))))) (by (first | (with_reducible assumption) | omega | (simp only [World.size_alloc, World.size_setCell, World.size_drew, World.heap_drewN]; omega) | (simp; done) | (simp; omega)))) _ 1 [.string x.f0, .string x.f1, .int .i64 x.f2] (by rfl) (RdS.drew (RdS.new (by first | rfl | (simp; done)) rfl)) (by simp [Value.oneCell']) (by unfold maxLen; omega) (by omega) (by (first | (with_reducible assumption) | omega | (simp only [World.size_alloc, World.size_setCell, World.size_drew, World.heap_drewN]; omega) | (simp; done) | (simp; omega))) ?_; intro ao3 cap3 w3 hown hgrow hat; have BO3 := (BO.alloc _).drew.row hgrow (RowIn.of_owns ho) (by (first | (with_reducible assumption) | omega | (simp only [World.size_alloc, World.size_setCell, World.size_drew, World.heap_drewN]; omega) | (simp; done) | (simp; omega))); have FO3 := BO3.facts))
        all_goals
          go_wp2_with fail
          have BD3 := (BD.alloc _).drew.row hgrow (RowIn.of_owns ho) (by (first | (with_reducible assumption) | omega | (simp only [World.size_alloc, World.size_setCell, World.size_drew, World.heap_drewN]; omega) | (simp; done) | (simp; omega)))
          have BR3 := (BR.alloc _).drew.row hgrow (RowIn.of_owns ho) (by (first | (with_reducible assumption) | omega | (simp only [World.size_alloc, World.size_setCell, World.size_drew, World.heap_drewN]; omega) | (simp; done) | (simp; omega)))
          have hf3 : Fr w w3 := Fr.app (show Fr w _ by repeat (first | (with_reducible exact Fr.refl _) | (with_reducible assumption) | (with_reducible refine Fr.drewN ?_ _) | (with_reducible refine Fr.drew ?_) | (with_reducible refine Fr.alloc ?_ _) | (with_reducible refine Fr.setCell ?_ (by (first | (with_reducible assumption) | omega | (simp only [World.size_alloc, World.size_setCell, World.size_drew, World.heap_drewN]; omega) | (simp; done) | (simp; omega))) _) | (with_reducible refine Fr.trans ?_ (by with_reducible assumption)))) hgrow (RowIn.of_owns ho) (by (first | (with_reducible assumption) | omega | (simp only [World.size_alloc, World.size_setCell, World.size_drew, World.heap_drewN]; omega) | (simp; done) | (simp; omega)))
          rw [← HC.out] at hown
          have hr3 := RowIn.of_owns hown
          have ho3 := owns_far hown (p := ⟨w.heap.size + 1 + 1, 0, none⟩) (fun e => by have := hr3 _ e; simp at this; omega) (.slice ao3 (l.length + 1) cap3)
          go_roundw
          case rel => refine ⟨k + 1, l ++ [x], ao3, cap3, by omega, by go_num, hs, ?_, ?_, BD3.other (by simp; try omega) _, BR3.other (by simp; try omega) _, by repeat (first | (with_reducible exact Fr.refl _) | (with_reducible assumption) | (with_reducible refine Fr.drewN ?_ _) | (with_reducible refine Fr.drew ?_) | (with_reducible refine Fr.alloc ?_ _) | (with_reducible refine Fr.setCell ?_ (by (first | (with_reducible assumption) | omega | (simp only [World.size_alloc, World.size_setCell, World.size_drew, World.heap_drewN]; omega) | (simp; done) | (simp; omega))) _) | (with_reducible refine Fr.trans ?_ (by with_reducible assumption)))⟩; (rw [HL.out]; exact ho3); (rw [HL.out]; exact BO3.set 0 _)
          case measure => (simp [intOf]; omega)
      · have hs : Hid (l = _) := hl2.out.trans (selK_no (p := neF nm) hlt hx (by unfold neF; rw [hp]; rfl)).symm
        clear hx
        go_wp2_with fail
        go_roundw
        case rel => exact ⟨k + 1, l, ao, cap, by omega, by go_num, hs, ho, BO, BD, BR, by repeat (first | (with_reducible exact Fr.refl _) | (with_reducible assumption) | (with_reducible refine Fr.drewN ?_ _) | (with_reducible refine Fr.drew ?_) | (with_reducible refine Fr.alloc ?_ _) | (with_reducible refine Fr.setCell ?_ (by (first | (with_reducible assumption) | omega | (simp only [World.size_alloc, World.size_setCell, World.size_drew, World.heap_drewN]; omega) | (simp; done) | (simp; omega))) _) | (with_reducible refine Fr.trans ?_ (by with_reducible assumption)))⟩
        case measure => (simp [intOf]; omega)
    · obtain rfl : k = xs.length := by omega
      have hs := hl2.out
      rw [selK_all] at hs
      have HS : Hid (l = woF xs nm) := hs
      clear hs
      have FR2 := BR.facts
      go_wp2_with fail
      rw [← HS.out]
      refine bodyPost_ret (v := .agg #[.slice ao l.length cap]) (by simp [results, Try.results137, go_sem, *]) rfl ⟨ao, cap, rfl, ?_, by repeat (first | (with_reducible exact Fr.refl _) | (with_reducible assumption) | (with_reducible refine Fr.drewN ?_ _) | (with_reducible refine Fr.drew ?_) | (with_reducible refine Fr.alloc ?_ _) | (with_reducible refine Fr.setCell ?_ (by (first | (with_reducible assumption) | omega | (simp only [World.size_alloc, World.size_setCell, World.size_drew, World.heap_drewN]; omega) | (simp; done) | (simp; omega))) _) | (with_reducible refine Fr.trans ?_ (by with_reducible assumption)))⟩
      have o1 : FilesW wr (w.heap.size + 1 + 1 + 1) wr.heap.size (.slice ao l.length cap) l := OwW.of_owns ho
      refine OwW.mono (lo := w.heap.size + 1 + 1 + 1) (hi := wr.heap.size) ?_ (by (first | (with_reducible assumption) | omega | (simp only [World.size_alloc, World.size_setCell, World.size_drew, World.heap_drewN]; omega) | (simp; done) | (simp; omega))) (by (first | (with_reducible assumption) | omega | (simp only [World.size_alloc, World.size_setCell, World.size_drew, World.heap_drewN]; omega) | (simp; done) | (simp; omega)))
      change OwW _ _ _ _ _ _ _ _; (repeat (first | (with_reducible refine OwW.drewN ?_ _) | (with_reducible refine OwW.drew ?_) | (with_reducible refine OwW.alloc ?_ _) | (with_reducible refine OwW.set ?_ (by (first | (with_reducible assumption) | omega | (simp only [World.size_alloc, World.size_setCell, World.size_drew, World.heap_drewN]; omega) | (simp; done) | (simp; omega))) _) | (exact o1)))
end Go.Proofs.Ythcamjijogmbhaa
