/- Texts in one: Put, Wo. -/
import Derived.Test.YtjgghiniajmfjaaKLose
import Derived.Deep.RegionLaw
/- The reference's l14Put: a file in its place among the files of a disk. Condition: a bound on the length of what is read, which the callers pay. -/
namespace Go.Proofs.Ytjgghiniajmfjaa
open Go.RowKit
set_option linter.unusedVariables false
set_option linter.unusedSimpArgs false
def selK (p : FileR → Bool) (xs : List FileR) (k : Nat) : List FileR := (xs.take k).filter p
theorem selK_yes {p : FileR → Bool} {xs : List FileR} {k : Nat} {x : FileR} (hk : k < xs.length) (hx : fileAt xs k = x) (h : p x = true) : selK p xs (k + 1) = selK p xs k ++ [x] := by
  have e : xs[k] = x := by rw [← hx]; simp [fileAt, List.getD, List.getElem?_eq_getElem hk]
  unfold selK
  rw [List.take_succ_eq_append_getElem hk, List.filter_append, e]
  simp [h]
theorem selK_no {p : FileR → Bool} {xs : List FileR} {k : Nat} {x : FileR} (hk : k < xs.length) (hx : fileAt xs k = x) (h : p x = false) : selK p xs (k + 1) = selK p xs k := by
  have e : xs[k] = x := by rw [← hx]; simp [fileAt, List.getD, List.getElem?_eq_getElem hk]
  unfold selK
  rw [List.take_succ_eq_append_getElem hk, List.filter_append, e]
  simp [h]
theorem selK_all (p : FileR → Bool) (xs : List FileR) : selK p xs xs.length = xs.filter p := by unfold selK; rw [List.take_length]
theorem selK_le (p : FileR → Bool) (xs : List FileR) (k : Nat) (hk : k ≤ xs.length) : (selK p xs k).length ≤ k := by
  unfold selK
  have := List.length_filter_le p (xs.take k)
  rw [List.length_take] at this
  omega
def ltF (nm : ByteArray) (x : FileR) : Bool := lessB x.f0 nm
def gtF (nm : ByteArray) (x : FileR) : Bool := !(lessB x.f0 nm || x.f0.toList == nm.toList)
def putF (xs : List FileR) (f : FileR) : List FileR := xs.filter (ltF f.f0) ++ [f] ++ xs.filter (gtF f.f0)
def putK (xs : List FileR) (f : FileR) (k : Nat) : List FileR := xs.filter (ltF f.f0) ++ [f] ++ selK (gtF f.f0) xs k
theorem putK_zero (xs : List FileR) (f : FileR) : putK xs f 0 = xs.filter (ltF f.f0) ++ [f] := by simp [putK, selK]
theorem putK_all (xs : List FileR) (f : FileR) : putK xs f xs.length = putF xs f := by unfold putK putF; rw [selK_all]
theorem putK_yes {f : FileR} {xs : List FileR} {k : Nat} {x : FileR} (hk : k < xs.length) (hx : fileAt xs k = x) (h : gtF f.f0 x = true) : putK xs f (k + 1) = putK xs f k ++ [x] := by
  unfold putK; rw [selK_yes hk hx h, List.append_assoc, List.append_assoc, List.append_assoc]
theorem putK_no {f : FileR} {xs : List FileR} {k : Nat} {x : FileR} (hk : k < xs.length) (hx : fileAt xs k = x) (h : gtF f.f0 x = false) : putK xs f (k + 1) = putK xs f k := by
  unfold putK; rw [selK_no hk hx h]
theorem putK_le (xs : List FileR) (f : FileR) (k : Nat) (hk : k ≤ xs.length) : (putK xs f k).length ≤ xs.length + 1 + k := by
  unfold putK
  have h1 := List.length_filter_le (ltF f.f0) xs
  have h2 := selK_le (gtF f.f0) xs k hk
  simp only [List.length_append, List.length_singleton]
  omega
theorem cells_snoc (l : List FileR) (x : FileR) : (l ++ [x]).flatMap FileR.cells = l.flatMap FileR.cells ++ [.string x.f0, .string x.f1, .int .i64 x.f2] := by
  rw [List.flatMap_append]; simp [FileR.cells]
set_option maxHeartbeats 8000000 in
set_option maxRecDepth 100000 in
theorem l14Put_any (v : Value) (xs : List FileR) (f : FileR) (w : World) (hv : DiskRd w v ⟨xs⟩) (hn : xs.length ≤ 1048576) :
    Calls Try.prog 176 #[v, .agg #[.string f.f0, .string f.f1, .int .i64 f.f2]] w fun e w' => ∃ ao cap, e = .returned (.agg #[.slice ao (putF xs f).length cap]) ∧ FilesW w' w.heap.size w'.heap.size (.slice ao (putF xs f).length cap) (putF xs f) ∧ Fr w w' := by
  obtain ⟨i0, hi, hz0, hz1, hz2⟩ := info_parts info_File
  obtain ⟨u, rfl, hu⟩ := hv
  simp only [] at hu
  have hl := hu.le
  obtain ⟨a0, b0, o0, c0, rfl, hc0, hm0, f0⟩ := hu.one
  have F0 := Lib.hid f0
  clear f0
  go_enter Try.func176, Try.ntmps176
  have BD : Box (w.alloc (.cells #[.slice a0 xs.length c0] 46)) w.heap.size #[.slice a0 xs.length c0] 46 := Box.new _ _ _
  have BF : Box ((w.alloc (.cells #[.slice a0 xs.length c0] 46)).alloc (.cells #[.string f.f0, .string f.f1, .int .i64 f.f2] 147)) (w.heap.size + 1) #[.string f.f0, .string f.f1, .int .i64 f.f2] 147 := Box.new' (by simp)
  have BR : Box (((w.alloc (.cells #[.slice a0 xs.length c0] 46)).alloc (.cells #[.string f.f0, .string f.f1, .int .i64 f.f2] 147)).alloc (.cells #[.slice none 0 0] 46)) (w.heap.size + 1 + 1) #[.slice none 0 0] 46 := Box.new' (by simp)
  have BO : Box ((((w.alloc (.cells #[.slice a0 xs.length c0] 46)).alloc (.cells #[.string f.f0, .string f.f1, .int .i64 f.f2] 147)).alloc (.cells #[.slice none 0 0] 46)).alloc (.cells #[.slice none 0 0] 46)) (w.heap.size + 1 + 1 + 1) #[.slice none 0 0] 46 := Box.new' (by simp)
  have BD0 := ((BD.alloc (.cells #[.string f.f0, .string f.f1, .int .i64 f.f2] 147)).alloc (.cells #[.slice none 0 0] 46)).alloc (.cells #[.slice none 0 0] 46)
  have BF0 := (BF.alloc (.cells #[.slice none 0 0] 46)).alloc (.cells #[.slice none 0 0] 46)
  have BR0 := BR.alloc (.cells #[.slice none 0 0] 46)
  have BO0 := BO
  clear BD BF BR BO
  go_wp2_with fail
  go_loopw [6] (fun i wr => ∃ (k : Nat) (l : List FileR) (ao : Option Addr) (cap : Nat), k ≤ xs.length ∧ i = .int .i64 k ∧ Hid (l = selK (ltF f.f0) xs k) ∧ wr.ownsRow (w.heap.size + 1 + 1 + 1 + 1) 147 3 (.slice ao l.length cap) l.length (l.flatMap FileR.cells) ∧ Box wr (w.heap.size + 1 + 1 + 1) #[.slice ao l.length cap] 46 ∧ Box wr w.heap.size #[.slice a0 xs.length c0] 46 ∧ Box wr (w.heap.size + 1) #[.string f.f0, .string f.f1, .int .i64 f.f2] 147 ∧ Box wr (w.heap.size + 1 + 1) #[.slice none 0 0] 46 ∧ Fr w wr) (fun i _ => xs.length - (intOf i).toNat)
  case atStart => exact ⟨0, [], none, 0, Nat.zero_le _, rfl, rfl, World.ownsRow_nil _ _ _ _, BO0, BD0, BF0, BR0, by repeat (first | (with_reducible exact Fr.refl _) | (with_reducible assumption) | (with_reducible refine Fr.drewN ?_ _) | (with_reducible refine Fr.drew ?_) | (with_reducible refine Fr.alloc ?_ _) | (with_reducible refine Fr.setCell ?_ (by (first | (with_reducible assumption) | omega | (simp only [World.size_alloc, World.size_setCell, World.size_drew, World.heap_drewN]; omega) | (simp; done) | (simp; omega))) _) | (with_reducible refine Fr.trans ?_ (by with_reducible assumption)))⟩
  case round =>
    clear BO0 BR0 BF0 BD0
    obtain ⟨k, l, ao, cap, hk, rfl, hl2, ho, BO, BD, BF, BR, hfr⟩ := hrel
    have FO := BO.facts; have FD := BD.facts; have FF := BF.facts
    have hzo := BO.lt
    by_cases hlt : k < xs.length
    · obtain ⟨rfl, hb0, f0⟩ := F0.out (by omega)
      obtain ⟨x, hx⟩ : ∃ x, fileAt xs k = x := ⟨_, rfl⟩
      have fk := f0 k hlt
      rw [hx] at fk
      obtain ⟨g0, g1, g2⟩ := fk
      have q0 := (hfr.cell (p := ⟨b0, _, none⟩) hb0).trans g0
      have q1 := (hfr.cell (p := ⟨b0, _, none⟩) hb0).trans g1
      have q2 := (hfr.cell (p := ⟨b0, _, none⟩) hb0).trans g2
      clear g0 g1 g2 f0
      cases hp : lessB x.f0 f.f0
      · have hp2 : Op.bytesLess x.f0.toList f.f0.toList = false := hp
        have hs : Hid (l = _) := hl2.out.trans (selK_no (p := ltF f.f0) hlt hx hp).symm
        clear hp hx
        go_wp2_with fail
        go_quiet (fail)
        go_wp2_with fail
        go_roundw
        case rel => exact ⟨k + 1, l, ao, cap, by omega, by go_num, hs, owns_fr ho (by repeat (first | (with_reducible exact Fr.refl _) | (with_reducible assumption) | (with_reducible refine Fr.drewN ?_ _) | (with_reducible refine Fr.drew ?_) | (with_reducible refine Fr.alloc ?_ _) | (with_reducible refine Fr.setCell ?_ (by (first | (with_reducible assumption) | omega | (simp only [World.size_alloc, World.size_setCell, World.size_drew, World.heap_drewN]; omega) | (simp; done) | (simp; omega))) _) | (with_reducible refine Fr.trans ?_ (by with_reducible assumption)))), BO.drewN _, BD.drewN _, BF.drewN _, BR.drewN _, by repeat (first | (with_reducible exact Fr.refl _) | (with_reducible assumption) | (with_reducible refine Fr.drewN ?_ _) | (with_reducible refine Fr.drew ?_) | (with_reducible refine Fr.alloc ?_ _) | (with_reducible refine Fr.setCell ?_ (by (first | (with_reducible assumption) | omega | (simp only [World.size_alloc, World.size_setCell, World.size_drew, World.heap_drewN]; omega) | (simp; done) | (simp; omega))) _) | (with_reducible refine Fr.trans ?_ (by with_reducible assumption)))⟩
        case measure => (simp [intOf]; omega)
      · have hp2 : Op.bytesLess x.f0.toList f.f0.toList = true := hp
        have hs : Hid (l ++ [x] = _) := ((selK_yes hlt hx hp).trans (congrArg (· ++ [x]) hl2.out.symm)).symm
        have hml : l.length ≤ 3000000 := by have h1 := selK_le (ltF f.f0) xs k hk; have h2 := congrArg List.length hl2.out; omega
        have HC := Lib.hid (cells_snoc l x)
        have HL := Lib.hid (show (l ++ [x]).length = l.length + 1 by simp)
        clear hp hx
        go_wp2_with fail
        go_quiet (fail)
        have hb0r := Nat.lt_of_lt_of_le hb0 hfr.size
        have q0 := (((Fr.refl wr).drewN nq).cell (p := ⟨b0, _, none⟩) hb0r).trans q0
        have q1 := (((Fr.refl wr).drewN nq).cell (p := ⟨b0, _, none⟩) hb0r).trans q1
        have q2 := (((Fr.refl wr).drewN nq).cell (p := ⟨b0, _, none⟩) hb0r).trans q2
        have ho := owns_fr ho ((Fr.refl wr).drewN nq)
        have BO := BO.drewN nq; have BD := BD.drewN nq; have BF := BF.drewN nq; have BR := BR.drewN nq
        have hfr := hfr.drewN nq
        clear FO FD FF hzo hb0r
        generalize wr.drewN nq = wz at ho BO BD BF BR hfr q0 q1 q2 ⊢
        have FO := BO.facts; have FD := BD.facts
        have hzo := BO.lt
        have hb0r := Nat.lt_of_lt_of_le hb0 hfr.size
        go_wp2_with fail
        go_region_law ((refine step_append_rd (by rfl) _ _ 44 (by rfl) (w.heap.size + 1 + 1 + 1 + 1) 147 i0 (.agg #[.string ⟨#[]⟩, .string ⟨#[]⟩, .int .i64 0]) 3 40 Try.underlying44 hi hz0 hz1 hz2 rfl (by decide) (.slice ao l.length cap) l.length (l.flatMap FileR.cells) (by rfl) (by exact owns_lo (owns_ab ho (by repeat (first | (with_reducible exact Ab.refl _ _) | (with_reducible assumption) | (with_reducible refine Ab.drewN ?_ _) | (with_reducible refine Ab.drew ?_) | (with_reducible refine Ab.alloc ?_ _) | (with_reducible refine Ab.setCell ?_ (by (first | (with_reducible assumption) | omega | (simp only [World.size_alloc, World.size_setCell, World.size_drew, World.heap_drewN]; omega) | (simp; done) | (simp; omega))) _) | (with_reducible refine Ab.fr ?_ (by with_reducible assumption))))) (by (first | (with_reducible assumption) | omega | (simp only [World.size_alloc, World.size_setCell, World.size_drew, World.heap_drewN]; omega) | (simp; done) | (simp; omega)))) _ 1 [.string x.f0, .string x.f1, .int .i64 x.f2] (by rfl) (RdS.drew (RdS.new (by first | rfl | (simp; done)) rfl)) (by simp [Value.oneCell']) (by unfold maxLen; omega) (by omega) (by (first | (with_reducible assumption) | omega | (simp only [World.size_alloc, World.size_setCell, World.size_drew, World.heap_drewN]; omega) | (simp; done) | (simp; omega))) ?_; intro ao3 cap3 w3 hown hgrow hat; have BO3 := (BO.alloc _).drew.row hgrow (RowIn.of_owns ho) (by (first | (with_reducible assumption) | omega | (simp only [World.size_alloc, World.size_setCell, World.size_drew, World.heap_drewN]; omega) | (simp; done) | (simp; omega))); have FO3 := BO3.facts))
        all_goals
          go_wp2_with fail
          have BD3 := (BD.alloc _).drew.row hgrow (RowIn.of_owns ho) (by (first | (with_reducible assumption) | omega | (simp only [World.size_alloc, World.size_setCell, World.size_drew, World.heap_drewN]; omega) | (simp; done) | (simp; omega)))
          have BF3 := (BF.alloc _).drew.row hgrow (RowIn.of_owns ho) (by (first | (with_reducible assumption) | omega | (simp only [World.size_alloc, World.size_setCell, World.size_drew, World.heap_drewN]; omega) | (simp; done) | (simp; omega)))
          have BR3 := (BR.alloc _).drew.row hgrow (RowIn.of_owns ho) (by (first | (with_reducible assumption) | omega | (simp only [World.size_alloc, World.size_setCell, World.size_drew, World.heap_drewN]; omega) | (simp; done) | (simp; omega)))
          have hf3 : Fr w w3 := Fr.app (show Fr w _ by repeat (first | (with_reducible exact Fr.refl _) | (with_reducible assumption) | (with_reducible refine Fr.drewN ?_ _) | (with_reducible refine Fr.drew ?_) | (with_reducible refine Fr.alloc ?_ _) | (with_reducible refine Fr.setCell ?_ (by (first | (with_reducible assumption) | omega | (simp only [World.size_alloc, World.size_setCell, World.size_drew, World.heap_drewN]; omega) | (simp; done) | (simp; omega))) _) | (with_reducible refine Fr.trans ?_ (by with_reducible assumption)))) hgrow (RowIn.of_owns ho) (by (first | (with_reducible assumption) | omega | (simp only [World.size_alloc, World.size_setCell, World.size_drew, World.heap_drewN]; omega) | (simp; done) | (simp; omega)))
          rw [← HC.out] at hown
          have hr3 := RowIn.of_owns hown
          have ho3 := owns_far hown (p := ⟨w.heap.size + 1 + 1 + 1, 0, none⟩) (fun e => by have := hr3 _ e; simp at this; omega) (.slice ao3 (l.length + 1) cap3)
          go_roundw
          case rel => refine ⟨k + 1, l ++ [x], ao3, cap3, by omega, by go_num, hs, ?_, ?_, BD3.other (by simp; try omega) _, BF3.other (by simp; try omega) _, BR3.other (by simp; try omega) _, by repeat (first | (with_reducible exact Fr.refl _) | (with_reducible assumption) | (with_reducible refine Fr.drewN ?_ _) | (with_reducible refine Fr.drew ?_) | (with_reducible refine Fr.alloc ?_ _) | (with_reducible refine Fr.setCell ?_ (by (first | (with_reducible assumption) | omega | (simp only [World.size_alloc, World.size_setCell, World.size_drew, World.heap_drewN]; omega) | (simp; done) | (simp; omega))) _) | (with_reducible refine Fr.trans ?_ (by with_reducible assumption)))⟩; (rw [HL.out]; exact ho3); (rw [HL.out]; exact BO3.set 0 _)
          case measure => (simp [intOf]; omega)
    · obtain rfl : k = xs.length := by omega
      have hml : l.length ≤ 3000000 := by have h1 := selK_le (ltF f.f0) xs xs.length hk; have h2 := congrArg List.length hl2.out; omega
      have hs : Hid (l ++ [f] = putK xs f 0) := (by have := hl2.out; rw [selK_all] at this; rw [putK_zero, this]; exact rfl)
      have HC := Lib.hid (cells_snoc l f)
      have HL := Lib.hid (show (l ++ [f]).length = l.length + 1 by simp)
      go_wp2_with (at_builtin; refine wpList_append_rd rfl _ _ 44 rfl (w.heap.size + 1 + 1 + 1 + 1) 147 i0 (.agg #[.string ⟨#[]⟩, .string ⟨#[]⟩, .int .i64 0]) 3 40 Try.underlying44 hi hz0 hz1 hz2 rfl (by decide) _ l.length (l.flatMap FileR.cells) rfl (World.ownsRow.alloc ho _) _ 1 [.string f.f0, .string f.f1, .int .i64 f.f2] rfl (RdS.new (by first | rfl | simp) rfl) (by simp [Value.oneCell']) (by unfold maxLen; omega) (by omega) (by (first | (with_reducible assumption) | omega | (simp only [World.size_alloc, World.size_setCell, World.size_drew, World.heap_drewN]; omega) | (simp; done) | (simp; omega))) ?_; intro ao3 cap3 w3 hown hgrow hat; have BO3 := (BO.alloc _).row hgrow (RowIn.of_owns ho) (by (first | (with_reducible assumption) | omega | (simp only [World.size_alloc, World.size_setCell, World.size_drew, World.heap_drewN]; omega) | (simp; done) | (simp; omega))); have FO3 := BO3.facts)
      have BD3 := (BD.alloc _).row hgrow (RowIn.of_owns ho) (by (first | (with_reducible assumption) | omega | (simp only [World.size_alloc, World.size_setCell, World.size_drew, World.heap_drewN]; omega) | (simp; done) | (simp; omega)))
      have BF3 := (BF.alloc _).row hgrow (RowIn.of_owns ho) (by (first | (with_reducible assumption) | omega | (simp only [World.size_alloc, World.size_setCell, World.size_drew, World.heap_drewN]; omega) | (simp; done) | (simp; omega)))
      have BR3 := (BR.alloc _).row hgrow (RowIn.of_owns ho) (by (first | (with_reducible assumption) | omega | (simp only [World.size_alloc, World.size_setCell, World.size_drew, World.heap_drewN]; omega) | (simp; done) | (simp; omega)))
      have hf3 : Fr w w3 := Fr.app (show Fr w _ by repeat (first | (with_reducible exact Fr.refl _) | (with_reducible assumption) | (with_reducible refine Fr.drewN ?_ _) | (with_reducible refine Fr.drew ?_) | (with_reducible refine Fr.alloc ?_ _) | (with_reducible refine Fr.setCell ?_ (by (first | (with_reducible assumption) | omega | (simp only [World.size_alloc, World.size_setCell, World.size_drew, World.heap_drewN]; omega) | (simp; done) | (simp; omega))) _) | (with_reducible refine Fr.trans ?_ (by with_reducible assumption)))) hgrow (RowIn.of_owns ho) (by (first | (with_reducible assumption) | omega | (simp only [World.size_alloc, World.size_setCell, World.size_drew, World.heap_drewN]; omega) | (simp; done) | (simp; omega)))
      rw [← HC.out] at hown
      have hr3 := RowIn.of_owns hown
      have ho3 := owns_far hown (p := ⟨w.heap.size + 1 + 1 + 1, 0, none⟩) (fun e => by have := hr3 _ e; simp at this; omega) (.slice ao3 (l.length + 1) cap3)
      clear FO FD FF
      go_loopw [7] (fun i wr => ∃ (k : Nat) (l : List FileR) (ao : Option Addr) (cap : Nat), k ≤ xs.length ∧ i = .int .i64 k ∧ Hid (l = putK xs f k) ∧ wr.ownsRow (w.heap.size + 1 + 1 + 1 + 1) 147 3 (.slice ao l.length cap) l.length (l.flatMap FileR.cells) ∧ Box wr (w.heap.size + 1 + 1 + 1) #[.slice ao l.length cap] 46 ∧ Box wr w.heap.size #[.slice a0 xs.length c0] 46 ∧ Box wr (w.heap.size + 1) #[.string f.f0, .string f.f1, .int .i64 f.f2] 147 ∧ Box wr (w.heap.size + 1 + 1) #[.slice none 0 0] 46 ∧ Fr w wr) (fun i _ => xs.length - (intOf i).toNat)
      case atStart => refine ⟨0, l ++ [f], ao3, cap3, Nat.zero_le _, rfl, hs, ?_, ?_, BD3.other (by simp; try omega) _, BF3.other (by simp; try omega) _, BR3.other (by simp; try omega) _, by repeat (first | (with_reducible exact Fr.refl _) | (with_reducible assumption) | (with_reducible refine Fr.drewN ?_ _) | (with_reducible refine Fr.drew ?_) | (with_reducible refine Fr.alloc ?_ _) | (with_reducible refine Fr.setCell ?_ (by (first | (with_reducible assumption) | omega | (simp only [World.size_alloc, World.size_setCell, World.size_drew, World.heap_drewN]; omega) | (simp; done) | (simp; omega))) _) | (with_reducible refine Fr.trans ?_ (by with_reducible assumption)))⟩; (rw [HL.out]; exact ho3); (rw [HL.out]; exact BO3.set 0 _)
      case round =>
        clear ho hown ho3 hgrow BO3 BD3 BF3 BR3 FO3 hf3 hr3 hat hs HC HL hfr hl2 BO BD BF BR hml hzo hlt hk
        obtain ⟨k, l, ao, cap, hk, rfl, hl2, ho, BO, BD, BF, BR, hfr⟩ := hrel
        have FO := BO.facts; have FD := BD.facts; have FF := BF.facts
        have hzo := BO.lt
        by_cases hlt : k < xs.length
        · obtain ⟨rfl, hb0, f0⟩ := F0.out (by omega)
          obtain ⟨x, hx⟩ : ∃ x, fileAt xs k = x := ⟨_, rfl⟩
          have fk := f0 k hlt
          rw [hx] at fk
          obtain ⟨g0, g1, g2⟩ := fk
          have q0 := (hfr.cell (p := ⟨b0, _, none⟩) hb0).trans g0
          have q1 := (hfr.cell (p := ⟨b0, _, none⟩) hb0).trans g1
          have q2 := (hfr.cell (p := ⟨b0, _, none⟩) hb0).trans g2
          clear g0 g1 g2 f0
          cases hA : lessB x.f0 f.f0
          rotate_left
          · have hp : gtF f.f0 x = false := (by unfold gtF; rw [hA]; rfl)
            have hp2 : Op.bytesLess x.f0.toList f.f0.toList = true := hA
            clear hA
            have hs : Hid (l = _) := hl2.out.trans (putK_no hlt hx hp).symm
            clear hp hx
            go_wp2_with fail
            go_quiet (fail)
            go_wp2_with fail
            go_roundw
            case rel => exact ⟨k + 1, l, ao, cap, by omega, by go_num, hs, owns_fr ho (by repeat (first | (with_reducible exact Fr.refl _) | (with_reducible assumption) | (with_reducible refine Fr.drewN ?_ _) | (with_reducible refine Fr.drew ?_) | (with_reducible refine Fr.alloc ?_ _) | (with_reducible refine Fr.setCell ?_ (by (first | (with_reducible assumption) | omega | (simp only [World.size_alloc, World.size_setCell, World.size_drew, World.heap_drewN]; omega) | (simp; done) | (simp; omega))) _) | (with_reducible refine Fr.trans ?_ (by with_reducible assumption)))), BO.drewN _, BD.drewN _, BF.drewN _, BR.drewN _, by repeat (first | (with_reducible exact Fr.refl _) | (with_reducible assumption) | (with_reducible refine Fr.drewN ?_ _) | (with_reducible refine Fr.drew ?_) | (with_reducible refine Fr.alloc ?_ _) | (with_reducible refine Fr.setCell ?_ (by (first | (with_reducible assumption) | omega | (simp only [World.size_alloc, World.size_setCell, World.size_drew, World.heap_drewN]; omega) | (simp; done) | (simp; omega))) _) | (with_reducible refine Fr.trans ?_ (by with_reducible assumption)))⟩
            case measure => (simp [intOf]; omega)
          cases hB : (x.f0.toList == f.f0.toList)
          rotate_left
          · have hp : gtF f.f0 x = false := (by unfold gtF; rw [hA, hB]; rfl)
            have hp2 : Op.bytesLess x.f0.toList f.f0.toList = false := hA
            clear hA
            have hs : Hid (l = _) := hl2.out.trans (putK_no hlt hx hp).symm
            clear hp hx
            go_wp2_with fail
            go_quiet (fail)
            go_wp2_with fail
            go_roundw
            case rel => exact ⟨k + 1, l, ao, cap, by omega, by go_num, hs, owns_fr ho (by repeat (first | (with_reducible exact Fr.refl _) | (with_reducible assumption) | (with_reducible refine Fr.drewN ?_ _) | (with_reducible refine Fr.drew ?_) | (with_reducible refine Fr.alloc ?_ _) | (with_reducible refine Fr.setCell ?_ (by (first | (with_reducible assumption) | omega | (simp only [World.size_alloc, World.size_setCell, World.size_drew, World.heap_drewN]; omega) | (simp; done) | (simp; omega))) _) | (with_reducible refine Fr.trans ?_ (by with_reducible assumption)))), BO.drewN _, BD.drewN _, BF.drewN _, BR.drewN _, by repeat (first | (with_reducible exact Fr.refl _) | (with_reducible assumption) | (with_reducible refine Fr.drewN ?_ _) | (with_reducible refine Fr.drew ?_) | (with_reducible refine Fr.alloc ?_ _) | (with_reducible refine Fr.setCell ?_ (by (first | (with_reducible assumption) | omega | (simp only [World.size_alloc, World.size_setCell, World.size_drew, World.heap_drewN]; omega) | (simp; done) | (simp; omega))) _) | (with_reducible refine Fr.trans ?_ (by with_reducible assumption)))⟩
            case measure => (simp [intOf]; omega)
          · have hp : gtF f.f0 x = true := (by unfold gtF; rw [hA, hB]; rfl)
            have hp2 : Op.bytesLess x.f0.toList f.f0.toList = false := hA
            clear hA
            have hs : Hid (l ++ [x] = _) := ((putK_yes hlt hx hp).trans (congrArg (· ++ [x]) hl2.out.symm)).symm
            have hml : l.length ≤ 3000000 := by have h1 := putK_le xs f k hk; have h2 := congrArg List.length hl2.out; omega
            have HC := Lib.hid (cells_snoc l x)
            have HL := Lib.hid (show (l ++ [x]).length = l.length + 1 by simp)
            clear hp hx
            go_wp2_with fail
            go_quiet (fail)
            have hb0r := Nat.lt_of_lt_of_le hb0 hfr.size
            have q0 := (((Fr.refl wr).drewN nq).cell (p := ⟨b0, _, none⟩) hb0r).trans q0
            have q1 := (((Fr.refl wr).drewN nq).cell (p := ⟨b0, _, none⟩) hb0r).trans q1
            have q2 := (((Fr.refl wr).drewN nq).cell (p := ⟨b0, _, none⟩) hb0r).trans q2
            have ho := owns_fr ho ((Fr.refl wr).drewN nq)
            have BO := BO.drewN nq; have BD := BD.drewN nq; have BF := BF.drewN nq; have BR := BR.drewN nq
            have hfr := hfr.drewN nq
            clear FO FD FF hzo hb0r
            generalize wr.drewN nq = wz at ho BO BD BF BR hfr q0 q1 q2 ⊢
            have FO := BO.facts; have FD := BD.facts
            have hzo := BO.lt
            have hb0r := Nat.lt_of_lt_of_le hb0 hfr.size
            go_wp2_with fail
            go_region_law ((refine step_append_rd (by rfl) _ _ 44 (by rfl) (w.heap.size + 1 + 1 + 1 + 1) 147 i0 (.agg #[.string ⟨#[]⟩, .string ⟨#[]⟩, .int .i64 0]) 3 40 Try.underlying44 hi hz0 hz1 hz2 rfl (by decide) (.slice ao l.length cap) l.length (l.flatMap FileR.cells) (by rfl) (by exact owns_lo (owns_ab ho (by repeat (first | (with_reducible exact Ab.refl _ _) | (with_reducible assumption) | (with_reducible refine Ab.drewN ?_ _) | (with_reducible refine Ab.drew ?_) | (with_reducible refine Ab.alloc ?_ _) | (with_reducible refine Ab.setCell ?_ (by (first | (with_reducible assumption) | omega | (simp only [World.size_alloc, World.size_setCell, World.size_drew, World.heap_drewN]; omega) | (simp; done) | (simp; omega))) _) | (with_reducible refine Ab.fr ?_ (by with_reducible assumption))))) (by (first | (with_reducible assumption) | omega | (simp only [World.size_alloc, World.size_setCell, World.size_drew, World.heap_drewN]; omega) | (simp; done) | (simp; omega)))) _ 1 [.string x.f0, .string x.f1, .int .i64 x.f2] (by rfl) (RdS.drew (RdS.new (by first | rfl | (simp; done)) rfl)) (by simp [Value.oneCell']) (by unfold maxLen; omega) (by omega) (by (first | (with_reducible assumption) | omega | (simp only [World.size_alloc, World.size_setCell, World.size_drew, World.heap_drewN]; omega) | (simp; done) | (simp; omega))) ?_; intro ao3 cap3 w3 hown hgrow hat; have BO3 := (BO.alloc _).drew.row hgrow (RowIn.of_owns ho) (by (first | (with_reducible assumption) | omega | (simp only [World.size_alloc, World.size_setCell, World.size_drew, World.heap_drewN]; omega) | (simp; done) | (simp; omega))); have FO3 := BO3.facts))
            all_goals
              go_wp2_with fail
              have BD3 := (BD.alloc _).drew.row hgrow (RowIn.of_owns ho) (by (first | (with_reducible assumption) | omega | (simp only [World.size_alloc, World.size_setCell, World.size_drew, World.heap_drewN]; omega) | (simp; done) | (simp; omega)))
              have BF3 := (BF.alloc _).drew.row hgrow (RowIn.of_owns ho) (by (first | (with_reducible assumption) | omega | (simp only [World.size_alloc, World.size_setCell, World.size_drew, World.heap_drewN]; omega) | (simp; done) | (simp; omega)))
              have BR3 := (BR.alloc _).drew.row hgrow (RowIn.of_owns ho) (by (first | (with_reducible assumption) | omega | (simp only [World.size_alloc, World.size_setCell, World.size_drew, World.heap_drewN]; omega) | (simp; done) | (simp; omega)))
              have hf3 : Fr w w3 := Fr.app (show Fr w _ by repeat (first | (with_reducible exact Fr.refl _) | (with_reducible assumption) | (with_reducible refine Fr.drewN ?_ _) | (with_reducible refine Fr.drew ?_) | (with_reducible refine Fr.alloc ?_ _) | (with_reducible refine Fr.setCell ?_ (by (first | (with_reducible assumption) | omega | (simp only [World.size_alloc, World.size_setCell, World.size_drew, World.heap_drewN]; omega) | (simp; done) | (simp; omega))) _) | (with_reducible refine Fr.trans ?_ (by with_reducible assumption)))) hgrow (RowIn.of_owns ho) (by (first | (with_reducible assumption) | omega | (simp only [World.size_alloc, World.size_setCell, World.size_drew, World.heap_drewN]; omega) | (simp; done) | (simp; omega)))
              rw [← HC.out] at hown
              have hr3 := RowIn.of_owns hown
              have ho3 := owns_far hown (p := ⟨w.heap.size + 1 + 1 + 1, 0, none⟩) (fun e => by have := hr3 _ e; simp at this; omega) (.slice ao3 (l.length + 1) cap3)
              go_roundw
              case rel => refine ⟨k + 1, l ++ [x], ao3, cap3, by omega, by go_num, hs, ?_, ?_, BD3.other (by simp; try omega) _, BF3.other (by simp; try omega) _, BR3.other (by simp; try omega) _, by repeat (first | (with_reducible exact Fr.refl _) | (with_reducible assumption) | (with_reducible refine Fr.drewN ?_ _) | (with_reducible refine Fr.drew ?_) | (with_reducible refine Fr.alloc ?_ _) | (with_reducible refine Fr.setCell ?_ (by (first | (with_reducible assumption) | omega | (simp only [World.size_alloc, World.size_setCell, World.size_drew, World.heap_drewN]; omega) | (simp; done) | (simp; omega))) _) | (with_reducible refine Fr.trans ?_ (by with_reducible assumption)))⟩; (rw [HL.out]; exact ho3); (rw [HL.out]; exact BO3.set 0 _)
              case measure => (simp [intOf]; omega)
        · obtain rfl : k = xs.length := by omega
          have hs := hl2.out
          rw [putK_all] at hs
          have HS := Lib.hid hs
          clear hs
          have FR2 := BR.facts
          go_wp2_with fail
          rw [← HS.out]
          refine bodyPost_ret (v := .agg #[.slice ao l.length cap]) (by simp [results, Try.results176, go_sem, *]) rfl ⟨ao, cap, rfl, ?_, by repeat (first | (with_reducible exact Fr.refl _) | (with_reducible assumption) | (with_reducible refine Fr.drewN ?_ _) | (with_reducible refine Fr.drew ?_) | (with_reducible refine Fr.alloc ?_ _) | (with_reducible refine Fr.setCell ?_ (by (first | (with_reducible assumption) | omega | (simp only [World.size_alloc, World.size_setCell, World.size_drew, World.heap_drewN]; omega) | (simp; done) | (simp; omega))) _) | (with_reducible refine Fr.trans ?_ (by with_reducible assumption)))⟩
          have o1 : FilesW wr (w.heap.size + 1 + 1 + 1 + 1) wr.heap.size (.slice ao l.length cap) l := OwW.of_owns ho
          refine OwW.mono (lo := w.heap.size + 1 + 1 + 1 + 1) (hi := wr.heap.size) ?_ (by (first | (with_reducible assumption) | omega | (simp only [World.size_alloc, World.size_setCell, World.size_drew, World.heap_drewN]; omega) | (simp; done) | (simp; omega))) (by (first | (with_reducible assumption) | omega | (simp only [World.size_alloc, World.size_setCell, World.size_drew, World.heap_drewN]; omega) | (simp; done) | (simp; omega)))
          change OwW _ _ _ _ _ _ _ _; (repeat (first | (with_reducible refine OwW.drewN ?_ _) | (with_reducible refine OwW.drew ?_) | (with_reducible refine OwW.alloc ?_ _) | (with_reducible refine OwW.set ?_ (by (first | (with_reducible assumption) | omega | (simp only [World.size_alloc, World.size_setCell, World.size_drew, World.heap_drewN]; omega) | (simp; done) | (simp; omega))) _) | (exact o1)))
end Go.Proofs.Ytjgghiniajmfjaa

/- The reference's l14Without: the files of a disk without those of a name. Condition: a bound on the length of what is read, which the callers pay. -/
namespace Go.Proofs.Ytjgghiniajmfjaa
open Go.RowKit
set_option linter.unusedVariables false
set_option linter.unusedSimpArgs false
def neF (nm : ByteArray) (x : FileR) : Bool := !(x.f0.toList == nm.toList)
def woF (xs : List FileR) (nm : ByteArray) : List FileR := xs.filter (neF nm)
set_option maxHeartbeats 8000000 in
set_option maxRecDepth 100000 in
theorem l14Without_any (v : Value) (xs : List FileR) (nm : ByteArray) (w : World) (hv : DiskRd w v ⟨xs⟩) (hn : xs.length ≤ 1048576) :
    Calls Try.prog 177 #[v, .string nm] w fun e w' => ∃ ao cap, e = .returned (.agg #[.slice ao (woF xs nm).length cap]) ∧ FilesW w' w.heap.size w'.heap.size (.slice ao (woF xs nm).length cap) (woF xs nm) ∧ Fr w w' := by
  obtain ⟨i0, hi, hz0, hz1, hz2⟩ := info_parts info_File
  obtain ⟨u, rfl, hu⟩ := hv
  simp only [] at hu
  have hl := hu.le
  obtain ⟨a0, b0, o0, c0, rfl, hc0, hm0, f0⟩ := hu.one
  have F0 := Lib.hid f0
  clear f0
  go_enter Try.func177, Try.ntmps177
  have BD0 : Box (((w.alloc (.cells #[.slice a0 xs.length c0] 46)).alloc (.cells #[.slice none 0 0] 46)).alloc (.cells #[.slice none 0 0] 46)) w.heap.size #[.slice a0 xs.length c0] 46 := ((Box.new _ _ _).alloc _).alloc _
  have BR0 : Box (((w.alloc (.cells #[.slice a0 xs.length c0] 46)).alloc (.cells #[.slice none 0 0] 46)).alloc (.cells #[.slice none 0 0] 46)) (w.heap.size + 1) #[.slice none 0 0] 46 := (Box.new' (by simp)).alloc _
  have BO0 : Box (((w.alloc (.cells #[.slice a0 xs.length c0] 46)).alloc (.cells #[.slice none 0 0] 46)).alloc (.cells #[.slice none 0 0] 46)) (w.heap.size + 1 + 1) #[.slice none 0 0] 46 := Box.new' (by simp)
  go_wp2_with fail
  go_loopw [6] (fun i wr => ∃ (k : Nat) (l : List FileR) (ao : Option Addr) (cap : Nat), k ≤ xs.length ∧ i = .int .i64 k ∧ Hid (l = selK (neF nm) xs k) ∧ wr.ownsRow (w.heap.size + 1 + 1 + 1) 147 3 (.slice ao l.length cap) l.length (l.flatMap FileR.cells) ∧ Box wr (w.heap.size + 1 + 1) #[.slice ao l.length cap] 46 ∧ Box wr w.heap.size #[.slice a0 xs.length c0] 46 ∧ Box wr (w.heap.size + 1) #[.slice none 0 0] 46 ∧ Fr w wr) (fun i _ => xs.length - (intOf i).toNat)
  case atStart => exact ⟨0, [], none, 0, Nat.zero_le _, rfl, rfl, World.ownsRow_nil _ _ _ _, BO0, BD0, BR0, by repeat (first | (with_reducible exact Fr.refl _) | (with_reducible assumption) | (with_reducible refine Fr.drewN ?_ _) | (with_reducible refine Fr.drew ?_) | (with_reducible refine Fr.alloc ?_ _) | (with_reducible refine Fr.setCell ?_ (by (first | (with_reducible assumption) | omega | (simp only [World.size_alloc, World.size_setCell, World.size_drew, World.heap_drewN]; omega) | (simp; done) | (simp; omega))) _) | (with_reducible refine Fr.trans ?_ (by with_reducible assumption)))⟩
  case round =>
    clear BO0 BR0 BD0
    obtain ⟨k, l, ao, cap, hk, rfl, hl2, ho, BO, BD, BR, hfr⟩ := hrel
    have FO := BO.facts; have FD := BD.facts
    have hzo := BO.lt
    by_cases hlt : k < xs.length
    · obtain ⟨rfl, hb0, f0⟩ := F0.out (by omega)
      obtain ⟨x, hx⟩ : ∃ x, fileAt xs k = x := ⟨_, rfl⟩
      have fk := f0 k hlt
      rw [hx] at fk
      obtain ⟨g0, g1, g2⟩ := fk
      have q0 := (hfr.cell (p := ⟨b0, _, none⟩) hb0).trans g0
      have q1 := (hfr.cell (p := ⟨b0, _, none⟩) hb0).trans g1
      have q2 := (hfr.cell (p := ⟨b0, _, none⟩) hb0).trans g2
      clear g0 g1 g2 f0
      cases hp : (x.f0.toList == nm.toList)
      · have hs : Hid (l ++ [x] = _) := ((selK_yes (p := neF nm) hlt hx (by unfold neF; rw [hp]; rfl)).trans (congrArg (· ++ [x]) hl2.out.symm)).symm
        have hml : l.length ≤ 3000000 := by have h1 := selK_le (neF nm) xs k hk; have h2 := congrArg List.length hl2.out; omega
        have HC := Lib.hid (cells_snoc l x)
        have HL := Lib.hid (show (l ++ [x]).length = l.length + 1 by simp)
        clear hx
        go_wp2_with fail
        go_region_law ((refine step_append_rd (by rfl) _ _ 44 (by rfl) (w.heap.size + 1 + 1 + 1) 147 i0 (.agg #[.string ⟨#[]⟩, .string ⟨#[]⟩, .int .i64 0]) 3 40 Try.underlying44 hi hz0 hz1 hz2 rfl (by decide) (.slice ao l.length cap) l.length (l.flatMap FileR.cells) (by rfl) (by exact owns_lo (owns_ab ho (by repeat (first | (with_reducible exact Ab.refl _ _) | (with_reducible assumption) | (with_reducible refine Ab.drewN ?_ _) | (with_reducible refine Ab.drew ?_) | (with_reducible refine Ab.alloc ?_ _) | (with_reducible refine Ab.setCell ?_ (by (first | (with_reducible assumption) | omega | (simp only [World.size_alloc, World.size_setCell, World.size_drew, World.heap_drewN]; omega) | (simp; done) | (simp; omega))) _) | (with_reducible refine Ab.fr ?_ (by with_reducible assumption))))) (by (first | (with_reducible assumption) | omega | (simp only [World.size_alloc, World.size_setCell, World.size_drew, World.heap_drewN]; omega) | (simp; done) | (simp; omega)))) _ 1 [.string x.f0, .string x.f1, .int .i64 x.f2] (by rfl) (RdS.drew (RdS.new (by first | rfl | (simp; done)) rfl)) (by simp [Value.oneCell']) (by unfold maxLen; omega) (by omega) (by (first | (with_reducible assumption) | omega | (simp only [World.size_alloc, World.size_setCell, World.size_drew, World.heap_drewN]; omega) | (simp; done) | (simp; omega))) ?_; intro ao3 cap3 w3 hown hgrow hat; have BO3 := (BO.alloc _).drew.row hgrow (RowIn.of_owns ho) (by (first | (with_reducible assumption) | omega | (simp only [World.size_alloc, World.size_setCell, World.size_drew, World.heap_drewN]; omega) | (simp; done) | (simp; omega))); have FO3 := BO3.facts))
        all_goals
          go_wp2_with fail
          have BD3 := (BD.alloc _).drew.row hgrow (RowIn.of_owns ho) (by (first | (with_reducible assumption) | omega | (simp only [World.size_alloc, World.size_setCell, World.size_drew, World.heap_drewN]; omega) | (simp; done) | (simp; omega)))
          have BR3 := (BR.alloc _).drew.row hgrow (RowIn.of_owns ho) (by (first | (with_reducible assumption) | omega | (simp only [World.size_alloc, World.size_setCell, World.size_drew, World.heap_drewN]; omega) | (simp; done) | (simp; omega)))
          have hf3 : Fr w w3 := Fr.app (show Fr w _ by repeat (first | (with_reducible exact Fr.refl _) | (with_reducible assumption) | (with_reducible refine Fr.drewN ?_ _) | (with_reducible refine Fr.drew ?_) | (with_reducible refine Fr.alloc ?_ _) | (with_reducible refine Fr.setCell ?_ (by (first | (with_reducible assumption) | omega | (simp only [World.size_alloc, World.size_setCell, World.size_drew, World.heap_drewN]; omega) | (simp; done) | (simp; omega))) _) | (with_reducible refine Fr.trans ?_ (by with_reducible assumption)))) hgrow (RowIn.of_owns ho) (by (first | (with_reducible assumption) | omega | (simp only [World.size_alloc, World.size_setCell, World.size_drew, World.heap_drewN]; omega) | (simp; done) | (simp; omega)))
          rw [← HC.out] at hown
          have hr3 := RowIn.of_owns hown
          have ho3 := owns_far hown (p := ⟨w.heap.size + 1 + 1, 0, none⟩) (fun e => by have := hr3 _ e; simp at this; omega) (.slice ao3 (l.length + 1) cap3)
          go_roundw
          case rel => refine ⟨k + 1, l ++ [x], ao3, cap3, by omega, by go_num, hs, ?_, ?_, BD3.other (by simp; try omega) _, BR3.other (by simp; try omega) _, by repeat (first | (with_reducible exact Fr.refl _) | (with_reducible assumption) | (with_reducible refine Fr.drewN ?_ _) | (with_reducible refine Fr.drew ?_) | (with_reducible refine Fr.alloc ?_ _) | (with_reducible refine Fr.setCell ?_ (by (first | (with_reducible assumption) | omega | (simp only [World.size_alloc, World.size_setCell, World.size_drew, World.heap_drewN]; omega) | (simp; done) | (simp; omega))) _) | (with_reducible refine Fr.trans ?_ (by with_reducible assumption)))⟩; (rw [HL.out]; exact ho3); (rw [HL.out]; exact BO3.set 0 _)
          case measure => (simp [intOf]; omega)
      · have hs : Hid (l = _) := hl2.out.trans (selK_no (p := neF nm) hlt hx (by unfold neF; rw [hp]; rfl)).symm
        clear hx
        go_wp2_with fail
        go_roundw
        case rel => exact ⟨k + 1, l, ao, cap, by omega, by go_num, hs, ho, BO, BD, BR, by repeat (first | (with_reducible exact Fr.refl _) | (with_reducible assumption) | (with_reducible refine Fr.drewN ?_ _) | (with_reducible refine Fr.drew ?_) | (with_reducible refine Fr.alloc ?_ _) | (with_reducible refine Fr.setCell ?_ (by (first | (with_reducible assumption) | omega | (simp only [World.size_alloc, World.size_setCell, World.size_drew, World.heap_drewN]; omega) | (simp; done) | (simp; omega))) _) | (with_reducible refine Fr.trans ?_ (by with_reducible assumption)))⟩
        case measure => (simp [intOf]; omega)
    · obtain rfl : k = xs.length := by omega
      have hs := hl2.out
      rw [selK_all] at hs
      have HS : Hid (l = woF xs nm) := hs
      clear hs
      have FR2 := BR.facts
      go_wp2_with fail
      rw [← HS.out]
      refine bodyPost_ret (v := .agg #[.slice ao l.length cap]) (by simp [results, Try.results177, go_sem, *]) rfl ⟨ao, cap, rfl, ?_, by repeat (first | (with_reducible exact Fr.refl _) | (with_reducible assumption) | (with_reducible refine Fr.drewN ?_ _) | (with_reducible refine Fr.drew ?_) | (with_reducible refine Fr.alloc ?_ _) | (with_reducible refine Fr.setCell ?_ (by (first | (with_reducible assumption) | omega | (simp only [World.size_alloc, World.size_setCell, World.size_drew, World.heap_drewN]; omega) | (simp; done) | (simp; omega))) _) | (with_reducible refine Fr.trans ?_ (by with_reducible assumption)))⟩
      have o1 : FilesW wr (w.heap.size + 1 + 1 + 1) wr.heap.size (.slice ao l.length cap) l := OwW.of_owns ho
      refine OwW.mono (lo := w.heap.size + 1 + 1 + 1) (hi := wr.heap.size) ?_ (by (first | (with_reducible assumption) | omega | (simp only [World.size_alloc, World.size_setCell, World.size_drew, World.heap_drewN]; omega) | (simp; done) | (simp; omega))) (by (first | (with_reducible assumption) | omega | (simp only [World.size_alloc, World.size_setCell, World.size_drew, World.heap_drewN]; omega) | (simp; done) | (simp; omega)))
      change OwW _ _ _ _ _ _ _ _; (repeat (first | (with_reducible refine OwW.drewN ?_ _) | (with_reducible refine OwW.drew ?_) | (with_reducible refine OwW.alloc ?_ _) | (with_reducible refine OwW.set ?_ (by (first | (with_reducible assumption) | omega | (simp only [World.size_alloc, World.size_setCell, World.size_drew, World.heap_drewN]; omega) | (simp; done) | (simp; omega))) _) | (exact o1)))
end Go.Proofs.Ytjgghiniajmfjaa
