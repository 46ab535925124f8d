/- The graph that a disk holds: impl.ReadPart and spec.ReadPart give the same. No condition. -/
import Derived.Test.YtjgghiniajmfjaaRep
import Derived.Test.YtjgghiniajmfjaaGrV
import Derived.Test.YtjgghiniajmfjaaPac
namespace Go.Proofs.Ytjgghiniajmfjaa
open Go.RowKit
set_option linter.unusedVariables false
set_option linter.unusedSimpArgs false
def paK (rs : List ByteArray) : Nat → GraphD × Bool
  | 0 => (⟨0, []⟩, false)
  | k + 1 => if rdGB (sAt rs k) = true then (rdG (sAt rs k), true) else paK rs k
theorem paK_yes {rs : List ByteArray} {k : Nat} {r : ByteArray} {g : GraphD} (hr : sAt rs k = r) (h : rdGB r = true) (hg : rdG r = g) : paK rs (k + 1) = (g, true) := by rw [paK, hr, if_pos h, hg]
theorem paK_no {rs : List ByteArray} {k : Nat} {r : ByteArray} (hr : sAt rs k = r) (h : rdGB r = false) : paK rs (k + 1) = paK rs k := by rw [paK, hr, if_neg (by simp [h])]
theorem paK_len (rs : List ByteArray) : ∀ k, (paK rs k).1.f1.length ≤ 41
  | 0 => by simp [paK]
  | k + 1 => by
    rw [paK]; split
    · exact rdG_len _
    · exact paK_len rs k
def paI (xs : List FileR) : GraphD × Bool := paK (recsOf xs partN) (recsOf xs partN).length
theorem paI_no {xs : List FileR} (h : diskB xs = false) : paI xs = (⟨0, []⟩, false) := by unfold paI recsOf; rw [h]; rfl
set_option maxHeartbeats 4000000 in
set_option maxRecDepth 100000 in
theorem implReadPart_any (v : Value) (xs : List FileR) (w : World) (hv : FilesR w v xs) :
    Calls Try.prog 55 #[.agg #[v]] w fun e w' => ∃ ao0 cap0, e = .returned (.tuple #[.agg #[.int .i64 (paI xs).1.f0, .slice ao0 (paI xs).1.f1.length cap0], .bool (paI xs).2]) ∧ GraphW w' w.heap.size w'.heap.size (.agg #[.int .i64 (paI xs).1.f0, .slice ao0 (paI xs).1.f1.length cap0]) (paI xs).1 ∧ Fr w w' := by
  obtain ⟨ao, ba, oa, ca, rfl, hca, hma, fa⟩ := hv.one
  clear fa
  obtain ⟨rs, hrs⟩ : ∃ rs, recsOf xs partN = rs := ⟨_, rfl⟩
  have hE : Hid (paI xs = paK rs rs.length) := Lib.hid (by unfold paI; rw [hrs])
  have hlen := recsOf_len xs partN
  have hsz := fun k => @recsOf_sz xs partN k
  have hcon := fun (W : World) (hf : Fr w W) => recordsOf_any _ xs partN W (hv.fr hf)
  rw [hrs] at hlen hsz hcon
  have HS := Lib.hid hsz
  clear hsz hrs
  have hwl : IntKind.i64.wrap ((rs.length : Int) - 1) = (rs.length : Int) - 1 := IntWalk.i64_in _ (by omega)
  go_enter Try.func55, Try.ntmps55
  go_wp2_with fail
  refine (hcon _ (by repeat (first | (with_reducible exact Fr.refl _) | (with_reducible assumption) | (with_reducible refine Fr.drewN ?_ _) | (with_reducible refine Fr.drew ?_) | (with_reducible refine Fr.alloc ?_ _) | (with_reducible refine Fr.setCell ?_ (by (first | (with_reducible assumption) | omega | (simp only [World.size_alloc, World.size_setCell, World.size_drew, World.heap_drewN]; omega) | (simp; done) | (simp; omega))) _) | (with_reducible refine Fr.trans ?_ (by with_reducible assumption))))).mono ?_
  rintro e w1 ⟨u, rfl, o1, hf1⟩
  clear hcon
  obtain ⟨a1, b1, p1, c1, rfl, hc1, hm1, f1⟩ := o1.rd.one
  have z1 := hf1.size; (try simp only [World.size_alloc] at z1)
  have BR : Box w1 (w.heap.size + 1) #[.int .i64 0, .slice none 0 0] 32 := Box.fr (Box.new' (by simp)) hf1
  go_wp2_with fail
  clear hwl
  go_loopw [5, 6, 7] (fun i _ _ wr => ∃ k : Nat, k ≤ rs.length ∧ i = .int .i64 ((k : Int) - 1) ∧ Hid (paK rs rs.length = paK rs k) ∧ Fr w wr ∧ Fr w1 wr) (fun i _ _ _ => (intOf i + 1).toNat)
  case atStart => exact ⟨rs.length, Nat.le_refl _, rfl, Lib.hid rfl, by repeat (first | (with_reducible exact Fr.refl _) | (with_reducible assumption) | (with_reducible refine Fr.drewN ?_ _) | (with_reducible refine Fr.drew ?_) | (with_reducible refine Fr.alloc ?_ _) | (with_reducible refine Fr.setCell ?_ (by (first | (with_reducible assumption) | omega | (simp only [World.size_alloc, World.size_setCell, World.size_drew, World.heap_drewN]; omega) | (simp; done) | (simp; omega))) _) | (with_reducible refine Fr.trans ?_ (by with_reducible assumption))), Fr.refl _⟩
  case round =>
    obtain ⟨k, hk, rfl, hK, hfr, hfr1⟩ := hrel
    have BRr := BR.fr hfr1
    have FRr := BRr.facts
    have zr := hfr1.size
    cases k with
    | zero =>
      have HZ : Hid (paI xs = (⟨0, []⟩, false)) := Lib.hid (hE.out.trans hK.out)
      have hg : decide ((0 : Int) ≤ (((0 : Nat) : Int)) - 1) = false := by decide
      go_wp2_with fail
      rw [HZ.out]
      refine bodyPost_ret (v := .tuple #[.agg #[.int .i64 0, .slice none 0 0], .bool false]) (by simp [results, Try.results55, go_sem, *]) rfl ⟨none, 0, rfl, ⟨none, 0, rfl, OwW.nil _ _ _ _ _⟩, by repeat (first | (with_reducible exact Fr.refl _) | (with_reducible assumption) | (with_reducible refine Fr.drewN ?_ _) | (with_reducible refine Fr.drew ?_) | (with_reducible refine Fr.alloc ?_ _) | (with_reducible refine Fr.setCell ?_ (by (first | (with_reducible assumption) | omega | (simp only [World.size_alloc, World.size_setCell, World.size_drew, World.heap_drewN]; omega) | (simp; done) | (simp; omega))) _) | (with_reducible refine Fr.trans ?_ (by with_reducible assumption)))⟩
    | succ m =>
      rw [show (((m + 1 : Nat) : Int) - 1) = (m : Int) by omega]
      have hlt : m < rs.length := by omega
      have hlt2 : (m : Int) < rs.length := by omega
      have hwm : IntKind.i64.wrap ((m : Int) - 1) = (m : Int) - 1 := IntWalk.i64_in _ (by omega)
      obtain ⟨rfl, hba, f1⟩ := f1 (by omega)
      obtain ⟨r, hr⟩ : ∃ r, sAt rs m = r := ⟨_, rfl⟩
      have c0 : wr.cell? ⟨b1, p1 + m, none⟩ = some (.string r) := (hfr1.cell (p := ⟨b1, _, none⟩) hba).trans (hr ▸ (f1 m hlt))
      have hrz : r.size ≤ 9000 := by rw [← hr]; exact HS.out m hlt
      have hrv := implReadGraph_any r wr (by omega)
      obtain ⟨g, hg⟩ : ∃ g, rdG r = g := ⟨_, rfl⟩
      obtain ⟨gb, hgb⟩ : ∃ gb, rdGB r = gb := ⟨_, rfl⟩
      rw [hg, hgb] at hrv
      have HRV := Lib.hid hrv
      cases gb
      · have hK2 : Hid (paK rs rs.length = paK rs m) := Lib.hid (hK.out.trans (paK_no hr hgb))
        clear f1 hr hg hgb hK hk hrv
        go_wp2_with fail
        refine HRV.out.mono ?_
        rintro e w2 ⟨a2, c2, rfl, o2, hf2⟩
        go_wp2_with fail
        go_roundw
        case rel => exact ⟨m, by omega, rfl, hK2, by repeat (first | (with_reducible exact Fr.refl _) | (with_reducible assumption) | (with_reducible refine Fr.drewN ?_ _) | (with_reducible refine Fr.drew ?_) | (with_reducible refine Fr.alloc ?_ _) | (with_reducible refine Fr.setCell ?_ (by (first | (with_reducible assumption) | omega | (simp only [World.size_alloc, World.size_setCell, World.size_drew, World.heap_drewN]; omega) | (simp; done) | (simp; omega))) _) | (with_reducible refine Fr.trans ?_ (by with_reducible assumption))), by repeat (first | (with_reducible exact Fr.refl _) | (with_reducible assumption) | (with_reducible refine Fr.drewN ?_ _) | (with_reducible refine Fr.drew ?_) | (with_reducible refine Fr.alloc ?_ _) | (with_reducible refine Fr.setCell ?_ (by (first | (with_reducible assumption) | omega | (simp only [World.size_alloc, World.size_setCell, World.size_drew, World.heap_drewN]; omega) | (simp; done) | (simp; omega))) _) | (with_reducible refine Fr.trans ?_ (by with_reducible assumption)))⟩
        case measure => first | (simp [intOf]; done) | (simp [intOf]; omega)
      · have hK2 : Hid (paI xs = (g, true)) := Lib.hid (hE.out.trans (hK.out.trans (paK_yes hr hgb hg)))
        clear f1 hr hg hgb hK hk hrv
        go_wp2_with fail
        refine HRV.out.mono ?_
        rintro e w2 ⟨a2, c2, rfl, o2, hf2⟩
        obtain ⟨a2', c2', he2, o2⟩ := o2
        cases he2
        have HO := Lib.hid o2
        have z2 := hf2.size
        have BR2 := BRr.fr hf2
        have FR2 := BR2.facts
        clear FRr
        go_wp2_with fail
        rw [hK2.out]
        refine bodyPost_ret (v := .tuple #[.agg #[.int .i64 g.f0, .slice a2 g.f1.length c2], .bool true]) (by simp [results, Try.results55, go_sem, *]) rfl ⟨_, _, rfl, ⟨_, _, rfl, ?_⟩, by repeat (first | (with_reducible exact Fr.refl _) | (with_reducible assumption) | (with_reducible refine Fr.drewN ?_ _) | (with_reducible refine Fr.drew ?_) | (with_reducible refine Fr.alloc ?_ _) | (with_reducible refine Fr.setCell ?_ (by (first | (with_reducible assumption) | omega | (simp only [World.size_alloc, World.size_setCell, World.size_drew, World.heap_drewN]; omega) | (simp; done) | (simp; omega))) _) | (with_reducible refine Fr.trans ?_ (by with_reducible assumption)))⟩
        refine OwW.mono (lo := wr.heap.size) (hi := w2.heap.size) ?_ (by omega) (by simp)
        change OwW _ _ _ _ _ _ _ _; (repeat (first | (with_reducible refine OwW.drewN ?_ _) | (with_reducible refine OwW.drew ?_) | (with_reducible refine OwW.alloc ?_ _) | (with_reducible refine OwW.set ?_ (by (first | (with_reducible assumption) | omega | (simp only [World.size_alloc, World.size_setCell, World.size_drew, World.heap_drewN]; omega) | (simp; done) | (simp; omega))) _) | (exact HO.out)))
end Go.Proofs.Ytjgghiniajmfjaa
