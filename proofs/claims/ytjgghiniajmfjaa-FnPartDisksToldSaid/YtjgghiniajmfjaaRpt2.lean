/- The graph that a disk holds, of the reference. No condition. -/
import Derived.Test.YtjgghiniajmfjaaRpt
namespace Go.Proofs.Ytjgghiniajmfjaa
open Go.RowKit
set_option linter.unusedVariables false
set_option linter.unusedSimpArgs false
set_option maxHeartbeats 4000000 in
set_option maxRecDepth 100000 in
theorem specReadPart_any (v : Value) (xs : List FileR) (w : World) (hv : FilesR w v xs) :
    Calls Try.prog 56 #[.agg #[v]] w fun e w' => ∃ ao0 cap0, e = .returned (.tuple #[.agg #[.int .i64 (paI xs).1.f0, .slice ao0 (paI xs).1.f1.length cap0], .bool (paI xs).2]) ∧ GraphW w' w.heap.size w'.heap.size (.agg #[.int .i64 (paI xs).1.f0, .slice ao0 (paI xs).1.f1.length cap0]) (paI xs).1 ∧ Fr w w' := by
  obtain ⟨ao, ba, oa, ca, rfl, hca, hma, fa⟩ := hv.one
  clear fa
  cases hb : diskB xs
  · have HR := Lib.hid (paI_no hb)
    have hdk := fun (W : World) (hf : Fr w W) => specDiskOk_any _ xs W (hv.fr hf)
    rw [hb] at hdk
    go_enter Try.func56, Try.ntmps56
    go_wp2_with fail
    refine (hdk _ (by repeat (first | (with_reducible exact Fr.refl _) | (with_reducible assumption) | (with_reducible refine Fr.drewN ?_ _) | (with_reducible refine Fr.drew ?_) | (with_reducible refine Fr.alloc ?_ _) | (with_reducible refine Fr.setCell ?_ (by (first | (with_reducible assumption) | omega | (simp only [World.size_alloc, World.size_setCell, World.size_drew, World.heap_drewN]; omega) | (simp; done) | (simp; omega))) _) | (with_reducible refine Fr.trans ?_ (by with_reducible assumption))))).mono ?_
    rintro e w1 ⟨rfl, hf1⟩
    have z1 := hf1.size; (try simp only [World.size_alloc] at z1)
    have BO : Box w1 (w.heap.size + 1 + 1) #[.int .i64 0, .slice none 0 0] 32 := Box.fr (Box.new' (by simp)) hf1
    have BR : Box w1 (w.heap.size + 1) #[.int .i64 0, .slice none 0 0] 32 := Box.fr (Box.alloc (Box.new' (by simp)) _) hf1
    have FO := BO.facts
    have FR0 := BR.facts
    go_wp2_with fail
    rw [HR.out]
    refine bodyPost_ret (v := .tuple #[.agg #[.int .i64 0, .slice none 0 0], .bool false]) (by simp [results, Try.results56, go_sem, *]) rfl ⟨none, 0, rfl, ⟨none, 0, rfl, OwW.nil _ _ _ _ _⟩, by repeat (first | (with_reducible exact Fr.refl _) | (with_reducible assumption) | (with_reducible refine Fr.drewN ?_ _) | (with_reducible refine Fr.drew ?_) | (with_reducible refine Fr.alloc ?_ _) | (with_reducible refine Fr.setCell ?_ (by (first | (with_reducible assumption) | omega | (simp only [World.size_alloc, World.size_setCell, World.size_drew, World.heap_drewN]; omega) | (simp; done) | (simp; omega))) _) | (with_reducible refine Fr.trans ?_ (by with_reducible assumption)))⟩
  · have hft := fTx_size hb partN
    obtain ⟨rs, hrs⟩ : ∃ rs, recsOf xs partN = rs := ⟨_, rfl⟩
    have hE : Hid (paI xs = paK rs rs.length) := Lib.hid (by unfold paI; rw [hrs])
    have hlen := recsOf_len xs partN
    have hsz := fun k => @recsOf_sz xs partN k
    rw [hrs] at hlen hsz
    have HS := Lib.hid hsz
    have hun : (unf (fTx xs partN)).1 = rs := by rw [← hrs]; unfold recsOf; rw [hb]; rfl
    have hcon := fun (W : World) => specUnframe_any (fTx xs partN) W (by omega)
    rw [hun] at hcon
    have hdk := fun (W : World) (hf : Fr w W) => specDiskOk_any _ xs W (hv.fr hf)
    rw [hb] at hdk
    have hfa := fun (W : World) (hf : Fr w W) => specFileAt_any _ xs partN W (hv.fr hf)
    obtain ⟨ft, hft'⟩ : ∃ ft, fTx xs partN = ft := ⟨_, rfl⟩
    obtain ⟨fh, hfh⟩ : ∃ fh, fHas xs partN = fh := ⟨_, rfl⟩
    obtain ⟨ue, hue⟩ : ∃ ue, (unf ft).2 = ue := ⟨_, rfl⟩
    rw [hft', hfh] at hfa
    rw [hft', hue] at hcon
    clear hsz hrs hun hft hft' hfh hue hb
    go_enter Try.func56, Try.ntmps56
    go_wp2_with fail
    refine (hdk _ (by repeat (first | (with_reducible exact Fr.refl _) | (with_reducible assumption) | (with_reducible refine Fr.drewN ?_ _) | (with_reducible refine Fr.drew ?_) | (with_reducible refine Fr.alloc ?_ _) | (with_reducible refine Fr.setCell ?_ (by (first | (with_reducible assumption) | omega | (simp only [World.size_alloc, World.size_setCell, World.size_drew, World.heap_drewN]; omega) | (simp; done) | (simp; omega))) _) | (with_reducible refine Fr.trans ?_ (by with_reducible assumption))))).mono ?_
    rintro e w1 ⟨rfl, hf1⟩
    have z1 := hf1.size; (try simp only [World.size_alloc] at z1)
    have BO : Box w1 (w.heap.size + 1 + 1) #[.int .i64 0, .slice none 0 0] 32 := Box.fr (Box.new' (by simp)) hf1
    have BR : Box w1 (w.heap.size + 1) #[.int .i64 0, .slice none 0 0] 32 := Box.fr (Box.alloc (Box.new' (by simp)) _) hf1
    have BD : Box w1 w.heap.size #[.slice ao xs.length ca] 46 := (Box.new' (w := w) rfl).fr (by repeat (first | (with_reducible exact Fr.refl _) | (with_reducible assumption) | (with_reducible refine Fr.drewN ?_ _) | (with_reducible refine Fr.drew ?_) | (with_reducible refine Fr.alloc ?_ _) | (with_reducible refine Fr.setCell ?_ (by (first | (with_reducible assumption) | omega | (simp only [World.size_alloc, World.size_setCell, World.size_drew, World.heap_drewN]; omega) | (simp; done) | (simp; omega))) _) | (with_reducible refine Fr.trans ?_ (by with_reducible assumption))))
    have FD := BD.facts
    go_wp2_with fail
    refine (hfa _ (by repeat (first | (with_reducible exact Fr.refl _) | (with_reducible assumption) | (with_reducible refine Fr.drewN ?_ _) | (with_reducible refine Fr.drew ?_) | (with_reducible refine Fr.alloc ?_ _) | (with_reducible refine Fr.setCell ?_ (by (first | (with_reducible assumption) | omega | (simp only [World.size_alloc, World.size_setCell, World.size_drew, World.heap_drewN]; omega) | (simp; done) | (simp; omega))) _) | (with_reducible refine Fr.trans ?_ (by with_reducible assumption))))).mono ?_
    rintro e w2 ⟨rfl, hf2⟩
    have z2 := hf2.size
    go_wp2_with fail
    refine (hcon _).mono ?_
    rintro e w3 ⟨a1, c1, rfl, o1, hf3⟩
    have z3 := hf3.size
    clear hcon hfa hdk FD BD
    have BO := (BO.fr hf2).fr hf3
    have BR := (BR.fr hf2).fr hf3
    obtain ⟨a1', b1, p1, c1', he1, hc1, hm1, f1⟩ := o1.rd.one
    cases he1
    have F1 := Lib.hid f1
    clear f1
    have hf0 : Fr w w3 := by repeat (first | (with_reducible exact Fr.refl _) | (with_reducible assumption) | (with_reducible refine Fr.drewN ?_ _) | (with_reducible refine Fr.drew ?_) | (with_reducible refine Fr.alloc ?_ _) | (with_reducible refine Fr.setCell ?_ (by (first | (with_reducible assumption) | omega | (simp only [World.size_alloc, World.size_setCell, World.size_drew, World.heap_drewN]; omega) | (simp; done) | (simp; omega))) _) | (with_reducible refine Fr.trans ?_ (by with_reducible assumption)))
    have O1 := Lib.hid o1
    clear o1
    go_wp2_with fail
    go_loopw [5, 10, 11, 12] (fun b i _ _ wr => ∃ (k : Nat) (og : GraphD) (ob : Bool) (ay : Option Addr) (cy : Nat), k ≤ rs.length ∧ i = .int .i64 k ∧ b = .bool ob ∧ Hid (paK rs k = (og, ob)) ∧ Box wr (w.heap.size + 1 + 1) #[.int .i64 og.f0, .slice ay og.f1.length cy] 32 ∧ Box wr (w.heap.size + 1) #[.int .i64 0, .slice none 0 0] 32 ∧ Hid (EdgesW wr (w.heap.size + 1 + 1 + 1) wr.heap.size (.slice ay og.f1.length cy) og.f1) ∧ Hid (StrsW wr (w.heap.size + 1 + 1 + 1) wr.heap.size (.slice a1 rs.length c1) rs) ∧ w.heap.size + 1 + 1 + 1 ≤ wr.heap.size ∧ Fr w wr) (fun _ i _ _ _ => rs.length - (intOf i).toNat)
    case atStart => exact ⟨0, ⟨0, []⟩, false, none, 0, Nat.zero_le _, rfl, rfl, Lib.hid rfl, BO, BR, Lib.hid (OwW.nil _ _ _ _ _), Lib.hid (OwW.mono O1.out (by omega) (Nat.le_refl _)), by omega, hf0⟩
    case round =>
      clear BO BR F1 O1
      obtain ⟨k, og, ob, ay, cy, hk, rfl, rfl, hK, BO, BR, HW, HSR, hzr, hfr⟩ := hrel
      have FO := BO.facts
      have FR0 := BR.facts
      by_cases hlt : k < rs.length
      · obtain ⟨a1'', b2, p2, c2', he2, _, _, f2⟩ := StrsR.one (OwW.rd HSR.out)
        cases he2
        obtain ⟨rfl, hba, f2⟩ := f2 (by omega)
        obtain ⟨r, hr⟩ : ∃ r, sAt rs k = r := ⟨_, rfl⟩
        have c0 : wr.cell? ⟨b2, p2 + k, none⟩ = some (.string r) := hr ▸ (f2 k hlt)
        have hrz : r.size ≤ 9000 := by rw [← hr]; exact HS.out k hlt
        have hrv := specReadGraph_any r wr (by omega)
        obtain ⟨g, hg⟩ : ∃ g, rdG r = g := ⟨_, rfl⟩
        obtain ⟨gb, hgb⟩ : ∃ gb, rdGB r = gb := ⟨_, rfl⟩
        rw [hg, hgb] at hrv
        have HRV := Lib.hid hrv
        cases gb
        · have hK2 : Hid (paK rs (k + 1) = (og, ob)) := Lib.hid ((paK_no hr hgb).trans hK.out)
          clear f2 hr hg hgb hK hrv
          go_wp2_with fail
          refine HRV.out.mono ?_
          rintro e w4 ⟨a4, c4, rfl, o4, hf4⟩
          have z4 := hf4.size
          go_wp2_with fail
          go_roundw
          case rel => exact ⟨k + 1, og, ob, ay, cy, by omega, by go_num, rfl, hK2, (BO.fr hf4).alloc _, (BR.fr hf4).alloc _, Lib.hid (OwW.mono (OwW.alloc (OwW.fr HW.out hf4) _) (Nat.le_refl _) (by simp; omega)), Lib.hid (OwW.mono (OwW.alloc (OwW.fr HSR.out hf4) _) (Nat.le_refl _) (by simp; omega)), by simp; omega, by repeat (first | (with_reducible exact Fr.refl _) | (with_reducible assumption) | (with_reducible refine Fr.drewN ?_ _) | (with_reducible refine Fr.drew ?_) | (with_reducible refine Fr.alloc ?_ _) | (with_reducible refine Fr.setCell ?_ (by (first | (with_reducible assumption) | omega | (simp only [World.size_alloc, World.size_setCell, World.size_drew, World.heap_drewN]; omega) | (simp; done) | (simp; omega))) _) | (with_reducible refine Fr.trans ?_ (by with_reducible assumption)))⟩
          case measure => (simp [intOf]; omega)
        · have hK2 : Hid (paK rs (k + 1) = (g, true)) := Lib.hid (paK_yes hr hgb hg)
          clear f2 hr hg hgb hK hrv
          go_wp2_with fail
          refine HRV.out.mono ?_
          rintro e w4 ⟨a4, c4, rfl, o4, hf4⟩
          obtain ⟨a4', c4', he4, o4⟩ := o4
          cases he4
          have HO4 := Lib.hid o4
          clear o4
          have z4 := hf4.size
          have BO4 := (BO.fr hf4).alloc (.cells #[.int .i64 g.f0, .slice a4 g.f1.length c4] 32)
          have FO4 := BO4.facts
          have BR4 := (BR.fr hf4).alloc (.cells #[.int .i64 g.f0, .slice a4 g.f1.length c4] 32)
          clear FO FR0
          go_wp2_with fail
          go_roundw
          case rel => exact ⟨k + 1, g, true, a4, c4, by omega, by go_num, rfl, hK2, (BO4.set_to (X := #[.int .i64 g.f0, .slice ay og.f1.length cy]) (by simp)).set_to (by simp), (BR4.far (by omega) _).far (by omega) _, Lib.hid (OwW.mono (lo := wr.heap.size) (hi := w4.heap.size) (OwW.set (OwW.set (OwW.alloc HO4.out _) (.inl (by show _ + 1 + 1 < _; omega)) _) (.inl (by show _ + 1 + 1 < _; omega)) _) (by omega) (by simp)), Lib.hid (OwW.mono (OwW.set (OwW.set (OwW.alloc (OwW.fr HSR.out hf4) _) (.inl (by show _ + 1 + 1 < _; omega)) _) (.inl (by show _ + 1 + 1 < _; omega)) _) (Nat.le_refl _) (by simp; omega)), by simp; omega, by repeat (first | (with_reducible exact Fr.refl _) | (with_reducible assumption) | (with_reducible refine Fr.drewN ?_ _) | (with_reducible refine Fr.drew ?_) | (with_reducible refine Fr.alloc ?_ _) | (with_reducible refine Fr.setCell ?_ (by (first | (with_reducible assumption) | omega | (simp only [World.size_alloc, World.size_setCell, World.size_drew, World.heap_drewN]; omega) | (simp; done) | (simp; omega))) _) | (with_reducible refine Fr.trans ?_ (by with_reducible assumption)))⟩
          case measure => (simp [intOf]; omega)
      · obtain rfl : k = rs.length := by omega
        have hK2 : Hid (paI xs = (og, ob)) := Lib.hid (hE.out.trans hK.out)
        clear hK
        go_wp2_with fail
        rw [hK2.out]
        refine bodyPost_ret (v := .tuple #[.agg #[.int .i64 og.f0, .slice ay og.f1.length cy], .bool ob]) (by simp [results, Try.results56, go_sem, *]) rfl ⟨_, _, rfl, ⟨_, _, rfl, ?_⟩, by repeat (first | (with_reducible exact Fr.refl _) | (with_reducible assumption) | (with_reducible refine Fr.drewN ?_ _) | (with_reducible refine Fr.drew ?_) | (with_reducible refine Fr.alloc ?_ _) | (with_reducible refine Fr.setCell ?_ (by (first | (with_reducible assumption) | omega | (simp only [World.size_alloc, World.size_setCell, World.size_drew, World.heap_drewN]; omega) | (simp; done) | (simp; omega))) _) | (with_reducible refine Fr.trans ?_ (by with_reducible assumption)))⟩
        refine OwW.mono (lo := w.heap.size + 1 + 1 + 1) (hi := wr.heap.size) ?_ (by omega) (by simp)
        change OwW _ _ _ _ _ _ _ _; (repeat (first | (with_reducible refine OwW.drewN ?_ _) | (with_reducible refine OwW.drew ?_) | (with_reducible refine OwW.alloc ?_ _) | (with_reducible refine OwW.set ?_ (by (first | (with_reducible assumption) | omega | (simp only [World.size_alloc, World.size_setCell, World.size_drew, World.heap_drewN]; omega) | (simp; done) | (simp; omega))) _) | (exact HW.out)))
end Go.Proofs.Ytjgghiniajmfjaa
