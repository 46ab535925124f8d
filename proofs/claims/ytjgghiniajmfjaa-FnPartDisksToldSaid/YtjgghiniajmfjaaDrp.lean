/- A drawn disk with a part and some epochs (spec.l16Disk, DrawPartDisk), a drawn graph (spec.DrawGraph). No condition but the reading of the draw. -/
import Derived.Test.YtjgghiniajmfjaaDrg
import Derived.Test.YtjgghiniajmfjaaDkp
namespace Go.Proofs.Ytjgghiniajmfjaa
open Go.RowKit
set_option linter.unusedVariables false
set_option linter.unusedSimpArgs false
theorem ne_doL {xs : List FileR} {a : ActR} (h : ∀ x ∈ xs, 0 < x.f1.size) (hk : (a.f0 = 1 ∧ 0 < a.f2.size) ∨ a.f0 = 2) : ∀ x ∈ doL xs a, 0 < x.f1.size := by
  intro x hx
  cases hb : doB xs a
  · rw [doL_no hb] at hx; simp at hx
  · obtain ⟨h1, ys, h2, h3, h4⟩ := doB_parts hb
    rw [h3] at hx
    unfold outA at h2
    rcases hk with ⟨hk, hf⟩ | hk
    · rw [if_pos hk] at h2
      cases h2
      rcases putF_mem hx with rfl | hx
      · rw [(addF_is xs a).2, ByteArray.size_append]; omega
      · exact h x hx
    · rw [if_neg (by rw [hk]; decide)] at h2
      split at h2
      · cases h2
      · rename_i hi
        cases h2
        rcases putF_mem hx with rfl | hx
        · show 0 < (actX xs a).f1.size
          rcases fIx_cases xs a.f1 with h5 | ⟨k, hk5, h5⟩
          · omega
          · unfold actX
            rw [h5, Int.toNat_natCast, fileAt_get hk5]
            exact h _ (List.getElem_mem hk5)
        · exact h x hx
theorem ne_store {xs : List FileR} {nm f : ByteArray} (h : ∀ x ∈ xs, 0 < x.f1.size) (hf : 0 < f.size) : ∀ x ∈ (dosGo (storeL nm f) xs 0).1, 0 < x.f1.size := by
  show ∀ x ∈ (dosGo [⟨1, nm, f, ⟨#[]⟩⟩, ⟨2, nm, ⟨#[]⟩, ⟨#[]⟩⟩] xs 0).1, 0 < x.f1.size
  rw [dosGo]
  split
  · rw [dosGo]
    split
    · rw [dosGo]
      exact ne_doL (ne_doL h (.inl ⟨rfl, hf⟩)) (.inr rfl)
    · exact ne_doL h (.inl ⟨rfl, hf⟩)
  · exact h
theorem frameR_pos {t : ByteArray} (h : 1 ≤ t.size ∧ t.size ≤ 900) : 0 < (frameR t).size := by
  have := text_size (frL_of h)
  have := frL_len t
  omega
theorem fresh_ne {g : GraphD} (h : graphB g = true) : ∀ x ∈ (freD g).f0, 0 < x.f1.size := by
  unfold freD
  rw [if_pos h, partA_yes h]
  exact ne_store (by simp) (frameR_pos (graph_range h))
theorem Dk.some {xs : List FileR} {p : ByteArray} {ts : List ByteArray} (D : Dk xs [p] ts) : 0 < xs.length := by
  cases xs with
  | nil =>
    have h1 := D.tp
    have h2 := D.hp p (by simp)
    have h3 := frL_len p
    have h4 : (frL p).length = 0 := by
      have := congrArg List.length h1
      simp only [List.flatMap_cons, List.flatMap_nil, List.append_nil] at this
      rw [← this]
      rfl
    omega
  | cons x xs => simp
/-- What a drawn disk with a part is. -/
def PartDisk (xs : List FileR) : Prop := ∃ (g : GraphD) (ts : List ByteArray), Dk xs [graphS g] ts ∧ graphB g = true ∧ xs.length ≤ 8 ∧ ts.length ≤ 3 ∧ epK ts ts.length ≤ 9 ∧ ∀ x ∈ xs, 0 < x.f1.size
theorem epoA_bulk (n : Int) : ActsBulk (epoA n) ≤ 1048576 := by
  by_cases h : 1 ≤ n ∧ n ≤ 100000
  · rw [epoA_yes h]
    have h1 := frameR_size (epo_frame (n := n) (decide_eq_true h)) (by have := (vText_range h).2; omega)
    have : ActsBulk (storeL timeN (frameR (vText n))) = 2 + ((4 + (frameR (vText n)).size + 0) + ((4 + 0 + 0) + 0)) := rfl
    rw [this]
    omega
  · unfold epoA epoB; rw [decide_eq_false h, if_neg (by simp)]; decide
set_option maxHeartbeats 8000000 in
set_option maxRecDepth 100000 in
theorem l16Disk_any (b : Nat) (w : World) (hc : Cu w b) :
    Calls Try.prog 97 #[.pointer (some ⟨b, 0, none⟩)] w fun e w' => ∃ (xs : List FileR) (ao : Option Addr) (cap : Nat), PartDisk xs ∧ e = .returned (.agg #[.slice ao xs.length cap]) ∧ FilesW w' w.heap.size w'.heap.size (.slice ao xs.length cap) xs ∧ Cu w' b ∧ Span b (b + 1) w w' := by
  have hbl := hc.lt
  go_enter Try.func97, Try.ntmps97
  have BR : Box (w.alloc (.cells #[.slice none 0 0] 46)) w.heap.size #[.slice none 0 0] 46 := Box.new _ _ _
  go_wp2_with fail
  refine (l04Graph_any b _ (hc.fr (by repeat (first | (with_reducible exact Fr.refl _) | (with_reducible assumption) | (with_reducible refine Fr.drewN ?_ _) | (with_reducible refine Fr.drew ?_) | (with_reducible refine Fr.alloc ?_ _) | (with_reducible refine Fr.setCell ?_ (by (first | (with_reducible assumption) | omega | (simp only [World.size_alloc, World.size_setCell, World.size_drew, World.heap_drewN]; omega) | (simp; done) | (simp; omega))) _) | (with_reducible refine Fr.trans ?_ (by with_reducible assumption)))))).mono ?_
  rintro e w1 ⟨n, es, ao1, cap1, hn2, hn5, hg, rfl, ho1, hc1, sp1⟩
  have z1 := sp1.size; (try simp only [World.size_alloc] at z1)
  have BR1 := BR.span sp1 (.inr (by omega))
  have hs1 : Span b (b + 1) w w1 := ((Span.refl b (b + 1) w).alloc' _).trans sp1
  obtain ⟨hdk, hdl⟩ := fresh_dk hg
  have CF : Hid (Calls Try.prog 39 #[.agg #[.int .i64 n, .slice ao1 es.length cap1]] w1 fun e w' => ∃ ao cap, e = .returned (.tuple #[.agg #[.slice ao (freD ⟨n, es⟩).f0.length cap], .bool true]) ∧ DiskW w' w1.heap.size w'.heap.size (.agg #[.slice ao (freD ⟨n, es⟩).f0.length cap]) (freD ⟨n, es⟩) ∧ Fr w1 w') := Lib.hid (by have := specFreshDisk_any (.agg #[.int .i64 n, .slice ao1 es.length cap1]) ⟨n, es⟩ w1 ⟨_, rfl, OwW.rd ho1⟩; rw [hg] at this; exact this)
  obtain ⟨ds, hds⟩ : ∃ ds, (freD ⟨n, es⟩).f0 = ds := ⟨_, rfl⟩
  have HD := Lib.hid (show PartDisk ds ∧ ds.length ≤ 2 from by rw [← hds]; exact ⟨⟨⟨n, es⟩, [], hdk, hg, by omega, by simp, by simp [epK], fresh_ne hg⟩, hdl⟩)
  have hfd : freD ⟨n, es⟩ = ⟨ds⟩ := by rw [← hds]
  rw [hfd] at CF
  have HDK : Hid ((∃ (g : GraphD), Dk ds [graphS g] [] ∧ graphB g = true) ∧ ∀ x ∈ ds, 0 < x.f1.size) := Lib.hid ⟨⟨⟨n, es⟩, by rw [← hds]; exact hdk, hg⟩, by rw [← hds]; exact fresh_ne hg⟩
  have hdsl : ds.length ≤ 2 := by rw [← hds]; exact hdl
  clear hds hdk hdl hg hfd ho1
  go_wp2_with fail
  refine CF.out.mono ?_
  rintro e w2 ⟨ao2, cap2, rfl, ho2, hf2⟩
  obtain ⟨_, _, h4, ho2⟩ := ho2
  cases h4
  have HO2 := Lib.hid ho2
  clear ho2 CF
  have z2 := hf2.size
  have BR2 := BR1.fr hf2
  have hc2 := hc1.fr hf2
  have hs2 : Span b (b + 1) w w2 := hs1.then_fr hf2
  go_wp2_with fail
  go_loopw [5, 6, 7, 8] (fun nn i _ _ wr => ∃ (k : Nat) (m : Nat) (xs : List FileR) (ts : List ByteArray) (ao : Option Addr) (cap : Nat), k ≤ 3 ∧ i = .int .i64 k ∧ nn = .int .i64 m ∧ m ≤ 3 * k ∧ xs.length ≤ 2 + 2 * k ∧ ts.length ≤ k ∧ Hid ((∃ g : GraphD, Dk xs [graphS g] ts ∧ graphB g = true) ∧ epK ts ts.length ≤ 3 * k ∧ ∀ x ∈ xs, 0 < x.f1.size) ∧ Box wr w2.heap.size #[.slice ao xs.length cap] 46 ∧ (∃ lo hi, Hid (FilesW wr lo hi (.slice ao xs.length cap) xs) ∧ w.heap.size + 1 ≤ lo ∧ hi ≤ wr.heap.size ∧ (hi ≤ w2.heap.size ∨ w2.heap.size + 1 ≤ lo)) ∧ Box wr w.heap.size #[.slice none 0 0] 46 ∧ Cu wr b ∧ Span b (b + 1) w wr) (fun _ i _ _ _ => 3 - (intOf i).toNat)
  case atStart => exact ⟨0, 0, ds, [], ao2, cap2, by omega, rfl, rfl, by omega, by omega, by simp, Lib.hid ⟨HDK.out.1, by simp [epK], HDK.out.2⟩, Box.new _ _ _, ⟨w1.heap.size, w2.heap.size, Lib.hid (OwW.alloc HO2.out _), by omega, by simp, .inl (Nat.le_refl _)⟩, BR2.alloc _, hc2.fr (by repeat (first | (with_reducible exact Fr.refl _) | (with_reducible assumption) | (with_reducible refine Fr.drewN ?_ _) | (with_reducible refine Fr.drew ?_) | (with_reducible refine Fr.alloc ?_ _) | (with_reducible refine Fr.setCell ?_ (by (first | (with_reducible assumption) | omega | (simp only [World.size_alloc, World.size_setCell, World.size_drew, World.heap_drewN]; omega) | (simp; done) | (simp; omega))) _) | (with_reducible refine Fr.trans ?_ (by with_reducible assumption)))), hs2.alloc' _⟩
  case round =>
    clear BR2 hc2 hs2 HO2 HDK HD BR1 BR
    obtain ⟨k, m, xs, ts, ao, cap, hk, rfl, rfl, hm, hxl, htl, HI, BG, ⟨lo, hi, HW, hlo, hhi, hsep⟩, BR, hcr, hsr⟩ := hrel
    have zr := hsr.size
    have zg := BG.lt
    have hcb := hcr.lt
    go_wp2_with fail
    refine (l01Below_any b 4 _ hcr (by omega)).mono ?_
    rintro e w3 ⟨y, hy, _, rfl, hc3, sp3⟩
    have hy := hy (by omega)
    have z3 := sp3.size
    have BG3 := BG.span sp3 (.inr (by omega))
    have BR3 := BR.span sp3 (.inr (by omega))
    have HW3 := Lib.hid (OwW.span HW.out sp3 (.inr (by omega)))
    have hs3 : Span b (b + 1) w w3 := hsr.trans sp3
    clear BG BR HW hcr hsr
    by_cases hlt : (k : Int) < (y : Int)
    · have hk2 : k < 3 := by omega
      go_wp2_with fail
      refine (l01Below_any b 3 _ hc3 (by omega)).mono ?_
      rintro e w4 ⟨z, hz, _, rfl, hc4, sp4⟩
      have hz := hz (by omega)
      have z4 := sp4.size
      have BG4 := BG3.span sp4 (.inr (by omega))
      have BR4 := BR3.span sp4 (.inr (by omega))
      have HW4 := Lib.hid (OwW.span HW3.out sp4 (.inr (by omega)))
      have hs4 : Span b (b + 1) w w4 := hs3.trans sp4
      clear BG3 BR3 HW3
      obtain ⟨q, hq⟩ : ∃ q : Nat, m + 1 + z = q := ⟨_, rfl⟩
      have hq1 : 1 ≤ (q : Int) ∧ (q : Int) ≤ 100000 := by omega
      have hw1 : IntKind.i64.wrap ((m : Int) + 1) = (m : Int) + 1 := IntWalk.i64_in _ (by omega)
      have hw2 : IntKind.i64.wrap ((m : Int) + 1 + (z : Int)) = (q : Int) := by rw [IntWalk.i64_in _ (by omega)]; omega
      obtain ⟨ys, S1, S2, S3⟩ : ∃ ys, dosGo (epoA (q : Int)) xs 0 = (ys, 2) ∧ ((∃ g : GraphD, Dk ys [graphS g] (ts ++ [vText (q : Int)]) ∧ graphB g = true) ∧ epK (ts ++ [vText (q : Int)]) (ts ++ [vText (q : Int)]).length ≤ 3 * (k + 1) ∧ ∀ x ∈ ys, 0 < x.f1.size) ∧ ys.length ≤ xs.length + 2 := by
        obtain ⟨⟨g, hD, hgb⟩, hE, hne⟩ := HI.out
        obtain ⟨ys, h1, h2, h3⟩ := hD.epoch hq1 (by omega) (by omega)
        refine ⟨ys, h1, ⟨⟨g, h2, hgb⟩, by rw [epK_snoc ts hq1]; omega, ?_⟩, h3⟩
        have := ne_store (nm := timeN) hne (frameR_pos (vText_range hq1))
        rw [← epoA_yes hq1, h1] at this
        exact this
      have HI2 := Lib.hid S2
      obtain ⟨us, hus⟩ : ∃ us, ts ++ [vText (q : Int)] = us := ⟨_, rfl⟩
      have hul : us.length ≤ k + 1 := by rw [← hus]; simp; omega
      rw [hus] at HI2
      have CE := fun W => specEpochActs_any (q : Int) W
      have hel : (epoA (q : Int)).length = 2 := by rw [epoA_yes hq1]; rfl
      have heb : epoB (q : Int) = true := decide_eq_true hq1
      rw [hel, heb] at CE
      have CEH := Lib.hid CE
      have CD : Hid (∀ v w' v1, DiskRd w' v ⟨xs⟩ → ActsR w' v1 (epoA (q : Int)) → Calls Try.prog 36 #[v, v1] w' fun e w'' => ∃ ao cap, e = .returned (.tuple #[.agg #[.slice ao ys.length cap], .int .i64 2]) ∧ FilesW w'' w'.heap.size w''.heap.size (.slice ao ys.length cap) ys ∧ Fr w' w'') := Lib.hid fun v w' v1 h0 h1 => by
        have := specDoActs_any xs (epoA (q : Int)) (by omega) (epoA_bulk _) v v1 w' h0 h1
        simp only [S1] at this
        exact this
      obtain ⟨ls, hls⟩ : ∃ ls, epoA (q : Int) = ls := ⟨_, rfl⟩
      rw [hls] at CEH CD
      have hll : ls.length = 2 := by rw [← hls]; exact hel
      clear S1 S2 CE hel heb hus hls HI
      go_wp2_with fail
      refine (CEH.out _).mono ?_
      rintro e w5 ⟨ao5, cap5, rfl, ho5, hf5⟩
      have z5 := hf5.size
      have BG5 := BG4.fr hf5
      have HO5 := Lib.hid ho5
      have HW5 := Lib.hid (OwW.fr HW4.out hf5)
      have FG5 := BG5.facts
      clear CEH ho5 hw1 hw2
      go_wp2_with fail
      refine (CD.out _ _ _ ⟨_, rfl, OwW.rd HW5.out⟩ (by have := HO5.out.rd; unfold ActsR at this ⊢; rw [hll] at this ⊢; exact this)).mono ?_
      rintro e w6 ⟨ao6, cap6, rfl, ho6, hf6⟩
      have z6 := hf6.size
      have HO6 := Lib.hid ho6
      have BG6 := BG5.fr hf6
      have BR6 := (BR4.fr hf5).fr hf6
      have hc6 := (hc4.fr hf5).fr hf6
      have hs6 : Span b (b + 1) w w6 := (hs4.then_fr hf5).then_fr hf6
      clear FG5 CD ho6
      have FG6 := BG6.facts
      go_wp2_with fail
      go_roundw
      case rel => exact ⟨k + 1, q, ys, us, ao6, cap6, by omega, by go_num, rfl, by omega, by omega, hul, HI2, BG6.set_to (by simp), ⟨w5.heap.size, w6.heap.size, Lib.hid (OwW.set HO6.out (.inl (by show w2.heap.size < _; omega)) _), by omega, by simp, .inr (by omega)⟩, BR6.far' (by omega) _, by refine Cu.span (lo := b + 1) (hi := w6.heap.size + 1) hc6 ?_ (by omega); (repeat (first | with_reducible exact Span.refl _ _ _ | with_reducible refine Span.setb ?_ (by omega) (by omega) | with_reducible apply Span.alloc' | with_reducible apply Span.drew' | with_reducible apply Span.drewN')), by refine Span.above' (L := w.heap.size) (M := w6.heap.size + 1) hs6 ?_ (Nat.le_refl _); (repeat (first | with_reducible exact Span.refl _ _ _ | with_reducible refine Span.setb ?_ (by omega) (by omega) | with_reducible apply Span.alloc' | with_reducible apply Span.drew' | with_reducible apply Span.drewN'))⟩
      case measure => (simp [intOf]; omega)
    · have FG := BG3.facts
      have FR1 := BR3.facts
      go_wp2_with fail
      refine bodyPost_ret (v := .agg #[.slice ao xs.length cap]) (by simp [results, Try.results97, go_sem, *]) rfl ⟨xs, ao, cap, ?_, rfl, ?_, ?_, ?_⟩
      · obtain ⟨⟨g, hD, hgb⟩, hE, hne⟩ := HI.out
        exact ⟨g, ts, hD, hgb, by omega, by omega, by omega, hne⟩
      · refine OwW.mono (lo := lo) (hi := hi) ?_ (by omega) (by simp; omega)
        change OwW _ _ _ _ _ _ _ _; (repeat (first | (with_reducible refine OwW.drewN ?_ _) | (with_reducible refine OwW.drew ?_) | (with_reducible refine OwW.alloc ?_ _) | (with_reducible refine OwW.set ?_ (by (first | (with_reducible assumption) | omega | (simp only [World.size_alloc, World.size_setCell, World.size_drew, World.heap_drewN]; omega) | (simp; done) | (simp; omega))) _) | (exact HW3.out)))
      · refine Cu.span (lo := b + 1) (hi := w3.heap.size + 1) hc3 ?_ (by omega); (repeat (first | with_reducible exact Span.refl _ _ _ | with_reducible refine Span.setb ?_ (by omega) (by omega) | with_reducible apply Span.alloc' | with_reducible apply Span.drew' | with_reducible apply Span.drewN'))
      · refine Span.above' (L := w.heap.size) (M := w3.heap.size + 1) hs3 ?_ (Nat.le_refl _); (repeat (first | with_reducible exact Span.refl _ _ _ | with_reducible refine Span.setb ?_ (by omega) (by omega) | with_reducible apply Span.alloc' | with_reducible apply Span.drew' | with_reducible apply Span.drewN'))
set_option maxRecDepth 100000 in
theorem DrawPartDisk_any (ao : Option Addr) (n cap : Nat) (w : World) (hy : ByR w w.heap.size ao n cap) :
    Calls Try.prog 29 #[.slice ao n cap] w fun e w' => ∃ (xs : List FileR) (ao' : Option Addr) (cap' : Nat), PartDisk xs ∧ e = .returned (.agg #[.slice ao' xs.length cap']) ∧ FilesR w' (.slice ao' xs.length cap') xs ∧ Fr w w' := by
  have HY := Lib.hid hy
  clear hy
  go_enter Try.func29, Try.ntmps29
  go_wp2_with fail
  refine (l01New_any ao n cap _ (HY.out.here (by repeat (first | (with_reducible exact Fr.refl _) | (with_reducible assumption) | (with_reducible refine Fr.drewN ?_ _) | (with_reducible refine Fr.drew ?_) | (with_reducible refine Fr.alloc ?_ _) | (with_reducible refine Fr.setCell ?_ (by (first | (with_reducible assumption) | omega | (simp only [World.size_alloc, World.size_setCell, World.size_drew, World.heap_drewN]; omega) | (simp; done) | (simp; omega))) _) | (with_reducible refine Fr.trans ?_ (by with_reducible assumption)))))).mono ?_
  rintro e w1 ⟨b, rfl, hb, hc1, hf1⟩
  have z1 := hf1.size
  simp only [World.size_alloc] at z1 hb
  have BR := (Box.new w #[.slice none 0 0] 46).fr hf1
  go_wp2_with fail
  refine (l16Disk_any b _ hc1).mono ?_
  rintro e w2 ⟨xs, ax, cx, hp, rfl, ho, hc2, sp2⟩
  have z2 := sp2.size
  have BR2 := BR.span sp2 (.inl (by omega))
  have HO := Lib.hid ho
  have FB := BR2.facts
  have hf2 : Fr w w2 := sp2.fr (show Fr w w1 by repeat (first | (with_reducible exact Fr.refl _) | (with_reducible assumption) | (with_reducible refine Fr.drewN ?_ _) | (with_reducible refine Fr.drew ?_) | (with_reducible refine Fr.alloc ?_ _) | (with_reducible refine Fr.setCell ?_ (by (first | (with_reducible assumption) | omega | (simp only [World.size_alloc, World.size_setCell, World.size_drew, World.heap_drewN]; omega) | (simp; done) | (simp; omega))) _) | (with_reducible refine Fr.trans ?_ (by with_reducible assumption)))) (by omega)
  clear ho BR
  go_wp2_with fail
  refine bodyPost_ret (v := .agg #[.slice ax xs.length cx]) (by simp [results, Try.results29, go_sem, *]) rfl ⟨xs, ax, cx, hp, rfl, ?_, by repeat (first | (with_reducible exact Fr.refl _) | (with_reducible assumption) | (with_reducible refine Fr.drewN ?_ _) | (with_reducible refine Fr.drew ?_) | (with_reducible refine Fr.alloc ?_ _) | (with_reducible refine Fr.setCell ?_ (by (first | (with_reducible assumption) | omega | (simp only [World.size_alloc, World.size_setCell, World.size_drew, World.heap_drewN]; omega) | (simp; done) | (simp; omega))) _) | (with_reducible refine Fr.trans ?_ (by with_reducible assumption)))⟩
  refine FilesW.rd (lo := w1.heap.size) (hi := w2.heap.size) ?_
  change OwW _ _ _ _ _ _ _ _; (repeat (first | (with_reducible refine OwW.drewN ?_ _) | (with_reducible refine OwW.drew ?_) | (with_reducible refine OwW.alloc ?_ _) | (with_reducible refine OwW.set ?_ (by (first | (with_reducible assumption) | omega | (simp only [World.size_alloc, World.size_setCell, World.size_drew, World.heap_drewN]; omega) | (simp; done) | (simp; omega))) _) | (exact HO.out)))
set_option maxRecDepth 100000 in
theorem DrawGraph_any (ao : Option Addr) (n cap : Nat) (w : World) (hy : ByR w w.heap.size ao n cap) :
    Calls Try.prog 47 #[.slice ao n cap] w fun e w' => ∃ (g : GraphD) (ao' : Option Addr) (cap' : Nat), 2 ≤ g.f0 ∧ g.f0 ≤ 5 ∧ graphB g = true ∧ e = .returned (.agg #[.int .i64 g.f0, .slice ao' g.f1.length cap']) ∧ EdgesR w' (.slice ao' g.f1.length cap') g.f1 ∧ Fr w w' := by
  have HY := Lib.hid hy
  clear hy
  go_enter Try.func47, Try.ntmps47
  go_wp2_with fail
  refine (l01New_any ao n cap _ (HY.out.here (by repeat (first | (with_reducible exact Fr.refl _) | (with_reducible assumption) | (with_reducible refine Fr.drewN ?_ _) | (with_reducible refine Fr.drew ?_) | (with_reducible refine Fr.alloc ?_ _) | (with_reducible refine Fr.setCell ?_ (by (first | (with_reducible assumption) | omega | (simp only [World.size_alloc, World.size_setCell, World.size_drew, World.heap_drewN]; omega) | (simp; done) | (simp; omega))) _) | (with_reducible refine Fr.trans ?_ (by with_reducible assumption)))))).mono ?_
  rintro e w1 ⟨b, rfl, hb, hc1, hf1⟩
  have z1 := hf1.size
  simp only [World.size_alloc] at z1 hb
  have BR := (Box.new w #[.int .i64 0, .slice none 0 0] 32).fr hf1
  go_wp2_with fail
  refine (l04Graph_any b _ hc1).mono ?_
  rintro e w2 ⟨m, xs, ax, cx, h2, h5, hg, rfl, ho, hc2, sp2⟩
  have z2 := sp2.size
  have BR2 := BR.span sp2 (.inl (by omega))
  have HO := Lib.hid ho
  have FB := BR2.facts
  have hf2 : Fr w w2 := sp2.fr (show Fr w w1 by repeat (first | (with_reducible exact Fr.refl _) | (with_reducible assumption) | (with_reducible refine Fr.drewN ?_ _) | (with_reducible refine Fr.drew ?_) | (with_reducible refine Fr.alloc ?_ _) | (with_reducible refine Fr.setCell ?_ (by (first | (with_reducible assumption) | omega | (simp only [World.size_alloc, World.size_setCell, World.size_drew, World.heap_drewN]; omega) | (simp; done) | (simp; omega))) _) | (with_reducible refine Fr.trans ?_ (by with_reducible assumption)))) (by omega)
  clear ho BR
  go_wp2_with fail
  refine bodyPost_ret (v := .agg #[.int .i64 m, .slice ax xs.length cx]) (by simp [results, Try.results47, go_sem, *]) rfl ⟨⟨m, xs⟩, ax, cx, h2, h5, hg, rfl, ?_, by repeat (first | (with_reducible exact Fr.refl _) | (with_reducible assumption) | (with_reducible refine Fr.drewN ?_ _) | (with_reducible refine Fr.drew ?_) | (with_reducible refine Fr.alloc ?_ _) | (with_reducible refine Fr.setCell ?_ (by (first | (with_reducible assumption) | omega | (simp only [World.size_alloc, World.size_setCell, World.size_drew, World.heap_drewN]; omega) | (simp; done) | (simp; omega))) _) | (with_reducible refine Fr.trans ?_ (by with_reducible assumption)))⟩
  refine EdgesW.rd (lo := w1.heap.size) (hi := w2.heap.size) ?_
  change OwW _ _ _ _ _ _ _ _; (repeat (first | (with_reducible refine OwW.drewN ?_ _) | (with_reducible refine OwW.drew ?_) | (with_reducible refine OwW.alloc ?_ _) | (with_reducible refine OwW.set ?_ (by (first | (with_reducible assumption) | omega | (simp only [World.size_alloc, World.size_setCell, World.size_drew, World.heap_drewN]; omega) | (simp; done) | (simp; omega))) _) | (exact HO.out)))
end Go.Proofs.Ytjgghiniajmfjaa
