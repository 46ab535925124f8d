/- Sorted rows told once in place (slices.CompactFunc by PairsIn's second function), and clipped. No condition but the size. -/
import Derived.Test.YtmdgdnkllclpcaaGreatPif
import Derived.Test.YtmdgdnkllclpcaaGreatCmf
import Derived.Test.YtmdgdnkllclpcaaGreatGMof
import Derived.Test.YtmdgdnkllclpcaaGreatGCopyM
import Derived.Deep.QuietTactic
import Derived.BigQuiet
namespace Go.Proofs.YtmdgdnkllclpcaaGreat
open Go.RowKit
set_option linter.unusedVariables false
set_option linter.unusedSimpArgs false
theorem BI.rdGr {w w' : World} {x : BI} {row : Option Nat} (h : IntsR w x.v x.r) (hg : w.grownBy w' row) (hne : row ≠ some x.g) (hp : 0 < x.r.length) : IntsR w' x.v x.r := by
  refine RdS.move h (b := x.g) (fun _ => ⟨0, rfl⟩) hg.size fun _ o => ?_
  obtain ⟨_, ao, cap, hv, _, _, h4⟩ := h
  obtain ⟨b, o', e, hb, _⟩ := h4 hp
  unfold BI.v at hv
  cases hv
  cases e
  exact grown_cell hg hb hne o
theorem bi_get {M : List BI} {j : Nat} (h : j < M.length) : (M.map BI.v)[j]? = some (biAt M j).v := by
  rw [List.getElem?_map, List.getElem?_eq_getElem h]
  simp [biAt, List.getD, h]
/-- How far the telling has come, behind the first equal neighbours. -/
structure CpSt (w : World) (lo B cap : Nat) (M : List BI) (k1 : Nat) (wr : World) (c k2 : Nat) (C : List BI) (cur : List Value) : Prop where
  len : C.length = c
  kept : Kept C (M.take (k1 + k2))
  own : wr.ownsRow lo 86 1 (.slice (some ⟨B, 0, none⟩) M.length cap) M.length cur
  head : cur.take c = C.map BI.v
  tail : cur.drop (k1 + k2 - 1) = (M.map BI.v).drop (k1 + k2 - 1)
  gr : w.grownBy wr (some B)
section
variable {w wr : World} {lo B cap k1 c k2 : Nat} {M C : List BI} {cur : List Value}
theorem CpSt.cell (h : CpSt w lo B cap M k1 wr c k2 C cur) {j : Nat} (hj : j < M.length) (hk : k1 + k2 - 1 ≤ j) : wr.cell? ⟨B, j, none⟩ = some (biAt M j).v := by
  rw [World.ownsRow.cellAt h.own j (by omega)]
  have e := congrArg (fun l : List Value => l[j - (k1 + k2 - 1)]?) h.tail
  simp only [List.getElem?_drop, show k1 + k2 - 1 + (j - (k1 + k2 - 1)) = j by omega] at e
  rw [e, bi_get hj]
theorem CpSt.drew (h : CpSt w lo B cap M k1 wr c k2 C cur) (q : Nat) : CpSt w lo B cap M k1 (wr.drewN q) c k2 C cur := ⟨h.len, h.kept, owns_fr h.own ((Fr.refl _).drewN q), h.head, h.tail, gr_drewN h.gr q⟩
theorem take_one {M : List BI} {k : Nat} (h : k < M.length) : M.take (k + 1) = M.take k ++ [biAt M k] := bi_take h
theorem mem_last {M : List BI} {k : Nat} (h : k < M.length) : biAt M k ∈ M.take (k + 1) := by rw [take_one h]; simp
theorem CpSt.same (h : CpSt w lo B cap M k1 wr c k2 C cur) (hlt : k1 + k2 < M.length) (h1 : 1 ≤ k1 + k2) (he : (biAt M (k1 + k2)).r = (biAt M (k1 + k2 - 1)).r) : CpSt w lo B cap M k1 wr c (k2 + 1) C cur := by
  refine ⟨h.len, ?_, h.own, h.head, ?_, h.gr⟩
  · rw [← Nat.add_assoc, take_one hlt]
    refine h.kept.same ?_
    rw [he]
    have := mem_last (M := M) (k := k1 + k2 - 1) (by omega)
    rw [show k1 + k2 - 1 + 1 = k1 + k2 by omega] at this
    exact h.kept.all _ this
  · have := congrArg (List.drop 1) h.tail
    rw [List.drop_drop, List.drop_drop, show k1 + k2 - 1 + 1 = k1 + (k2 + 1) - 1 by omega] at this
    exact this
theorem CpSt.new (h : CpSt w lo B cap M k1 wr c k2 C cur) (hup : UpL M) (hlt : k1 + k2 < M.length) (h1 : 1 ≤ k1 + k2) (hc : c + 1 ≤ k1 + k2) (he : (biAt M (k1 + k2)).r ≠ (biAt M (k1 + k2 - 1)).r) : CpSt w lo B cap M k1 (wr.setCell ⟨B, c, none⟩ (biAt M (k1 + k2)).v) (c + 1) (k2 + 1) (C ++ [biAt M (k1 + k2)]) (cur.set c (biAt M (k1 + k2)).v) := by
  have hst := World.ownsRow.stored h.own c (biAt M (k1 + k2)).v
  have hcl : cur.length = M.length := by have := h.own.1; omega
  refine ⟨by simp [h.len], ?_, hst.1, ?_, ?_, gr_trans h.gr (by simpa [Value.ownBlock] using hst.2)⟩
  · rw [← Nat.add_assoc, take_one hlt]
    refine h.kept.new ?_
    have := UpL.gt (M := M) (k := k1 + k2 - 1) hup (by omega) (by rw [show k1 + k2 - 1 + 1 = k1 + k2 by omega]; exact he)
    rw [show k1 + k2 - 1 + 1 = k1 + k2 by omega] at this
    exact this
  · rw [List.map_append, ← h.head, List.map_singleton]
    have hcc : c < cur.length := by omega
    rw [List.take_set, List.take_succ_eq_append_getElem hcc, List.set_append_right _ _ (by simp; omega)]
    simp [show min c cur.length = c by omega]
  · have := congrArg (List.drop 1) h.tail
    rw [List.drop_drop, List.drop_drop, show k1 + k2 - 1 + 1 = k1 + (k2 + 1) - 1 by omega] at this
    rw [← this]
    refine List.ext_getElem? fun i => ?_
    rw [List.getElem?_drop, List.getElem?_drop, List.getElem?_set_ne (by omega)]
end
def KpPost (w : World) (B cap : Nat) (M : List BI) (e : Ending) (w' : World) : Prop := ∃ C : List BI, Kept C M ∧ C.length ≤ M.length ∧ e = .returned (.slice (some ⟨B, 0, none⟩) C.length cap) ∧ (∀ j, j < C.length → w'.cell? ⟨B, j, none⟩ = some (biAt C j).v) ∧ w.grownBy w' (some B)
theorem kept_len {C M : List BI} {k c : Nat} (h : C.length = c) (hc : c ≤ M.length) : C.length ≤ M.length := by omega
set_option maxHeartbeats 8000000 in
set_option maxRecDepth 100000 in
theorem compact_any (lo B cap : Nat) (M : List BI) (w : World) (h : w.ownsRow lo 86 1 (.slice (some ⟨B, 0, none⟩) M.length cap) M.length (M.map BI.v)) (hn : M.length ≤ 1048576) (hne : 0 < M.length) (hr : ∀ x ∈ M, IntsR w x.v x.r ∧ x.g ≠ B ∧ 0 < x.r.length) (hup : UpL M) :
    Calls Tryz.prog 69 #[.slice (some ⟨B, 0, none⟩) M.length cap, .func (.func 70) #[] #[]] w fun e w' => KpPost w B cap M e w' := by
  have hcap : M.length ≤ cap ∧ cap ≤ 9223372036854775807 := by
    rcases owns_shape h with ⟨e, _⟩ | ⟨g, c, hv, _, _, h1, h2⟩
    · cases e
    · cases hv; unfold maxLen at h2; exact ⟨h1, h2⟩
  obtain ⟨hcap1, hcap2⟩ := hcap
  have eg : ∀ args w, (callFunc 70 args).run Tryz.prog w = .ok (.enter 70 args) w := enters_of Tryz.func70 (by kernel_rfl) rfl
  obtain ⟨i0, hi0, hz0, hz1, hz2⟩ := info_parts info_ints
  have HO := Lib.hid h
  have HUP := Lib.hid hup
  have HEQ : Hid (∀ (j i : Nat) (w' : World), j < M.length → i < M.length → w.grownBy w' (some B) → Calls Tryz.prog 70 #[(biAt M j).v, (biAt M i).v] w' fun e w'' => e = .returned (.bool (decide ((biAt M j).r = (biAt M i).r))) ∧ ∃ q, w'' = w'.drewN q) := Lib.hid fun j i w' hj hi hg => by
    have hx := hr _ (bi_mem hj)
    have hy := hr _ (bi_mem hi)
    exact pairsIn2_any _ _ _ _ w' (BI.rdGr hx.1 hg (fun e => hx.2.1 (by cases e; rfl)) hx.2.2) (BI.rdGr hy.1 hg (fun e => hy.2.1 (by cases e; rfl)) hy.2.2) hx.2.2 hy.2.2
  clear h hup hr
  by_cases h2 : M.length < 2
  · have hK : KpPost w B cap M (.returned (.slice (some ⟨B, 0, none⟩) M.length cap)) w := by
      have hM : M.take 1 = M := List.take_of_length_le (by omega)
      refine ⟨M, ?_, Nat.le_refl _, rfl, fun j hj => ?_, World.grownBy.refl _ _⟩
      · have := take_one (M := M) (k := 0) hne
        rw [hM] at this
        simp at this
        rw [this]
        exact Kept.one _
      · rw [World.ownsRow.cellAt HO.out j (by omega), bi_get hj]
    have HK := Lib.hid hK
    clear hK
    go_enter Tryz.func69, Tryz.ntmps69
    go_wp2
    go_ret
    exact HK.out
  go_enter Tryz.func69, Tryz.ntmps69
  go_wp2
  go_loopw [5] (fun i wr => ∃ k : Nat, 1 ≤ k ∧ k ≤ M.length ∧ i = .int .i64 k ∧ Hid (Kept (M.take k) (M.take k)) ∧ ∃ q, wr = w.drewN q) (fun i _ => M.length - (intOf i).toNat)
  case atStart => exact ⟨1, Nat.le_refl _, by omega, rfl, Lib.hid (by have := take_one (M := M) (k := 0) hne; simp at this; rw [this]; exact Kept.one _), 0, by first | rfl | (cases w; rfl)⟩
  case round =>
    obtain ⟨k, hk1, hk, rfl, HK, q, hwr⟩ := hrel
    have hfr : Fr w wr := by rw [hwr]; exact (Fr.refl _).drewN q
    have hgr : w.grownBy wr (some B) := hfr.gr _
    have HWR := Lib.hid hwr
    clear hwr
    have hB : B < w.heap.size := owns_old HO.out B rfl
    have HOR := Lib.hid (owns_fr HO.out hfr)
    by_cases hlt : k < M.length
    · have hwk : IntKind.i64.wrap ((k : Int) - 1) = ((k - 1 : Nat) : Int) := by rw [IntWalk.i64_in _ (by omega)]; omega
      obtain ⟨x, hx⟩ : ∃ x, biAt M k = x := ⟨_, rfl⟩
      obtain ⟨y, hy⟩ : ∃ y, biAt M (k - 1) = y := ⟨_, rfl⟩
      obtain ⟨eb, heb⟩ : ∃ eb, decide (x.r = y.r) = eb := ⟨_, rfl⟩
      have CE : Hid (∀ n, Calls Tryz.prog 70 #[.slice (some ⟨x.g, 0, none⟩) x.r.length x.c, .slice (some ⟨y.g, 0, none⟩) y.r.length y.c] (wr.drewN n) fun e w'' => e = .returned (.bool eb) ∧ ∃ m, w'' = (wr.drewN n).drewN m) := Lib.hid fun n => by
        have h := HEQ.out k (k - 1) (wr.drewN n) hlt (by omega) (gr_drewN hgr n)
        rw [hx, hy, heb] at h
        exact h
      have c0 : wr.cell? ⟨B, k, none⟩ = some (.slice (some ⟨x.g, 0, none⟩) x.r.length x.c) := (World.ownsRow.cellAt HOR.out k (by omega)).trans (by rw [bi_get hlt, hx]; rfl)
      have c1 : wr.cell? ⟨B, k - 1, none⟩ = some (.slice (some ⟨y.g, 0, none⟩) y.r.length y.c) := (World.ownsRow.cellAt HOR.out (k - 1) (by omega)).trans (by rw [bi_get (by omega), hy]; rfl)
      have hck : ¬ cap = k := by omega
      have HX := Lib.hid hx
      have HY := Lib.hid hy
      have HE := Lib.hid heb
      clear hx hy heb hgr
      cases eb
      · go_wp2_with fail
        go_quiet ((go_at_call 70; exact Calls.quiet_of (CE.out _)))
        go_wp2_with fail
        go_roundw
        case rel =>
          refine ⟨k + 1, by omega, by omega, by go_num, Lib.hid ?_, _, by rw [HWR.out, World.drewN_drewN]⟩
          rw [take_one hlt]
          refine HK.out.new ?_
          have hne : (biAt M (k - 1 + 1)).r ≠ (biAt M (k - 1)).r := by rw [show k - 1 + 1 = k by omega, HX.out, HY.out]; exact of_decide_eq_false HE.out
          have := UpL.gt HUP.out (by omega) hne
          rw [show k - 1 + 1 = k by omega] at this
          exact this
        case measure => (simp [intOf]; omega)
      · go_wp2_with fail
        go_quiet ((go_at_call 70; exact Calls.quiet_of (CE.out _)))
        have H0 : Hid (CpSt w lo B cap M k (wr.drewN nq) k 1 (M.take k) (M.map BI.v)) := Lib.hid ⟨by simp; omega, by
            rw [take_one hlt]
            refine HK.out.same ?_
            rw [HX.out, of_decide_eq_true HE.out, ← HY.out]
            have := mem_last (M := M) (k := k - 1) (by omega)
            rw [show k - 1 + 1 = k by omega] at this
            exact HK.out.all _ this, owns_fr HOR.out ((Fr.refl _).drewN nq), by simp, rfl, gr_drewN (hfr.gr _) nq⟩
        clear c0 c1 CE HX HY HE HK HWR hwk
        go_wp2_with fail
        go_loopw [5, 7] (fun i j w2 => ∃ (c k2 : Nat) (C : List BI) (cur : List Value), i = .int .i64 c ∧ j = .int .i64 k2 ∧ 1 ≤ k2 ∧ k2 ≤ M.length - k ∧ c + 1 ≤ k + k2 ∧ Hid (CpSt w lo B cap M k w2 c k2 C cur)) (fun _ j _ => M.length - k - (intOf j).toNat)
        case atStart => exact ⟨k, 1, M.take k, M.map BI.v, rfl, rfl, Nat.le_refl _, by omega, by omega, H0⟩
        case round =>
          clear H0
          obtain ⟨c, k2, C, cur, rfl, rfl, h1, h2', h3, HS⟩ := hrel
          have hspot := World.ownsRow.frozenAt HS.out.own c
          by_cases hl2 : k2 < M.length - k
          · have hwj : IntKind.i64.wrap ((k2 : Int) - 1) = ((k2 - 1 : Nat) : Int) := by rw [IntWalk.i64_in _ (by omega)]; omega
            obtain ⟨x, hx⟩ : ∃ x, biAt M (k + k2) = x := ⟨_, rfl⟩
            obtain ⟨y, hy⟩ : ∃ y, biAt M (k + (k2 - 1)) = y := ⟨_, rfl⟩
            obtain ⟨eb, heb⟩ : ∃ eb, decide (x.r = y.r) = eb := ⟨_, rfl⟩
            have hg2 := HS.out.gr
            have CE : Hid (∀ n, Calls Tryz.prog 70 #[.slice (some ⟨x.g, 0, none⟩) x.r.length x.c, .slice (some ⟨y.g, 0, none⟩) y.r.length y.c] (wr.drewN n) fun e w'' => e = .returned (.bool eb) ∧ ∃ m, w'' = (wr.drewN n).drewN m) := Lib.hid fun n => by
              have h := HEQ.out (k + k2) (k + (k2 - 1)) (wr.drewN n) (by omega) (by omega) (gr_drewN hg2 n)
              rw [hx, hy, heb] at h
              exact h
            have c0 : wr.cell? ⟨B, k + k2, none⟩ = some (.slice (some ⟨x.g, 0, none⟩) x.r.length x.c) := (HS.out.cell (by omega) (by omega)).trans (by rw [hx]; rfl)
            have c1 : wr.cell? ⟨B, k + (k2 - 1), none⟩ = some (.slice (some ⟨y.g, 0, none⟩) y.r.length y.c) := (HS.out.cell (by omega) (by omega)).trans (by rw [hy]; rfl)
            have hsp : ∃ u, wr.cell? ⟨B, c, none⟩ = some u := owns_cell HS.out.own c (by omega)
            obtain ⟨u0, hu0⟩ := hsp
            have HX := Lib.hid hx
            have HY := Lib.hid hy
            have HE := Lib.hid heb
            have hcl : c < M.length := by omega
            have hcl2 : (c : Int) < (M.length : Int) := by omega
            clear hx hy heb hg2
            cases eb
            · go_wp2_with fail
              go_quiet ((go_at_call 70; exact Calls.quiet_of (CE.out _)))
              have hne : (biAt M (k + k2)).r ≠ (biAt M (k + k2 - 1)).r := by rw [show k + k2 - 1 = k + (k2 - 1) by omega, HX.out, HY.out]; exact of_decide_eq_false HE.out
              have HN : Hid (CpSt w lo B cap M k ((wr.drewN nq).setCell ⟨B, c, none⟩ (.slice (some ⟨x.g, 0, none⟩) x.r.length x.c)) (c + 1) (k2 + 1) (C ++ [biAt M (k + k2)]) (cur.set c (biAt M (k + k2)).v)) := Lib.hid (by
                have := (HS.out.drew nq).new HUP.out (by omega) (by omega) h3 hne
                rw [HX.out] at this
                rw [HX.out]
                exact this)
              clear hne HS CE
              go_wp2_with fail
              go_roundw
              case rel => exact ⟨c + 1, k2 + 1, _, _, by go_num, by go_num, by omega, by omega, by omega, HN⟩
              case measure => (simp [intOf]; omega)
            · go_wp2_with fail
              go_quiet ((go_at_call 70; exact Calls.quiet_of (CE.out _)))
              have HN : Hid (CpSt w lo B cap M k (wr.drewN nq) c (k2 + 1) C cur) := Lib.hid ((HS.out.drew nq).same (by omega) (by omega) (by rw [show k + k2 - 1 = k + (k2 - 1) by omega, HX.out, HY.out]; exact of_decide_eq_true HE.out))
              clear HS CE
              go_wp2_with fail
              go_roundw
              case rel => exact ⟨c, k2 + 1, C, cur, rfl, by go_num, by omega, by omega, by omega, HN⟩
              case measure => (simp [intOf]; omega)
          · obtain rfl : k2 = M.length - k := by omega
            have hcc : c + 1 ≤ M.length := by omega
            have hck2 : ¬ cap = c := by omega
            have hcl2 : (c : Int) ≤ (M.length : Int) := by omega
            obtain ⟨g0, cp0, curA, hv0, _, hheap, _, _, hsz, htk⟩ := (HS.out.own.2.resolve_left (by simp))
            cases hv0
            have hcl3 : curA.toList.length = cap := by rw [Array.length_toList]; omega
            obtain ⟨C2, w3, hcl', hg3', hgr3, hl3, ht3⟩ := run_clear_rowM (P := Tryz.prog) wr 30 86 (.slice none 0 0) Tryz.underlying30 (fun w => by simp [zeroValue, typeInfo, hi0, hz0]) (by simp [Value.cells, Value.oneCell']) B c (M.length - c) (cap - c) (by omega) curA.toList 86 (by simpa using hheap) (by have h3 : (Value.slice none 0 0).cells.size = 1 := rfl; rw [h3, hcl3]; omega)
            have hK : KpPost w B cap M (.returned (.slice (some ⟨B, 0, none⟩) c cap)) w3 := by
              have hlen := HS.out.len
              refine ⟨C, ?_, by omega, by rw [hlen], fun j hj => ?_, gr_trans HS.out.gr hgr3⟩
              · have h := HS.out.kept
                rw [show k + (M.length - k) = M.length by omega, List.take_length] at h
                exact h
              · have hh := HS.out.head
                rw [← htk, List.take_take, Nat.min_eq_left (by omega), ← ht3] at hh
                have e := congrArg (fun l : List Value => l[j]?) hh
                rw [List.getElem?_take, if_pos (by omega), bi_get hj] at e
                unfold World.cell?
                rw [hg3']
                simpa using e
            have HK := Lib.hid hK
            clear hK hheap hg3' HS htk hsz ht3 hl3
            go_wp2_with fail
            go_ret
            exact HK.out
    · obtain rfl : k = M.length := by omega
      have hK : KpPost w B cap M (.returned (.slice (some ⟨B, 0, none⟩) M.length cap)) wr := by
        have hM : M.take M.length = M := List.take_length
        have h := HK.out
        rw [hM] at h
        exact ⟨M, h, Nat.le_refl _, rfl, fun j hj => by rw [World.ownsRow.cellAt HOR.out j (by omega), bi_get hj], hfr.gr _⟩
      have HK := Lib.hid hK
      clear hK
      go_wp2_with fail
      go_ret
      exact HK.out
end Go.Proofs.YtmdgdnkllclpcaaGreat
