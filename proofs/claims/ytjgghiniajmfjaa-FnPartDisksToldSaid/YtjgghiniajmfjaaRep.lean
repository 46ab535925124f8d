/- The epoch that a disk holds: impl.ReadEpoch and spec.ReadEpoch give the same. No condition. -/
import Derived.Test.YtjgghiniajmfjaaRe
import Derived.Test.YtjgghiniajmfjaaKUnf
namespace Go.Proofs.Ytjgghiniajmfjaa
open Go.RowKit
set_option linter.unusedVariables false
set_option linter.unusedSimpArgs false
theorem unfGo_sz (s : ByteArray) : ∀ (f a : Nat), a ≤ s.size → ∀ x ∈ (unfGo s f a).1, x.size ≤ 9000
  | 0, a, h, x, hx => by simp [unfGo] at hx
  | f + 1, a, h, x, hx => by
    rw [unfGo] at hx
    split at hx
    · rename_i hok
      obtain ⟨e, h1, h2, h3, h4⟩ := frAt_ok h hok
      rw [h1] at hx
      simp only [Int.toNat_natCast, List.mem_cons] at hx
      rcases hx with rfl | hx
      · exact h4
      · exact unfGo_sz s f e h3 x hx
    · simp at hx
theorem unf_sz (s : ByteArray) : ∀ x ∈ (unf s).1, x.size ≤ 9000 := by
  unfold unf
  split
  · exact unfGo_sz s _ 0 (Nat.zero_le _)
  · intro x hx; simp at hx
def recsOf (xs : List FileR) (s : ByteArray) : List ByteArray := if diskB xs = true then (unf (fTx xs s)).1 else []
theorem recsOf_len (xs : List FileR) (s : ByteArray) : (recsOf xs s).length ≤ 20000 := by
  unfold recsOf; split
  · exact unf_len _
  · simp
theorem recsOf_sz (xs : List FileR) (s : ByteArray) {k : Nat} (hk : k < (recsOf xs s).length) : (sAt (recsOf xs s) k).size ≤ 9000 := by
  have hm : sAt (recsOf xs s) k ∈ recsOf xs s := by
    unfold sAt
    simp [List.getD, hk]
  revert hm
  generalize sAt (recsOf xs s) k = y
  intro hm
  unfold recsOf at hm
  split at hm
  · exact unf_sz _ _ hm
  · simp at hm
def recG (r : ByteArray) : Prop := (rv r 0).ok = true ∧ (rv r 0).e = r.size ∧ (rv r 0).n ≤ 100000
instance (r : ByteArray) : Decidable (recG r) := by unfold recG; infer_instance
def epK (rs : List ByteArray) : Nat → Int
  | 0 => 0
  | k + 1 => if recG (sAt rs k) then max (epK rs k) (rv (sAt rs k) 0).n else epK rs k
theorem epK_nonneg (rs : List ByteArray) : ∀ k, 0 ≤ epK rs k
  | 0 => Int.le_refl _
  | k + 1 => by
    have := epK_nonneg rs k
    rw [epK]; split <;> omega
theorem epK_le (rs : List ByteArray) : ∀ k, epK rs k ≤ 100000
  | 0 => by simp [epK]
  | k + 1 => by
    have := epK_le rs k
    rw [epK]; split
    · rename_i h; have := h.2.2; omega
    · exact this
def epI (xs : List FileR) : Int := epK (recsOf xs ⟨#[116, 105, 109, 101]⟩) (recsOf xs ⟨#[116, 105, 109, 101]⟩).length
theorem epI_no {xs : List FileR} (h : diskB xs = false) : epI xs = 0 := by unfold epI recsOf; rw [h]; rfl
theorem epK_yes {rs : List ByteArray} {k : Nat} {r : ByteArray} (hr : sAt rs k = r) {m n : Int} (hm : epK rs k = m) (hok : (rv r 0) = ⟨n, r.size, true⟩) (hn : n ≤ 100000) : epK rs (k + 1) = max m n := by
  rw [epK, hr, hm, if_pos (show recG r from by unfold recG; rw [hok]; exact ⟨rfl, rfl, hn⟩), hok]
theorem epK_no {rs : List ByteArray} {k : Nat} {r : ByteArray} (hr : sAt rs k = r) {m n e : Int} {ok : Bool} (hm : epK rs k = m) (hq : (rv r 0) = ⟨n, e, ok⟩) (h : ¬ (ok = true ∧ e = r.size ∧ n ≤ 100000)) : epK rs (k + 1) = m := by
  rw [epK, hr, hm, if_neg (show ¬ recG r from by unfold recG; rw [hq]; exact h)]
theorem recordsOf_any (v : Value) (xs : List FileR) (s : ByteArray) (w : World) (hv : FilesR w v xs) :
    Calls Try.prog 107 #[.agg #[v], .string s] w fun e w' => ∃ u, e = .returned u ∧ StrsW w' w.heap.size w'.heap.size u (recsOf xs s) ∧ Fr w w' := by
  obtain ⟨ao, ba, oa, ca, rfl, hca, hma, fa⟩ := hv.one
  clear fa
  cases hb : diskB xs
  · have HR : Hid (recsOf xs s = []) := by show _ = _; unfold recsOf; rw [hb]; rfl
    go_enter Try.func107, Try.ntmps107
    go_wp2_with fail
    refine (implDiskOk_any _ xs _ (hv.fr (by repeat (first | (with_reducible exact Fr.refl _) | (with_reducible assumption) | (with_reducible refine Fr.drewN ?_ _) | (with_reducible refine Fr.drew ?_) | (with_reducible refine Fr.alloc ?_ _) | (with_reducible refine Fr.setCell ?_ (by (first | (with_reducible assumption) | omega | (simp only [World.size_alloc, World.size_setCell, World.size_drew, World.heap_drewN]; omega) | (simp; done) | (simp; omega))) _) | (with_reducible refine Fr.trans ?_ (by with_reducible assumption)))))).mono ?_
    rintro e w1 ⟨rfl, hf1⟩
    rw [hb]
    have z1 := hf1.size; (try simp only [World.size_alloc, World.size_setCell, World.size_drew] at z1)
    go_wp2_with fail
    go_ret
    rw [HR.out]
    exact ⟨_, rfl, StrsW.nil _ _ _, by repeat (first | (with_reducible exact Fr.refl _) | (with_reducible assumption) | (with_reducible refine Fr.drewN ?_ _) | (with_reducible refine Fr.drew ?_) | (with_reducible refine Fr.alloc ?_ _) | (with_reducible refine Fr.setCell ?_ (by (first | (with_reducible assumption) | omega | (simp only [World.size_alloc, World.size_setCell, World.size_drew, World.heap_drewN]; omega) | (simp; done) | (simp; omega))) _) | (with_reducible refine Fr.trans ?_ (by with_reducible assumption)))⟩
  · have HR : Hid (recsOf xs s = (unf (fTx xs s)).1) := by show _ = _; unfold recsOf; rw [hb]; rfl
    have hsz := fTx_size hb s
    go_enter Try.func107, Try.ntmps107
    go_wp2_with fail
    refine (implDiskOk_any _ xs _ (hv.fr (by repeat (first | (with_reducible exact Fr.refl _) | (with_reducible assumption) | (with_reducible refine Fr.drewN ?_ _) | (with_reducible refine Fr.drew ?_) | (with_reducible refine Fr.alloc ?_ _) | (with_reducible refine Fr.setCell ?_ (by (first | (with_reducible assumption) | omega | (simp only [World.size_alloc, World.size_setCell, World.size_drew, World.heap_drewN]; omega) | (simp; done) | (simp; omega))) _) | (with_reducible refine Fr.trans ?_ (by with_reducible assumption)))))).mono ?_
    rintro e w1 ⟨rfl, hf1⟩
    rw [hb]
    have BD : Box w1 (w.heap.size) #[.slice ao xs.length ca] 46 := (Box.new' (w := w) rfl).fr (by repeat (first | (with_reducible exact Fr.refl _) | (with_reducible assumption) | (with_reducible refine Fr.drewN ?_ _) | (with_reducible refine Fr.drew ?_) | (with_reducible refine Fr.alloc ?_ _) | (with_reducible refine Fr.setCell ?_ (by (first | (with_reducible assumption) | omega | (simp only [World.size_alloc, World.size_setCell, World.size_drew, World.heap_drewN]; omega) | (simp; done) | (simp; omega))) _) | (with_reducible refine Fr.trans ?_ (by with_reducible assumption))))
    have FD := BD.facts
    have z1 := hf1.size; (try simp only [World.size_alloc, World.size_setCell, World.size_drew] at z1)
    go_wp2_with fail
    refine (implFileAt_any _ xs s _ (hv.fr (by repeat (first | (with_reducible exact Fr.refl _) | (with_reducible assumption) | (with_reducible refine Fr.drewN ?_ _) | (with_reducible refine Fr.drew ?_) | (with_reducible refine Fr.alloc ?_ _) | (with_reducible refine Fr.setCell ?_ (by (first | (with_reducible assumption) | omega | (simp only [World.size_alloc, World.size_setCell, World.size_drew, World.heap_drewN]; omega) | (simp; done) | (simp; omega))) _) | (with_reducible refine Fr.trans ?_ (by with_reducible assumption)))))).mono ?_
    rintro e w2 ⟨rfl, hf2⟩
    have z1 := hf2.size; (try simp only [World.size_alloc, World.size_setCell, World.size_drew] at z1)
    go_wp2_with fail
    refine (implUnframe_any (fTx xs s) _ (by omega)).mono ?_
    rintro e w3 ⟨ao3, cap3, rfl, o3, hf3⟩
    have z3 := hf3.size
    go_wp2_with fail
    go_ret
    rw [HR.out]
    exact ⟨_, rfl, OwW.mono o3 (by (first | (with_reducible assumption) | omega | (simp only [World.size_alloc, World.size_setCell, World.size_drew, World.heap_drewN]; omega) | (simp; done) | (simp; omega))) (Nat.le_refl _), by repeat (first | (with_reducible exact Fr.refl _) | (with_reducible assumption) | (with_reducible refine Fr.drewN ?_ _) | (with_reducible refine Fr.drew ?_) | (with_reducible refine Fr.alloc ?_ _) | (with_reducible refine Fr.setCell ?_ (by (first | (with_reducible assumption) | omega | (simp only [World.size_alloc, World.size_setCell, World.size_drew, World.heap_drewN]; omega) | (simp; done) | (simp; omega))) _) | (with_reducible refine Fr.trans ?_ (by with_reducible assumption)))⟩
set_option maxHeartbeats 1000000 in
theorem implReadEpoch_any (v : Value) (xs : List FileR) (w : World) (hv : FilesR w v xs) :
    Calls Try.prog 35 #[.agg #[v]] w fun e w' => e = .returned (.int .i64 (epI xs)) ∧ Fr w w' := by
  obtain ⟨ao, ba, oa, ca, rfl, hca, hma, fa⟩ := hv.one
  clear fa
  obtain ⟨rs, hrs⟩ : ∃ rs, recsOf xs ⟨#[116, 105, 109, 101]⟩ = rs := ⟨_, rfl⟩
  have hE : Hid (epI xs = epK rs rs.length) := by show _ = _; unfold epI; rw [hrs]
  have hlen := recsOf_len xs ⟨#[116, 105, 109, 101]⟩
  have hsz := fun k => @recsOf_sz xs ⟨#[116, 105, 109, 101]⟩ k
  have hcon := fun (W : World) (hf : Fr w W) => recordsOf_any _ xs ⟨#[116, 105, 109, 101]⟩ W (hv.fr hf)
  rw [hrs] at hlen hsz hcon
  have HS := Lib.hid hsz
  clear hsz hrs
  go_enter Try.func35, Try.ntmps35
  go_wp2_with fail
  refine (hcon _ (by repeat (first | (with_reducible exact Fr.refl _) | (with_reducible assumption) | (with_reducible refine Fr.drewN ?_ _) | (with_reducible refine Fr.drew ?_) | (with_reducible refine Fr.alloc ?_ _) | (with_reducible refine Fr.setCell ?_ (by (first | (with_reducible assumption) | omega | (simp only [World.size_alloc, World.size_setCell, World.size_drew, World.heap_drewN]; omega) | (simp; done) | (simp; omega))) _) | (with_reducible refine Fr.trans ?_ (by with_reducible assumption))))).mono ?_
  rintro e w1 ⟨u, rfl, o1, hf1⟩
  clear hcon
  obtain ⟨a1, b1, p1, c1, rfl, hc1, hm1, f1⟩ := o1.rd.one
  have z1 := hf1.size; (try simp only [World.size_alloc, World.size_setCell, World.size_drew] at z1)
  go_wp2_with fail
  go_loopw [3, 12] (fun b i wr => ∃ k : Nat, k ≤ rs.length ∧ i = .int .i64 k ∧ b = .int .i64 (epK rs k) ∧ Fr w wr ∧ Fr w1 wr) (fun _ i _ => rs.length - (intOf i).toNat)
  case atStart => exact ⟨0, Nat.zero_le _, rfl, rfl, by repeat (first | (with_reducible exact Fr.refl _) | (with_reducible assumption) | (with_reducible refine Fr.drewN ?_ _) | (with_reducible refine Fr.drew ?_) | (with_reducible refine Fr.alloc ?_ _) | (with_reducible refine Fr.setCell ?_ (by (first | (with_reducible assumption) | omega | (simp only [World.size_alloc, World.size_setCell, World.size_drew, World.heap_drewN]; omega) | (simp; done) | (simp; omega))) _) | (with_reducible refine Fr.trans ?_ (by with_reducible assumption))), Fr.refl _⟩
  case round =>
    obtain ⟨k, hk, rfl, rfl, hfr, hfr1⟩ := hrel
    obtain ⟨m, hm⟩ : ∃ m, epK rs k = m := ⟨_, rfl⟩
    have hm0 := epK_nonneg rs k
    have hm9 := epK_le rs k
    rw [hm] at hm0 hm9 ⊢
    have HM := Lib.hid hm
    by_cases hlt : k < rs.length
    · clear hm
      obtain ⟨rfl, hba, f1⟩ := f1 (by omega)
      obtain ⟨r, hr⟩ : ∃ r, sAt rs k = r := ⟨_, rfl⟩
      have c0 : wr.cell? ⟨b1, p1 + k, none⟩ = some (.string r) := (hfr1.cell (p := ⟨b1, _, none⟩) hba).trans (hr ▸ (f1 k hlt))
      have hrz : r.size ≤ 9000 := by rw [← hr]; exact HS.out k hlt
      have hrv := implReadVar_any r 0 wr (by omega)
      obtain ⟨q, hq⟩ : ∃ q, rv r 0 = q := ⟨_, rfl⟩
      rw [hq] at hrv
      obtain ⟨qn, qe, qo⟩ := q
      simp only at hrv
      have HQ := Lib.hid hq
      have HR := Lib.hid hr
      clear f1 hq hr
      by_cases hg : qo = true ∧ qe = r.size ∧ qn ≤ 100000
      · obtain ⟨rfl, rfl, hn⟩ := hg
        have HK : Hid (epK rs (k + 1) = max m qn) := epK_yes HR.out HM.out HQ.out hn
        have g3 : decide (qn ≤ 100000) = true := decide_eq_true hn
        go_wp2_with (go_at_call 108; refine hrv.mono ?_; rintro e w2 ⟨rfl, rfl⟩)
        try go_quiet (fail)
        try go_wp2_with fail
        go_roundw
        case rel => exact ⟨k + 1, by omega, by go_num, by rw [HK.out], by repeat (first | (with_reducible exact Fr.refl _) | (with_reducible assumption) | (with_reducible refine Fr.drewN ?_ _) | (with_reducible refine Fr.drew ?_) | (with_reducible refine Fr.alloc ?_ _) | (with_reducible refine Fr.setCell ?_ (by (first | (with_reducible assumption) | omega | (simp only [World.size_alloc, World.size_setCell, World.size_drew, World.heap_drewN]; omega) | (simp; done) | (simp; omega))) _) | (with_reducible refine Fr.trans ?_ (by with_reducible assumption))), by repeat (first | (with_reducible exact Fr.refl _) | (with_reducible assumption) | (with_reducible refine Fr.drewN ?_ _) | (with_reducible refine Fr.drew ?_) | (with_reducible refine Fr.alloc ?_ _) | (with_reducible refine Fr.setCell ?_ (by (first | (with_reducible assumption) | omega | (simp only [World.size_alloc, World.size_setCell, World.size_drew, World.heap_drewN]; omega) | (simp; done) | (simp; omega))) _) | (with_reducible refine Fr.trans ?_ (by with_reducible assumption)))⟩
        case measure => (simp [intOf]; omega)
      · have HK : Hid (epK rs (k + 1) = m) := epK_no HR.out HM.out HQ.out hg
        cases qo
        · clear hg
          go_wp2_with (go_at_call 108; refine hrv.mono ?_; rintro e w2 ⟨rfl, rfl⟩)
          try go_quiet (fail)
          try go_wp2_with fail
          go_roundw
          case rel => exact ⟨k + 1, by omega, by go_num, by rw [HK.out], by repeat (first | (with_reducible exact Fr.refl _) | (with_reducible assumption) | (with_reducible refine Fr.drewN ?_ _) | (with_reducible refine Fr.drew ?_) | (with_reducible refine Fr.alloc ?_ _) | (with_reducible refine Fr.setCell ?_ (by (first | (with_reducible assumption) | omega | (simp only [World.size_alloc, World.size_setCell, World.size_drew, World.heap_drewN]; omega) | (simp; done) | (simp; omega))) _) | (with_reducible refine Fr.trans ?_ (by with_reducible assumption))), by repeat (first | (with_reducible exact Fr.refl _) | (with_reducible assumption) | (with_reducible refine Fr.drewN ?_ _) | (with_reducible refine Fr.drew ?_) | (with_reducible refine Fr.alloc ?_ _) | (with_reducible refine Fr.setCell ?_ (by (first | (with_reducible assumption) | omega | (simp only [World.size_alloc, World.size_setCell, World.size_drew, World.heap_drewN]; omega) | (simp; done) | (simp; omega))) _) | (with_reducible refine Fr.trans ?_ (by with_reducible assumption)))⟩
          case measure => (simp [intOf]; omega)
        · by_cases he : qe = r.size
          · subst he
            have hn : ¬ qn ≤ 100000 := fun h => hg ⟨rfl, rfl, h⟩
            have g3 : decide (qn ≤ 100000) = false := decide_eq_false hn
            clear hg
            go_wp2_with (go_at_call 108; refine hrv.mono ?_; rintro e w2 ⟨rfl, rfl⟩)
            try go_quiet (fail)
            try go_wp2_with fail
            go_roundw
            case rel => exact ⟨k + 1, by omega, by go_num, by rw [HK.out], by repeat (first | (with_reducible exact Fr.refl _) | (with_reducible assumption) | (with_reducible refine Fr.drewN ?_ _) | (with_reducible refine Fr.drew ?_) | (with_reducible refine Fr.alloc ?_ _) | (with_reducible refine Fr.setCell ?_ (by (first | (with_reducible assumption) | omega | (simp only [World.size_alloc, World.size_setCell, World.size_drew, World.heap_drewN]; omega) | (simp; done) | (simp; omega))) _) | (with_reducible refine Fr.trans ?_ (by with_reducible assumption))), by repeat (first | (with_reducible exact Fr.refl _) | (with_reducible assumption) | (with_reducible refine Fr.drewN ?_ _) | (with_reducible refine Fr.drew ?_) | (with_reducible refine Fr.alloc ?_ _) | (with_reducible refine Fr.setCell ?_ (by (first | (with_reducible assumption) | omega | (simp only [World.size_alloc, World.size_setCell, World.size_drew, World.heap_drewN]; omega) | (simp; done) | (simp; omega))) _) | (with_reducible refine Fr.trans ?_ (by with_reducible assumption)))⟩
            case measure => (simp [intOf]; omega)
          · have g2 : (qe == (r.size : Int)) = false := by simpa using he
            have g2' : decide (qe = (r.size : Int)) = false := decide_eq_false he
            clear hg
            go_wp2_with (go_at_call 108; refine hrv.mono ?_; rintro e w2 ⟨rfl, rfl⟩)
            try go_quiet (fail)
            try go_wp2_with fail
            go_roundw
            case rel => exact ⟨k + 1, by omega, by go_num, by rw [HK.out], by repeat (first | (with_reducible exact Fr.refl _) | (with_reducible assumption) | (with_reducible refine Fr.drewN ?_ _) | (with_reducible refine Fr.drew ?_) | (with_reducible refine Fr.alloc ?_ _) | (with_reducible refine Fr.setCell ?_ (by (first | (with_reducible assumption) | omega | (simp only [World.size_alloc, World.size_setCell, World.size_drew, World.heap_drewN]; omega) | (simp; done) | (simp; omega))) _) | (with_reducible refine Fr.trans ?_ (by with_reducible assumption))), by repeat (first | (with_reducible exact Fr.refl _) | (with_reducible assumption) | (with_reducible refine Fr.drewN ?_ _) | (with_reducible refine Fr.drew ?_) | (with_reducible refine Fr.alloc ?_ _) | (with_reducible refine Fr.setCell ?_ (by (first | (with_reducible assumption) | omega | (simp only [World.size_alloc, World.size_setCell, World.size_drew, World.heap_drewN]; omega) | (simp; done) | (simp; omega))) _) | (with_reducible refine Fr.trans ?_ (by with_reducible assumption)))⟩
            case measure => (simp [intOf]; omega)
    · have hkl : k = rs.length := by omega
      subst hkl
      clear hm
      go_wp2_with fail
      go_ret
      rw [hE.out, HM.out]
      exact ⟨rfl, by repeat (first | (with_reducible exact Fr.refl _) | (with_reducible assumption) | (with_reducible refine Fr.drewN ?_ _) | (with_reducible refine Fr.drew ?_) | (with_reducible refine Fr.alloc ?_ _) | (with_reducible refine Fr.setCell ?_ (by (first | (with_reducible assumption) | omega | (simp only [World.size_alloc, World.size_setCell, World.size_drew, World.heap_drewN]; omega) | (simp; done) | (simp; omega))) _) | (with_reducible refine Fr.trans ?_ (by with_reducible assumption)))⟩
set_option maxHeartbeats 1000000 in
theorem specReadEpoch_any (v : Value) (xs : List FileR) (w : World) (hv : FilesR w v xs) :
    Calls Try.prog 30 #[.agg #[v]] w fun e w' => e = .returned (.int .i64 (epI xs)) ∧ Fr w w' := by
  obtain ⟨ao, ba, oa, ca, rfl, hca, hma, fa⟩ := hv.one
  clear fa
  cases hb : diskB xs
  · have HR := Lib.hid (epI_no hb)
    go_enter Try.func30, Try.ntmps30
    go_wp2_with fail
    refine (specDiskOk_any _ xs _ (hv.fr (by repeat (first | (with_reducible exact Fr.refl _) | (with_reducible assumption) | (with_reducible refine Fr.drewN ?_ _) | (with_reducible refine Fr.drew ?_) | (with_reducible refine Fr.alloc ?_ _) | (with_reducible refine Fr.setCell ?_ (by (first | (with_reducible assumption) | omega | (simp only [World.size_alloc, World.size_setCell, World.size_drew, World.heap_drewN]; omega) | (simp; done) | (simp; omega))) _) | (with_reducible refine Fr.trans ?_ (by with_reducible assumption)))))).mono ?_
    rintro e w1 ⟨rfl, hf1⟩
    rw [hb]
    have z1 := hf1.size; (try simp only [World.size_alloc, World.size_setCell, World.size_drew] at z1)
    go_wp2_with fail
    go_ret
    rw [HR.out]
    exact ⟨rfl, by repeat (first | (with_reducible exact Fr.refl _) | (with_reducible assumption) | (with_reducible refine Fr.drewN ?_ _) | (with_reducible refine Fr.drew ?_) | (with_reducible refine Fr.alloc ?_ _) | (with_reducible refine Fr.setCell ?_ (by (first | (with_reducible assumption) | omega | (simp only [World.size_alloc, World.size_setCell, World.size_drew, World.heap_drewN]; omega) | (simp; done) | (simp; omega))) _) | (with_reducible refine Fr.trans ?_ (by with_reducible assumption)))⟩
  · have hft := fTx_size hb ⟨#[116, 105, 109, 101]⟩
    obtain ⟨rs, hrs⟩ : ∃ rs, recsOf xs ⟨#[116, 105, 109, 101]⟩ = rs := ⟨_, rfl⟩
    have hE : Hid (epI xs = epK rs rs.length) := by show _ = _; unfold epI; rw [hrs]
    have hlen := recsOf_len xs ⟨#[116, 105, 109, 101]⟩
    have hsz := fun k => @recsOf_sz xs ⟨#[116, 105, 109, 101]⟩ k
    rw [hrs] at hlen hsz
    have HS := Lib.hid hsz
    have hun : (unf (fTx xs ⟨#[116, 105, 109, 101]⟩)).1 = rs := by rw [← hrs]; unfold recsOf; rw [hb]; rfl
    have hcon := fun (W : World) => specUnframe_any (fTx xs ⟨#[116, 105, 109, 101]⟩) W (by omega)
    rw [hun] at hcon
    have hdk := fun (W : World) (hf : Fr w W) => specDiskOk_any _ xs W (hv.fr hf)
    rw [hb] at hdk
    have hfa := fun (W : World) (hf : Fr w W) => specFileAt_any _ xs ⟨#[116, 105, 109, 101]⟩ W (hv.fr hf)
    obtain ⟨ft, hft'⟩ : ∃ ft, fTx xs ⟨#[116, 105, 109, 101]⟩ = ft := ⟨_, rfl⟩
    obtain ⟨fh, hfh⟩ : ∃ fh, fHas xs ⟨#[116, 105, 109, 101]⟩ = fh := ⟨_, rfl⟩
    obtain ⟨ue, hue⟩ : ∃ ue, (unf ft).2 = ue := ⟨_, rfl⟩
    rw [hft', hfh] at hfa
    rw [hft', hue] at hcon
    clear hsz hrs hun hft hft' hfh hue hb
    go_enter Try.func30, Try.ntmps30
    go_wp2_with fail
    refine (hdk _ (by repeat (first | (with_reducible exact Fr.refl _) | (with_reducible assumption) | (with_reducible refine Fr.drewN ?_ _) | (with_reducible refine Fr.drew ?_) | (with_reducible refine Fr.alloc ?_ _) | (with_reducible refine Fr.setCell ?_ (by (first | (with_reducible assumption) | omega | (simp only [World.size_alloc, World.size_setCell, World.size_drew, World.heap_drewN]; omega) | (simp; done) | (simp; omega))) _) | (with_reducible refine Fr.trans ?_ (by with_reducible assumption))))).mono ?_
    rintro e w1 ⟨rfl, hf1⟩
    have BD : Box w1 (w.heap.size) #[.slice ao xs.length ca] 46 := (Box.new' (w := w) rfl).fr (by repeat (first | (with_reducible exact Fr.refl _) | (with_reducible assumption) | (with_reducible refine Fr.drewN ?_ _) | (with_reducible refine Fr.drew ?_) | (with_reducible refine Fr.alloc ?_ _) | (with_reducible refine Fr.setCell ?_ (by (first | (with_reducible assumption) | omega | (simp only [World.size_alloc, World.size_setCell, World.size_drew, World.heap_drewN]; omega) | (simp; done) | (simp; omega))) _) | (with_reducible refine Fr.trans ?_ (by with_reducible assumption))))
    have FD := BD.facts
    have z1 := hf1.size; (try simp only [World.size_alloc, World.size_setCell, World.size_drew] at z1)
    go_wp2_with fail
    refine (hfa _ (by repeat (first | (with_reducible exact Fr.refl _) | (with_reducible assumption) | (with_reducible refine Fr.drewN ?_ _) | (with_reducible refine Fr.drew ?_) | (with_reducible refine Fr.alloc ?_ _) | (with_reducible refine Fr.setCell ?_ (by (first | (with_reducible assumption) | omega | (simp only [World.size_alloc, World.size_setCell, World.size_drew, World.heap_drewN]; omega) | (simp; done) | (simp; omega))) _) | (with_reducible refine Fr.trans ?_ (by with_reducible assumption))))).mono ?_
    rintro e w2 ⟨rfl, hf2⟩
    have z1 := hf2.size; (try simp only [World.size_alloc, World.size_setCell, World.size_drew] at z1)
    go_wp2_with fail
    refine (hcon _).mono ?_
    rintro e w3 ⟨a1, c1, rfl, o1, hf3⟩
    have z3 := hf3.size
    clear hcon hfa hdk
    obtain ⟨a1', b1, p1, c1', he1, hc1, hm1, f1⟩ := o1.rd.one
    cases he1
    go_wp2_with fail
    go_loopw [3, 8] (fun b i wr => ∃ k : Nat, k ≤ rs.length ∧ i = .int .i64 k ∧ b = .int .i64 (epK rs k) ∧ Fr w wr ∧ Fr w3 wr) (fun _ i _ => rs.length - (intOf i).toNat)
    case atStart => exact ⟨0, Nat.zero_le _, rfl, rfl, by repeat (first | (with_reducible exact Fr.refl _) | (with_reducible assumption) | (with_reducible refine Fr.drewN ?_ _) | (with_reducible refine Fr.drew ?_) | (with_reducible refine Fr.alloc ?_ _) | (with_reducible refine Fr.setCell ?_ (by (first | (with_reducible assumption) | omega | (simp only [World.size_alloc, World.size_setCell, World.size_drew, World.heap_drewN]; omega) | (simp; done) | (simp; omega))) _) | (with_reducible refine Fr.trans ?_ (by with_reducible assumption))), Fr.refl _⟩
    case round =>
      obtain ⟨k, hk, rfl, rfl, hfr, hfr1⟩ := hrel
      obtain ⟨m, hm⟩ : ∃ m, epK rs k = m := ⟨_, rfl⟩
      have hm0 := epK_nonneg rs k
      have hm9 := epK_le rs k
      rw [hm] at hm0 hm9 ⊢
      have HM := Lib.hid hm
      by_cases hlt : k < rs.length
      · clear hm
        obtain ⟨rfl, hba, f1⟩ := f1 (by omega)
        obtain ⟨r, hr⟩ : ∃ r, sAt rs k = r := ⟨_, rfl⟩
        have c0 : wr.cell? ⟨b1, p1 + k, none⟩ = some (.string r) := (hfr1.cell (p := ⟨b1, _, none⟩) hba).trans (hr ▸ (f1 k hlt))
        have hrz : r.size ≤ 9000 := by rw [← hr]; exact HS.out k hlt
        have hrv := fun W => specReadVar_any r 0 W (by omega)
        obtain ⟨q, hq⟩ : ∃ q, rv r 0 = q := ⟨_, rfl⟩
        rw [hq] at hrv
        obtain ⟨qn, qe, qo⟩ := q
        simp only at hrv
        have HQ := Lib.hid hq
        have HR := Lib.hid hr
        clear f1 hq hr
        cases qo
        · have HK : Hid (epK rs (k + 1) = m) := epK_no HR.out HM.out HQ.out (by simp)
          go_wp2_with fail
          refine (hrv _).mono ?_
          rintro e w2 ⟨rfl, hf2'⟩
          have c0' := (hf2'.cell (p := ⟨b1, p1 + k, none⟩) (Nat.lt_of_lt_of_le hba hfr1.size)).trans c0
          have z2' := hf2'.size
          go_wp2_with (go_at_call 94; refine (l01In_any _ _ _ _).mono ?_; rintro e w4 ⟨rfl, rfl⟩)
          go_roundw
          case rel => exact ⟨k + 1, by omega, by go_num, by rw [HK.out], by repeat (first | (with_reducible exact Fr.refl _) | (with_reducible assumption) | (with_reducible refine Fr.drewN ?_ _) | (with_reducible refine Fr.drew ?_) | (with_reducible refine Fr.alloc ?_ _) | (with_reducible refine Fr.setCell ?_ (by (first | (with_reducible assumption) | omega | (simp only [World.size_alloc, World.size_setCell, World.size_drew, World.heap_drewN]; omega) | (simp; done) | (simp; omega))) _) | (with_reducible refine Fr.trans ?_ (by with_reducible assumption))), by repeat (first | (with_reducible exact Fr.refl _) | (with_reducible assumption) | (with_reducible refine Fr.drewN ?_ _) | (with_reducible refine Fr.drew ?_) | (with_reducible refine Fr.alloc ?_ _) | (with_reducible refine Fr.setCell ?_ (by (first | (with_reducible assumption) | omega | (simp only [World.size_alloc, World.size_setCell, World.size_drew, World.heap_drewN]; omega) | (simp; done) | (simp; omega))) _) | (with_reducible refine Fr.trans ?_ (by with_reducible assumption)))⟩
          case measure => (simp [intOf]; omega)
        · by_cases he : qe = r.size
          · subst he
            by_cases h1 : 1 ≤ qn ∧ qn ≤ 100000
            · have HX : Hid (epK rs (k + 1) = max m qn) := epK_yes HR.out HM.out HQ.out h1.2
              have g1 : decide (1 ≤ qn ∧ qn ≤ 100000) = true := decide_eq_true h1
              by_cases h2 : m < qn
              · have HK : Hid (epK rs (k + 1) = qn) := by show _ = _; rw [HX.out]; omega
                have g2 : decide (m < qn) = true := decide_eq_true h2
                clear h1
                go_wp2_with fail
                refine (hrv _).mono ?_
                rintro e w2 ⟨rfl, hf2'⟩
                have c0' := (hf2'.cell (p := ⟨b1, p1 + k, none⟩) (Nat.lt_of_lt_of_le hba hfr1.size)).trans c0
                have z2' := hf2'.size
                go_wp2_with (go_at_call 94; refine (l01In_any _ _ _ _).mono ?_; rintro e w4 ⟨rfl, rfl⟩)
                go_roundw
                case rel => exact ⟨k + 1, by omega, by go_num, by rw [HK.out], by repeat (first | (with_reducible exact Fr.refl _) | (with_reducible assumption) | (with_reducible refine Fr.drewN ?_ _) | (with_reducible refine Fr.drew ?_) | (with_reducible refine Fr.alloc ?_ _) | (with_reducible refine Fr.setCell ?_ (by (first | (with_reducible assumption) | omega | (simp only [World.size_alloc, World.size_setCell, World.size_drew, World.heap_drewN]; omega) | (simp; done) | (simp; omega))) _) | (with_reducible refine Fr.trans ?_ (by with_reducible assumption))), by repeat (first | (with_reducible exact Fr.refl _) | (with_reducible assumption) | (with_reducible refine Fr.drewN ?_ _) | (with_reducible refine Fr.drew ?_) | (with_reducible refine Fr.alloc ?_ _) | (with_reducible refine Fr.setCell ?_ (by (first | (with_reducible assumption) | omega | (simp only [World.size_alloc, World.size_setCell, World.size_drew, World.heap_drewN]; omega) | (simp; done) | (simp; omega))) _) | (with_reducible refine Fr.trans ?_ (by with_reducible assumption)))⟩
                case measure => (simp [intOf]; omega)
              · have HK : Hid (epK rs (k + 1) = m) := by show _ = _; rw [HX.out]; omega
                have g2 : decide (m < qn) = false := decide_eq_false h2
                clear h1
                go_wp2_with fail
                refine (hrv _).mono ?_
                rintro e w2 ⟨rfl, hf2'⟩
                have c0' := (hf2'.cell (p := ⟨b1, p1 + k, none⟩) (Nat.lt_of_lt_of_le hba hfr1.size)).trans c0
                have z2' := hf2'.size
                go_wp2_with (go_at_call 94; refine (l01In_any _ _ _ _).mono ?_; rintro e w4 ⟨rfl, rfl⟩)
                go_roundw
                case rel => exact ⟨k + 1, by omega, by go_num, by rw [HK.out], by repeat (first | (with_reducible exact Fr.refl _) | (with_reducible assumption) | (with_reducible refine Fr.drewN ?_ _) | (with_reducible refine Fr.drew ?_) | (with_reducible refine Fr.alloc ?_ _) | (with_reducible refine Fr.setCell ?_ (by (first | (with_reducible assumption) | omega | (simp only [World.size_alloc, World.size_setCell, World.size_drew, World.heap_drewN]; omega) | (simp; done) | (simp; omega))) _) | (with_reducible refine Fr.trans ?_ (by with_reducible assumption))), by repeat (first | (with_reducible exact Fr.refl _) | (with_reducible assumption) | (with_reducible refine Fr.drewN ?_ _) | (with_reducible refine Fr.drew ?_) | (with_reducible refine Fr.alloc ?_ _) | (with_reducible refine Fr.setCell ?_ (by (first | (with_reducible assumption) | omega | (simp only [World.size_alloc, World.size_setCell, World.size_drew, World.heap_drewN]; omega) | (simp; done) | (simp; omega))) _) | (with_reducible refine Fr.trans ?_ (by with_reducible assumption)))⟩
                case measure => (simp [intOf]; omega)
            · have HK : Hid (epK rs (k + 1) = m) := by
                show _ = _
                by_cases h3 : qn ≤ 100000
                · rw [epK_yes HR.out HM.out HQ.out h3]; omega
                · exact epK_no HR.out HM.out HQ.out (fun h => h3 h.2.2)
              have g1 : decide (1 ≤ qn ∧ qn ≤ 100000) = false := decide_eq_false h1
              clear h1
              go_wp2_with fail
              refine (hrv _).mono ?_
              rintro e w2 ⟨rfl, hf2'⟩
              have c0' := (hf2'.cell (p := ⟨b1, p1 + k, none⟩) (Nat.lt_of_lt_of_le hba hfr1.size)).trans c0
              have z2' := hf2'.size
              go_wp2_with (go_at_call 94; refine (l01In_any _ _ _ _).mono ?_; rintro e w4 ⟨rfl, rfl⟩)
              go_roundw
              case rel => exact ⟨k + 1, by omega, by go_num, by rw [HK.out], by repeat (first | (with_reducible exact Fr.refl _) | (with_reducible assumption) | (with_reducible refine Fr.drewN ?_ _) | (with_reducible refine Fr.drew ?_) | (with_reducible refine Fr.alloc ?_ _) | (with_reducible refine Fr.setCell ?_ (by (first | (with_reducible assumption) | omega | (simp only [World.size_alloc, World.size_setCell, World.size_drew, World.heap_drewN]; omega) | (simp; done) | (simp; omega))) _) | (with_reducible refine Fr.trans ?_ (by with_reducible assumption))), by repeat (first | (with_reducible exact Fr.refl _) | (with_reducible assumption) | (with_reducible refine Fr.drewN ?_ _) | (with_reducible refine Fr.drew ?_) | (with_reducible refine Fr.alloc ?_ _) | (with_reducible refine Fr.setCell ?_ (by (first | (with_reducible assumption) | omega | (simp only [World.size_alloc, World.size_setCell, World.size_drew, World.heap_drewN]; omega) | (simp; done) | (simp; omega))) _) | (with_reducible refine Fr.trans ?_ (by with_reducible assumption)))⟩
              case measure => (simp [intOf]; omega)
          · have HK : Hid (epK rs (k + 1) = m) := epK_no HR.out HM.out HQ.out (fun h => he h.2.1)
            have g2 : (qe == (r.size : Int)) = false := by simpa using he
            have g2' : decide (qe = (r.size : Int)) = false := decide_eq_false he
            go_wp2_with fail
            refine (hrv _).mono ?_
            rintro e w2 ⟨rfl, hf2'⟩
            have c0' := (hf2'.cell (p := ⟨b1, p1 + k, none⟩) (Nat.lt_of_lt_of_le hba hfr1.size)).trans c0
            have z2' := hf2'.size
            go_wp2_with (go_at_call 94; refine (l01In_any _ _ _ _).mono ?_; rintro e w4 ⟨rfl, rfl⟩)
            go_roundw
            case rel => exact ⟨k + 1, by omega, by go_num, by rw [HK.out], by repeat (first | (with_reducible exact Fr.refl _) | (with_reducible assumption) | (with_reducible refine Fr.drewN ?_ _) | (with_reducible refine Fr.drew ?_) | (with_reducible refine Fr.alloc ?_ _) | (with_reducible refine Fr.setCell ?_ (by (first | (with_reducible assumption) | omega | (simp only [World.size_alloc, World.size_setCell, World.size_drew, World.heap_drewN]; omega) | (simp; done) | (simp; omega))) _) | (with_reducible refine Fr.trans ?_ (by with_reducible assumption))), by repeat (first | (with_reducible exact Fr.refl _) | (with_reducible assumption) | (with_reducible refine Fr.drewN ?_ _) | (with_reducible refine Fr.drew ?_) | (with_reducible refine Fr.alloc ?_ _) | (with_reducible refine Fr.setCell ?_ (by (first | (with_reducible assumption) | omega | (simp only [World.size_alloc, World.size_setCell, World.size_drew, World.heap_drewN]; omega) | (simp; done) | (simp; omega))) _) | (with_reducible refine Fr.trans ?_ (by with_reducible assumption)))⟩
            case measure => (simp [intOf]; omega)
      · have hkl : k = rs.length := by omega
        subst hkl
        clear hm
        go_wp2_with fail
        go_ret
        rw [hE.out, HM.out]
        exact ⟨rfl, by repeat (first | (with_reducible exact Fr.refl _) | (with_reducible assumption) | (with_reducible refine Fr.drewN ?_ _) | (with_reducible refine Fr.drew ?_) | (with_reducible refine Fr.alloc ?_ _) | (with_reducible refine Fr.setCell ?_ (by (first | (with_reducible assumption) | omega | (simp only [World.size_alloc, World.size_setCell, World.size_drew, World.heap_drewN]; omega) | (simp; done) | (simp; omega))) _) | (with_reducible refine Fr.trans ?_ (by with_reducible assumption)))⟩
end Go.Proofs.Ytjgghiniajmfjaa
