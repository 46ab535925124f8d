/- laws.FnFrames: its walk. No condition but the reading of the draw. -/
import Derived.Test.YtnlcgffffjjojaaFrm
import Derived.Test.YtnlcgffffjjojaaDraw2
namespace Go.Proofs.Ytnlcgffffjjojaa
open Go.RowKit
set_option linter.unusedVariables false
set_option linter.unusedSimpArgs false

theorem big_any (ao : Option Addr) (n cap : Nat) (w : World) (hn : n ≤ 9223372036854775807) :
    Calls Try.prog 19 #[.slice ao n cap] w fun e w' => e = .returned (.bool (decide (1048576 < (n : Int)))) ∧ w = w' := by
  go_enter Try.func19, Try.ntmps19
  go_wp2
  go_ret
  exact ⟨rfl, rfl⟩
theorem sameTexts_any (a b : Value) (ss ts : List ByteArray) (w : World) (ha : StrsR w a ss) (hb : StrsR w b ts) :
    Calls Try.prog 31 #[a, b] w fun e w' => e = .returned (.bool (decide (ss = ts))) ∧ ∃ m, w' = w.drewN m := by
  obtain ⟨ao, ba, oa, ca, rfl, hca, hma, fa⟩ := ha.one
  obtain ⟨bo, bb, ob, cb, rfl, hcb, hmb, fb⟩ := hb.one
  clear ha hb
  by_cases hl : ss.length = ts.length
  · have HL : Hid (ss.length = ts.length) := hl
    rw [← hl] at fb hcb ⊢
    clear hl
    go_enter Try.func31, Try.ntmps31
    go_wp2
    go_loopw [5] (fun i wr => ∃ k : Nat, k ≤ ss.length ∧ i = .int .i64 k ∧ (∃ m, wr = w.drewN m) ∧ Hid (∀ j, j < k → sAt ss j = sAt ts j)) (fun i _ => ss.length - (intOf i).toNat)
    case atStart => exact ⟨0, Nat.zero_le _, rfl, ⟨0, rfl⟩, fun j hj => absurd hj (by omega)⟩
    case round =>
      obtain ⟨k, hk, rfl, ⟨md, rfl⟩, hj⟩ := hrel
      by_cases hlt : k < ss.length
      · obtain ⟨rfl, hba, fa⟩ := fa (by omega)
        obtain ⟨rfl, hbb, fb⟩ := fb (by omega)
        have c1 := fa k hlt
        have c2 := fb k hlt
        clear fa fb
        by_cases he : sAt ss k = sAt ts k
        · have he' := bytes_beq he
          have HE : Hid (sAt ss k = sAt ts k) := he
          clear he
          go_wp2
          go_quiet (fail)
          go_wp2
          go_roundw
          case rel => exact ⟨k + 1, by omega, by go_num, ⟨_, rfl⟩, fun j h => by rcases Nat.lt_succ_iff_lt_or_eq.1 h with h | rfl; exact hj.out j h; exact HE.out⟩
          case measure => (simp [intOf]; omega)
        · have he' := bytes_bne he
          go_wp2
          go_quiet (fail)
          go_wp2
          go_ret
          exact ⟨ret_bool (by symm; rw [decide_eq_false_iff_not]; rintro rfl; exact he rfl), ⟨_, World.drewN_drewN _ _ _⟩⟩
      · clear fa fb
        go_wp2
        go_ret
        exact ⟨ret_bool (by symm; rw [decide_eq_true_eq]; exact ext_getD ByteArray.empty HL.out (fun j h => hj.out j (by omega))), ⟨_, rfl⟩⟩
  · go_enter Try.func31, Try.ntmps31
    go_wp2
    go_ret
    exact ⟨ret_bool (by symm; rw [decide_eq_false_iff_not]; rintro rfl; exact hl rfl), ⟨0, rfl⟩⟩
theorem sameTexts_same (a b : Value) (ss : List ByteArray) (w : World) (ha : StrsR w a ss) (hb : StrsR w b ss) :
    Calls Try.prog 31 #[a, b] w fun e w' => e = .returned (.bool true) ∧ ∃ m, w' = w.drewN m :=
  (sameTexts_any a b ss ss w ha hb).mono fun e w' h => ⟨h.1.trans (by rw [decide_eq_true rfl]), h.2⟩
def twoT : ByteArray := ⟨#[116, 119, 111]⟩
def threeT : ByteArray := ⟨#[116, 104, 114, 101, 101, 32, 97, 110, 100, 32, 109, 111, 114, 101]⟩
def oneT : ByteArray := ⟨#[111, 110, 101]⟩
def endAt (ts : List ByteArray) (j : Nat) : Nat := ((ts.take j).flatMap frL).length
def fileAtK (ts : List ByteArray) (k : Nat) : ByteArray := ⟨((ts.take k).flatMap frL).toArray⟩
def endsL (ts : List ByteArray) (k : Nat) : List Int := (List.range (k + 1)).map fun j => (endAt ts j : Int)
theorem fileAtK_size (ts : List ByteArray) (k : Nat) : (fileAtK ts k).size = endAt ts k := by simp [fileAtK, endAt, ByteArray.size]
theorem take_sAt {ts : List ByteArray} {k : Nat} (h : k < ts.length) : ts.take (k + 1) = ts.take k ++ [sAt ts k] := by
  rw [List.take_succ_eq_append_getElem h]
  simp [sAt, List.getD, List.getElem?_eq_getElem h]
theorem fileAtK_succ {ts : List ByteArray} {k : Nat} (h : k < ts.length) : fileAtK ts k ++ frameT (sAt ts k) = fileAtK ts (k + 1) := by
  apply WideShapes.bytes_inj
  unfold fileAtK
  rw [take_sAt h, ByteArray.data_append, Array.toList_append, List.flatMap_append]
  simp [frL]
theorem endAt_succ {ts : List ByteArray} {k : Nat} (h : k < ts.length) : endAt ts (k + 1) = endAt ts k + (frL (sAt ts k)).length := by
  unfold endAt
  rw [take_sAt h, List.flatMap_append, List.length_append]
  simp
theorem endsL_succ (ts : List ByteArray) (k : Nat) : endsL ts k ++ [(endAt ts (k + 1) : Int)] = endsL ts (k + 1) := by
  unfold endsL
  rw [List.range_succ (n := k + 1), List.map_append]
  rfl
theorem endsL_length (ts : List ByteArray) (k : Nat) : (endsL ts k).length = k + 1 := by simp [endsL]
theorem endsL_at (ts : List ByteArray) (k j : Nat) (h : j ≤ k) : iAt (endsL ts k) j = (endAt ts j : Int) := by
  simp [endsL, iAt, List.getD, show j < k + 1 by omega]
theorem sAt_mem {ts : List ByteArray} {k : Nat} (h : k < ts.length) : sAt ts k ∈ ts := by unfold sAt; simp [List.getD, List.getElem?_eq_getElem h]
theorem ends_le {ts : List ByteArray} (hl : ts.length = 3) (hs : ∀ x ∈ ts, 1 ≤ x.size ∧ x.size ≤ 900) (j : Nat) (hj : j ≤ 3) : endAt ts j ≤ 3000 := by
  have step : ∀ k, k < 3 → endAt ts (k + 1) ≤ endAt ts k + 910 := fun k hk => by
    have hkl : k < ts.length := by omega
    rw [endAt_succ hkl]
    have h1 := hs _ (sAt_mem hkl)
    have h2 := frL_len (sAt ts k)
    have h3 := varL_len40 (sAt ts k).size (by omega)
    omega
  have e0 : endAt ts 0 = 0 := by simp [endAt]
  have h1 : endAt ts 1 ≤ endAt ts 0 + 910 := step 0 (by omega)
  have h2 : endAt ts 2 ≤ endAt ts 1 + 910 := step 1 (by omega)
  have h3 : endAt ts 3 ≤ endAt ts 2 + 910 := step 2 (by omega)
  match j, hj with
  | 0, _ => omega
  | 1, _ => omega
  | 2, _ => omega
  | 3, _ => omega
theorem whole_cases (t0 t1 t2 : ByteArray) (k : Nat) (hk : k ≤ endAt [t0, t1, t2] 3) :
    (k < endAt [t0, t1, t2] 1 ∧ whole [t0, t1, t2] k = ([], endAt [t0, t1, t2] 0)) ∨ (endAt [t0, t1, t2] 1 ≤ k ∧ k < endAt [t0, t1, t2] 2 ∧ whole [t0, t1, t2] k = ([t0], endAt [t0, t1, t2] 1)) ∨
    (endAt [t0, t1, t2] 2 ≤ k ∧ k < endAt [t0, t1, t2] 3 ∧ whole [t0, t1, t2] k = ([t0, t1], endAt [t0, t1, t2] 2)) ∨ (endAt [t0, t1, t2] 3 ≤ k ∧ whole [t0, t1, t2] k = ([t0, t1, t2], endAt [t0, t1, t2] 3)) := by
  have e1 : endAt [t0, t1, t2] 1 = (frL t0).length := by simp [endAt]
  have e2 : endAt [t0, t1, t2] 2 = (frL t0).length + (frL t1).length := by simp [endAt]
  have e3 : endAt [t0, t1, t2] 3 = (frL t0).length + (frL t1).length + (frL t2).length := by simp [endAt]; omega
  have e0 : endAt [t0, t1, t2] 0 = 0 := by simp [endAt]
  rw [e3] at hk
  rw [e0, e1, e2, e3]
  simp only [whole]
  by_cases h1 : (frL t0).length ≤ k
  · rw [if_pos h1]
    by_cases h2 : (frL t1).length ≤ k - (frL t0).length
    · rw [if_pos h2]
      by_cases h3 : (frL t2).length ≤ k - (frL t0).length - (frL t1).length
      · rw [if_pos h3]
        right; right; right
        exact ⟨by omega, by simp; omega⟩
      · rw [if_neg h3]
        right; right; left
        exact ⟨by omega, by omega, by simp⟩
    · rw [if_neg h2]
      right; left
      exact ⟨by omega, by omega, by simp⟩
  · rw [if_neg h1]
    left
    exact ⟨by omega, rfl⟩
/-- What Unframe gives of the file, whole and cut. -/
theorem frames_end {ts : List ByteArray} {t0 t1 t2 F : ByteArray} {E : List Int} (hts : ts = [t0, t1, t2]) (hF : F = fileAtK ts 3) (hE : E = endsL ts 3) (hs : ∀ x ∈ ts, 1 ≤ x.size ∧ x.size ≤ 900) :
    F.size ≤ 3000 ∧ unf F = ([t0, t1, t2], F.size) ∧ ∃ e0 e1 e2 : Nat, E = [(e0 : Int), (e1 : Int), (e2 : Int), (F.size : Int)] ∧ e0 ≤ e1 ∧ e1 ≤ e2 ∧ e2 ≤ F.size ∧ ∀ k, k ≤ F.size →
      (k < e1 ∧ e0 ≤ k ∧ unf (F.extract 0 k) = ([], e0)) ∨ (e1 ≤ k ∧ k < e2 ∧ unf (F.extract 0 k) = ([t0], e1)) ∨ (e2 ≤ k ∧ k < F.size ∧ unf (F.extract 0 k) = ([t0, t1], e2)) ∨ (k = F.size ∧ unf (F.extract 0 k) = ([t0, t1, t2], F.size)) := by
  have hl : ts.length = 3 := by rw [hts]; rfl
  have hsz : F.size = endAt ts 3 := by rw [hF, fileAtK_size]
  have hle := ends_le hl hs 3 (by omega)
  have hd : F.data.toList = ts.flatMap frL := by rw [hF]; unfold fileAtK; rw [List.take_of_length_le (by omega)]
  have hfl : (ts.flatMap frL).length = F.size := by rw [← hd, list_size]
  have cut : ∀ k, k ≤ F.size → unf (F.extract 0 k) = whole ts k := fun k hk => by
    have hx : (F.extract 0 k).data.toList = (ts.flatMap frL).take k := by
      rw [← hd]
      simp only [ByteArray.data_extract, Array.toList_extract]
      rw [List.extract_eq_take_drop, List.drop_zero, Nat.sub_zero]
    exact unf_cut hs hx (by omega) (by rw [ByteArray.size_extract]; omega)
  have hall : F.extract 0 F.size = F := by apply WideShapes.bytes_inj; simp only [ByteArray.data_extract, Array.toList_extract]; rw [List.extract_eq_take_drop, List.drop_zero, Nat.sub_zero, List.take_of_length_le (by rw [list_size]; exact Nat.le_refl _)]
  have e0 : endAt ts 0 = 0 := by simp [endAt]
  have m1 : endAt ts 1 ≤ endAt ts 2 := by have : endAt ts 2 = endAt ts 1 + (frL (sAt ts 1)).length := endAt_succ (by omega); omega
  have m2 : endAt ts 2 ≤ endAt ts 3 := by have : endAt ts 3 = endAt ts 2 + (frL (sAt ts 2)).length := endAt_succ (by omega); omega
  have hw := fun k (hk : k ≤ F.size) => whole_cases t0 t1 t2 k (by rw [← hts, ← hsz]; exact hk)
  rw [← hts] at hw
  have hwh : ∀ k, k ≤ F.size → (k < endAt ts 1 ∧ endAt ts 0 ≤ k ∧ unf (F.extract 0 k) = ([], endAt ts 0)) ∨ (endAt ts 1 ≤ k ∧ k < endAt ts 2 ∧ unf (F.extract 0 k) = ([t0], endAt ts 1)) ∨ (endAt ts 2 ≤ k ∧ k < F.size ∧ unf (F.extract 0 k) = ([t0, t1], endAt ts 2)) ∨ (k = F.size ∧ unf (F.extract 0 k) = ([t0, t1, t2], F.size)) := fun k hk => by
    rw [cut k hk, hsz]
    have hk3 : k ≤ endAt ts 3 := by omega
    rcases hw k hk with h | h | h | h
    · left; exact ⟨h.1, by omega, h.2⟩
    · right; left; exact h
    · right; right; left; exact h
    · right; right; right; exact ⟨by omega, by rw [h.2, hts]⟩
  refine ⟨by omega, ?_, endAt ts 0, endAt ts 1, endAt ts 2, ?_, by omega, m1, by omega, hwh⟩
  · have := hwh F.size (Nat.le_refl _)
    rw [hall] at this
    rcases this with h | h | h | h
    · omega
    · omega
    · omega
    · exact h.2
  · rw [hE, hsz]
    simp [endsL, List.range_succ]
theorem lit_int {w : World} {b : Nat} {x : Int} (hb : b = w.heap.size) : IntsO (w.alloc (.cells #[.int .i64 x] 3)) b (.slice (some ⟨b, 0, none⟩) 1 1) [x] := by
  subst hb
  exact World.ownsRow_lit w #[.int .i64 x] 1 (Nat.le_refl _) (by unfold maxLen; omega) rfl
theorem Box.strs3 {w : World} {b : Nat} {x y z : ByteArray} {T : TypeId} (h : Box w b #[.string x, .string y, .string z] T) (m : Nat) (hm : m ≤ 3) : StrsR w (.slice (some ⟨b, 0, none⟩) m 3) ([x, y, z].take m) := by
  have hl : ([x, y, z].take m).length = m := by simp; omega
  refine ⟨by simp, some ⟨b, 0, none⟩, 3, by rw [hl], by rw [hl]; exact hm, by unfold maxLen; omega, fun hn => ⟨b, 0, rfl, h.lt, fun j hj => ?_⟩⟩
  rw [hl] at hj
  rw [Nat.zero_add, h.cell, List.getElem?_map, List.getElem?_take_of_lt (by omega)]
  match j, hj with
  | 0, _ => rfl
  | 1, _ => rfl
  | 2, _ => rfl
  | j + 3, hj => exact absurd hj (by omega)
set_option maxHeartbeats 20000000 in
set_option maxRecDepth 100000 in
theorem fnFrames_any (ao : Option Addr) (n cap : Nat) (w : World) (hy : ByR w w.heap.size ao n cap) :
    Calls Try.prog 5 #[.slice ao n cap] w fun e w' => e = .returned (.bool true) ∧ Fr w w' := by
  have HY := Lib.hid hy
  have hn : n ≤ 9223372036854775807 := by have := hy.1; have := hy.2.1; omega
  clear hy
  by_cases hbig : n ≤ 1048576
  · go_enter Try.func5, Try.ntmps5
    go_wp2_with (go_at_call 19; refine (big_any _ _ _ _ hn).mono ?_; rintro e w0 ⟨rfl, rfl⟩)
    refine (DrawPlaces_any ao n cap _ HY.out).mono ?_
    rintro e w1 ⟨ps, aop, capp, hpl, hpr, rfl, hp, hf1⟩
    have z1 := hf1.size
    obtain ⟨bp, op, p0, rfl, hbp, HP, hp0a, hp0b⟩ : ∃ bp op p0, aop = some ⟨bp, op, none⟩ ∧ bp < w1.heap.size ∧ Hid (w1.cell? ⟨bp, op, none⟩ = some (.int .i64 p0)) ∧ 0 ≤ p0 ∧ p0 < 10000 := by
      obtain ⟨ax, bp, op, cx, hv, _, _, fp⟩ := IntsR.one hp.rd
      rw [hpl] at hv
      cases hv
      obtain ⟨rfl, h1, h2⟩ := fp (by omega)
      have hm : iAt ps 0 ∈ ps := by unfold iAt; simp [List.getD, List.getElem?_eq_getElem (show 0 < ps.length by omega)]
      exact ⟨bp, op, iAt ps 0, rfl, h1, h2 0 (by omega), (hpr _ hm).1, (hpr _ hm).2⟩
    clear hp hpr hpl
    go_wp2_with fail
    refine (DrawHex_any ao n cap _ (by have := HY.out.fr hf1; exact ⟨this.1, this.2.1, fun h => by obtain ⟨c, o, a1, a2, a3, a4⟩ := this.2.2 h; exact ⟨c, o, a1, a3, a3, a4⟩⟩)).mono ?_
    rintro e w2 ⟨s0, hs0, rfl, hf2⟩
    have z2 := hf2.size
    have hf02 : Fr w w2 := by repeat (first | (with_reducible exact Fr.refl _) | (with_reducible assumption) | (with_reducible refine Fr.drewN ?_ _) | (with_reducible refine Fr.drew ?_) | (with_reducible refine Fr.alloc ?_ _) | (with_reducible refine Fr.setCell ?_ (by (first | (with_reducible assumption) | omega | (simp only [World.size_alloc, World.size_setCell, World.size_drew, World.heap_drewN]; omega) | (simp; done) | (simp; omega))) _) | (with_reducible refine Fr.trans ?_ (by with_reducible assumption)))
    --WAYS
    have hcase : s0.size = 0 ∨ 900 < s0.size ∨ (1 ≤ s0.size ∧ s0.size ≤ 900) := by omega
    rcases hcase with hcase | hcase | hcase
    · obtain ⟨t0, ht0⟩ : ∃ t, oneT = t := ⟨_, rfl⟩
      have h900 : 1 ≤ t0.size ∧ t0.size ≤ 900 := by rw [← ht0]; exact ⟨by decide, by decide⟩
      have HT0 := Lib.hid ht0
      clear ht0
      obtain ⟨t1, ht1⟩ : ∃ t, twoT = t := ⟨_, rfl⟩
      have HT1 := Lib.hid ht1.symm
      have h1s : t1.size = 3 := by rw [← ht1]; rfl
      clear ht1
      obtain ⟨t2, ht2⟩ : ∃ t, threeT = t := ⟨_, rfl⟩
      have HT2 := Lib.hid ht2.symm
      have h2s : t2.size = 14 := by rw [← ht2]; rfl
      clear ht2
      obtain ⟨ts, hts⟩ : ∃ l, [t0, t1, t2] = l := ⟨_, rfl⟩
      have HTS := Lib.hid hts.symm
      have HTL : Hid (ts.length = 3) := by rw [← hts]; exact rfl
      have HSZ : Hid (∀ x ∈ ts, 1 ≤ x.size ∧ x.size ≤ 900) := fun x hx => by rw [← hts] at hx; simp at hx; rcases hx with rfl | rfl | rfl <;> omega
      have HEND : Hid (∀ j, j ≤ 3 → endAt ts j ≤ 3000) := fun j hj => ends_le HTL.out HSZ.out j hj
      clear hts
      obtain ⟨i0, hi, hz0, hz1, hz2⟩ := info_parts info_int
      go_wp2_with fail
      go_loopw [5, 6, 7] (fun f v i wr => ∃ (k : Nat) (F : ByteArray) (E : List Int), k ≤ 3 ∧ i = .int .i64 k ∧ f = .string F ∧ Hid (F = fileAtK ts k) ∧ Hid (E = endsL ts k) ∧ E.length = k + 1 ∧ F.size ≤ 3000 ∧ IntsO wr (w2.heap.size + 1) v E ∧ Box wr w2.heap.size #[.string t0, .string t1, .string t2] 9 ∧ Fr w2 wr ∧ w2.heap.size + 1 ≤ wr.heap.size) (fun _ _ i _ => 3 - (intOf i).toNat)
      case atStart =>
        refine ⟨0, ⟨#[]⟩, [0], by omega, rfl, rfl, Lib.hid rfl, Lib.hid (by simp [endsL, endAt]), rfl, by decide, lit_int (by simp), ?_, by repeat (first | (with_reducible exact Fr.refl _) | (with_reducible assumption) | (with_reducible refine Fr.drewN ?_ _) | (with_reducible refine Fr.drew ?_) | (with_reducible refine Fr.alloc ?_ _) | (with_reducible refine Fr.setCell ?_ (by (first | (with_reducible assumption) | omega | (simp only [World.size_alloc, World.size_setCell, World.size_drew, World.heap_drewN]; omega) | (simp; done) | (simp; omega))) _) | (with_reducible refine Fr.trans ?_ (by with_reducible assumption))), by (first | (with_reducible assumption) | omega | (simp only [World.size_alloc, World.size_setCell, World.size_drew, World.heap_drewN]; omega) | (simp; done) | (simp; omega))⟩
        rw [← HT0.out]; rw [HT1.out, HT2.out]; first | exact (Box.new _ _ _).alloc _ | exact ((Box.new _ _ _).set_to rfl).alloc _
      case round =>
        obtain ⟨k, F, E, hk, rfl, rfl, HF0, HE0, hEl, hFs, ho, BL, hfr, hsz⟩ := hrel
        obtain ⟨aoe, cape, rfl⟩ := owns_val ho
        have ho' : wr.ownsRow (w2.heap.size + 1) 3 1 (.slice aoe (k + 1) cape) (k + 1) (E.map (Value.int .i64)) := by rw [← hEl]; exact ho
        have HO := Lib.hid ho'
        clear ho ho'
        have HBL := Lib.hid BL
        have hbl := BL.lt
        clear BL
        by_cases hlt : k < 3
        · obtain ⟨t, ht⟩ : ∃ t, sAt ts k = t := ⟨_, rfl⟩
          have c0 : wr.cell? ⟨w2.heap.size, k, none⟩ = some (.string t) := by
            rw [HBL.out.cell, ← ht, HTS.out]
            match k, hlt with
            | 0, _ => rfl
            | 1, _ => rfl
            | 2, _ => rfl
          have hkl : k < ts.length := by rw [HTL.out]; exact hlt
          have htb := HSZ.out t (by rw [← ht]; exact sAt_mem hkl)
          obtain ⟨F', hF'⟩ : ∃ x, fileAtK ts (k + 1) = x := ⟨_, rfl⟩
          have HF : Hid (F ++ frameT t = F') := by rw [HF0.out, ← ht, ← hF']; exact fileAtK_succ hkl
          have hF's : F'.size ≤ 3000 := by rw [← hF', fileAtK_size]; exact HEND.out (k + 1) (by omega)
          have HE : Hid (E ++ [((F'.size : Nat) : Int)] = endsL ts (k + 1)) := by rw [HE0.out, ← hF', fileAtK_size]; exact endsL_succ ts k
          have HF1 := Lib.hid hF'.symm
          obtain ⟨ft, hft⟩ : ∃ x, frameT t = x := ⟨_, rfl⟩
          rw [hft] at HF
          have HB : frameB t = true := by unfold frameB; exact decide_eq_true ⟨htb.1, by omega⟩
          have CF : Hid (∀ w', Calls Try.prog 29 #[.string t] w' fun e w'' => e = .returned (.tuple #[.string ft, .bool true]) ∧ Fr w' w'') := fun w' => by have := implFrame_any t w' (by unfold maxLen; omega); rw [frameR_ok HB, HB, hft] at this; exact this
          have hfs : F.size + ft.size = F'.size := by rw [← HF.out, ByteArray.size_append]
          have hq : ¬ 9223372036854775807 < F.size + ft.size := by omega
          clear ht HB hfs hF' hft
          go_wp2_with fail
          refine (CF.out _).mono ?_
          rintro e w3 ⟨rfl, hf3⟩
          have hs3 := hf3.size
          have ho3 := owns_fr HO.out hf3
          have HO3 := Lib.hid ho3
          clear ho3
          have hbl3 := HBL.out.fr hf3
          have HB3 := Lib.hid hbl3
          clear hbl3
          have hff : (F ++ ft).size = F'.size := by rw [HF.out]
          go_wp2_with (at_builtin; refine wpList_append_rd rfl _ _ 36 rfl (w2.heap.size + 1) 3 i0 (.int .i64 0) 1 8 Try.underlying36 hi hz0 hz1 hz2 rfl (by decide) _ (k + 1) (E.map (Value.int .i64)) rfl (World.ownsRow.alloc HO3.out _) _ 1 [.int .i64 _] rfl (RdS.new (by first | rfl | simp) rfl) (by simp [Value.oneCell']) (by unfold maxLen; omega) (by omega) (by (first | (with_reducible assumption) | omega | (simp only [World.size_alloc, World.size_setCell, World.size_drew, World.heap_drewN]; omega) | (simp; done) | (simp; omega))) ?_; intro ao' cap' w4 hown hgrow hat)
          have hb4 : Box w4 w2.heap.size #[.string t0, .string t1, .string t2] 9 := (HB3.out.alloc _).gr hgrow (fun e => by have := World.ownsRow.lt HO3.out _ e; omega)
          have hf4 : Fr w2 w4 := ((hfr.trans hf3).alloc _).grown hgrow (fun g hg => by have := World.ownsRow.lt HO3.out g hg; omega)
          have hs4 := hgrow.size
          simp only [World.size_alloc] at hs4
          have ho4 : IntsO w4 (w2.heap.size + 1) (.slice ao' (k + 1 + 1) cap') (E ++ [((F'.size : Nat) : Int)]) := by unfold IntsO; rw [List.map_append, List.length_append, hEl]; exact hown
          go_roundw
          case rel => exact ⟨k + 1, F', E ++ [((F'.size : Nat) : Int)], by omega, by go_num, by rw [HF.out], HF1, HE, by rw [List.length_append, hEl]; rfl, hF's, ho4, hb4, hf4, by omega⟩
          case measure => (simp [intOf]; omega)
        · obtain rfl : k = 3 := by omega
          obtain ⟨hF3, hU, e0, e1, e2, hE4, q01, q12, q23, hcut⟩ := frames_end HTS.out HF0.out HE0.out HSZ.out
          have CU : Hid (∀ w', Calls Try.prog 30 #[.string F] w' fun e w'' => ∃ ao cap, e = .returned (.tuple #[.slice ao 3 cap, .int .i64 (F.size : Int)]) ∧ StrsW w'' w'.heap.size w''.heap.size (.slice ao 3 cap) [t0, t1, t2] ∧ Fr w' w'') := fun w' => by have := implUnframe_any F w' (by omega); rw [hU] at this; exact this
          have HCUT := Lib.hid hcut
          clear hcut hU
          obtain ⟨be, oe, rfl, hbe, g0, g1, g2, g3⟩ : ∃ be oe, aoe = some ⟨be, oe, none⟩ ∧ be < wr.heap.size ∧ Hid (wr.cell? ⟨be, oe, none⟩ = some (.int .i64 (e0 : Int))) ∧ Hid (wr.cell? ⟨be, oe + 1, none⟩ = some (.int .i64 (e1 : Int))) ∧ Hid (wr.cell? ⟨be, oe + 2, none⟩ = some (.int .i64 (e2 : Int))) ∧ Hid (wr.cell? ⟨be, oe + 3, none⟩ = some (.int .i64 (F.size : Int))) := by
            have hr : IntsR wr (.slice aoe 4 cape) E := by unfold IntsR; rw [hEl]; exact RdS.of_owns HO.out
            obtain ⟨ax, be, oe, cx, hv, _, _, fe⟩ := IntsR.one hr
            rw [hEl] at hv
            cases hv
            obtain ⟨rfl, h1, h2⟩ := fe (by omega)
            rw [hE4] at h2
            exact ⟨be, oe, rfl, h1, h2 0 (by simp), h2 1 (by simp), h2 2 (by simp), h2 3 (by simp)⟩
          go_wp2_with fail
          refine (CU.out _).mono ?_
          rintro e w5 ⟨aou, capu, rfl, hu, hf5⟩
          have HU5 := Lib.hid hu
          have hb5 := HBL.out.fr hf5
          have HB5 := Lib.hid hb5
          clear hu hb5
          have hwr5 : Fr w1 w5 := by repeat (first | (with_reducible exact Fr.refl _) | (with_reducible assumption) | (with_reducible refine Fr.drewN ?_ _) | (with_reducible refine Fr.drew ?_) | (with_reducible refine Fr.alloc ?_ _) | (with_reducible refine Fr.setCell ?_ (by (first | (with_reducible assumption) | omega | (simp only [World.size_alloc, World.size_setCell, World.size_drew, World.heap_drewN]; omega) | (simp; done) | (simp; omega))) _) | (with_reducible refine Fr.trans ?_ (by with_reducible assumption)))
          have cp : w5.cell? ⟨bp, op, none⟩ = some (.int .i64 p0) := (hwr5.cell (p := ⟨bp, _, none⟩) hbp).trans HP.out
          have hs5 := hf5.size
          obtain ⟨kk, hk1, hk2⟩ := rem_lt (x := p0) (n := (F.size : Int) + 1) (by omega)
          have htk : ((kk : Int)).toNat = kk := by simp
          have hkle : kk ≤ F.size := by omega
          go_wp2_with fail
          refine (sameTexts_same _ _ [t0, t1, t2] _ HU5.out.rd (HB5.out.strs3 3 (by omega))).mono ?_
          rintro e w6 ⟨rfl, md, rfl⟩
          rcases HCUT.out kk hkle with h | h | h | h
          · obtain ⟨d1, d2, hU2⟩ := h
            have CU2 : Hid (∀ w', Calls Try.prog 30 #[.string (F.extract 0 kk)] w' fun e w'' => ∃ ao cap, e = .returned (.tuple #[.slice ao 0 cap, .int .i64 (e0 : Int)]) ∧ StrsW w'' w'.heap.size w''.heap.size (.slice ao 0 cap) [] ∧ Fr w' w'') := fun w' => by have := implUnframe_any (F.extract 0 kk) w' (by rw [ByteArray.size_extract]; omega); rw [hU2] at this; exact this
            clear hU2
            go_wp2_with fail
            refine (CU2.out _).mono ?_
            rintro e w7 ⟨aov, capv, rfl, hv, hf7⟩
            have HV7 := Lib.hid hv
            have hb7 := HB5.out.fr (show Fr w5 w7 by repeat (first | (with_reducible exact Fr.refl _) | (with_reducible assumption) | (with_reducible refine Fr.drewN ?_ _) | (with_reducible refine Fr.drew ?_) | (with_reducible refine Fr.alloc ?_ _) | (with_reducible refine Fr.setCell ?_ (by (first | (with_reducible assumption) | omega | (simp only [World.size_alloc, World.size_setCell, World.size_drew, World.heap_drewN]; omega) | (simp; done) | (simp; omega))) _) | (with_reducible refine Fr.trans ?_ (by with_reducible assumption))))
            have HB7 := Lib.hid hb7
            clear hv hb7
            have hwr7 : Fr wr w7 := by repeat (first | (with_reducible exact Fr.refl _) | (with_reducible assumption) | (with_reducible refine Fr.drewN ?_ _) | (with_reducible refine Fr.drew ?_) | (with_reducible refine Fr.alloc ?_ _) | (with_reducible refine Fr.setCell ?_ (by (first | (with_reducible assumption) | omega | (simp only [World.size_alloc, World.size_setCell, World.size_drew, World.heap_drewN]; omega) | (simp; done) | (simp; omega))) _) | (with_reducible refine Fr.trans ?_ (by with_reducible assumption)))
            have y0 := (hwr7.cell (p := ⟨be, _, none⟩) hbe).trans g0.out
            have y1 := (hwr7.cell (p := ⟨be, _, none⟩) hbe).trans g1.out
            have y2 := (hwr7.cell (p := ⟨be, _, none⟩) hbe).trans g2.out
            have y3 := (hwr7.cell (p := ⟨be, _, none⟩) hbe).trans g3.out
            go_wp2_with (go_at_call 31; refine (sameTexts_same _ _ [] _ HV7.out.rd (HB7.out.strs3 0 (by omega))).mono ?_; rintro e w8 ⟨rfl, md8, rfl⟩)
            go_ret
            exact ⟨rfl, by have := hf02; repeat (first | (with_reducible exact Fr.refl _) | (with_reducible assumption) | (with_reducible refine Fr.drewN ?_ _) | (with_reducible refine Fr.drew ?_) | (with_reducible refine Fr.alloc ?_ _) | (with_reducible refine Fr.setCell ?_ (by (first | (with_reducible assumption) | omega | (simp only [World.size_alloc, World.size_setCell, World.size_drew, World.heap_drewN]; omega) | (simp; done) | (simp; omega))) _) | (with_reducible refine Fr.trans ?_ (by with_reducible assumption)))⟩
          · obtain ⟨d1, d2, hU2⟩ := h
            have CU2 : Hid (∀ w', Calls Try.prog 30 #[.string (F.extract 0 kk)] w' fun e w'' => ∃ ao cap, e = .returned (.tuple #[.slice ao 1 cap, .int .i64 (e1 : Int)]) ∧ StrsW w'' w'.heap.size w''.heap.size (.slice ao 1 cap) [t0] ∧ Fr w' w'') := fun w' => by have := implUnframe_any (F.extract 0 kk) w' (by rw [ByteArray.size_extract]; omega); rw [hU2] at this; exact this
            clear hU2
            go_wp2_with fail
            refine (CU2.out _).mono ?_
            rintro e w7 ⟨aov, capv, rfl, hv, hf7⟩
            have HV7 := Lib.hid hv
            have hb7 := HB5.out.fr (show Fr w5 w7 by repeat (first | (with_reducible exact Fr.refl _) | (with_reducible assumption) | (with_reducible refine Fr.drewN ?_ _) | (with_reducible refine Fr.drew ?_) | (with_reducible refine Fr.alloc ?_ _) | (with_reducible refine Fr.setCell ?_ (by (first | (with_reducible assumption) | omega | (simp only [World.size_alloc, World.size_setCell, World.size_drew, World.heap_drewN]; omega) | (simp; done) | (simp; omega))) _) | (with_reducible refine Fr.trans ?_ (by with_reducible assumption))))
            have HB7 := Lib.hid hb7
            clear hv hb7
            have hwr7 : Fr wr w7 := by repeat (first | (with_reducible exact Fr.refl _) | (with_reducible assumption) | (with_reducible refine Fr.drewN ?_ _) | (with_reducible refine Fr.drew ?_) | (with_reducible refine Fr.alloc ?_ _) | (with_reducible refine Fr.setCell ?_ (by (first | (with_reducible assumption) | omega | (simp only [World.size_alloc, World.size_setCell, World.size_drew, World.heap_drewN]; omega) | (simp; done) | (simp; omega))) _) | (with_reducible refine Fr.trans ?_ (by with_reducible assumption)))
            have y0 := (hwr7.cell (p := ⟨be, _, none⟩) hbe).trans g0.out
            have y1 := (hwr7.cell (p := ⟨be, _, none⟩) hbe).trans g1.out
            have y2 := (hwr7.cell (p := ⟨be, _, none⟩) hbe).trans g2.out
            have y3 := (hwr7.cell (p := ⟨be, _, none⟩) hbe).trans g3.out
            go_wp2_with (go_at_call 31; refine (sameTexts_same _ _ [t0] _ HV7.out.rd (HB7.out.strs3 1 (by omega))).mono ?_; rintro e w8 ⟨rfl, md8, rfl⟩)
            go_ret
            exact ⟨rfl, by have := hf02; repeat (first | (with_reducible exact Fr.refl _) | (with_reducible assumption) | (with_reducible refine Fr.drewN ?_ _) | (with_reducible refine Fr.drew ?_) | (with_reducible refine Fr.alloc ?_ _) | (with_reducible refine Fr.setCell ?_ (by (first | (with_reducible assumption) | omega | (simp only [World.size_alloc, World.size_setCell, World.size_drew, World.heap_drewN]; omega) | (simp; done) | (simp; omega))) _) | (with_reducible refine Fr.trans ?_ (by with_reducible assumption)))⟩
          · obtain ⟨d1, d2, hU2⟩ := h
            have CU2 : Hid (∀ w', Calls Try.prog 30 #[.string (F.extract 0 kk)] w' fun e w'' => ∃ ao cap, e = .returned (.tuple #[.slice ao 2 cap, .int .i64 (e2 : Int)]) ∧ StrsW w'' w'.heap.size w''.heap.size (.slice ao 2 cap) [t0, t1] ∧ Fr w' w'') := fun w' => by have := implUnframe_any (F.extract 0 kk) w' (by rw [ByteArray.size_extract]; omega); rw [hU2] at this; exact this
            clear hU2
            go_wp2_with fail
            refine (CU2.out _).mono ?_
            rintro e w7 ⟨aov, capv, rfl, hv, hf7⟩
            have HV7 := Lib.hid hv
            have hb7 := HB5.out.fr (show Fr w5 w7 by repeat (first | (with_reducible exact Fr.refl _) | (with_reducible assumption) | (with_reducible refine Fr.drewN ?_ _) | (with_reducible refine Fr.drew ?_) | (with_reducible refine Fr.alloc ?_ _) | (with_reducible refine Fr.setCell ?_ (by (first | (with_reducible assumption) | omega | (simp only [World.size_alloc, World.size_setCell, World.size_drew, World.heap_drewN]; omega) | (simp; done) | (simp; omega))) _) | (with_reducible refine Fr.trans ?_ (by with_reducible assumption))))
            have HB7 := Lib.hid hb7
            clear hv hb7
            have hwr7 : Fr wr w7 := by repeat (first | (with_reducible exact Fr.refl _) | (with_reducible assumption) | (with_reducible refine Fr.drewN ?_ _) | (with_reducible refine Fr.drew ?_) | (with_reducible refine Fr.alloc ?_ _) | (with_reducible refine Fr.setCell ?_ (by (first | (with_reducible assumption) | omega | (simp only [World.size_alloc, World.size_setCell, World.size_drew, World.heap_drewN]; omega) | (simp; done) | (simp; omega))) _) | (with_reducible refine Fr.trans ?_ (by with_reducible assumption)))
            have y0 := (hwr7.cell (p := ⟨be, _, none⟩) hbe).trans g0.out
            have y1 := (hwr7.cell (p := ⟨be, _, none⟩) hbe).trans g1.out
            have y2 := (hwr7.cell (p := ⟨be, _, none⟩) hbe).trans g2.out
            have y3 := (hwr7.cell (p := ⟨be, _, none⟩) hbe).trans g3.out
            go_wp2_with (go_at_call 31; refine (sameTexts_same _ _ [t0, t1] _ HV7.out.rd (HB7.out.strs3 2 (by omega))).mono ?_; rintro e w8 ⟨rfl, md8, rfl⟩)
            go_ret
            exact ⟨rfl, by have := hf02; repeat (first | (with_reducible exact Fr.refl _) | (with_reducible assumption) | (with_reducible refine Fr.drewN ?_ _) | (with_reducible refine Fr.drew ?_) | (with_reducible refine Fr.alloc ?_ _) | (with_reducible refine Fr.setCell ?_ (by (first | (with_reducible assumption) | omega | (simp only [World.size_alloc, World.size_setCell, World.size_drew, World.heap_drewN]; omega) | (simp; done) | (simp; omega))) _) | (with_reducible refine Fr.trans ?_ (by with_reducible assumption)))⟩
          · obtain ⟨d1, hU2⟩ := h
            have d1a : F.size ≤ kk := by omega
            clear d1
            have CU2 : Hid (∀ w', Calls Try.prog 30 #[.string (F.extract 0 kk)] w' fun e w'' => ∃ ao cap, e = .returned (.tuple #[.slice ao 3 cap, .int .i64 (F.size : Int)]) ∧ StrsW w'' w'.heap.size w''.heap.size (.slice ao 3 cap) [t0, t1, t2] ∧ Fr w' w'') := fun w' => by have := implUnframe_any (F.extract 0 kk) w' (by rw [ByteArray.size_extract]; omega); rw [hU2] at this; exact this
            clear hU2
            go_wp2_with fail
            refine (CU2.out _).mono ?_
            rintro e w7 ⟨aov, capv, rfl, hv, hf7⟩
            have HV7 := Lib.hid hv
            have hb7 := HB5.out.fr (show Fr w5 w7 by repeat (first | (with_reducible exact Fr.refl _) | (with_reducible assumption) | (with_reducible refine Fr.drewN ?_ _) | (with_reducible refine Fr.drew ?_) | (with_reducible refine Fr.alloc ?_ _) | (with_reducible refine Fr.setCell ?_ (by (first | (with_reducible assumption) | omega | (simp only [World.size_alloc, World.size_setCell, World.size_drew, World.heap_drewN]; omega) | (simp; done) | (simp; omega))) _) | (with_reducible refine Fr.trans ?_ (by with_reducible assumption))))
            have HB7 := Lib.hid hb7
            clear hv hb7
            have hwr7 : Fr wr w7 := by repeat (first | (with_reducible exact Fr.refl _) | (with_reducible assumption) | (with_reducible refine Fr.drewN ?_ _) | (with_reducible refine Fr.drew ?_) | (with_reducible refine Fr.alloc ?_ _) | (with_reducible refine Fr.setCell ?_ (by (first | (with_reducible assumption) | omega | (simp only [World.size_alloc, World.size_setCell, World.size_drew, World.heap_drewN]; omega) | (simp; done) | (simp; omega))) _) | (with_reducible refine Fr.trans ?_ (by with_reducible assumption)))
            have y0 := (hwr7.cell (p := ⟨be, _, none⟩) hbe).trans g0.out
            have y1 := (hwr7.cell (p := ⟨be, _, none⟩) hbe).trans g1.out
            have y2 := (hwr7.cell (p := ⟨be, _, none⟩) hbe).trans g2.out
            have y3 := (hwr7.cell (p := ⟨be, _, none⟩) hbe).trans g3.out
            go_wp2_with (go_at_call 31; refine (sameTexts_same _ _ [t0, t1, t2] _ HV7.out.rd (HB7.out.strs3 3 (by omega))).mono ?_; rintro e w8 ⟨rfl, md8, rfl⟩)
            go_ret
            exact ⟨rfl, by have := hf02; repeat (first | (with_reducible exact Fr.refl _) | (with_reducible assumption) | (with_reducible refine Fr.drewN ?_ _) | (with_reducible refine Fr.drew ?_) | (with_reducible refine Fr.alloc ?_ _) | (with_reducible refine Fr.setCell ?_ (by (first | (with_reducible assumption) | omega | (simp only [World.size_alloc, World.size_setCell, World.size_drew, World.heap_drewN]; omega) | (simp; done) | (simp; omega))) _) | (with_reducible refine Fr.trans ?_ (by with_reducible assumption)))⟩
    · obtain ⟨t0, ht0⟩ : ∃ t, oneT = t := ⟨_, rfl⟩
      have h900 : 1 ≤ t0.size ∧ t0.size ≤ 900 := by rw [← ht0]; exact ⟨by decide, by decide⟩
      have HT0 := Lib.hid ht0
      clear ht0
      obtain ⟨t1, ht1⟩ : ∃ t, twoT = t := ⟨_, rfl⟩
      have HT1 := Lib.hid ht1.symm
      have h1s : t1.size = 3 := by rw [← ht1]; rfl
      clear ht1
      obtain ⟨t2, ht2⟩ : ∃ t, threeT = t := ⟨_, rfl⟩
      have HT2 := Lib.hid ht2.symm
      have h2s : t2.size = 14 := by rw [← ht2]; rfl
      clear ht2
      obtain ⟨ts, hts⟩ : ∃ l, [t0, t1, t2] = l := ⟨_, rfl⟩
      have HTS := Lib.hid hts.symm
      have HTL : Hid (ts.length = 3) := by rw [← hts]; exact rfl
      have HSZ : Hid (∀ x ∈ ts, 1 ≤ x.size ∧ x.size ≤ 900) := fun x hx => by rw [← hts] at hx; simp at hx; rcases hx with rfl | rfl | rfl <;> omega
      have HEND : Hid (∀ j, j ≤ 3 → endAt ts j ≤ 3000) := fun j hj => ends_le HTL.out HSZ.out j hj
      clear hts
      obtain ⟨i0, hi, hz0, hz1, hz2⟩ := info_parts info_int
      have hb0 : ((s0.size : Int) == 0) = false := by rw [beq_eq_false_iff_ne]; omega
      have hb1 : decide (900 < (s0.size : Int)) = true := decide_eq_true (by omega)
      go_wp2_with fail
      go_loopw [5, 6, 7] (fun f v i wr => ∃ (k : Nat) (F : ByteArray) (E : List Int), k ≤ 3 ∧ i = .int .i64 k ∧ f = .string F ∧ Hid (F = fileAtK ts k) ∧ Hid (E = endsL ts k) ∧ E.length = k + 1 ∧ F.size ≤ 3000 ∧ IntsO wr (w2.heap.size + 1) v E ∧ Box wr w2.heap.size #[.string t0, .string t1, .string t2] 9 ∧ Fr w2 wr ∧ w2.heap.size + 1 ≤ wr.heap.size) (fun _ _ i _ => 3 - (intOf i).toNat)
      case atStart =>
        refine ⟨0, ⟨#[]⟩, [0], by omega, rfl, rfl, Lib.hid rfl, Lib.hid (by simp [endsL, endAt]), rfl, by decide, lit_int (by simp), ?_, by repeat (first | (with_reducible exact Fr.refl _) | (with_reducible assumption) | (with_reducible refine Fr.drewN ?_ _) | (with_reducible refine Fr.drew ?_) | (with_reducible refine Fr.alloc ?_ _) | (with_reducible refine Fr.setCell ?_ (by (first | (with_reducible assumption) | omega | (simp only [World.size_alloc, World.size_setCell, World.size_drew, World.heap_drewN]; omega) | (simp; done) | (simp; omega))) _) | (with_reducible refine Fr.trans ?_ (by with_reducible assumption))), by (first | (with_reducible assumption) | omega | (simp only [World.size_alloc, World.size_setCell, World.size_drew, World.heap_drewN]; omega) | (simp; done) | (simp; omega))⟩
        rw [← HT0.out]; rw [HT1.out, HT2.out]; first | exact (Box.new _ _ _).alloc _ | exact ((Box.new _ _ _).set_to rfl).alloc _
      case round =>
        obtain ⟨k, F, E, hk, rfl, rfl, HF0, HE0, hEl, hFs, ho, BL, hfr, hsz⟩ := hrel
        obtain ⟨aoe, cape, rfl⟩ := owns_val ho
        have ho' : wr.ownsRow (w2.heap.size + 1) 3 1 (.slice aoe (k + 1) cape) (k + 1) (E.map (Value.int .i64)) := by rw [← hEl]; exact ho
        have HO := Lib.hid ho'
        clear ho ho'
        have HBL := Lib.hid BL
        have hbl := BL.lt
        clear BL
        by_cases hlt : k < 3
        · obtain ⟨t, ht⟩ : ∃ t, sAt ts k = t := ⟨_, rfl⟩
          have c0 : wr.cell? ⟨w2.heap.size, k, none⟩ = some (.string t) := by
            rw [HBL.out.cell, ← ht, HTS.out]
            match k, hlt with
            | 0, _ => rfl
            | 1, _ => rfl
            | 2, _ => rfl
          have hkl : k < ts.length := by rw [HTL.out]; exact hlt
          have htb := HSZ.out t (by rw [← ht]; exact sAt_mem hkl)
          obtain ⟨F', hF'⟩ : ∃ x, fileAtK ts (k + 1) = x := ⟨_, rfl⟩
          have HF : Hid (F ++ frameT t = F') := by rw [HF0.out, ← ht, ← hF']; exact fileAtK_succ hkl
          have hF's : F'.size ≤ 3000 := by rw [← hF', fileAtK_size]; exact HEND.out (k + 1) (by omega)
          have HE : Hid (E ++ [((F'.size : Nat) : Int)] = endsL ts (k + 1)) := by rw [HE0.out, ← hF', fileAtK_size]; exact endsL_succ ts k
          have HF1 := Lib.hid hF'.symm
          obtain ⟨ft, hft⟩ : ∃ x, frameT t = x := ⟨_, rfl⟩
          rw [hft] at HF
          have HB : frameB t = true := by unfold frameB; exact decide_eq_true ⟨htb.1, by omega⟩
          have CF : Hid (∀ w', Calls Try.prog 29 #[.string t] w' fun e w'' => e = .returned (.tuple #[.string ft, .bool true]) ∧ Fr w' w'') := fun w' => by have := implFrame_any t w' (by unfold maxLen; omega); rw [frameR_ok HB, HB, hft] at this; exact this
          have hfs : F.size + ft.size = F'.size := by rw [← HF.out, ByteArray.size_append]
          have hq : ¬ 9223372036854775807 < F.size + ft.size := by omega
          clear ht HB hfs hF' hft
          go_wp2_with fail
          refine (CF.out _).mono ?_
          rintro e w3 ⟨rfl, hf3⟩
          have hs3 := hf3.size
          have ho3 := owns_fr HO.out hf3
          have HO3 := Lib.hid ho3
          clear ho3
          have hbl3 := HBL.out.fr hf3
          have HB3 := Lib.hid hbl3
          clear hbl3
          have hff : (F ++ ft).size = F'.size := by rw [HF.out]
          go_wp2_with (at_builtin; refine wpList_append_rd rfl _ _ 36 rfl (w2.heap.size + 1) 3 i0 (.int .i64 0) 1 8 Try.underlying36 hi hz0 hz1 hz2 rfl (by decide) _ (k + 1) (E.map (Value.int .i64)) rfl (World.ownsRow.alloc HO3.out _) _ 1 [.int .i64 _] rfl (RdS.new (by first | rfl | simp) rfl) (by simp [Value.oneCell']) (by unfold maxLen; omega) (by omega) (by (first | (with_reducible assumption) | omega | (simp only [World.size_alloc, World.size_setCell, World.size_drew, World.heap_drewN]; omega) | (simp; done) | (simp; omega))) ?_; intro ao' cap' w4 hown hgrow hat)
          have hb4 : Box w4 w2.heap.size #[.string t0, .string t1, .string t2] 9 := (HB3.out.alloc _).gr hgrow (fun e => by have := World.ownsRow.lt HO3.out _ e; omega)
          have hf4 : Fr w2 w4 := ((hfr.trans hf3).alloc _).grown hgrow (fun g hg => by have := World.ownsRow.lt HO3.out g hg; omega)
          have hs4 := hgrow.size
          simp only [World.size_alloc] at hs4
          have ho4 : IntsO w4 (w2.heap.size + 1) (.slice ao' (k + 1 + 1) cap') (E ++ [((F'.size : Nat) : Int)]) := by unfold IntsO; rw [List.map_append, List.length_append, hEl]; exact hown
          go_roundw
          case rel => exact ⟨k + 1, F', E ++ [((F'.size : Nat) : Int)], by omega, by go_num, by rw [HF.out], HF1, HE, by rw [List.length_append, hEl]; rfl, hF's, ho4, hb4, hf4, by omega⟩
          case measure => (simp [intOf]; omega)
        · obtain rfl : k = 3 := by omega
          obtain ⟨hF3, hU, e0, e1, e2, hE4, q01, q12, q23, hcut⟩ := frames_end HTS.out HF0.out HE0.out HSZ.out
          have CU : Hid (∀ w', Calls Try.prog 30 #[.string F] w' fun e w'' => ∃ ao cap, e = .returned (.tuple #[.slice ao 3 cap, .int .i64 (F.size : Int)]) ∧ StrsW w'' w'.heap.size w''.heap.size (.slice ao 3 cap) [t0, t1, t2] ∧ Fr w' w'') := fun w' => by have := implUnframe_any F w' (by omega); rw [hU] at this; exact this
          have HCUT := Lib.hid hcut
          clear hcut hU
          obtain ⟨be, oe, rfl, hbe, g0, g1, g2, g3⟩ : ∃ be oe, aoe = some ⟨be, oe, none⟩ ∧ be < wr.heap.size ∧ Hid (wr.cell? ⟨be, oe, none⟩ = some (.int .i64 (e0 : Int))) ∧ Hid (wr.cell? ⟨be, oe + 1, none⟩ = some (.int .i64 (e1 : Int))) ∧ Hid (wr.cell? ⟨be, oe + 2, none⟩ = some (.int .i64 (e2 : Int))) ∧ Hid (wr.cell? ⟨be, oe + 3, none⟩ = some (.int .i64 (F.size : Int))) := by
            have hr : IntsR wr (.slice aoe 4 cape) E := by unfold IntsR; rw [hEl]; exact RdS.of_owns HO.out
            obtain ⟨ax, be, oe, cx, hv, _, _, fe⟩ := IntsR.one hr
            rw [hEl] at hv
            cases hv
            obtain ⟨rfl, h1, h2⟩ := fe (by omega)
            rw [hE4] at h2
            exact ⟨be, oe, rfl, h1, h2 0 (by simp), h2 1 (by simp), h2 2 (by simp), h2 3 (by simp)⟩
          go_wp2_with fail
          refine (CU.out _).mono ?_
          rintro e w5 ⟨aou, capu, rfl, hu, hf5⟩
          have HU5 := Lib.hid hu
          have hb5 := HBL.out.fr hf5
          have HB5 := Lib.hid hb5
          clear hu hb5
          have hwr5 : Fr w1 w5 := by repeat (first | (with_reducible exact Fr.refl _) | (with_reducible assumption) | (with_reducible refine Fr.drewN ?_ _) | (with_reducible refine Fr.drew ?_) | (with_reducible refine Fr.alloc ?_ _) | (with_reducible refine Fr.setCell ?_ (by (first | (with_reducible assumption) | omega | (simp only [World.size_alloc, World.size_setCell, World.size_drew, World.heap_drewN]; omega) | (simp; done) | (simp; omega))) _) | (with_reducible refine Fr.trans ?_ (by with_reducible assumption)))
          have cp : w5.cell? ⟨bp, op, none⟩ = some (.int .i64 p0) := (hwr5.cell (p := ⟨bp, _, none⟩) hbp).trans HP.out
          have hs5 := hf5.size
          obtain ⟨kk, hk1, hk2⟩ := rem_lt (x := p0) (n := (F.size : Int) + 1) (by omega)
          have htk : ((kk : Int)).toNat = kk := by simp
          have hkle : kk ≤ F.size := by omega
          go_wp2_with fail
          refine (sameTexts_same _ _ [t0, t1, t2] _ HU5.out.rd (HB5.out.strs3 3 (by omega))).mono ?_
          rintro e w6 ⟨rfl, md, rfl⟩
          rcases HCUT.out kk hkle with h | h | h | h
          · obtain ⟨d1, d2, hU2⟩ := h
            have CU2 : Hid (∀ w', Calls Try.prog 30 #[.string (F.extract 0 kk)] w' fun e w'' => ∃ ao cap, e = .returned (.tuple #[.slice ao 0 cap, .int .i64 (e0 : Int)]) ∧ StrsW w'' w'.heap.size w''.heap.size (.slice ao 0 cap) [] ∧ Fr w' w'') := fun w' => by have := implUnframe_any (F.extract 0 kk) w' (by rw [ByteArray.size_extract]; omega); rw [hU2] at this; exact this
            clear hU2
            go_wp2_with fail
            refine (CU2.out _).mono ?_
            rintro e w7 ⟨aov, capv, rfl, hv, hf7⟩
            have HV7 := Lib.hid hv
            have hb7 := HB5.out.fr (show Fr w5 w7 by repeat (first | (with_reducible exact Fr.refl _) | (with_reducible assumption) | (with_reducible refine Fr.drewN ?_ _) | (with_reducible refine Fr.drew ?_) | (with_reducible refine Fr.alloc ?_ _) | (with_reducible refine Fr.setCell ?_ (by (first | (with_reducible assumption) | omega | (simp only [World.size_alloc, World.size_setCell, World.size_drew, World.heap_drewN]; omega) | (simp; done) | (simp; omega))) _) | (with_reducible refine Fr.trans ?_ (by with_reducible assumption))))
            have HB7 := Lib.hid hb7
            clear hv hb7
            have hwr7 : Fr wr w7 := by repeat (first | (with_reducible exact Fr.refl _) | (with_reducible assumption) | (with_reducible refine Fr.drewN ?_ _) | (with_reducible refine Fr.drew ?_) | (with_reducible refine Fr.alloc ?_ _) | (with_reducible refine Fr.setCell ?_ (by (first | (with_reducible assumption) | omega | (simp only [World.size_alloc, World.size_setCell, World.size_drew, World.heap_drewN]; omega) | (simp; done) | (simp; omega))) _) | (with_reducible refine Fr.trans ?_ (by with_reducible assumption)))
            have y0 := (hwr7.cell (p := ⟨be, _, none⟩) hbe).trans g0.out
            have y1 := (hwr7.cell (p := ⟨be, _, none⟩) hbe).trans g1.out
            have y2 := (hwr7.cell (p := ⟨be, _, none⟩) hbe).trans g2.out
            have y3 := (hwr7.cell (p := ⟨be, _, none⟩) hbe).trans g3.out
            go_wp2_with (go_at_call 31; refine (sameTexts_same _ _ [] _ HV7.out.rd (HB7.out.strs3 0 (by omega))).mono ?_; rintro e w8 ⟨rfl, md8, rfl⟩)
            go_ret
            exact ⟨rfl, by have := hf02; repeat (first | (with_reducible exact Fr.refl _) | (with_reducible assumption) | (with_reducible refine Fr.drewN ?_ _) | (with_reducible refine Fr.drew ?_) | (with_reducible refine Fr.alloc ?_ _) | (with_reducible refine Fr.setCell ?_ (by (first | (with_reducible assumption) | omega | (simp only [World.size_alloc, World.size_setCell, World.size_drew, World.heap_drewN]; omega) | (simp; done) | (simp; omega))) _) | (with_reducible refine Fr.trans ?_ (by with_reducible assumption)))⟩
          · obtain ⟨d1, d2, hU2⟩ := h
            have CU2 : Hid (∀ w', Calls Try.prog 30 #[.string (F.extract 0 kk)] w' fun e w'' => ∃ ao cap, e = .returned (.tuple #[.slice ao 1 cap, .int .i64 (e1 : Int)]) ∧ StrsW w'' w'.heap.size w''.heap.size (.slice ao 1 cap) [t0] ∧ Fr w' w'') := fun w' => by have := implUnframe_any (F.extract 0 kk) w' (by rw [ByteArray.size_extract]; omega); rw [hU2] at this; exact this
            clear hU2
            go_wp2_with fail
            refine (CU2.out _).mono ?_
            rintro e w7 ⟨aov, capv, rfl, hv, hf7⟩
            have HV7 := Lib.hid hv
            have hb7 := HB5.out.fr (show Fr w5 w7 by repeat (first | (with_reducible exact Fr.refl _) | (with_reducible assumption) | (with_reducible refine Fr.drewN ?_ _) | (with_reducible refine Fr.drew ?_) | (with_reducible refine Fr.alloc ?_ _) | (with_reducible refine Fr.setCell ?_ (by (first | (with_reducible assumption) | omega | (simp only [World.size_alloc, World.size_setCell, World.size_drew, World.heap_drewN]; omega) | (simp; done) | (simp; omega))) _) | (with_reducible refine Fr.trans ?_ (by with_reducible assumption))))
            have HB7 := Lib.hid hb7
            clear hv hb7
            have hwr7 : Fr wr w7 := by repeat (first | (with_reducible exact Fr.refl _) | (with_reducible assumption) | (with_reducible refine Fr.drewN ?_ _) | (with_reducible refine Fr.drew ?_) | (with_reducible refine Fr.alloc ?_ _) | (with_reducible refine Fr.setCell ?_ (by (first | (with_reducible assumption) | omega | (simp only [World.size_alloc, World.size_setCell, World.size_drew, World.heap_drewN]; omega) | (simp; done) | (simp; omega))) _) | (with_reducible refine Fr.trans ?_ (by with_reducible assumption)))
            have y0 := (hwr7.cell (p := ⟨be, _, none⟩) hbe).trans g0.out
            have y1 := (hwr7.cell (p := ⟨be, _, none⟩) hbe).trans g1.out
            have y2 := (hwr7.cell (p := ⟨be, _, none⟩) hbe).trans g2.out
            have y3 := (hwr7.cell (p := ⟨be, _, none⟩) hbe).trans g3.out
            go_wp2_with (go_at_call 31; refine (sameTexts_same _ _ [t0] _ HV7.out.rd (HB7.out.strs3 1 (by omega))).mono ?_; rintro e w8 ⟨rfl, md8, rfl⟩)
            go_ret
            exact ⟨rfl, by have := hf02; repeat (first | (with_reducible exact Fr.refl _) | (with_reducible assumption) | (with_reducible refine Fr.drewN ?_ _) | (with_reducible refine Fr.drew ?_) | (with_reducible refine Fr.alloc ?_ _) | (with_reducible refine Fr.setCell ?_ (by (first | (with_reducible assumption) | omega | (simp only [World.size_alloc, World.size_setCell, World.size_drew, World.heap_drewN]; omega) | (simp; done) | (simp; omega))) _) | (with_reducible refine Fr.trans ?_ (by with_reducible assumption)))⟩
          · obtain ⟨d1, d2, hU2⟩ := h
            have CU2 : Hid (∀ w', Calls Try.prog 30 #[.string (F.extract 0 kk)] w' fun e w'' => ∃ ao cap, e = .returned (.tuple #[.slice ao 2 cap, .int .i64 (e2 : Int)]) ∧ StrsW w'' w'.heap.size w''.heap.size (.slice ao 2 cap) [t0, t1] ∧ Fr w' w'') := fun w' => by have := implUnframe_any (F.extract 0 kk) w' (by rw [ByteArray.size_extract]; omega); rw [hU2] at this; exact this
            clear hU2
            go_wp2_with fail
            refine (CU2.out _).mono ?_
            rintro e w7 ⟨aov, capv, rfl, hv, hf7⟩
            have HV7 := Lib.hid hv
            have hb7 := HB5.out.fr (show Fr w5 w7 by repeat (first | (with_reducible exact Fr.refl _) | (with_reducible assumption) | (with_reducible refine Fr.drewN ?_ _) | (with_reducible refine Fr.drew ?_) | (with_reducible refine Fr.alloc ?_ _) | (with_reducible refine Fr.setCell ?_ (by (first | (with_reducible assumption) | omega | (simp only [World.size_alloc, World.size_setCell, World.size_drew, World.heap_drewN]; omega) | (simp; done) | (simp; omega))) _) | (with_reducible refine Fr.trans ?_ (by with_reducible assumption))))
            have HB7 := Lib.hid hb7
            clear hv hb7
            have hwr7 : Fr wr w7 := by repeat (first | (with_reducible exact Fr.refl _) | (with_reducible assumption) | (with_reducible refine Fr.drewN ?_ _) | (with_reducible refine Fr.drew ?_) | (with_reducible refine Fr.alloc ?_ _) | (with_reducible refine Fr.setCell ?_ (by (first | (with_reducible assumption) | omega | (simp only [World.size_alloc, World.size_setCell, World.size_drew, World.heap_drewN]; omega) | (simp; done) | (simp; omega))) _) | (with_reducible refine Fr.trans ?_ (by with_reducible assumption)))
            have y0 := (hwr7.cell (p := ⟨be, _, none⟩) hbe).trans g0.out
            have y1 := (hwr7.cell (p := ⟨be, _, none⟩) hbe).trans g1.out
            have y2 := (hwr7.cell (p := ⟨be, _, none⟩) hbe).trans g2.out
            have y3 := (hwr7.cell (p := ⟨be, _, none⟩) hbe).trans g3.out
            go_wp2_with (go_at_call 31; refine (sameTexts_same _ _ [t0, t1] _ HV7.out.rd (HB7.out.strs3 2 (by omega))).mono ?_; rintro e w8 ⟨rfl, md8, rfl⟩)
            go_ret
            exact ⟨rfl, by have := hf02; repeat (first | (with_reducible exact Fr.refl _) | (with_reducible assumption) | (with_reducible refine Fr.drewN ?_ _) | (with_reducible refine Fr.drew ?_) | (with_reducible refine Fr.alloc ?_ _) | (with_reducible refine Fr.setCell ?_ (by (first | (with_reducible assumption) | omega | (simp only [World.size_alloc, World.size_setCell, World.size_drew, World.heap_drewN]; omega) | (simp; done) | (simp; omega))) _) | (with_reducible refine Fr.trans ?_ (by with_reducible assumption)))⟩
          · obtain ⟨d1, hU2⟩ := h
            have d1a : F.size ≤ kk := by omega
            clear d1
            have CU2 : Hid (∀ w', Calls Try.prog 30 #[.string (F.extract 0 kk)] w' fun e w'' => ∃ ao cap, e = .returned (.tuple #[.slice ao 3 cap, .int .i64 (F.size : Int)]) ∧ StrsW w'' w'.heap.size w''.heap.size (.slice ao 3 cap) [t0, t1, t2] ∧ Fr w' w'') := fun w' => by have := implUnframe_any (F.extract 0 kk) w' (by rw [ByteArray.size_extract]; omega); rw [hU2] at this; exact this
            clear hU2
            go_wp2_with fail
            refine (CU2.out _).mono ?_
            rintro e w7 ⟨aov, capv, rfl, hv, hf7⟩
            have HV7 := Lib.hid hv
            have hb7 := HB5.out.fr (show Fr w5 w7 by repeat (first | (with_reducible exact Fr.refl _) | (with_reducible assumption) | (with_reducible refine Fr.drewN ?_ _) | (with_reducible refine Fr.drew ?_) | (with_reducible refine Fr.alloc ?_ _) | (with_reducible refine Fr.setCell ?_ (by (first | (with_reducible assumption) | omega | (simp only [World.size_alloc, World.size_setCell, World.size_drew, World.heap_drewN]; omega) | (simp; done) | (simp; omega))) _) | (with_reducible refine Fr.trans ?_ (by with_reducible assumption))))
            have HB7 := Lib.hid hb7
            clear hv hb7
            have hwr7 : Fr wr w7 := by repeat (first | (with_reducible exact Fr.refl _) | (with_reducible assumption) | (with_reducible refine Fr.drewN ?_ _) | (with_reducible refine Fr.drew ?_) | (with_reducible refine Fr.alloc ?_ _) | (with_reducible refine Fr.setCell ?_ (by (first | (with_reducible assumption) | omega | (simp only [World.size_alloc, World.size_setCell, World.size_drew, World.heap_drewN]; omega) | (simp; done) | (simp; omega))) _) | (with_reducible refine Fr.trans ?_ (by with_reducible assumption)))
            have y0 := (hwr7.cell (p := ⟨be, _, none⟩) hbe).trans g0.out
            have y1 := (hwr7.cell (p := ⟨be, _, none⟩) hbe).trans g1.out
            have y2 := (hwr7.cell (p := ⟨be, _, none⟩) hbe).trans g2.out
            have y3 := (hwr7.cell (p := ⟨be, _, none⟩) hbe).trans g3.out
            go_wp2_with (go_at_call 31; refine (sameTexts_same _ _ [t0, t1, t2] _ HV7.out.rd (HB7.out.strs3 3 (by omega))).mono ?_; rintro e w8 ⟨rfl, md8, rfl⟩)
            go_ret
            exact ⟨rfl, by have := hf02; repeat (first | (with_reducible exact Fr.refl _) | (with_reducible assumption) | (with_reducible refine Fr.drewN ?_ _) | (with_reducible refine Fr.drew ?_) | (with_reducible refine Fr.alloc ?_ _) | (with_reducible refine Fr.setCell ?_ (by (first | (with_reducible assumption) | omega | (simp only [World.size_alloc, World.size_setCell, World.size_drew, World.heap_drewN]; omega) | (simp; done) | (simp; omega))) _) | (with_reducible refine Fr.trans ?_ (by with_reducible assumption)))⟩
    · obtain ⟨t0, ht0⟩ : ∃ t, s0 = t := ⟨_, rfl⟩
      have h900 : 1 ≤ t0.size ∧ t0.size ≤ 900 := by rw [← ht0]; exact ⟨by omega, by omega⟩
      have HT0 := Lib.hid ht0
      subst ht0
      obtain ⟨t1, ht1⟩ : ∃ t, twoT = t := ⟨_, rfl⟩
      have HT1 := Lib.hid ht1.symm
      have h1s : t1.size = 3 := by rw [← ht1]; rfl
      clear ht1
      obtain ⟨t2, ht2⟩ : ∃ t, threeT = t := ⟨_, rfl⟩
      have HT2 := Lib.hid ht2.symm
      have h2s : t2.size = 14 := by rw [← ht2]; rfl
      clear ht2
      obtain ⟨ts, hts⟩ : ∃ l, [s0, t1, t2] = l := ⟨_, rfl⟩
      have HTS := Lib.hid hts.symm
      have HTL : Hid (ts.length = 3) := by rw [← hts]; exact rfl
      have HSZ : Hid (∀ x ∈ ts, 1 ≤ x.size ∧ x.size ≤ 900) := fun x hx => by rw [← hts] at hx; simp at hx; rcases hx with rfl | rfl | rfl <;> omega
      have HEND : Hid (∀ j, j ≤ 3 → endAt ts j ≤ 3000) := fun j hj => ends_le HTL.out HSZ.out j hj
      clear hts
      obtain ⟨i0, hi, hz0, hz1, hz2⟩ := info_parts info_int
      have hb0 : ((s0.size : Int) == 0) = false := by rw [beq_eq_false_iff_ne]; omega
      have hb1 : decide (900 < (s0.size : Int)) = false := decide_eq_false (by omega)
      go_wp2_with fail
      go_loopw [5, 6, 7] (fun f v i wr => ∃ (k : Nat) (F : ByteArray) (E : List Int), k ≤ 3 ∧ i = .int .i64 k ∧ f = .string F ∧ Hid (F = fileAtK ts k) ∧ Hid (E = endsL ts k) ∧ E.length = k + 1 ∧ F.size ≤ 3000 ∧ IntsO wr (w2.heap.size + 1) v E ∧ Box wr w2.heap.size #[.string s0, .string t1, .string t2] 9 ∧ Fr w2 wr ∧ w2.heap.size + 1 ≤ wr.heap.size) (fun _ _ i _ => 3 - (intOf i).toNat)
      case atStart =>
        refine ⟨0, ⟨#[]⟩, [0], by omega, rfl, rfl, Lib.hid rfl, Lib.hid (by simp [endsL, endAt]), rfl, by decide, lit_int (by simp), ?_, by repeat (first | (with_reducible exact Fr.refl _) | (with_reducible assumption) | (with_reducible refine Fr.drewN ?_ _) | (with_reducible refine Fr.drew ?_) | (with_reducible refine Fr.alloc ?_ _) | (with_reducible refine Fr.setCell ?_ (by (first | (with_reducible assumption) | omega | (simp only [World.size_alloc, World.size_setCell, World.size_drew, World.heap_drewN]; omega) | (simp; done) | (simp; omega))) _) | (with_reducible refine Fr.trans ?_ (by with_reducible assumption))), by (first | (with_reducible assumption) | omega | (simp only [World.size_alloc, World.size_setCell, World.size_drew, World.heap_drewN]; omega) | (simp; done) | (simp; omega))⟩
        rw [HT1.out, HT2.out]; exact (Box.new _ _ _).alloc _
      case round =>
        obtain ⟨k, F, E, hk, rfl, rfl, HF0, HE0, hEl, hFs, ho, BL, hfr, hsz⟩ := hrel
        obtain ⟨aoe, cape, rfl⟩ := owns_val ho
        have ho' : wr.ownsRow (w2.heap.size + 1) 3 1 (.slice aoe (k + 1) cape) (k + 1) (E.map (Value.int .i64)) := by rw [← hEl]; exact ho
        have HO := Lib.hid ho'
        clear ho ho'
        have HBL := Lib.hid BL
        have hbl := BL.lt
        clear BL
        by_cases hlt : k < 3
        · obtain ⟨t, ht⟩ : ∃ t, sAt ts k = t := ⟨_, rfl⟩
          have c0 : wr.cell? ⟨w2.heap.size, k, none⟩ = some (.string t) := by
            rw [HBL.out.cell, ← ht, HTS.out]
            match k, hlt with
            | 0, _ => rfl
            | 1, _ => rfl
            | 2, _ => rfl
          have hkl : k < ts.length := by rw [HTL.out]; exact hlt
          have htb := HSZ.out t (by rw [← ht]; exact sAt_mem hkl)
          obtain ⟨F', hF'⟩ : ∃ x, fileAtK ts (k + 1) = x := ⟨_, rfl⟩
          have HF : Hid (F ++ frameT t = F') := by rw [HF0.out, ← ht, ← hF']; exact fileAtK_succ hkl
          have hF's : F'.size ≤ 3000 := by rw [← hF', fileAtK_size]; exact HEND.out (k + 1) (by omega)
          have HE : Hid (E ++ [((F'.size : Nat) : Int)] = endsL ts (k + 1)) := by rw [HE0.out, ← hF', fileAtK_size]; exact endsL_succ ts k
          have HF1 := Lib.hid hF'.symm
          obtain ⟨ft, hft⟩ : ∃ x, frameT t = x := ⟨_, rfl⟩
          rw [hft] at HF
          have HB : frameB t = true := by unfold frameB; exact decide_eq_true ⟨htb.1, by omega⟩
          have CF : Hid (∀ w', Calls Try.prog 29 #[.string t] w' fun e w'' => e = .returned (.tuple #[.string ft, .bool true]) ∧ Fr w' w'') := fun w' => by have := implFrame_any t w' (by unfold maxLen; omega); rw [frameR_ok HB, HB, hft] at this; exact this
          have hfs : F.size + ft.size = F'.size := by rw [← HF.out, ByteArray.size_append]
          have hq : ¬ 9223372036854775807 < F.size + ft.size := by omega
          clear ht HB hfs hF' hft
          go_wp2_with fail
          refine (CF.out _).mono ?_
          rintro e w3 ⟨rfl, hf3⟩
          have hs3 := hf3.size
          have ho3 := owns_fr HO.out hf3
          have HO3 := Lib.hid ho3
          clear ho3
          have hbl3 := HBL.out.fr hf3
          have HB3 := Lib.hid hbl3
          clear hbl3
          have hff : (F ++ ft).size = F'.size := by rw [HF.out]
          go_wp2_with (at_builtin; refine wpList_append_rd rfl _ _ 36 rfl (w2.heap.size + 1) 3 i0 (.int .i64 0) 1 8 Try.underlying36 hi hz0 hz1 hz2 rfl (by decide) _ (k + 1) (E.map (Value.int .i64)) rfl (World.ownsRow.alloc HO3.out _) _ 1 [.int .i64 _] rfl (RdS.new (by first | rfl | simp) rfl) (by simp [Value.oneCell']) (by unfold maxLen; omega) (by omega) (by (first | (with_reducible assumption) | omega | (simp only [World.size_alloc, World.size_setCell, World.size_drew, World.heap_drewN]; omega) | (simp; done) | (simp; omega))) ?_; intro ao' cap' w4 hown hgrow hat)
          have hb4 : Box w4 w2.heap.size #[.string s0, .string t1, .string t2] 9 := (HB3.out.alloc _).gr hgrow (fun e => by have := World.ownsRow.lt HO3.out _ e; omega)
          have hf4 : Fr w2 w4 := ((hfr.trans hf3).alloc _).grown hgrow (fun g hg => by have := World.ownsRow.lt HO3.out g hg; omega)
          have hs4 := hgrow.size
          simp only [World.size_alloc] at hs4
          have ho4 : IntsO w4 (w2.heap.size + 1) (.slice ao' (k + 1 + 1) cap') (E ++ [((F'.size : Nat) : Int)]) := by unfold IntsO; rw [List.map_append, List.length_append, hEl]; exact hown
          go_roundw
          case rel => exact ⟨k + 1, F', E ++ [((F'.size : Nat) : Int)], by omega, by go_num, by rw [HF.out], HF1, HE, by rw [List.length_append, hEl]; rfl, hF's, ho4, hb4, hf4, by omega⟩
          case measure => (simp [intOf]; omega)
        · obtain rfl : k = 3 := by omega
          obtain ⟨hF3, hU, e0, e1, e2, hE4, q01, q12, q23, hcut⟩ := frames_end HTS.out HF0.out HE0.out HSZ.out
          have CU : Hid (∀ w', Calls Try.prog 30 #[.string F] w' fun e w'' => ∃ ao cap, e = .returned (.tuple #[.slice ao 3 cap, .int .i64 (F.size : Int)]) ∧ StrsW w'' w'.heap.size w''.heap.size (.slice ao 3 cap) [s0, t1, t2] ∧ Fr w' w'') := fun w' => by have := implUnframe_any F w' (by omega); rw [hU] at this; exact this
          have HCUT := Lib.hid hcut
          clear hcut hU
          obtain ⟨be, oe, rfl, hbe, g0, g1, g2, g3⟩ : ∃ be oe, aoe = some ⟨be, oe, none⟩ ∧ be < wr.heap.size ∧ Hid (wr.cell? ⟨be, oe, none⟩ = some (.int .i64 (e0 : Int))) ∧ Hid (wr.cell? ⟨be, oe + 1, none⟩ = some (.int .i64 (e1 : Int))) ∧ Hid (wr.cell? ⟨be, oe + 2, none⟩ = some (.int .i64 (e2 : Int))) ∧ Hid (wr.cell? ⟨be, oe + 3, none⟩ = some (.int .i64 (F.size : Int))) := by
            have hr : IntsR wr (.slice aoe 4 cape) E := by unfold IntsR; rw [hEl]; exact RdS.of_owns HO.out
            obtain ⟨ax, be, oe, cx, hv, _, _, fe⟩ := IntsR.one hr
            rw [hEl] at hv
            cases hv
            obtain ⟨rfl, h1, h2⟩ := fe (by omega)
            rw [hE4] at h2
            exact ⟨be, oe, rfl, h1, h2 0 (by simp), h2 1 (by simp), h2 2 (by simp), h2 3 (by simp)⟩
          go_wp2_with fail
          refine (CU.out _).mono ?_
          rintro e w5 ⟨aou, capu, rfl, hu, hf5⟩
          have HU5 := Lib.hid hu
          have hb5 := HBL.out.fr hf5
          have HB5 := Lib.hid hb5
          clear hu hb5
          have hwr5 : Fr w1 w5 := by repeat (first | (with_reducible exact Fr.refl _) | (with_reducible assumption) | (with_reducible refine Fr.drewN ?_ _) | (with_reducible refine Fr.drew ?_) | (with_reducible refine Fr.alloc ?_ _) | (with_reducible refine Fr.setCell ?_ (by (first | (with_reducible assumption) | omega | (simp only [World.size_alloc, World.size_setCell, World.size_drew, World.heap_drewN]; omega) | (simp; done) | (simp; omega))) _) | (with_reducible refine Fr.trans ?_ (by with_reducible assumption)))
          have cp : w5.cell? ⟨bp, op, none⟩ = some (.int .i64 p0) := (hwr5.cell (p := ⟨bp, _, none⟩) hbp).trans HP.out
          have hs5 := hf5.size
          obtain ⟨kk, hk1, hk2⟩ := rem_lt (x := p0) (n := (F.size : Int) + 1) (by omega)
          have htk : ((kk : Int)).toNat = kk := by simp
          have hkle : kk ≤ F.size := by omega
          go_wp2_with fail
          refine (sameTexts_same _ _ [s0, t1, t2] _ HU5.out.rd (HB5.out.strs3 3 (by omega))).mono ?_
          rintro e w6 ⟨rfl, md, rfl⟩
          rcases HCUT.out kk hkle with h | h | h | h
          · obtain ⟨d1, d2, hU2⟩ := h
            have CU2 : Hid (∀ w', Calls Try.prog 30 #[.string (F.extract 0 kk)] w' fun e w'' => ∃ ao cap, e = .returned (.tuple #[.slice ao 0 cap, .int .i64 (e0 : Int)]) ∧ StrsW w'' w'.heap.size w''.heap.size (.slice ao 0 cap) [] ∧ Fr w' w'') := fun w' => by have := implUnframe_any (F.extract 0 kk) w' (by rw [ByteArray.size_extract]; omega); rw [hU2] at this; exact this
            clear hU2
            go_wp2_with fail
            refine (CU2.out _).mono ?_
            rintro e w7 ⟨aov, capv, rfl, hv, hf7⟩
            have HV7 := Lib.hid hv
            have hb7 := HB5.out.fr (show Fr w5 w7 by repeat (first | (with_reducible exact Fr.refl _) | (with_reducible assumption) | (with_reducible refine Fr.drewN ?_ _) | (with_reducible refine Fr.drew ?_) | (with_reducible refine Fr.alloc ?_ _) | (with_reducible refine Fr.setCell ?_ (by (first | (with_reducible assumption) | omega | (simp only [World.size_alloc, World.size_setCell, World.size_drew, World.heap_drewN]; omega) | (simp; done) | (simp; omega))) _) | (with_reducible refine Fr.trans ?_ (by with_reducible assumption))))
            have HB7 := Lib.hid hb7
            clear hv hb7
            have hwr7 : Fr wr w7 := by repeat (first | (with_reducible exact Fr.refl _) | (with_reducible assumption) | (with_reducible refine Fr.drewN ?_ _) | (with_reducible refine Fr.drew ?_) | (with_reducible refine Fr.alloc ?_ _) | (with_reducible refine Fr.setCell ?_ (by (first | (with_reducible assumption) | omega | (simp only [World.size_alloc, World.size_setCell, World.size_drew, World.heap_drewN]; omega) | (simp; done) | (simp; omega))) _) | (with_reducible refine Fr.trans ?_ (by with_reducible assumption)))
            have y0 := (hwr7.cell (p := ⟨be, _, none⟩) hbe).trans g0.out
            have y1 := (hwr7.cell (p := ⟨be, _, none⟩) hbe).trans g1.out
            have y2 := (hwr7.cell (p := ⟨be, _, none⟩) hbe).trans g2.out
            have y3 := (hwr7.cell (p := ⟨be, _, none⟩) hbe).trans g3.out
            go_wp2_with (go_at_call 31; refine (sameTexts_same _ _ [] _ HV7.out.rd (HB7.out.strs3 0 (by omega))).mono ?_; rintro e w8 ⟨rfl, md8, rfl⟩)
            go_ret
            exact ⟨rfl, by have := hf02; repeat (first | (with_reducible exact Fr.refl _) | (with_reducible assumption) | (with_reducible refine Fr.drewN ?_ _) | (with_reducible refine Fr.drew ?_) | (with_reducible refine Fr.alloc ?_ _) | (with_reducible refine Fr.setCell ?_ (by (first | (with_reducible assumption) | omega | (simp only [World.size_alloc, World.size_setCell, World.size_drew, World.heap_drewN]; omega) | (simp; done) | (simp; omega))) _) | (with_reducible refine Fr.trans ?_ (by with_reducible assumption)))⟩
          · obtain ⟨d1, d2, hU2⟩ := h
            have CU2 : Hid (∀ w', Calls Try.prog 30 #[.string (F.extract 0 kk)] w' fun e w'' => ∃ ao cap, e = .returned (.tuple #[.slice ao 1 cap, .int .i64 (e1 : Int)]) ∧ StrsW w'' w'.heap.size w''.heap.size (.slice ao 1 cap) [s0] ∧ Fr w' w'') := fun w' => by have := implUnframe_any (F.extract 0 kk) w' (by rw [ByteArray.size_extract]; omega); rw [hU2] at this; exact this
            clear hU2
            go_wp2_with fail
            refine (CU2.out _).mono ?_
            rintro e w7 ⟨aov, capv, rfl, hv, hf7⟩
            have HV7 := Lib.hid hv
            have hb7 := HB5.out.fr (show Fr w5 w7 by repeat (first | (with_reducible exact Fr.refl _) | (with_reducible assumption) | (with_reducible refine Fr.drewN ?_ _) | (with_reducible refine Fr.drew ?_) | (with_reducible refine Fr.alloc ?_ _) | (with_reducible refine Fr.setCell ?_ (by (first | (with_reducible assumption) | omega | (simp only [World.size_alloc, World.size_setCell, World.size_drew, World.heap_drewN]; omega) | (simp; done) | (simp; omega))) _) | (with_reducible refine Fr.trans ?_ (by with_reducible assumption))))
            have HB7 := Lib.hid hb7
            clear hv hb7
            have hwr7 : Fr wr w7 := by repeat (first | (with_reducible exact Fr.refl _) | (with_reducible assumption) | (with_reducible refine Fr.drewN ?_ _) | (with_reducible refine Fr.drew ?_) | (with_reducible refine Fr.alloc ?_ _) | (with_reducible refine Fr.setCell ?_ (by (first | (with_reducible assumption) | omega | (simp only [World.size_alloc, World.size_setCell, World.size_drew, World.heap_drewN]; omega) | (simp; done) | (simp; omega))) _) | (with_reducible refine Fr.trans ?_ (by with_reducible assumption)))
            have y0 := (hwr7.cell (p := ⟨be, _, none⟩) hbe).trans g0.out
            have y1 := (hwr7.cell (p := ⟨be, _, none⟩) hbe).trans g1.out
            have y2 := (hwr7.cell (p := ⟨be, _, none⟩) hbe).trans g2.out
            have y3 := (hwr7.cell (p := ⟨be, _, none⟩) hbe).trans g3.out
            go_wp2_with (go_at_call 31; refine (sameTexts_same _ _ [s0] _ HV7.out.rd (HB7.out.strs3 1 (by omega))).mono ?_; rintro e w8 ⟨rfl, md8, rfl⟩)
            go_ret
            exact ⟨rfl, by have := hf02; repeat (first | (with_reducible exact Fr.refl _) | (with_reducible assumption) | (with_reducible refine Fr.drewN ?_ _) | (with_reducible refine Fr.drew ?_) | (with_reducible refine Fr.alloc ?_ _) | (with_reducible refine Fr.setCell ?_ (by (first | (with_reducible assumption) | omega | (simp only [World.size_alloc, World.size_setCell, World.size_drew, World.heap_drewN]; omega) | (simp; done) | (simp; omega))) _) | (with_reducible refine Fr.trans ?_ (by with_reducible assumption)))⟩
          · obtain ⟨d1, d2, hU2⟩ := h
            have CU2 : Hid (∀ w', Calls Try.prog 30 #[.string (F.extract 0 kk)] w' fun e w'' => ∃ ao cap, e = .returned (.tuple #[.slice ao 2 cap, .int .i64 (e2 : Int)]) ∧ StrsW w'' w'.heap.size w''.heap.size (.slice ao 2 cap) [s0, t1] ∧ Fr w' w'') := fun w' => by have := implUnframe_any (F.extract 0 kk) w' (by rw [ByteArray.size_extract]; omega); rw [hU2] at this; exact this
            clear hU2
            go_wp2_with fail
            refine (CU2.out _).mono ?_
            rintro e w7 ⟨aov, capv, rfl, hv, hf7⟩
            have HV7 := Lib.hid hv
            have hb7 := HB5.out.fr (show Fr w5 w7 by repeat (first | (with_reducible exact Fr.refl _) | (with_reducible assumption) | (with_reducible refine Fr.drewN ?_ _) | (with_reducible refine Fr.drew ?_) | (with_reducible refine Fr.alloc ?_ _) | (with_reducible refine Fr.setCell ?_ (by (first | (with_reducible assumption) | omega | (simp only [World.size_alloc, World.size_setCell, World.size_drew, World.heap_drewN]; omega) | (simp; done) | (simp; omega))) _) | (with_reducible refine Fr.trans ?_ (by with_reducible assumption))))
            have HB7 := Lib.hid hb7
            clear hv hb7
            have hwr7 : Fr wr w7 := by repeat (first | (with_reducible exact Fr.refl _) | (with_reducible assumption) | (with_reducible refine Fr.drewN ?_ _) | (with_reducible refine Fr.drew ?_) | (with_reducible refine Fr.alloc ?_ _) | (with_reducible refine Fr.setCell ?_ (by (first | (with_reducible assumption) | omega | (simp only [World.size_alloc, World.size_setCell, World.size_drew, World.heap_drewN]; omega) | (simp; done) | (simp; omega))) _) | (with_reducible refine Fr.trans ?_ (by with_reducible assumption)))
            have y0 := (hwr7.cell (p := ⟨be, _, none⟩) hbe).trans g0.out
            have y1 := (hwr7.cell (p := ⟨be, _, none⟩) hbe).trans g1.out
            have y2 := (hwr7.cell (p := ⟨be, _, none⟩) hbe).trans g2.out
            have y3 := (hwr7.cell (p := ⟨be, _, none⟩) hbe).trans g3.out
            go_wp2_with (go_at_call 31; refine (sameTexts_same _ _ [s0, t1] _ HV7.out.rd (HB7.out.strs3 2 (by omega))).mono ?_; rintro e w8 ⟨rfl, md8, rfl⟩)
            go_ret
            exact ⟨rfl, by have := hf02; repeat (first | (with_reducible exact Fr.refl _) | (with_reducible assumption) | (with_reducible refine Fr.drewN ?_ _) | (with_reducible refine Fr.drew ?_) | (with_reducible refine Fr.alloc ?_ _) | (with_reducible refine Fr.setCell ?_ (by (first | (with_reducible assumption) | omega | (simp only [World.size_alloc, World.size_setCell, World.size_drew, World.heap_drewN]; omega) | (simp; done) | (simp; omega))) _) | (with_reducible refine Fr.trans ?_ (by with_reducible assumption)))⟩
          · obtain ⟨d1, hU2⟩ := h
            have d1a : F.size ≤ kk := by omega
            clear d1
            have CU2 : Hid (∀ w', Calls Try.prog 30 #[.string (F.extract 0 kk)] w' fun e w'' => ∃ ao cap, e = .returned (.tuple #[.slice ao 3 cap, .int .i64 (F.size : Int)]) ∧ StrsW w'' w'.heap.size w''.heap.size (.slice ao 3 cap) [s0, t1, t2] ∧ Fr w' w'') := fun w' => by have := implUnframe_any (F.extract 0 kk) w' (by rw [ByteArray.size_extract]; omega); rw [hU2] at this; exact this
            clear hU2
            go_wp2_with fail
            refine (CU2.out _).mono ?_
            rintro e w7 ⟨aov, capv, rfl, hv, hf7⟩
            have HV7 := Lib.hid hv
            have hb7 := HB5.out.fr (show Fr w5 w7 by repeat (first | (with_reducible exact Fr.refl _) | (with_reducible assumption) | (with_reducible refine Fr.drewN ?_ _) | (with_reducible refine Fr.drew ?_) | (with_reducible refine Fr.alloc ?_ _) | (with_reducible refine Fr.setCell ?_ (by (first | (with_reducible assumption) | omega | (simp only [World.size_alloc, World.size_setCell, World.size_drew, World.heap_drewN]; omega) | (simp; done) | (simp; omega))) _) | (with_reducible refine Fr.trans ?_ (by with_reducible assumption))))
            have HB7 := Lib.hid hb7
            clear hv hb7
            have hwr7 : Fr wr w7 := by repeat (first | (with_reducible exact Fr.refl _) | (with_reducible assumption) | (with_reducible refine Fr.drewN ?_ _) | (with_reducible refine Fr.drew ?_) | (with_reducible refine Fr.alloc ?_ _) | (with_reducible refine Fr.setCell ?_ (by (first | (with_reducible assumption) | omega | (simp only [World.size_alloc, World.size_setCell, World.size_drew, World.heap_drewN]; omega) | (simp; done) | (simp; omega))) _) | (with_reducible refine Fr.trans ?_ (by with_reducible assumption)))
            have y0 := (hwr7.cell (p := ⟨be, _, none⟩) hbe).trans g0.out
            have y1 := (hwr7.cell (p := ⟨be, _, none⟩) hbe).trans g1.out
            have y2 := (hwr7.cell (p := ⟨be, _, none⟩) hbe).trans g2.out
            have y3 := (hwr7.cell (p := ⟨be, _, none⟩) hbe).trans g3.out
            go_wp2_with (go_at_call 31; refine (sameTexts_same _ _ [s0, t1, t2] _ HV7.out.rd (HB7.out.strs3 3 (by omega))).mono ?_; rintro e w8 ⟨rfl, md8, rfl⟩)
            go_ret
            exact ⟨rfl, by have := hf02; repeat (first | (with_reducible exact Fr.refl _) | (with_reducible assumption) | (with_reducible refine Fr.drewN ?_ _) | (with_reducible refine Fr.drew ?_) | (with_reducible refine Fr.alloc ?_ _) | (with_reducible refine Fr.setCell ?_ (by (first | (with_reducible assumption) | omega | (simp only [World.size_alloc, World.size_setCell, World.size_drew, World.heap_drewN]; omega) | (simp; done) | (simp; omega))) _) | (with_reducible refine Fr.trans ?_ (by with_reducible assumption)))⟩
  · go_enter Try.func5, Try.ntmps5
    go_wp2_with (go_at_call 19; refine (big_any _ _ _ _ hn).mono ?_; rintro e w0 ⟨rfl, rfl⟩)
    go_ret
    exact ⟨rfl, by repeat (first | (with_reducible exact Fr.refl _) | (with_reducible assumption) | (with_reducible refine Fr.drewN ?_ _) | (with_reducible refine Fr.drew ?_) | (with_reducible refine Fr.alloc ?_ _) | (with_reducible refine Fr.setCell ?_ (by (first | (with_reducible assumption) | omega | (simp only [World.size_alloc, World.size_setCell, World.size_drew, World.heap_drewN]; omega) | (simp; done) | (simp; omega))) _) | (with_reducible refine Fr.trans ?_ (by with_reducible assumption)))⟩
end Go.Proofs.Ytnlcgffffjjojaa
