/- Kpl2: Kpl, Kpl2 in one text. -/
import Derived.Test.YtjgghiniajmfjaaKPut
import Derived.Test.YtjgghiniajmfjaaDisk2
import Derived.Test.YtjgghiniajmfjaaKIns
namespace Go.Proofs.Ytjgghiniajmfjaa
open Go.RowKit
set_option linter.unusedVariables false
set_option linter.unusedSimpArgs false
/-! Disks, plain: the order of names, a file put in its place keeps a disk right; what the power leaves. Plain lemmas. No condition. -/
theorem extract_allK (s : ByteArray) : s.extract 0 s.size = s := by
  apply WideShapes.bytes_inj
  simp
theorem bless_trans : ∀ {x y z : List UInt8}, Op.bytesLess x y = true → Op.bytesLess y z = true → Op.bytesLess x z = true
  | [], [], _, h, _ => by simp [Op.bytesLess] at h
  | [], _ :: _, [], _, k => by simp [Op.bytesLess] at k
  | [], _ :: _, _ :: _, _, _ => by simp [Op.bytesLess]
  | _ :: _, [], _, h, _ => by simp [Op.bytesLess] at h
  | _ :: _, _ :: _, [], _, k => by simp [Op.bytesLess] at k
  | a :: x, b :: y, c :: z, h, k => by
    simp only [Op.bytesLess, Bool.or_eq_true, Bool.and_eq_true, beq_iff_eq, decide_eq_true_eq] at h k ⊢
    rcases h with h | ⟨rfl, h⟩ <;> rcases k with k | ⟨rfl, k⟩
    · exact .inl (UInt8.lt_trans h k)
    · exact .inl h
    · exact .inl k
    · exact .inr ⟨rfl, bless_trans h k⟩
theorem bless_tri : ∀ {x y : List UInt8}, Op.bytesLess x y = false → x ≠ y → Op.bytesLess y x = true
  | [], [], _, hn => absurd rfl hn
  | [], _ :: _, h, _ => by simp [Op.bytesLess] at h
  | _ :: _, [], _, _ => by simp [Op.bytesLess]
  | a :: x, b :: y, h, hn => by
    simp only [Op.bytesLess, Bool.or_eq_false_iff, Bool.and_eq_false_iff, decide_eq_false_iff_not, beq_eq_false_iff_ne] at h
    simp only [Op.bytesLess, Bool.or_eq_true, Bool.and_eq_true, beq_iff_eq, decide_eq_true_eq]
    by_cases hab : a = b
    · subst hab
      exact .inr ⟨rfl, bless_tri (by rcases h.2 with h2 | h2; exact absurd rfl h2; exact h2) (fun e => hn (by rw [e]))⟩
    · exact .inl (UInt8.lt_of_le_of_ne (UInt8.not_lt.1 h.1) (fun e => hab e.symm))
theorem bless_irr : ∀ (x : List UInt8), Op.bytesLess x x = false
  | [] => rfl
  | a :: x => by simp [Op.bytesLess, bless_irr x]
theorem gtF_less {nm : ByteArray} {x : FileR} (h : gtF nm x = true) : lessB nm x.f0 = true := by
  unfold gtF at h
  simp only [Bool.not_eq_true', Bool.or_eq_false_iff, beq_eq_false_iff_ne] at h
  exact bless_tri h.1 h.2
theorem gtF_not_lt {nm : ByteArray} {x : FileR} (h : ltF nm x = true) : gtF nm x = false := by
  unfold ltF at h
  unfold gtF
  rw [h]
  rfl
/-- The files of a disk, sorted, each right. -/
def Sorted (xs : List FileR) : Prop := xs.Pairwise fun x y => lessB x.f0 y.f0 = true
theorem putF_sorted {xs : List FileR} {f : FileR} (h : Sorted xs) : Sorted (putF xs f) := by
  unfold Sorted putF
  rw [List.append_assoc, List.pairwise_append]
  refine ⟨h.filter _, ?_, ?_⟩
  · rw [List.singleton_append, List.pairwise_cons]
    exact ⟨fun y hy => gtF_less (List.mem_filter.1 hy).2, h.filter _⟩
  · intro x hx y hy
    have h1 : lessB x.f0 f.f0 = true := (List.mem_filter.1 hx).2
    rw [List.singleton_append, List.mem_cons] at hy
    rcases hy with rfl | hy
    · exact h1
    · exact bless_trans h1 (gtF_less (List.mem_filter.1 hy).2)
theorem putF_mem {xs : List FileR} {f x : FileR} (h : x ∈ putF xs f) : x = f ∨ x ∈ xs := by
  unfold putF at h
  simp only [List.mem_append, List.mem_singleton] at h
  rcases h with (h | h) | h
  · exact .inr (List.mem_filter.1 h).1
  · exact .inl h
  · exact .inr (List.mem_filter.1 h).1
theorem putF_length (xs : List FileR) (f : FileR) : (putF xs f).length ≤ xs.length + 1 := by
  have key : ∀ l : List FileR, (l.filter (ltF f.f0)).length + (l.filter (gtF f.f0)).length ≤ l.length := by
    intro l
    induction l with
    | nil => simp
    | cons x l ih =>
      cases h : ltF f.f0 x
      · cases h2 : gtF f.f0 x
        · simp [h, h2]; omega
        · simp [h, h2]; omega
      · have h2 := gtF_not_lt h
        simp [h, h2]; omega
  have := key xs
  unfold putF
  simp only [List.length_append, List.length_singleton]
  omega
theorem fileAt_get {xs : List FileR} {k : Nat} (h : k < xs.length) : fileAt xs k = xs[k] := by simp [fileAt, List.getD, List.getElem?_eq_getElem h]
theorem diskB_of {xs : List FileR} (hl : xs.length ≤ 30) (hs : Sorted xs) (hf : ∀ x ∈ xs, fileB x = true) : diskB xs = true := by
  unfold diskB
  rw [decide_eq_true hl, Bool.true_and]
  refine range_all fun j hj => ?_
  unfold fileK
  rw [fileAt_get hj, hf _ (List.getElem_mem hj), Bool.true_and]
  by_cases h0 : j = 0
  · rw [decide_eq_true h0]; rfl
  · rw [fileAt_get (show j - 1 < xs.length by omega), (List.pairwise_iff_getElem.1 hs) (j - 1) j (by omega) hj (by omega), Bool.or_true]
theorem diskB_fileB {xs : List FileR} (h : diskB xs = true) {k : Nat} (hk : k < xs.length) : fileK xs k = true := by
  unfold diskB at h
  rw [Bool.and_eq_true, List.all_eq_true] at h
  exact h.2 k (by simpa using hk)
theorem loseN_le {x : FileR} {n : Int} (h : 0 ≤ x.f2 ∧ x.f2 ≤ x.f1.size) : 0 ≤ loseN x n ∧ x.f2 ≤ loseN x n ∧ loseN x n ≤ x.f1.size := by unfold loseN; omega
theorem extract_len0 {s : ByteArray} {n : Nat} (h : n ≤ s.size) : (s.extract 0 n).size = n := by rw [ByteArray.size_extract]; omega
theorem extract_twice {s : ByteArray} {m n : Nat} (h : m ≤ n) (hn : n ≤ s.size) : (s.extract 0 n).extract 0 m = s.extract 0 m := by
  rw [ByteArray.extract_extract]
  congr 1
  omega
/-- What the power leaves of a right disk is right, wholly kept, and is left as it is by the next power failure. -/
theorem lose_right {xs : List FileR} {ls : List Int} (h : diskB xs = true) :
    diskB (loseK xs ls xs.length) = true ∧ keptB (loseK xs ls xs.length) = true ∧ loseK (loseK xs ls xs.length) [] xs.length = loseK xs ls xs.length := by
  have hsz : ∀ k, k < xs.length → ((fileAt (loseK xs ls xs.length) k).f1.size : Int) = (fileAt (loseK xs ls xs.length) k).f2 ∧ 0 ≤ (fileAt (loseK xs ls xs.length) k).f2 ∧ (fileAt (loseK xs ls xs.length) k).f1.size ≤ (fileAt xs k).f1.size := by
    intro k hk
    have hf := diskB_file h hk
    have hn := loseN_le (n := leftAt ls k) hf.2
    rw [loseK_at xs ls _ k hk]
    show ((((fileAt xs k).f1.extract 0 (loseN (fileAt xs k) (leftAt ls k)).toNat).size : Nat) : Int) = loseN (fileAt xs k) (leftAt ls k) ∧ _
    rw [extract_len0 (by omega)]
    refine ⟨by omega, hn.1, ?_⟩
    show ((fileAt xs k).f1.extract 0 (loseN (fileAt xs k) (leftAt ls k)).toNat).size ≤ _
    rw [extract_len0 (by omega)]
    omega
  have hnm : ∀ k, k < xs.length → (fileAt (loseK xs ls xs.length) k).f0 = (fileAt xs k).f0 := fun k hk => by rw [loseK_at xs ls _ k hk]; rfl
  have hlen := loseK_length xs ls xs.length
  have hd : diskB (loseK xs ls xs.length) = true := by
    unfold diskB
    rw [hlen, decide_eq_true (diskB_len h), Bool.true_and]
    refine range_all fun j hj => ?_
    have hk := diskB_fileB h hj
    have hf := diskB_file h hj
    have hs := hsz j hj
    unfold fileK fileB at hk ⊢
    rw [hnm j hj]
    simp only [Bool.and_eq_true, Bool.or_eq_true, decide_eq_true_eq] at hk ⊢
    refine ⟨⟨⟨hk.1.1.1, by omega⟩, by omega⟩, ?_⟩
    rcases hk.2 with h0 | h0
    · exact .inl h0
    · rw [hnm (j - 1) (by omega)]
      exact .inr h0
  refine ⟨hd, ?_, ?_⟩
  · unfold keptB
    rw [hd, Bool.true_and]
    refine range_all fun j hj => ?_
    rw [hlen] at hj
    unfold fileF
    rw [decide_eq_true_eq]
    have := (hsz j hj).1
    omega
  · refine List.ext_getElem (by rw [loseK_length, hlen]) fun k h1 h2 => ?_
    rw [loseK_length] at h1
    rw [← fileAt_get, ← fileAt_get h2, loseK_at _ _ _ k h1]
    have hs := hsz k h1
    generalize hy : fileAt (loseK xs ls xs.length) k = y at hs
    obtain ⟨y0, y1, y2⟩ := y
    simp only [] at hs
    have hN : loseN ⟨y0, y1, y2⟩ (leftAt [] k) = y2 := by unfold loseN leftAt; simp only [List.length_nil]; rw [if_neg (by omega)]; omega
    unfold loseF
    rw [hN]
    simp only []
    rw [show y2.toNat = y1.size by omega, extract_allK]
/-- Each file's name is as it was, its text is a beginning of what it was, and what was kept is a beginning of it. -/
theorem lose_file {xs : List FileR} {ls : List Int} (h : diskB xs = true) {k : Nat} (hk : k < xs.length) :
    ∃ m n : Nat, (fileAt xs k).f2 = (m : Int) ∧ m ≤ n ∧ n ≤ (fileAt xs k).f1.size ∧ fileAt (loseK xs ls xs.length) k = ⟨(fileAt xs k).f0, (fileAt xs k).f1.extract 0 n, (n : Int)⟩ := by
  have hf := diskB_file h hk
  have hn := loseN_le (n := leftAt ls k) hf.2
  refine ⟨(fileAt xs k).f2.toNat, (loseN (fileAt xs k) (leftAt ls k)).toNat, by omega, by omega, by omega, ?_⟩
  rw [loseK_at xs ls _ k hk]
  unfold loseF
  congr 1
  omega
/-! Disks, plain: what putting a file in its place is, by the place at which the walk stops. Plain lemmas. No condition. -/
theorem box_far {w : World} {b q i : Nat} {X : Array Value} {T : TypeId} (h : Box w b X T) (hp : b ≠ q) (v : Value) : Box (w.setCell ⟨q, i, none⟩ v) b X T := h.other (p := ⟨q, i, none⟩) hp v
theorem less_gt {nm : ByteArray} {y : FileR} (h : lessB nm y.f0 = true) : gtF nm y = true := by
  unfold gtF
  have h1 : lessB y.f0 nm = false := by
    cases hc : lessB y.f0 nm
    · rfl
    · have := bless_trans h hc
      rw [bless_irr] at this
      cases this
  have h2 : (y.f0.toList == nm.toList) = false := by
    rw [beq_eq_false_iff_ne]
    intro e
    unfold lessB at h
    rw [e, bless_irr] at h
    cases h
  rw [h1, h2]
  rfl
theorem not_lt_of_gt {nm : ByteArray} {y : FileR} (h : gtF nm y = true) : ltF nm y = false := by
  cases hc : ltF nm y
  · rfl
  · rw [gtF_not_lt hc] at h; cases h
theorem filter_parts {p : FileR → Bool} {A B : List FileR} (hA : ∀ x ∈ A, p x = true) (hB : ∀ x ∈ B, p x = false) : (A ++ B).filter p = A := by
  rw [List.filter_append, List.filter_eq_self.2 hA, List.filter_eq_nil_iff.2 (fun x hx => by rw [hB x hx]; simp), List.append_nil]
theorem filter_parts' {p : FileR → Bool} {A B : List FileR} (hA : ∀ x ∈ A, p x = false) (hB : ∀ x ∈ B, p x = true) : (A ++ B).filter p = B := by
  rw [List.filter_append, List.filter_eq_nil_iff.2 (fun x hx => by rw [hA x hx]; simp), List.filter_eq_self.2 hB, List.nil_append]
theorem take_lt {xs : List FileR} {nm : ByteArray} {k : Nat} (hk : k ≤ xs.length) (h : ∀ j, j < k → lessB (fileAt xs j).f0 nm = true) : ∀ x ∈ xs.take k, ltF nm x = true := by
  intro x hx
  obtain ⟨j, hj, rfl⟩ := List.mem_iff_getElem.1 hx
  rw [List.length_take] at hj
  have := h j (by omega)
  rw [fileAt_get (by omega)] at this
  rw [List.getElem_take]
  exact this
theorem putF_end {xs : List FileR} {f : FileR} (h : ∀ j, j < xs.length → lessB (fileAt xs j).f0 f.f0 = true) : putF xs f = insL xs xs.length f := by
  have h1 := take_lt (Nat.le_refl _) h
  rw [List.take_length] at h1
  unfold putF insL
  rw [List.filter_eq_self.2 h1, List.filter_eq_nil_iff.2 (fun x hx => by rw [gtF_not_lt (h1 x hx)]; simp), List.take_length, List.drop_length]
theorem putF_mid {xs : List FileR} {f : FileR} {k : Nat} (hs : Sorted xs) (hk : k < xs.length) (h : ∀ j, j < k → lessB (fileAt xs j).f0 f.f0 = true) (h1 : lessB (fileAt xs k).f0 f.f0 = false) (h2 : ¬ (fileAt xs k).f0 = f.f0) : putF xs f = insL xs k f := by
  have hA := take_lt (by omega) h
  have hx : gtF f.f0 (fileAt xs k) = true := less_gt (bless_tri h1 (fun e => h2 (WideShapes.bytes_inj (by rw [← Lib.toList_data, ← Lib.toList_data]; exact e))))
  have hB : ∀ y ∈ xs.drop k, gtF f.f0 y = true := by
    intro y hy
    obtain ⟨j, hj, rfl⟩ := List.mem_iff_getElem.1 hy
    rw [List.length_drop] at hj
    rw [List.getElem_drop]
    rcases Nat.eq_zero_or_pos j with rfl | h0
    · rw [fileAt_get hk] at hx; exact hx
    · have := (List.pairwise_iff_getElem.1 hs) k (k + j) hk (by omega) (by omega)
      rw [fileAt_get hk] at hx
      exact less_gt (bless_trans (gtF_less hx) this)
  have e : xs = xs.take k ++ xs.drop k := (List.take_append_drop k xs).symm
  unfold putF insL
  conv => lhs; rw [e]
  rw [filter_parts hA (fun y hy => not_lt_of_gt (hB y hy)), filter_parts' (fun x hx => gtF_not_lt (hA x hx)) hB]
theorem putF_same {xs : List FileR} {f : FileR} {k : Nat} (hs : Sorted xs) (hk : k < xs.length) (h : ∀ j, j < k → lessB (fileAt xs j).f0 f.f0 = true) (h2 : (fileAt xs k).f0 = f.f0) : putF xs f = xs.set k f := by
  have hA := take_lt (by omega) h
  have hx1 : ltF f.f0 (fileAt xs k) = false := by unfold ltF lessB; rw [h2]; exact bless_irr _
  have hx2 : gtF f.f0 (fileAt xs k) = false := by unfold gtF; rw [h2]; simp
  have hB : ∀ y ∈ xs.drop (k + 1), gtF f.f0 y = true := by
    intro y hy
    obtain ⟨j, hj, rfl⟩ := List.mem_iff_getElem.1 hy
    rw [List.length_drop] at hj
    rw [List.getElem_drop]
    have := (List.pairwise_iff_getElem.1 hs) k (k + 1 + j) hk (by omega) (by omega)
    rw [fileAt_get hk] at h2
    rw [h2] at this
    exact less_gt this
  rw [fileAt_get hk] at hx1 hx2
  have e : xs = xs.take k ++ (xs[k] :: xs.drop (k + 1)) := by rw [List.getElem_cons_drop, List.take_append_drop]
  rw [List.set_eq_take_append_cons_drop, if_pos hk]
  unfold putF
  conv => lhs; rw [e]
  rw [List.filter_append, List.filter_append, List.filter_cons, List.filter_cons, hx1, hx2]
  simp only [Bool.false_eq_true, if_false]
  have e1 : (xs.drop (k + 1)).filter (ltF f.f0) = [] := List.filter_eq_nil_iff.2 (fun y hy => by rw [not_lt_of_gt (hB y hy)]; simp)
  have e2 : (xs.take k).filter (gtF f.f0) = [] := List.filter_eq_nil_iff.2 (fun x hx => by rw [gtF_not_lt (hA x hx)]; simp)
  rw [List.filter_eq_self.2 hA, e1, e2, List.filter_eq_self.2 hB]
  simp
theorem set_cells (xs : List FileR) (k : Nat) (f : FileR) (hk : k < xs.length) : (xs.set k f).flatMap FileR.cells = (((xs.flatMap FileR.cells).set (k * 3) (.string f.f0)).set (k * 3 + 1) (.string f.f1)).set (k * 3 + 2) (.int .i64 f.f2) := by
  rw [List.set_eq_take_append_cons_drop, if_pos hk, List.flatMap_append, List.flatMap_cons, (file_takes xs k).1, (file_takes xs (k + 1)).2]
  have hl := file_len xs
  generalize xs.flatMap FileR.cells = C at hl
  refine List.ext_getElem? fun j => ?_
  simp only [List.getElem?_append, List.getElem?_set, List.getElem?_take, List.getElem?_drop, List.length_take, List.length_set, FileR.cells]
  have hmin : min (k * 3) C.length = k * 3 := by omega
  rw [hmin]
  by_cases h1 : j < k * 3
  · simp only [h1, if_true]
    rw [if_neg (by omega), if_neg (by omega), if_neg (by omega)]
  · simp only [h1, if_false]
    rcases (show j = k * 3 ∨ j = k * 3 + 1 ∨ j = k * 3 + 2 ∨ k * 3 + 3 ≤ j by omega) with rfl | rfl | rfl | h2
    · simp [show k * 3 < C.length by omega]
    · simp [show k * 3 + 1 < C.length by omega]
    · simp [show k * 3 + 2 < C.length by omega]
    · rw [if_neg (by simp; omega), if_neg (by omega), if_neg (by omega), if_neg (by omega)]
      congr 1
      simp
      omega
end Go.Proofs.Ytjgghiniajmfjaa
