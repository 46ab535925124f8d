/- Storing a record on a disk, and what the power leaves of it: plain lemmas. No condition. -/
import Derived.Test.YtjgghiniajmfjaaActQ
import Derived.Test.YtjgghiniajmfjaaCut2
import Derived.Test.YtjgghiniajmfjaaEp
import Derived.Test.YtjgghiniajmfjaaFrm
namespace Go.Proofs.Ytjgghiniajmfjaa
open Go.RowKit
set_option linter.unusedVariables false
set_option linter.unusedSimpArgs false
theorem list_ne {a b : ByteArray} (h : a ≠ b) : (a.toList == b.toList) = false := by
  rw [beq_eq_false_iff_ne]
  exact fun e => h (WideShapes.bytes_inj (by rw [← Lib.toList_data, ← Lib.toList_data]; exact e))
theorem take_extract0 (z : ByteArray) (n : Nat) : (z.extract 0 n).data.toList = z.data.toList.take n := by
  rw [ByteArray.data_extract, Array.toList_extract]
  simp
theorem putF_new (xs : List FileR) (f : FileR) : f ∈ putF xs f := by unfold putF; simp
theorem putF_old {xs : List FileR} {f x : FileR} (hx : x ∈ xs) (hn : x.f0 ≠ f.f0) : x ∈ putF xs f := by
  unfold putF
  simp only [List.mem_append, List.mem_filter, List.mem_singleton]
  cases h : ltF f.f0 x
  · refine .inr ⟨hx, ?_⟩
    unfold ltF at h
    unfold gtF
    rw [h, list_ne hn]
    rfl
  · exact .inl (.inl ⟨hx, rfl⟩)
theorem diskB_mem {xs : List FileR} (h : diskB xs = true) {x : FileR} (hx : x ∈ xs) : fileB x = true := by
  obtain ⟨k, hk, rfl⟩ := List.mem_iff_getElem.1 hx
  have := diskB_fileB h hk
  unfold fileK at this
  rw [Bool.and_eq_true, fileAt_get hk] at this
  exact this.1
theorem disk_put {xs : List FileR} {f : FileR} (h : diskB xs = true) (hl : xs.length ≤ 29) (hf : fileB f = true) : diskB (putF xs f) = true :=
  diskB_of (by have := putF_length xs f; omega) (putF_sorted (sorted_of h)) (fun x hx => by
    rcases putF_mem hx with rfl | hx
    · exact hf
    · exact diskB_mem h hx)
theorem fTx_mem {xs : List FileR} (hs : Sorted xs) {x : FileR} {s : ByteArray} (hx : x ∈ xs) (h : x.f0 = s) : fTx xs s = x.f1 := by rw [← h]; exact (fIx_mem hs hx).2
theorem fTx_none {xs : List FileR} {s : ByteArray} (h : ∀ x ∈ xs, x.f0 ≠ s) : fTx xs s = ⟨#[]⟩ :=
  (fTx_no (fIx_miss fun j hj he => h _ (by rw [fileAt_get hj]; exact List.getElem_mem hj) he)).1
theorem fTx_find (xs : List FileR) (s : ByteArray) : (∃ x ∈ xs, x.f0 = s ∧ fTx xs s = x.f1) ∨ ((∀ x ∈ xs, x.f0 ≠ s) ∧ fTx xs s = ⟨#[]⟩) := by
  by_cases h : ∃ x ∈ xs, x.f0 = s
  · rcases fIx_cases xs s with hn | ⟨k, hk, hn⟩
    · obtain ⟨x, hx, hxs⟩ := h
      obtain ⟨j, hj, hjx⟩ := List.mem_iff_getElem.1 hx
      obtain ⟨i, hi, hp, hq⟩ := first_of (p := fun i => i < xs.length ∧ (fileAt xs i).f0 = s) xs.length ⟨j, hj, hj, by rw [fileAt_get hj, hjx]; exact hxs⟩
      have := fIx_hit hp.1 hp.2 (fun m hm he => hq m hm ⟨by omega, he⟩)
      rw [this] at hn
      omega
    · refine .inl ⟨fileAt xs k, by rw [fileAt_get hk]; exact List.getElem_mem hk, (fIx_name hn).2, (fTx_at hn).1⟩
  · have h' : ∀ x ∈ xs, x.f0 ≠ s := fun x hx he => h ⟨x, hx, he⟩
    exact .inr ⟨h', fTx_none h'⟩
theorem fTx_put {xs : List FileR} {f : FileR} (h : Sorted xs) (s : ByteArray) : fTx (putF xs f) s = if s = f.f0 then f.f1 else fTx xs s := by
  by_cases he : s = f.f0
  · rw [if_pos he]; exact fTx_mem (putF_sorted h) (putF_new xs f) he.symm
  · rw [if_neg he]
    rcases fTx_find xs s with ⟨x, hx, hxs, ht⟩ | ⟨hno, ht⟩
    · rw [ht]; exact fTx_mem (putF_sorted h) (putF_old hx (by rw [hxs]; exact he)) hxs
    · rw [ht]
      refine fTx_none fun x hx he2 => ?_
      rcases putF_mem hx with rfl | hx
      · exact he he2.symm
      · exact hno x hx he2
theorem keptB_mem {xs : List FileR} (h : keptB xs = true) {x : FileR} (hx : x ∈ xs) : x.f2 = (x.f1.size : Int) := by
  obtain ⟨k, hk, rfl⟩ := List.mem_iff_getElem.1 hx
  unfold keptB at h
  rw [Bool.and_eq_true, List.all_eq_true] at h
  have := h.2 k (List.mem_range.2 hk)
  unfold fileF at this
  rw [decide_eq_true_eq, fileAt_get hk] at this
  exact this
theorem keptB_of {xs : List FileR} (h : diskB xs = true) (hk : ∀ x ∈ xs, x.f2 = (x.f1.size : Int)) : keptB xs = true := by
  unfold keptB
  rw [h, Bool.true_and]
  refine range_all fun j hj => ?_
  unfold fileF
  rw [decide_eq_true_eq, fileAt_get hj]
  exact hk _ (List.getElem_mem hj)
theorem keptB_disk {xs : List FileR} (h : keptB xs = true) : diskB xs = true := by unfold keptB at h; rw [Bool.and_eq_true] at h; exact h.1
theorem fits_add {nm f : ByteArray} (h : nameB nm = true) : fitsB ⟨1, nm, f, ⟨#[]⟩⟩ = true := by
  have he : (⟨#[]⟩ : ByteArray).toList.isEmpty = true := by rw [Lib.toList_data]; rfl
  unfold fitsB; simp only []; rw [h, he]; simp
theorem fits_keep {nm : ByteArray} (h : nameB nm = true) : fitsB ⟨2, nm, ⟨#[]⟩, ⟨#[]⟩⟩ = true := by
  have he : (⟨#[]⟩ : ByteArray).toList.isEmpty = true := by rw [Lib.toList_data]; rfl
  unfold fitsB; simp only []; rw [h, he]; simp
/-- What stands ahead of and behind a keep. -/
structure Stored (xs : List FileR) (nm f : ByteArray) (zs ys : List FileR) : Prop where
  all : dosGo (storeL nm f) xs 0 = (ys, 2)
  one : dosGo ((storeL nm f).take 1) xs 0 = (zs, 1)
  dz : diskB zs = true
  ky : keptB ys = true
  len : ys.length ≤ xs.length + 2
  txt : ∀ s, fTx ys s = if s = nm then fTx xs nm ++ f else fTx xs s
  mid : ∃ y ∈ zs, y.f0 = nm ∧ y.f1 = fTx xs nm ++ f ∧ y.f2 = ((fTx xs nm).size : Int)
  oth : ∀ s, s ≠ nm → fTx zs s = fTx xs s
theorem store_all {xs : List FileR} {nm f : ByteArray} (hk : keptB xs = true) (hl : xs.length ≤ 20) (hnm : nameB nm = true) (hz : (fTx xs nm).size + f.size ≤ 20000) : ∃ zs ys, Stored xs nm f zs ys := by
  have hd := keptB_disk hk
  have hs := sorted_of hd
  obtain ⟨h0, h1⟩ := addF_is xs ⟨1, nm, f, ⟨#[]⟩⟩
  have h2 : (addF xs ⟨1, nm, f, ⟨#[]⟩⟩).f2 = ((fTx xs nm).size : Int) := by
    rcases fIx_cases xs nm with hn | ⟨k, hk', hn⟩
    · unfold addF; rw [if_pos (by show fIx xs nm < 0; omega), (fTx_no hn).1]; rfl
    · unfold addF actX
      rw [if_neg (by show ¬ fIx xs nm < 0; omega), (fTx_at hn).1]
      show (fileAt xs (fIx xs nm).toNat).f2 = _
      rw [hn, Int.toNat_natCast]
      exact keptB_mem hk (by rw [fileAt_get hk']; exact List.getElem_mem hk')
  have hsz : (addF xs ⟨1, nm, f, ⟨#[]⟩⟩).f1.size = (fTx xs nm).size + f.size := by rw [h1, ByteArray.size_append]
  have o1 : outA xs ⟨1, nm, f, ⟨#[]⟩⟩ = some (putF xs (addF xs ⟨1, nm, f, ⟨#[]⟩⟩)) := by unfold outA; rw [if_pos rfl]
  generalize addF xs ⟨1, nm, f, ⟨#[]⟩⟩ = a at h0 h1 h2 hsz o1
  simp only [] at h0 h1
  have fa : fileB a = true := by
    unfold fileB
    simp only [Bool.and_eq_true, decide_eq_true_eq]
    exact ⟨⟨by rw [h0]; exact hnm, by omega⟩, by omega, by omega⟩
  have dz : diskB (putF xs a) = true := disk_put hd (by omega) fa
  have l1 := putF_length xs a
  obtain ⟨zs, hzs⟩ : ∃ zs, putF xs a = zs := ⟨_, rfl⟩
  have hb1 : doB xs ⟨1, nm, f, ⟨#[]⟩⟩ = true := by rw [doB_some hd (fits_add hnm) o1]; exact dz
  have hl1 : doL xs ⟨1, nm, f, ⟨#[]⟩⟩ = zs := by rw [doL_some hd (fits_add hnm) o1 dz, hzs]
  have ha : a ∈ zs := by rw [← hzs]; exact putF_new xs a
  have ht : ∀ s, fTx zs s = if s = nm then fTx xs nm ++ f else fTx xs s := fun s => by rw [← hzs, fTx_put hs, h0, h1]
  have hm : ∀ x ∈ zs, x = a ∨ x ∈ xs := fun x hx => putF_mem (by rw [hzs]; exact hx)
  rw [hzs] at dz l1
  have sz := sorted_of dz
  have hi := (fIx_mem sz ha).1
  rw [h0] at hi
  have o2 : outA zs ⟨2, nm, ⟨#[]⟩, ⟨#[]⟩⟩ = some (putF zs ⟨nm, a.f1, a.f1.size⟩) := by
    rcases fIx_cases zs nm with hn | ⟨k, hk', hn⟩
    · exfalso; unfold fHas at hi; rw [hn] at hi; exact absurd hi (by decide)
    · have e1 := (fIx_name hn).2
      have e2 := fTx_mem sz ha h0
      rw [(fTx_at hn).1] at e2
      unfold outA actX
      rw [if_neg (by show ¬ (2 : Int) = 1; decide), if_neg (by show ¬ fIx zs nm < 0; omega), if_pos rfl]
      show some (putF zs ⟨(fileAt zs (fIx zs nm).toNat).f0, (fileAt zs (fIx zs nm).toNat).f1, ((fileAt zs (fIx zs nm).toNat).f1.size : Int)⟩) = _
      rw [hn, Int.toNat_natCast, e1, e2]
  have fb : fileB ⟨nm, a.f1, a.f1.size⟩ = true := by
    unfold fileB
    simp only [Bool.and_eq_true, decide_eq_true_eq]
    exact ⟨⟨hnm, by omega⟩, by omega, by omega⟩
  have dy : diskB (putF zs ⟨nm, a.f1, a.f1.size⟩) = true := disk_put dz (by omega) fb
  have hb2 : doB zs ⟨2, nm, ⟨#[]⟩, ⟨#[]⟩⟩ = true := by rw [doB_some dz (fits_keep hnm) o2]; exact dy
  have hl2 := doL_some dz (fits_keep hnm) o2 dy
  refine ⟨zs, putF zs ⟨nm, a.f1, a.f1.size⟩, ⟨?_, ?_, dz, ?_, ?_, ?_, ?_, ?_⟩⟩
  · show dosGo [⟨1, nm, f, ⟨#[]⟩⟩, ⟨2, nm, ⟨#[]⟩, ⟨#[]⟩⟩] xs 0 = _
    rw [dosGo, if_pos hb1, hl1, dosGo, if_pos hb2, hl2, dosGo]
  · show dosGo [⟨1, nm, f, ⟨#[]⟩⟩] xs 0 = _
    rw [dosGo, if_pos hb1, hl1, dosGo]
  · refine keptB_of dy fun x hx => ?_
    rcases putF_mem hx with rfl | hx2
    · rfl
    · by_cases hn : x.f0 = nm
      · have e1 := fTx_mem (putF_sorted sz) hx hn
        have e2 := fTx_mem (putF_sorted sz) (putF_new zs ⟨nm, a.f1, a.f1.size⟩) rfl
        obtain ⟨i, hi, rfl⟩ := List.mem_iff_getElem.1 hx
        obtain ⟨j, hj, hjx⟩ := List.mem_iff_getElem.1 (putF_new zs ⟨nm, a.f1, a.f1.size⟩)
        have hij : i = j := by
          rcases Nat.lt_trichotomy i j with h | h | h
          · have := less_before (putF_sorted sz) hj i h
            rw [fileAt_get hi, fileAt_get hj, hjx, hn] at this
            exact absurd this (by unfold lessB; rw [bless_irr]; decide)
          · exact h
          · have := less_before (putF_sorted sz) hi j h
            rw [fileAt_get hi, fileAt_get hj, hjx, hn] at this
            exact absurd this (by unfold lessB; rw [bless_irr]; decide)
        subst hij
        rw [hjx]
      · rcases hm x hx2 with rfl | hx3
        · exact absurd h0 hn
        · exact keptB_mem hk hx3
  · have := putF_length zs ⟨nm, a.f1, a.f1.size⟩; omega
  · intro s
    rw [fTx_put sz]
    show (if s = nm then a.f1 else fTx zs s) = _
    rw [ht, h1]
    split <;> rfl
  · exact ⟨a, ha, h0, h1, h2⟩
  · intro s hne
    rw [ht, if_neg hne]
/-- What the power leaves of a file. -/
theorem lose_mem {xs : List FileR} {ls : List Int} (h : diskB xs = true) {x : FileR} (hx : x ∈ xs) :
    ∃ m n : Nat, x.f2 = (m : Int) ∧ m ≤ n ∧ n ≤ x.f1.size ∧ fTx (loseK xs ls xs.length) x.f0 = x.f1.extract 0 n := by
  obtain ⟨k, hk, rfl⟩ := List.mem_iff_getElem.1 hx
  obtain ⟨m, n, h1, h2, h3, h4⟩ := lose_file (ls := ls) h hk
  rw [fileAt_get hk] at h1 h3 h4
  refine ⟨m, n, h1, h2, h3, ?_⟩
  have hk2 : k < (loseK xs ls xs.length).length := by rw [loseK_length]; exact hk
  have hm : fileAt (loseK xs ls xs.length) k ∈ loseK xs ls xs.length := by rw [fileAt_get hk2]; exact List.getElem_mem hk2
  rw [h4] at hm
  exact fTx_mem (sorted_of (lose_right h).1) hm rfl
theorem lose_none {xs : List FileR} {ls : List Int} {s : ByteArray} (h : ∀ x ∈ xs, x.f0 ≠ s) : fTx (loseK xs ls xs.length) s = ⟨#[]⟩ := by
  refine fTx_none fun x hx he => ?_
  obtain ⟨k, hk, rfl⟩ := List.mem_iff_getElem.1 hx
  rw [loseK_length] at hk
  have e := loseK_at xs ls xs.length k hk
  rw [fileAt_get (by rw [loseK_length]; exact hk)] at e
  rw [e] at he
  exact h _ (List.getElem_mem hk) (by rw [← fileAt_get hk]; exact he)
/-- What is wholly kept is left as it is. -/
theorem lose_kept {xs : List FileR} {ls : List Int} (h : keptB xs = true) (s : ByteArray) : fTx (loseK xs ls xs.length) s = fTx xs s := by
  rcases fTx_find xs s with ⟨x, hx, hxs, ht⟩ | ⟨hno, ht⟩
  · obtain ⟨m, n, h1, h2, h3, h4⟩ := lose_mem (ls := ls) (keptB_disk h) hx
    have := keptB_mem h hx
    rw [← hxs, h4, show n = x.f1.size by omega, extract_allK, hxs, ht]
  · rw [ht]; exact lose_none hno
/-- An operation in the midst of a store, and what the power leaves: the old text, and a beginning of the record's frame. -/
theorem cut_store {xs zs ys : List FileR} {nm f : ByteArray} {left : List Int} (hk : keptB xs = true) (S : Stored xs nm f zs ys) {k : Nat} (hk2 : k ≤ 2) :
    cutB xs (storeL nm f) k = true ∧ (∃ L, cutD xs (storeL nm f) k left = ⟨L⟩ ∧ diskB L = true ∧ L.length ≤ 30 ∧ ∃ n, n ≤ f.size ∧ fTx L nm = fTx xs nm ++ f.extract 0 n ∧ (k = 2 → n = f.size)) := by
  have e0 : (fTx xs nm ++ f.extract 0 0) = fTx xs nm := by
    apply WideShapes.bytes_inj
    rw [ByteArray.data_append, Array.toList_append, take_extract0]
    simp
  have ok : ∀ {m : Nat} {q : List FileR}, m ≤ 2 → dosGo ((storeL nm f).take m) xs 0 = (q, m) → cutOk xs (storeL nm f) (m : Int) = true ∧ (dosGo ((storeL nm f).take ((m : Int)).toNat) xs 0).1 = q := by
    intro m q hm h
    refine ⟨cutOk_in (d := true) (by show m ≤ 2; exact hm) (by rw [h]; simp), ?_⟩
    rw [Int.toNat_natCast, h]
  have fin : ∀ {q : List FileR}, diskB q = true → loseB ⟨q⟩ = true ∧ loseD ⟨q⟩ left = ⟨loseK q left q.length⟩ := by
    intro q h
    unfold loseB loseD
    simp only []
    rw [h]
    exact ⟨rfl, rfl⟩
  match k, hk2 with
  | 0, _ =>
    obtain ⟨h1, h2⟩ := ok (m := 0) (q := xs) (by omega) rfl
    obtain ⟨h3, h4⟩ := cut_yes (left := left) h1
    rw [h2] at h3 h4
    obtain ⟨h5, h6⟩ := fin (keptB_disk hk)
    refine ⟨by rw [h4]; exact h5, _, by rw [h3]; exact h6, (lose_right (keptB_disk hk)).1, by rw [loseK_length]; exact diskB_len (keptB_disk hk), 0, Nat.zero_le _, ?_, by omega⟩
    rw [lose_kept hk, e0]
  | 1, _ =>
    obtain ⟨h1, h2⟩ := ok (m := 1) (q := zs) (by omega) S.one
    obtain ⟨h3, h4⟩ := cut_yes (left := left) h1
    rw [h2] at h3 h4
    obtain ⟨h5, h6⟩ := fin S.dz
    obtain ⟨y, hy, hy0, hy1, hy2⟩ := S.mid
    obtain ⟨m, n, p1, p2, p3, p4⟩ := lose_mem (ls := left) S.dz hy
    rw [hy0, hy1] at p4
    rw [hy1, ByteArray.size_append] at p3
    refine ⟨by rw [h4]; exact h5, _, by rw [h3]; exact h6, (lose_right S.dz).1, by rw [loseK_length]; exact diskB_len S.dz, n - (fTx xs nm).size, by omega, ?_, by omega⟩
    rw [p4]
    apply WideShapes.bytes_inj
    rw [take_extract0, ByteArray.data_append, ByteArray.data_append, Array.toList_append, Array.toList_append, take_extract0, List.take_append, list_size, List.take_of_length_le (by rw [list_size]; omega)]
  | 2, _ =>
    obtain ⟨h1, h2⟩ := ok (m := 2) (q := ys) (by omega) S.all
    obtain ⟨h3, h4⟩ := cut_yes (left := left) h1
    rw [h2] at h3 h4
    obtain ⟨h5, h6⟩ := fin (keptB_disk S.ky)
    refine ⟨by rw [h4]; exact h5, _, by rw [h3]; exact h6, (lose_right (keptB_disk S.ky)).1, by rw [loseK_length]; exact diskB_len (keptB_disk S.ky), f.size, Nat.le_refl _, ?_, fun _ => rfl⟩
    rw [lose_kept S.ky, S.txt, if_pos rfl, extract_allK]
/-- Whole frames, cut off in the last of them or behind it. -/
theorem whole_snoc : ∀ (ts : List ByteArray) (t : ByteArray) (n : Nat), n ≤ (frL t).length → (whole (ts ++ [t]) ((ts.flatMap frL).length + n)).1 = if n = (frL t).length then ts ++ [t] else ts
  | [], t, n, h => by
    simp only [List.nil_append, List.flatMap_nil, List.length_nil, Nat.zero_add, whole]
    by_cases he : n = (frL t).length
    · rw [if_pos he, if_pos (by omega)]
    · rw [if_neg he, if_neg (by omega)]
  | x :: ts, t, n, h => by
    have ih := whole_snoc ts t n h
    have e : ((x :: ts).flatMap frL).length + n = (frL x).length + ((ts.flatMap frL).length + n) := by simp [List.flatMap_cons]; omega
    rw [e, List.cons_append, whole, if_pos (by omega), Nat.add_sub_cancel_left]
    simp only []
    rw [ih]
    split <;> rfl
/-- What is read of frames one behind another, and a beginning of one more. -/
theorem unf_snoc {s : ByteArray} {ts : List ByteArray} {t : ByteArray} {n : Nat} (hs : ∀ x ∈ ts ++ [t], 1 ≤ x.size ∧ x.size ≤ 900) (hd : s.data.toList = ts.flatMap frL ++ (frL t).take n) (hn : n ≤ (frL t).length) (h2 : s.size ≤ 20000) :
    (unf s).1 = if n = (frL t).length then ts ++ [t] else ts := by
  rw [unf_cut (k := (ts.flatMap frL).length + n) hs ?_ ?_ h2]
  · exact whole_snoc ts t n hn
  · rw [hd, List.flatMap_append, List.take_append, List.take_of_length_le (show (ts.flatMap frL).length ≤ (ts.flatMap frL).length + n by omega), Nat.add_sub_cancel_left]
    simp
  · rw [List.flatMap_append, List.length_append]; simp; omega
theorem unf_all {s : ByteArray} {ts : List ByteArray} (hs : ∀ x ∈ ts, 1 ≤ x.size ∧ x.size ≤ 900) (hd : s.data.toList = ts.flatMap frL) (h2 : s.size ≤ 20000) : (unf s).1 = ts := by
  rw [unf_cut (k := (ts.flatMap frL).length) hs (by rw [List.take_length]; exact hd) (Nat.le_refl _) h2]
  have key : ∀ ts : List ByteArray, (whole ts (ts.flatMap frL).length).1 = ts := by
    intro ts
    induction ts with
    | nil => rfl
    | cons x ts ih =>
      rw [List.flatMap_cons, List.length_append, whole, if_pos (by omega), Nat.add_sub_cancel_left]
      simp only []
      rw [ih]
  exact key ts
end Go.Proofs.Ytjgghiniajmfjaa
