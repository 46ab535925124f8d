/- Disks that hold frames of parts and of epochs: what is read of them, what a store or a cut store leaves. Plain lemmas. No condition. -/
import Derived.Test.YtjgghiniajmfjaaFre
import Derived.Test.YtjgghiniajmfjaaRpt2
namespace Go.Proofs.Ytjgghiniajmfjaa
open Go.RowKit
set_option linter.unusedVariables false
set_option linter.unusedSimpArgs false
structure Dk (xs : List FileR) (ps ts : List ByteArray) : Prop where
  ky : keptB xs = true
  tp : (fTx xs partN).data.toList = ps.flatMap frL
  tt : (fTx xs timeN).data.toList = ts.flatMap frL
  hp : ∀ p ∈ ps, 1 ≤ p.size ∧ p.size ≤ 900
  ht : ∀ t ∈ ts, 1 ≤ t.size ∧ t.size ≤ 900
theorem frL_size {t : ByteArray} (h : 1 ≤ t.size ∧ t.size ≤ 900) : (frL t).length ≤ 910 := by
  have := frL_len t
  have := varL_len40 t.size (by omega)
  omega
theorem frames_size : ∀ {ts : List ByteArray}, (∀ t ∈ ts, 1 ≤ t.size ∧ t.size ≤ 900) → (ts.flatMap frL).length ≤ 910 * ts.length
  | [], _ => by simp
  | t :: ts, h => by
    have := frames_size (ts := ts) (fun x hx => h x (by simp [hx]))
    have := frL_size (h t (by simp))
    rw [List.flatMap_cons, List.length_append, List.length_cons]
    omega
theorem frameB_of {t : ByteArray} (h : 1 ≤ t.size ∧ t.size ≤ 900) : frameB t = true := by unfold frameB; rw [decide_eq_true_eq]; omega
theorem frL_of {t : ByteArray} (h : 1 ≤ t.size ∧ t.size ≤ 900) : (frameR t).data.toList = frL t := by rw [frameR_ok (frameB_of h)]; rfl
theorem nm_ne : partN ≠ timeN := by
  intro h
  have := congrArg (fun s : ByteArray => s.data.toList) h
  exact absurd this (by decide)
theorem text_app {a b : ByteArray} : (a ++ b).data.toList = a.data.toList ++ b.data.toList := by simp
theorem text_size {s : ByteArray} {l : List UInt8} (h : s.data.toList = l) : s.size = l.length := by rw [← list_size, h]
theorem Dk.time {xs : List FileR} {ps ts : List ByteArray} {t : ByteArray} (D : Dk xs ps ts) (ht : 1 ≤ t.size ∧ t.size ≤ 900) (hl : xs.length ≤ 20) (hn : ts.length ≤ 20) :
    ∃ zs ys, Stored xs timeN (frameR t) zs ys ∧ Dk ys ps (ts ++ [t]) := by
  have h1 := text_size D.tt
  have h2 := frames_size D.ht
  have h3 := frameR_size (frameB_of ht) ht.2
  obtain ⟨zs, ys, S⟩ := store_all (f := frameR t) D.ky hl time_ok (by omega)
  refine ⟨zs, ys, S, S.ky, ?_, ?_, D.hp, ?_⟩
  · rw [S.txt, if_neg nm_ne]; exact D.tp
  · rw [S.txt, if_pos rfl, text_app, D.tt, frL_of ht, List.flatMap_append]; simp
  · intro x hx
    rcases List.mem_append.1 hx with h | h
    · exact D.ht x h
    · rw [List.mem_singleton.1 h]; exact ht
theorem Dk.part {xs : List FileR} {ps ts : List ByteArray} {t : ByteArray} (D : Dk xs ps ts) (ht : 1 ≤ t.size ∧ t.size ≤ 900) (hl : xs.length ≤ 20) (hn : ps.length ≤ 20) :
    ∃ zs ys, Stored xs partN (frameR t) zs ys ∧ Dk ys (ps ++ [t]) ts := by
  have h1 := text_size D.tp
  have h2 := frames_size D.hp
  have h3 := frameR_size (frameB_of ht) ht.2
  obtain ⟨zs, ys, S⟩ := store_all (f := frameR t) D.ky hl part_ok (by omega)
  refine ⟨zs, ys, S, S.ky, ?_, ?_, ?_, D.ht⟩
  · rw [S.txt, if_pos rfl, text_app, D.tp, frL_of ht, List.flatMap_append]; simp
  · rw [S.txt, if_neg (fun h => nm_ne h.symm)]; exact D.tt
  · intro x hx
    rcases List.mem_append.1 hx with h | h
    · exact D.hp x h
    · rw [List.mem_singleton.1 h]; exact ht
theorem recs_of {xs : List FileR} {nm : ByteArray} {ts : List ByteArray} (h : diskB xs = true) (ht : ∀ t ∈ ts, 1 ≤ t.size ∧ t.size ≤ 900) (hd : (fTx xs nm).data.toList = ts.flatMap frL) : recsOf xs nm = ts := by
  unfold recsOf
  rw [if_pos h, unf_all ht hd (fTx_size h nm)]
theorem recs_snoc {L : List FileR} {nm s f t : ByteArray} {ts : List ByteArray} {n : Nat} (h : diskB L = true) (hs : ∀ x ∈ ts ++ [t], 1 ≤ x.size ∧ x.size ≤ 900) (hd : s.data.toList = ts.flatMap frL) (hf : f.data.toList = frL t) (hn : n ≤ f.size) (hL : fTx L nm = s ++ f.extract 0 n) :
    recsOf L nm = if n = f.size then ts ++ [t] else ts := by
  have e := text_size hf
  unfold recsOf
  rw [if_pos h, unf_snoc (t := t) (n := n) hs (by rw [hL, text_app, hd, take_extract0, hf]) (by omega) (fTx_size h nm), e]
theorem sAt_pre {ts us : List ByteArray} {k : Nat} (h : k < ts.length) : sAt (ts ++ us) k = sAt ts k := by
  simp [sAt, List.getD, List.getElem?_append_left h]
theorem sAt_last (ts : List ByteArray) (t : ByteArray) : sAt (ts ++ [t]) ts.length = t := by simp [sAt, List.getD]
theorem epK_pre {ts us : List ByteArray} : ∀ k, k ≤ ts.length → epK (ts ++ us) k = epK ts k
  | 0, _ => rfl
  | k + 1, h => by rw [epK, epK, sAt_pre (by omega), epK_pre k (by omega)]
theorem paK_pre {ts us : List ByteArray} : ∀ k, k ≤ ts.length → paK (ts ++ us) k = paK ts k
  | 0, _ => rfl
  | k + 1, h => by rw [paK, paK, sAt_pre (by omega), paK_pre k (by omega)]
theorem rv_text {n : Nat} (h : n ≤ 100000) : rv (vText n) 0 = ⟨(n : Int), ((vText n).size : Int), true⟩ := by
  have hd : (vText (n : Int)).data.toList.drop 0 = varL n ++ [] := by rw [List.drop_zero, vText_list]; simp
  have hsz : (vText (n : Int)).size = (varL n).length := by rw [vText_size]; simp
  have e := scVar_fw (by omega) hd
  have hl : (varL n).length ≤ 5 := by
    by_cases h : n ≤ 127
    · rw [varL_small h]; simp
    · by_cases h2 : n / 128 ≤ 127
      · rw [varL_big (by omega), varL_small h2]; simp
      · rw [varL_big (by omega), varL_big (by omega), varL_small (by omega)]; simp
  have hr := rvGo_var0 (vText n) 0 5 n 0 0 1 [] (by rw [Nat.add_zero]; exact hd) hl (.inl rfl) (by omega)
  unfold rv
  rw [if_pos ⟨Int.le_refl _, by omega⟩]
  show rvGo (vText n) 0 0 0 1 5 = _
  rw [hr, hsz]
  simp
theorem epK_snoc (ts : List ByteArray) {n : Int} (h : 1 ≤ n ∧ n ≤ 100000) : epK (ts ++ [vText n]) (ts ++ [vText n]).length = max (epK ts ts.length) n := by
  obtain ⟨m, rfl⟩ : ∃ m : Nat, n = (m : Int) := ⟨n.toNat, by omega⟩
  rw [List.length_append, List.length_singleton]
  exact epK_yes (sAt_last ts _) (epK_pre _ (Nat.le_refl _)) (rv_text (by omega)) h.2
theorem paK_snoc (ts : List ByteArray) {g : GraphD} (h : graphB g = true) : paK (ts ++ [graphS g]) (ts ++ [graphS g]).length = (g, true) := by
  rw [List.length_append, List.length_singleton]
  exact paK_yes (sAt_last ts _) (rdG_fwd h).1 (rdG_fwd h).2
theorem Dk.ep {xs : List FileR} {ps ts : List ByteArray} (D : Dk xs ps ts) : epI xs = epK ts ts.length := by
  unfold epI
  show epK (recsOf xs timeN) (recsOf xs timeN).length = _
  rw [recs_of (keptB_disk D.ky) D.ht D.tt]
theorem Dk.pa {xs : List FileR} {ps ts : List ByteArray} (D : Dk xs ps ts) : paI xs = paK ps ps.length := by
  unfold paI
  rw [recs_of (keptB_disk D.ky) D.hp D.tp]
theorem vText_range {n : Int} (h : 1 ≤ n ∧ n ≤ 100000) : 1 ≤ (vText n).size ∧ (vText n).size ≤ 900 := by
  have h1 := vText_pos n
  have h2 : (vText n).size ≤ 6 := by rw [vText_size]; exact varL_len40 _ (by omega)
  omega
theorem epoA_yes {n : Int} (h : 1 ≤ n ∧ n ≤ 100000) : epoA n = storeL timeN (frameR (vText n)) := by unfold epoA epoB; rw [decide_eq_true h]; rfl
theorem graph_range {g : GraphD} (h : graphB g = true) : 1 ≤ (graphS g).size ∧ (graphS g).size ≤ 900 := by have := graphS_size h; omega
/-- The disk that holds one part. -/
theorem fresh_dk {g : GraphD} (h : graphB g = true) : Dk (freD g).f0 [graphS g] [] ∧ (freD g).f0.length ≤ 2 := by
  have h0 : Dk [] [] [] := ⟨by rfl, by rfl, by rfl, by simp, by simp⟩
  obtain ⟨zs, ys, S, D⟩ := h0.part (graph_range h) (by simp) (by simp)
  have : (freD g).f0 = ys := by unfold freD; rw [if_pos h, partA_yes h, S.all]
  rw [this]
  exact ⟨D, S.len⟩
/-- An epoch kept. -/
theorem Dk.epoch {xs : List FileR} {ps ts : List ByteArray} {n : Int} (D : Dk xs ps ts) (h : 1 ≤ n ∧ n ≤ 100000) (hl : xs.length ≤ 20) (hn : ts.length ≤ 20) :
    ∃ ys, dosGo (epoA n) xs 0 = (ys, 2) ∧ Dk ys ps (ts ++ [vText n]) ∧ ys.length ≤ xs.length + 2 := by
  obtain ⟨zs, ys, S, D2⟩ := D.time (vText_range h) hl hn
  exact ⟨ys, by rw [epoA_yes h]; exact S.all, D2, S.len⟩
theorem Dk.cut_epoch {xs : List FileR} {ps ts : List ByteArray} {n : Int} {left : List Int} (D : Dk xs ps ts) (h : 1 ≤ n ∧ n ≤ 100000) (hl : xs.length ≤ 20) (hn : ts.length ≤ 20) {k : Nat} (hk : k ≤ 2) :
    cutB xs (epoA n) k = true ∧ ∃ L, cutD xs (epoA n) k left = ⟨L⟩ ∧ L.length ≤ 30 ∧ (epI L = epI xs ∨ epI L = max (epI xs) n) ∧ (k = 2 → epI L = max (epI xs) n) := by
  obtain ⟨zs, ys, S, D2⟩ := D.time (vText_range h) hl hn
  obtain ⟨h1, L, h2, h3, h4, m, h5, h6, h7⟩ := cut_store (left := left) D.ky S hk
  rw [epoA_yes h]
  have hr := recs_snoc h3 D2.ht D.tt (frL_of (vText_range h)) h5 h6
  have hE : epI L = if m = (frameR (vText n)).size then max (epI xs) n else epI xs := by
    rw [D.ep]
    unfold epI
    show epK (recsOf L timeN) (recsOf L timeN).length = _
    rw [hr]
    split
    · exact epK_snoc ts h
    · rfl
  refine ⟨h1, L, h2, h4, ?_, ?_⟩
  · rw [hE]; split
    · exact .inr rfl
    · exact .inl rfl
  · intro h8; rw [hE, if_pos (h7 h8)]
theorem Dk.cut_part {xs : List FileR} {ps ts : List ByteArray} {g : GraphD} {left : List Int} (D : Dk xs ps ts) (h : graphB g = true) (hl : xs.length ≤ 20) (hn : ps.length ≤ 20) {k : Nat} (hk : k ≤ 2) :
    cutB xs (partA g) k = true ∧ ∃ L, cutD xs (partA g) k left = ⟨L⟩ ∧ L.length ≤ 30 ∧ (paI L = paI xs ∨ paI L = (g, true)) ∧ (k = 2 → paI L = (g, true)) := by
  obtain ⟨zs, ys, S, D2⟩ := D.part (graph_range h) hl hn
  obtain ⟨h1, L, h2, h3, h4, m, h5, h6, h7⟩ := cut_store (left := left) D.ky S hk
  rw [partA_yes h]
  have hr := recs_snoc h3 D2.hp D.tp (frL_of (graph_range h)) h5 h6
  have hE : paI L = if m = (frameR (graphS g)).size then (g, true) else paI xs := by
    rw [D.pa]
    unfold paI
    rw [hr]
    split
    · exact paK_snoc ps h
    · rfl
  refine ⟨h1, L, h2, h4, ?_, ?_⟩
  · rw [hE]; split
    · exact .inr rfl
    · exact .inl rfl
  · intro h8; rw [hE, if_pos (h7 h8)]
end Go.Proofs.Ytjgghiniajmfjaa
