/- A bag of the reference as it is put together: rows in blocks of their own. No condition. -/
import Derived.Test.YtmdgdnkllclpcaaGreatSrl
import Derived.Test.YtmdgdnkllclpcaaGreatRwl
import Derived.Test.YtmdgdnkllclpcaaGreatTki
import Derived.Test.YtmdgdnkllclpcaaGreatSpn
namespace Go.Proofs.YtmdgdnkllclpcaaGreat
open Go.RowKit
set_option linter.unusedVariables false
set_option linter.unusedSimpArgs false
structure BI where
  g : Nat
  c : Nat
  r : List Int
  t : Int
instance : Inhabited BI := ⟨⟨0, 0, [], 0⟩⟩
def BI.v (x : BI) : Value := .slice (some ⟨x.g, 0, none⟩) x.r.length x.c
def BI.cells (x : BI) : List Value := [x.v, .int .i64 x.t]
def BI.own (x : BI) (lo : Nat) (w : World) : Prop := OwW w lo w.heap.size 3 1 x.v x.r.length (x.r.map (Value.int .i64))
theorem BI.own.fr {x : BI} {lo : Nat} {w w' : World} (h : x.own lo w) (hf : Fr w w') : x.own lo w' := OwW.mono (OwW.fr h hf) (Nat.le_refl _) hf.size
theorem BI.own.rd {x : BI} {lo : Nat} {w : World} (h : x.own lo w) : IntsR w x.v x.r := OwW.rd h
theorem BI.own.lt {x : BI} {lo : Nat} {w : World} (h : x.own lo w) : lo ≤ x.g ∧ x.g < w.heap.size := h.2 x.g rfl
def capT (t : Int) : Int := if t > 1000000 then 1000000 else t
/-- p put into the bag: n is the item that is laid where p is new. -/
def putB (p : List Int) (n : BI) : List BI → List BI
  | [] => [n]
  | y :: ys => if y.r = p then { y with t := capT (y.t + n.t) } :: ys else if rowLt p y.r = true then n :: y :: ys else y :: putB p n ys
theorem putB_rows {p : List Int} {n : BI} (hn : n.r = p) : ∀ L : List BI, (putB p n L).map BI.r = putL p (L.map BI.r)
  | [] => by simp [putB, putL, hn]
  | y :: ys => by
    rw [putB, List.map_cons, putL]
    by_cases h : y.r = p
    · rw [if_pos h, if_pos h]; rfl
    · rw [if_neg h, if_neg h]
      by_cases h2 : rowLt p y.r = true
      · rw [if_pos h2, if_pos h2, List.map_cons, List.map_cons, hn]
      · rw [if_neg h2, if_neg h2, List.map_cons, putB_rows hn ys]
theorem putB_mem {p : List Int} {n : BI} : ∀ {L : List BI} {x : BI}, x ∈ putB p n L → x = n ∨ ∃ y ∈ L, x.g = y.g ∧ x.c = y.c ∧ x.r = y.r ∧ (x.t = y.t ∨ x.t = capT (y.t + n.t))
  | [], x, h => by simp [putB] at h; exact .inl h
  | y :: ys, x, h => by
    rw [putB] at h
    split at h
    · rcases List.mem_cons.1 h with h | h
      · subst h; exact .inr ⟨y, by simp, rfl, rfl, rfl, .inr rfl⟩
      · exact .inr ⟨x, by simp [h], rfl, rfl, rfl, .inl rfl⟩
    · split at h
      · rcases List.mem_cons.1 h with h | h
        · exact .inl h
        · exact .inr ⟨x, h, rfl, rfl, rfl, .inl rfl⟩
      · rcases List.mem_cons.1 h with h | h
        · subst h; exact .inr ⟨x, by simp, rfl, rfl, rfl, .inl rfl⟩
        · rcases putB_mem h with h | ⟨z, hz, k⟩
          · exact .inl h
          · exact .inr ⟨z, by simp [hz], k⟩
theorem putB_len {p : List Int} {n : BI} : ∀ L : List BI, (putB p n L).length ≤ L.length + 1
  | [] => by simp [putB]
  | y :: ys => by
    rw [putB]
    split
    · simp
    · split
      · simp
      · have := putB_len (p := p) (n := n) ys; simp; omega
theorem putB_nodup {p : List Int} {n : BI} : ∀ {L : List BI}, (L.map BI.g).Nodup → n.g ∉ L.map BI.g → ((putB p n L).map BI.g).Nodup
  | [], _, _ => by simp [putB]
  | y :: ys, h, hn => by
    rw [List.map_cons, List.nodup_cons] at h
    rw [List.map_cons, List.mem_cons, not_or] at hn
    rw [putB]
    split
    · rw [List.map_cons, List.nodup_cons]; exact h
    · split
      · rw [List.map_cons, List.map_cons, List.nodup_cons, List.nodup_cons, List.mem_cons, not_or]; exact ⟨hn, h⟩
      · rw [List.map_cons, List.nodup_cons]
        refine ⟨fun hm => ?_, putB_nodup h.2 hn.2⟩
        obtain ⟨z, hz, e⟩ := List.mem_map.1 hm
        rcases putB_mem hz with k | ⟨z', hz', e', _⟩
        · subst k; exact hn.1 e
        · exact h.1 (List.mem_map.2 ⟨z', hz', by rw [← e', e]⟩)
/-- Neither p nor a greater row is among the first k. -/
def preB (p : List Int) (L : List BI) (k : Nat) : Prop := ∀ n : BI, putB p n L = L.take k ++ putB p n (L.drop k)
theorem preB_0 (p : List Int) (L : List BI) : preB p L 0 := fun n => rfl
def biAt (L : List BI) (k : Nat) : BI := L.getD k default
theorem bi_drop {L : List BI} {k : Nat} (h : k < L.length) : L.drop k = biAt L k :: L.drop (k + 1) := by
  rw [List.drop_eq_getElem_cons h]
  simp [biAt, List.getD, h]
theorem bi_take {L : List BI} {k : Nat} (h : k < L.length) : L.take (k + 1) = L.take k ++ [biAt L k] := by
  rw [List.take_succ_eq_append_getElem h]
  simp [biAt, List.getD, h]
theorem bi_mem {L : List BI} {k : Nat} (h : k < L.length) : biAt L k ∈ L := by
  have : biAt L k = L[k] := by simp [biAt, List.getD, h]
  rw [this]
  exact List.getElem_mem h
theorem preB_next {p : List Int} {L : List BI} {k : Nat} (h : preB p L k) (hk : k < L.length) (h1 : (biAt L k).r ≠ p) (h2 : rowLt p (biAt L k).r = false) : preB p L (k + 1) := fun n => by
  rw [h n, bi_drop hk, putB, if_neg h1, if_neg (by rw [h2]; decide), bi_take hk, List.append_assoc]; rfl
theorem preB_same {p : List Int} {L : List BI} {k : Nat} (h : preB p L k) (hk : k < L.length) (h1 : (biAt L k).r = p) (n : BI) : putB p n L = (L.take k ++ [{ biAt L k with t := capT ((biAt L k).t + n.t) }]) ++ L.drop (k + 1) := by
  rw [h n, bi_drop hk, putB, if_pos h1, List.append_assoc]; rfl
theorem preB_less {p : List Int} {L : List BI} {k : Nat} (h : preB p L k) (hk : k < L.length) (h1 : (biAt L k).r ≠ p) (h2 : rowLt p (biAt L k).r = true) (n : BI) : putB p n L = (L.take k ++ [n]) ++ [biAt L k] ++ L.drop (k + 1) := by
  rw [h n, bi_drop hk, putB, if_neg h1, if_pos h2]; simp
theorem preB_end {p : List Int} {L : List BI} (h : preB p L L.length) (n : BI) : putB p n L = L ++ [n] := by
  rw [h n, List.take_length, List.drop_length]; rfl
/-! ### the bag in the world -/
def ItmsR (w : World) (v : Value) (L : List BI) : Prop := RdS w 2 v L.length (L.flatMap BI.cells)
theorem ItmsR.fr {w w' : World} {v : Value} {L : List BI} (h : ItmsR w v L) (hf : Fr w w') : ItmsR w' v L := RdS.fr h hf
theorem ItmsR.one {w : World} {v : Value} {L : List BI} (h : ItmsR w v L) : ∃ ao b o cap, v = .slice ao L.length cap ∧ L.length ≤ cap ∧ cap ≤ 9223372036854775807 ∧ (0 < L.length → ao = some ⟨b, o, none⟩ ∧ b < w.heap.size ∧ ∀ k, k < L.length → w.cell? ⟨b, o + k * 2, none⟩ = some (biAt L k).v ∧ w.cell? ⟨b, o + k * 2 + 1, none⟩ = some (.int .i64 (biAt L k).t)) := by
  obtain ⟨h1, ao, cap, hv, h2, h3, h4⟩ := h
  have hm : cap ≤ 9223372036854775807 := by unfold maxLen at h3; omega
  rcases Nat.eq_zero_or_pos L.length with h0 | h0
  · exact ⟨ao, 0, 0, cap, hv, h2, hm, fun h => by omega⟩
  · obtain ⟨b, o, e, hb, hc⟩ := h4 h0
    have hfl : ∀ k j, k < L.length → j < 2 → (L.flatMap BI.cells)[k * 2 + j]? = (biAt L k).cells[j]? := fun k j hk hj => by
      rw [List.flatMap_def]
      refine flatten_at (sz := 2) (fun u hu => by obtain ⟨x, _, rfl⟩ := List.mem_map.1 hu; rfl) k _ ?_ j hj
      rw [List.getElem?_map, List.getElem?_eq_getElem hk]
      simp [biAt, List.getD, hk]
    refine ⟨ao, b, o, cap, hv, h2, hm, fun _ => ⟨e, hb, fun k hk => ⟨?_, ?_⟩⟩⟩
    · have := hc (k * 2 + 0) (by omega)
      rw [hfl k 0 hk (by omega)] at this
      simpa [BI.cells] using this
    · have := hc (k * 2 + 1) (by omega)
      rw [hfl k 1 hk (by omega)] at this
      rw [Nat.add_assoc]
      simpa [BI.cells] using this
structure PutSt (w wr : World) (vL : Value) (O : List BI) (vO : Value) : Prop where
  bl : Box wr w.heap.size #[vL] 97
  br : Box wr (w.heap.size + 1) #[.slice none 0 0] 97
  bo : Box wr (w.heap.size + 1 + 1) #[vO] 97
  row : OwW wr (w.heap.size + 3) wr.heap.size 108 2 vO O.length (O.flatMap BI.cells)
  fr : Fr w wr
section
variable {w wr w1 w5 : World} {vL vO v5 : Value} {O : List BI} {x : BI}
theorem PutSt.size (h : PutSt w wr vL O vO) : w.heap.size + 3 ≤ wr.heap.size := by have := h.bo.lt; omega
theorem PutSt.frs (h : PutSt w wr vL O vO) (hf : Fr wr w1) : PutSt w w1 vL O vO := ⟨h.bl.fr hf, h.br.fr hf, h.bo.fr hf, OwW.mono (OwW.fr h.row hf) (Nat.le_refl _) hf.size, h.fr.trans hf⟩
theorem PutSt.set (h : PutSt w wr vL O vO) {b : Nat} (hb : w.heap.size + 3 ≤ b) (hO : vO.ownBlock ≠ some b) (i : Nat) (u : Value) : PutSt w (wr.setCell ⟨b, i, none⟩ u) vL O vO := by
  have hs : Span b (b + 1) wr (wr.setCell ⟨b, i, none⟩ u) := Span.set2
  exact ⟨h.bl.far' (by omega) u, h.br.far' (by omega) u, h.bo.far' (by omega) u, by
    obtain ⟨⟨h1, h2⟩, h3⟩ := h.row
    rcases h2 with h2 | ⟨g, cap, cur, hv, hg, hh, hr⟩
    · exact ⟨⟨h1, .inl h2⟩, fun g e => by have := h3 g e; simpa using this⟩
    · refine ⟨⟨h1, .inr ⟨g, cap, cur, hv, hg, ?_, hr⟩⟩, fun g e => by have := h3 g e; simpa using this⟩
      rw [hs.block g (Array.getElem?_eq_some_iff.1 hh).1 (by
        have : g ≠ b := fun e => hO (by rw [hv]; exact congrArg some e)
        omega)]
      exact hh, by have hz := h.fr; exact Fr.setCell hz (by show w.heap.size ≤ b; omega) u⟩
/-- An item more is laid behind the others. -/
theorem PutSt.box5 (h : PutSt w w1 vL O vO) (hg : w1.grownBy w5 vO.ownBlock) : Box w5 (w.heap.size + 1 + 1) #[vO] 97 := h.bo.gr hg fun e => by have := (h.row.2 _ e).1; omega
theorem PutSt.app (h : PutSt w w1 vL O vO) (hown : w5.ownsRow (w.heap.size + 3) 108 2 v5 (O.length + 1) (O.flatMap BI.cells ++ x.cells)) (hg : w1.grownBy w5 vO.ownBlock) : PutSt w (w5.setCell ⟨w.heap.size + 1 + 1, 0, none⟩ v5) vL (O ++ [x]) v5 := by
  have hw := h.size
  have e1 : (O ++ [x]).length = O.length + 1 := by simp
  have e2 : (O ++ [x]).flatMap BI.cells = O.flatMap BI.cells ++ x.cells := by simp
  have hl := (h.bl.gr hg fun e => by have := (h.row.2 _ e).1; omega)
  have hr := (h.br.gr hg fun e => by have := (h.row.2 _ e).1; omega)
  refine ⟨hl.far' (by omega) _, hr.far' (by omega) _, (h.box5 hg).set_to rfl, ?_, ?_⟩
  · rw [e1, e2]
    have := OwW.set (OwW.of_owns hown) (p := ⟨w.heap.size + 1 + 1, 0, none⟩) (.inl (by show w.heap.size + 1 + 1 < w.heap.size + 3; omega)) v5
    refine OwW.mono this (Nat.le_refl _) (by simp)
  · have hf5 : Fr w w5 := Fr.app h.fr hg h.row.2 (by omega)
    exact Fr.setCell hf5 (by show w.heap.size ≤ w.heap.size + 1 + 1; omega) _
end
end Go.Proofs.YtmdgdnkllclpcaaGreat
