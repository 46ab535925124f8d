/- Rows sorted in place (slices.SortFunc by PairsIn's first function). No condition. -/
import Derived.Test.YtmdgdnkllclpcaaGreatPif
import Derived.Test.YtmdgdnkllclpcaaGreatBgs
import Derived.Test.YtmdgdnkllclpcaaGreatGMof
import Derived.Shelf.SlSortCmp.Whole1
namespace Go.Proofs.YtmdgdnkllclpcaaGreat
open Go.RowKit Go.Shelf Go.Sort
set_option linter.unusedVariables false
set_option linter.unusedSimpArgs false
def cfB {L : List BI} (x y : {x : BI // x ∈ L}) : Int := cmpL x.1.r y.1.r
theorem cfB_lt {L : List BI} (x y : {x : BI // x ∈ L}) : ltOf cfB x y = rowLt x.1.r y.1.r := rfl
theorem swoB (L : List BI) : SWO (ltOf (cfB (L := L))) where
  irrefl x := by rw [cfB_lt]; exact rowLt_irrefl _
  trans x y z h1 h2 := by rw [cfB_lt] at *; exact rowLt_trans h1 h2
  ntrans x y z h1 h2 := by
    rw [cfB_lt] at *
    cases h : rowLt x.1.r z.1.r
    · rfl
    · rcases rowLt_total x.1.r y.1.r with k | k | k
      · rw [k] at h1; cases h1
      · rw [k] at h; rw [h] at h2; cases h2
      · have := rowLt_trans k h; rw [this] at h2; cases h2
section
variable {L : List BI} [Inhabited {x : BI // x ∈ L}] {w : World} {lo B cap m : Nat} {os : Array Obj} {d : Array {x : BI // x ∈ L}}
theorem sort_gr (hd : True) : w.grownBy (sortWorld (fun x : {x : BI // x ∈ L} => x.1.v) w B 0 m d os) (some B) := by
  refine ⟨rfl, rfl, rfl, by simp [sortWorld, grow, putRow, mapBlock, ahead], ?_⟩
  intro k hk hkb
  simp only [sortWorld, grow, putRow, mapBlock, show (Sort.ahead w m).heap = w.heap from rfl]
  rw [Array.getElem?_append_left (by simpa using hk), Array.getElem?_modify, if_neg (fun e => hkb (by rw [e]))]
theorem sort_owns (h : w.ownsRow lo 86 1 (.slice (some ⟨B, 0, none⟩) L.length cap) L.length (L.map BI.v)) (hl : d.size = L.length) : (sortWorld (fun x : {x : BI // x ∈ L} => x.1.v) w B 0 m d os).ownsRow lo 86 1 (.slice (some ⟨B, 0, none⟩) L.length cap) L.length (d.toList.map fun x => x.1.v) := by
  obtain ⟨h1, ⟨h2, _⟩ | ⟨g, cp, cur, hv, hg, hh, hn, hc, hs, ht⟩⟩ := h
  · cases h2
  · cases hv
    have hB : B < w.heap.size := (Array.getElem?_eq_some_iff.1 hh).1
    refine ⟨by simp [hl], .inr ⟨B, cap, putCells (fun x : {x : BI // x ∈ L} => x.1.v) 0 d cur, rfl, hg, ?_, hn, hc, by simp [putCells, hs], ?_⟩⟩
    · simp only [sortWorld, grow, putRow, mapBlock, show (Sort.ahead w m).heap = w.heap from rfl]
      rw [Array.getElem?_append_left (by simpa using hB), Array.getElem?_modify, if_pos rfl, hh]
      rfl
    · refine List.ext_getElem? fun t => ?_
      rw [List.getElem?_take]
      by_cases htl : t < L.length * 1
      · rw [if_pos htl]
        have htc : t < cur.size := by omega
        have htd : t < d.size := by omega
        unfold putCells
        rw [Array.getElem?_toList, Array.getElem?_mapIdx, Array.getElem?_eq_getElem htc]
        simp only [Option.map_some, Nat.sub_zero]
        rw [if_pos ⟨Nat.zero_le _, by omega⟩, List.getElem?_map, Array.getElem?_toList, Array.getElem?_eq_getElem htd, getElem!_pos d t htd]
        rfl
      · rw [if_neg htl, List.getElem?_eq_none (by simp; omega)]
end
theorem IntsR.gr {w w' : World} {x : BI} {row : Option Nat} (h : IntsR w x.v x.r) (hg : w.grownBy w' row) (hne : row ≠ some x.g) (hp : 0 < x.r.length) : IntsR w' x.v x.r := by
  refine RdS.move h (b := x.g) (fun _ => ⟨0, rfl⟩) hg.size fun _ o => ?_
  obtain ⟨_, ao, cap, hv, _, _, h4⟩ := h
  obtain ⟨b, o', e, hb, _⟩ := h4 hp
  unfold BI.v at hv
  cases hv
  cases e
  exact grown_cell hg hb hne o
theorem sortRows_any (lo B cap : Nat) (L : List BI) (w : World) (h : w.ownsRow lo 86 1 (.slice (some ⟨B, 0, none⟩) L.length cap) L.length (L.map BI.v)) (hn : L.length ≤ 1048576) (hne : 0 < L.length) (hr : ∀ x ∈ L, IntsR w x.v x.r ∧ x.g ≠ B ∧ 0 < x.r.length) :
    Calls Tryz.prog 65 #[.slice (some ⟨B, 0, none⟩) L.length cap, .func (.func 66) #[] #[]] w fun e w' => e = .returned (.tuple #[]) ∧ ∃ M : List BI, M.Perm L ∧ M.Pairwise (fun x y => rowLt y.r x.r = false) ∧ w'.ownsRow lo 86 1 (.slice (some ⟨B, 0, none⟩) L.length cap) L.length (M.map BI.v) ∧ w.grownBy w' (some B) := by
  have hB : B < w.heap.size := owns_old h B rfl
  haveI : Inhabited {x : BI // x ∈ L} := ⟨⟨L[0], List.getElem_mem hne⟩⟩
  have eg : ∀ args w, (callFunc 66 args).run Tryz.prog w = .ok (.enter 66 args) w := enters_of Tryz.func66 (by kernel_rfl) rfl
  have hsz : L.attach.toArray.size = L.length := by simp
  have hcon := Any.slices_SortFunc sh_sortRow (fun x : {x : BI // x ∈ L} => x.1.v) (fun x => rfl) cfB (swoB L) 66 #[] B 0 cap L.attach.toArray w eg (fun m os dk _ x y => by
    have hx := hr x.1 x.2
    have hy := hr y.1 y.2
    have g := sort_gr (w := w) (B := B) (m := m) (os := os) (d := dk) trivial
    refine (pairsIn1_any _ _ x.1.r y.1.r _ (IntsR.gr hx.1 g (fun e => hx.2.1 (by cases e; rfl)) hx.2.2) (IntsR.gr hy.1 g (fun e => hy.2.1 (by cases e; rfl)) hy.2.2)).mono fun e w' q => ⟨q.1, 0, #[], by rw [q.2, grow_empty]; rfl⟩) (fun j hj => by
    rw [hsz] at hj
    rw [Nat.zero_add]
    refine ⟨(h.cellAt j (by omega)).trans ?_, h.frozenAt j⟩
    rw [List.getElem?_map, List.getElem?_eq_getElem hj, getElem!_pos _ j (by rw [hsz]; exact hj)]
    simp) hB (by rw [hsz]; omega)
  rw [hsz] at hcon
  refine hcon.mono fun e w' ⟨he, d', n, os, hp, hs, hw⟩ => ⟨he, d'.toList.map Subtype.val, ?_, ?_, ?_, ?_⟩
  · have hd : d'.size = L.length := by have := hp.1; simpa using this
    have hperm : d'.toList.Perm L.attach := by
      have := hp.2.2
      simp only [Array.toList_extract, List.extract_eq_take_drop, List.drop_zero, Nat.sub_zero] at this
      rw [List.take_of_length_le (l := d'.toList) (by simp [hd]), List.take_of_length_le (l := L.attach) (by simp)] at this
      exact this
    have := hperm.map Subtype.val
    rwa [List.attach_map_subtype_val] at this
  · have hd : d'.size = L.length := by have := hp.1; simpa using this
    rw [List.pairwise_map]
    refine List.pairwise_iff_getElem.2 fun i j hi hj hij => ?_
    have hl := hs i j (Nat.zero_le _) hij (by simpa [hd] using hj)
    have hi' : i < d'.size := by simpa using hi
    have hj' : j < d'.size := by simpa using hj
    rw [cfB_lt, getElem!_pos d' j hj', getElem!_pos d' i hi'] at hl
    simpa using hl
  · rw [hw]
    have := sort_owns (m := n) (os := os) (d := d') h (by have := hp.1; simpa using this)
    simpa using this
  · rw [hw]
    exact sort_gr trivial
end Go.Proofs.YtmdgdnkllclpcaaGreat
