/- The pairs of a taking, plain; a bag's rows told. No condition. -/
import Derived.Test.YtmdgdnkllclpcaaGreatBgp
import Derived.Test.YtmdgdnkllclpcaaGreatNIntSV
import Derived.Test.YtmdgdnkllclpcaaGreatNfl
import Derived.Test.YtmdgdnkllclpcaaGreatGSta2
namespace Go.Proofs.YtmdgdnkllclpcaaGreat
open Go.RowKit
set_option linter.unusedVariables false
set_option linter.unusedSimpArgs false
theorem nfaT_ends (t : ByteArray) : (nfaT t).f0 = ((nfaT t).f2.length : Int) := by
  unfold nfaT
  split
  · show _ = (((_ :: (List.range _).map _).length : Nat) : Int)
    simp [nfaM, nfaR]
  · rfl
def endB (d : NfaD) (x : WalkR) : Bool := decide (0 ≤ x.f3 ∧ x.f3 < (d.f2.length : Int)) && bAt d.f2 x.f3.toNat
def pinB (a : Int) (d : NfaD) (x : WalkR) : Bool := (x.f0 == a) && endB d x
def pinR (a : Int) (d : NfaD) (l : List WalkR) : List (List Int) := (l.filter (pinB a d)).map fun x => [x.f1, x.f2]
theorem pinR_snoc (a : Int) (d : NfaD) (l : List WalkR) (x : WalkR) : pinR a d (l ++ [x]) = pinR a d l ++ (if pinB a d x = true then [[x.f1, x.f2]] else []) := by
  unfold pinR
  rw [List.filter_append, List.map_append]
  by_cases h : pinB a d x = true
  · simp [h]
  · simp [h]
theorem pinR_len (a : Int) (d : NfaD) (l : List WalkR) : (pinR a d l).length ≤ l.length := by unfold pinR; rw [List.length_map]; exact List.length_filter_le _ _
theorem pinR_two {a : Int} {d : NfaD} {l : List WalkR} : ∀ p ∈ pinR a d l, p.length = 2 := fun p hp => by
  obtain ⟨x, _, rfl⟩ := List.mem_map.1 hp; rfl
def pinL (q : QueryD) (seen : List WalkR) (a : Int) : List (List Int) := if qryD q = true ∧ (0 ≤ a ∧ a < (q.f2.length : Int)) then sdL (pinR a (nAt (autL q) a.toNat) seen) else []
theorem pinL_len (q : QueryD) (seen : List WalkR) (a : Int) : (pinL q seen a).length ≤ seen.length := by
  unfold pinL
  split
  · exact Nat.le_trans (sdL_len _) (pinR_len _ _ _)
  · simp
theorem pinL_two (q : QueryD) (seen : List WalkR) (a : Int) : ∀ p ∈ pinL q seen a, p.length = 2 := by
  unfold pinL
  split
  · intro p hp
    exact pinR_two p ((sdL_mem _ _).1 hp)
  · simp
/-- A bag with its rows, each in a block of its own. -/
structure BagG (w : World) (lo : Nat) (v : Value) (L : List BI) : Prop where
  rd : ItmsR w v L
  blk : ∀ g, v.ownBlock = some g → lo ≤ g
  own : ∀ x ∈ L, x.own lo w
  dif : (L.map BI.g).Nodup
  tms : ∀ x ∈ L, 0 ≤ x.t ∧ x.t ≤ 1000000
theorem BagG.fr {w w' : World} {lo : Nat} {v : Value} {L : List BI} (h : BagG w lo v L) (hf : Fr w w') : BagG w' lo v L := ⟨h.rd.fr hf, h.blk, fun x hx => (h.own x hx).fr hf, h.dif, h.tms⟩
theorem BagG.set {w : World} {lo b i : Nat} {u v : Value} {L : List BI} (h : BagG w lo v L) (hb : b < lo) : BagG (w.setCell ⟨b, i, none⟩ u) lo v L := by
  have hv : v.ownBlock ≠ some b := fun e => by have := h.blk b e; omega
  refine ⟨?_, h.blk, fun x hx => (h.own x hx).keep Span.set2 (by have := (h.own x hx).lt; omega), h.dif, h.tms⟩
  obtain ⟨h1, ao, cap, hv', h2, h3, h4⟩ := h.rd
  refine ⟨h1, ao, cap, hv', h2, h3, fun hn => ?_⟩
  obtain ⟨b', o, e, hb', hc⟩ := h4 hn
  refine ⟨b', o, e, by simpa using hb', fun j hj => ?_⟩
  rw [← hc j hj]
  have : b' ≠ b := fun k => hv (by rw [hv', e, k]; rfl)
  unfold World.cell?
  have hs : Span b (b + 1) w (w.setCell ⟨b, i, none⟩ u) := Span.set2
  rw [hs.block b' hb' (by show b' < b ∨ b + 1 ≤ b'; omega)]
theorem capT_range {t : Int} (h : 0 ≤ t) : 0 ≤ capT t ∧ capT t ≤ 1000000 := by unfold capT; split <;> omega
theorem BagG.put {w w' : World} {lo : Nat} {v v' : Value} {L : List BI} {p : List Int} {n : BI} (h : BagG w lo v L) (hf : Fr w w') (hn : n.t = 1) (hg : w.heap.size ≤ n.g) (hlo : lo ≤ w.heap.size) (hr : ItmsR w' v' (putB p n L)) (hv : ∀ g, v'.ownBlock = some g → w.heap.size ≤ g) (ho : n ∈ putB p n L → n.own w.heap.size w') : BagG w' lo v' (putB p n L) := by
  refine ⟨hr, fun g e => Nat.le_trans hlo (hv g e), fun x hx => ?_, putB_nodup h.dif fun hm => ?_, fun x hx => ?_⟩
  · rcases putB_mem hx with e | ⟨y, hy, e1, e2, e3, _⟩
    · subst e
      exact OwW.mono (ho hx) hlo (Nat.le_refl _)
    · have := (h.own y hy).fr hf
      unfold BI.own BI.v at this ⊢
      rw [e1, e2, e3]
      exact this
  · obtain ⟨y, hy, e⟩ := List.mem_map.1 hm
    have := (h.own y hy).lt
    omega
  · rcases putB_mem hx with e | ⟨y, hy, _, _, _, e⟩
    · subst e; omega
    · have := h.tms y hy
      rcases e with e | e
      · omega
      · rw [e, hn]; exact capT_range (by omega)
/-- The rows of a bag, laid into a row of rows. -/
theorem BagG.told {wE w : World} {lo B : Nat} {v vo : Value} {L : List BI} (h : BagG wE B v L) (hab : Ab B wE w) (hlo : lo ≤ B) (own : OwW w lo w.heap.size 86 1 vo L.length (L.map BI.v)) (hoff : Off B wE.heap.size vo) : IntSSV w lo w.heap.size vo (L.map BI.r) := by
  have hsz := hab.1
  refine ⟨L.map BI.v, by simp, by rw [List.length_map]; exact RdW.of own, fun k u x hu hx => ?_, fun j k u u' hjk hu hu' g hg hg' => ?_⟩
  · rw [List.getElem?_map] at hu hx
    cases hk : L[k]? with
    | none => rw [hk] at hu; cases hu
    | some y =>
      rw [hk] at hu hx
      cases hu; cases hx
      have hy := h.own y (List.mem_of_getElem? hk)
      have hy2 : OwW wE B wE.heap.size 3 1 y.v y.r.length (y.r.map (Value.int .i64)) := hy
      refine ⟨OwW.mono (hy2.ab hab) hlo hsz, fun g hg e => ?_⟩
      have h1 := hy2.2 g hg
      have h2 := hoff g e
      omega
  · rw [List.getElem?_map] at hu hu'
    cases hj : L[j]? with
    | none => rw [hj] at hu; cases hu
    | some y =>
      cases hk : L[k]? with
      | none => rw [hk] at hu'; cases hu'
      | some z =>
        rw [hj] at hu; rw [hk] at hu'
        cases hu; cases hu'
        have e1 : y.g = g := by unfold BI.v at hg; simpa [Value.ownBlock] using hg
        have e2 : z.g = g := by unfold BI.v at hg'; simpa [Value.ownBlock] using hg'
        have hj' : (L.map BI.g)[j]? = some g := by rw [List.getElem?_map, hj]; simp [e1]
        have hk' : (L.map BI.g)[k]? = some g := by rw [List.getElem?_map, hk]; simp [e2]
        obtain ⟨a1, b1⟩ := List.getElem?_eq_some_iff.1 hj'
        obtain ⟨a2, b2⟩ := List.getElem?_eq_some_iff.1 hk'
        rcases Nat.lt_or_gt_of_ne hjk with k1 | k1
        · exact List.pairwise_iff_getElem.1 h.dif j k a1 a2 k1 (by rw [b1, b2])
        · exact List.pairwise_iff_getElem.1 h.dif k j a2 a1 k1 (by rw [b1, b2])
end Go.Proofs.YtmdgdnkllclpcaaGreat
