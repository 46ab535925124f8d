/- TakeWalks of the program: its state; isAtom. No condition. -/
import Derived.Test.YtmdgdnkllclpcaaGreatTks
import Derived.Test.YtmdgdnkllclpcaaGreatMet
namespace Go.Proofs.YtmdgdnkllclpcaaGreat
open Go.RowKit
set_option linter.unusedVariables false
set_option linter.unusedSimpArgs false
theorem Ab.tch {lo : Nat} {a w w' : World} {B : Nat → Prop} (h : Ab lo a w) (ht : Tch B w w') (hb : ∀ i, lo ≤ i → i < a.heap.size → ¬ B i) : Ab lo a w' :=
  ⟨Nat.le_trans h.1 ht.size, fun k hk hs => (ht.block k (Nat.lt_of_lt_of_le hs h.1) (hb k hk hs)).trans (h.2 k hk hs)⟩
theorem Row3.tch {lo : Nat} {w w1 : World} {T O U : List WalkR} {vt vo vu : Value} {b : Nat} (h : Row3 lo w T O U vt vo vu) (ht : Tch (fun i => i = b) w w1) (h1 : vt.ownBlock ≠ some b) (h2 : vo.ownBlock ≠ some b) (h3 : vu.ownBlock ≠ some b) : Row3 lo w1 T O U vt vo vu :=
  ⟨ht.owns h.rt (fun g e q => h1 (q ▸ e)), ht.owns h.ro (fun g e q => h2 (q ▸ e)), ht.owns h.ru (fun g e q => h3 (q ▸ e)), h.ato, h.atu, h.aou⟩
/-- A set kept in the map of block b. -/
def SetIn (w : World) (b N : Nat) (K : List WalkR) : Prop := ∃ S, MapS w b S N ∧ ∀ x, x ∈ S ↔ x ∈ K
theorem SetIn.of {w w' : World} {b N : Nat} {K : List WalkR} (h : SetIn w b N K) (hb : w'.heap[b]? = w.heap[b]?) : SetIn w' b N K := by
  obtain ⟨S, h1, h2⟩ := h
  exact ⟨S, h1.of hb, h2⟩
theorem SetIn.lt {w : World} {b N : Nat} {K : List WalkR} (h : SetIn w b N K) : b < w.heap.size := by obtain ⟨S, h1, _⟩ := h; exact h1.lt
theorem SetIn.fr {w w' : World} {b N : Nat} {K : List WalkR} (h : SetIn w b N K) (hf : Fr w w') : SetIn w' b N K := h.of (hf.out.block b h.lt)
theorem SetIn.tch {B : Nat → Prop} {w w' : World} {b N : Nat} {K : List WalkR} (h : SetIn w b N K) (hf : Tch B w w') (hb : ¬ B b) : SetIn w' b N K := h.of (hf.block b h.lt hb)
theorem SetIn.gr {w w' : World} {b N : Nat} {K : List WalkR} {v : Value} (h : SetIn w b N K) (hg : w.grownBy w' v.ownBlock) (hb : v.ownBlock ≠ some b) : SetIn w' b N K := h.of (hg.block b h.lt (fun e => hb e.symm))
theorem SetIn.mono {w : World} {b N N' : Nat} {K : List WalkR} (h : SetIn w b N K) (hn : N ≤ N') : SetIn w b N' K := by
  obtain ⟨S, h1, h2⟩ := h
  exact ⟨S, h1.mono hn, h2⟩
theorem SetIn.cong {w : World} {b N : Nat} {K K' : List WalkR} (h : SetIn w b N K) (hk : ∀ x, x ∈ K ↔ x ∈ K') : SetIn w b N K' := by
  obtain ⟨S, h1, h2⟩ := h
  exact ⟨S, h1, fun x => (h2 x).trans (hk x)⟩
theorem inW_cong {S K : List WalkR} (h : ∀ x, x ∈ S ↔ x ∈ K) (x : WalkR) : inW S x = inW K x := by
  rw [Bool.eq_iff_iff, inW_iff, inW_iff]
  exact h x
/-- The state of the taking. wa: where the automata stood; H1: where they begin; the two maps lie behind them. -/
structure TkM (w wa wr : World) (H1 N : Nat) (GX QX : Array Value) (TG TQ : TypeId) (K T O U : List WalkR) (vt vo vu : Value) : Prop where
  row : Row3 (w.heap.size + 1 + 1) wr T O U vt vo vu
  ot : Off H1 (wa.heap.size + 1 + 1) vt
  oo : Off H1 (wa.heap.size + 1 + 1) vo
  ou : Off H1 (wa.heap.size + 1 + 1) vu
  ab : Ab H1 wa wr
  kn : SetIn wr wa.heap.size N K
  ma : SetIn wr (wa.heap.size + 1) N U
  bg : Box wr w.heap.size GX TG
  bq : Box wr (w.heap.size + 1) QX TQ
  fr : Fr w wr
  h1 : w.heap.size + 1 + 1 ≤ H1
  ha : H1 ≤ wa.heap.size
section
variable {w wa wr w1 w2 : World} {H1 N : Nat} {GX QX : Array Value} {TG TQ : TypeId} {K T O U R : List WalkR} {vt vo vu v' : Value}
theorem off_ne {lo hi b : Nat} {v : Value} (h : Off lo hi v) (h1 : lo ≤ b) (h2 : b < hi) : v.ownBlock ≠ some b := fun e => by have := h b e; omega
theorem TkM.frs (h : TkM w wa wr H1 N GX QX TG TQ K T O U vt vo vu) (hf : Fr wr w1) : TkM w wa w1 H1 N GX QX TG TQ K T O U vt vo vu :=
  ⟨h.row.fr hf, h.ot, h.oo, h.ou, h.ab.fr hf, h.kn.fr hf, h.ma.fr hf, h.bg.fr hf, h.bq.fr hf, h.fr.trans hf, h.h1, h.ha⟩
theorem TkM.mono (h : TkM w wa wr H1 N GX QX TG TQ K T O U vt vo vu) {N' : Nat} (hn : N ≤ N') : TkM w wa wr H1 N' GX QX TG TQ K T O U vt vo vu :=
  ⟨h.row, h.ot, h.oo, h.ou, h.ab, h.kn.mono hn, h.ma.mono hn, h.bg, h.bq, h.fr, h.h1, h.ha⟩
theorem TkM.size (h : TkM w wa wr H1 N GX QX TG TQ K T O U vt vo vu) : wa.heap.size + 1 + 1 ≤ wr.heap.size := h.ma.lt
/-- A walk is met in the first map. -/
theorem TkM.meetK (h : TkM w wa wr H1 N GX QX TG TQ K T O U vt vo vu) (ht : Tch (fun i => i = wa.heap.size) wr w1) (K' : List WalkR) (hm : SetIn w1 wa.heap.size (N + 1) K') : TkM w wa w1 H1 (N + 1) GX QX TG TQ K' T O U vt vo vu := by
  have := h.ha
  have := h.h1
  exact ⟨h.row.tch ht (off_ne h.ot (by omega) (by omega)) (off_ne h.oo (by omega) (by omega)) (off_ne h.ou (by omega) (by omega)), h.ot, h.oo, h.ou, h.ab.tch ht (fun i _ hi e => by omega), hm, (h.ma.tch ht (by omega)).mono (Nat.le_succ _), ht.box h.bg (by omega), ht.box h.bq (by omega), ht.old h.fr (fun i hi e => by omega), h.h1, h.ha⟩
/-- .. in the second. -/
theorem TkM.meetA (h : TkM w wa wr H1 N GX QX TG TQ K T O U vt vo vu) (ht : Tch (fun i => i = wa.heap.size + 1) wr w1) : Row3 (w.heap.size + 1 + 1) w1 T O U vt vo vu ∧ Ab H1 wa w1 ∧ SetIn w1 wa.heap.size N K ∧ Box w1 w.heap.size GX TG ∧ Box w1 (w.heap.size + 1) QX TQ ∧ Fr w w1 := by
  have := h.ha
  have := h.h1
  exact ⟨h.row.tch ht (off_ne h.ot (by omega) (by omega)) (off_ne h.oo (by omega) (by omega)) (off_ne h.ou (by omega) (by omega)), h.ab.tch ht (fun i _ hi e => by omega), h.kn.tch ht (by omega), ht.box h.bg (by omega), ht.box h.bq (by omega), ht.old h.fr (fun i hi e => by omega)⟩
theorem row_box {b lo : Nat} {X : Array Value} {t : TypeId} {e : TypeId} {sz n : Nat} {xs : List Value} {v : Value} (hb : Box wr b X t) (hv : wr.ownsRow lo e sz v n xs) (hg : wr.grownBy w1 v.ownBlock) (hl : b < lo) : Box w1 b X t := hb.gr hg fun e => by have := (hv.lt _ e).1; omega
theorem TkM.addT (h : TkM w wa wr H1 N GX QX TG TQ K T O U vt vo vu) (ho : WalksO w1 (w.heap.size + 1 + 1) v' (T ++ R)) (hg : wr.grownBy w1 vt.ownBlock) (hat : v'.ownBlock = vt.ownBlock ∨ v'.ownBlock = some wr.heap.size) : TkM w wa w1 H1 N GX QX TG TQ K (T ++ R) O U v' vo vu := by
  have := h.ha
  have := h.h1
  have hz := h.size
  exact ⟨h.row.addT (Fr.refl _) ho hg hat, h.ot.app hat hz, h.oo, h.ou, h.ab.gr2 hg (fun g hg => by have := h.ot g hg; omega), h.kn.gr hg (off_ne h.ot (by omega) (by omega)), h.ma.gr hg (off_ne h.ot (by omega) (by omega)), row_box h.bg h.row.rt hg (by omega), row_box h.bq h.row.rt hg (by omega), Fr.app h.fr hg (RowIn.of_owns h.row.rt) (by omega), h.h1, h.ha⟩
theorem TkM.addO (h : TkM w wa wr H1 N GX QX TG TQ K T O U vt vo vu) (ho : WalksO w1 (w.heap.size + 1 + 1) v' (O ++ R)) (hg : wr.grownBy w1 vo.ownBlock) (hat : v'.ownBlock = vo.ownBlock ∨ v'.ownBlock = some wr.heap.size) : TkM w wa w1 H1 N GX QX TG TQ K T (O ++ R) U vt v' vu := by
  have := h.ha
  have := h.h1
  have hz := h.size
  exact ⟨h.row.addO (Fr.refl _) ho hg hat, h.ot, h.oo.app hat hz, h.ou, h.ab.gr2 hg (fun g hg => by have := h.oo g hg; omega), h.kn.gr hg (off_ne h.oo (by omega) (by omega)), h.ma.gr hg (off_ne h.oo (by omega) (by omega)), row_box h.bg h.row.ro hg (by omega), row_box h.bq h.row.ro hg (by omega), Fr.app h.fr hg (RowIn.of_owns h.row.ro) (by omega), h.h1, h.ha⟩
/-- What is told: the second map has met it before. -/
theorem TkM.addU (h : Row3 (w.heap.size + 1 + 1) wr T O U vt vo vu ∧ Ab H1 wa wr ∧ SetIn wr wa.heap.size N K ∧ Box wr w.heap.size GX TG ∧ Box wr (w.heap.size + 1) QX TQ ∧ Fr w wr) (o1 : Off H1 (wa.heap.size + 1 + 1) vt) (o2 : Off H1 (wa.heap.size + 1 + 1) vo) (o3 : Off H1 (wa.heap.size + 1 + 1) vu) (k1 : w.heap.size + 1 + 1 ≤ H1) (k2 : H1 ≤ wa.heap.size)
    (hm : SetIn wr (wa.heap.size + 1) (N + 1) (U ++ R)) (ho : WalksO w1 (w.heap.size + 1 + 1) v' (U ++ R)) (hg : wr.grownBy w1 vu.ownBlock) (hat : v'.ownBlock = vu.ownBlock ∨ v'.ownBlock = some wr.heap.size) : TkM w wa w1 H1 (N + 1) GX QX TG TQ K T O (U ++ R) vt vo v' := by
  obtain ⟨hr, hab, hk, hbg, hbq, hfr⟩ := h
  have hz : wa.heap.size + 1 + 1 ≤ wr.heap.size := hm.lt
  exact ⟨hr.addU (Fr.refl _) ho hg hat, o1, o2, o3.app hat hz, hab.gr2 hg (fun g hg => by have := o3 g hg; omega), (hk.gr hg (off_ne o3 (by omega) (by omega))).mono (Nat.le_succ _), hm.gr hg (off_ne o3 (by omega) (by omega)), row_box hbg hr.ru hg (by omega), row_box hbq hr.ru hg (by omega), Fr.app hfr hg (RowIn.of_owns hr.ru) (by omega), k1, k2⟩
/-- .. met before. -/
theorem TkM.farA (h : TkM w wa wr H1 N GX QX TG TQ K T O U vt vo vu) (ht : Tch (fun i => i = wa.heap.size + 1) wr w1) (hm : SetIn w1 (wa.heap.size + 1) (N + 1) U) : TkM w wa w1 H1 (N + 1) GX QX TG TQ K T O U vt vo vu := by
  obtain ⟨hr, hab, hk, hbg, hbq, hfr⟩ := h.meetA ht
  exact ⟨hr, h.ot, h.oo, h.ou, hab, hk.mono (Nat.le_succ _), hm, hbg, hbq, hfr, h.h1, h.ha⟩
theorem TkM.setT {L : List WalkR} (h : TkM w wa wr H1 N GX QX TG TQ K T O U vt vo vu) (hf : Fr wr w1) (ho : WalksW w1 wr.heap.size w1.heap.size v' L) : TkM w wa w1 H1 N GX QX TG TQ K L O U v' vo vu := by
  have k := h.frs hf
  have hz := h.size
  have h2 := h.h1
  have h3 := h.ha
  refine ⟨⟨owns_lo ho.1 (by omega), k.row.ro, k.row.ru, fun g e q => ?_, fun g e q => ?_, k.row.aou⟩, Off.above ho.2 (by omega), k.oo, k.ou, k.ab, k.kn, k.ma, k.bg, k.bq, k.fr, k.h1, k.ha⟩
  · have := (ho.2 g e).1; have := (h.row.ro.lt g q).2; omega
  · have := (ho.2 g e).1; have := (h.row.ru.lt g q).2; omega
end
theorem meetS_any (b N : Nat) (K : List WalkR) (x : WalkR) (w : World) (h : SetIn w b N K) (hN : N < 4611686018427387904) :
    Calls Tryz.prog 92 #[.map (some b), .agg #[.int .i64 x.f0, .int .i64 x.f1, .int .i64 x.f2, .int .i64 x.f3]] w fun e w' => e = .returned (.bool (!inW K x)) ∧ SetIn w' b (N + 1) (x :: K) ∧ Tch (fun i => i = b) w w' := by
  obtain ⟨S, h1, h2⟩ := h
  refine (meet_any b S N x.f0 x.f1 x.f2 x.f3 w h1 hN).mono fun e w' q => ⟨?_, ⟨_, q.2.1, fun y => ?_⟩, q.2.2⟩
  · rw [q.1, inW_cong h2]
  · rw [List.mem_cons, List.mem_cons, h2]
theorem isAtom_any (q : Bool) (vo vf : Value) (ax : Option Addr) (n c : Nat) (k : Int) (w : World) (hvo : ∃ a n c, vo = .slice a n c) (hvf : ∃ a n c, vf = .slice a n c) :
    Calls Tryz.prog 63 #[.agg #[.bool q, vo, .slice ax n c, vf], .int .i64 k] w fun e w' => e = .returned (.bool (decide (0 ≤ k ∧ k < (n : Int)))) ∧ Fr w w' := by
  obtain ⟨ao, no, co, rfl⟩ := hvo
  obtain ⟨af, nf, cf, rfl⟩ := hvf
  by_cases h : 0 ≤ k
  · have g1 : decide (0 ≤ k) = true := by simpa using h
    go_enter Tryz.func63, Tryz.ntmps63
    go_wp2_with fail
    all_goals go_ret
    all_goals exact ⟨ret_bool (by first | (rw [Bool.eq_iff_iff]; (simp <;> omega)) | (simp [h] <;> omega) | simp_all), by exact Qf⟩
  · have g1 : decide (0 ≤ k) = false := by simpa using h
    go_enter Tryz.func63, Tryz.ntmps63
    go_wp2_with fail
    go_ret
    exact ⟨ret_bool (by first | (rw [Bool.eq_iff_iff]; (simp <;> omega)) | (simp [h] <;> omega) | simp_all), by exact Qf⟩
end Go.Proofs.YtmdgdnkllclpcaaGreat
