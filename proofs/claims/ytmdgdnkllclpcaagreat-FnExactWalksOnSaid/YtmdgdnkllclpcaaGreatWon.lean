/- WalksOn of both. Conditions: bounds on what comes in. -/
import Derived.Test.YtmdgdnkllclpcaaGreatTkw
import Derived.Deep.RegionHeld3
namespace Go.Proofs.YtmdgdnkllclpcaaGreat
open Go.RowKit
set_option linter.unusedVariables false
set_option linter.unusedSimpArgs false
def wonL (g : GraphD) (q : QueryD) (x : WalkR) : List WalkR := if graphB g = true ∧ qryD q = true then onQ g.f1 (autL q) x else []
theorem won_no {g : GraphD} {q : QueryD} (h : ¬ (graphB g = true ∧ qryD q = true)) {x : WalkR} : wonL g q x = [] := if_neg h
theorem won_len (g : GraphD) (q : QueryD) (x : WalkR) : (wonL g q x).length ≤ 960 := by
  unfold wonL
  split
  · rename_i h
    exact take_few h.1 x
  · simp
def WonPost (w : World) (r : List WalkR) (e : Ending) (w' : World) : Prop := ∃ ao cap, e = .returned (.slice ao r.length cap) ∧ WalksW w' w.heap.size w'.heap.size (.slice ao r.length cap) r ∧ Fr w w'
set_option maxHeartbeats 8000000 in
set_option maxRecDepth 100000 in
theorem specWalksOn_any (gv qv : Value) (g : GraphD) (q : QueryD) (x : WalkR) (w : World) (hg : GraphRd w gv g) (hq : QueryRd w qv q) (hn : q.bulk ≤ 1048576) :
    Calls Tryz.prog 25 #[gv, qv, .agg #[.int .i64 x.f0, .int .i64 x.f1, .int .i64 x.f2, .int .i64 x.f3]] w fun e w' => WonPost w (wonL g q x) e w' := by
  obtain ⟨gb, hgb⟩ : ∃ gb, graphB g = gb := ⟨_, rfl⟩
  obtain ⟨qb, hqb⟩ : ∃ qb, qryD q = qb := ⟨_, rfl⟩
  obtain ⟨x0, x1, x2, x3⟩ := x
  have HG := Lib.hid hg; have HQ := Lib.hid hq
  have CG : Hid (∀ w', Fr w w' → Calls Tryz.prog 81 #[gv] w' fun e w'' => e = .returned (.bool gb) ∧ Fr w' w'') := Lib.hid fun w' h => by obtain ⟨u, rfl, he⟩ := HG.out; rw [← hgb]; exact specGraphOk_any u g.f0 g.f1 w' (he.fr h)
  have CQ : Hid (∀ w', Fr w w' → Calls Tryz.prog 55 #[qv] w' fun e w'' => e = .returned (.bool qb) ∧ Fr w' w'') := Lib.hid fun w' h => by rw [← hqb]; exact specQueryOk_d qv q w' (HQ.out.fr h) hn
  obtain ⟨r, hr⟩ : ∃ r, wonL g q ⟨x0, x1, x2, x3⟩ = r := ⟨_, rfl⟩
  have HNO : Hid (¬ (gb = true ∧ qb = true) → r = []) := Lib.hid fun h => by rw [← hr]; exact won_no (by rw [hgb, hqb]; exact h)
  have HYES : Hid (gb = true ∧ qb = true → onQ g.f1 (autL q) ⟨x0, x1, x2, x3⟩ = r) := Lib.hid fun h => by rw [← hr]; unfold wonL; rw [if_pos (by rw [hgb, hqb]; exact h)]
  rw [hr]
  have CT : Hid (gb = true → ∀ av w', Fr w w' → NfasR w' av (autL q) → Calls Tryz.prog 82 #[gv, av, .agg #[.int .i64 x0, .int .i64 x1, .int .i64 x2, .int .i64 x3]] w' fun e w'' => ∃ ao cap, e = .returned (.slice ao (onQ g.f1 (autL q) ⟨x0, x1, x2, x3⟩).length cap) ∧ WalksW w'' w'.heap.size w''.heap.size (.slice ao (onQ g.f1 (autL q) ⟨x0, x1, x2, x3⟩).length cap) (onQ g.f1 (autL q) ⟨x0, x1, x2, x3⟩) ∧ Fr w' w'') := Lib.hid fun h1 av w' h ha => by
    obtain ⟨u, rfl, he⟩ := HG.out.fr h
    exact l20On_any u av g.f0 g.f1 (autL q) ⟨x0, x1, x2, x3⟩ w' he ha (graphB_out (hgb.trans h1)).2.1 (autL_few q)
  have CA : Hid (qb = true → ∀ w', Fr w w' → Calls Tryz.prog 57 #[qv] w' fun e w'' => ∃ ao cap, e = .returned (.slice ao (autL q).length cap) ∧ NfasW w'' w'.heap.size w''.heap.size (.slice ao (autL q).length cap) (autL q) ∧ Fr w' w'') := Lib.hid fun h2 w' h => l20Nfas_d qv q w' (HQ.out.fr h) hn (hqb.trans h2)
  obtain ⟨ue, rfl, he⟩ := hg; obtain ⟨ae, be, oe, ce, rfl, hce, hme, fe⟩ := he.one; obtain ⟨u1, u2, u3, rfl, r1, r2, r3⟩ := hq; obtain ⟨ao, bo, oo, co, rfl, hco, hmo, ko⟩ := r1.one; obtain ⟨ax, bx, ox, cx, rfl, hcx, hmx, kx⟩ := r2.one; obtain ⟨af, bf, of, cf, rfl, hcf, hmf, kf⟩ := r3.one; clear he fe r1 r2 r3 ko kx kf
  clear hgb hqb HG HQ hn hr
  cases gb
  · have HR := Lib.hid (HNO.out (by simp))
    go_enter Tryz.func25, Tryz.ntmps25
    go_wp2_with fail
    refine (CG.out _ (by exact Qf)).mono ?_
    rintro e w1 ⟨rfl, hf1⟩
    have z1 := hf1.size
    (try simp only [World.size_alloc] at z1)
    have HM := Lib.hid (made_empty (w := w1) (lo := w.heap.size) (b := w1.heap.size) (sz := 4) (e := 57) rfl (by omega))
    go_wp2_with fail
    go_ret
    rw [HR.out]
    exact ⟨_, _, rfl, ⟨HM.out, RowIn.one (by omega) (by simp)⟩, by exact Qf⟩
  cases qb
  · have HR := Lib.hid (HNO.out (by simp))
    go_enter Tryz.func25, Tryz.ntmps25
    go_wp2_with fail
    refine (CG.out _ (by exact Qf)).mono ?_
    rintro e w1 ⟨rfl, hf1⟩
    have B1 : Box w1 (w.heap.size + 1) #[.bool q.f0, .slice ao q.f1.length co, .slice ax q.f2.length cx, .slice af q.f3.length cf] 35 := Box.fr (Box.alloc (Box.new' (by simp)) _) hf1
    have F1 := B1.facts
    have z1 := hf1.size
    (try simp only [World.size_alloc] at z1)
    go_wp2_with fail
    refine (CQ.out _ (by exact Qf)).mono ?_
    rintro e w2 ⟨rfl, hf2⟩
    have z2 := hf2.size
    clear B1 F1
    have HM := Lib.hid (made_empty (w := w2) (lo := w.heap.size) (b := w2.heap.size) (sz := 4) (e := 57) rfl (by omega))
    go_wp2_with fail
    go_ret
    rw [HR.out]
    exact ⟨_, _, rfl, ⟨HM.out, RowIn.one (by omega) (by simp)⟩, by exact Qf⟩
  have HY := Lib.hid (HYES.out ⟨rfl, rfl⟩)
  clear HNO HYES
  go_enter Tryz.func25, Tryz.ntmps25
  go_wp2_with fail
  refine (CG.out _ (by exact Qf)).mono ?_
  rintro e w1 ⟨rfl, hf1⟩
  have A1 : Box w1 w.heap.size #[.int .i64 g.f0, .slice ae g.f1.length ce] 55 := Box.fr (Box.alloc (Box.alloc (Box.new _ _ _) _) _) hf1
  have B1 : Box w1 (w.heap.size + 1) #[.bool q.f0, .slice ao q.f1.length co, .slice ax q.f2.length cx, .slice af q.f3.length cf] 35 := Box.fr (Box.alloc (Box.new' (by simp)) _) hf1
  have C1 : Box w1 (w.heap.size + 1 + 1) #[.int .i64 x0, .int .i64 x1, .int .i64 x2, .int .i64 x3] 57 := Box.fr (Box.new' (by simp)) hf1
  have F1 := B1.facts
  have z1 := hf1.size
  (try simp only [World.size_alloc] at z1)
  go_wp2_with fail
  refine (CQ.out _ (by exact Qf)).mono ?_
  rintro e w2 ⟨rfl, hf2⟩
  have A9 := A1.fr hf2
  have B9 := B1.fr hf2
  have C9 := C1.fr hf2
  have z2 := hf2.size
  clear B1 F1 A1 C1 CG CQ
  go_wp2_with fail
  have hf9 : Fr w w2 := by exact Qf
  obtain ⟨w9, rfl⟩ : ∃ w9 : World, w9 = w2 := ⟨_, rfl⟩
  clear hf1 hf2 z1 z2
  have CA := Lib.hid (CA.out trivial)
  have CT := Lib.hid (CT.out trivial)
  have RA : ∀ w', Sf w9 w' → ∀ o, w'.cell? ⟨w.heap.size, o, none⟩ = (#[.int .i64 g.f0, .slice ae g.f1.length ce] : Array Value)[o]? := fun w' h o => (A9.fr h.out).cell o
  have RB : ∀ w', Sf w9 w' → ∀ o, w'.cell? ⟨w.heap.size + 1, o, none⟩ = (#[.bool q.f0, .slice ao q.f1.length co, .slice ax q.f2.length cx, .slice af q.f3.length cf] : Array Value)[o]? := fun w' h o => (B9.fr h.out).cell o
  have RC : ∀ w', Sf w9 w' → ∀ o, w'.cell? ⟨w.heap.size + 1 + 1, o, none⟩ = (#[.int .i64 x0, .int .i64 x1, .int .i64 x2, .int .i64 x3] : Array Value)[o]? := fun w' h o => (C9.fr h.out).cell o
  go_region_held3 (fun w' => Sf w9 w') ((refine Sf.mk ?_; repeat (first | (with_reducible exact Fr.refl _) | (with_reducible assumption) | (with_reducible refine Fr.drewN ?_ _) | (with_reducible refine Fr.drew ?_) | (with_reducible refine Fr.alloc ?_ _) | (with_reducible refine Fr.setCell ?_ (by exact Qz) _) | (with_reducible refine Fr.trans ?_ (by with_reducible assumption))))) (first | (go_at_call 57; with_reducible refine (CA.out _ (by exact Qf)).mono ?_; rintro e w10 ⟨aa, ca, rfl, hA, hf10⟩) | (go_at_call 82; with_reducible refine (CT.out _ _ (by exact Qf) (NfasW.rd hA)).mono ?_; rintro e w11 ⟨a0, c0, rfl, p0, hf11⟩))
  all_goals
    go_wp2_with fail
    go_ret
    rw [← HY.out]
    have q9 := hf9.size
    have q10 := hf10.size
    have q11 := hf11.size
    (try simp only [World.size_alloc, World.size_drew, World.heap_drewN] at q9 q10 q11)
    exact ⟨_, _, rfl, OwW.mono p0 (by (try simp only [World.size_alloc, World.size_drew, World.heap_drewN]); omega) (by (try simp only [World.size_alloc, World.size_drew, World.heap_drewN]); omega), by exact Qf⟩
set_option maxHeartbeats 8000000 in
set_option maxRecDepth 100000 in
theorem implWalksOn_any (gv qv : Value) (g : GraphD) (q : QueryD) (x : WalkR) (w : World) (hg : GraphRd w gv g) (hq : QueryRd w qv q) (hn : q.bulk ≤ 1048576) :
    Calls Tryz.prog 28 #[gv, qv, .agg #[.int .i64 x.f0, .int .i64 x.f1, .int .i64 x.f2, .int .i64 x.f3]] w fun e w' => WonPost w (wonL g q x) e w' := by
  obtain ⟨gb, hgb⟩ : ∃ gb, graphB g = gb := ⟨_, rfl⟩
  obtain ⟨qb, hqb⟩ : ∃ qb, qryD q = qb := ⟨_, rfl⟩
  obtain ⟨x0, x1, x2, x3⟩ := x
  have HG := Lib.hid hg; have HQ := Lib.hid hq
  have CG : Hid (∀ w', Fr w w' → Calls Tryz.prog 84 #[gv] w' fun e w'' => e = .returned (.bool gb) ∧ Fr w' w'') := Lib.hid fun w' h => by obtain ⟨u, rfl, he⟩ := HG.out; rw [← hgb]; exact implGraphOk_any u g.f0 g.f1 w' (he.fr h)
  have CQ : Hid (∀ w', Fr w w' → Calls Tryz.prog 62 #[qv] w' fun e w'' => e = .returned (.bool qb) ∧ Fr w' w'') := Lib.hid fun w' h => by rw [← hqb]; exact implQueryOk_d qv q w' (HQ.out.fr h) hn
  obtain ⟨r, hr⟩ : ∃ r, wonL g q ⟨x0, x1, x2, x3⟩ = r := ⟨_, rfl⟩
  have HNO : Hid (¬ (gb = true ∧ qb = true) → r = []) := Lib.hid fun h => by rw [← hr]; exact won_no (by rw [hgb, hqb]; exact h)
  have HYES : Hid (gb = true ∧ qb = true → onQ g.f1 (autL q) ⟨x0, x1, x2, x3⟩ = r) := Lib.hid fun h => by rw [← hr]; unfold wonL; rw [if_pos (by rw [hgb, hqb]; exact h)]
  rw [hr]
  have hal : (autL q).length = q.f2.length := autL_len q
  have CW : Hid (gb = true → ∀ (av : Value) (k0 : Nat) w', x0 = (k0 : Int) → Fr w w' → NfasR w' av (autL q) → k0 < (autL q).length → Calls Tryz.prog 85 #[gv, av, .agg #[.int .i64 x0, .int .i64 x1, .int .i64 x2, .int .i64 x3]] w' fun e w'' => ∃ ao cap, e = .returned (.slice ao (onQ g.f1 (autL q) ⟨x0, x1, x2, x3⟩).length cap) ∧ WalksW w'' w'.heap.size w''.heap.size (.slice ao (onQ g.f1 (autL q) ⟨x0, x1, x2, x3⟩).length cap) (onQ g.f1 (autL q) ⟨x0, x1, x2, x3⟩) ∧ Fr w' w'') := Lib.hid fun h1 av k0 w' e h ha hk => by
    subst e
    obtain ⟨u, rfl, he⟩ := HG.out.fr h
    rw [onQ_in hk]
    exact walksOn_any u av g.f0 g.f1 (autL q) k0 x1 x2 x3 w' he ha hk (graphB_out (hgb.trans h1)).2.1 (autL_few q k0 hk)
  have CA : Hid (qb = true → ∀ w', Fr w w' → Calls Tryz.prog 64 #[qv] w' fun e w'' => ∃ ao cap, e = .returned (.slice ao (autL q).length cap) ∧ NfasW w'' w'.heap.size w''.heap.size (.slice ao (autL q).length cap) (autL q) ∧ Fr w' w'') := Lib.hid fun h2 w' h => by
    have hx4 : q.f2.length ≤ 4 := (qryB_atoms (hqb.trans h2)).1.2
    obtain ⟨u1, u2, u3, rfl, r1, r2, r3⟩ := HQ.out.fr h
    obtain ⟨a1, c1, rfl, _⟩ := RdS.val r1
    obtain ⟨a3, c3, rfl, _⟩ := RdS.val r3
    exact automataOf_any q.f0 _ u2 _ q.f2 w' ⟨_, _, _, rfl⟩ ⟨_, _, _, rfl⟩ r2 (by omega) (fun k hk => (atoms_sz hn k hk).2.1)
  obtain ⟨ue, rfl, he⟩ := hg; obtain ⟨ae, be, oe, ce, rfl, hce, hme, fe⟩ := he.one; obtain ⟨u1, u2, u3, rfl, r1, r2, r3⟩ := hq; obtain ⟨ao, bo, oo, co, rfl, hco, hmo, ko⟩ := r1.one; obtain ⟨ax, bx, ox, cx, rfl, hcx, hmx, kx⟩ := r2.one; obtain ⟨af, bf, of, cf, rfl, hcf, hmf, kf⟩ := r3.one; clear he fe r1 r2 r3 ko kx kf
  have CI : Hid (∀ w', Calls Tryz.prog 63 #[.agg #[.bool q.f0, .slice ao q.f1.length co, .slice ax q.f2.length cx, .slice af q.f3.length cf], .int .i64 x0] w' fun e w'' => e = .returned (.bool (decide (0 ≤ x0 ∧ x0 < ((autL q).length : Int)))) ∧ Fr w' w'') := Lib.hid fun w' => by rw [hal]; exact isAtom_any q.f0 _ _ ax q.f2.length cx x0 w' ⟨_, _, _, rfl⟩ ⟨_, _, _, rfl⟩
  clear hgb hqb HG HQ hn hr
  cases gb
  · have HR := Lib.hid (HNO.out (by simp))
    go_enter Tryz.func28, Tryz.ntmps28
    go_wp2_with fail
    refine (CG.out _ (by exact Qf)).mono ?_
    rintro e w1 ⟨rfl, hf1⟩
    go_wp2_with fail
    go_ret
    rw [HR.out]
    exact ⟨none, 0, rfl, OwW.nil _ _ _ _ _, by exact Qf⟩
  cases qb
  · have HR := Lib.hid (HNO.out (by simp))
    go_enter Tryz.func28, Tryz.ntmps28
    go_wp2_with fail
    refine (CG.out _ (by exact Qf)).mono ?_
    rintro e w1 ⟨rfl, hf1⟩
    have B1 : Box w1 (w.heap.size + 1) #[.bool q.f0, .slice ao q.f1.length co, .slice ax q.f2.length cx, .slice af q.f3.length cf] 35 := Box.fr (Box.alloc (Box.new' (by simp)) _) hf1
    have F1 := B1.facts
    have z1 := hf1.size
    (try simp only [World.size_alloc] at z1)
    go_wp2_with fail
    refine (CQ.out _ (by exact Qf)).mono ?_
    rintro e w2 ⟨rfl, hf2⟩
    go_wp2_with fail
    go_ret
    rw [HR.out]
    exact ⟨none, 0, rfl, OwW.nil _ _ _ _ _, by exact Qf⟩
  have HY := Lib.hid (HYES.out ⟨rfl, rfl⟩)
  have CA2 := Lib.hid (CA.out rfl)
  have CW2 := Lib.hid (CW.out rfl)
  clear HNO HYES CA CW
  go_enter Tryz.func28, Tryz.ntmps28
  go_wp2_with fail
  refine (CG.out _ (by exact Qf)).mono ?_
  rintro e w1 ⟨rfl, hf1⟩
  have A1 : Box w1 w.heap.size #[.int .i64 g.f0, .slice ae g.f1.length ce] 55 := Box.fr (Box.alloc (Box.alloc (Box.new _ _ _) _) _) hf1
  have B1 : Box w1 (w.heap.size + 1) #[.bool q.f0, .slice ao q.f1.length co, .slice ax q.f2.length cx, .slice af q.f3.length cf] 35 := Box.fr (Box.alloc (Box.new' (by simp)) _) hf1
  have C1 : Box w1 (w.heap.size + 1 + 1) #[.int .i64 x0, .int .i64 x1, .int .i64 x2, .int .i64 x3] 57 := Box.fr (Box.new' (by simp)) hf1
  have F1 := B1.facts
  have z1 := hf1.size
  (try simp only [World.size_alloc] at z1)
  go_wp2_with fail
  refine (CQ.out _ (by exact Qf)).mono ?_
  rintro e w2 ⟨rfl, hf2⟩
  have A2 := A1.fr hf2
  have B2 := B1.fr hf2
  have C2 := C1.fr hf2
  have z2 := hf2.size
  clear B1 F1 A1 C1 CG CQ
  have F2 := B2.facts
  have G2 := C2.facts
  go_wp2_with fail
  refine (CI.out _).mono ?_
  rintro e w3 ⟨rfl, hf3⟩
  have A9 := A2.fr hf3
  have B9 := B2.fr hf3
  have C9 := C2.fr hf3
  have z3 := hf3.size
  clear B2 A2 C2 F2 G2 CI
  obtain ⟨ia, hia⟩ : ∃ ia, decide (0 ≤ x0 ∧ x0 < ((autL q).length : Int)) = ia := ⟨_, rfl⟩
  rw [hia]
  have hf9 : Fr w w3 := by exact Qf
  cases ia
  · have HR : Hid (r = []) := Lib.hid (by rw [← HY.out]; exact onQ_no (x := ⟨x0, x1, x2, x3⟩) hia)
    clear hia
    go_wp2_with fail
    go_ret
    rw [HR.out]
    exact ⟨none, 0, rfl, OwW.nil _ _ _ _ _, by exact Qf⟩
  obtain ⟨hx0, hx1⟩ := of_decide_eq_true hia
  obtain ⟨k0, hk0⟩ := Int.eq_ofNat_of_zero_le hx0
  have CT : Hid (∀ (av : Value) w', Fr w w' → NfasR w' av (autL q) → Calls Tryz.prog 85 #[.agg #[.int .i64 g.f0, .slice ae g.f1.length ce], av, .agg #[.int .i64 x0, .int .i64 x1, .int .i64 x2, .int .i64 x3]] w' fun e w'' => ∃ ao cap, e = .returned (.slice ao (onQ g.f1 (autL q) ⟨x0, x1, x2, x3⟩).length cap) ∧ WalksW w'' w'.heap.size w''.heap.size (.slice ao (onQ g.f1 (autL q) ⟨x0, x1, x2, x3⟩).length cap) (onQ g.f1 (autL q) ⟨x0, x1, x2, x3⟩) ∧ Fr w' w'') := Lib.hid fun av w' h ha => CW2.out av k0 w' hk0 h ha (by omega)
  clear hia hx0 hx1 hk0 CW2 hal
  go_wp2_with fail
  obtain ⟨w9, rfl⟩ : ∃ w9 : World, w9 = w3 := ⟨_, rfl⟩
  clear hf1 hf2 hf3 z1 z2 z3
  have RA : ∀ w', Sf w9 w' → ∀ o, w'.cell? ⟨w.heap.size, o, none⟩ = (#[.int .i64 g.f0, .slice ae g.f1.length ce] : Array Value)[o]? := fun w' h o => (A9.fr h.out).cell o
  have RB : ∀ w', Sf w9 w' → ∀ o, w'.cell? ⟨w.heap.size + 1, o, none⟩ = (#[.bool q.f0, .slice ao q.f1.length co, .slice ax q.f2.length cx, .slice af q.f3.length cf] : Array Value)[o]? := fun w' h o => (B9.fr h.out).cell o
  have RC : ∀ w', Sf w9 w' → ∀ o, w'.cell? ⟨w.heap.size + 1 + 1, o, none⟩ = (#[.int .i64 x0, .int .i64 x1, .int .i64 x2, .int .i64 x3] : Array Value)[o]? := fun w' h o => (C9.fr h.out).cell o
  go_region_held3 (fun w' => Sf w9 w') ((refine Sf.mk ?_; repeat (first | (with_reducible exact Fr.refl _) | (with_reducible assumption) | (with_reducible refine Fr.drewN ?_ _) | (with_reducible refine Fr.drew ?_) | (with_reducible refine Fr.alloc ?_ _) | (with_reducible refine Fr.setCell ?_ (by exact Qz) _) | (with_reducible refine Fr.trans ?_ (by with_reducible assumption))))) (first | (go_at_call 64; with_reducible refine (CA2.out _ (by exact Qf)).mono ?_; rintro e w10 ⟨aa, ca, rfl, hA, hf10⟩) | (go_at_call 85; with_reducible refine (CT.out _ _ (by exact Qf) (NfasW.rd hA)).mono ?_; rintro e w11 ⟨a0, c0, rfl, p0, hf11⟩))
  all_goals
    go_wp2_with fail
    go_ret
    rw [← HY.out]
    have q9 := hf9.size
    have q10 := hf10.size
    have q11 := hf11.size
    (try simp only [World.size_alloc, World.size_drew, World.heap_drewN] at q9 q10 q11)
    exact ⟨_, _, rfl, OwW.mono p0 (by (try simp only [World.size_alloc, World.size_drew, World.heap_drewN]); omega) (by (try simp only [World.size_alloc, World.size_drew, World.heap_drewN]); omega), by exact Qf⟩
end Go.Proofs.YtmdgdnkllclpcaaGreat
