/- TakeWalks of both. Conditions: bounds on what comes in. -/
import Derived.Test.YtmdgdnkllclpcaaGreatTkn
import Derived.Deep.RegionHeld3
namespace Go.Proofs.YtmdgdnkllclpcaaGreat
open Go.RowKit
set_option linter.unusedVariables false
set_option linter.unusedSimpArgs false
def takeQ (g : GraphD) (q : QueryD) (k n : Int) (seen list : List WalkR) : List WalkR × List WalkR := if graphB g = true ∧ qryD q = true then tkF (ownW k n) (onQ g.f1 (autL q)) ((potW list).length * 961 + list.length) list seen [] else (seen, [])
theorem autL_at (q : QueryD) {j : Nat} (h : j < (autL q).length) : nAt (autL q) j = nfaT (atomAt q.f2 j).f1 := by
  unfold autL
  exact autK_at q.f2 (by rwa [autL_len] at h)
theorem autL_few (q : QueryD) : ∀ j, j < (autL q).length → (nAt (autL q) j).f1.length ≤ 262144 := fun j hj => by
  rw [autL_at q hj]
  exact nfaT_len _
theorem mem_onQ {es : List EdgeR} {q : QueryD} {x y : WalkR} (h : y ∈ onQ es (autL q) x) : ∃ e ∈ es, ∃ c : EdgeR, (0 ≤ c.f2 ∧ c.f2 < 24) ∧ e.f0 = x.f2 ∧ y = ⟨x.f0, x.f1, e.f2, c.f2⟩ := by
  unfold onQ at h
  split at h
  · rename_i hx
    have hj : x.f0.toNat < (autL q).length := by omega
    rw [autL_at q hj] at h
    unfold onL at h
    obtain ⟨e, he, h⟩ := List.mem_flatMap.1 h
    unfold arcsOn at h
    split at h
    · rename_i hm
      obtain ⟨c, hc, h⟩ := List.mem_flatMap.1 h
      unfold arcOn at h
      split at h
      · rw [List.mem_singleton] at h
        have := (nfaT_arcs _).2 c hc
        exact ⟨e, he, c, by omega, hm, h⟩
      · cases h
    · cases h
  · cases h
theorem take_on {g : GraphD} {q : QueryD} (hgb : graphB g = true) (list : List WalkR) : ∀ x ∈ potW list, ∀ y ∈ onQ g.f1 (autL q) x, y ∈ potW list := fun x hx y hy => by
  obtain ⟨e, he, c, hc, _, rfl⟩ := mem_onQ hy
  obtain ⟨n, hn, hn0, hn1, hin⟩ := graph_nat hgb
  obtain ⟨i, hi, rfl⟩ := List.getElem_of_mem he
  have := (hin i hi).2
  rw [← edgeAt_get hi] at this
  exact mem_potW hx rfl rfl (by simp only []; omega) hc
theorem take_few {g : GraphD} {q : QueryD} (hgb : graphB g = true) (x : WalkR) : (onQ g.f1 (autL q) x).length ≤ 960 := by
  unfold onQ
  split
  · rename_i hx
    have hj : x.f0.toNat < (autL q).length := by omega
    rw [autL_at q hj]
    exact onL_few (graphB_out hgb).2.1 (nfaT_arcs _).1 (nfaT_arcs _).2 x
  · simp
theorem take_tk {g : GraphD} {q : QueryD} (hgb : graphB g = true) (hqb : qryD q = true) (k n : Int) (seen list : List WalkR) : Tk (ownW k n) (onQ g.f1 (autL q)) list seen [] (takeQ g q k n seen list) := by
  unfold takeQ
  rw [if_pos ⟨hgb, hqb⟩]
  have := tk_ends (own := ownW k n) (on := onQ g.f1 (autL q)) (pot := potW list) (seen := seen) (B := 960) (n0 := list.length) (take_on hgb list) (fun x _ => take_few hgb x) ((potW list).length * 961 + list.length) list 0 seen [] (TkI.start list fun x hx => List.mem_append.2 (.inl hx)) (by simp)
  rwa [List.drop_zero] at this
theorem take_bnd (g : GraphD) (q : QueryD) (k n : Int) (seen list : List WalkR) : (takeQ g q k n seen list).1.length ≤ seen.length + list.length * 289 ∧ (takeQ g q k n seen list).2.length ≤ list.length * 289 := by
  by_cases h : graphB g = true ∧ qryD q = true
  · have h1 := take_tk h.1 h.2 k n seen list
    have h2 := Tk.bnd (pot := potW list) (seen := seen) (B := 960) (n0 := list.length) (take_on h.1 list) (fun x _ => take_few h.1 x) h1 (todo := list) (i := 0) rfl (TkI.start list fun x hx => List.mem_append.2 (.inl hx))
    have := potW_len list
    omega
  · unfold takeQ
    rw [if_neg h]
    simp
theorem take_no {g : GraphD} {q : QueryD} (h : ¬ (graphB g = true ∧ qryD q = true)) (k n : Int) (seen list : List WalkR) : takeQ g q k n seen list = (seen, []) := if_neg h
theorem l20Nfas_d (v : Value) (d : QueryD) (w : World) (hv : QueryRd w v d) (hn : d.bulk ≤ 1048576) (hq : qryD d = true) :
    Calls Tryz.prog 57 #[v] w fun e w' => ∃ ao cap, e = .returned (.slice ao (autL d).length cap) ∧ NfasW w' w.heap.size w'.heap.size (.slice ao (autL d).length cap) (autL d) ∧ Fr w w' := by
  obtain ⟨u1, u2, u3, rfl, r1, r2, r3⟩ := hv
  obtain ⟨a1, c1, rfl, _⟩ := RdS.val r1
  obtain ⟨a3, c3, rfl, _⟩ := RdS.val r3
  have h := qryB_atoms hq
  refine l20Nfas_any d.f0 _ u2 _ d.f2 w ⟨_, _, _, rfl⟩ ⟨_, _, _, rfl⟩ r2 (by omega) (fun k hk => (atoms_sz hn k hk).2.1) fun k hk => ?_
  have h2 := h.2
  unfold atK at h2
  rw [List.all_eq_true] at h2
  have h3 := h2 k (List.mem_range.2 hk)
  unfold atomB at h3
  simp only [Bool.and_eq_true] at h3
  exact h3.2.2
set_option maxHeartbeats 8000000 in
set_option maxRecDepth 100000 in
theorem specTakeWalks_any (gv qv sv lv : Value) (g : GraphD) (q : QueryD) (k n : Int) (seen list : List WalkR) (w : World) (hg : GraphRd w gv g) (hq : QueryRd w qv q) (hs : WalksR w sv seen) (hl : WalksR w lv list) (hn : q.bulk ≤ 1048576) (hss : seen.length ≤ 1048576) (hll : list.length ≤ 1048576) :
    Calls Tryz.prog 34 #[gv, qv, .int .i64 k, .int .i64 n, sv, lv] w fun e w' => TkPost w (takeQ g q k n seen list) e w' := by
  obtain ⟨gb, hgb⟩ : ∃ gb, graphB g = gb := ⟨_, rfl⟩
  obtain ⟨qb, hqb⟩ : ∃ qb, qryD q = qb := ⟨_, rfl⟩
  obtain ⟨i0, hi, hz0, hz1, hz2⟩ := info_parts info_Walk
  have HG := Lib.hid hg; have HQ := Lib.hid hq; have HS := Lib.hid hs; have HL := Lib.hid hl
  have CG : Hid (∀ w', Fr w w' → Calls Tryz.prog 81 #[gv] w' fun e w'' => e = .returned (.bool gb) ∧ Fr w' w'') := Lib.hid fun w' h => by obtain ⟨u, rfl, he⟩ := HG.out; rw [← hgb]; exact specGraphOk_any u g.f0 g.f1 w' (he.fr h)
  have CQ : Hid (∀ w', Fr w w' → Calls Tryz.prog 55 #[qv] w' fun e w'' => e = .returned (.bool qb) ∧ Fr w' w'') := Lib.hid fun w' h => by rw [← hqb]; exact specQueryOk_d qv q w' (HQ.out.fr h) hn
  obtain ⟨r, hr⟩ : ∃ r, takeQ g q k n seen list = r := ⟨_, rfl⟩
  have HNO : Hid (¬ (gb = true ∧ qb = true) → r = (seen, [])) := Lib.hid fun h => by rw [← hr]; exact take_no (by rw [hgb, hqb]; exact h) k n seen list
  have CT : Hid (gb = true → qb = true → ∀ av w', Fr w w' → NfasR w' av (autL q) → Calls Tryz.prog 90 #[gv, av, .int .i64 k, .int .i64 n, sv, lv] w' fun e w'' => ∃ a0 c0 a1 c1 l0 h0 l1 h1, e = .returned (.tuple #[.slice a0 r.1.length c0, .slice a1 r.2.length c1]) ∧ WalksW w'' l0 h0 (.slice a0 r.1.length c0) r.1 ∧ WalksW w'' l1 h1 (.slice a1 r.2.length c1) r.2 ∧ (w'.heap.size ≤ l0 ∧ l0 ≤ h0 ∧ h0 ≤ w''.heap.size ∧ w'.heap.size ≤ l1 ∧ l1 ≤ h1 ∧ h1 ≤ w''.heap.size ∧ (h0 ≤ l1 ∨ h1 ≤ l0)) ∧ Fr w' w'') := Lib.hid fun h1 h2 av w' h ha => by
    obtain ⟨u, rfl, he⟩ := HG.out.fr h
    rw [h1] at hgb; rw [h2] at hqb
    rw [← hr]
    exact l20Take_any u av sv lv g.f0 k n g.f1 (autL q) seen list _ w' he ha (HS.out.fr h) (HL.out.fr h) (graphB_out hgb).2.1 (autL_few q) (take_on hgb list) (fun x _ => take_few hgb x) hss hll (take_tk hgb hqb k n seen list)
  have CA : Hid (qb = true → ∀ w', Fr w w' → Calls Tryz.prog 57 #[qv] w' fun e w'' => ∃ ao cap, e = .returned (.slice ao (autL q).length cap) ∧ NfasW w'' w'.heap.size w''.heap.size (.slice ao (autL q).length cap) (autL q) ∧ Fr w' w'') := Lib.hid fun h2 w' h => l20Nfas_d qv q w' (HQ.out.fr h) hn (hqb.trans h2)
  rw [hr]
  obtain ⟨ue, rfl, he⟩ := hg; obtain ⟨ae, be, oe, ce, rfl, hce, hme, fe⟩ := he.one; obtain ⟨u1, u2, u3, rfl, r1, r2, r3⟩ := hq; obtain ⟨ao, bo, oo, co, rfl, hco, hmo, ko⟩ := r1.one; obtain ⟨ax, bx, ox, cx, rfl, hcx, hmx, kx⟩ := r2.one; obtain ⟨af, bf, of, cf, rfl, hcf, hmf, kf⟩ := r3.one; clear he fe r1 r2 r3 ko kx kf
  obtain ⟨asv, csv, rfl, hasv⟩ := RdS.val hs
  obtain ⟨al, cl, rfl, hal⟩ := RdS.val hl
  clear hs hl hasv hal hgb hqb HG HQ hn hr
  cases gb
  · have HR := Lib.hid (HNO.out (by simp))
    go_enter Tryz.func34, Tryz.ntmps34
    go_wp2_with fail
    refine (CG.out _ (by exact Qf)).mono ?_
    rintro e w1 ⟨rfl, hf1⟩
    have z1 := hf1.size
    (try simp only [World.size_alloc] at z1)
    go_wp2_with (at_builtin; refine wpList_append_first rfl _ _ 37 rfl w1.heap.size 57 i0 (.agg #[.int .i64 0, .int .i64 0, .int .i64 0, .int .i64 0]) 4 32 Tryz.underlying37 hi hz0 hz1 hz2 rfl (by decide) (.slice (some ⟨w1.heap.size, 0, none⟩) 0 0) rfl (made_empty (by simp) (by exact Qz)) _ seen.length (seen.flatMap WalkR.cells) rfl (HS.out.fr (by exact Qf)) (walk_oneCells _) (by unfold maxLen; omega) (by omega) (by exact Qz) ?_; intro a8 c8 w8 hown8 hgrow8 hat8; have hf8 : Fr w w8 := Fr.app (by exact Qf) hgrow8 (RowIn.one (lo := w1.heap.size) (hi := w1.heap.size + 1) (Nat.le_refl _) (by omega)) (by omega); have z8 := hgrow8.size; (try simp only [World.size_alloc] at z8))
    go_ret2
    rw [HR.out]
    have hmt := made_empty (w := w8) (lo := w.heap.size) (b := w8.heap.size) (sz := 4) (e := 57) rfl (by omega)
    exact TkPost.mk' (w := w) (r := (seen, [])) (owns_lo (hown8.alloc _) (by omega)) hmt (fun g q1 q2 => by have := (hown8.lt g q1).2; have e : w8.heap.size = g := (by simpa [Value.ownBlock] using q2); omega) (by exact Qf)
  cases qb
  · have HR := Lib.hid (HNO.out (by simp))
    go_enter Tryz.func34, Tryz.ntmps34
    go_wp2_with fail
    refine (CG.out _ (by exact Qf)).mono ?_
    rintro e w1 ⟨rfl, hf1⟩
    have B1 : Box w1 (w.heap.size + 1) #[.bool q.f0, .slice ao q.f1.length co, .slice ax q.f2.length cx, .slice af q.f3.length cf] 35 := Box.fr (Box.new' (by simp)) hf1
    have F1 := B1.facts
    have z1 := hf1.size
    (try simp only [World.size_alloc] at z1)
    go_wp2_with fail
    refine (CQ.out _ (by exact Qf)).mono ?_
    rintro e w2 ⟨rfl, hf2⟩
    have z2 := hf2.size
    clear B1 F1
    go_wp2_with (at_builtin; refine wpList_append_first rfl _ _ 37 rfl w2.heap.size 57 i0 (.agg #[.int .i64 0, .int .i64 0, .int .i64 0, .int .i64 0]) 4 32 Tryz.underlying37 hi hz0 hz1 hz2 rfl (by decide) (.slice (some ⟨w2.heap.size, 0, none⟩) 0 0) rfl (made_empty (by simp) (by exact Qz)) _ seen.length (seen.flatMap WalkR.cells) rfl (HS.out.fr (by exact Qf)) (walk_oneCells _) (by unfold maxLen; omega) (by omega) (by exact Qz) ?_; intro a8 c8 w8 hown8 hgrow8 hat8; have hf8 : Fr w w8 := Fr.app (by exact Qf) hgrow8 (RowIn.one (lo := w2.heap.size) (hi := w2.heap.size + 1) (Nat.le_refl _) (by omega)) (by omega); have z8 := hgrow8.size; (try simp only [World.size_alloc] at z8))
    go_ret2
    rw [HR.out]
    have hmt := made_empty (w := w8) (lo := w.heap.size) (b := w8.heap.size) (sz := 4) (e := 57) rfl (by omega)
    exact TkPost.mk' (w := w) (r := (seen, [])) (owns_lo (hown8.alloc _) (by omega)) hmt (fun g q1 q2 => by have := (hown8.lt g q1).2; have e : w8.heap.size = g := (by simpa [Value.ownBlock] using q2); omega) (by exact Qf)
  clear HNO
  go_enter Tryz.func34, Tryz.ntmps34
  go_wp2_with fail
  refine (CG.out _ (by exact Qf)).mono ?_
  rintro e w1 ⟨rfl, hf1⟩
  have A1 : Box w1 w.heap.size #[.int .i64 g.f0, .slice ae g.f1.length ce] 55 := Box.fr (Box.alloc (Box.new _ _ _) _) hf1
  have B1 : Box w1 (w.heap.size + 1) #[.bool q.f0, .slice ao q.f1.length co, .slice ax q.f2.length cx, .slice af q.f3.length cf] 35 := Box.fr (Box.new' (by simp)) hf1
  have F1 := B1.facts
  have z1 := hf1.size
  (try simp only [World.size_alloc] at z1)
  go_wp2_with fail
  refine (CQ.out _ (by exact Qf)).mono ?_
  rintro e w2 ⟨rfl, hf2⟩
  have A2 := A1.fr hf2
  have B2 := B1.fr hf2
  have z2 := hf2.size
  clear B1 F1 A1 CG CQ
  go_wp2_with fail
  have hf9 : Fr w w2 := by exact Qf
  obtain ⟨w9, rfl⟩ : ∃ w9 : World, w9 = w2 := ⟨_, rfl⟩
  have A9 := A2
  have B9 := B2
  clear A2 B2 hf1 hf2 z1 z2
  have CA := Lib.hid (CA.out trivial)
  have CT := Lib.hid (CT.out trivial trivial)
  have RA : ∀ w', Sf w9 w' → ∀ o, w'.cell? ⟨w.heap.size, o, none⟩ = (#[.int .i64 g.f0, .slice ae g.f1.length ce] : Array Value)[o]? := fun w' h o => (A9.fr h.out).cell o
  have RB : ∀ w', Sf w9 w' → ∀ o, w'.cell? ⟨w.heap.size + 1, o, none⟩ = (#[.bool q.f0, .slice ao q.f1.length co, .slice ax q.f2.length cx, .slice af q.f3.length cf] : Array Value)[o]? := fun w' h o => (B9.fr h.out).cell o
  go_region_held3 (fun w' => Sf w9 w') ((refine Sf.mk ?_; repeat (first | (with_reducible exact Fr.refl _) | (with_reducible assumption) | (with_reducible refine Fr.drewN ?_ _) | (with_reducible refine Fr.drew ?_) | (with_reducible refine Fr.alloc ?_ _) | (with_reducible refine Fr.setCell ?_ (by exact Qz) _) | (with_reducible refine Fr.trans ?_ (by with_reducible assumption))))) (first | (go_at_call 57; with_reducible refine (CA.out _ (by exact Qf)).mono ?_; rintro e w10 ⟨aa, ca, rfl, hA, hf10⟩) | (go_at_call 90; with_reducible refine (CT.out _ _ (by exact Qf) (NfasW.rd hA)).mono ?_; rintro e w11 ⟨a0, c0, a1, c1, l0, k0, l1, k1, rfl, p0, p1, hord, hf11⟩))
  all_goals
    go_wp2_with fail
    go_ret2
    exact ⟨a0, c0, a1, c1, l0, k0, l1, k1, rfl, p0, p1, (by have q9 := hf9.size; have q10 := hf10.size; have q11 := hf11.size; (try simp only [World.size_alloc, World.size_drew, World.heap_drewN] at q9 q10 q11 hord ⊢); omega), by exact Qf⟩
set_option maxHeartbeats 8000000 in
set_option maxRecDepth 100000 in
theorem implTakeWalks_any (gv qv sv lv : Value) (g : GraphD) (q : QueryD) (k n : Int) (seen list : List WalkR) (w : World) (hg : GraphRd w gv g) (hq : QueryRd w qv q) (hs : WalksR w sv seen) (hl : WalksR w lv list) (hn : q.bulk ≤ 1048576) (hss : seen.length ≤ 1048576) (hll : list.length ≤ 1048576) :
    Calls Tryz.prog 35 #[gv, qv, .int .i64 k, .int .i64 n, sv, lv] w fun e w' => TkPost w (takeQ g q k n seen list) e w' := by
  obtain ⟨gb, hgb⟩ : ∃ gb, graphB g = gb := ⟨_, rfl⟩
  obtain ⟨qb, hqb⟩ : ∃ qb, qryD q = qb := ⟨_, rfl⟩
  by_cases hok : gb = true ∧ qb = true
  · obtain ⟨rfl, rfl⟩ := hok
    exact implTake_ok gv qv sv lv g q k n seen list _ w hg hq hs hl hn hgb hqb (autL_few q) (take_on hgb list) (fun x _ => take_few hgb x) hss hll (take_tk hgb hqb k n seen list)
  have HG := Lib.hid hg; have HQ := Lib.hid hq; have HS := Lib.hid hs; have HL := Lib.hid hl
  have CG : Hid (∀ w', Fr w w' → Calls Tryz.prog 84 #[gv] w' fun e w'' => e = .returned (.bool gb) ∧ Fr w' w'') := Lib.hid fun w' h => by obtain ⟨u, rfl, he⟩ := HG.out; rw [← hgb]; exact implGraphOk_any u g.f0 g.f1 w' (he.fr h)
  have CQ : Hid (∀ w', Fr w w' → Calls Tryz.prog 62 #[qv] w' fun e w'' => e = .returned (.bool qb) ∧ Fr w' w'') := Lib.hid fun w' h => by rw [← hqb]; exact implQueryOk_d qv q w' (HQ.out.fr h) hn
  have HR := Lib.hid (take_no (g := g) (q := q) (by rw [hgb, hqb]; exact hok) k n seen list)
  rw [HR.out]
  obtain ⟨ue, rfl, he⟩ := hg; obtain ⟨ae, be, oe, ce, rfl, hce, hme, fe⟩ := he.one; obtain ⟨u1, u2, u3, rfl, r1, r2, r3⟩ := hq; obtain ⟨ao, bo, oo, co, rfl, hco, hmo, ko⟩ := r1.one; obtain ⟨ax, bx, ox, cx, rfl, hcx, hmx, kx⟩ := r2.one; obtain ⟨af, bf, of, cf, rfl, hcf, hmf, kf⟩ := r3.one; clear he fe r1 r2 r3 ko kx kf
  obtain ⟨asv, csv, rfl, hasv⟩ := RdS.val hs
  obtain ⟨al, cl, rfl, hal⟩ := RdS.val hl
  clear hs hl hasv hal hgb hqb HG HQ hn
  go_enter Tryz.func35, Tryz.ntmps35
  go_wp2_with fail
  refine (cloneWalk_w _ seen _ (HS.out.fr (by exact Qf)) hss).mono ?_
  rintro e w1 ⟨a1, c1, rfl, h1, hf1⟩
  have B1 : Box w1 (w.heap.size + 1) #[.bool q.f0, .slice ao q.f1.length co, .slice ax q.f2.length cx, .slice af q.f3.length cf] 35 := Box.fr (Box.new' (by simp)) hf1
  have A1 : Box w1 w.heap.size #[.int .i64 g.f0, .slice ae g.f1.length ce] 55 := Box.fr (Box.alloc (Box.new _ _ _) _) hf1
  have G1 := A1.facts
  have z1 := hf1.size
  (try simp only [World.size_alloc] at z1)
  have HO1 := Lib.hid h1
  clear h1
  go_wp2_with fail
  refine (CG.out _ (by exact Qf)).mono ?_
  rintro e w2 ⟨rfl, hf2⟩
  have B2 := B1.fr hf2
  have F2 := B2.facts
  have z2 := hf2.size
  have HO2 := Lib.hid (OwW.fr HO1.out hf2)
  clear HO1 G1 A1 B1
  cases gb
  · go_wp2_with fail
    go_ret2
    exact TkPost.mk' (w := w) (r := (seen, [])) (owns_lo HO2.out.1 (by simp; omega)) (World.ownsRow_nil _ _ _ _) (fun g q1 q2 => by cases q2) (by exact Qf)
  cases qb
  · go_wp2_with fail
    refine (CQ.out _ (by exact Qf)).mono ?_
    rintro e w3 ⟨rfl, hf3⟩
    have HO3 := Lib.hid (OwW.fr HO2.out hf3)
    clear HO2 B2 F2
    go_wp2_with fail
    go_ret2
    exact TkPost.mk' (w := w) (r := (seen, [])) (owns_lo HO3.out.1 (by simp; omega)) (World.ownsRow_nil _ _ _ _) (fun g q1 q2 => by cases q2) (by exact Qf)
  exact absurd ⟨rfl, rfl⟩ hok
end Go.Proofs.YtmdgdnkllclpcaaGreat
