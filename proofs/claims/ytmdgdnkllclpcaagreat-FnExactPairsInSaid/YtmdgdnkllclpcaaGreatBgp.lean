/- l03Put of the reference. Conditions: bounds; no row is counted more than a million times. -/
import Derived.Test.YtmdgdnkllclpcaaGreatBgs
import Derived.Deep.RegionHeld3
import Derived.Deep.RegionLaw
namespace Go.Proofs.YtmdgdnkllclpcaaGreat
open Go.RowKit
set_option linter.unusedVariables false
set_option linter.unusedSimpArgs false
theorem info_Item' : (Tryz.prog.info? 108).map (fun i => (i.zero, i.size, i.bytes)) = some (some (.agg #[.slice none 0 0, .int .i64 0]), 2, 32) := by kernel_rfl
/-- The new item's row lies in a block of its own. -/
def NOwn (n : BI) (lo : Nat) (w : World) (vO : Value) : Prop := n.own lo w ∧ vO.ownBlock ≠ some n.g
theorem NOwn.fr {n : BI} {lo : Nat} {w w' : World} {vO : Value} (h : NOwn n lo w vO) (hf : Fr w w') : NOwn n lo w' vO := ⟨h.1.fr hf, h.2⟩
theorem BI.own.keep {x : BI} {lo b : Nat} {w w' : World} (h : x.own lo w) (s : Span b (b + 1) w w') (hb : x.g ≠ b) : x.own lo w' := by
  unfold BI.own at h ⊢
  obtain ⟨⟨h1, h2⟩, h3⟩ := h
  rcases h2 with h2 | ⟨g, cap, cur, hv, hg, hh, hr⟩
  · cases h2.1
  · have hgx : x.g = g := by unfold BI.v at hv; simp at hv; exact hv.1
    refine ⟨⟨h1, .inr ⟨g, cap, cur, hv, hg, ?_, hr⟩⟩, fun q e => ?_⟩
    · rw [s.block g (Array.getElem?_eq_some_iff.1 hh).1 (by omega)]
      exact hh
    · have := h3 q e; have := s.size; omega
theorem NOwn.set {n : BI} {lo b : Nat} {w : World} {vO : Value} (h : NOwn n lo w vO) (hb : n.g ≠ b) (i : Nat) (u : Value) : NOwn n lo (w.setCell ⟨b, i, none⟩ u) vO := ⟨h.1.keep Span.set2 hb, h.2⟩
theorem NOwn.app {n : BI} {lo H : Nat} {w w' : World} {vO v' : Value} (h : NOwn n lo w vO) (hg : w.grownBy w' vO.ownBlock) (hat : v'.ownBlock = vO.ownBlock ∨ v'.ownBlock = some H) (hH : n.g < H) : NOwn n lo w' v' := by
  refine ⟨?_, fun e => ?_⟩
  · have := OwW.of_owns (owns_gr h.1.1 hg fun g p q => by
      unfold BI.v at q
      have : n.g = g := by simpa [Value.ownBlock] using q
      exact h.2 (this ▸ p))
    exact this
  · rcases hat with k | k
    · rw [k] at e; exact h.2 e
    · rw [k] at e; simp at e; omega
def NSt (p : List Int) (L O : List BI) (k : Nat) (w wr : World) (vO : Value) : Prop := ∃ n : BI, n.r = p ∧ n.t = 1 ∧ w.heap.size + 3 ≤ n.g ∧ O ++ L.drop k = putB p n L ∧ (n ∈ putB p n L → NOwn n (w.heap.size + 3) wr vO)
theorem step_append_first {P : Program} {w : World} {ops : Array Oper} {o : Oper} {a : Act} {K : Act → World → Prop} {Q : Exit → Act → World → Prop} {E : Prop} (hgd : o.guard = none) (s x : Operand) (t : TypeId)
    (ho : o.op = .call { callee := .builtin .append, args := #[s, x], argTypes := #[t, t] })
    (base : Nat) (e : TypeId) (i : TypeInfo) (z : Value) (size bytes : Nat) (ht : P.underlying t = some (.slice e)) (hi : P.info? e = some i) (hz : i.zero = some z)
    (hsize : i.size = size) (hby : i.bytes = bytes) (hzs : z.cells.size = size) (hsz : 0 < size)
    (v : Value) (hs : a.eval s = v) (hown : w.ownsRow base e size v 0 [])
    (vx : Value) (m : Nat) (news : List Value) (hx : a.eval x = vx) (hr : RdS w size vx m news) (h1 : ∀ u ∈ news, u.oneCell' = true)
    (h63 : m ≤ maxLen) (hbytes : m * bytes ≤ 140737488355328) (hbase : base ≤ w.heap.size)
    (h : ∀ ao cap w', w'.ownsRow base e size (.slice ao m cap) m news → w.grownBy w' v.ownBlock → ((Value.slice ao m cap).ownBlock = v.ownBlock ∨ (Value.slice ao m cap).ownBlock = some w.heap.size) → K (a.put o.dst (.slice ao m cap)) w') :
    if Region.wanted o (yielded ops a.tmps) = true then Oper.wp P o a w K Q else E := by
  refine step_append_rd hgd s x t ho base e i z size bytes ht hi hz hsize hby hzs hsz v 0 [] hs hown vx m news hx hr h1 (by omega) (by rw [Nat.zero_add]; exact hbytes) hbase fun ao cap w' q1 q2 q3 => ?_
  simp only [Nat.zero_add, List.nil_append] at q1 q3 ⊢
  exact h ao cap w' q1 q2 q3
theorem owns_some {w : World} {base : Nat} {e : TypeId} {sz m cap : Nat} {ao : Option Addr} {xs : List Value} (h : w.ownsRow base e sz (.slice ao m cap) m xs) (hm : 0 < m) : ∃ g, ao = some ⟨g, 0, none⟩ ∧ base ≤ g ∧ g < w.heap.size := by
  rcases owns_shape h with ⟨_, h0, _⟩ | ⟨g, c, e, h1, h2, _⟩
  · omega
  · cases e; exact ⟨g, rfl, h1, h2⟩
theorem ints_one (l : List Int) : ∀ u ∈ l.map (Value.int .i64), u.oneCell' = true := fun u hu => by obtain ⟨x, _, rfl⟩ := List.mem_map.1 hu; rfl
theorem mem_le_sum : ∀ (l : List Nat) (x : Nat), x ∈ l → x ≤ l.sum
  | [], x, h => by cases h
  | y :: l, x, h => by
    rw [List.sum_cons]
    rcases List.mem_cons.1 h with h | h
    · omega
    · have := mem_le_sum l x h; omega
/-- Where the row is known, no item is laid: any fresh name serves. -/
theorem NSt.same {p : List Int} {L O : List BI} {k : Nat} {w wr : World} {vO : Value} {x : BI} (hpre : preB p L k) (hk : k < L.length) (hx : biAt L k = x) (hr : x.r = p) (hO : O = L.take k) : NSt p L (O ++ [{ x with t := capT (x.t + 1) }]) (k + 1) w wr vO := by
  refine ⟨⟨w.heap.size + 3 + (L.map BI.g).sum + 1, 0, p, 1⟩, rfl, rfl, by show _ ≤ _ + 1; omega, ?_, fun hm => ?_⟩
  · rw [preB_same hpre hk (by rw [hx]; exact hr), hx, hO]
  · have hg : ∀ y ∈ L, y.g ≤ (L.map BI.g).sum := fun y hy => mem_le_sum _ _ (List.mem_map.2 ⟨y, hy, rfl⟩)
    rw [preB_same hpre hk (by rw [hx]; exact hr), hx, List.mem_append, List.mem_append, List.mem_singleton] at hm
    rcases hm with (hm | hm) | hm
    · have := hg _ (List.mem_of_mem_take hm); simp at this; omega
    · have h1 := hg _ (bi_mem hk)
      rw [hx] at h1
      have h2 := congrArg BI.g hm
      simp at h2; omega
    · have := hg _ (List.mem_of_mem_drop hm); simp at this; omega
theorem capT_le {t : Int} (h : ¬ t > 1000000) : capT t = t := if_neg h
theorem ownB_any (a : Option Addr) (n c m d : Nat) : (Value.slice a n c).ownBlock = (Value.slice a m d).ownBlock := by cases a <;> rfl
theorem PutSt.fin {w wr : World} {vL vO : Value} {O : List BI} (h : PutSt w wr vL O vO) (v : Value) : ItmsR (wr.setCell ⟨w.heap.size + 1, 0, none⟩ v) vO O ∧ Fr w (wr.setCell ⟨w.heap.size + 1, 0, none⟩ v) :=
  ⟨OwW.rd (OwW.set h.row (p := ⟨w.heap.size + 1, 0, none⟩) (.inl (by show w.heap.size + 1 < w.heap.size + 3; omega)) v), Fr.setCell h.fr (by show w.heap.size ≤ w.heap.size + 1; omega) v⟩
theorem NOwn.fin {n : BI} {w wr : World} {vO : Value} (h : NOwn n (w.heap.size + 3) wr vO) (hg : w.heap.size + 3 ≤ n.g) (v : Value) : n.own w.heap.size (wr.setCell ⟨w.heap.size + 1, 0, none⟩ v) := by
  have := h.1.keep (Span.set2 (b := w.heap.size + 1) (i := 0) (v := v)) (by omega)
  exact OwW.mono this (by omega) (Nat.le_refl _)
set_option maxHeartbeats 8000000 in
set_option maxRecDepth 100000 in
theorem l03Put_any (vL rv : Value) (L : List BI) (p : List Int) (w : World) (hL : ItmsR w vL L) (hrow : ∀ x ∈ L, IntsR w x.v x.r) (hp : IntsR w rv p) (hpl : p.length ≤ 1048576) (hp0 : 0 < p.length) (hLl : L.length ≤ 2097152) (ht : ∀ x ∈ L, 0 ≤ x.t ∧ x.t ≤ 1000000) :
    Calls Tryz.prog 58 #[.agg #[vL], rv, .int .i64 1] w fun e w' => ∃ ao cap n, e = .returned (.agg #[.slice ao (putB p n L).length cap]) ∧ n.r = p ∧ n.t = 1 ∧ w.heap.size ≤ n.g ∧ ItmsR w' (.slice ao (putB p n L).length cap) (putB p n L) ∧ (∀ g, (Value.slice ao (putB p n L).length cap).ownBlock = some g → w.heap.size ≤ g) ∧ (n ∈ putB p n L → n.own w.heap.size w') ∧ Fr w w' := by
  obtain ⟨i0, hi, hz0, hz1, hz2⟩ := info_parts info_Item'
  obtain ⟨j0, hj, hy0, hy1, hy2⟩ := info_parts info_int
  obtain ⟨aL, bL, oL, cL, rfl, hcL, hmL, kL⟩ := hL.one
  obtain ⟨ap, bp, op, cp, rfl, hcp, hmp, kp⟩ := hp.one
  have KL := Lib.hid kL; have HP := Lib.hid hp; have HROW := Lib.hid hrow; have HT := Lib.hid ht
  clear hL hp kL kp hrow ht
  go_enter Tryz.func58, Tryz.ntmps58
  have H0 : Hid (PutSt w (((w.alloc (.cells #[.slice aL L.length cL] 97)).alloc (.cells #[.slice none 0 0] 97)).alloc (.cells #[.slice none 0 0] 97)) (.slice aL L.length cL) [] (.slice none 0 0)) := Lib.hid ⟨((Box.new _ _ _).alloc _).alloc _, (Box.new' (by simp)).alloc _, Box.new' (by simp), OwW.nil _ _ _ _ _, by exact Qf⟩
  go_wp2_with fail
  go_loopw [8, 9] (fun d i wr => ∃ (D : Bool) (k cO : Nat) (aO : Option Addr) (O : List BI), k ≤ L.length ∧ d = .bool D ∧ i = .int .i64 k ∧ O.length ≤ k + 1 ∧ Hid (PutSt w wr (.slice aL L.length cL) O (.slice aO O.length cO)) ∧ Hid (D = false → O = L.take k ∧ preB p L k) ∧ Hid (D = true → NSt p L O k w wr (.slice aO O.length cO))) (fun _ i _ => L.length - (intOf i).toNat)
  case atStart => exact ⟨false, 0, 0, none, [], Nat.zero_le _, rfl, rfl, by simp, H0, Lib.hid fun _ => ⟨rfl, preB_0 p L⟩, Lib.hid fun h => by cases h⟩
  case round =>
    clear H0
    obtain ⟨D, k, cO, aO, O, hk, rfl, rfl, hol, HS, HF, HN⟩ := hrel
    have FB0 := HS.out.bl.facts
    have FBO := HS.out.bo.facts
    have hzs := HS.out.size
    by_cases hlt : k < L.length
    · obtain ⟨rfl, hbL, kL⟩ := KL.out (by omega)
      obtain ⟨g0, g1⟩ := kL k hlt
      have hxr := HROW.out _ (bi_mem hlt)
      have hxt := HT.out _ (bi_mem hlt)
      have hdr := bi_drop hlt
      obtain ⟨x, hx⟩ : ∃ x, biAt L k = x := ⟨_, rfl⟩
      rw [hx] at g0 g1 hxr hxt hdr
      have hfr := HS.out.fr
      have q0 := (hfr.cell (p := ⟨bL, _, none⟩) hbL).trans g0
      have q1 := (hfr.cell (p := ⟨bL, _, none⟩) hbL).trans g1
      obtain ⟨xg, xc, xr, xt⟩ := x
      have HX := Lib.hid hx
      have HXR := Lib.hid hxr
      have HDR := Lib.hid hdr
      simp only [BI.v] at q0 q1 hxt
      clear kL g0 g1 hx hxr hdr
      have hne : ∀ b, w.heap.size + 3 ≤ b → wr.heap.size ≤ b → (Value.slice aO O.length cO).ownBlock ≠ some b := fun b _ h e => by have := (HS.out.row.2 b e).2; omega
      have HNE := Lib.hid hne
      clear hne
      cases D
      · obtain ⟨hO, hpre⟩ := HF.out rfl
        have HPRE := Lib.hid hpre
        have HOE := Lib.hid hO
        have CS : Hid (∀ w', Fr w w' → Calls Tryz.prog 124 #[.slice (some ⟨xg, 0, none⟩) xr.length xc, .slice ap p.length cp] w' fun e w'' => e = .returned (.bool (decide (xr = p))) ∧ ∃ m, w'' = w'.drewN m) := Lib.hid fun w' h => l03Same_any _ _ xr p w' (HXR.out.fr h) (HP.out.fr h)
        have CL : Hid (∀ w', Fr w w' → Calls Tryz.prog 125 #[.slice ap p.length cp, .slice (some ⟨xg, 0, none⟩) xr.length xc] w' fun e w'' => e = .returned (.bool (rowLt p xr)) ∧ ∃ m, w'' = w'.drewN m) := Lib.hid fun w' h => specRowLess_any _ _ p xr w' (HP.out.fr h) (HXR.out.fr h)
        clear HF HN hO hpre
        go_wp2_with fail
        refine (CS.out _ (by exact Qf)).mono ?_
        rintro e _ ⟨rfl, md, rfl⟩
        have HS1 := HS.out.frs (show Fr wr ((wr.alloc (.cells #[.slice (some ⟨xg, 0, none⟩) xr.length xc, .int .i64 (xt)] 108)).drewN md) by exact Qf)
        have BX1 : Box ((wr.alloc (.cells #[.slice (some ⟨xg, 0, none⟩) xr.length xc, .int .i64 (xt)] 108)).drewN md) wr.heap.size #[.slice (some ⟨xg, 0, none⟩) xr.length xc, .int .i64 (xt)] 108 := (Box.new _ _ _).drewN md
        obtain ⟨w1, hw1⟩ : ∃ w1, (wr.alloc (.cells #[.slice (some ⟨xg, 0, none⟩) xr.length xc, .int .i64 (xt)] 108)).drewN md = w1 := ⟨_, rfl⟩
        have z1 : wr.heap.size + 1 = w1.heap.size := by rw [← hw1]; simp
        rw [hw1] at HS1 BX1 ⊢
        have HS1 := Lib.hid HS1
        clear hw1 q0 q1 FB0 FBO HS
        have FX1 := BX1.facts
        have FO1 := HS1.out.bo.facts
        have hn0 := HNE.out wr.heap.size (by omega) (Nat.le_refl _)
        by_cases hs : xr = p
        · rw [decide_eq_true hs]
          have HSP := Lib.hid hs
          clear hs
          by_cases hc : xt = 1000000
          · subst hc
            have HS2 : Hid (PutSt w ((w1.setCell ⟨wr.heap.size, 1, none⟩ (.int .i64 1000001)).setCell ⟨wr.heap.size, 1, none⟩ (.int .i64 1000000)) (.slice (some ⟨bL, oL, none⟩) L.length cL) O (.slice aO O.length cO)) := Lib.hid ((HS1.out.set (b := wr.heap.size) (by omega) hn0 1 (.int .i64 1000001)).set (b := wr.heap.size) (by omega) hn0 1 (.int .i64 1000000))
            go_wp2_with (at_builtin; refine wpList_append_rd rfl _ _ 95 rfl (w.heap.size + 3) 108 i0 (.agg #[.slice none 0 0, .int .i64 0]) 2 32 Tryz.underlying95 hi hz0 hz1 hz2 rfl (by decide) (.slice aO O.length cO) O.length (O.flatMap BI.cells) rfl (by exact (HS2.out.frs (by exact Qf)).row.1) _ 1 [.slice (some ⟨xg, 0, none⟩) xr.length xc, .int .i64 (1000000)] rfl (RdS.new (by first | rfl | (simp; done)) rfl) (by simp [Value.oneCell']) (by unfold maxLen; omega) (by omega) (by exact Qz) ?_; intro a5 c5 w5 hown5 hgrow5 hat5; have FB5 := (PutSt.box5 (HS2.out.frs (by exact Qf)) hgrow5).facts)
            have HLN := Lib.hid (show (O ++ [(⟨xg, xc, xr, 1000000⟩ : BI)]).length = O.length + 1 by simp); have HS5 : Hid (PutSt w (w5.setCell ⟨w.heap.size + 1 + 1, 0, none⟩ (.slice a5 (O ++ [(⟨xg, xc, xr, 1000000⟩ : BI)]).length c5)) (.slice (some ⟨bL, oL, none⟩) L.length cL) (O ++ [(⟨xg, xc, xr, 1000000⟩ : BI)]) (.slice a5 (O ++ [(⟨xg, xc, xr, 1000000⟩ : BI)]).length c5)) := Lib.hid (by rw [HLN.out]; exact PutSt.app (HS2.out.frs (by exact Qf)) hown5 hgrow5)
            have HM5 : Hid (NSt p L (O ++ [(⟨xg, xc, xr, 1000000⟩ : BI)]) (k + 1) w (w5.setCell ⟨w.heap.size + 1 + 1, 0, none⟩ (.slice a5 (O ++ [(⟨xg, xc, xr, 1000000⟩ : BI)]).length c5)) (.slice a5 (O ++ [(⟨xg, xc, xr, 1000000⟩ : BI)]).length c5)) := Lib.hid (by
              have := NSt.same (w := w) (wr := w5.setCell ⟨w.heap.size + 1 + 1, 0, none⟩ (.slice a5 (O ++ [(⟨xg, xc, xr, 1000000⟩ : BI)]).length c5)) (vO := .slice a5 (O ++ [(⟨xg, xc, xr, 1000000⟩ : BI)]).length c5) HPRE.out hlt HX.out HSP.out HOE.out
              rwa [show capT (BI.t ⟨xg, xc, xr, 1000000⟩ + 1) = 1000000 from rfl] at this)
            clear hown5 hgrow5 hat5 FB5 HS2 HS1 BX1 FX1 FO1
            rw [← HLN.out]
            go_wp2_with fail
            go_roundw
            case rel => exact ⟨true, k + 1, c5, a5, O ++ [(⟨xg, xc, xr, 1000000⟩ : BI)], by omega, rfl, by go_num, by rw [HLN.out]; omega, HS5, Lib.hid (fun h => by cases h), Lib.hid (fun _ => HM5.out)⟩
            case measure => (simp [intOf]; omega)
          · have q8 : decide (xt + 1 > 1000000) = false := by simp; omega
            have HS2 : Hid (PutSt w (w1.setCell ⟨wr.heap.size, 1, none⟩ (.int .i64 (xt + 1))) (.slice (some ⟨bL, oL, none⟩) L.length cL) O (.slice aO O.length cO)) := Lib.hid (HS1.out.set (b := wr.heap.size) (by omega) hn0 1 (.int .i64 (xt + 1)))
            go_wp2_with (at_builtin; refine wpList_append_rd rfl _ _ 95 rfl (w.heap.size + 3) 108 i0 (.agg #[.slice none 0 0, .int .i64 0]) 2 32 Tryz.underlying95 hi hz0 hz1 hz2 rfl (by decide) (.slice aO O.length cO) O.length (O.flatMap BI.cells) rfl (by exact (HS2.out.frs (by exact Qf)).row.1) _ 1 [.slice (some ⟨xg, 0, none⟩) xr.length xc, .int .i64 (xt + 1)] rfl (RdS.new (by first | rfl | (simp; done)) rfl) (by simp [Value.oneCell']) (by unfold maxLen; omega) (by omega) (by exact Qz) ?_; intro a5 c5 w5 hown5 hgrow5 hat5; have FB5 := (PutSt.box5 (HS2.out.frs (by exact Qf)) hgrow5).facts)
            have HLN := Lib.hid (show (O ++ [(⟨xg, xc, xr, xt + 1⟩ : BI)]).length = O.length + 1 by simp); have HS5 : Hid (PutSt w (w5.setCell ⟨w.heap.size + 1 + 1, 0, none⟩ (.slice a5 (O ++ [(⟨xg, xc, xr, xt + 1⟩ : BI)]).length c5)) (.slice (some ⟨bL, oL, none⟩) L.length cL) (O ++ [(⟨xg, xc, xr, xt + 1⟩ : BI)]) (.slice a5 (O ++ [(⟨xg, xc, xr, xt + 1⟩ : BI)]).length c5)) := Lib.hid (by rw [HLN.out]; exact PutSt.app (HS2.out.frs (by exact Qf)) hown5 hgrow5)
            have HM5 : Hid (NSt p L (O ++ [(⟨xg, xc, xr, xt + 1⟩ : BI)]) (k + 1) w (w5.setCell ⟨w.heap.size + 1 + 1, 0, none⟩ (.slice a5 (O ++ [(⟨xg, xc, xr, xt + 1⟩ : BI)]).length c5)) (.slice a5 (O ++ [(⟨xg, xc, xr, xt + 1⟩ : BI)]).length c5)) := Lib.hid (by
              have := NSt.same (w := w) (wr := w5.setCell ⟨w.heap.size + 1 + 1, 0, none⟩ (.slice a5 (O ++ [(⟨xg, xc, xr, xt + 1⟩ : BI)]).length c5)) (vO := .slice a5 (O ++ [(⟨xg, xc, xr, xt + 1⟩ : BI)]).length c5) HPRE.out hlt HX.out HSP.out HOE.out
              rwa [show capT (BI.t ⟨xg, xc, xr, xt⟩ + 1) = xt + 1 from capT_le (by show ¬ (xt + 1 > 1000000); omega)] at this)
            clear hown5 hgrow5 hat5 FB5 HS2 HS1 BX1 FX1 FO1
            rw [← HLN.out]
            go_wp2_with fail
            go_roundw
            case rel => exact ⟨true, k + 1, c5, a5, O ++ [(⟨xg, xc, xr, xt + 1⟩ : BI)], by omega, rfl, by go_num, by rw [HLN.out]; omega, HS5, Lib.hid (fun h => by cases h), Lib.hid (fun _ => HM5.out)⟩
            case measure => (simp [intOf]; omega)
        · rw [decide_eq_false hs]
          have hf1 := HS1.out.fr
          go_wp2_with fail
          refine (CL.out _ (by exact Qf)).mono ?_
          rintro e _ ⟨rfl, md2, rfl⟩
          have HS2 := HS1.out.frs (show Fr w1 (w1.drewN md2) by exact Qf)
          have BX2 := BX1.drewN md2
          obtain ⟨w2, hw2⟩ : ∃ w2, w1.drewN md2 = w2 := ⟨_, rfl⟩
          have z2 : w1.heap.size = w2.heap.size := by rw [← hw2]; simp
          rw [hw2] at HS2 BX2 ⊢
          have HS2 := Lib.hid HS2
          clear hw2 FX1 FO1 BX1 HS1 hf1
          have FX2 := BX2.facts
          have FO2 := HS2.out.bo.facts
          cases hl : rowLt p xr
          · have HP1 := Lib.hid (preB_next HPRE.out hlt (by rw [HX.out]; exact hs) (by rw [HX.out]; exact hl))
            have HT1 : Hid (O ++ [(⟨xg, xc, xr, xt⟩ : BI)] = L.take (k + 1)) := Lib.hid (by rw [bi_take hlt, HX.out, HOE.out])
            clear hs hl
            go_wp2_with (at_builtin; refine wpList_append_rd rfl _ _ 95 rfl (w.heap.size + 3) 108 i0 (.agg #[.slice none 0 0, .int .i64 0]) 2 32 Tryz.underlying95 hi hz0 hz1 hz2 rfl (by decide) (.slice aO O.length cO) O.length (O.flatMap BI.cells) rfl (by exact (HS2.out.frs (by exact Qf)).row.1) _ 1 [.slice (some ⟨xg, 0, none⟩) xr.length xc, .int .i64 (xt)] rfl (RdS.new (by first | rfl | (simp; done)) rfl) (by simp [Value.oneCell']) (by unfold maxLen; omega) (by omega) (by exact Qz) ?_; intro a5 c5 w5 hown5 hgrow5 hat5; have FB5 := (PutSt.box5 (HS2.out.frs (by exact Qf)) hgrow5).facts)
            have HLN := Lib.hid (show (O ++ [(⟨xg, xc, xr, xt⟩ : BI)]).length = O.length + 1 by simp); have HS5 : Hid (PutSt w (w5.setCell ⟨w.heap.size + 1 + 1, 0, none⟩ (.slice a5 (O ++ [(⟨xg, xc, xr, xt⟩ : BI)]).length c5)) (.slice (some ⟨bL, oL, none⟩) L.length cL) (O ++ [(⟨xg, xc, xr, xt⟩ : BI)]) (.slice a5 (O ++ [(⟨xg, xc, xr, xt⟩ : BI)]).length c5)) := Lib.hid (by rw [HLN.out]; exact PutSt.app (HS2.out.frs (by exact Qf)) hown5 hgrow5)
            clear hown5 hgrow5 hat5 FB5 HS2 BX2 FX2 FO2
            rw [← HLN.out]
            go_wp2_with fail
            go_roundw
            case rel => exact ⟨false, k + 1, c5, a5, O ++ [(⟨xg, xc, xr, xt⟩ : BI)], by omega, rfl, by go_num, by rw [HLN.out]; omega, HS5, Lib.hid (fun _ => ⟨HT1.out, HP1.out⟩), Lib.hid (fun h => by cases h)⟩
            case measure => (simp [intOf]; omega)
          · have RO : ∀ w', Tch (RowB (.slice aO O.length cO)) w2 w' → ∀ o, w'.cell? ⟨w.heap.size + 1 + 1, o, none⟩ = _ := fun w' h o => (Tch.box h HS2.out.bo (fun e => by have := HS2.out.row.2 _ e; omega)).cell o
            have hf2w : Fr w w2 := HS2.out.fr
            go_wp2_with fail
            go_region_law (first | (refine step_append_first (by rfl) _ _ 86 (by rfl) w2.heap.size 3 j0 (.int .i64 0) 1 8 Tryz.underlying86 hj hy0 hy1 hy2 rfl (by decide) (.slice (some ⟨w2.heap.size, 0, none⟩) 0 0) (by rfl) (made_empty (by first | rfl | (simp; done)) (Nat.le_refl _)) _ p.length (p.map (Value.int .i64)) (by rfl) (HP.out.fr (by exact Qf)) (ints_one p) (by unfold maxLen; omega) (by omega) (by exact Qz) ?_; intro a6 c6 w6 hown6 hgrow6 hat6; obtain ⟨g6, rfl, hg6a, hg6b⟩ := owns_some hown6 hp0; have hf6 : Fr w2 w6 := Fr.app (by exact Qf) hgrow6 (RowIn.one (lo := w2.heap.size) (hi := w2.heap.size + 1) (Nat.le_refl _) (by omega)) (Nat.le_refl _); have FB6 := (HS2.out.frs hf6).bo.facts; have hf6w : Fr w w6 := hf2w.trans hf6; have z6 := hgrow6.size; (try simp only [World.size_alloc, World.size_drew, World.heap_drewN] at z6)) | (refine step_append_rd (by rfl) _ _ 95 (by rfl) (w.heap.size + 3) 108 i0 (.agg #[.slice none 0 0, .int .i64 0]) 2 32 Tryz.underlying95 hi hz0 hz1 hz2 rfl (by decide) (.slice aO O.length cO) O.length (O.flatMap BI.cells) (by rfl) (by exact (HS2.out.frs (by exact Qf)).row.1) _ 1 [.slice (some ⟨g6, 0, none⟩) p.length c6, .int .i64 1] (by rfl) (RdS.new (by first | rfl | (simp; done)) rfl) (by simp [Value.oneCell']) (by unfold maxLen; omega) (by omega) (by exact Qz) ?_; intro a7 c7 w7 hown7 hgrow7 hat7; have T7 := RowB.tch (w := w2) (by exact Qf) hgrow7; have FB7 := (PutSt.box5 (HS2.out.frs (by exact Qf)) hgrow7).facts))
            all_goals
              (have HS7 : Hid (PutSt w (w7.setCell ⟨w.heap.size + 1 + 1, 0, none⟩ (.slice a7 (O.length + 1) c7)) (.slice (some ⟨bL, oL, none⟩) L.length cL) (O ++ [(⟨g6, c6, p, 1⟩ : BI)]) (.slice a7 (O.length + 1) c7)) := Lib.hid (PutSt.app (HS2.out.frs (by exact Qf)) hown7 hgrow7); have HN7 : Hid (NOwn (⟨g6, c6, p, 1⟩ : BI) (w.heap.size + 3) (w7.setCell ⟨w.heap.size + 1 + 1, 0, none⟩ (.slice a7 (O.length + 1) c7)) (.slice a7 (O.length + 1) c7)) := Lib.hid (by have h0 : NOwn (⟨g6, c6, p, 1⟩ : BI) (w.heap.size + 3) w6 (.slice aO O.length cO) := ⟨OwW.of_owns (owns_lo hown6 (by omega)), fun e => by have := (HS2.out.row.2 _ e).2; simp at this; omega⟩; have hz7 := hgrow7.size; exact ((h0.fr (by exact Qf)).app hgrow7 hat7 (by (try simp only [World.size_alloc, World.size_drew, World.heap_drewN]); show g6 < _; omega)).set (by show g6 ≠ _; omega) _ _))
              have BX6 := BX2.fr hf6
              have BX7 := Box.far' (Box.gr (Box.fr BX6 (show Fr w6 _ by exact Qf)) hgrow7 hn0) (q := w.heap.size + 1 + 1) (i := 0) (by omega) (.slice a7 (O.length + 1) c7)
              have hz7 := hgrow7.size
              (try simp only [World.size_alloc, World.size_drew, World.heap_drewN] at hz7)
              have HEQ : Hid (((O ++ [(⟨g6, c6, p, 1⟩ : BI)]) ++ [(⟨xg, xc, xr, xt⟩ : BI)]) ++ L.drop (k + 1) = putB p (⟨g6, c6, p, 1⟩ : BI) L) := Lib.hid (by rw [preB_less HPRE.out hlt (by rw [HX.out]; exact hs) (by rw [HX.out]; exact hl), HX.out, HOE.out])
              obtain ⟨W7, hW7⟩ : ∃ W : World, w7.setCell ⟨w.heap.size + 1 + 1, 0, none⟩ (.slice a7 (O.length + 1) c7) = W := ⟨_, rfl⟩
              rw [hW7] at HS7 HN7 BX7 ⊢
              have hZ7 : w7.heap.size ≤ W7.heap.size := by rw [← hW7]; simp
              have hok : O.length ≤ k := by rw [HOE.out]; simp; omega
              have hok2 : (O ++ [(⟨g6, c6, p, 1⟩ : BI)]).length ≤ k + 1 := by rw [List.length_append, List.length_singleton]; omega
              clear hW7 hown6 hgrow6 hat6 hown7 hgrow7 hat7 FB7 FB6 T7 RO FX2 FO2 BX6 BX2 HS2 hs hl
              have FX7 := BX7.facts
              have FO7 := HS7.out.bo.facts
              go_wp2_with (at_builtin; refine wpList_append_rd rfl _ _ 95 rfl (w.heap.size + 3) 108 i0 (.agg #[.slice none 0 0, .int .i64 0]) 2 32 Tryz.underlying95 hi hz0 hz1 hz2 rfl (by decide) (.slice a7 (O.length + 1) c7) (O ++ [(⟨g6, c6, p, 1⟩ : BI)]).length ((O ++ [(⟨g6, c6, p, 1⟩ : BI)]).flatMap BI.cells) rfl (by exact (HS7.out.frs (by exact Qf)).row.1) _ 1 [.slice (some ⟨xg, 0, none⟩) xr.length xc, .int .i64 xt] rfl (RdS.new (by first | rfl | (simp; done)) rfl) (by simp [Value.oneCell']) (by unfold maxLen; omega) (by omega) (by exact Qz) ?_; intro a5 c5 w5 hown5 hgrow5 hat5; have FB5 := (PutSt.box5 (HS7.out.frs (by exact Qf)) hgrow5).facts)
              have HLN := Lib.hid (show ((O ++ [(⟨g6, c6, p, 1⟩ : BI)]) ++ [(⟨xg, xc, xr, xt⟩ : BI)]).length = (O ++ [(⟨g6, c6, p, 1⟩ : BI)]).length + 1 by simp)
              have HS5 : Hid (PutSt w (w5.setCell ⟨w.heap.size + 1 + 1, 0, none⟩ (.slice a5 ((O ++ [(⟨g6, c6, p, 1⟩ : BI)]) ++ [(⟨xg, xc, xr, xt⟩ : BI)]).length c5)) (.slice (some ⟨bL, oL, none⟩) L.length cL) ((O ++ [(⟨g6, c6, p, 1⟩ : BI)]) ++ [(⟨xg, xc, xr, xt⟩ : BI)]) (.slice a5 ((O ++ [(⟨g6, c6, p, 1⟩ : BI)]) ++ [(⟨xg, xc, xr, xt⟩ : BI)]).length c5)) := Lib.hid (by
                rw [HLN.out]
                exact PutSt.app (HS7.out.frs (by exact Qf)) hown5 hgrow5)
              have HM5 : Hid (NSt p L ((O ++ [(⟨g6, c6, p, 1⟩ : BI)]) ++ [(⟨xg, xc, xr, xt⟩ : BI)]) (k + 1) w (w5.setCell ⟨w.heap.size + 1 + 1, 0, none⟩ (.slice a5 ((O ++ [(⟨g6, c6, p, 1⟩ : BI)]) ++ [(⟨xg, xc, xr, xt⟩ : BI)]).length c5)) (.slice a5 ((O ++ [(⟨g6, c6, p, 1⟩ : BI)]) ++ [(⟨xg, xc, xr, xt⟩ : BI)]).length c5)) := Lib.hid ⟨(⟨g6, c6, p, 1⟩ : BI), rfl, rfl, by show _ ≤ g6; omega, HEQ.out, fun _ => by
                rw [HLN.out]
                exact ((HN7.out.fr (by exact Qf)).app hgrow5 hat5 (by show g6 < _; simp; omega)).set (by show g6 ≠ _; omega) _ _⟩
              have HL2 := Lib.hid (show ((O ++ [(⟨g6, c6, p, 1⟩ : BI)]) ++ [(⟨xg, xc, xr, xt⟩ : BI)]).length = O.length + 1 + 1 by simp)
              have HS6 : Hid (PutSt w (w5.setCell ⟨w.heap.size + 1 + 1, 0, none⟩ (.slice a5 (O.length + 1 + 1) c5)) (.slice (some ⟨bL, oL, none⟩) L.length cL) ((O ++ [(⟨g6, c6, p, 1⟩ : BI)]) ++ [(⟨xg, xc, xr, xt⟩ : BI)]) (.slice a5 ((O ++ [(⟨g6, c6, p, 1⟩ : BI)]) ++ [(⟨xg, xc, xr, xt⟩ : BI)]).length c5)) := Lib.hid (by
                have := HS5.out
                rw [HL2.out] at this ⊢
                exact this)
              have HM6 : Hid (NSt p L ((O ++ [(⟨g6, c6, p, 1⟩ : BI)]) ++ [(⟨xg, xc, xr, xt⟩ : BI)]) (k + 1) w (w5.setCell ⟨w.heap.size + 1 + 1, 0, none⟩ (.slice a5 (O.length + 1 + 1) c5)) (.slice a5 ((O ++ [(⟨g6, c6, p, 1⟩ : BI)]) ++ [(⟨xg, xc, xr, xt⟩ : BI)]).length c5)) := Lib.hid (by
                have := HM5.out
                rw [HL2.out] at this ⊢
                exact this)
              clear hown5 hgrow5 hat5 FB5 HS7 HN7 HEQ BX7 FX7 FO7 HS5 HM5 HLN
              go_wp2_with fail
              go_roundw
              case rel => exact ⟨true, k + 1, c5, a5, (O ++ [(⟨g6, c6, p, 1⟩ : BI)]) ++ [(⟨xg, xc, xr, xt⟩ : BI)], by omega, rfl, by go_num, by rw [HL2.out]; omega, HS6, Lib.hid (fun h => by cases h), Lib.hid (fun _ => HM6.out)⟩
              case measure => (simp [intOf]; omega)
      · obtain ⟨n, hn1, hn2, hn3, hn4, hn5⟩ := HN.out rfl
        have HN5 := Lib.hid hn5
        have HN4 : Hid ((O ++ [(⟨xg, xc, xr, xt⟩ : BI)]) ++ L.drop (k + 1) = putB p n L) := Lib.hid (by rw [← hn4, HDR.out]; simp)
        have HLN := Lib.hid (show (O ++ [(⟨xg, xc, xr, xt⟩ : BI)]).length = O.length + 1 by simp)
        clear hn4 hn5 HF HN
        go_wp2_with (at_builtin; refine wpList_append_rd rfl _ _ 95 rfl (w.heap.size + 3) 108 i0 (.agg #[.slice none 0 0, .int .i64 0]) 2 32 Tryz.underlying95 hi hz0 hz1 hz2 rfl (by decide) (.slice aO O.length cO) O.length (O.flatMap BI.cells) rfl (by exact (HS.out.frs (by exact Qf)).row.1) _ 1 [.slice (some ⟨xg, 0, none⟩) xr.length xc, .int .i64 (xt)] rfl (RdS.new (by first | rfl | (simp; done)) rfl) (by simp [Value.oneCell']) (by unfold maxLen; omega) (by omega) (by exact Qz) ?_; intro a5 c5 w5 hown5 hgrow5 hat5; have FB5 := (PutSt.box5 (HS.out.frs (by exact Qf)) hgrow5).facts)
        have HS5 : Hid (PutSt w (w5.setCell ⟨w.heap.size + 1 + 1, 0, none⟩ (.slice a5 (O ++ [(⟨xg, xc, xr, xt⟩ : BI)]).length c5)) (.slice (some ⟨bL, oL, none⟩) L.length cL) (O ++ [⟨xg, xc, xr, xt⟩]) (.slice a5 (O ++ [(⟨xg, xc, xr, xt⟩ : BI)]).length c5)) := Lib.hid (by
          rw [HLN.out]
          exact PutSt.app (HS.out.frs (by exact Qf)) hown5 hgrow5)
        have HM5 : Hid (NSt p L (O ++ [⟨xg, xc, xr, xt⟩]) (k + 1) w (w5.setCell ⟨w.heap.size + 1 + 1, 0, none⟩ (.slice a5 (O ++ [(⟨xg, xc, xr, xt⟩ : BI)]).length c5)) (.slice a5 (O ++ [(⟨xg, xc, xr, xt⟩ : BI)]).length c5)) := Lib.hid ⟨n, hn1, hn2, hn3, HN4.out, fun hm => by
          have := (HN5.out hm)
          have hlt5 := this.1.lt.2
          rw [HLN.out]
          exact ((this.fr (by exact Qf)).app hgrow5 hat5 (by simp; omega)).set (by omega) _ _⟩
        clear hown5 hgrow5 hat5 FB5 HS HN5 HN4
        rw [← HLN.out]
        go_wp2_with fail
        go_roundw
        case rel => exact ⟨true, k + 1, c5, a5, O ++ [⟨xg, xc, xr, xt⟩], by omega, rfl, by go_num, by rw [HLN.out]; omega, HS5, Lib.hid (fun h => by cases h), Lib.hid (fun _ => HM5.out)⟩
        case measure => (simp [intOf]; omega)
    · obtain rfl : k = L.length := by omega
      have FBR := HS.out.br.facts
      have hn0 : True := trivial
      cases D
      · obtain ⟨hO, hpre⟩ := HF.out rfl
        have HEQ : Hid (∀ n, putB p n L = O ++ [n]) := Lib.hid fun n => by rw [preB_end hpre, hO, List.take_length]
        have hf2w : Fr w wr := HS.out.fr
        clear HF HN hO hpre
        go_wp2_with fail
        go_region_law (first | (refine step_append_first (by rfl) _ _ 86 (by rfl) wr.heap.size 3 j0 (.int .i64 0) 1 8 Tryz.underlying86 hj hy0 hy1 hy2 rfl (by decide) (.slice (some ⟨wr.heap.size, 0, none⟩) 0 0) (by rfl) (made_empty (by first | rfl | (simp; done)) (Nat.le_refl _)) _ p.length (p.map (Value.int .i64)) (by rfl) (HP.out.fr (by exact Qf)) (ints_one p) (by unfold maxLen; omega) (by omega) (by exact Qz) ?_; intro a6 c6 w6 hown6 hgrow6 hat6; obtain ⟨g6, rfl, hg6a, hg6b⟩ := owns_some hown6 hp0; have hf6 : Fr wr w6 := Fr.app (by exact Qf) hgrow6 (RowIn.one (lo := wr.heap.size) (hi := wr.heap.size + 1) (Nat.le_refl _) (by omega)) (Nat.le_refl _); have FB6 := (HS.out.frs hf6).bo.facts; have hf6w : Fr w w6 := hf2w.trans hf6; have z6 := hgrow6.size; (try simp only [World.size_alloc, World.size_drew, World.heap_drewN] at z6)) | (refine step_append_rd (by rfl) _ _ 95 (by rfl) (w.heap.size + 3) 108 i0 (.agg #[.slice none 0 0, .int .i64 0]) 2 32 Tryz.underlying95 hi hz0 hz1 hz2 rfl (by decide) (.slice aO O.length cO) O.length (O.flatMap BI.cells) (by rfl) (by exact (HS.out.frs (by exact Qf)).row.1) _ 1 [.slice (some ⟨g6, 0, none⟩) p.length c6, .int .i64 1] (by rfl) (RdS.new (by first | rfl | (simp; done)) rfl) (by simp [Value.oneCell']) (by unfold maxLen; omega) (by omega) (by exact Qz) ?_; intro a7 c7 w7 hown7 hgrow7 hat7; have T7 := RowB.tch (w := wr) (by exact Qf) hgrow7; have FB7 := (PutSt.box5 (HS.out.frs (by exact Qf)) hgrow7).facts))
        all_goals
          (have HS7 : Hid (PutSt w (w7.setCell ⟨w.heap.size + 1 + 1, 0, none⟩ (.slice a7 (O.length + 1) c7)) (.slice aL L.length cL) (O ++ [(⟨g6, c6, p, 1⟩ : BI)]) (.slice a7 (O.length + 1) c7)) := Lib.hid (PutSt.app (HS.out.frs (by exact Qf)) hown7 hgrow7); have HN7 : Hid (NOwn (⟨g6, c6, p, 1⟩ : BI) (w.heap.size + 3) (w7.setCell ⟨w.heap.size + 1 + 1, 0, none⟩ (.slice a7 (O.length + 1) c7)) (.slice a7 (O.length + 1) c7)) := Lib.hid (by have h0 : NOwn (⟨g6, c6, p, 1⟩ : BI) (w.heap.size + 3) w6 (.slice aO O.length cO) := ⟨OwW.of_owns (owns_lo hown6 (by omega)), fun e => by have := (HS.out.row.2 _ e).2; simp at this; omega⟩; have hz7 := hgrow7.size; exact ((h0.fr (by exact Qf)).app hgrow7 hat7 (by (try simp only [World.size_alloc, World.size_drew, World.heap_drewN]); show g6 < _; omega)).set (by show g6 ≠ _; omega) _ _))
          obtain ⟨W7, hW7⟩ : ∃ W : World, w7.setCell ⟨w.heap.size + 1 + 1, 0, none⟩ (.slice a7 (O.length + 1) c7) = W := ⟨_, rfl⟩
          rw [hW7] at HS7 HN7 ⊢
          have FO7 := HS7.out.bo.facts
          have FR7 := HS7.out.br.facts
          clear hW7 hown6 hgrow6 hat6 hown7 hgrow7 hat7 FB7 FB6 T7 HS FBO FB0 FBR
          go_wp2_with fail
          refine bodyPost_ret (v := .agg #[.slice a7 (O.length + 1) c7]) (by simp [results, go_sem, *]) rfl ?_
          refine ⟨a7, c7, (⟨g6, c6, p, 1⟩ : BI), by rw [HEQ.out, List.length_append]; rfl, rfl, rfl, by show _ ≤ g6; omega, ?_, fun g hg => by have := (HS7.out.row.2 g ((ownB_any _ _ _ _ _).trans hg)).1; omega, fun _ => HN7.out.fin (by show _ ≤ g6; omega) _, (HS7.out.fin _).2⟩
          rw [HEQ.out, List.length_append]
          exact (HS7.out.fin _).1
      · obtain ⟨n, hn1, hn2, hn3, hn4, hn5⟩ := HN.out rfl
        rw [List.drop_length, List.append_nil] at hn4
        have HN4 := Lib.hid hn4
        have HN5 := Lib.hid hn5
        clear hn4 hn5 HF HN
        go_wp2_with fail
        refine bodyPost_ret (v := .agg #[.slice aO O.length cO]) (by simp [results, go_sem, *]) rfl ?_
        refine ⟨aO, cO, n, by rw [← HN4.out], hn1, hn2, by omega, ?_, fun g hg => by have := (HS.out.row.2 g ((ownB_any _ _ _ _ _).trans hg)).1; omega, fun hm => (HN5.out hm).fin hn3 _, (HS.out.fin _).2⟩
        rw [← HN4.out]
        exact (HS.out.fin _).1
end Go.Proofs.YtmdgdnkllclpcaaGreat
