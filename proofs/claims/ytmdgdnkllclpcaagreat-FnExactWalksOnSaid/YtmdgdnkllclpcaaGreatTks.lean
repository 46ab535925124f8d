/- l20Take of the reference: what is seen, what is told. Conditions: bounds; the taking ends. -/
import Derived.Test.YtmdgdnkllclpcaaGreatTki
import Derived.Test.YtmdgdnkllclpcaaGreatGPry
namespace Go.Proofs.YtmdgdnkllclpcaaGreat
open Go.RowKit
set_option linter.unusedVariables false
set_option linter.unusedSimpArgs false
def ownW (k n : Int) (x : WalkR) : Bool := owR x.f2 n == k
/-! ### three rows of walks that lie apart -/
structure Row3 (lo : Nat) (w : World) (T O U : List WalkR) (vt vo vu : Value) : Prop where
  rt : WalksO w lo vt T
  ro : WalksO w lo vo O
  ru : WalksO w lo vu U
  ato : Apart vt vo
  atu : Apart vt vu
  aou : Apart vo vu
section
variable {lo : Nat} {w w1 w2 : World} {T O U R : List WalkR} {vt vo vu v' : Value}
theorem Row3.fr (h : Row3 lo w T O U vt vo vu) (hf : Fr w w1) : Row3 lo w1 T O U vt vo vu := ⟨owns_fr h.rt hf, owns_fr h.ro hf, owns_fr h.ru hf, h.ato, h.atu, h.aou⟩
theorem Row3.addT (h : Row3 lo w T O U vt vo vu) (hf : Fr w w1) (ho : WalksO w2 lo v' (T ++ R)) (hg : w1.grownBy w2 vt.ownBlock) (hat : v'.ownBlock = vt.ownBlock ∨ v'.ownBlock = some w1.heap.size) : Row3 lo w2 (T ++ R) O U v' vo vu := by
  have k := h.fr hf
  exact ⟨ho, owns_gr k.ro hg k.ato, owns_gr k.ru hg k.atu, apart_app k.ato hat (owns_below k.ro (Nat.le_refl _)), apart_app k.atu hat (owns_below k.ru (Nat.le_refl _)), k.aou⟩
theorem Row3.addO (h : Row3 lo w T O U vt vo vu) (hf : Fr w w1) (ho : WalksO w2 lo v' (O ++ R)) (hg : w1.grownBy w2 vo.ownBlock) (hat : v'.ownBlock = vo.ownBlock ∨ v'.ownBlock = some w1.heap.size) : Row3 lo w2 T (O ++ R) U vt v' vu := by
  have k := h.fr hf
  exact ⟨owns_gr k.rt hg k.ato.symm, ho, owns_gr k.ru hg k.aou, (apart_app k.ato.symm hat (owns_below k.rt (Nat.le_refl _))).symm, k.atu, apart_app k.aou hat (owns_below k.ru (Nat.le_refl _))⟩
theorem Row3.addU (h : Row3 lo w T O U vt vo vu) (hf : Fr w w1) (ho : WalksO w2 lo v' (U ++ R)) (hg : w1.grownBy w2 vu.ownBlock) (hat : v'.ownBlock = vu.ownBlock ∨ v'.ownBlock = some w1.heap.size) : Row3 lo w2 T O (U ++ R) vt vo v' := by
  have k := h.fr hf
  exact ⟨owns_gr k.rt hg k.atu.symm, owns_gr k.ro hg k.aou.symm, ho, k.ato, (apart_app k.atu.symm hat (owns_below k.rt (Nat.le_refl _))).symm, (apart_app k.aou.symm hat (owns_below k.ro (Nat.le_refl _))).symm⟩
end
/-- What a taking gives back: two rows in blocks of their own, apart. -/
def TkPost (w : World) (r : List WalkR × List WalkR) (e : Ending) (w' : World) : Prop := ∃ a0 c0 a1 c1 l0 h0 l1 h1, e = .returned (.tuple #[.slice a0 r.1.length c0, .slice a1 r.2.length c1]) ∧ WalksW w' l0 h0 (.slice a0 r.1.length c0) r.1 ∧ WalksW w' l1 h1 (.slice a1 r.2.length c1) r.2 ∧ (w.heap.size ≤ l0 ∧ l0 ≤ h0 ∧ h0 ≤ w'.heap.size ∧ w.heap.size ≤ l1 ∧ l1 ≤ h1 ∧ h1 ≤ w'.heap.size ∧ (h0 ≤ l1 ∨ h1 ≤ l0)) ∧ Fr w w'
theorem WalksO.tight {w : World} {lo : Nat} {v : Value} {xs : List WalkR} (h : WalksO w lo v xs) (hlo : lo ≤ w.heap.size) : ∃ l h', WalksW w l h' v xs ∧ lo ≤ l ∧ l ≤ h' ∧ h' ≤ w.heap.size ∧ ((v.ownBlock = none ∧ l = lo ∧ h' = lo) ∨ (v.ownBlock = some l ∧ h' = l + 1)) := by
  obtain ⟨h1, h2 | ⟨g, cap, cur, hv, hg, hh, hr⟩⟩ := h
  · refine ⟨lo, lo, ⟨⟨h1, .inl h2⟩, fun g e => ?_⟩, Nat.le_refl _, Nat.le_refl _, hlo, .inl ⟨?_, rfl, rfl⟩⟩
    · rw [h2.1] at e; cases e
    · rw [h2.1]; rfl
  · have hlt := (Array.getElem?_eq_some_iff.1 hh).1
    refine ⟨g, g + 1, ⟨⟨h1, .inr ⟨g, cap, cur, hv, Nat.le_refl _, hh, hr⟩⟩, fun q e => ?_⟩, hg, by omega, by omega, .inr ⟨?_, rfl⟩⟩
    · rw [hv] at e; cases e; exact ⟨Nat.le_refl _, Nat.lt_succ_self _⟩
    · rw [hv]; rfl
theorem TkPost.mk' {w w' : World} {r : List WalkR × List WalkR} {a0 a1 : Option Addr} {c0 c1 : Nat} (h0 : WalksO w' w.heap.size (.slice a0 r.1.length c0) r.1) (h1 : WalksO w' w.heap.size (.slice a1 r.2.length c1) r.2) (ha : Apart (.slice a0 r.1.length c0) (.slice a1 r.2.length c1)) (hf : Fr w w') : TkPost w r (.returned (.tuple #[.slice a0 r.1.length c0, .slice a1 r.2.length c1])) w' := by
  obtain ⟨l0, k0, p0, q1, q2, q3, q4⟩ := h0.tight hf.size
  obtain ⟨l1, k1, p1, s1, s2, s3, s4⟩ := h1.tight hf.size
  refine ⟨a0, c0, a1, c1, l0, k0, l1, k1, rfl, p0, p1, ⟨q1, q2, q3, s1, s2, s3, ?_⟩, hf⟩
  rcases q4 with ⟨e1, e2, e3⟩ | ⟨e1, e2⟩
  · left; omega
  · rcases s4 with ⟨f1, f2, f3⟩ | ⟨f1, f2⟩
    · right; omega
    · have : l0 ≠ l1 := fun e => ha l0 e1 (e.symm ▸ f1)
      omega
theorem l20On_any (ev av : Value) (n0 : Int) (es : List EdgeR) (nfs : List NfaD) (x : WalkR) (w : World) (he : EdgesR w ev es) (ha : NfasR w av nfs) (he40 : es.length ≤ 40) (hcs : ∀ j, j < nfs.length → (nAt nfs j).f1.length ≤ 262144) :
    Calls Tryz.prog 82 #[.agg #[.int .i64 n0, ev], av, .agg #[.int .i64 x.f0, .int .i64 x.f1, .int .i64 x.f2, .int .i64 x.f3]] w fun e w' => ∃ ao cap, e = .returned (.slice ao (onQ es nfs x).length cap) ∧ WalksW w' w.heap.size w'.heap.size (.slice ao (onQ es nfs x).length cap) (onQ es nfs x) ∧ Fr w w' := by
  obtain ⟨x0, x1, x2, x3⟩ := x
  by_cases h : 0 ≤ x0 ∧ x0 < (nfs.length : Int)
  · obtain ⟨k0, rfl⟩ := Int.eq_ofNat_of_zero_le h.1
    have hk : k0 < nfs.length := by omega
    rw [onQ_in hk]
    exact l20On_in ev av n0 es nfs k0 x1 x2 x3 w he ha hk he40 (hcs k0 hk)
  · rw [onQ_out (x := ⟨x0, x1, x2, x3⟩) h]
    exact l20On_no ev av n0 es nfs x0 x1 x2 x3 w he ha h
theorem wpList_append_first {P : Program} {w : World} {ops : Array Oper} {rest : List Oper} {o : Oper} {a : Act} {Q : Exit → Act → World → Prop} (hgd : o.guard = none) (s x : Operand) (t : TypeId)
    (ho : o.op = .call { callee := .builtin .append, args := #[s, x], argTypes := #[t, t] })
    (base : Nat) (e : TypeId) (i : TypeInfo) (z : Value) (size bytes : Nat) (ht : P.underlying t = some (.slice e)) (hi : P.info? e = some i) (hz : i.zero = some z)
    (hsize : i.size = size) (hby : i.bytes = bytes) (hzs : z.cells.size = size) (hsz : 0 < size)
    (v : Value) (hs : a.eval s = v) (hown : w.ownsRow base e size v 0 [])
    (vx : Value) (m : Nat) (news : List Value) (hx : a.eval x = vx) (hr : RdS w size vx m news) (h1 : ∀ u ∈ news, u.oneCell' = true)
    (h63 : m ≤ maxLen) (hbytes : m * bytes ≤ 140737488355328) (hbase : base ≤ w.heap.size)
    (h : ∀ ao cap w', w'.ownsRow base e size (.slice ao m cap) m news → w.grownBy w' v.ownBlock → ((Value.slice ao m cap).ownBlock = v.ownBlock ∨ (Value.slice ao m cap).ownBlock = some w.heap.size) → wpList P ops Q rest (a.put o.dst (.slice ao m cap)) w') : wpList P ops Q (o :: rest) a w := by
  refine wpList_append_rd hgd s x t ho base e i z size bytes ht hi hz hsize hby hzs hsz v 0 [] hs hown vx m news hx hr h1 (by omega) (by rw [Nat.zero_add]; exact hbytes) hbase fun ao cap w' q1 q2 q3 => ?_
  simp only [Nat.zero_add, List.nil_append] at q1 q3 ⊢
  exact h ao cap w' q1 q2 q3
set_option maxHeartbeats 16000000 in
set_option maxRecDepth 100000 in
theorem l20Take_any (ev av sv lv : Value) (n0 k n : Int) (es : List EdgeR) (nfs : List NfaD) (seen list : List WalkR) (r : List WalkR × List WalkR) (w : World) (he : EdgesR w ev es) (ha : NfasR w av nfs) (hs : WalksR w sv seen) (hl : WalksR w lv list)
    (he40 : es.length ≤ 40) (hcs : ∀ j, j < nfs.length → (nAt nfs j).f1.length ≤ 262144) (hon : ∀ x ∈ potW list, ∀ y ∈ onQ es nfs x, y ∈ potW list) (hB : ∀ x ∈ potW list, (onQ es nfs x).length ≤ 960)
    (hss : seen.length ≤ 1048576) (hll : list.length ≤ 1048576) (hr : Tk (ownW k n) (onQ es nfs) list seen [] r) :
    Calls Tryz.prog 90 #[.agg #[.int .i64 n0, ev], av, .int .i64 k, .int .i64 n, sv, lv] w fun e w' => TkPost w r e w' := by
  obtain ⟨i0, hi, hz0, hz1, hz2⟩ := info_parts info_Walk
  have HS := Lib.hid hs; have HL := Lib.hid hl; have HR := Lib.hid hr; have HON := Lib.hid hon; have HBB := Lib.hid hB
  have hpl := potW_len list
  obtain ⟨pl, hple⟩ : ∃ pl, (potW list).length = pl := ⟨_, rfl⟩
  rw [hple] at hpl
  have HPL := Lib.hid hple
  have CO : Hid (∀ x w', Fr w w' → Calls Tryz.prog 82 #[.agg #[.int .i64 n0, ev], av, .agg #[.int .i64 x.f0, .int .i64 x.f1, .int .i64 x.f2, .int .i64 x.f3]] w' fun e w'' => ∃ ao cap, e = .returned (.slice ao (onQ es nfs x).length cap) ∧ WalksW w'' w'.heap.size w''.heap.size (.slice ao (onQ es nfs x).length cap) (onQ es nfs x) ∧ Fr w' w'') := Lib.hid fun x w' h => l20On_any ev av n0 es nfs x w' (he.fr h) (ha.fr h) he40 hcs
  obtain ⟨ae, be, oe, ce, rfl, hce, hme, fe⟩ := he.one
  obtain ⟨aa, ba, oa, ca, rfl, hca, hma, fa⟩ := ha.one
  obtain ⟨asv, csv, rfl, has⟩ := RdS.val hs
  obtain ⟨al, cl, rfl, hal⟩ := RdS.val hl
  clear he ha hs hl fe fa has hal hr hon hB hcs hple
  go_enter Tryz.func90, Tryz.ntmps90
  go_wp2_with (first | (at_builtin; refine wpList_append_first rfl _ _ 37 rfl (w.heap.size + 1) 57 i0 (.agg #[.int .i64 0, .int .i64 0, .int .i64 0, .int .i64 0]) 4 32 Tryz.underlying37 hi hz0 hz1 hz2 rfl (by decide) (.slice (some ⟨w.heap.size + 1, 0, none⟩) 0 0) rfl (made_empty (by simp) (by exact Qz)) _ list.length (list.flatMap WalkR.cells) rfl (HL.out.fr (by exact Qf)) (walk_oneCells _) (by unfold maxLen; omega) (by omega) (by exact Qz) ?_; intro a1 c1 w1 hown1 hgrow1 hat1; have hf1 : Fr w w1 := Fr.app (by exact Qf) hgrow1 (RowIn.one (lo := w.heap.size + 1) (hi := w.heap.size + 2) (Nat.le_refl _) (by omega)) (by omega); have hB1 : Box w1 w.heap.size #[.int .i64 n0, .slice ae es.length ce] 55 := Box.gr ((Box.new _ _ _).alloc _) hgrow1 (by simp [Value.ownBlock]); have z1 := hgrow1.size; (try simp only [World.size_alloc] at z1)) | (at_builtin; refine wpList_append_first rfl _ _ 37 rfl (w.heap.size + 1) 57 i0 (.agg #[.int .i64 0, .int .i64 0, .int .i64 0, .int .i64 0]) 4 32 Tryz.underlying37 hi hz0 hz1 hz2 rfl (by decide) (.slice (some ⟨w1.heap.size, 0, none⟩) 0 0) rfl (made_empty (by simp) (by exact Qz)) _ seen.length (seen.flatMap WalkR.cells) rfl (HS.out.fr (by exact Qf)) (walk_oneCells _) (by unfold maxLen; omega) (by omega) (by exact Qz) ?_; intro a2 c2 w2 hown2 hgrow2 hat2))
  have hf2 : Fr w w2 := Fr.app (by exact Qf) hgrow2 (RowIn.one (lo := w1.heap.size) (hi := w1.heap.size + 1) (Nat.le_refl _) (by omega)) (by omega)
  have z2 := hgrow2.size
  (try simp only [World.size_alloc] at z2)
  have hB2 := Box.gr (hB1.alloc (.cells #[] 57)) hgrow2 (by simp [Value.ownBlock]; omega)
  have H3 : Hid (Row3 (w.heap.size + 1) (w2.alloc (.cells #[] 57)) list seen [] (.slice a1 list.length c1) (.slice a2 seen.length c2) (.slice (some ⟨w2.heap.size, 0, none⟩) 0 0)) := Lib.hid (by
    have hA : Apart (.slice a1 list.length c1) (.slice (some ⟨w1.heap.size, 0, none⟩) 0 0) := fun g h1 h2 => by have := (hown1.lt g h1).2; have e : w1.heap.size = g := (by simpa [Value.ownBlock] using h2); omega
    have h1 := owns_gr (hown1.alloc (.cells #[] 57)) hgrow2 hA.symm
    have hA2 := apart_app hA.symm hat2 (fun g hg => by have := (hown1.lt g hg).2; simp; omega)
    refine ⟨h1.alloc _, hown2.alloc _, made_empty rfl (by omega), hA2.symm, fun g q1 q2 => ?_, fun g q1 q2 => ?_⟩
    · have := (h1.lt g q1).2; have e : w2.heap.size = g := (by simpa [Value.ownBlock] using q2); omega
    · have := (hown2.lt g q1).2; have e : w2.heap.size = g := (by simpa [Value.ownBlock] using q2); omega)
  have HI : Hid (TkI (potW list) seen 960 list.length list 0 seen []) := Lib.hid (TkI.start list fun x hx => List.mem_append.2 (.inl hx))
  clear hown1 hgrow1 hat1 hown2 hgrow2 hat2 hB1
  go_loopw [14, 15, 16, 17] (fun t o u i wr => ∃ (j ct co cu : Nat) (at_ ao au : Option Addr) (T O U : List WalkR), i = .int .i64 j ∧ t = .slice at_ T.length ct ∧ o = .slice ao O.length co ∧ u = .slice au U.length cu ∧ Hid (TkI (potW list) seen 960 list.length T j O U) ∧ Hid (Tk (ownW k n) (onQ es nfs) (T.drop j) O U r) ∧ Hid (Row3 (w.heap.size + 1) wr T O U (.slice at_ T.length ct) (.slice ao O.length co) (.slice au U.length cu)) ∧ Box wr w.heap.size #[.int .i64 n0, .slice ae es.length ce] 55 ∧ Fr w wr) (fun t o _ i _ => (seen.length + pl - lenV o) * 961 + (lenV t - (intOf i).toNat))
  case atStart => exact ⟨0, c1, c2, 0, a1, a2, some ⟨w2.heap.size, 0, none⟩, list, seen, [], rfl, rfl, rfl, rfl, HI, Lib.hid (by rw [List.drop_zero]; exact HR.out), H3, hB2.alloc _, by exact Qf⟩
  case round =>
    clear H3 HI hB2
    obtain ⟨j, ct, co, cu, at_, ao, au, T, O, U, rfl, rfl, rfl, rfl, HI, HT, H3, hB, hfr⟩ := hrel
    have FB := hB.facts
    have zr := hfr.size
    have hjT := HI.out.hi
    have hTl := HI.out.todoLen
    have hOl := HI.out.outLen
    have hUl := HI.out.toldLen
    rw [HPL.out] at hTl hOl hUl
    by_cases hlt : j < T.length
    · obtain ⟨ao', bT, oT, cT, heT, _, _, hfT⟩ := (WalksO.rd H3.out.rt).one
      cases heT
      obtain ⟨rfl, hbT, hcT⟩ := hfT (by omega)
      obtain ⟨q0, q1, q2, q3⟩ := hcT j hlt
      have hd := walk_dropAt hlt
      obtain ⟨x, hx⟩ : ∃ x, walkAt T j = x := ⟨_, rfl⟩
      rw [hx] at q0 q1 q2 q3 hd
      have HD := Lib.hid hd
      have HX := Lib.hid hx
      obtain ⟨x0, x1, x2, x3⟩ := x
      simp only [] at q0 q1 q2 q3
      clear hcT hfT hd hx
      go_wp2_with fail
      refine (specOwnerOf_any _ _ _).mono ?_
      rintro e w3 ⟨rfl, hf3⟩
      have BW3 : Box w3 wr.heap.size #[.int .i64 x0, .int .i64 x1, .int .i64 x2, .int .i64 x3] 57 := (Box.new _ _ _).fr hf3
      have BG3 : Box w3 w.heap.size #[.int .i64 n0, .slice ae es.length ce] 55 := (hB.alloc _).fr hf3
      have H33 := Lib.hid (H3.out.fr (show Fr wr w3 by exact Qf))
      have HNO : Hid (∀ g, (Value.slice ao O.length co).ownBlock = some g → g < wr.heap.size) := Lib.hid fun g hg => (H3.out.ro.lt g hg).2
      have HNU : Hid (∀ g, (Value.slice au U.length cu).ownBlock = some g → g < wr.heap.size) := Lib.hid fun g hg => (H3.out.ru.lt g hg).2
      have HNT : Hid (∀ g, (Value.slice (some ⟨bT, oT, none⟩) T.length ct).ownBlock = some g → g < wr.heap.size) := Lib.hid fun g hg => (H3.out.rt.lt g hg).2
      have FW3 := BW3.facts
      have FG3 := BG3.facts
      have z3 := hf3.size
      (try simp only [World.size_alloc] at z3)
      clear q0 q1 q2 q3 H3 FB hB
      by_cases how : owR x2 n = k
      · have q : (owR x2 n != k) = false := by simpa using how
        have HOW : Hid (ownW k n ⟨x0, x1, x2, x3⟩ = true) := Lib.hid (by unfold ownW; simpa using how)
        clear how
        go_wp2_with fail
        refine (l20In_any _ O x0 x1 x2 x3 _ ((WalksO.rd H33.out.ro).fr (by exact Qf))).mono ?_
        rintro e w4 ⟨rfl, hf4⟩
        have BW4 := BW3.fr hf4
        have BG4 := BG3.fr hf4
        have H34 := Lib.hid (H33.out.fr hf4)
        have FW4 := BW4.facts
        have FG4 := BG4.facts
        have z4 := hf4.size
        clear FW3 FG3 BW3 BG3 H33
        cases hin : inW O ⟨x0, x1, x2, x3⟩
        · have HIN := Lib.hid (HI.out.new hlt (by rw [HX.out]; exact hin) HON.out HBB.out)
          have HTN := Lib.hid (by have := HT.out; rw [HD.out] at this; exact this.new_inv HOW.out hin)
          rw [HX.out] at HIN
          have hol3 := HIN.out.outLen
          have hbb := HBB.out _ (HI.out.sub _ (walkAt_mem hlt))
          rw [HX.out] at hbb
          rw [HPL.out, List.length_append, List.length_singleton] at hol3
          have hdr : Hid ((T ++ onQ es nfs ⟨x0, x1, x2, x3⟩).drop (j + 1) = T.drop (j + 1) ++ onQ es nfs ⟨x0, x1, x2, x3⟩) := Lib.hid (List.drop_append_of_le_length hlt)
          rw [← hdr.out] at HTN
          have HLN := Lib.hid (show (O ++ [(⟨x0, x1, x2, x3⟩ : WalkR)]).length = O.length + 1 by simp)
          have HCA := Lib.hid (wlk_snoc O ⟨x0, x1, x2, x3⟩)
          have CX := CO.out ⟨x0, x1, x2, x3⟩
          obtain ⟨R, hR⟩ : ∃ R, onQ es nfs ⟨x0, x1, x2, x3⟩ = R := ⟨_, rfl⟩
          rw [hR] at HIN HTN hbb CX hdr
          have CX := Lib.hid CX
          clear hin hR HI HT
          go_wp2_with (at_builtin; refine wpList_append_rd rfl _ _ 37 rfl (w.heap.size + 1) 57 i0 (.agg #[.int .i64 0, .int .i64 0, .int .i64 0, .int .i64 0]) 4 32 Tryz.underlying37 hi hz0 hz1 hz2 rfl (by decide) (.slice ao O.length co) O.length (O.flatMap WalkR.cells) rfl (World.ownsRow.alloc H34.out.ro _) _ 1 [.int .i64 x0, .int .i64 x1, .int .i64 x2, .int .i64 x3] rfl (RdS.new (by first | rfl | (simp; done)) rfl) (by simp [Value.oneCell']) (by unfold maxLen; omega) (by omega) (by exact Qz) ?_; intro a5 c5 w5 hown5 hgrow5 hat5; have H35 := Lib.hid (H34.out.addO (v' := .slice a5 (O.length + 1) c5) (R := [⟨x0, x1, x2, x3⟩]) (show Fr w4 _ by exact Qf) (by unfold WalksO; rw [HCA.out, HLN.out]; exact hown5) hgrow5 hat5); have T5 := RowB.tch (w := w4) (by exact Qf) hgrow5; have hOlo : ∀ g, (Value.slice ao O.length co).ownBlock = some g → w.heap.size + 1 ≤ g ∧ g < wr.heap.size := (fun g hg => ⟨(H34.out.ro.lt g hg).1, HNO.out g hg⟩); have BW5 := Tch.box T5 BW4 (fun e => by have := hOlo _ e; omega); have BG5 := Tch.box T5 BG4 (fun e => by have := hOlo _ e; omega); have FW5 := BW5.facts; have FG5 := BG5.facts; have z5 := T5.size)
          have hf4w : Fr w w4 := by exact Qf
          have hf5 : Fr w w5 := RowB.old T5 hf4w (lo := w.heap.size + 1) (hi := wr.heap.size) (fun g hg => hOlo g hg) (by omega)
          refine (CX.out _ hf5).mono ?_
          rintro e w6 ⟨a6, c6, rfl, h6, hf6⟩
          have H36 := Lib.hid (H35.out.fr hf6)
          have HR6 := Lib.hid (WalksW.rd h6)
          have BG6 := BG5.fr hf6
          have FG6 := BG6.facts
          have z6 := hf6.size
          have hf6w : Fr w w6 := hf5.trans hf6
          have HLT := Lib.hid (show (T ++ R).length = T.length + R.length by simp)
          clear h6 H35 hown5 hgrow5 hat5 T5 hOlo BW5 BG5 FW5 FG5 FW4 FG4 BW4 BG4 H34
          go_wp2_with (at_builtin; refine wpList_append_rd rfl _ _ 37 rfl (w.heap.size + 1) 57 i0 (.agg #[.int .i64 0, .int .i64 0, .int .i64 0, .int .i64 0]) 4 32 Tryz.underlying37 hi hz0 hz1 hz2 rfl (by decide) (.slice (some ⟨bT, oT, none⟩) T.length ct) T.length (T.flatMap WalkR.cells) rfl H36.out.rt _ R.length (R.flatMap WalkR.cells) rfl HR6.out (walk_oneCells R) (by unfold maxLen; omega) (by omega) (by exact Qz) ?_; intro a7 c7 w7 hown7 hgrow7 hat7)
          have T7 := RowB.tch (Fr.refl w6) hgrow7
          have H37 : Hid (Row3 (w.heap.size + 1) w7 (T ++ R) (O ++ [⟨x0, x1, x2, x3⟩]) U (.slice a7 (T ++ R).length c7) (.slice a5 (O ++ [(⟨x0, x1, x2, x3⟩ : WalkR)]).length c5) (.slice au U.length cu)) := Lib.hid (by
            rw [HLT.out, HLN.out]
            exact H36.out.addT (v' := .slice a7 (T.length + R.length) c7) (R := R) (Fr.refl w6) (by unfold WalksO; rw [HLT.out, List.flatMap_append]; exact hown7) hgrow7 hat7)
          have BG7 := Tch.box T7 BG6 (fun e => by have := (H36.out.rt.lt _ e).1; omega)
          have hf7 : Fr w w7 := RowB.old T7 hf6w (lo := w.heap.size + 1) (hi := w6.heap.size) (fun g hg => H36.out.rt.lt g hg) (by omega)
          clear hown7 hgrow7 hat7 T7
          go_wp2_with fail
          go_roundw
          case rel => exact ⟨j + 1, c7, c5, cu, a7, a5, au, T ++ R, O ++ [⟨x0, x1, x2, x3⟩], U, by go_num, by rw [HLT.out], by rw [HLN.out], rfl, HIN, HTN, H37, BG7, hf7⟩
          case measure => simp [lenV, intOf]; omega
        · have HT4 := Lib.hid (by have := HT.out; rw [HD.out] at this; exact this.known_inv HOW.out hin)
          have HI4 := Lib.hid (HI.out.next hlt)
          clear hin
          go_wp2_with fail
          go_roundw
          case rel => exact ⟨j + 1, ct, co, cu, some ⟨bT, oT, none⟩, ao, au, T, O, U, by go_num, rfl, rfl, rfl, HI4, HT4, H34, BG4, by exact Qf⟩
          case measure => simp [lenV, intOf]; omega
      · have q : (owR x2 n != k) = true := by simpa using how
        have HOW : Hid (ownW k n ⟨x0, x1, x2, x3⟩ = false) := Lib.hid (by unfold ownW; simpa using how)
        clear how
        go_wp2_with fail
        refine (l20In_any _ U x0 x1 x2 x3 _ ((WalksO.rd H33.out.ru).fr (by exact Qf))).mono ?_
        rintro e w4 ⟨rfl, hf4⟩
        have BW4 := BW3.fr hf4
        have BG4 := BG3.fr hf4
        have H34 := Lib.hid (H33.out.fr hf4)
        have FW4 := BW4.facts
        have FG4 := BG4.facts
        have z4 := hf4.size
        clear FW3 FG3 BW3 BG3 H33
        cases hin : inW U ⟨x0, x1, x2, x3⟩
        · have HIN := Lib.hid (HI.out.tell hlt (by rw [HX.out]; exact hin))
          have HTN := Lib.hid (by have := HT.out; rw [HD.out] at this; exact this.tell_inv HOW.out hin)
          rw [HX.out] at HIN
          have HLN := Lib.hid (show (U ++ [(⟨x0, x1, x2, x3⟩ : WalkR)]).length = U.length + 1 by simp)
          have HCA := Lib.hid (wlk_snoc U ⟨x0, x1, x2, x3⟩)
          clear hin HI HT
          go_wp2_with (at_builtin; refine wpList_append_rd rfl _ _ 37 rfl (w.heap.size + 1) 57 i0 (.agg #[.int .i64 0, .int .i64 0, .int .i64 0, .int .i64 0]) 4 32 Tryz.underlying37 hi hz0 hz1 hz2 rfl (by decide) (.slice au U.length cu) U.length (U.flatMap WalkR.cells) rfl (World.ownsRow.alloc H34.out.ru _) _ 1 [.int .i64 x0, .int .i64 x1, .int .i64 x2, .int .i64 x3] rfl (RdS.new (by first | rfl | (simp; done)) rfl) (by simp [Value.oneCell']) (by unfold maxLen; omega) (by omega) (by exact Qz) ?_; intro a5 c5 w5 hown5 hgrow5 hat5)
          have T5 := RowB.tch (w := w4) (by exact Qf) hgrow5
          have hUlo : ∀ g, (Value.slice au U.length cu).ownBlock = some g → w.heap.size + 1 ≤ g ∧ g < wr.heap.size := fun g hg => ⟨(H34.out.ru.lt g hg).1, HNU.out g hg⟩
          have H35 : Hid (Row3 (w.heap.size + 1) w5 T O (U ++ [⟨x0, x1, x2, x3⟩]) (.slice (some ⟨bT, oT, none⟩) T.length ct) (.slice ao O.length co) (.slice a5 (U ++ [(⟨x0, x1, x2, x3⟩ : WalkR)]).length c5)) := Lib.hid (by
            rw [HLN.out]
            exact H34.out.addU (v' := .slice a5 (U.length + 1) c5) (R := [⟨x0, x1, x2, x3⟩]) (show Fr w4 _ by exact Qf) (by unfold WalksO; rw [HCA.out, HLN.out]; exact hown5) hgrow5 hat5)
          have BG5 := Tch.box T5 BG4 (fun e => by have := hUlo _ e; omega)
          have hf4w : Fr w w4 := by exact Qf
          have hf5 : Fr w w5 := RowB.old T5 hf4w (lo := w.heap.size + 1) (hi := wr.heap.size) (fun g hg => hUlo g hg) (by omega)
          clear hown5 hgrow5 hat5 T5 hUlo
          go_wp2_with fail
          go_roundw
          case rel => exact ⟨j + 1, ct, co, c5, some ⟨bT, oT, none⟩, ao, a5, T, O, U ++ [⟨x0, x1, x2, x3⟩], by go_num, rfl, rfl, by rw [HLN.out], HIN, HTN, H35, BG5, hf5⟩
          case measure => simp [lenV, intOf]; omega
        · have HT4 := Lib.hid (by have := HT.out; rw [HD.out] at this; exact this.far_inv HOW.out hin)
          have HI4 := Lib.hid (HI.out.next hlt)
          clear hin
          go_wp2_with fail
          go_roundw
          case rel => exact ⟨j + 1, ct, co, cu, some ⟨bT, oT, none⟩, ao, au, T, O, U, by go_num, rfl, rfl, rfl, HI4, HT4, H34, BG4, by exact Qf⟩
          case measure => simp [lenV, intOf]; omega
    · have hje : j = T.length := by omega
      have HRE : Hid (r = (O, U)) := Lib.hid (by have := HT.out; rw [hje, List.drop_length] at this; exact this.nil_inv)
      clear hje
      go_wp2_with fail
      go_ret2
      have := TkPost.mk' (w := w) (r := (O, U)) (owns_lo H3.out.ro (by omega)) (owns_lo H3.out.ru (by omega)) H3.out.aou hfr
      rw [HRE.out]
      exact this
end Go.Proofs.YtmdgdnkllclpcaaGreat
