/- Texts in one: Prz, Pri, Prr, Srd. -/
import Derived.Test.YtmdgdnkllclpcaaGreatGPry
/- The program's path reader: alternative. Conditions: bounds on what is read. -/
namespace Go.Proofs.YtmdgdnkllclpcaaGreat
open Go.RowKit
set_option linter.unusedVariables false
set_option linter.unusedSimpArgs false
def ItemC (t : ByteArray) (f : Nat) : Prop := ∀ (b lo a : Nat) (v : Value) (us : List Value) (ps : List PieceD) (w : World), Box w b #[.string t, .int .i64 (a : Int), v] 201 → b < lo → lo ≤ w.heap.size → Prd w lo v ps us → nx t a ≠ 0 → 3 * (t.size - a) ≤ f → ps.length + 2 * (t.size - a) ≤ 900 →
  Calls Tryz.prog 208 #[.pointer (some ⟨b, 0, none⟩)] w (RPost b lo t v us w (prs t f .item a ps))
theorem isLabN_any (n : Nat) (hn : n < 256) (w : World) : Calls Tryz.prog 143 #[.int .u8 (n : Int)] w fun e w' => e = .returned (.bool (isLab n)) ∧ w' = w := by
  have h := isLabel_any (UInt8.ofNat n) w
  have e : (UInt8.ofNat n).toNat = n := by simp [UInt8.toNat_ofNat, Nat.mod_eq_of_lt hn]
  rw [e] at h
  refine h.mono fun e1 w1 q => ?_
  first
    | exact q
    | exact ⟨by rw [q.1]; unfold isLab; rfl, q.2⟩
    | exact ⟨by rw [q.1]; unfold isLab; simp, q.2⟩
set_option maxHeartbeats 8000000 in
set_option maxRecDepth 100000 in
theorem alt_any (t : ByteArray) (ht : t.size ≤ 100) (F : Nat) (IH : ∀ f, f < F → ItemC t f) : AltC t F := by
  intro b lo a v us ps w hb hlo hlw hp ha hf hn
  obtain ⟨i0, hi, hz0, hz1, hz2⟩ := info_parts info_int
  have HI := Lib.hid IH
  obtain ⟨R, hR⟩ : ∃ R, prs t F (.alt []) a ps = R := ⟨_, rfl⟩
  rw [hR]
  have HR := Lib.hid hR
  have L0 := Lib.hid (Lp.start hb hp)
  clear hb hp IH hR
  go_enter Tryz.func186, Tryz.ntmps186
  go_wp2_with fail
  go_loopw [4, 5, 6] (fun z _ _ wr => ∃ (ks : List Int) (a' f' : Nat) (v' : Value) (us' : List Value) (ps' : List PieceD) (az : Option Addr) (cz : Nat), z = .slice az ks.length cz ∧ Hid (Lp b lo a' t v us w (.slice az ks.length cz) ks v' us' ps' wr) ∧ Hid (prs t f' (.alt ks) a' ps' = R) ∧ f' ≤ F ∧ a' ≤ t.size ∧ 3 * (t.size - a') + 1 ≤ f' ∧ ps'.length + 2 * (t.size - a') ≤ 900 ∧ ks.length ≤ a') (fun z _ _ _ => 1000 - lenV z)
  case atStart => exact ⟨[], a, F, v, us, ps, none, 0, rfl, L0, HR, Nat.le_refl _, ha, hf, hn, Nat.zero_le _⟩
  case round =>
    obtain ⟨ks, a', f', v', us', ps', az, cz, rfl, L1, H1, hf1, ha1, hf2, hn1, hk1⟩ := hrel
    obtain ⟨g, rfl⟩ : ∃ g, f' = g + 1 := ⟨f' - 1, by omega⟩
    have H2 := H1.out
    rw [prs] at H2
    have hsz := L1.out.go.size
    have hn256 := nx_lt t a'
    have CN : Hid (∀ w', Fr wr w' → Calls Tryz.prog 187 #[.pointer (some ⟨b, 0, none⟩)] w' fun e w'' => e = .returned (.int .u8 (nx t a' : Int)) ∧ Fr w' w'') := Lib.hid fun w' h => next_any b a' t v' w' (L1.out.box.fr h) (by omega)
    have CL : Hid (∀ w', Calls Tryz.prog 143 #[.int .u8 (nx t a' : Int)] w' fun e w'' => e = .returned (.bool (isLab (nx t a'))) ∧ w'' = w') := Lib.hid fun w' => isLabN_any _ hn256 w'
    by_cases hc : isLab (nx t a') = true ∨ nx t a' = 40
    · have hnz : nx t a' ≠ 0 := by
        rcases hc with e | e
        · intro h0
          rw [h0] at e
          exact absurd e (by decide)
        · omega
      have hin := nx_in hnz
      rw [if_pos hc] at H2
      have CA := HI.out g (by omega) b lo a' v' us' ps'
      cases hE : prs t g .item a' ps' with
      | none =>
        rw [hE] at H2
        simp only [] at H2
        subst H2
        have CT : Hid (∀ w', Fr wr w' → Calls Tryz.prog 208 #[.pointer (some ⟨b, 0, none⟩)] w' fun e w'' => e = .returned (.tuple #[.int .i64 0, .bool false]) ∧ Two b v'.ownBlock w' w'') := Lib.hid fun w' h => (CA w' (L1.out.box.fr h) hlo (by have := h.size; omega) (L1.out.prd.fr h) hnz (by omega) hn1).mono fun e w'' q => by rw [hE] at q; exact q
        clear CA hE H1 hnz
        go_wp2_with fail
        refine (CN.out _ (by exact Qf)).mono ?_
        rintro e w1 ⟨rfl, hfa⟩
        go_wp2_with fail
        refine (CL.out _).mono ?_
        rintro e w2 ⟨rfl, rfl⟩
        by_cases hl : isLab (nx t a') = true
        · rw [hl]
          go_wp2_with fail
          refine (CT.out _ (by exact Qf)).mono ?_
          rintro e w3 ⟨rfl, ht1⟩
          have HT := Lib.hid ht1
          clear ht1
          go_wp2_with fail
          refine bodyPost_ret (v := .tuple #[.int .i64 0, .bool false]) (by simp [results, Tryz.results186, go_sem, *]) rfl ⟨rfl, (L1.out.fr (w1 := w2) (by exact Qf)).go.then HT.out⟩
        · have h40 : nx t a' = 40 := hc.resolve_left hl
          rw [show isLab (nx t a') = false by simpa using hl]
          rw [h40] at CN
          clear h40
          go_wp2_with fail
          refine (CN.out _ (by exact Qf)).mono ?_
          rintro e w2 ⟨rfl, hfb⟩
          go_wp2_with fail
          refine (CT.out _ (by exact Qf)).mono ?_
          rintro e w3 ⟨rfl, ht1⟩
          have HT := Lib.hid ht1
          clear ht1
          go_wp2_with fail
          refine bodyPost_ret (v := .tuple #[.int .i64 0, .bool false]) (by simp [results, Tryz.results186, go_sem, *]) rfl ⟨rfl, (L1.out.fr (w1 := w2) (by exact Qf)).go.then HT.out⟩
      | some r =>
        obtain ⟨k2, a2, ps2⟩ := r
        rw [hE] at H2
        simp only [] at H2
        have P1 := prs_on t g .item a' ps' k2 a2 ps2 hE
        have P2 := prs_len t g .item a' ps' k2 a2 ps2 hE
        have P3 := prs_in t g .item a' ps' k2 a2 ps2 hE ha1 (fun _ => hnz)
        simp only [Job.cost] at P2
        have HP1 := P1.2.2 rfl
        have H3 := Lib.hid H2
        have CT : Hid (∀ w', Fr wr w' → Calls Tryz.prog 208 #[.pointer (some ⟨b, 0, none⟩)] w' fun e w'' => e = .returned (.tuple #[.int .i64 k2, .bool true]) ∧ ∃ v2 us2, Lp b lo a2 t v us w (.slice az ks.length cz) ks v2 us2 ps2 w'') := Lib.hid fun w' h => (CA w' (L1.out.box.fr h) hlo (by have := h.size; omega) (L1.out.prd.fr h) hnz (by omega) hn1).mono fun e w'' q => by rw [hE] at q; exact ⟨q.1, (L1.out.fr h).call hlo q.2⟩
        clear CA hE H1 P1 H2 hnz
        go_wp2_with fail
        refine (CN.out _ (by exact Qf)).mono ?_
        rintro e w1 ⟨rfl, hfa⟩
        go_wp2_with fail
        refine (CL.out _).mono ?_
        rintro e w2 ⟨rfl, rfl⟩
        by_cases hl : isLab (nx t a') = true
        · rw [hl]
          go_wp2_with fail
          refine (CT.out _ (by exact Qf)).mono ?_
          rintro e w3 ⟨rfl, v2, us2, l2⟩
          have L2 := Lib.hid l2
          clear l2 CT
          have hs2 := L2.out.go.size
          go_wp2_with (at_builtin; (refine wpList_append_rd rfl _ _ 86 rfl lo 3 i0 (.int .i64 0) 1 8 Tryz.underlying86 hi hz0 hz1 hz2 rfl (by decide) (.slice az ks.length cz) ks.length (ks.map (Value.int .i64)) rfl (World.ownsRow.alloc L2.out.row _) _ 1 [.int .i64 k2] rfl (RdS.new (by first | rfl | (simp; done)) rfl) (by simp [Value.oneCell']) (by unfold maxLen; omega) (by omega) (by exact Qz) ?_; intro az' cz' w4 hown hgrow hat))
          have L3 : Hid (Lp b lo a2 t v us w (.slice az' (ks.length + 1) cz') (ks ++ [k2]) v2 us2 ps2 w4) := Lib.hid (Lp.app (L2.out.fr (by exact Qf)) hlo hgrow (by simpa [IntsO] using hown) (hat.imp id fun h => ⟨_, h, by simp⟩))
          go_roundw
          case rel =>
            refine ⟨ks ++ [k2], a2, g, v2, us2, ps2, az', cz', by first | (simp; done) | (simp; omega), ?_, H3, by omega, by omega, by omega, by omega, by simp; omega⟩
            simp only [List.length_append, List.length_singleton]
            exact L3
          case measure =>
            simp only [lenV]
            omega
        · have h40 : nx t a' = 40 := hc.resolve_left hl
          rw [show isLab (nx t a') = false by simpa using hl]
          rw [h40] at CN
          clear h40
          go_wp2_with fail
          refine (CN.out _ (by exact Qf)).mono ?_
          rintro e w2 ⟨rfl, hfb⟩
          go_wp2_with fail
          refine (CT.out _ (by exact Qf)).mono ?_
          rintro e w3 ⟨rfl, v2, us2, l2⟩
          have L2 := Lib.hid l2
          clear l2 CT
          have hs2 := L2.out.go.size
          go_wp2_with (at_builtin; (refine wpList_append_rd rfl _ _ 86 rfl lo 3 i0 (.int .i64 0) 1 8 Tryz.underlying86 hi hz0 hz1 hz2 rfl (by decide) (.slice az ks.length cz) ks.length (ks.map (Value.int .i64)) rfl (World.ownsRow.alloc L2.out.row _) _ 1 [.int .i64 k2] rfl (RdS.new (by first | rfl | (simp; done)) rfl) (by simp [Value.oneCell']) (by unfold maxLen; omega) (by omega) (by exact Qz) ?_; intro az' cz' w4 hown hgrow hat))
          have L3 : Hid (Lp b lo a2 t v us w (.slice az' (ks.length + 1) cz') (ks ++ [k2]) v2 us2 ps2 w4) := Lib.hid (Lp.app (L2.out.fr (by exact Qf)) hlo hgrow (by simpa [IntsO] using hown) (hat.imp id fun h => ⟨_, h, by simp⟩))
          go_roundw
          case rel =>
            refine ⟨ks ++ [k2], a2, g, v2, us2, ps2, az', cz', by first | (simp; done) | (simp; omega), ?_, H3, by omega, by omega, by omega, by omega, by simp; omega⟩
            simp only [List.length_append, List.length_singleton]
            exact L3
          case measure =>
            simp only [lenV]
            omega
    · rw [if_neg hc] at H2
      have hl : isLab (nx t a') = false := by
        cases q : isLab (nx t a')
        · rfl
        · exact absurd (.inl q) hc
      have h40 : (((nx t a' : Nat) : Int) == 40) = false := by rw [beq_eq_false_iff_ne]; exact fun q => hc (.inr (by omega))
      rw [hl] at CL
      clear hl hc
      by_cases hk0 : ks.length = 0
      · have q0 : ((ks.length : Int) == 0) = true := by rw [beq_iff_eq]; omega
        rw [if_pos hk0] at H2
        subst H2
        clear hk0
        go_wp2_with fail
        refine (CN.out _ (by exact Qf)).mono ?_
        rintro e w1 ⟨rfl, hfa⟩
        go_wp2_with fail
        refine (CL.out _).mono ?_
        rintro e w2 ⟨rfl, rfl⟩
        go_wp2_with fail
        refine (CN.out _ (by exact Qf)).mono ?_
        rintro e w2 ⟨rfl, hfb⟩
        go_wp2_with fail
        refine bodyPost_ret (v := .tuple #[.int .i64 0, .bool false]) (by simp [results, Tryz.results186, go_sem, *]) rfl ⟨rfl, (L1.out.fr (w1 := w2) (by exact Qf)).go.two⟩
      · have q0 : ((ks.length : Int) == 0) = false := by rw [beq_eq_false_iff_ne]; omega
        rw [if_neg hk0] at H2
        have HR2 := Lib.hid H2
        have CG : Hid (∀ w', Fr wr w' → Calls Tryz.prog 188 #[.pointer (some ⟨b, 0, none⟩), .int .i64 2, .slice az ks.length cz] w' fun e w'' => e = .returned (.int .i64 (grp 2 ks ps').1) ∧ RdSt b lo a' t v' (.slice az ks.length cz) us' (grp 2 ks ps').2 w' w'') := Lib.hid fun w' h => group_any b lo a' t v' _ ps' us' 2 ks w' (L1.out.box.fr h) hlo (by have := h.size; omega) (L1.out.prd.fr h) (owns_fr L1.out.row h) L1.out.apt.1 (by omega) (by omega)
        clear hk0 H2
        go_wp2_with fail
        refine (CN.out _ (by exact Qf)).mono ?_
        rintro e w1 ⟨rfl, hfa⟩
        go_wp2_with fail
        refine (CL.out _).mono ?_
        rintro e w2 ⟨rfl, rfl⟩
        go_wp2_with fail
        refine (CN.out _ (by exact Qf)).mono ?_
        rintro e w2 ⟨rfl, hfb⟩
        go_wp2_with fail
        refine (CG.out _ (by exact Qf)).mono ?_
        rintro e w6 ⟨rfl, hst⟩
        have HS := Lib.hid hst
        clear hst
        go_wp2_with fail
        refine bodyPost_ret (v := .tuple #[.int .i64 (grp 2 ks ps').1, .bool true]) (by simp [results, Tryz.results186, go_sem, *]) rfl ?_
        rw [← HR2.out]
        exact ⟨rfl, Lp.done (L1.out.fr (w1 := w2) (by exact Qf)) HS.out⟩
end Go.Proofs.YtmdgdnkllclpcaaGreat

/- The program's path reader: item. Conditions: bounds on what is read. -/
namespace Go.Proofs.YtmdgdnkllclpcaaGreat
open Go.RowKit
set_option linter.unusedVariables false
set_option linter.unusedSimpArgs false
theorem row1_any (W : World) (lo n : Nat) (k : Int) (hn : n = W.heap.size) (hl : lo ≤ n) : IntsO (W.alloc (.cells #[.int .i64 k] 3)) lo (.slice (some ⟨n, 0, none⟩) 1 1) [k] := by
  subst hn
  exact ⟨by simp, .inr ⟨W.heap.size, 1, #[.int .i64 k], rfl, hl, heap_alloc_new W _, by simp, by unfold maxLen; omega, by simp, by simp⟩⟩
theorem piece1_any (b lo a n : Nat) (t : ByteArray) (v0 v : Value) (us0 us : List Value) (ps : List PieceD) (op k : Int) (w w' : World) (hlo : b < lo) (hlw : lo ≤ w.heap.size) (h : Lp b lo a t v0 us0 w (.slice none 0 0) [] v us ps w') (hr : IntsO w' lo (.slice (some ⟨n, 0, none⟩) 1 1) [k]) (hN : w.heap.size ≤ n) (hap : Apart (.slice (some ⟨n, 0, none⟩) 1 1) v) (hn : ps.length ≤ 1000) :
    Calls Tryz.prog 209 #[.pointer (some ⟨b, 0, none⟩), .agg #[.int .i64 op, .int .u8 0, .slice (some ⟨n, 0, none⟩) 1 1]] w' fun e w'' => e = .returned (.int .i64 (ps.length : Int)) ∧ ∃ v2 us2, Lp b lo a t v0 us0 w (.slice none 0 0) [] v2 us2 (ps ++ [⟨op, 0, [k]⟩]) w'' := by
  have q := piece_any b lo a t v (.slice (some ⟨n, 0, none⟩) 1 1) ps us ⟨op, 0, [k]⟩ w' h.box hlo (by have := h.go.size; omega) h.prd hr hap hn
  exact q.mono fun e w'' ⟨v2, e1, e2, e3, e4, e5⟩ => ⟨e1, v2, _, h.piece (fun g e => by simp [Value.ownBlock] at e; omega) e2 e3 e4 e5⟩
set_option maxHeartbeats 8000000 in
set_option maxRecDepth 100000 in
theorem item_any (t : ByteArray) (ht : t.size ≤ 100) (F : Nat) (IH : ∀ f, f < F → ExprC t f) : ItemC t F := by
  intro b lo a v us ps w hb hlo hlw hp hnz hf hn
  have hin := nx_in hnz
  obtain ⟨g, rfl⟩ : ∃ g, F = g + 1 := ⟨F - 1, by omega⟩
  obtain ⟨i0, hi, hz0, hz1, hz2⟩ := info_parts info_int
  obtain ⟨R, hR⟩ : ∃ R, prs t (g + 1) .item a ps = R := ⟨_, rfl⟩
  rw [hR]
  rw [prs] at hR
  have hn256 := nx_lt t a
  have hw : IntKind.i64.wrap ((a : Int) + 1) = ((a + 1 : Nat) : Int) := by rw [show (a : Int) + 1 = ((a + 1 : Nat) : Int) by omega]; exact IntWalk.i64_in _ (by omega)
  have L0 := Lib.hid (Lp.start hb hp)
  have CN : Hid (∀ w', Fr w w' → Calls Tryz.prog 187 #[.pointer (some ⟨b, 0, none⟩)] w' fun e w'' => e = .returned (.int .u8 (nx t a : Int)) ∧ Fr w' w'') := Lib.hid fun w' h => next_any b a t v w' (L0.out.box.fr h) (by omega)
  have F0 := hb.facts
  clear hb hp
  by_cases h40 : nx t a = 40
  · rw [if_pos h40] at hR
    rw [h40] at CN
    have CA := IH g (by omega) b lo (a + 1)
    clear h40
    cases hE : prs t g (.expr []) (a + 1) ps with
    | none =>
      rw [hE] at hR
      simp only [] at hR
      subst hR
      have CT : Hid (∀ w', Lp b lo (a + 1) t v us w (.slice none 0 0) [] v us ps w' → Calls Tryz.prog 154 #[.pointer (some ⟨b, 0, none⟩)] w' fun e w'' => e = .returned (.tuple #[.int .i64 0, .bool false]) ∧ Two b v.ownBlock w w'') := Lib.hid fun w' h => (CA v us ps w' h.box hlo (by have := h.go.size; omega) h.prd (by omega) (by omega) (by omega)).mono fun e w'' q => by rw [hE] at q; exact ⟨q.1, h.go.then q.2⟩
      clear CA hE IH
      go_enter Tryz.func208, Tryz.ntmps208
      go_wp2_with fail
      refine (CN.out _ (by exact Qf)).mono ?_
      rintro e w1 ⟨rfl, hfa⟩
      have L1 := Lib.hid (L0.out.fr hfa)
      have B1 := L1.out.box
      have F1 := B1.facts
      have L2 : Hid (Lp b lo (a + 1) t v us w (.slice none 0 0) [] v us ps (w1.setCell ⟨b, 1, none⟩ (.int .i64 ((a : Int) + 1)))) := Lib.hid (Lp.at_ L1.out hlo (B1.set_to (by simp)))
      clear B1
      go_wp2_with fail
      refine (CT.out _ L2.out).mono ?_
      rintro e w2 ⟨rfl, ht1⟩
      have HT := Lib.hid ht1
      clear ht1
      go_wp2_with fail
      refine bodyPost_ret (v := .tuple #[.int .i64 0, .bool false]) (by simp [results, Tryz.results208, go_sem, *]) rfl ⟨rfl, HT.out⟩
    | some r =>
      obtain ⟨k2, a2, ps2⟩ := r
      rw [hE] at hR
      simp only [] at hR
      have P1 := prs_on t g (.expr []) (a + 1) ps k2 a2 ps2 hE
      have P2 := prs_len t g (.expr []) (a + 1) ps k2 a2 ps2 hE
      have P3 := prs_in t g (.expr []) (a + 1) ps k2 a2 ps2 hE (by omega) (fun e => by cases e)
      simp only [Job.cost] at P2
      have HP1 := P1.1
      have CT : Hid (∀ w', Lp b lo (a + 1) t v us w (.slice none 0 0) [] v us ps w' → Calls Tryz.prog 154 #[.pointer (some ⟨b, 0, none⟩)] w' fun e w'' => e = .returned (.tuple #[.int .i64 k2, .bool true]) ∧ ∃ v2 us2, Lp b lo a2 t v us w (.slice none 0 0) [] v2 us2 ps2 w'') := Lib.hid fun w' h => (CA v us ps w' h.box hlo (by have := h.go.size; omega) h.prd (by omega) (by omega) (by omega)).mono fun e w'' q => by rw [hE] at q; exact ⟨q.1, h.call hlo q.2⟩
      clear CA hE IH P1
      go_enter Tryz.func208, Tryz.ntmps208
      go_wp2_with fail
      refine (CN.out _ (by exact Qf)).mono ?_
      rintro e w1 ⟨rfl, hfa⟩
      have L1 := Lib.hid (L0.out.fr hfa)
      have B1 := L1.out.box
      have F1 := B1.facts
      have L2 : Hid (Lp b lo (a + 1) t v us w (.slice none 0 0) [] v us ps (w1.setCell ⟨b, 1, none⟩ (.int .i64 ((a : Int) + 1)))) := Lib.hid (Lp.at_ L1.out hlo (B1.set_to (by simp)))
      clear B1
      go_wp2_with fail
      refine (CT.out _ L2.out).mono ?_
      rintro e w2 ⟨rfl, v2, us2, l3⟩
      have L3 := Lib.hid l3
      clear l3
      have CM : Hid (∀ w', Fr w2 w' → Calls Tryz.prog 187 #[.pointer (some ⟨b, 0, none⟩)] w' fun e w'' => e = .returned (.int .u8 (nx t a2 : Int)) ∧ Fr w' w'') := Lib.hid fun w' h => next_any b a2 t v2 w' (L3.out.box.fr h) (by omega)
      by_cases h41 : nx t a2 = 41
      · rw [if_pos h41] at hR
        have HR := Lib.hid hR
        rw [h41] at CM
        have hin2 := nx_in (t := t) (a := a2) (by omega)
        have hw2 : IntKind.i64.wrap ((a2 : Int) + 1) = ((a2 + 1 : Nat) : Int) := by rw [show (a2 : Int) + 1 = ((a2 + 1 : Nat) : Int) by omega]; exact IntWalk.i64_in _ (by omega)
        clear hR h41
        go_wp2_with fail
        refine (CM.out _ (by exact Qf)).mono ?_
        rintro e w3 ⟨rfl, hfc⟩
        have L4 := Lib.hid (L3.out.fr hfc)
        have B4 := L4.out.box
        have F4 := B4.facts
        have L5 : Hid (Lp b lo (a2 + 1) t v us w (.slice none 0 0) [] v2 us2 ps2 (w3.setCell ⟨b, 1, none⟩ (.int .i64 ((a2 : Int) + 1)))) := Lib.hid (Lp.at_ L4.out hlo (B4.set_to (by simp)))
        clear B4 L3
        have L3 := L5
        go_wp2_with fail
        go_loopw [5, 8, 47, 49, 51] (fun z _ _ _ _ wr => ∃ (k : Int) (a' f' : Nat) (v' : Value) (us' : List Value) (ps' : List PieceD), z = .int .i64 k ∧ Hid (Lp b lo a' t v us w (.slice none 0 0) [] v' us' ps' wr) ∧ Hid (prs t f' (.post k) a' ps' = R) ∧ a' ≤ t.size ∧ t.size - a' + 1 ≤ f' ∧ ps'.length + 2 * (t.size - a') ≤ 900) (fun _ _ _ _ _ wr => t.size + 1 - (intOf ((wr.cell? ⟨b, 1, none⟩).getD (.int .i64 0))).toNat)
        case atStart => exact ⟨_, a2 + 1, g, v2, us2, _, rfl, L3, HR, by omega, by omega, by omega⟩
        case round =>
          clear L3 HR
          obtain ⟨k, a', f', v', us', ps', rfl, L3, H1, ha1, hf2, hn1⟩ := hrel
          obtain ⟨g', rfl⟩ : ∃ g', f' = g' + 1 := ⟨f' - 1, by omega⟩
          have H2 := H1.out
          rw [prs] at H2
          have hsz := L3.out.go.size
          have CN2 : Hid (∀ w', Fr wr w' → Calls Tryz.prog 187 #[.pointer (some ⟨b, 0, none⟩)] w' fun e w'' => e = .returned (.int .u8 (nx t a' : Int)) ∧ Fr w' w'') := Lib.hid fun w' h => next_any b a' t v' w' (L3.out.box.fr h) (by omega)
          by_cases h42 : nx t a' = 42
          · rw [h42] at CN2
            have hin2 := nx_in (t := t) (a := a') (by omega)
            have hw2 : IntKind.i64.wrap ((a' : Int) + 1) = ((a' + 1 : Nat) : Int) := by rw [show (a' : Int) + 1 = ((a' + 1 : Nat) : Int) by omega]; exact IntWalk.i64_in _ (by omega)
            have H3 : Hid (prs t g' (.post (ps'.length : Int)) (a' + 1) (ps' ++ [⟨4, 0, [k]⟩]) = R) := by
              simp [h42] at H2
              exact Lib.hid H2
            clear H2 h42 H1
            go_wp2_with fail
            refine (CN2.out _ (by exact Qf)).mono ?_
            rintro e w4 ⟨rfl, hfb⟩
            have L4 := Lib.hid (L3.out.fr (w1 := w4) (by exact Qf))
            have B4 := L4.out.box
            have F4 := B4.facts
            have L5 : Hid (Lp b lo (a' + 1) t v us w (.slice none 0 0) [] v' us' ps' (w4.setCell ⟨b, 1, none⟩ (.int .i64 ((a' : Int) + 1)))) := Lib.hid (Lp.at_ L4.out hlo (B4.set_to (by simp)))
            clear B4
            go_wp2_with fail
            have hs4 := L5.out.go.size
            have hs5 : (w4.setCell ⟨b, 1, none⟩ (.int .i64 ((a' : Int) + 1))).heap.size = w4.heap.size := by simp
            refine (piece1_any b lo (a' + 1) w4.heap.size t v v' us us' ps' 4 k w _ hlo hlw (L5.out.fr (by exact Qf)) (row1_any _ lo _ k (by simp) (by omega)) (by omega) (fun g e1 e2 => by have := (World.ownsRow.lt L5.out.prd.own g e2).2; simp [Value.ownBlock] at e1; omega) (by omega)).mono ?_
            rintro e w6 ⟨rfl, v6, us6, l6⟩
            have L6 := Lib.hid l6
            have F6 := l6.box.facts
            clear l6
            go_wp2_with fail
            go_roundw
            case rel => exact ⟨_, a' + 1, g', v6, us6, _, rfl, L6, H3, by omega, by omega, by simp; omega⟩
            case measure =>
              have F3 := L3.out.box.facts
              simp [intOf, *]
              omega
          · by_cases h43 : nx t a' = 43
            · rw [h43] at CN2
              have hin2 := nx_in (t := t) (a := a') (by omega)
              have hw2 : IntKind.i64.wrap ((a' : Int) + 1) = ((a' + 1 : Nat) : Int) := by rw [show (a' : Int) + 1 = ((a' + 1 : Nat) : Int) by omega]; exact IntWalk.i64_in _ (by omega)
              have H3 : Hid (prs t g' (.post (ps'.length : Int)) (a' + 1) (ps' ++ [⟨5, 0, [k]⟩]) = R) := by
                simp [h43] at H2
                exact Lib.hid H2
              clear H2 h43 H1
              go_wp2_with fail
              refine (CN2.out _ (by exact Qf)).mono ?_
              rintro e w4 ⟨rfl, hfb⟩
              have L4 := Lib.hid (L3.out.fr (w1 := w4) (by exact Qf))
              have B4 := L4.out.box
              have F4 := B4.facts
              have L5 : Hid (Lp b lo (a' + 1) t v us w (.slice none 0 0) [] v' us' ps' (w4.setCell ⟨b, 1, none⟩ (.int .i64 ((a' : Int) + 1)))) := Lib.hid (Lp.at_ L4.out hlo (B4.set_to (by simp)))
              clear B4
              go_wp2_with fail
              have hs4 := L5.out.go.size
              have hs5 : (w4.setCell ⟨b, 1, none⟩ (.int .i64 ((a' : Int) + 1))).heap.size = w4.heap.size := by simp
              refine (piece1_any b lo (a' + 1) w4.heap.size t v v' us us' ps' 5 k w _ hlo hlw (L5.out.fr (by exact Qf)) (row1_any _ lo _ k (by simp) (by omega)) (by omega) (fun g e1 e2 => by have := (World.ownsRow.lt L5.out.prd.own g e2).2; simp [Value.ownBlock] at e1; omega) (by omega)).mono ?_
              rintro e w6 ⟨rfl, v6, us6, l6⟩
              have L6 := Lib.hid l6
              have F6 := l6.box.facts
              clear l6
              go_wp2_with fail
              go_roundw
              case rel => exact ⟨_, a' + 1, g', v6, us6, _, rfl, L6, H3, by omega, by omega, by simp; omega⟩
              case measure =>
                have F3 := L3.out.box.facts
                simp [intOf, *]
                omega
            · by_cases h63 : nx t a' = 63
              · rw [h63] at CN2
                have hin2 := nx_in (t := t) (a := a') (by omega)
                have hw2 : IntKind.i64.wrap ((a' : Int) + 1) = ((a' + 1 : Nat) : Int) := by rw [show (a' : Int) + 1 = ((a' + 1 : Nat) : Int) by omega]; exact IntWalk.i64_in _ (by omega)
                have H3 : Hid (prs t g' (.post (ps'.length : Int)) (a' + 1) (ps' ++ [⟨6, 0, [k]⟩]) = R) := by
                  simp [h63] at H2
                  exact Lib.hid H2
                clear H2 h63 H1
                go_wp2_with fail
                refine (CN2.out _ (by exact Qf)).mono ?_
                rintro e w4 ⟨rfl, hfb⟩
                have L4 := Lib.hid (L3.out.fr (w1 := w4) (by exact Qf))
                have B4 := L4.out.box
                have F4 := B4.facts
                have L5 : Hid (Lp b lo (a' + 1) t v us w (.slice none 0 0) [] v' us' ps' (w4.setCell ⟨b, 1, none⟩ (.int .i64 ((a' : Int) + 1)))) := Lib.hid (Lp.at_ L4.out hlo (B4.set_to (by simp)))
                clear B4
                go_wp2_with fail
                have hs4 := L5.out.go.size
                have hs5 : (w4.setCell ⟨b, 1, none⟩ (.int .i64 ((a' : Int) + 1))).heap.size = w4.heap.size := by simp
                refine (piece1_any b lo (a' + 1) w4.heap.size t v v' us us' ps' 6 k w _ hlo hlw (L5.out.fr (by exact Qf)) (row1_any _ lo _ k (by simp) (by omega)) (by omega) (fun g e1 e2 => by have := (World.ownsRow.lt L5.out.prd.own g e2).2; simp [Value.ownBlock] at e1; omega) (by omega)).mono ?_
                rintro e w6 ⟨rfl, v6, us6, l6⟩
                have L6 := Lib.hid l6
                have F6 := l6.box.facts
                clear l6
                go_wp2_with fail
                go_roundw
                case rel => exact ⟨_, a' + 1, g', v6, us6, _, rfl, L6, H3, by omega, by omega, by simp; omega⟩
                case measure =>
                  have F3 := L3.out.box.facts
                  simp [intOf, *]
                  omega
              · have q1 : (((nx t a' : Nat) : Int) == 42) = false := by rw [beq_eq_false_iff_ne]; omega
                have q2 : (((nx t a' : Nat) : Int) == 43) = false := by rw [beq_eq_false_iff_ne]; omega
                have q3 : (((nx t a' : Nat) : Int) == 63) = false := by rw [beq_eq_false_iff_ne]; omega
                rw [if_neg h42, if_neg h43, if_neg h63] at H2
                have HR2 := Lib.hid H2
                clear H2 h42 h43 h63 H1
                go_wp2_with fail
                refine (CN2.out _ (by exact Qf)).mono ?_
                rintro e w4 ⟨rfl, hfb⟩
                go_wp2_with fail
                refine bodyPost_ret (v := .tuple #[.int .i64 k, .bool true]) (by simp [results, Tryz.results208, go_sem, *]) rfl ?_
                rw [← HR2.out]
                have L9 := L3.out.fr (w1 := w4) (by exact Qf)
                exact ⟨rfl, v', us', L9.box, L9.prd, L9.go, fun y hy ha _ => L9.old y hy ha⟩
      · rw [if_neg h41] at hR
        subst hR
        have q41 : (((nx t a2 : Nat) : Int) == 41) = false := by rw [beq_eq_false_iff_ne]; omega
        clear h41
        go_wp2_with fail
        refine (CM.out _ (by exact Qf)).mono ?_
        rintro e w3 ⟨rfl, hfc⟩
        go_wp2_with fail
        refine bodyPost_ret (v := .tuple #[.int .i64 0, .bool false]) (by simp [results, Tryz.results208, go_sem, *]) rfl ⟨rfl, (L3.out.fr hfc).go.two⟩
  · rw [if_neg h40] at hR
    have HR := Lib.hid hR
    have q40 : (((nx t a : Nat) : Int) == 40) = false := by rw [beq_eq_false_iff_ne]; omega
    have ex : (UInt8.ofNat (nx t a)).toNat = nx t a := by simp [UInt8.toNat_ofNat, Nat.mod_eq_of_lt hn256]
    have CP : Hid (∀ v' us' w', Lp b lo (a + 1) t v us w (.slice none 0 0) [] v' us' ps w' → Calls Tryz.prog 209 #[.pointer (some ⟨b, 0, none⟩), .agg #[.int .i64 1, .int .u8 (nx t a : Int), .slice none 0 0]] w' fun e w'' => e = .returned (.int .i64 (ps.length : Int)) ∧ ∃ v2 us2, Lp b lo (a + 1) t v us w (.slice none 0 0) [] v2 us2 (ps ++ [⟨1, UInt8.ofNat (nx t a), []⟩]) w'') := Lib.hid fun v' us' w' h => by
      have q := piece_any b lo (a + 1) t v' (.slice none 0 0) ps us' ⟨1, UInt8.ofNat (nx t a), []⟩ w' h.box hlo (by have := h.go.size; omega) h.prd (World.ownsRow_nil _ _ _ _) (fun g e _ => by simp [Value.ownBlock] at e) (by omega)
      simp only [ex] at q
      exact q.mono fun e w'' ⟨v2, e1, e2, e3, e4, e5⟩ => ⟨e1, v2, _, h.piece (fun g e => by simp [Value.ownBlock] at e) e2 e3 e4 e5⟩
    clear hR h40 ex
    go_enter Tryz.func208, Tryz.ntmps208
    go_wp2_with fail
    refine (CN.out _ (by exact Qf)).mono ?_
    rintro e w1 ⟨rfl, hfa⟩
    have L1 := Lib.hid (L0.out.fr hfa)
    have B1 := L1.out.box
    have F1 := B1.facts
    have L2 : Hid (Lp b lo (a + 1) t v us w (.slice none 0 0) [] v us ps (w1.setCell ⟨b, 1, none⟩ (.int .i64 ((a : Int) + 1)))) := Lib.hid (Lp.at_ L1.out hlo (B1.set_to (by simp)))
    clear B1
    go_wp2_with fail
    refine (CP.out _ _ _ L2.out).mono ?_
    rintro e w2 ⟨rfl, v2, us2, l3⟩
    have L3 := Lib.hid l3
    clear l3
    go_wp2_with fail
    go_loopw [5, 8, 47, 49, 51] (fun z _ _ _ _ wr => ∃ (k : Int) (a' f' : Nat) (v' : Value) (us' : List Value) (ps' : List PieceD), z = .int .i64 k ∧ Hid (Lp b lo a' t v us w (.slice none 0 0) [] v' us' ps' wr) ∧ Hid (prs t f' (.post k) a' ps' = R) ∧ a' ≤ t.size ∧ t.size - a' + 1 ≤ f' ∧ ps'.length + 2 * (t.size - a') ≤ 900) (fun _ _ _ _ _ wr => t.size + 1 - (intOf ((wr.cell? ⟨b, 1, none⟩).getD (.int .i64 0))).toNat)
    case atStart => exact ⟨_, a + 1, g, v2, us2, _, rfl, L3, HR, by omega, by omega, by simp; omega⟩
    case round =>
      clear L3 HR
      obtain ⟨k, a', f', v', us', ps', rfl, L3, H1, ha1, hf2, hn1⟩ := hrel
      obtain ⟨g', rfl⟩ : ∃ g', f' = g' + 1 := ⟨f' - 1, by omega⟩
      have H2 := H1.out
      rw [prs] at H2
      have hsz := L3.out.go.size
      have CN2 : Hid (∀ w', Fr wr w' → Calls Tryz.prog 187 #[.pointer (some ⟨b, 0, none⟩)] w' fun e w'' => e = .returned (.int .u8 (nx t a' : Int)) ∧ Fr w' w'') := Lib.hid fun w' h => next_any b a' t v' w' (L3.out.box.fr h) (by omega)
      by_cases h42 : nx t a' = 42
      · rw [h42] at CN2
        have hin2 := nx_in (t := t) (a := a') (by omega)
        have hw2 : IntKind.i64.wrap ((a' : Int) + 1) = ((a' + 1 : Nat) : Int) := by rw [show (a' : Int) + 1 = ((a' + 1 : Nat) : Int) by omega]; exact IntWalk.i64_in _ (by omega)
        have H3 : Hid (prs t g' (.post (ps'.length : Int)) (a' + 1) (ps' ++ [⟨4, 0, [k]⟩]) = R) := by
          simp [h42] at H2
          exact Lib.hid H2
        clear H2 h42 H1
        go_wp2_with fail
        refine (CN2.out _ (by exact Qf)).mono ?_
        rintro e w4 ⟨rfl, hfb⟩
        have L4 := Lib.hid (L3.out.fr (w1 := w4) (by exact Qf))
        have B4 := L4.out.box
        have F4 := B4.facts
        have L5 : Hid (Lp b lo (a' + 1) t v us w (.slice none 0 0) [] v' us' ps' (w4.setCell ⟨b, 1, none⟩ (.int .i64 ((a' : Int) + 1)))) := Lib.hid (Lp.at_ L4.out hlo (B4.set_to (by simp)))
        clear B4
        go_wp2_with fail
        have hs4 := L5.out.go.size
        have hs5 : (w4.setCell ⟨b, 1, none⟩ (.int .i64 ((a' : Int) + 1))).heap.size = w4.heap.size := by simp
        refine (piece1_any b lo (a' + 1) w4.heap.size t v v' us us' ps' 4 k w _ hlo hlw (L5.out.fr (by exact Qf)) (row1_any _ lo _ k (by simp) (by omega)) (by omega) (fun g e1 e2 => by have := (World.ownsRow.lt L5.out.prd.own g e2).2; simp [Value.ownBlock] at e1; omega) (by omega)).mono ?_
        rintro e w6 ⟨rfl, v6, us6, l6⟩
        have L6 := Lib.hid l6
        have F6 := l6.box.facts
        clear l6
        go_wp2_with fail
        go_roundw
        case rel => exact ⟨_, a' + 1, g', v6, us6, _, rfl, L6, H3, by omega, by omega, by simp; omega⟩
        case measure =>
          have F3 := L3.out.box.facts
          simp [intOf, *]
          omega
      · by_cases h43 : nx t a' = 43
        · rw [h43] at CN2
          have hin2 := nx_in (t := t) (a := a') (by omega)
          have hw2 : IntKind.i64.wrap ((a' : Int) + 1) = ((a' + 1 : Nat) : Int) := by rw [show (a' : Int) + 1 = ((a' + 1 : Nat) : Int) by omega]; exact IntWalk.i64_in _ (by omega)
          have H3 : Hid (prs t g' (.post (ps'.length : Int)) (a' + 1) (ps' ++ [⟨5, 0, [k]⟩]) = R) := by
            simp [h43] at H2
            exact Lib.hid H2
          clear H2 h43 H1
          go_wp2_with fail
          refine (CN2.out _ (by exact Qf)).mono ?_
          rintro e w4 ⟨rfl, hfb⟩
          have L4 := Lib.hid (L3.out.fr (w1 := w4) (by exact Qf))
          have B4 := L4.out.box
          have F4 := B4.facts
          have L5 : Hid (Lp b lo (a' + 1) t v us w (.slice none 0 0) [] v' us' ps' (w4.setCell ⟨b, 1, none⟩ (.int .i64 ((a' : Int) + 1)))) := Lib.hid (Lp.at_ L4.out hlo (B4.set_to (by simp)))
          clear B4
          go_wp2_with fail
          have hs4 := L5.out.go.size
          have hs5 : (w4.setCell ⟨b, 1, none⟩ (.int .i64 ((a' : Int) + 1))).heap.size = w4.heap.size := by simp
          refine (piece1_any b lo (a' + 1) w4.heap.size t v v' us us' ps' 5 k w _ hlo hlw (L5.out.fr (by exact Qf)) (row1_any _ lo _ k (by simp) (by omega)) (by omega) (fun g e1 e2 => by have := (World.ownsRow.lt L5.out.prd.own g e2).2; simp [Value.ownBlock] at e1; omega) (by omega)).mono ?_
          rintro e w6 ⟨rfl, v6, us6, l6⟩
          have L6 := Lib.hid l6
          have F6 := l6.box.facts
          clear l6
          go_wp2_with fail
          go_roundw
          case rel => exact ⟨_, a' + 1, g', v6, us6, _, rfl, L6, H3, by omega, by omega, by simp; omega⟩
          case measure =>
            have F3 := L3.out.box.facts
            simp [intOf, *]
            omega
        · by_cases h63 : nx t a' = 63
          · rw [h63] at CN2
            have hin2 := nx_in (t := t) (a := a') (by omega)
            have hw2 : IntKind.i64.wrap ((a' : Int) + 1) = ((a' + 1 : Nat) : Int) := by rw [show (a' : Int) + 1 = ((a' + 1 : Nat) : Int) by omega]; exact IntWalk.i64_in _ (by omega)
            have H3 : Hid (prs t g' (.post (ps'.length : Int)) (a' + 1) (ps' ++ [⟨6, 0, [k]⟩]) = R) := by
              simp [h63] at H2
              exact Lib.hid H2
            clear H2 h63 H1
            go_wp2_with fail
            refine (CN2.out _ (by exact Qf)).mono ?_
            rintro e w4 ⟨rfl, hfb⟩
            have L4 := Lib.hid (L3.out.fr (w1 := w4) (by exact Qf))
            have B4 := L4.out.box
            have F4 := B4.facts
            have L5 : Hid (Lp b lo (a' + 1) t v us w (.slice none 0 0) [] v' us' ps' (w4.setCell ⟨b, 1, none⟩ (.int .i64 ((a' : Int) + 1)))) := Lib.hid (Lp.at_ L4.out hlo (B4.set_to (by simp)))
            clear B4
            go_wp2_with fail
            have hs4 := L5.out.go.size
            have hs5 : (w4.setCell ⟨b, 1, none⟩ (.int .i64 ((a' : Int) + 1))).heap.size = w4.heap.size := by simp
            refine (piece1_any b lo (a' + 1) w4.heap.size t v v' us us' ps' 6 k w _ hlo hlw (L5.out.fr (by exact Qf)) (row1_any _ lo _ k (by simp) (by omega)) (by omega) (fun g e1 e2 => by have := (World.ownsRow.lt L5.out.prd.own g e2).2; simp [Value.ownBlock] at e1; omega) (by omega)).mono ?_
            rintro e w6 ⟨rfl, v6, us6, l6⟩
            have L6 := Lib.hid l6
            have F6 := l6.box.facts
            clear l6
            go_wp2_with fail
            go_roundw
            case rel => exact ⟨_, a' + 1, g', v6, us6, _, rfl, L6, H3, by omega, by omega, by simp; omega⟩
            case measure =>
              have F3 := L3.out.box.facts
              simp [intOf, *]
              omega
          · have q1 : (((nx t a' : Nat) : Int) == 42) = false := by rw [beq_eq_false_iff_ne]; omega
            have q2 : (((nx t a' : Nat) : Int) == 43) = false := by rw [beq_eq_false_iff_ne]; omega
            have q3 : (((nx t a' : Nat) : Int) == 63) = false := by rw [beq_eq_false_iff_ne]; omega
            rw [if_neg h42, if_neg h43, if_neg h63] at H2
            have HR2 := Lib.hid H2
            clear H2 h42 h43 h63 H1
            go_wp2_with fail
            refine (CN2.out _ (by exact Qf)).mono ?_
            rintro e w4 ⟨rfl, hfb⟩
            go_wp2_with fail
            refine bodyPost_ret (v := .tuple #[.int .i64 k, .bool true]) (by simp [results, Tryz.results208, go_sem, *]) rfl ?_
            rw [← HR2.out]
            have L9 := L3.out.fr (w1 := w4) (by exact Qf)
            exact ⟨rfl, v', us', L9.box, L9.prd, L9.go, fun y hy ha _ => L9.old y hy ha⟩
theorem reader_any (t : ByteArray) (ht : t.size ≤ 100) (F : Nat) : ItemC t F ∧ AltC t F ∧ ExprC t F := by
  induction F using Nat.strongRecOn with
  | ind F ih => exact ⟨item_any t ht F fun f h => (ih f h).2.2, alt_any t ht F fun f h => (ih f h).1, expr_any t ht F fun f h => (ih f h).2.1⟩
end Go.Proofs.YtmdgdnkllclpcaaGreat

/- ReadPath of the program: rpM. No condition but the size of a text. -/
namespace Go.Proofs.YtmdgdnkllclpcaaGreat
open Go.RowKit
set_option linter.unusedVariables false
set_option linter.unusedSimpArgs false
def zipP : List PieceD → List Value → List (List Value)
  | d :: ps, u :: us => [.int .i64 d.f0, .int .u8 (d.f1.toNat : Int), u] :: zipP ps us
  | _, _ => []
theorem zipP_flat : ∀ (ps : List PieceD) (us : List Value), (zipP ps us).flatten = pcells ps us
  | [], [] => rfl
  | [], _ :: _ => rfl
  | _ :: _, [] => rfl
  | d :: ps, u :: us => by
    rw [zipP, pcells, List.flatten_cons, zipP_flat ps us]
    rfl
theorem zipP_len : ∀ (ps : List PieceD) (us : List Value), us.length = ps.length → (zipP ps us).length = ps.length
  | [], [], _ => rfl
  | [], _ :: _, h => by simp at h
  | _ :: _, [], h => by simp at h
  | d :: ps, u :: us, h => by
    rw [zipP, List.length_cons, List.length_cons, zipP_len ps us (by simpa using h)]
theorem zipP_at : ∀ (ps : List PieceD) (us : List Value) (k : Nat) (c : List Value) (x : PieceD), us.length = ps.length → (zipP ps us)[k]? = some c → ps[k]? = some x → c = [.int .i64 x.f0, .int .u8 (x.f1.toNat : Int), nAt us k]
  | [], _, k, c, x, _, _, h => by simp at h
  | _ :: _, [], _, _, _, h, _, _ => by simp at h
  | d :: ps, u :: us, 0, c, x, _, h1, h2 => by
    simp [zipP] at h1 h2
    subst h2
    rw [← h1]
    rfl
  | d :: ps, u :: us, k + 1, c, x, h, h1, h2 => by
    simp [zipP] at h1 h2
    have := zipP_at ps us k c x (by simpa using h) h1 h2
    rw [this]
    congr 1
theorem Prd.rd {w : World} {lo : Nat} {v : Value} {ps : List PieceD} {us : List Value} (h : Prd w lo v ps us) : PiecesR w v ps := by
  refine ⟨zipP ps us, zipP_len _ _ h.len, ?_, fun k c x hc hx => ?_⟩
  · rw [zipP_flat]
    exact RdS.of_owns h.own
  · have e := zipP_at ps us k c x h.len hc hx
    have hk : k < ps.length := (List.getElem?_eq_some_iff.1 hx).1
    have ex : nAt ps k = x := by
      have := nAt_get hk
      rw [hx] at this
      exact (Option.some.inj this).symm
    refine ⟨by rw [e]; rfl, nAt us k, e, ?_⟩
    rw [← ex]
    exact IntsO.rd (h.kid k hk).1
theorem PiecesR.nil (w : World) : PiecesR w (.slice none 0 0) [] := (Prd.none w 0).rd
theorem Two.fr_new {w w1 w2 : World} {b : Nat} (h1 : Fr w w1) (hb : w.heap.size ≤ b) (h : Two b none w1 w2) : Fr w w2 :=
  ⟨h.os.trans h1.out.os, h.tape.trans h1.out.tape, h.output.trans h1.out.output, Nat.le_trans h1.size h.size, fun i hi => by
    rw [h.block i (Nat.lt_of_lt_of_le hi h1.size) (by omega) (fun e => by cases e)]
    exact h1.out.block i hi⟩
set_option maxHeartbeats 8000000 in
set_option maxRecDepth 100000 in
theorem implReadPath_any (t : ByteArray) (w : World) (ht : t.size ≤ 9223372036854775807) :
    Calls Tryz.prog 97 #[.string t] w fun e w' => ∃ v, e = .returned (.tuple #[.agg #[v], .bool (rpM t).2]) ∧ PiecesR w' v (rpM t).1 ∧ Fr w w' := by
  by_cases hs : 20 < t.size
  · have HM : Hid (rpM t = ([], false)) := Lib.hid (by unfold rpM; rw [if_pos hs])
    have q : decide (20 < (t.size : Int)) = true := decide_eq_true (by omega)
    clear hs
    go_enter Tryz.func97, Tryz.ntmps97
    go_wp2_with fail
    refine bodyPost_ret (v := .tuple #[.agg #[.slice none 0 0], .bool false]) (by simp [results, Tryz.results97, go_sem, *]) rfl ?_
    rw [HM.out]
    exact ⟨_, rfl, PiecesR.nil _, by exact Qf⟩
  · have q : decide (20 < (t.size : Int)) = false := decide_eq_false (by omega)
    have hs2 : t.size ≤ 20 := by omega
    obtain ⟨F, hFF⟩ : ∃ F : Nat, F = 100 := ⟨_, rfl⟩
    have hM : rpM t = rpG t (prs t F (.expr []) 0 []) := by unfold rpM; rw [if_neg hs, hFF]
    obtain ⟨R, hR⟩ : ∃ R, prs t F (.expr []) 0 [] = R := ⟨_, rfl⟩
    have HM : Hid (rpM t = rpG t R) := Lib.hid (by rw [hM, hR])
    clear hM
    have CE : Hid (∀ w', Box w' (w.heap.size + 1) #[.string t, .int .i64 0, .slice none 0 0] 201 → Calls Tryz.prog 154 #[.pointer (some ⟨w.heap.size + 1, 0, none⟩)] w' (RPost (w.heap.size + 1) (w.heap.size + 2) t (.slice none 0 0) [] w' R)) := Lib.hid fun w' h => by
      have := (reader_any t (by omega) F).2.2 (w.heap.size + 1) (w.heap.size + 2) 0 (.slice none 0 0) [] [] w' h (by omega) (by have := h.lt; omega) (Prd.none _ _) (by omega) (by omega) (by simp; omega)
      rw [hR] at this
      exact this
    clear hs hR hFF
    cases R with
    | none =>
      go_enter Tryz.func97, Tryz.ntmps97
      go_wp2_with fail
      refine (CE.out _ (Box.new' (by simp))).mono ?_
      rintro e w1 ⟨rfl, ht1⟩
      have HF : Fr w w1 := Two.fr_new (b := w.heap.size + 1) (by exact Qf) (by omega) ht1
      have B0 : Box w1 w.heap.size #[.slice none 0 0] 138 := ht1.box ((Box.new _ _ _).alloc _) (by omega) (by simp [Value.ownBlock])
      have F0 := B0.facts
      clear ht1
      go_wp2_with fail
      refine bodyPost_ret (v := .tuple #[.agg #[.slice none 0 0], .bool false]) (by simp [results, Tryz.results97, go_sem, *]) rfl ?_
      rw [HM.out]
      exact ⟨_, rfl, PiecesR.nil _, by exact Qf⟩
    | some r =>
      obtain ⟨k, a, ps⟩ := r
      have HM2 : Hid (rpM t = if a = t.size ∧ pathB ps = true then (ps, true) else ([], false)) := HM
      clear HM
      go_enter Tryz.func97, Tryz.ntmps97
      go_wp2_with fail
      refine (CE.out _ (Box.new' (by simp))).mono ?_
      rintro e w1 ⟨rfl, v', us', hb1, hp1, hg1, _⟩
      have HF : Fr w w1 := Two.fr_new (b := w.heap.size + 1) (by exact Qf) (by omega) hg1.two
      have HP := Lib.hid hp1.rd
      have HPr := Lib.hid hp1
      have hlen : ps.length ≤ 9223372036854775807 := NestR.le HP.out
      have F1 := hb1.facts
      have B0 : Box w1 w.heap.size #[.slice none 0 0] 138 := hg1.two.box ((Box.new _ _ _).alloc _) (by omega) (by simp [Value.ownBlock])
      have F0 := B0.facts
      obtain ⟨av, cv, rfl⟩ := hp1.val
      clear hg1 hp1 hb1
      by_cases ha : a = t.size
      · subst ha
        have CP : Hid (∀ w', Fr w1 w' → Calls Tryz.prog 155 #[.agg #[.slice av ps.length cv]] w' fun e w'' => e = .returned (.bool (pathB ps)) ∧ Fr w' w'') := Lib.hid fun w' h => implPathOk_any _ ps w' (HP.out.fr h)
        obtain ⟨pb, hpb⟩ : ∃ pb, pathB ps = pb := ⟨_, rfl⟩
        rw [hpb] at CP HM2
        clear hpb
        cases pb
        · go_wp2_with fail
          refine (CP.out _ (by exact Qf)).mono ?_
          rintro e w2 ⟨rfl, hf2⟩
          have F02 := (B0.fr hf2).facts
          go_wp2_with fail
          refine bodyPost_ret (v := .tuple #[.agg #[.slice none 0 0], .bool false]) (by simp [results, Tryz.results97, go_sem, *]) rfl ?_
          rw [HM2.out, if_neg (by simp)]
          exact ⟨_, rfl, PiecesR.nil _, by exact Qf⟩
        · go_wp2_with fail
          refine (CP.out _ (by exact Qf)).mono ?_
          rintro e w2 ⟨rfl, hf2⟩
          have F02 := (B0.fr hf2).facts
          have k2 := hf2.blk (w.heap.size + 1) (by exact Qz)
          go_wp2_with fail
          refine bodyPost_ret (v := .tuple #[.agg #[.slice av ps.length cv], .bool true]) (by simp [results, Tryz.results97, go_sem, *]) rfl ?_
          rw [HM2.out, if_pos (by simp)]
          exact ⟨_, rfl, (Prd.set (HPr.out.fr hf2) (by show w.heap.size < w.heap.size + 2; omega) _).rd, by exact Qf⟩
      · have q2 : ((a : Int) != (t.size : Int)) = true := by rw [bne_iff_ne]; omega
        have HM3 : Hid (rpM t = ([], false)) := Lib.hid (by rw [HM2.out, if_neg (fun h => ha h.1)])
        clear ha
        go_wp2_with fail
        refine bodyPost_ret (v := .tuple #[.agg #[.slice none 0 0], .bool false]) (by simp [results, Tryz.results97, go_sem, *]) rfl ?_
        rw [HM3.out]
        exact ⟨_, rfl, PiecesR.nil _, by exact Qf⟩
end Go.Proofs.YtmdgdnkllclpcaaGreat

/- The reading of a path, plain: what the reference's reader does with a text; on the whole it reads as the program's does. No condition. -/
namespace Go.Proofs.YtmdgdnkllclpcaaGreat
open Go.RowKit
set_option linter.unusedVariables false
set_option linter.unusedSimpArgs false
/-- The reference's reader: as prs, but a row ends only at the end, at a bar, at a closing bracket. -/
def srs (t : ByteArray) : Nat → Job → Nat → List PieceD → Option (Int × Nat × List PieceD)
  | 0, _, _, _ => none
  | f + 1, .item, a, ps =>
    if nx t a = 40 then
      match srs t f (.expr []) (a + 1) ps with
      | none => none
      | some (k, a1, ps1) => if nx t a1 = 41 then srs t f (.post k) (a1 + 1) ps1 else none
    else srs t f (.post (ps.length : Int)) (a + 1) (ps ++ [⟨1, UInt8.ofNat (nx t a), []⟩])
  | f + 1, .post k, a, ps =>
    if nx t a = 42 then srs t f (.post (ps.length : Int)) (a + 1) (ps ++ [⟨4, 0, [k]⟩])
    else if nx t a = 43 then srs t f (.post (ps.length : Int)) (a + 1) (ps ++ [⟨5, 0, [k]⟩])
    else if nx t a = 63 then srs t f (.post (ps.length : Int)) (a + 1) (ps ++ [⟨6, 0, [k]⟩])
    else some (k, a, ps)
  | f + 1, .alt ks, a, ps =>
    if isLab (nx t a) = true ∨ nx t a = 40 then
      match srs t f .item a ps with
      | none => none
      | some (k, a1, ps1) => srs t f (.alt (ks ++ [k])) a1 ps1
    else if ks.length = 0 then none else if t.size ≤ a ∨ nx t a = 124 ∨ nx t a = 41 then some ((grp 2 ks ps).1, a, (grp 2 ks ps).2) else none
  | f + 1, .expr ks, a, ps =>
    match srs t f (.alt []) a ps with
    | none => none
    | some (k, a1, ps1) =>
      if nx t a1 = 124 then srs t f (.expr (ks ++ [k])) (a1 + 1) ps1
      else some ((grp 3 (ks ++ [k]) ps1).1, a1, (grp 3 (ks ++ [k]) ps1).2)
theorem srs_prs (t : ByteArray) : ∀ (f : Nat) (j : Job) (a : Nat) (ps : List PieceD) (r : Int × Nat × List PieceD), srs t f j a ps = some r → prs t f j a ps = some r := by
  intro f
  induction f with
  | zero => intro j a ps r h; rw [srs] at h; cases h
  | succ f ih =>
    intro j a ps r h
    cases j with
    | item =>
      rw [srs] at h
      rw [prs]
      split at h
      · rename_i h40
        rw [if_pos h40]
        cases hE : srs t f (.expr []) (a + 1) ps with
        | none => rw [hE] at h; cases h
        | some q =>
          obtain ⟨k2, a2, ps2⟩ := q
          rw [hE] at h
          rw [ih _ _ _ _ hE]
          simp only [] at h ⊢
          split at h
          · rename_i h41
            rw [if_pos h41]
            exact ih _ _ _ _ h
          · cases h
      · rename_i h40
        rw [if_neg h40]
        exact ih _ _ _ _ h
    | post k0 =>
      rw [srs] at h
      rw [prs]
      split at h
      · rename_i e
        rw [if_pos e]
        exact ih _ _ _ _ h
      · rename_i e
        rw [if_neg e]
        split at h
        · rename_i e
          rw [if_pos e]
          exact ih _ _ _ _ h
        · rename_i e
          rw [if_neg e]
          split at h
          · rename_i e
            rw [if_pos e]
            exact ih _ _ _ _ h
          · rename_i e
            rw [if_neg e]
            exact h
    | alt ks =>
      rw [srs] at h
      rw [prs]
      split at h
      · rename_i hc
        rw [if_pos hc]
        cases hE : srs t f .item a ps with
        | none => rw [hE] at h; cases h
        | some q =>
          obtain ⟨k2, a2, ps2⟩ := q
          rw [hE] at h
          rw [ih _ _ _ _ hE]
          simp only [] at h ⊢
          exact ih _ _ _ _ h
      · rename_i hc
        rw [if_neg hc]
        split at h
        · cases h
        · rename_i hk
          rw [if_neg hk]
          split at h
          · exact h
          · cases h
    | expr ks =>
      rw [srs] at h
      rw [prs]
      cases hE : srs t f (.alt []) a ps with
      | none => rw [hE] at h; cases h
      | some q =>
        obtain ⟨k2, a2, ps2⟩ := q
        rw [hE] at h
        rw [ih _ _ _ _ hE]
        simp only [] at h ⊢
        split at h
        · rename_i e
          rw [if_pos e]
          exact ih _ _ _ _ h
        · rename_i e
          rw [if_neg e]
          exact h
/-- Where a job may end so that the reference's reader ends there too. -/
def Job.endsAt (t : ByteArray) (a : Nat) : Job → Prop
  | .item => True
  | .post _ => True
  | .alt _ => t.size ≤ a ∨ nx t a = 124 ∨ nx t a = 41
  | .expr _ => t.size ≤ a ∨ nx t a = 41
theorem prs_srs (t : ByteArray) : ∀ (f : Nat) (j : Job) (a : Nat) (ps : List PieceD) (k : Int) (a1 : Nat) (ps1 : List PieceD), prs t f j a ps = some (k, a1, ps1) → j.endsAt t a1 → srs t f j a ps = some (k, a1, ps1) := by
  intro f
  induction f with
  | zero => intro j a ps k a1 ps1 h; rw [prs] at h; cases h
  | succ f ih =>
    intro j a ps k a1 ps1 h he
    cases j with
    | item =>
      rw [prs] at h
      rw [srs]
      split at h
      · rename_i h40
        rw [if_pos h40]
        cases hE : prs t f (.expr []) (a + 1) ps with
        | none => rw [hE] at h; cases h
        | some q =>
          obtain ⟨k2, a2, ps2⟩ := q
          rw [hE] at h
          simp only [] at h
          split at h
          · rename_i h41
            rw [ih _ _ _ _ _ _ hE (.inr h41)]
            simp only []
            rw [if_pos h41]
            exact ih _ _ _ _ _ _ h trivial
          · cases h
      · rename_i h40
        rw [if_neg h40]
        exact ih _ _ _ _ _ _ h trivial
    | post k0 =>
      rw [prs] at h
      rw [srs]
      split at h
      · rename_i e
        rw [if_pos e]
        exact ih _ _ _ _ _ _ h trivial
      · rename_i e
        rw [if_neg e]
        split at h
        · rename_i e
          rw [if_pos e]
          exact ih _ _ _ _ _ _ h trivial
        · rename_i e
          rw [if_neg e]
          split at h
          · rename_i e
            rw [if_pos e]
            exact ih _ _ _ _ _ _ h trivial
          · rename_i e
            rw [if_neg e]
            exact h
    | alt ks =>
      rw [prs] at h
      rw [srs]
      split at h
      · rename_i hc
        rw [if_pos hc]
        cases hE : prs t f .item a ps with
        | none => rw [hE] at h; cases h
        | some q =>
          obtain ⟨k2, a2, ps2⟩ := q
          rw [hE] at h
          rw [ih _ _ _ _ _ _ hE trivial]
          simp only [] at h ⊢
          exact ih _ _ _ _ _ _ h he
      · rename_i hc
        rw [if_neg hc]
        split at h
        · cases h
        · rename_i hk
          rw [if_neg hk]
          cases h
          exact if_pos he
    | expr ks =>
      rw [prs] at h
      rw [srs]
      cases hE : prs t f (.alt []) a ps with
      | none => rw [hE] at h; cases h
      | some q =>
        obtain ⟨k2, a2, ps2⟩ := q
        rw [hE] at h
        simp only [] at h
        split at h
        · rename_i e
          rw [ih _ _ _ _ _ _ hE (.inr (.inl e))]
          simp only []
          rw [if_pos e]
          exact ih _ _ _ _ _ _ h he
        · rename_i e
          cases h
          rw [ih _ _ _ _ _ _ hE (he.imp id .inr)]
          simp only []
          rw [if_neg e]
/-- On the whole both read alike. -/
theorem rpG_srs (t : ByteArray) (f : Nat) : rpG t (srs t f (.expr []) 0 []) = rpG t (prs t f (.expr []) 0 []) := by
  cases hS : srs t f (.expr []) 0 [] with
  | some r => rw [srs_prs _ _ _ _ _ _ hS]
  | none =>
    cases hP : prs t f (.expr []) 0 [] with
    | none => rfl
    | some r =>
      obtain ⟨k, a, ps⟩ := r
      unfold rpG
      simp only []
      by_cases ha : a = t.size
      · have := prs_srs t f _ _ _ _ _ _ hP (.inl (by omega))
        rw [hS] at this
        cases this
      · rw [if_neg (fun h => ha h.1)]
end Go.Proofs.YtmdgdnkllclpcaaGreat
