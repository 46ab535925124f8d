/- The reference's path reader: row and alts. Conditions: bounds on what is read. -/
import Derived.Test.YtjgghiniajmfjaaSrw
namespace Go.Proofs.Ytjgghiniajmfjaa
open Go.RowKit
set_option linter.unusedVariables false
set_option linter.unusedSimpArgs false
def lenK : Value → Nat
  | .slice _ n _ => n
  | _ => 0
theorem grp_one (op : Int) {ks : List Int} (ps : List PieceD) {k : Int} (h : ks = [k]) : grp op ks ps = (k, ps) := by rw [h]; rfl
theorem grp_more (op : Int) {ks : List Int} (ps : List PieceD) (h : ks.length ≠ 1) : grp op ks ps = ((ps.length : Int), ps ++ [⟨op, 0, ks⟩]) := by
  unfold grp
  split
  · simp at h
  · rfl
theorem one_kid {ks : List Int} (h : ks.length = 1) : ∃ k, ks = [k] := by
  match ks, h with
  | [k], _ => exact ⟨k, rfl⟩
theorem nx_get {t : ByteArray} {a : Nat} (h : a < t.size) : nx t a = (t[a]).toNat := dif_pos h
/-- The end of a row or of its alternatives, whatever ended it. -/
theorem kids_end {b lo a c a' : Nat} {t : ByteArray} {v v' : Value} {us us' : List Value} {ps ps' : List PieceD} {ks : List Int} {bd : Bool} {az : Option Addr} {cz : Nat} {w wr : World} {op : Int} {R : Option (Int × Nat × List PieceD)} (hlo : b < lo) (hlw : lo ≤ w.heap.size) (hn : ps'.length ≤ 1000)
    (L : Ls b lo a' bd t v us w (.slice az ks.length cz) ks v' us' ps' wr) (ha1 : a ≤ a') (ha2 : a' ≤ t.size) (hps : ps'.length + 2 * a ≤ ps.length + 2 * a' + c) (hres : (bd = false ∧ R = some ((grp op ks ps').1, a', (grp op ks ps').2)) ∨ (bd = true ∧ R = none)) :
    (ks.length = 1 → ∃ k, (∀ q, Fr wr q → SPost b lo a (c + 1) t v us ps w R (.returned (.int .i64 k)) q) ∧ ∃ bz oz, az = some ⟨bz, oz, none⟩ ∧ wr.cell? ⟨bz, oz, none⟩ = some (.int .i64 k) ∧ bz < wr.heap.size) ∧
    (ks.length ≠ 1 → ∀ wp, Fr wr wp → Calls Try.prog 162 #[.pointer (some ⟨b, 0, none⟩), .agg #[.int .i64 op, .int .u8 0, .slice az ks.length cz]] wp fun e w' => ∃ k, e = .returned (.int .i64 k) ∧ ∀ q, Fr w' q → SPost b lo a (c + 1) t v us ps w R (.returned (.int .i64 k)) q) := by
  refine ⟨fun h1 => ?_, fun h1 wp hp => ?_⟩
  · obtain ⟨k, rfl⟩ := one_kid h1
    refine ⟨k, fun q hq2 => ⟨k, a', ps', bd, rfl, (L.fr hq2).none_done, ha1, ha2, by omega, hres⟩, ?_⟩
    obtain ⟨az', bz, oz, cz', hv, hcz, hmz, fz⟩ := (IntsO.rd L.row).one
    cases hv
    obtain ⟨rfl, hbz, fz⟩ := fz (by simp)
    exact ⟨bz, oz, rfl, fz 0 (by simp), hbz⟩
  · rw [grp_more op ps' h1] at hres
    refine (putKids_any (L.fr hp) hlo hlw op hn).mono fun e w' ⟨e1, st⟩ => ⟨_, e1, fun q hq2 => ⟨_, a', _, bd, rfl, ?_, ha1, ha2, by simp; omega, hres⟩⟩
    obtain ⟨v2, us2, s1, s2, s3, s4⟩ := st
    exact ⟨v2, us2, s1.fr hq2, s2.fr hq2, s3.trans (PGo.of_fr hq2), s4⟩
set_option maxHeartbeats 16000000 in
set_option maxRecDepth 100000 in
theorem row_any (t : ByteArray) (ht : t.size ≤ 100) (F : Nat) (IH : ∀ f, f < F → OneC t f) : RowC t F := by
  intro b lo a v us ps w hb hlo hlw hp ha hf hn
  obtain ⟨i0, hi, hz0, hz1, hz2⟩ := info_parts info_int
  obtain ⟨g, rfl⟩ : ∃ g, F = g + 1 := ⟨F - 1, by omega⟩
  have HI := Lib.hid IH
  obtain ⟨R, hR⟩ : ∃ R, srs t (g + 1) (.alt []) a ps = R := ⟨_, rfl⟩
  rw [hR]
  rw [srs_alt t g a [] ps (.inl rfl)] at hR
  have HR := Lib.hid hR
  have L0 := Lib.hid (Ls.start hb hp)
  have C0 : Hid (∀ w', Fr w w' → Calls Try.prog 204 #[.pointer (some ⟨b, 0, none⟩)] w' fun e w'' => ∃ (k0 : Int) (a0 : Nat) (ps0 : List PieceD) (bd0 : Bool) (v1 : Value) (us1 : List Value), e = .returned (.int .i64 k0) ∧ Ls b lo a0 bd0 t v us w (.slice none 0 0) [] v1 us1 ps0 w'' ∧ a ≤ a0 ∧ a0 ≤ t.size ∧ ps0.length + 2 * a ≤ ps.length + 2 * a0 ∧ ((bd0 = false ∧ a + 1 ≤ a0 ∧ srs t g (.alt [k0]) a0 ps0 = R) ∨ (bd0 = true ∧ R = none))) := Lib.hid fun w' h => (IH g (by omega) b lo a v us ps w' (hb.fr h) hlo (by have := h.size; omega) (hp.fr h) ha (by omega) (by omega)).mono fun e w'' ⟨k0, a0, ps0, bd0, e1, hst, hb1, hb2, hb3, hres⟩ => by
    obtain ⟨v1, us1, l1⟩ := (L0.out.fr h).call hlo hst
    refine ⟨k0, a0, ps0, bd0, v1, us1, e1, l1, hb1, hb2, hb3, ?_⟩
    rcases hres with ⟨e1, e2⟩ | ⟨e1, e2⟩
    · refine .inl ⟨e1, ?_, by have := HR.out; rw [e2] at this; exact this⟩
      unfold one1 at e2
      split at e2
      · exact (prs_on t g .item a ps k0 a0 ps0 (srs_prs _ _ _ _ _ _ e2)).2.2 rfl
      · cases e2
    · exact .inr ⟨e1, by have := HR.out; rw [e2] at this; exact this.symm⟩
  clear hb hp IH hR HR
  go_enter Try.func161, Try.ntmps161
  go_wp2_with fail
  refine (C0.out _ (by repeat (first | (with_reducible exact Fr.refl _) | (with_reducible assumption) | (with_reducible refine Fr.drewN ?_ _) | (with_reducible refine Fr.drew ?_) | (with_reducible refine Fr.alloc ?_ _) | (with_reducible refine Fr.setCell ?_ (by (first | (with_reducible assumption) | omega | (simp only [World.size_alloc, World.size_setCell, World.size_drew, World.heap_drewN]; omega) | (simp; done) | (simp; omega))) _) | (with_reducible refine Fr.trans ?_ (by with_reducible assumption))))).mono ?_
  rintro e w1 ⟨k0, a0, ps0, bd0, v1, us1, rfl, l1, hb1, hb2, hb3, hres⟩
  have LR1 := Lib.hid (Ls.row1 l1 hlw k0)
  have HRES := Lib.hid hres
  clear l1 hres C0
  go_wp2_with fail
  go_loopw [3] (fun z wr => ∃ (ks : List Int) (a' f' : Nat) (v' : Value) (us' : List Value) (ps' : List PieceD) (bd : Bool) (az : Option Addr) (cz : Nat), z = .slice az ks.length cz ∧ Hid (Ls b lo a' bd t v us w (.slice az ks.length cz) ks v' us' ps' wr) ∧ 1 ≤ ks.length ∧ a ≤ a' ∧ a' ≤ t.size ∧ ps'.length + 2 * a ≤ ps.length + 2 * a' ∧ ks.length ≤ a' - a + 1 ∧
    Hid ((bd = false ∧ ks.length ≤ a' - a ∧ srs t f' (.alt ks) a' ps' = R ∧ f' ≤ g ∧ 3 * (t.size - a') + 1 ≤ f') ∨ (bd = true ∧ R = none))) (fun z _ => 1000 - lenK z)
  case atStart => exact ⟨[k0], a0, g, v1, us1, ps0, bd0, _, 1, rfl, LR1, by simp, hb1, hb2, by omega, by simp, Lib.hid (HRES.out.imp (fun h => ⟨h.1, by have := h.2.1; simp; omega, h.2.2, Nat.le_refl _, by have := h.2.1; omega⟩) id)⟩
  case round =>
    clear LR1 HRES hb1 hb2 hb3 L0
    obtain ⟨ks, a', f', v', us', ps', bd, az, cz, rfl, L1, hk0, ha1, ha2, hps, hk2, H1⟩ := hrel
    have hsz := L1.out.go.size
    have BX := L1.out.box
    have FX := BX.facts
    have hN : ps'.length ≤ 1000 := by omega
    have EXIT : Hid (((bd = false ∧ R = some ((grp 2 ks ps').1, a', (grp 2 ks ps').2)) ∨ (bd = true ∧ R = none)) → _) := Lib.hid (kids_end (c := 0) (op := 2) hlo hlw hN L1.out ha1 ha2 (by omega))
    clear BX
    rcases H1.out with ⟨rfl, hk3, hs, hf1, hf2⟩ | ⟨rfl, rfl⟩
    · obtain ⟨g', rfl⟩ : ∃ g', f' = g' + 1 := ⟨f' - 1, by omega⟩
      have HS := Lib.hid hs
      clear hs H1
      by_cases hlt : a' < t.size
      · have hnx := nx_get hlt
        have HNX := Lib.hid hnx
        clear hnx
        by_cases h124 : nx t a' = 124
        · have hb0 : (t[a']'hlt).toNat = 124 := by rw [← HNX.out]; exact h124
          have hX : (false = false ∧ R = some ((grp 2 ks ps').1, a', (grp 2 ks ps').2)) ∨ (false = true ∧ R = none) := .inl ⟨rfl, by rw [← HS.out]; exact srs_stop t g' a' ks ps' (by omega) (.inr (.inl h124))⟩
          clear h124
          have HX := Lib.hid hX; by_cases h1 : ks.length = 1; (· obtain ⟨k, hfin, bz, oz, rfl, c0, hbz⟩ := (EXIT.out HX.out).1 h1; have q1 : ((ks.length : Int) == 1) = true := (by rw [beq_iff_eq]; omega); have HF := Lib.hid hfin; clear hfin h1 EXIT HX; (go_wp2_with fail; go_quiet (fail); go_wp2_with fail); go_ret; exact HF.out _ (by repeat (first | (with_reducible exact Fr.refl _) | (with_reducible assumption) | (with_reducible refine Fr.drewN ?_ _) | (with_reducible refine Fr.drew ?_) | (with_reducible refine Fr.alloc ?_ _) | (with_reducible refine Fr.setCell ?_ (by (first | (with_reducible assumption) | omega | (simp only [World.size_alloc, World.size_setCell, World.size_drew, World.heap_drewN]; omega) | (simp; done) | (simp; omega))) _) | (with_reducible refine Fr.trans ?_ (by with_reducible assumption))))); (· have CP := Lib.hid ((EXIT.out HX.out).2 h1); have q1 : ((ks.length : Int) == 1) = false := (by rw [beq_eq_false_iff_ne]; omega); clear h1 EXIT HX; (go_wp2_with fail; go_quiet (fail); go_wp2_with fail); refine (CP.out _ (by repeat (first | (with_reducible exact Fr.refl _) | (with_reducible assumption) | (with_reducible refine Fr.drewN ?_ _) | (with_reducible refine Fr.drew ?_) | (with_reducible refine Fr.alloc ?_ _) | (with_reducible refine Fr.setCell ?_ (by (first | (with_reducible assumption) | omega | (simp only [World.size_alloc, World.size_setCell, World.size_drew, World.heap_drewN]; omega) | (simp; done) | (simp; omega))) _) | (with_reducible refine Fr.trans ?_ (by with_reducible assumption))))).mono ?_; rintro e w6 ⟨k, rfl, hfin⟩; have HF := Lib.hid hfin; clear hfin; go_wp2_with fail; go_ret; exact HF.out _ (by repeat (first | (with_reducible exact Fr.refl _) | (with_reducible assumption) | (with_reducible refine Fr.drewN ?_ _) | (with_reducible refine Fr.drew ?_) | (with_reducible refine Fr.alloc ?_ _) | (with_reducible refine Fr.setCell ?_ (by (first | (with_reducible assumption) | omega | (simp only [World.size_alloc, World.size_setCell, World.size_drew, World.heap_drewN]; omega) | (simp; done) | (simp; omega))) _) | (with_reducible refine Fr.trans ?_ (by with_reducible assumption)))))
        · by_cases h41 : nx t a' = 41
          · have hb0 : (t[a']'hlt).toNat = 41 := by rw [← HNX.out]; exact h41
            have hX : (false = false ∧ R = some ((grp 2 ks ps').1, a', (grp 2 ks ps').2)) ∨ (false = true ∧ R = none) := .inl ⟨rfl, by rw [← HS.out]; exact srs_stop t g' a' ks ps' (by omega) (.inr (.inr h41))⟩
            clear h124 h41
            have HX := Lib.hid hX; by_cases h1 : ks.length = 1; (· obtain ⟨k, hfin, bz, oz, rfl, c0, hbz⟩ := (EXIT.out HX.out).1 h1; have q1 : ((ks.length : Int) == 1) = true := (by rw [beq_iff_eq]; omega); have HF := Lib.hid hfin; clear hfin h1 EXIT HX; (go_wp2_with fail; go_quiet (fail); go_wp2_with fail); go_ret; exact HF.out _ (by repeat (first | (with_reducible exact Fr.refl _) | (with_reducible assumption) | (with_reducible refine Fr.drewN ?_ _) | (with_reducible refine Fr.drew ?_) | (with_reducible refine Fr.alloc ?_ _) | (with_reducible refine Fr.setCell ?_ (by (first | (with_reducible assumption) | omega | (simp only [World.size_alloc, World.size_setCell, World.size_drew, World.heap_drewN]; omega) | (simp; done) | (simp; omega))) _) | (with_reducible refine Fr.trans ?_ (by with_reducible assumption))))); (· have CP := Lib.hid ((EXIT.out HX.out).2 h1); have q1 : ((ks.length : Int) == 1) = false := (by rw [beq_eq_false_iff_ne]; omega); clear h1 EXIT HX; (go_wp2_with fail; go_quiet (fail); go_wp2_with fail); refine (CP.out _ (by repeat (first | (with_reducible exact Fr.refl _) | (with_reducible assumption) | (with_reducible refine Fr.drewN ?_ _) | (with_reducible refine Fr.drew ?_) | (with_reducible refine Fr.alloc ?_ _) | (with_reducible refine Fr.setCell ?_ (by (first | (with_reducible assumption) | omega | (simp only [World.size_alloc, World.size_setCell, World.size_drew, World.heap_drewN]; omega) | (simp; done) | (simp; omega))) _) | (with_reducible refine Fr.trans ?_ (by with_reducible assumption))))).mono ?_; rintro e w6 ⟨k, rfl, hfin⟩; have HF := Lib.hid hfin; clear hfin; go_wp2_with fail; go_ret; exact HF.out _ (by repeat (first | (with_reducible exact Fr.refl _) | (with_reducible assumption) | (with_reducible refine Fr.drewN ?_ _) | (with_reducible refine Fr.drew ?_) | (with_reducible refine Fr.alloc ?_ _) | (with_reducible refine Fr.setCell ?_ (by (first | (with_reducible assumption) | omega | (simp only [World.size_alloc, World.size_setCell, World.size_drew, World.heap_drewN]; omega) | (simp; done) | (simp; omega))) _) | (with_reducible refine Fr.trans ?_ (by with_reducible assumption)))))
          · have q1 : (((t[a']'hlt).toNat : Int) != 124) = true := by rw [bne_iff_ne, ← HNX.out]; omega
            have q2 : (((t[a']'hlt).toNat : Int) != 41) = true := by rw [bne_iff_ne, ← HNX.out]; omega
            have hs2 : goA t g' ks (one1 t g' a' ps') = R := by rw [← srs_alt t g' a' ks ps' (.inr (by omega))]; exact HS.out
            have CT : Hid (∀ w', Fr wr w' → Calls Try.prog 204 #[.pointer (some ⟨b, 0, none⟩)] w' fun e w'' => ∃ (k2 : Int) (a2 : Nat) (ps2 : List PieceD) (bd2 : Bool) (v2 : Value) (us2 : List Value), e = .returned (.int .i64 k2) ∧ Ls b lo a2 bd2 t v us w (.slice az ks.length cz) ks v2 us2 ps2 w'' ∧ a' ≤ a2 ∧ a2 ≤ t.size ∧ ps2.length + 2 * a' ≤ ps'.length + 2 * a2 ∧ ((bd2 = false ∧ a' + 1 ≤ a2 ∧ srs t g' (.alt (ks ++ [k2])) a2 ps2 = R) ∨ (bd2 = true ∧ R = none))) := Lib.hid fun w' h => (HI.out g' (by omega) b lo a' v' us' ps' w' (L1.out.box.fr h) hlo (by have := h.size; omega) (L1.out.prd.fr h) ha2 (by omega) (by omega)).mono fun e w'' ⟨k0, a0, ps0, bd0, e1, hst, hb1, hb2, hb3, hres⟩ => by
              obtain ⟨v1, us1, l1⟩ := (L1.out.fr h).call hlo hst
              refine ⟨k0, a0, ps0, bd0, v1, us1, e1, l1, hb1, hb2, hb3, ?_⟩
              rcases hres with ⟨e1, e2⟩ | ⟨e1, e2⟩
              · refine .inl ⟨e1, ?_, by rw [e2] at hs2; exact hs2⟩
                unfold one1 at e2
                split at e2
                · exact (prs_on t g' .item a' ps' k0 a0 ps0 (srs_prs _ _ _ _ _ _ e2)).2.2 rfl
                · cases e2
              · exact .inr ⟨e1, by rw [e2] at hs2; exact hs2.symm⟩
            clear hs2 h124 h41 EXIT
            go_wp2_with fail; go_quiet (fail); go_wp2_with fail
            refine (CT.out _ (by repeat (first | (with_reducible exact Fr.refl _) | (with_reducible assumption) | (with_reducible refine Fr.drewN ?_ _) | (with_reducible refine Fr.drew ?_) | (with_reducible refine Fr.alloc ?_ _) | (with_reducible refine Fr.setCell ?_ (by (first | (with_reducible assumption) | omega | (simp only [World.size_alloc, World.size_setCell, World.size_drew, World.heap_drewN]; omega) | (simp; done) | (simp; omega))) _) | (with_reducible refine Fr.trans ?_ (by with_reducible assumption))))).mono ?_
            rintro e w3 ⟨k2, a2, ps2, bd2, v2, us2, rfl, l2, hc1, hc2, hc3, hc4⟩
            have L2 := Lib.hid l2
            have HC4 := Lib.hid hc4
            clear l2 hc4 CT
            have hs2 := L2.out.go.size
            go_wp2_with (at_builtin; (refine wpList_append_rd rfl _ _ 38 rfl lo 3 i0 (.int .i64 0) 1 8 Try.underlying38 hi hz0 hz1 hz2 rfl (by decide) (.slice az ks.length cz) ks.length (ks.map (Value.int .i64)) rfl (World.ownsRow.alloc L2.out.row _) _ 1 [.int .i64 k2] rfl (RdS.new (by first | rfl | (simp; done)) rfl) (by simp [Value.oneCell']) (by unfold maxLen; omega) (by omega) (by (first | (with_reducible assumption) | omega | (simp only [World.size_alloc, World.size_setCell, World.size_drew, World.heap_drewN]; omega) | (simp; done) | (simp; omega))) ?_; intro az' cz' w4 hown hgrow hat))
            have L3 : Hid (Ls b lo a2 bd2 t v us w (.slice az' (ks.length + 1) cz') (ks ++ [k2]) v2 us2 ps2 w4) := Lib.hid (Ls.app (L2.out.fr (by repeat (first | (with_reducible exact Fr.refl _) | (with_reducible assumption) | (with_reducible refine Fr.drewN ?_ _) | (with_reducible refine Fr.drew ?_) | (with_reducible refine Fr.alloc ?_ _) | (with_reducible refine Fr.setCell ?_ (by (first | (with_reducible assumption) | omega | (simp only [World.size_alloc, World.size_setCell, World.size_drew, World.heap_drewN]; omega) | (simp; done) | (simp; omega))) _) | (with_reducible refine Fr.trans ?_ (by with_reducible assumption))))) hlo hgrow (by simpa [IntsO] using hown) (hat.imp id fun h => ⟨_, h, by simp⟩))
            go_roundw
            case rel =>
              refine ⟨ks ++ [k2], a2, g', v2, us2, ps2, bd2, az', cz', by first | (simp; done) | (simp; omega), ?_, by simp, by omega, hc2, by omega, by simp; omega, Lib.hid (HC4.out.imp (fun h => ⟨h.1, by have := h.2.1; simp; omega, h.2.2, by omega, by have := h.2.1; omega⟩) id)⟩
              simp only [List.length_append, List.length_singleton]
              exact L3
            case measure =>
              simp only [lenK]
              omega
      · have hX : (false = false ∧ R = some ((grp 2 ks ps').1, a', (grp 2 ks ps').2)) ∨ (false = true ∧ R = none) := .inl ⟨rfl, by rw [← HS.out]; exact srs_stop t g' a' ks ps' (by omega) (.inl (by omega))⟩
        have HX := Lib.hid hX; by_cases h1 : ks.length = 1; (· obtain ⟨k, hfin, bz, oz, rfl, c0, hbz⟩ := (EXIT.out HX.out).1 h1; have q1 : ((ks.length : Int) == 1) = true := (by rw [beq_iff_eq]; omega); have HF := Lib.hid hfin; clear hfin h1 EXIT HX; (go_wp2_with fail; go_quiet (fail); go_wp2_with fail); go_ret; exact HF.out _ (by repeat (first | (with_reducible exact Fr.refl _) | (with_reducible assumption) | (with_reducible refine Fr.drewN ?_ _) | (with_reducible refine Fr.drew ?_) | (with_reducible refine Fr.alloc ?_ _) | (with_reducible refine Fr.setCell ?_ (by (first | (with_reducible assumption) | omega | (simp only [World.size_alloc, World.size_setCell, World.size_drew, World.heap_drewN]; omega) | (simp; done) | (simp; omega))) _) | (with_reducible refine Fr.trans ?_ (by with_reducible assumption))))); (· have CP := Lib.hid ((EXIT.out HX.out).2 h1); have q1 : ((ks.length : Int) == 1) = false := (by rw [beq_eq_false_iff_ne]; omega); clear h1 EXIT HX; (go_wp2_with fail; go_quiet (fail); go_wp2_with fail); refine (CP.out _ (by repeat (first | (with_reducible exact Fr.refl _) | (with_reducible assumption) | (with_reducible refine Fr.drewN ?_ _) | (with_reducible refine Fr.drew ?_) | (with_reducible refine Fr.alloc ?_ _) | (with_reducible refine Fr.setCell ?_ (by (first | (with_reducible assumption) | omega | (simp only [World.size_alloc, World.size_setCell, World.size_drew, World.heap_drewN]; omega) | (simp; done) | (simp; omega))) _) | (with_reducible refine Fr.trans ?_ (by with_reducible assumption))))).mono ?_; rintro e w6 ⟨k, rfl, hfin⟩; have HF := Lib.hid hfin; clear hfin; go_wp2_with fail; go_ret; exact HF.out _ (by repeat (first | (with_reducible exact Fr.refl _) | (with_reducible assumption) | (with_reducible refine Fr.drewN ?_ _) | (with_reducible refine Fr.drew ?_) | (with_reducible refine Fr.alloc ?_ _) | (with_reducible refine Fr.setCell ?_ (by (first | (with_reducible assumption) | omega | (simp only [World.size_alloc, World.size_setCell, World.size_drew, World.heap_drewN]; omega) | (simp; done) | (simp; omega))) _) | (with_reducible refine Fr.trans ?_ (by with_reducible assumption)))))
    · clear H1
      have hX : (true = false ∧ (none : Option (Int × Nat × List PieceD)) = some ((grp 2 ks ps').1, a', (grp 2 ks ps').2)) ∨ (true = true ∧ (none : Option (Int × Nat × List PieceD)) = none) := .inr ⟨rfl, rfl⟩
      have HX := Lib.hid hX; by_cases h1 : ks.length = 1; (· obtain ⟨k, hfin, bz, oz, rfl, c0, hbz⟩ := (EXIT.out HX.out).1 h1; have q1 : ((ks.length : Int) == 1) = true := (by rw [beq_iff_eq]; omega); have HF := Lib.hid hfin; clear hfin h1 EXIT HX; (go_wp2_with fail; go_quiet (fail); go_wp2_with fail); go_ret; exact HF.out _ (by repeat (first | (with_reducible exact Fr.refl _) | (with_reducible assumption) | (with_reducible refine Fr.drewN ?_ _) | (with_reducible refine Fr.drew ?_) | (with_reducible refine Fr.alloc ?_ _) | (with_reducible refine Fr.setCell ?_ (by (first | (with_reducible assumption) | omega | (simp only [World.size_alloc, World.size_setCell, World.size_drew, World.heap_drewN]; omega) | (simp; done) | (simp; omega))) _) | (with_reducible refine Fr.trans ?_ (by with_reducible assumption))))); (· have CP := Lib.hid ((EXIT.out HX.out).2 h1); have q1 : ((ks.length : Int) == 1) = false := (by rw [beq_eq_false_iff_ne]; omega); clear h1 EXIT HX; (go_wp2_with fail; go_quiet (fail); go_wp2_with fail); refine (CP.out _ (by repeat (first | (with_reducible exact Fr.refl _) | (with_reducible assumption) | (with_reducible refine Fr.drewN ?_ _) | (with_reducible refine Fr.drew ?_) | (with_reducible refine Fr.alloc ?_ _) | (with_reducible refine Fr.setCell ?_ (by (first | (with_reducible assumption) | omega | (simp only [World.size_alloc, World.size_setCell, World.size_drew, World.heap_drewN]; omega) | (simp; done) | (simp; omega))) _) | (with_reducible refine Fr.trans ?_ (by with_reducible assumption))))).mono ?_; rintro e w6 ⟨k, rfl, hfin⟩; have HF := Lib.hid hfin; clear hfin; go_wp2_with fail; go_ret; exact HF.out _ (by repeat (first | (with_reducible exact Fr.refl _) | (with_reducible assumption) | (with_reducible refine Fr.drewN ?_ _) | (with_reducible refine Fr.drew ?_) | (with_reducible refine Fr.alloc ?_ _) | (with_reducible refine Fr.setCell ?_ (by (first | (with_reducible assumption) | omega | (simp only [World.size_alloc, World.size_setCell, World.size_drew, World.heap_drewN]; omega) | (simp; done) | (simp; omega))) _) | (with_reducible refine Fr.trans ?_ (by with_reducible assumption)))))
set_option maxHeartbeats 16000000 in
set_option maxRecDepth 100000 in
theorem alts_any (t : ByteArray) (ht : t.size ≤ 100) (F : Nat) (IH : ∀ f, f < F → RowC t f) : AltsC t F := by
  intro b lo a v us ps w hb hlo hlw hp ha hf hn
  obtain ⟨i0, hi, hz0, hz1, hz2⟩ := info_parts info_int
  obtain ⟨g, rfl⟩ : ∃ g, F = g + 1 := ⟨F - 1, by omega⟩
  have HI := Lib.hid IH
  obtain ⟨R, hR⟩ : ∃ R, srs t (g + 1) (.expr []) a ps = R := ⟨_, rfl⟩
  rw [hR]
  rw [srs_expr] at hR
  have HR := Lib.hid hR
  have L0 := Lib.hid (Ls.start hb hp)
  have C0 : Hid (∀ w', Fr w w' → Calls Try.prog 161 #[.pointer (some ⟨b, 0, none⟩)] w' fun e w'' => ∃ (k0 : Int) (a0 : Nat) (ps0 : List PieceD) (bd0 : Bool) (v1 : Value) (us1 : List Value), e = .returned (.int .i64 k0) ∧ Ls b lo a0 bd0 t v us w (.slice none 0 0) [] v1 us1 ps0 w'' ∧ a ≤ a0 ∧ a0 ≤ t.size ∧ ps0.length + 2 * a ≤ ps.length + 2 * a0 + 1 ∧ ((bd0 = false ∧ goE t g [] (some (k0, a0, ps0)) = R) ∨ (bd0 = true ∧ R = none))) := Lib.hid fun w' h => (IH g (by omega) b lo a v us ps w' (hb.fr h) hlo (by have := h.size; omega) (hp.fr h) ha (by omega) (by omega)).mono fun e w'' ⟨k0, a0, ps0, bd0, e1, hst, hb1, hb2, hb3, hres⟩ => by
    obtain ⟨v1, us1, l1⟩ := (L0.out.fr h).call hlo hst
    refine ⟨k0, a0, ps0, bd0, v1, us1, e1, l1, hb1, hb2, hb3, ?_⟩
    rcases hres with ⟨e1, e2⟩ | ⟨e1, e2⟩
    · exact .inl ⟨e1, by have := HR.out; rw [e2] at this; exact this⟩
    · exact .inr ⟨e1, by have := HR.out; rw [e2] at this; exact this.symm⟩
  clear hb hp IH hR HR
  go_enter Try.func85, Try.ntmps85
  go_wp2_with fail
  refine (C0.out _ (by repeat (first | (with_reducible exact Fr.refl _) | (with_reducible assumption) | (with_reducible refine Fr.drewN ?_ _) | (with_reducible refine Fr.drew ?_) | (with_reducible refine Fr.alloc ?_ _) | (with_reducible refine Fr.setCell ?_ (by (first | (with_reducible assumption) | omega | (simp only [World.size_alloc, World.size_setCell, World.size_drew, World.heap_drewN]; omega) | (simp; done) | (simp; omega))) _) | (with_reducible refine Fr.trans ?_ (by with_reducible assumption))))).mono ?_
  rintro e w1 ⟨k0, a0, ps0, bd0, v1, us1, rfl, l1, hb1, hb2, hb3, hres⟩
  have LR1 := Lib.hid (Ls.row1 l1 hlw k0)
  have HRES := Lib.hid hres
  clear l1 hres C0
  go_wp2_with fail
  go_loopw [3] (fun z wr => ∃ (ks : List Int) (k1 : Int) (a' f' : Nat) (v' : Value) (us' : List Value) (ps' : List PieceD) (bd : Bool) (az : Option Addr) (cz : Nat), z = .slice az (ks ++ [k1]).length cz ∧ Hid (Ls b lo a' bd t v us w (.slice az (ks ++ [k1]).length cz) (ks ++ [k1]) v' us' ps' wr) ∧ a ≤ a' ∧ a' ≤ t.size ∧ ps'.length + 2 * a ≤ ps.length + 2 * a' + 1 ∧ ks.length ≤ a' - a ∧
    Hid ((bd = false ∧ goE t f' ks (some (k1, a', ps')) = R ∧ f' ≤ g ∧ 3 * (t.size - a') + 1 ≤ f') ∨ (bd = true ∧ R = none))) (fun z _ => 1000 - lenK z)
  case atStart => exact ⟨[], k0, a0, g, v1, us1, ps0, bd0, _, 1, rfl, LR1, hb1, hb2, by omega, by simp, Lib.hid (HRES.out.imp (fun h => ⟨h.1, h.2, Nat.le_refl _, by omega⟩) id)⟩
  case round =>
    clear LR1 HRES hb1 hb2 hb3 L0
    obtain ⟨ks0, k1, a', f', v', us', ps', bd, az, cz, rfl, L1, ha1, ha2, hps, hk2, H1⟩ := hrel
    have hkl : (ks0 ++ [k1]).length ≤ ks0.length + 1 := by simp
    have hkl0 : 1 ≤ (ks0 ++ [k1]).length := by simp
    obtain ⟨ks, hks⟩ : ∃ ks, ks0 ++ [k1] = ks := ⟨_, rfl⟩
    rw [hks] at L1 hkl hkl0
    rw [hks]
    have HKS := Lib.hid hks
    clear hks
    have hsz := L1.out.go.size
    have BX := L1.out.box
    have FX := BX.facts
    have hN : ps'.length ≤ 1000 := by omega
    have EXIT : Hid (((bd = false ∧ R = some ((grp 3 ks ps').1, a', (grp 3 ks ps').2)) ∨ (bd = true ∧ R = none)) → _) := Lib.hid (kids_end (c := 1) (op := 3) hlo hlw hN L1.out ha1 ha2 (by omega))
    clear BX
    rcases H1.out with ⟨rfl, hs, hf1, hf2⟩ | ⟨rfl, rfl⟩
    · have HS := Lib.hid hs
      clear hs H1
      by_cases hlt : a' < t.size
      · have hnx := nx_get hlt
        have HNX := Lib.hid hnx
        clear hnx
        by_cases h124 : nx t a' = 124
        · have hb0 : (t[a']'hlt).toNat = 124 := by rw [← HNX.out]; exact h124
          have hs2 : srs t f' (.expr ks) (a' + 1) ps' = R := by rw [← HKS.out, ← HS.out]; unfold goE; simp only []; rw [if_pos h124]
          obtain ⟨g', rfl⟩ : ∃ g', f' = g' + 1 := ⟨f' - 1, by omega⟩
          rw [srs_expr] at hs2
          have hw2 : IntKind.i64.wrap ((a' : Int) + 1) = ((a' + 1 : Nat) : Int) := by rw [show (a' : Int) + 1 = ((a' + 1 : Nat) : Int) by omega]; exact IntWalk.i64_in _ (by omega)
          have CT : Hid (∀ w', Ls b lo (a' + 1) false t v us w (.slice az ks.length cz) ks v' us' ps' w' → Calls Try.prog 161 #[.pointer (some ⟨b, 0, none⟩)] w' fun e w'' => ∃ (k2 : Int) (a2 : Nat) (ps2 : List PieceD) (bd2 : Bool) (v2 : Value) (us2 : List Value), e = .returned (.int .i64 k2) ∧ Ls b lo a2 bd2 t v us w (.slice az ks.length cz) ks v2 us2 ps2 w'' ∧ a' + 1 ≤ a2 ∧ a2 ≤ t.size ∧ ps2.length + 2 * (a' + 1) ≤ ps'.length + 2 * a2 + 1 ∧ ((bd2 = false ∧ goE t g' ks (some (k2, a2, ps2)) = R) ∨ (bd2 = true ∧ R = none))) := Lib.hid fun w' h => (HI.out g' (by omega) b lo (a' + 1) v' us' ps' w' h.box hlo (by have := h.go.size; omega) h.prd (by omega) (by omega) (by omega)).mono fun e w'' ⟨k0, a0, ps0, bd0, e1, hst, hb1, hb2, hb3, hres⟩ => by
            obtain ⟨v1, us1, l1⟩ := h.call hlo hst
            refine ⟨k0, a0, ps0, bd0, v1, us1, e1, l1, hb1, hb2, hb3, ?_⟩
            rcases hres with ⟨e1, e2⟩ | ⟨e1, e2⟩
            · exact .inl ⟨e1, by rw [e2] at hs2; exact hs2⟩
            · exact .inr ⟨e1, by rw [e2] at hs2; exact hs2.symm⟩
          have LE : ∀ wq, Fr wr wq → Ls b lo (a' + 1) false t v us w (.slice az ks.length cz) ks v' us' ps' (wq.setCell ⟨b, 1, none⟩ (.int .i64 ((a' : Int) + 1))) := fun wq hq => Ls.at_ (a1 := a' + 1) (L1.out.fr hq) hlo ((L1.out.fr hq).box.set_to (by simp))
          have HLE := Lib.hid LE
          clear hs2 h124 EXIT HS LE
          go_wp2_with fail; go_quiet (fail); go_wp2_with fail
          refine (CT.out _ (HLE.out _ (by repeat (first | (with_reducible exact Fr.refl _) | (with_reducible assumption) | (with_reducible refine Fr.drewN ?_ _) | (with_reducible refine Fr.drew ?_) | (with_reducible refine Fr.alloc ?_ _) | (with_reducible refine Fr.setCell ?_ (by (first | (with_reducible assumption) | omega | (simp only [World.size_alloc, World.size_setCell, World.size_drew, World.heap_drewN]; omega) | (simp; done) | (simp; omega))) _) | (with_reducible refine Fr.trans ?_ (by with_reducible assumption)))))).mono ?_
          rintro e w3 ⟨k2, a2, ps2, bd2, v2, us2, rfl, l2, hc1, hc2, hc3, hc4⟩
          have L2 := Lib.hid l2
          have HC4 := Lib.hid hc4
          clear l2 hc4 CT HLE
          have hs2 := L2.out.go.size
          go_wp2_with (at_builtin; (refine wpList_append_rd rfl _ _ 38 rfl lo 3 i0 (.int .i64 0) 1 8 Try.underlying38 hi hz0 hz1 hz2 rfl (by decide) (.slice az ks.length cz) ks.length (ks.map (Value.int .i64)) rfl (World.ownsRow.alloc L2.out.row _) _ 1 [.int .i64 k2] rfl (RdS.new (by first | rfl | (simp; done)) rfl) (by simp [Value.oneCell']) (by unfold maxLen; omega) (by omega) (by (first | (with_reducible assumption) | omega | (simp only [World.size_alloc, World.size_setCell, World.size_drew, World.heap_drewN]; omega) | (simp; done) | (simp; omega))) ?_; intro az' cz' w4 hown hgrow hat))
          have L3 : Hid (Ls b lo a2 bd2 t v us w (.slice az' (ks.length + 1) cz') (ks ++ [k2]) v2 us2 ps2 w4) := Lib.hid (Ls.app (L2.out.fr (by repeat (first | (with_reducible exact Fr.refl _) | (with_reducible assumption) | (with_reducible refine Fr.drewN ?_ _) | (with_reducible refine Fr.drew ?_) | (with_reducible refine Fr.alloc ?_ _) | (with_reducible refine Fr.setCell ?_ (by (first | (with_reducible assumption) | omega | (simp only [World.size_alloc, World.size_setCell, World.size_drew, World.heap_drewN]; omega) | (simp; done) | (simp; omega))) _) | (with_reducible refine Fr.trans ?_ (by with_reducible assumption))))) hlo hgrow (by simpa [IntsO] using hown) (hat.imp id fun h => ⟨_, h, by simp⟩))
          go_roundw
          case rel =>
            refine ⟨ks, k2, a2, g', v2, us2, ps2, bd2, az', cz', by first | (simp; done) | (simp; omega), ?_, by omega, hc2, by omega, by omega, Lib.hid (HC4.out.imp (fun h => ⟨h.1, h.2, by omega, by omega⟩) id)⟩
            simp only [List.length_append, List.length_singleton]
            exact L3
          case measure =>
            simp only [lenK]
            omega
        · have q1 : (((t[a']'hlt).toNat : Int) == 124) = false := by rw [beq_eq_false_iff_ne, ← HNX.out]; omega
          have hX : (false = false ∧ R = some ((grp 3 ks ps').1, a', (grp 3 ks ps').2)) ∨ (false = true ∧ R = none) := .inl ⟨rfl, by rw [← HS.out, ← HKS.out]; unfold goE; simp only []; rw [if_neg h124]⟩
          clear h124
          have HX := Lib.hid hX; by_cases h1 : ks.length = 1; (· obtain ⟨k, hfin, bz, oz, rfl, c0, hbz⟩ := (EXIT.out HX.out).1 h1; have q1 : ((ks.length : Int) == 1) = true := (by rw [beq_iff_eq]; omega); have HF := Lib.hid hfin; clear hfin h1 EXIT HX; (go_wp2_with fail; go_quiet (fail); go_wp2_with fail); go_ret; exact HF.out _ (by repeat (first | (with_reducible exact Fr.refl _) | (with_reducible assumption) | (with_reducible refine Fr.drewN ?_ _) | (with_reducible refine Fr.drew ?_) | (with_reducible refine Fr.alloc ?_ _) | (with_reducible refine Fr.setCell ?_ (by (first | (with_reducible assumption) | omega | (simp only [World.size_alloc, World.size_setCell, World.size_drew, World.heap_drewN]; omega) | (simp; done) | (simp; omega))) _) | (with_reducible refine Fr.trans ?_ (by with_reducible assumption))))); (· have CP := Lib.hid ((EXIT.out HX.out).2 h1); have q1 : ((ks.length : Int) == 1) = false := (by rw [beq_eq_false_iff_ne]; omega); clear h1 EXIT HX; (go_wp2_with fail; go_quiet (fail); go_wp2_with fail); refine (CP.out _ (by repeat (first | (with_reducible exact Fr.refl _) | (with_reducible assumption) | (with_reducible refine Fr.drewN ?_ _) | (with_reducible refine Fr.drew ?_) | (with_reducible refine Fr.alloc ?_ _) | (with_reducible refine Fr.setCell ?_ (by (first | (with_reducible assumption) | omega | (simp only [World.size_alloc, World.size_setCell, World.size_drew, World.heap_drewN]; omega) | (simp; done) | (simp; omega))) _) | (with_reducible refine Fr.trans ?_ (by with_reducible assumption))))).mono ?_; rintro e w6 ⟨k, rfl, hfin⟩; have HF := Lib.hid hfin; clear hfin; go_wp2_with fail; go_ret; exact HF.out _ (by repeat (first | (with_reducible exact Fr.refl _) | (with_reducible assumption) | (with_reducible refine Fr.drewN ?_ _) | (with_reducible refine Fr.drew ?_) | (with_reducible refine Fr.alloc ?_ _) | (with_reducible refine Fr.setCell ?_ (by (first | (with_reducible assumption) | omega | (simp only [World.size_alloc, World.size_setCell, World.size_drew, World.heap_drewN]; omega) | (simp; done) | (simp; omega))) _) | (with_reducible refine Fr.trans ?_ (by with_reducible assumption)))))
      · have hX : (false = false ∧ R = some ((grp 3 ks ps').1, a', (grp 3 ks ps').2)) ∨ (false = true ∧ R = none) := .inl ⟨rfl, by rw [← HS.out, ← HKS.out]; unfold goE; simp only []; rw [if_neg (by rw [nx_end (by omega)]; omega)]⟩
        have HX := Lib.hid hX; by_cases h1 : ks.length = 1; (· obtain ⟨k, hfin, bz, oz, rfl, c0, hbz⟩ := (EXIT.out HX.out).1 h1; have q1 : ((ks.length : Int) == 1) = true := (by rw [beq_iff_eq]; omega); have HF := Lib.hid hfin; clear hfin h1 EXIT HX; (go_wp2_with fail; go_quiet (fail); go_wp2_with fail); go_ret; exact HF.out _ (by repeat (first | (with_reducible exact Fr.refl _) | (with_reducible assumption) | (with_reducible refine Fr.drewN ?_ _) | (with_reducible refine Fr.drew ?_) | (with_reducible refine Fr.alloc ?_ _) | (with_reducible refine Fr.setCell ?_ (by (first | (with_reducible assumption) | omega | (simp only [World.size_alloc, World.size_setCell, World.size_drew, World.heap_drewN]; omega) | (simp; done) | (simp; omega))) _) | (with_reducible refine Fr.trans ?_ (by with_reducible assumption))))); (· have CP := Lib.hid ((EXIT.out HX.out).2 h1); have q1 : ((ks.length : Int) == 1) = false := (by rw [beq_eq_false_iff_ne]; omega); clear h1 EXIT HX; (go_wp2_with fail; go_quiet (fail); go_wp2_with fail); refine (CP.out _ (by repeat (first | (with_reducible exact Fr.refl _) | (with_reducible assumption) | (with_reducible refine Fr.drewN ?_ _) | (with_reducible refine Fr.drew ?_) | (with_reducible refine Fr.alloc ?_ _) | (with_reducible refine Fr.setCell ?_ (by (first | (with_reducible assumption) | omega | (simp only [World.size_alloc, World.size_setCell, World.size_drew, World.heap_drewN]; omega) | (simp; done) | (simp; omega))) _) | (with_reducible refine Fr.trans ?_ (by with_reducible assumption))))).mono ?_; rintro e w6 ⟨k, rfl, hfin⟩; have HF := Lib.hid hfin; clear hfin; go_wp2_with fail; go_ret; exact HF.out _ (by repeat (first | (with_reducible exact Fr.refl _) | (with_reducible assumption) | (with_reducible refine Fr.drewN ?_ _) | (with_reducible refine Fr.drew ?_) | (with_reducible refine Fr.alloc ?_ _) | (with_reducible refine Fr.setCell ?_ (by (first | (with_reducible assumption) | omega | (simp only [World.size_alloc, World.size_setCell, World.size_drew, World.heap_drewN]; omega) | (simp; done) | (simp; omega))) _) | (with_reducible refine Fr.trans ?_ (by with_reducible assumption)))))
    · clear H1
      have hX : (true = false ∧ (none : Option (Int × Nat × List PieceD)) = some ((grp 3 ks ps').1, a', (grp 3 ks ps').2)) ∨ (true = true ∧ (none : Option (Int × Nat × List PieceD)) = none) := .inr ⟨rfl, rfl⟩
      have HX := Lib.hid hX; by_cases h1 : ks.length = 1; (· obtain ⟨k, hfin, bz, oz, rfl, c0, hbz⟩ := (EXIT.out HX.out).1 h1; have q1 : ((ks.length : Int) == 1) = true := (by rw [beq_iff_eq]; omega); have HF := Lib.hid hfin; clear hfin h1 EXIT HX; (go_wp2_with fail; go_quiet (fail); go_wp2_with fail); go_ret; exact HF.out _ (by repeat (first | (with_reducible exact Fr.refl _) | (with_reducible assumption) | (with_reducible refine Fr.drewN ?_ _) | (with_reducible refine Fr.drew ?_) | (with_reducible refine Fr.alloc ?_ _) | (with_reducible refine Fr.setCell ?_ (by (first | (with_reducible assumption) | omega | (simp only [World.size_alloc, World.size_setCell, World.size_drew, World.heap_drewN]; omega) | (simp; done) | (simp; omega))) _) | (with_reducible refine Fr.trans ?_ (by with_reducible assumption))))); (· have CP := Lib.hid ((EXIT.out HX.out).2 h1); have q1 : ((ks.length : Int) == 1) = false := (by rw [beq_eq_false_iff_ne]; omega); clear h1 EXIT HX; (go_wp2_with fail; go_quiet (fail); go_wp2_with fail); refine (CP.out _ (by repeat (first | (with_reducible exact Fr.refl _) | (with_reducible assumption) | (with_reducible refine Fr.drewN ?_ _) | (with_reducible refine Fr.drew ?_) | (with_reducible refine Fr.alloc ?_ _) | (with_reducible refine Fr.setCell ?_ (by (first | (with_reducible assumption) | omega | (simp only [World.size_alloc, World.size_setCell, World.size_drew, World.heap_drewN]; omega) | (simp; done) | (simp; omega))) _) | (with_reducible refine Fr.trans ?_ (by with_reducible assumption))))).mono ?_; rintro e w6 ⟨k, rfl, hfin⟩; have HF := Lib.hid hfin; clear hfin; go_wp2_with fail; go_ret; exact HF.out _ (by repeat (first | (with_reducible exact Fr.refl _) | (with_reducible assumption) | (with_reducible refine Fr.drewN ?_ _) | (with_reducible refine Fr.drew ?_) | (with_reducible refine Fr.alloc ?_ _) | (with_reducible refine Fr.setCell ?_ (by (first | (with_reducible assumption) | omega | (simp only [World.size_alloc, World.size_setCell, World.size_drew, World.heap_drewN]; omega) | (simp; done) | (simp; omega))) _) | (with_reducible refine Fr.trans ?_ (by with_reducible assumption)))))
end Go.Proofs.Ytjgghiniajmfjaa
