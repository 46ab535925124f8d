/- The program's path reader: alternative. Conditions: bounds on what is read. -/
import Derived.Test.YtjgghiniajmfjaaPry
namespace Go.Proofs.Ytjgghiniajmfjaa
open Go.RowKit
set_option linter.unusedVariables false
set_option linter.unusedSimpArgs false
def ItemC (t : ByteArray) (f : Nat) : Prop := ∀ (b lo a : Nat) (v : Value) (us : List Value) (ps : List PieceD) (w : World), Box w b #[.string t, .int .i64 (a : Int), v] 110 → b < lo → lo ≤ w.heap.size → Prd w lo v ps us → nx t a ≠ 0 → 3 * (t.size - a) ≤ f → ps.length + 2 * (t.size - a) ≤ 900 →
  Calls Try.prog 202 #[.pointer (some ⟨b, 0, none⟩)] w (RPost b lo t v us w (prs t f .item a ps))
theorem isLabN_any (n : Nat) (hn : n < 256) (w : World) : Calls Try.prog 163 #[.int .u8 (n : Int)] w fun e w' => e = .returned (.bool (isLab n)) ∧ w' = w := by
  have h := isLabel_any (UInt8.ofNat n) w
  have e : (UInt8.ofNat n).toNat = n := by simp [UInt8.toNat_ofNat, Nat.mod_eq_of_lt hn]
  rw [e] at h
  refine h.mono fun e1 w1 q => ?_
  first
    | exact q
    | exact ⟨by rw [q.1]; unfold isLab; rfl, q.2⟩
    | exact ⟨by rw [q.1]; unfold isLab; simp, q.2⟩
set_option maxHeartbeats 8000000 in
set_option maxRecDepth 100000 in
theorem alt_any (t : ByteArray) (ht : t.size ≤ 100) (F : Nat) (IH : ∀ f, f < F → ItemC t f) : AltC t F := by
  intro b lo a v us ps w hb hlo hlw hp ha hf hn
  obtain ⟨i0, hi, hz0, hz1, hz2⟩ := info_parts info_int
  have HI := Lib.hid IH
  obtain ⟨R, hR⟩ : ∃ R, prs t F (.alt []) a ps = R := ⟨_, rfl⟩
  rw [hR]
  have HR := Lib.hid hR
  have L0 := Lib.hid (Lp.start hb hp)
  clear hb hp IH hR
  go_enter Try.func158, Try.ntmps158
  go_wp2_with fail
  go_loopw [4, 5, 6] (fun z _ _ wr => ∃ (ks : List Int) (a' f' : Nat) (v' : Value) (us' : List Value) (ps' : List PieceD) (az : Option Addr) (cz : Nat), z = .slice az ks.length cz ∧ Hid (Lp b lo a' t v us w (.slice az ks.length cz) ks v' us' ps' wr) ∧ Hid (prs t f' (.alt ks) a' ps' = R) ∧ f' ≤ F ∧ a' ≤ t.size ∧ 3 * (t.size - a') + 1 ≤ f' ∧ ps'.length + 2 * (t.size - a') ≤ 900 ∧ ks.length ≤ a') (fun z _ _ _ => 1000 - lenV z)
  case atStart => exact ⟨[], a, F, v, us, ps, none, 0, rfl, L0, HR, Nat.le_refl _, ha, hf, hn, Nat.zero_le _⟩
  case round =>
    obtain ⟨ks, a', f', v', us', ps', az, cz, rfl, L1, H1, hf1, ha1, hf2, hn1, hk1⟩ := hrel
    obtain ⟨g, rfl⟩ : ∃ g, f' = g + 1 := ⟨f' - 1, by omega⟩
    have H2 := H1.out
    rw [prs] at H2
    have hsz := L1.out.go.size
    have hn256 := nx_lt t a'
    have CN : Hid (∀ w', Fr wr w' → Calls Try.prog 159 #[.pointer (some ⟨b, 0, none⟩)] w' fun e w'' => e = .returned (.int .u8 (nx t a' : Int)) ∧ Fr w' w'') := Lib.hid fun w' h => next_any b a' t v' w' (L1.out.box.fr h) (by omega)
    have CL : Hid (∀ w', Calls Try.prog 163 #[.int .u8 (nx t a' : Int)] w' fun e w'' => e = .returned (.bool (isLab (nx t a'))) ∧ w'' = w') := Lib.hid fun w' => isLabN_any _ hn256 w'
    by_cases hc : isLab (nx t a') = true ∨ nx t a' = 40
    · have hnz : nx t a' ≠ 0 := by
        rcases hc with e | e
        · intro h0
          rw [h0] at e
          exact absurd e (by decide)
        · omega
      have hin := nx_in hnz
      rw [if_pos hc] at H2
      have CA := HI.out g (by omega) b lo a' v' us' ps'
      cases hE : prs t g .item a' ps' with
      | none =>
        rw [hE] at H2
        simp only [] at H2
        subst H2
        have CT : Hid (∀ w', Fr wr w' → Calls Try.prog 202 #[.pointer (some ⟨b, 0, none⟩)] w' fun e w'' => e = .returned (.tuple #[.int .i64 0, .bool false]) ∧ Two b v'.ownBlock w' w'') := Lib.hid fun w' h => (CA w' (L1.out.box.fr h) hlo (by have := h.size; omega) (L1.out.prd.fr h) hnz (by omega) hn1).mono fun e w'' q => by rw [hE] at q; exact q
        clear CA hE H1 hnz
        go_wp2_with fail
        refine (CN.out _ (by repeat (first | (with_reducible exact Fr.refl _) | (with_reducible assumption) | (with_reducible refine Fr.drewN ?_ _) | (with_reducible refine Fr.drew ?_) | (with_reducible refine Fr.alloc ?_ _) | (with_reducible refine Fr.setCell ?_ (by (first | (with_reducible assumption) | omega | (simp only [World.size_alloc, World.size_setCell, World.size_drew, World.heap_drewN]; omega) | (simp; done) | (simp; omega))) _) | (with_reducible refine Fr.trans ?_ (by with_reducible assumption))))).mono ?_
        rintro e w1 ⟨rfl, hfa⟩
        go_wp2_with fail
        refine (CL.out _).mono ?_
        rintro e w2 ⟨rfl, rfl⟩
        by_cases hl : isLab (nx t a') = true
        · rw [hl]
          go_wp2_with fail
          refine (CT.out _ (by repeat (first | (with_reducible exact Fr.refl _) | (with_reducible assumption) | (with_reducible refine Fr.drewN ?_ _) | (with_reducible refine Fr.drew ?_) | (with_reducible refine Fr.alloc ?_ _) | (with_reducible refine Fr.setCell ?_ (by (first | (with_reducible assumption) | omega | (simp only [World.size_alloc, World.size_setCell, World.size_drew, World.heap_drewN]; omega) | (simp; done) | (simp; omega))) _) | (with_reducible refine Fr.trans ?_ (by with_reducible assumption))))).mono ?_
          rintro e w3 ⟨rfl, ht1⟩
          have HT := Lib.hid ht1
          clear ht1
          go_wp2_with fail
          refine bodyPost_ret (v := .tuple #[.int .i64 0, .bool false]) (by simp [results, Try.results158, go_sem, *]) rfl ⟨rfl, (L1.out.fr (w1 := w2) (by repeat (first | (with_reducible exact Fr.refl _) | (with_reducible assumption) | (with_reducible refine Fr.drewN ?_ _) | (with_reducible refine Fr.drew ?_) | (with_reducible refine Fr.alloc ?_ _) | (with_reducible refine Fr.setCell ?_ (by (first | (with_reducible assumption) | omega | (simp only [World.size_alloc, World.size_setCell, World.size_drew, World.heap_drewN]; omega) | (simp; done) | (simp; omega))) _) | (with_reducible refine Fr.trans ?_ (by with_reducible assumption))))).go.then HT.out⟩
        · have h40 : nx t a' = 40 := hc.resolve_left hl
          rw [show isLab (nx t a') = false by simpa using hl]
          rw [h40] at CN
          clear h40
          go_wp2_with fail
          refine (CN.out _ (by repeat (first | (with_reducible exact Fr.refl _) | (with_reducible assumption) | (with_reducible refine Fr.drewN ?_ _) | (with_reducible refine Fr.drew ?_) | (with_reducible refine Fr.alloc ?_ _) | (with_reducible refine Fr.setCell ?_ (by (first | (with_reducible assumption) | omega | (simp only [World.size_alloc, World.size_setCell, World.size_drew, World.heap_drewN]; omega) | (simp; done) | (simp; omega))) _) | (with_reducible refine Fr.trans ?_ (by with_reducible assumption))))).mono ?_
          rintro e w2 ⟨rfl, hfb⟩
          go_wp2_with fail
          refine (CT.out _ (by repeat (first | (with_reducible exact Fr.refl _) | (with_reducible assumption) | (with_reducible refine Fr.drewN ?_ _) | (with_reducible refine Fr.drew ?_) | (with_reducible refine Fr.alloc ?_ _) | (with_reducible refine Fr.setCell ?_ (by (first | (with_reducible assumption) | omega | (simp only [World.size_alloc, World.size_setCell, World.size_drew, World.heap_drewN]; omega) | (simp; done) | (simp; omega))) _) | (with_reducible refine Fr.trans ?_ (by with_reducible assumption))))).mono ?_
          rintro e w3 ⟨rfl, ht1⟩
          have HT := Lib.hid ht1
          clear ht1
          go_wp2_with fail
          refine bodyPost_ret (v := .tuple #[.int .i64 0, .bool false]) (by simp [results, Try.results158, go_sem, *]) rfl ⟨rfl, (L1.out.fr (w1 := w2) (by repeat (first | (with_reducible exact Fr.refl _) | (with_reducible assumption) | (with_reducible refine Fr.drewN ?_ _) | (with_reducible refine Fr.drew ?_) | (with_reducible refine Fr.alloc ?_ _) | (with_reducible refine Fr.setCell ?_ (by (first | (with_reducible assumption) | omega | (simp only [World.size_alloc, World.size_setCell, World.size_drew, World.heap_drewN]; omega) | (simp; done) | (simp; omega))) _) | (with_reducible refine Fr.trans ?_ (by with_reducible assumption))))).go.then HT.out⟩
      | some r =>
        obtain ⟨k2, a2, ps2⟩ := r
        rw [hE] at H2
        simp only [] at H2
        have P1 := prs_on t g .item a' ps' k2 a2 ps2 hE
        have P2 := prs_len t g .item a' ps' k2 a2 ps2 hE
        have P3 := prs_in t g .item a' ps' k2 a2 ps2 hE ha1 (fun _ => hnz)
        simp only [Job.cost] at P2
        have HP1 := P1.2.2 rfl
        have H3 := Lib.hid H2
        have CT : Hid (∀ w', Fr wr w' → Calls Try.prog 202 #[.pointer (some ⟨b, 0, none⟩)] w' fun e w'' => e = .returned (.tuple #[.int .i64 k2, .bool true]) ∧ ∃ v2 us2, Lp b lo a2 t v us w (.slice az ks.length cz) ks v2 us2 ps2 w'') := Lib.hid fun w' h => (CA w' (L1.out.box.fr h) hlo (by have := h.size; omega) (L1.out.prd.fr h) hnz (by omega) hn1).mono fun e w'' q => by rw [hE] at q; exact ⟨q.1, (L1.out.fr h).call hlo q.2⟩
        clear CA hE H1 P1 H2 hnz
        go_wp2_with fail
        refine (CN.out _ (by repeat (first | (with_reducible exact Fr.refl _) | (with_reducible assumption) | (with_reducible refine Fr.drewN ?_ _) | (with_reducible refine Fr.drew ?_) | (with_reducible refine Fr.alloc ?_ _) | (with_reducible refine Fr.setCell ?_ (by (first | (with_reducible assumption) | omega | (simp only [World.size_alloc, World.size_setCell, World.size_drew, World.heap_drewN]; omega) | (simp; done) | (simp; omega))) _) | (with_reducible refine Fr.trans ?_ (by with_reducible assumption))))).mono ?_
        rintro e w1 ⟨rfl, hfa⟩
        go_wp2_with fail
        refine (CL.out _).mono ?_
        rintro e w2 ⟨rfl, rfl⟩
        by_cases hl : isLab (nx t a') = true
        · rw [hl]
          go_wp2_with fail
          refine (CT.out _ (by repeat (first | (with_reducible exact Fr.refl _) | (with_reducible assumption) | (with_reducible refine Fr.drewN ?_ _) | (with_reducible refine Fr.drew ?_) | (with_reducible refine Fr.alloc ?_ _) | (with_reducible refine Fr.setCell ?_ (by (first | (with_reducible assumption) | omega | (simp only [World.size_alloc, World.size_setCell, World.size_drew, World.heap_drewN]; omega) | (simp; done) | (simp; omega))) _) | (with_reducible refine Fr.trans ?_ (by with_reducible assumption))))).mono ?_
          rintro e w3 ⟨rfl, v2, us2, l2⟩
          have L2 := Lib.hid l2
          clear l2 CT
          have hs2 := L2.out.go.size
          go_wp2_with (at_builtin; (refine wpList_append_rd rfl _ _ 38 rfl lo 3 i0 (.int .i64 0) 1 8 Try.underlying38 hi hz0 hz1 hz2 rfl (by decide) (.slice az ks.length cz) ks.length (ks.map (Value.int .i64)) rfl (World.ownsRow.alloc L2.out.row _) _ 1 [.int .i64 k2] rfl (RdS.new (by first | rfl | (simp; done)) rfl) (by simp [Value.oneCell']) (by unfold maxLen; omega) (by omega) (by (first | (with_reducible assumption) | omega | (simp only [World.size_alloc, World.size_setCell, World.size_drew, World.heap_drewN]; omega) | (simp; done) | (simp; omega))) ?_; intro az' cz' w4 hown hgrow hat))
          have L3 : Hid (Lp b lo a2 t v us w (.slice az' (ks.length + 1) cz') (ks ++ [k2]) v2 us2 ps2 w4) := Lib.hid (Lp.app (L2.out.fr (by repeat (first | (with_reducible exact Fr.refl _) | (with_reducible assumption) | (with_reducible refine Fr.drewN ?_ _) | (with_reducible refine Fr.drew ?_) | (with_reducible refine Fr.alloc ?_ _) | (with_reducible refine Fr.setCell ?_ (by (first | (with_reducible assumption) | omega | (simp only [World.size_alloc, World.size_setCell, World.size_drew, World.heap_drewN]; omega) | (simp; done) | (simp; omega))) _) | (with_reducible refine Fr.trans ?_ (by with_reducible assumption))))) hlo hgrow (by simpa [IntsO] using hown) (hat.imp id fun h => ⟨_, h, by simp⟩))
          go_roundw
          case rel =>
            refine ⟨ks ++ [k2], a2, g, v2, us2, ps2, az', cz', by first | (simp; done) | (simp; omega), ?_, H3, by omega, by omega, by omega, by omega, by simp; omega⟩
            simp only [List.length_append, List.length_singleton]
            exact L3
          case measure =>
            simp only [lenV]
            omega
        · have h40 : nx t a' = 40 := hc.resolve_left hl
          rw [show isLab (nx t a') = false by simpa using hl]
          rw [h40] at CN
          clear h40
          go_wp2_with fail
          refine (CN.out _ (by repeat (first | (with_reducible exact Fr.refl _) | (with_reducible assumption) | (with_reducible refine Fr.drewN ?_ _) | (with_reducible refine Fr.drew ?_) | (with_reducible refine Fr.alloc ?_ _) | (with_reducible refine Fr.setCell ?_ (by (first | (with_reducible assumption) | omega | (simp only [World.size_alloc, World.size_setCell, World.size_drew, World.heap_drewN]; omega) | (simp; done) | (simp; omega))) _) | (with_reducible refine Fr.trans ?_ (by with_reducible assumption))))).mono ?_
          rintro e w2 ⟨rfl, hfb⟩
          go_wp2_with fail
          refine (CT.out _ (by repeat (first | (with_reducible exact Fr.refl _) | (with_reducible assumption) | (with_reducible refine Fr.drewN ?_ _) | (with_reducible refine Fr.drew ?_) | (with_reducible refine Fr.alloc ?_ _) | (with_reducible refine Fr.setCell ?_ (by (first | (with_reducible assumption) | omega | (simp only [World.size_alloc, World.size_setCell, World.size_drew, World.heap_drewN]; omega) | (simp; done) | (simp; omega))) _) | (with_reducible refine Fr.trans ?_ (by with_reducible assumption))))).mono ?_
          rintro e w3 ⟨rfl, v2, us2, l2⟩
          have L2 := Lib.hid l2
          clear l2 CT
          have hs2 := L2.out.go.size
          go_wp2_with (at_builtin; (refine wpList_append_rd rfl _ _ 38 rfl lo 3 i0 (.int .i64 0) 1 8 Try.underlying38 hi hz0 hz1 hz2 rfl (by decide) (.slice az ks.length cz) ks.length (ks.map (Value.int .i64)) rfl (World.ownsRow.alloc L2.out.row _) _ 1 [.int .i64 k2] rfl (RdS.new (by first | rfl | (simp; done)) rfl) (by simp [Value.oneCell']) (by unfold maxLen; omega) (by omega) (by (first | (with_reducible assumption) | omega | (simp only [World.size_alloc, World.size_setCell, World.size_drew, World.heap_drewN]; omega) | (simp; done) | (simp; omega))) ?_; intro az' cz' w4 hown hgrow hat))
          have L3 : Hid (Lp b lo a2 t v us w (.slice az' (ks.length + 1) cz') (ks ++ [k2]) v2 us2 ps2 w4) := Lib.hid (Lp.app (L2.out.fr (by repeat (first | (with_reducible exact Fr.refl _) | (with_reducible assumption) | (with_reducible refine Fr.drewN ?_ _) | (with_reducible refine Fr.drew ?_) | (with_reducible refine Fr.alloc ?_ _) | (with_reducible refine Fr.setCell ?_ (by (first | (with_reducible assumption) | omega | (simp only [World.size_alloc, World.size_setCell, World.size_drew, World.heap_drewN]; omega) | (simp; done) | (simp; omega))) _) | (with_reducible refine Fr.trans ?_ (by with_reducible assumption))))) hlo hgrow (by simpa [IntsO] using hown) (hat.imp id fun h => ⟨_, h, by simp⟩))
          go_roundw
          case rel =>
            refine ⟨ks ++ [k2], a2, g, v2, us2, ps2, az', cz', by first | (simp; done) | (simp; omega), ?_, H3, by omega, by omega, by omega, by omega, by simp; omega⟩
            simp only [List.length_append, List.length_singleton]
            exact L3
          case measure =>
            simp only [lenV]
            omega
    · rw [if_neg hc] at H2
      have hl : isLab (nx t a') = false := by
        cases q : isLab (nx t a')
        · rfl
        · exact absurd (.inl q) hc
      have h40 : (((nx t a' : Nat) : Int) == 40) = false := by rw [beq_eq_false_iff_ne]; exact fun q => hc (.inr (by omega))
      rw [hl] at CL
      clear hl hc
      by_cases hk0 : ks.length = 0
      · have q0 : ((ks.length : Int) == 0) = true := by rw [beq_iff_eq]; omega
        rw [if_pos hk0] at H2
        subst H2
        clear hk0
        go_wp2_with fail
        refine (CN.out _ (by repeat (first | (with_reducible exact Fr.refl _) | (with_reducible assumption) | (with_reducible refine Fr.drewN ?_ _) | (with_reducible refine Fr.drew ?_) | (with_reducible refine Fr.alloc ?_ _) | (with_reducible refine Fr.setCell ?_ (by (first | (with_reducible assumption) | omega | (simp only [World.size_alloc, World.size_setCell, World.size_drew, World.heap_drewN]; omega) | (simp; done) | (simp; omega))) _) | (with_reducible refine Fr.trans ?_ (by with_reducible assumption))))).mono ?_
        rintro e w1 ⟨rfl, hfa⟩
        go_wp2_with fail
        refine (CL.out _).mono ?_
        rintro e w2 ⟨rfl, rfl⟩
        go_wp2_with fail
        refine (CN.out _ (by repeat (first | (with_reducible exact Fr.refl _) | (with_reducible assumption) | (with_reducible refine Fr.drewN ?_ _) | (with_reducible refine Fr.drew ?_) | (with_reducible refine Fr.alloc ?_ _) | (with_reducible refine Fr.setCell ?_ (by (first | (with_reducible assumption) | omega | (simp only [World.size_alloc, World.size_setCell, World.size_drew, World.heap_drewN]; omega) | (simp; done) | (simp; omega))) _) | (with_reducible refine Fr.trans ?_ (by with_reducible assumption))))).mono ?_
        rintro e w2 ⟨rfl, hfb⟩
        go_wp2_with fail
        refine bodyPost_ret (v := .tuple #[.int .i64 0, .bool false]) (by simp [results, Try.results158, go_sem, *]) rfl ⟨rfl, (L1.out.fr (w1 := w2) (by repeat (first | (with_reducible exact Fr.refl _) | (with_reducible assumption) | (with_reducible refine Fr.drewN ?_ _) | (with_reducible refine Fr.drew ?_) | (with_reducible refine Fr.alloc ?_ _) | (with_reducible refine Fr.setCell ?_ (by (first | (with_reducible assumption) | omega | (simp only [World.size_alloc, World.size_setCell, World.size_drew, World.heap_drewN]; omega) | (simp; done) | (simp; omega))) _) | (with_reducible refine Fr.trans ?_ (by with_reducible assumption))))).go.two⟩
      · have q0 : ((ks.length : Int) == 0) = false := by rw [beq_eq_false_iff_ne]; omega
        rw [if_neg hk0] at H2
        have HR2 := Lib.hid H2
        have CG : Hid (∀ w', Fr wr w' → Calls Try.prog 160 #[.pointer (some ⟨b, 0, none⟩), .int .i64 2, .slice az ks.length cz] w' fun e w'' => e = .returned (.int .i64 (grp 2 ks ps').1) ∧ RdSt b lo a' t v' (.slice az ks.length cz) us' (grp 2 ks ps').2 w' w'') := Lib.hid fun w' h => group_any b lo a' t v' _ ps' us' 2 ks w' (L1.out.box.fr h) hlo (by have := h.size; omega) (L1.out.prd.fr h) (owns_fr L1.out.row h) L1.out.apt.1 (by omega) (by omega)
        clear hk0 H2
        go_wp2_with fail
        refine (CN.out _ (by repeat (first | (with_reducible exact Fr.refl _) | (with_reducible assumption) | (with_reducible refine Fr.drewN ?_ _) | (with_reducible refine Fr.drew ?_) | (with_reducible refine Fr.alloc ?_ _) | (with_reducible refine Fr.setCell ?_ (by (first | (with_reducible assumption) | omega | (simp only [World.size_alloc, World.size_setCell, World.size_drew, World.heap_drewN]; omega) | (simp; done) | (simp; omega))) _) | (with_reducible refine Fr.trans ?_ (by with_reducible assumption))))).mono ?_
        rintro e w1 ⟨rfl, hfa⟩
        go_wp2_with fail
        refine (CL.out _).mono ?_
        rintro e w2 ⟨rfl, rfl⟩
        go_wp2_with fail
        refine (CN.out _ (by repeat (first | (with_reducible exact Fr.refl _) | (with_reducible assumption) | (with_reducible refine Fr.drewN ?_ _) | (with_reducible refine Fr.drew ?_) | (with_reducible refine Fr.alloc ?_ _) | (with_reducible refine Fr.setCell ?_ (by (first | (with_reducible assumption) | omega | (simp only [World.size_alloc, World.size_setCell, World.size_drew, World.heap_drewN]; omega) | (simp; done) | (simp; omega))) _) | (with_reducible refine Fr.trans ?_ (by with_reducible assumption))))).mono ?_
        rintro e w2 ⟨rfl, hfb⟩
        go_wp2_with fail
        refine (CG.out _ (by repeat (first | (with_reducible exact Fr.refl _) | (with_reducible assumption) | (with_reducible refine Fr.drewN ?_ _) | (with_reducible refine Fr.drew ?_) | (with_reducible refine Fr.alloc ?_ _) | (with_reducible refine Fr.setCell ?_ (by (first | (with_reducible assumption) | omega | (simp only [World.size_alloc, World.size_setCell, World.size_drew, World.heap_drewN]; omega) | (simp; done) | (simp; omega))) _) | (with_reducible refine Fr.trans ?_ (by with_reducible assumption))))).mono ?_
        rintro e w6 ⟨rfl, hst⟩
        have HS := Lib.hid hst
        clear hst
        go_wp2_with fail
        refine bodyPost_ret (v := .tuple #[.int .i64 (grp 2 ks ps').1, .bool true]) (by simp [results, Try.results158, go_sem, *]) rfl ?_
        rw [← HR2.out]
        exact ⟨rfl, Lp.done (L1.out.fr (w1 := w2) (by repeat (first | (with_reducible exact Fr.refl _) | (with_reducible assumption) | (with_reducible refine Fr.drewN ?_ _) | (with_reducible refine Fr.drew ?_) | (with_reducible refine Fr.alloc ?_ _) | (with_reducible refine Fr.setCell ?_ (by (first | (with_reducible assumption) | omega | (simp only [World.size_alloc, World.size_setCell, World.size_drew, World.heap_drewN]; omega) | (simp; done) | (simp; omega))) _) | (with_reducible refine Fr.trans ?_ (by with_reducible assumption))))) HS.out⟩
end Go.Proofs.Ytjgghiniajmfjaa
