/- The program's path reader: expression. Conditions: bounds on what is read. -/
import Derived.Test.YtjgghiniajmfjaaPrx
namespace Go.Proofs.Ytjgghiniajmfjaa
open Go.RowKit
set_option linter.unusedVariables false
set_option linter.unusedSimpArgs false
def lenV : Value → Nat
  | .slice _ n _ => n
  | _ => 0
def AltC (t : ByteArray) (f : Nat) : Prop := ∀ (b lo a : Nat) (v : Value) (us : List Value) (ps : List PieceD) (w : World), Box w b #[.string t, .int .i64 (a : Int), v] 110 → b < lo → lo ≤ w.heap.size → Prd w lo v ps us → a ≤ t.size → 3 * (t.size - a) + 1 ≤ f → ps.length + 2 * (t.size - a) ≤ 900 →
  Calls Try.prog 158 #[.pointer (some ⟨b, 0, none⟩)] w (RPost b lo t v us w (prs t f (.alt []) a ps))
def ExprC (t : ByteArray) (f : Nat) : Prop := ∀ (b lo a : Nat) (v : Value) (us : List Value) (ps : List PieceD) (w : World), Box w b #[.string t, .int .i64 (a : Int), v] 110 → b < lo → lo ≤ w.heap.size → Prd w lo v ps us → a ≤ t.size → 3 * (t.size - a) + 2 ≤ f → ps.length + 2 * (t.size - a) ≤ 900 →
  Calls Try.prog 84 #[.pointer (some ⟨b, 0, none⟩)] w (RPost b lo t v us w (prs t f (.expr []) a ps))
set_option maxHeartbeats 8000000 in
set_option maxRecDepth 100000 in
theorem expr_any (t : ByteArray) (ht : t.size ≤ 100) (F : Nat) (IH : ∀ f, f < F → AltC t f) : ExprC t F := by
  intro b lo a v us ps w hb hlo hlw hp ha hf hn
  obtain ⟨i0, hi, hz0, hz1, hz2⟩ := info_parts info_int
  have HI := Lib.hid IH
  obtain ⟨R, hR⟩ : ∃ R, prs t F (.expr []) a ps = R := ⟨_, rfl⟩
  rw [hR]
  have HR := Lib.hid hR
  have L0 := Lib.hid (Lp.start hb hp)
  clear hb hp IH hR
  go_enter Try.func84, Try.ntmps84
  go_wp2_with fail
  go_loopw [4, 5, 6] (fun z _ _ wr => ∃ (ks : List Int) (a' f' : Nat) (v' : Value) (us' : List Value) (ps' : List PieceD) (az : Option Addr) (cz : Nat), z = .slice az ks.length cz ∧ Hid (Lp b lo a' t v us w (.slice az ks.length cz) ks v' us' ps' wr) ∧ Hid (prs t f' (.expr ks) a' ps' = R) ∧ f' ≤ F ∧ a' ≤ t.size ∧ 3 * (t.size - a') + 2 ≤ f' ∧ ps'.length + 2 * (t.size - a') ≤ 900 ∧ ks.length ≤ a') (fun z _ _ _ => 1000 - lenV z)
  case atStart => exact ⟨[], a, F, v, us, ps, none, 0, rfl, L0, HR, Nat.le_refl _, ha, hf, hn, Nat.zero_le _⟩
  case round =>
    obtain ⟨ks, a', f', v', us', ps', az, cz, rfl, L1, H1, hf1, ha1, hf2, hn1, hk1⟩ := hrel
    obtain ⟨g, rfl⟩ : ∃ g, f' = g + 1 := ⟨f' - 1, by omega⟩
    have H2 := H1.out
    rw [prs] at H2
    have hsz := L1.out.go.size
    have CA := HI.out g (by omega) b lo a' v' us' ps'
    cases hE : prs t g (.alt []) a' ps' with
    | none =>
      rw [hE] at H2
      simp only [] at H2
      subst H2
      have CT : Hid (∀ w', Fr wr w' → Calls Try.prog 158 #[.pointer (some ⟨b, 0, none⟩)] w' fun e w'' => e = .returned (.tuple #[.int .i64 0, .bool false]) ∧ Two b v'.ownBlock w' w'') := Lib.hid fun w' h => (CA w' (L1.out.box.fr h) hlo (by have := h.size; omega) (L1.out.prd.fr h) ha1 (by omega) hn1).mono fun e w'' q => by rw [hE] at q; exact q
      clear CA hE H1
      go_wp2_with fail
      refine (CT.out _ (by repeat (first | (with_reducible exact Fr.refl _) | (with_reducible assumption) | (with_reducible refine Fr.drewN ?_ _) | (with_reducible refine Fr.drew ?_) | (with_reducible refine Fr.alloc ?_ _) | (with_reducible refine Fr.setCell ?_ (by (first | (with_reducible assumption) | omega | (simp only [World.size_alloc, World.size_setCell, World.size_drew, World.heap_drewN]; omega) | (simp; done) | (simp; omega))) _) | (with_reducible refine Fr.trans ?_ (by with_reducible assumption))))).mono ?_
      rintro e w1 ⟨rfl, ht1⟩
      have HT := Lib.hid ht1
      clear ht1
      go_wp2_with fail
      refine bodyPost_ret (v := .tuple #[.int .i64 0, .bool false]) (by simp [results, Try.results84, go_sem, *]) rfl ⟨rfl, L1.out.go.then HT.out⟩
    | some r =>
      obtain ⟨k2, a2, ps2⟩ := r
      rw [hE] at H2
      simp only [] at H2
      have P1 := prs_on t g (.alt []) a' ps' k2 a2 ps2 hE
      have P2 := prs_len t g (.alt []) a' ps' k2 a2 ps2 hE
      have P3 := prs_in t g (.alt []) a' ps' k2 a2 ps2 hE ha1 (fun e => by cases e)
      simp only [Job.cost] at P2
      have CT : Hid (∀ w', Fr wr w' → Calls Try.prog 158 #[.pointer (some ⟨b, 0, none⟩)] w' fun e w'' => e = .returned (.tuple #[.int .i64 k2, .bool true]) ∧ ∃ v2 us2, Lp b lo a2 t v us w (.slice az ks.length cz) ks v2 us2 ps2 w'') := Lib.hid fun w' h => (CA w' (L1.out.box.fr h) hlo (by have := h.size; omega) (L1.out.prd.fr h) ha1 (by omega) hn1).mono fun e w'' q => by rw [hE] at q; exact ⟨q.1, (L1.out.fr h).call hlo q.2⟩
      have HP1 := P1.1
      clear CA hE H1 P1
      go_wp2_with fail
      refine (CT.out _ (by repeat (first | (with_reducible exact Fr.refl _) | (with_reducible assumption) | (with_reducible refine Fr.drewN ?_ _) | (with_reducible refine Fr.drew ?_) | (with_reducible refine Fr.alloc ?_ _) | (with_reducible refine Fr.setCell ?_ (by (first | (with_reducible assumption) | omega | (simp only [World.size_alloc, World.size_setCell, World.size_drew, World.heap_drewN]; omega) | (simp; done) | (simp; omega))) _) | (with_reducible refine Fr.trans ?_ (by with_reducible assumption))))).mono ?_
      rintro e w1 ⟨rfl, v2, us2, l2⟩
      have L2 := Lib.hid l2
      clear l2 CT
      have hs2 := L2.out.go.size
      go_wp2_with (at_builtin; (refine wpList_append_rd rfl _ _ 38 rfl lo 3 i0 (.int .i64 0) 1 8 Try.underlying38 hi hz0 hz1 hz2 rfl (by decide) (.slice az ks.length cz) ks.length (ks.map (Value.int .i64)) rfl (World.ownsRow.alloc L2.out.row _) _ 1 [.int .i64 k2] rfl (RdS.new (by first | rfl | (simp; done)) rfl) (by simp [Value.oneCell']) (by unfold maxLen; omega) (by omega) (by (first | (with_reducible assumption) | omega | (simp only [World.size_alloc, World.size_setCell, World.size_drew, World.heap_drewN]; omega) | (simp; done) | (simp; omega))) ?_; intro az' cz' w4 hown hgrow hat))
      have L3 : Hid (Lp b lo a2 t v us w (.slice az' (ks.length + 1) cz') (ks ++ [k2]) v2 us2 ps2 w4) := Lib.hid (Lp.app (L2.out.fr (by repeat (first | (with_reducible exact Fr.refl _) | (with_reducible assumption) | (with_reducible refine Fr.drewN ?_ _) | (with_reducible refine Fr.drew ?_) | (with_reducible refine Fr.alloc ?_ _) | (with_reducible refine Fr.setCell ?_ (by (first | (with_reducible assumption) | omega | (simp only [World.size_alloc, World.size_setCell, World.size_drew, World.heap_drewN]; omega) | (simp; done) | (simp; omega))) _) | (with_reducible refine Fr.trans ?_ (by with_reducible assumption))))) hlo hgrow (by simpa [IntsO] using hown) (hat.imp id fun h => ⟨_, h, by simp⟩))
      have hs4 := L3.out.go.size
      have B4 := L3.out.box
      have F4 := B4.facts
      by_cases h124 : nx t a2 = 124
      · have CN : Hid (∀ w', Fr w4 w' → Calls Try.prog 159 #[.pointer (some ⟨b, 0, none⟩)] w' fun e w'' => e = .returned (.int .u8 124) ∧ Fr w' w'') := Lib.hid fun w' h => (next_any b a2 t v2 w' (L3.out.box.fr h) (by omega)).mono fun e w'' q => by rw [h124] at q; exact q
        have H3 : Hid (prs t g (.expr (ks ++ [k2])) (a2 + 1) ps2 = R) := by rw [if_pos h124] at H2; exact Lib.hid H2
        have hin := nx_in (t := t) (a := a2) (by omega)
        clear H2 h124 B4
        go_wp2_with fail
        refine (CN.out _ (by repeat (first | (with_reducible exact Fr.refl _) | (with_reducible assumption) | (with_reducible refine Fr.drewN ?_ _) | (with_reducible refine Fr.drew ?_) | (with_reducible refine Fr.alloc ?_ _) | (with_reducible refine Fr.setCell ?_ (by (first | (with_reducible assumption) | omega | (simp only [World.size_alloc, World.size_setCell, World.size_drew, World.heap_drewN]; omega) | (simp; done) | (simp; omega))) _) | (with_reducible refine Fr.trans ?_ (by with_reducible assumption))))).mono ?_
        rintro e w5 ⟨rfl, hf5⟩
        have L5 := Lib.hid (L3.out.fr hf5)
        have B5 := L5.out.box
        have F5 := B5.facts
        clear B5
        go_wp2_with fail
        go_roundw
        case rel =>
          have hw : IntKind.i64.wrap ((a2 : Int) + 1) = ((a2 + 1 : Nat) : Int) := by rw [show (a2 : Int) + 1 = ((a2 + 1 : Nat) : Int) by omega]; exact IntWalk.i64_in _ (by omega)
          refine ⟨ks ++ [k2], a2 + 1, g, v2, us2, ps2, az', cz', by first | (simp; done) | (simp; omega), ?_, H3, by omega, by omega, by omega, by omega, by simp; omega⟩
          have LE : ∀ q, Box (w5.setCell ⟨b, 1, none⟩ q) b #[.string t, q, v2] 110 := fun q => (L5.out.box).set_to (by simp)
          have L6 := Lp.at_ (a1 := a2 + 1) L5.out hlo (LE _)
          simp only [List.length_append, List.length_singleton]
          exact Lib.hid L6
        case measure =>
          simp only [lenV]
          omega
      · have q124 : (((nx t a2 : Nat) : Int) == 124) = false := by rw [beq_eq_false_iff_ne]; omega
        have CN : Hid (∀ w', Fr w4 w' → Calls Try.prog 159 #[.pointer (some ⟨b, 0, none⟩)] w' fun e w'' => e = .returned (.int .u8 (nx t a2 : Int)) ∧ Fr w' w'') := Lib.hid fun w' h => next_any b a2 t v2 w' (L3.out.box.fr h) (by omega)
        rw [if_neg h124] at H2
        have hlen : (ks ++ [k2]).length = ks.length + 1 := by simp
        have CG : Hid (∀ w', Fr w4 w' → Calls Try.prog 160 #[.pointer (some ⟨b, 0, none⟩), .int .i64 3, .slice az' (ks.length + 1) cz'] w' fun e w'' => e = .returned (.int .i64 (grp 3 (ks ++ [k2]) ps2).1) ∧ RdSt b lo a2 t v2 (.slice az' (ks.length + 1) cz') us2 (grp 3 (ks ++ [k2]) ps2).2 w' w'') := Lib.hid fun w' h => group_any b lo a2 t v2 _ ps2 us2 3 (ks ++ [k2]) w' (L3.out.box.fr h) hlo (by have := h.size; omega) (L3.out.prd.fr h) (owns_fr L3.out.row h) L3.out.apt.1 (by omega) (by simp)
        have HR2 := Lib.hid H2
        clear H2 B4
        go_wp2_with fail
        refine (CN.out _ (by repeat (first | (with_reducible exact Fr.refl _) | (with_reducible assumption) | (with_reducible refine Fr.drewN ?_ _) | (with_reducible refine Fr.drew ?_) | (with_reducible refine Fr.alloc ?_ _) | (with_reducible refine Fr.setCell ?_ (by (first | (with_reducible assumption) | omega | (simp only [World.size_alloc, World.size_setCell, World.size_drew, World.heap_drewN]; omega) | (simp; done) | (simp; omega))) _) | (with_reducible refine Fr.trans ?_ (by with_reducible assumption))))).mono ?_
        rintro e w5 ⟨rfl, hf5⟩
        have L5 := Lib.hid (L3.out.fr hf5)
        have B5 := L5.out.box
        have F5 := B5.facts
        clear B5
        go_wp2_with fail
        refine (CG.out _ (by repeat (first | (with_reducible exact Fr.refl _) | (with_reducible assumption) | (with_reducible refine Fr.drewN ?_ _) | (with_reducible refine Fr.drew ?_) | (with_reducible refine Fr.alloc ?_ _) | (with_reducible refine Fr.setCell ?_ (by (first | (with_reducible assumption) | omega | (simp only [World.size_alloc, World.size_setCell, World.size_drew, World.heap_drewN]; omega) | (simp; done) | (simp; omega))) _) | (with_reducible refine Fr.trans ?_ (by with_reducible assumption))))).mono ?_
        rintro e w6 ⟨rfl, hst⟩
        have HS := Lib.hid hst
        clear hst
        go_wp2_with fail
        refine bodyPost_ret (v := .tuple #[.int .i64 (grp 3 (ks ++ [k2]) ps2).1, .bool true]) (by simp [results, Try.results84, go_sem, *]) rfl ?_
        rw [← HR2.out]
        exact ⟨rfl, Lp.done (L5.out) HS.out⟩
end Go.Proofs.Ytjgghiniajmfjaa
