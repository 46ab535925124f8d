/- The reading of a path, plain: what the reference's reader does with a text; on the whole it reads as the program's does. No condition. -/
import Derived.Test.YtjgghiniajmfjaaPrx
namespace Go.Proofs.Ytjgghiniajmfjaa
open Go.RowKit
set_option linter.unusedVariables false
set_option linter.unusedSimpArgs false
/-- The reference's reader: as prs, but a row ends only at the end, at a bar, at a closing bracket. -/
def srs (t : ByteArray) : Nat → Job → Nat → List PieceD → Option (Int × Nat × List PieceD)
  | 0, _, _, _ => none
  | f + 1, .item, a, ps =>
    if nx t a = 40 then
      match srs t f (.expr []) (a + 1) ps with
      | none => none
      | some (k, a1, ps1) => if nx t a1 = 41 then srs t f (.post k) (a1 + 1) ps1 else none
    else srs t f (.post (ps.length : Int)) (a + 1) (ps ++ [⟨1, UInt8.ofNat (nx t a), []⟩])
  | f + 1, .post k, a, ps =>
    if nx t a = 42 then srs t f (.post (ps.length : Int)) (a + 1) (ps ++ [⟨4, 0, [k]⟩])
    else if nx t a = 43 then srs t f (.post (ps.length : Int)) (a + 1) (ps ++ [⟨5, 0, [k]⟩])
    else if nx t a = 63 then srs t f (.post (ps.length : Int)) (a + 1) (ps ++ [⟨6, 0, [k]⟩])
    else some (k, a, ps)
  | f + 1, .alt ks, a, ps =>
    if isLab (nx t a) = true ∨ nx t a = 40 then
      match srs t f .item a ps with
      | none => none
      | some (k, a1, ps1) => srs t f (.alt (ks ++ [k])) a1 ps1
    else if ks.length = 0 then none else if t.size ≤ a ∨ nx t a = 124 ∨ nx t a = 41 then some ((grp 2 ks ps).1, a, (grp 2 ks ps).2) else none
  | f + 1, .expr ks, a, ps =>
    match srs t f (.alt []) a ps with
    | none => none
    | some (k, a1, ps1) =>
      if nx t a1 = 124 then srs t f (.expr (ks ++ [k])) (a1 + 1) ps1
      else some ((grp 3 (ks ++ [k]) ps1).1, a1, (grp 3 (ks ++ [k]) ps1).2)
theorem srs_prs (t : ByteArray) : ∀ (f : Nat) (j : Job) (a : Nat) (ps : List PieceD) (r : Int × Nat × List PieceD), srs t f j a ps = some r → prs t f j a ps = some r := by
  intro f
  induction f with
  | zero => intro j a ps r h; rw [srs] at h; cases h
  | succ f ih =>
    intro j a ps r h
    cases j with
    | item =>
      rw [srs] at h
      rw [prs]
      split at h
      · rename_i h40
        rw [if_pos h40]
        cases hE : srs t f (.expr []) (a + 1) ps with
        | none => rw [hE] at h; cases h
        | some q =>
          obtain ⟨k2, a2, ps2⟩ := q
          rw [hE] at h
          rw [ih _ _ _ _ hE]
          simp only [] at h ⊢
          split at h
          · rename_i h41
            rw [if_pos h41]
            exact ih _ _ _ _ h
          · cases h
      · rename_i h40
        rw [if_neg h40]
        exact ih _ _ _ _ h
    | post k0 =>
      rw [srs] at h
      rw [prs]
      split at h
      · rename_i e
        rw [if_pos e]
        exact ih _ _ _ _ h
      · rename_i e
        rw [if_neg e]
        split at h
        · rename_i e
          rw [if_pos e]
          exact ih _ _ _ _ h
        · rename_i e
          rw [if_neg e]
          split at h
          · rename_i e
            rw [if_pos e]
            exact ih _ _ _ _ h
          · rename_i e
            rw [if_neg e]
            exact h
    | alt ks =>
      rw [srs] at h
      rw [prs]
      split at h
      · rename_i hc
        rw [if_pos hc]
        cases hE : srs t f .item a ps with
        | none => rw [hE] at h; cases h
        | some q =>
          obtain ⟨k2, a2, ps2⟩ := q
          rw [hE] at h
          rw [ih _ _ _ _ hE]
          simp only [] at h ⊢
          exact ih _ _ _ _ h
      · rename_i hc
        rw [if_neg hc]
        split at h
        · cases h
        · rename_i hk
          rw [if_neg hk]
          split at h
          · exact h
          · cases h
    | expr ks =>
      rw [srs] at h
      rw [prs]
      cases hE : srs t f (.alt []) a ps with
      | none => rw [hE] at h; cases h
      | some q =>
        obtain ⟨k2, a2, ps2⟩ := q
        rw [hE] at h
        rw [ih _ _ _ _ hE]
        simp only [] at h ⊢
        split at h
        · rename_i e
          rw [if_pos e]
          exact ih _ _ _ _ h
        · rename_i e
          rw [if_neg e]
          exact h
/-- Where a job may end so that the reference's reader ends there too. -/
def Job.endsAt (t : ByteArray) (a : Nat) : Job → Prop
  | .item => True
  | .post _ => True
  | .alt _ => t.size ≤ a ∨ nx t a = 124 ∨ nx t a = 41
  | .expr _ => t.size ≤ a ∨ nx t a = 41
theorem prs_srs (t : ByteArray) : ∀ (f : Nat) (j : Job) (a : Nat) (ps : List PieceD) (k : Int) (a1 : Nat) (ps1 : List PieceD), prs t f j a ps = some (k, a1, ps1) → j.endsAt t a1 → srs t f j a ps = some (k, a1, ps1) := by
  intro f
  induction f with
  | zero => intro j a ps k a1 ps1 h; rw [prs] at h; cases h
  | succ f ih =>
    intro j a ps k a1 ps1 h he
    cases j with
    | item =>
      rw [prs] at h
      rw [srs]
      split at h
      · rename_i h40
        rw [if_pos h40]
        cases hE : prs t f (.expr []) (a + 1) ps with
        | none => rw [hE] at h; cases h
        | some q =>
          obtain ⟨k2, a2, ps2⟩ := q
          rw [hE] at h
          simp only [] at h
          split at h
          · rename_i h41
            rw [ih _ _ _ _ _ _ hE (.inr h41)]
            simp only []
            rw [if_pos h41]
            exact ih _ _ _ _ _ _ h trivial
          · cases h
      · rename_i h40
        rw [if_neg h40]
        exact ih _ _ _ _ _ _ h trivial
    | post k0 =>
      rw [prs] at h
      rw [srs]
      split at h
      · rename_i e
        rw [if_pos e]
        exact ih _ _ _ _ _ _ h trivial
      · rename_i e
        rw [if_neg e]
        split at h
        · rename_i e
          rw [if_pos e]
          exact ih _ _ _ _ _ _ h trivial
        · rename_i e
          rw [if_neg e]
          split at h
          · rename_i e
            rw [if_pos e]
            exact ih _ _ _ _ _ _ h trivial
          · rename_i e
            rw [if_neg e]
            exact h
    | alt ks =>
      rw [prs] at h
      rw [srs]
      split at h
      · rename_i hc
        rw [if_pos hc]
        cases hE : prs t f .item a ps with
        | none => rw [hE] at h; cases h
        | some q =>
          obtain ⟨k2, a2, ps2⟩ := q
          rw [hE] at h
          rw [ih _ _ _ _ _ _ hE trivial]
          simp only [] at h ⊢
          exact ih _ _ _ _ _ _ h he
      · rename_i hc
        rw [if_neg hc]
        split at h
        · cases h
        · rename_i hk
          rw [if_neg hk]
          cases h
          exact if_pos he
    | expr ks =>
      rw [prs] at h
      rw [srs]
      cases hE : prs t f (.alt []) a ps with
      | none => rw [hE] at h; cases h
      | some q =>
        obtain ⟨k2, a2, ps2⟩ := q
        rw [hE] at h
        simp only [] at h
        split at h
        · rename_i e
          rw [ih _ _ _ _ _ _ hE (.inr (.inl e))]
          simp only []
          rw [if_pos e]
          exact ih _ _ _ _ _ _ h he
        · rename_i e
          cases h
          rw [ih _ _ _ _ _ _ hE (he.imp id .inr)]
          simp only []
          rw [if_neg e]
/-- On the whole both read alike. -/
theorem rpG_srs (t : ByteArray) (f : Nat) : rpG t (srs t f (.expr []) 0 []) = rpG t (prs t f (.expr []) 0 []) := by
  cases hS : srs t f (.expr []) 0 [] with
  | some r => rw [srs_prs _ _ _ _ _ _ hS]
  | none =>
    cases hP : prs t f (.expr []) 0 [] with
    | none => rfl
    | some r =>
      obtain ⟨k, a, ps⟩ := r
      unfold rpG
      simp only []
      by_cases ha : a = t.size
      · have := prs_srs t f _ _ _ _ _ _ hP (.inl (by omega))
        rw [hS] at this
        cases this
      · rw [if_neg (fun h => ha h.1)]
end Go.Proofs.Ytjgghiniajmfjaa
