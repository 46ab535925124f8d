/- The reading of a path, plain: what the program's reader does with a text. No condition. -/
import Derived.Test.YtjgghiniajmfjaaPth
namespace Go.Proofs.Ytjgghiniajmfjaa
open Go.RowKit
set_option linter.unusedVariables false
set_option linter.unusedSimpArgs false
/-- The byte at a place, 0 at the end. -/
def nx (t : ByteArray) (a : Nat) : Nat := if h : a < t.size then (t[a]).toNat else 0
def isLab (n : Nat) : Bool := decide (97 ≤ n ∧ n ≤ 100)
def grp (op : Int) (ks : List Int) (ps : List PieceD) : Int × List PieceD :=
  match ks with
  | [k] => (k, ps)
  | _ => ((ps.length : Int), ps ++ [⟨op, 0, ks⟩])
inductive Job where
  | item
  | post (k : Int)
  | alt (ks : List Int)
  | expr (ks : List Int)
def prs (t : ByteArray) : Nat → Job → Nat → List PieceD → Option (Int × Nat × List PieceD)
  | 0, _, _, _ => none
  | f + 1, .item, a, ps =>
    if nx t a = 40 then
      match prs t f (.expr []) (a + 1) ps with
      | none => none
      | some (k, a1, ps1) => if nx t a1 = 41 then prs t f (.post k) (a1 + 1) ps1 else none
    else prs t f (.post (ps.length : Int)) (a + 1) (ps ++ [⟨1, UInt8.ofNat (nx t a), []⟩])
  | f + 1, .post k, a, ps =>
    if nx t a = 42 then prs t f (.post (ps.length : Int)) (a + 1) (ps ++ [⟨4, 0, [k]⟩])
    else if nx t a = 43 then prs t f (.post (ps.length : Int)) (a + 1) (ps ++ [⟨5, 0, [k]⟩])
    else if nx t a = 63 then prs t f (.post (ps.length : Int)) (a + 1) (ps ++ [⟨6, 0, [k]⟩])
    else some (k, a, ps)
  | f + 1, .alt ks, a, ps =>
    if isLab (nx t a) = true ∨ nx t a = 40 then
      match prs t f .item a ps with
      | none => none
      | some (k, a1, ps1) => prs t f (.alt (ks ++ [k])) a1 ps1
    else if ks.length = 0 then none else some ((grp 2 ks ps).1, a, (grp 2 ks ps).2)
  | f + 1, .expr ks, a, ps =>
    match prs t f (.alt []) a ps with
    | none => none
    | some (k, a1, ps1) =>
      if nx t a1 = 124 then prs t f (.expr (ks ++ [k])) (a1 + 1) ps1
      else some ((grp 3 (ks ++ [k]) ps1).1, a1, (grp 3 (ks ++ [k]) ps1).2)
def rpG (t : ByteArray) (r : Option (Int × Nat × List PieceD)) : List PieceD × Bool :=
  match r with
  | none => ([], false)
  | some (_, a, ps) => if a = t.size ∧ pathB ps = true then (ps, true) else ([], false)
def rpM (t : ByteArray) : List PieceD × Bool := if 20 < t.size then ([], false) else rpG t (prs t 100 (.expr []) 0 [])
example : rpM ⟨#[97, 98, 42]⟩ = ([⟨1, 97, []⟩, ⟨1, 98, []⟩, ⟨4, 0, [1]⟩, ⟨2, 0, [0, 2]⟩], true) := by decide
example : rpM ⟨#[40, 97, 124, 98, 99, 41, 63]⟩ = ([⟨1, 97, []⟩, ⟨1, 98, []⟩, ⟨1, 99, []⟩, ⟨2, 0, [1, 2]⟩, ⟨3, 0, [0, 3]⟩, ⟨6, 0, [4]⟩], true) := by decide
example : (rpM ⟨#[97, 124]⟩).2 = false := by decide
theorem nx_end {t : ByteArray} {a : Nat} (h : t.size ≤ a) : nx t a = 0 := by unfold nx; rw [dif_neg (by omega)]
theorem nx_in {t : ByteArray} {a : Nat} (h : nx t a ≠ 0) : a < t.size := by
  rcases Nat.lt_or_ge a t.size with h1 | h1
  · exact h1
  · exact absurd (nx_end h1) h
theorem nx_lt (t : ByteArray) (a : Nat) : nx t a < 256 := by
  unfold nx
  split
  · exact UInt8.toNat_lt _
  · omega
/-- Places only go on, pieces are only laid behind. -/
theorem prs_on (t : ByteArray) : ∀ (f : Nat) (j : Job) (a : Nat) (ps : List PieceD) (k : Int) (a1 : Nat) (ps1 : List PieceD), prs t f j a ps = some (k, a1, ps1) → a ≤ a1 ∧ (∃ more, ps1 = ps ++ more) ∧ (j = .item → a + 1 ≤ a1) := by
  intro f
  induction f with
  | zero => intro j a ps k a1 ps1 h; rw [prs] at h; cases h
  | succ f ih =>
    intro j a ps k a1 ps1 h
    cases j with
    | item =>
      rw [prs] at h
      split at h
      · cases hE : prs t f (.expr []) (a + 1) ps with
        | none => rw [hE] at h; cases h
        | some r =>
          obtain ⟨k2, a2, ps2⟩ := r
          rw [hE] at h
          simp only [] at h
          split at h
          · obtain ⟨b1, ⟨m1, b2⟩, _⟩ := ih _ _ _ _ _ _ hE
            obtain ⟨c1, ⟨m2, c2⟩, _⟩ := ih _ _ _ _ _ _ h
            exact ⟨by omega, ⟨m1 ++ m2, by rw [c2, b2, List.append_assoc]⟩, fun _ => by omega⟩
          · cases h
      · obtain ⟨c1, ⟨m2, c2⟩, _⟩ := ih _ _ _ _ _ _ h
        exact ⟨by omega, ⟨_, by rw [c2, List.append_assoc]⟩, fun _ => by omega⟩
    | post k0 =>
      rw [prs] at h
      split at h
      · obtain ⟨c1, ⟨m2, c2⟩, _⟩ := ih _ _ _ _ _ _ h
        exact ⟨by omega, ⟨_, by rw [c2, List.append_assoc]⟩, fun h => by cases h⟩
      · split at h
        · obtain ⟨c1, ⟨m2, c2⟩, _⟩ := ih _ _ _ _ _ _ h
          exact ⟨by omega, ⟨_, by rw [c2, List.append_assoc]⟩, fun h => by cases h⟩
        · split at h
          · obtain ⟨c1, ⟨m2, c2⟩, _⟩ := ih _ _ _ _ _ _ h
            exact ⟨by omega, ⟨_, by rw [c2, List.append_assoc]⟩, fun h => by cases h⟩
          · cases h
            exact ⟨Nat.le_refl _, ⟨[], by simp⟩, fun h => by cases h⟩
    | alt ks =>
      rw [prs] at h
      split at h
      · cases hE : prs t f .item a ps with
        | none => rw [hE] at h; cases h
        | some r =>
          obtain ⟨k2, a2, ps2⟩ := r
          rw [hE] at h
          simp only [] at h
          obtain ⟨b1, ⟨m1, b2⟩, _⟩ := ih _ _ _ _ _ _ hE
          obtain ⟨c1, ⟨m2, c2⟩, _⟩ := ih _ _ _ _ _ _ h
          exact ⟨by omega, ⟨m1 ++ m2, by rw [c2, b2, List.append_assoc]⟩, fun h => by cases h⟩
      · split at h
        · cases h
        · cases h
          refine ⟨Nat.le_refl _, ?_, fun h => by cases h⟩
          unfold grp
          split
          · exact ⟨[], by simp⟩
          · exact ⟨_, rfl⟩
    | expr ks =>
      rw [prs] at h
      cases hE : prs t f (.alt []) a ps with
      | none => rw [hE] at h; cases h
      | some r =>
        obtain ⟨k2, a2, ps2⟩ := r
        rw [hE] at h
        simp only [] at h
        obtain ⟨b1, ⟨m1, b2⟩, _⟩ := ih _ _ _ _ _ _ hE
        split at h
        · obtain ⟨c1, ⟨m2, c2⟩, _⟩ := ih _ _ _ _ _ _ h
          exact ⟨by omega, ⟨m1 ++ m2, by rw [c2, b2, List.append_assoc]⟩, fun h => by cases h⟩
        · cases h
          refine ⟨b1, ?_, fun h => by cases h⟩
          unfold grp
          split
          · exact ⟨m1, b2⟩
          · exact ⟨_, by rw [b2, List.append_assoc]⟩
end Go.Proofs.Ytjgghiniajmfjaa
