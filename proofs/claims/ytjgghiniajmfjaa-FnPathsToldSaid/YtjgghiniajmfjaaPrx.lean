/- The program's path reader: what a call leaves behind (RPost), the state of its loops (Lp). Conditions: bounds on what is read. -/
import Derived.Test.YtjgghiniajmfjaaPrw
namespace Go.Proofs.Ytjgghiniajmfjaa
open Go.RowKit
set_option linter.unusedVariables false
set_option linter.unusedSimpArgs false
def Job.cost : Job → Nat
  | .item => 0
  | .post _ => 0
  | .alt _ => 1
  | .expr _ => 2
theorem grp_len (op : Int) (ks : List Int) (ps : List PieceD) : (grp op ks ps).2.length ≤ ps.length + 1 := by
  unfold grp
  split
  · simp
  · simp
/-- At most two pieces a byte. -/
theorem prs_len (t : ByteArray) : ∀ (f : Nat) (j : Job) (a : Nat) (ps : List PieceD) (k : Int) (a1 : Nat) (ps1 : List PieceD), prs t f j a ps = some (k, a1, ps1) → ps1.length + 2 * a ≤ ps.length + 2 * a1 + j.cost := by
  intro f
  induction f with
  | zero => intro j a ps k a1 ps1 h; rw [prs] at h; cases h
  | succ f ih =>
    intro j a ps k a1 ps1 h
    cases j with
    | item =>
      rw [prs] at h
      split at h
      · cases hE : prs t f (.expr []) (a + 1) ps with
        | none => rw [hE] at h; cases h
        | some r =>
          obtain ⟨k2, a2, ps2⟩ := r
          rw [hE] at h
          simp only [] at h
          split at h
          · have h1 := ih _ _ _ _ _ _ hE
            have h2 := ih _ _ _ _ _ _ h
            simp only [Job.cost] at h1 h2 ⊢
            omega
          · cases h
      · have h2 := ih _ _ _ _ _ _ h
        simp only [Job.cost, List.length_append, List.length_singleton] at h2 ⊢
        omega
    | post k0 =>
      rw [prs] at h
      split at h
      · have h2 := ih _ _ _ _ _ _ h
        simp only [Job.cost, List.length_append, List.length_singleton] at h2 ⊢
        omega
      · split at h
        · have h2 := ih _ _ _ _ _ _ h
          simp only [Job.cost, List.length_append, List.length_singleton] at h2 ⊢
          omega
        · split at h
          · have h2 := ih _ _ _ _ _ _ h
            simp only [Job.cost, List.length_append, List.length_singleton] at h2 ⊢
            omega
          · cases h
            simp [Job.cost]
    | alt ks =>
      rw [prs] at h
      split at h
      · cases hE : prs t f .item a ps with
        | none => rw [hE] at h; cases h
        | some r =>
          obtain ⟨k2, a2, ps2⟩ := r
          rw [hE] at h
          simp only [] at h
          have h1 := ih _ _ _ _ _ _ hE
          have h2 := ih _ _ _ _ _ _ h
          simp only [Job.cost] at h1 h2 ⊢
          omega
      · split at h
        · cases h
        · cases h
          have := grp_len 2 ks ps
          simp only [Job.cost]
          omega
    | expr ks =>
      rw [prs] at h
      cases hE : prs t f (.alt []) a ps with
      | none => rw [hE] at h; cases h
      | some r =>
        obtain ⟨k2, a2, ps2⟩ := r
        rw [hE] at h
        simp only [] at h
        have h1 := ih _ _ _ _ _ _ hE
        split at h
        · have h2 := ih _ _ _ _ _ _ h
          simp only [Job.cost] at h1 h2 ⊢
          omega
        · cases h
          have := grp_len 3 (ks ++ [k2]) ps2
          simp only [Job.cost] at h1 ⊢
          omega
/-- No place behind the end. -/
theorem prs_in (t : ByteArray) : ∀ (f : Nat) (j : Job) (a : Nat) (ps : List PieceD) (k : Int) (a1 : Nat) (ps1 : List PieceD), prs t f j a ps = some (k, a1, ps1) → a ≤ t.size → (j = .item → nx t a ≠ 0) → a1 ≤ t.size := by
  intro f
  induction f with
  | zero => intro j a ps k a1 ps1 h; rw [prs] at h; cases h
  | succ f ih =>
    intro j a ps k a1 ps1 h ha hj
    have ne : ∀ {x n : Nat}, nx t x = n → n ≠ 0 → x + 1 ≤ t.size := fun e hn => nx_in (by rw [e]; exact hn)
    cases j with
    | item =>
      have h1 := nx_in (hj rfl)
      rw [prs] at h
      split at h
      · cases hE : prs t f (.expr []) (a + 1) ps with
        | none => rw [hE] at h; cases h
        | some r =>
          obtain ⟨k2, a2, ps2⟩ := r
          rw [hE] at h
          simp only [] at h
          split at h
          · rename_i h41
            have := ne h41 (by decide)
            exact ih _ _ _ _ _ _ h this (fun e => by cases e)
          · cases h
      · exact ih _ _ _ _ _ _ h h1 (fun e => by cases e)
    | post k0 =>
      rw [prs] at h
      split at h
      · rename_i e
        exact ih _ _ _ _ _ _ h (ne e (by decide)) (fun e => by cases e)
      · split at h
        · rename_i e
          exact ih _ _ _ _ _ _ h (ne e (by decide)) (fun e => by cases e)
        · split at h
          · rename_i e
            exact ih _ _ _ _ _ _ h (ne e (by decide)) (fun e => by cases e)
          · cases h
            exact ha
    | alt ks =>
      rw [prs] at h
      split at h
      · rename_i e
        have hz : nx t a ≠ 0 := by
          rcases e with e | e
          · intro h0
            rw [h0] at e
            exact absurd e (by decide)
          · omega
        cases hE : prs t f .item a ps with
        | none => rw [hE] at h; cases h
        | some r =>
          obtain ⟨k2, a2, ps2⟩ := r
          rw [hE] at h
          simp only [] at h
          exact ih _ _ _ _ _ _ h (ih _ _ _ _ _ _ hE ha (fun _ => hz)) (fun e => by cases e)
      · split at h
        · cases h
        · cases h
          exact ha
    | expr ks =>
      rw [prs] at h
      cases hE : prs t f (.alt []) a ps with
      | none => rw [hE] at h; cases h
      | some r =>
        obtain ⟨k2, a2, ps2⟩ := r
        rw [hE] at h
        simp only [] at h
        have h2 := ih _ _ _ _ _ _ hE ha (fun e => by cases e)
        split at h
        · rename_i e
          exact ih _ _ _ _ _ _ h (ne e (by decide)) (fun e => by cases e)
        · cases h
          exact h2
theorem Old.on {w w' : World} {y : Value} (h : Old w y) (hs : w.heap.size ≤ w'.heap.size) : Old w' y := fun g e => Nat.lt_of_lt_of_le (h g e) hs
/-- What a call of the reader leaves behind. -/
def RPost (b lo : Nat) (t : ByteArray) (v : Value) (us : List Value) (w : World) (R : Option (Int × Nat × List PieceD)) (e : Ending) (w' : World) : Prop :=
  match R with
  | none => e = .returned (.tuple #[.int .i64 0, .bool false]) ∧ Two b v.ownBlock w w'
  | some (k, a1, ps1) => e = .returned (.tuple #[.int .i64 k, .bool true]) ∧ RdSt b lo a1 t v (.slice none 0 0) us ps1 w w'
/-- A loop of the reader: z is its own row of kids. -/
structure Lp (b lo a : Nat) (t : ByteArray) (v0 : Value) (us0 : List Value) (w : World) (z : Value) (ks : List Int) (v : Value) (us : List Value) (ps : List PieceD) (wr : World) : Prop where
  box : Box wr b #[.string t, .int .i64 (a : Int), v] 110
  prd : Prd wr lo v ps us
  go : PGo b v0 v w wr
  row : IntsO wr lo z ks
  apt : Apt v us z
  new : ∀ g, z.ownBlock = some g → w.heap.size ≤ g
  old : ∀ y, Old w y → Apt v0 us0 y → Apt v us y
theorem Apt.none (v : Value) (us : List Value) : Apt v us (.slice none 0 0) := ⟨fun g h => by simp [Value.ownBlock] at h, fun u _ g h => by simp [Value.ownBlock] at h⟩
theorem Lp.start {b lo a : Nat} {t : ByteArray} {v : Value} {us : List Value} {ps : List PieceD} {w : World} (hb : Box w b #[.string t, .int .i64 (a : Int), v] 110) (hp : Prd w lo v ps us) : Lp b lo a t v us w (.slice none 0 0) [] v us ps w :=
  ⟨hb, hp, PGo.of_fr (Fr.refl w), World.ownsRow_nil _ _ _ _, Apt.none _ _, fun g h => by simp [Value.ownBlock] at h, fun y _ h => h⟩
theorem Lp.fr {b lo a : Nat} {t : ByteArray} {v0 z v : Value} {us0 us : List Value} {ks : List Int} {ps : List PieceD} {w wr w1 : World} (h : Lp b lo a t v0 us0 w z ks v us ps wr) (hf : Fr wr w1) : Lp b lo a t v0 us0 w z ks v us ps w1 :=
  ⟨h.box.fr hf, h.prd.fr hf, h.go.trans (PGo.of_fr hf), owns_fr h.row hf, h.apt, h.new, h.old⟩
theorem Lp.call {b lo a a1 : Nat} {t : ByteArray} {v0 z v : Value} {us0 us : List Value} {ks : List Int} {ps ps1 : List PieceD} {w wr w1 : World} (h : Lp b lo a t v0 us0 w z ks v us ps wr) (hlo : b < lo) (hr : RdSt b lo a1 t v (.slice none 0 0) us ps1 wr w1) : ∃ v' us', Lp b lo a1 t v0 us0 w z ks v' us' ps1 w1 := by
  obtain ⟨v', us', h1, h2, h3, h4⟩ := hr
  have hk := h3.kids h.row h.apt.1 hlo
  have hN : ∀ y : Value, Apart y (.slice none 0 0) := fun y g _ e => by simp [Value.ownBlock] at e
  exact ⟨v', us', h1, h2, h.go.trans h3, hk.1, h4 z (fun g e => (World.ownsRow.lt h.row g e).2) h.apt (hN z), h.new, fun y hy ha => h4 y (hy.on h.go.size) (h.old y hy ha) (hN y)⟩
theorem Lp.app {b lo a : Nat} {t : ByteArray} {v0 z z' v : Value} {us0 us : List Value} {ks : List Int} {k : Int} {ps : List PieceD} {w wr w1 : World} (h : Lp b lo a t v0 us0 w z ks v us ps wr) (hlo : b < lo) (hg : wr.grownBy w1 z.ownBlock) (ho : IntsO w1 lo z' (ks ++ [k])) (hat : z'.ownBlock = z.ownBlock ∨ ∃ g, z'.ownBlock = some g ∧ wr.heap.size ≤ g) : Lp b lo a t v0 us0 w z' (ks ++ [k]) v us ps w1 := by
  have hsz := h.go.size
  have hmem : ∀ k, k < ps.length → nAt us k ∈ us := fun k hk => by
    have hk' : k < us.length := by rw [h.prd.len]; exact hk
    have : nAt us k = us[k] := by unfold nAt; simp [List.getD, hk']
    rw [this]
    exact List.getElem_mem hk'
  have sym : ∀ {x y : Value}, Apart x y → Apart y x := fun q g h1 h2 => q g h2 h1
  refine ⟨h.box.gr hg (fun e => by have := (World.ownsRow.lt h.row b e).1; omega), ⟨h.prd.len, World.ownsRow.kept h.prd.own hg (Apart.ne (sym h.apt.1)), fun j hj => ⟨World.ownsRow.kept (h.prd.kid j hj).1 hg (Apart.ne (sym (h.apt.2 _ (hmem j hj)))), (h.prd.kid j hj).2⟩⟩, ⟨?_, h.go.row⟩, ho, ?_, ?_, h.old⟩
  · have ht := h.go.two
    refine ⟨hg.os.trans ht.os, hg.tape.trans ht.tape, hg.output.trans ht.output, Nat.le_trans ht.size hg.size, fun i hi h1 h2 => ?_⟩
    rw [hg.block i (by omega) (fun e => by have := h.new i (by first | exact e | exact e.symm); omega)]
    exact ht.block i hi h1 h2
  · refine ⟨fun g h1 h2 => ?_, fun u hu g h1 h2 => ?_⟩
    · rcases hat with r | ⟨g', r, hg'⟩
      · exact h.apt.1 g (r ▸ h1) h2
      · rw [r] at h1
        cases h1
        have := (World.ownsRow.lt h.prd.own g h2).2
        omega
    · rcases hat with r | ⟨g', r, hg'⟩
      · exact h.apt.2 u hu g (r ▸ h1) h2
      · rw [r] at h1
        cases h1
        obtain ⟨j, hj, rfl⟩ := List.getElem_of_mem hu
        have e1 : nAt us j = us[j] := by unfold nAt; simp [List.getD, hj]
        have := (World.ownsRow.lt (h.prd.kid j (by rw [← h.prd.len]; exact hj)).1 g (by rw [e1]; exact h2)).2
        omega
  · intro g e
    rcases hat with r | ⟨g', r, hg'⟩
    · exact h.new g (r ▸ e)
    · rw [r] at e
      cases e
      omega
theorem Lp.at_ {b lo a a1 : Nat} {t : ByteArray} {v0 z v : Value} {us0 us : List Value} {ks : List Int} {ps : List PieceD} {w wr : World} (h : Lp b lo a t v0 us0 w z ks v us ps wr) (hlo : b < lo) (hb : Box (wr.setCell ⟨b, 1, none⟩ (.int .i64 (a1 : Int))) b #[.string t, .int .i64 (a1 : Int), v] 110) : Lp b lo a1 t v0 us0 w z ks v us ps (wr.setCell ⟨b, 1, none⟩ (.int .i64 (a1 : Int))) :=
  ⟨hb, h.prd.set (by show b < lo; exact hlo) _, ⟨h.go.two.set 1 _, h.go.row⟩, owns_set h.row (by show b < lo; exact hlo) _, h.apt, h.new, h.old⟩
theorem Lp.piece {b lo a : Nat} {t : ByteArray} {v0 v v' u : Value} {us0 us : List Value} {ps : List PieceD} {x : PieceD} {w wr w1 : World} (h : Lp b lo a t v0 us0 w (.slice none 0 0) [] v us ps wr) (hu : ∀ g, u.ownBlock = some g → w.heap.size ≤ g)
    (h1 : Box w1 b #[.string t, .int .i64 (a : Int), v'] 110) (h2 : Prd w1 lo v' (ps ++ [x]) (us ++ [u])) (h3 : Two b v.ownBlock wr w1) (h4 : v'.ownBlock = v.ownBlock ∨ ∃ g, v'.ownBlock = some g ∧ wr.heap.size ≤ g) : Lp b lo a t v0 us0 w (.slice none 0 0) [] v' (us ++ [u]) (ps ++ [x]) w1 :=
  ⟨h1, h2, h.go.trans ⟨h3, h4⟩, World.ownsRow_nil _ _ _ _, Apt.none _ _, fun g h => by simp [Value.ownBlock] at h, fun y hy ha => (h.old y hy ha).snoc (hy.on h.go.size) (fun g e1 e2 => by have := hy g e1; have := hu g e2; omega) h4⟩
theorem Lp.done {b lo a a1 : Nat} {t : ByteArray} {v0 z v : Value} {us0 us : List Value} {ks : List Int} {ps ps1 : List PieceD} {w wr w1 : World} (h : Lp b lo a t v0 us0 w z ks v us ps wr) (hr : RdSt b lo a1 t v z us ps1 wr w1) : RdSt b lo a1 t v0 (.slice none 0 0) us0 ps1 w w1 := by
  obtain ⟨v', us', h1, h2, h3, h4⟩ := hr
  exact ⟨v', us', h1, h2, h.go.trans h3, fun y hy ha _ => h4 y (hy.on h.go.size) (h.old y hy ha) fun g e1 e2 => by have := hy g e1; have := h.new g e2; omega⟩
end Go.Proofs.Ytjgghiniajmfjaa
