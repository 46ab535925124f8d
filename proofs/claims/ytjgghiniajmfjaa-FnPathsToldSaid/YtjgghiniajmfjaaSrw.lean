/- The reference's path reader: its state, what a call leaves behind, put. Conditions: bounds on what is read. -/
import Derived.Test.YtjgghiniajmfjaaPrx
import Derived.Test.YtjgghiniajmfjaaSrd
namespace Go.Proofs.Ytjgghiniajmfjaa
open Go.RowKit
set_option linter.unusedVariables false
set_option linter.unusedSimpArgs false
/-- The reader's state behind a call: z is a row that the call was handed. -/
def SrSt (b lo a : Nat) (bd : Bool) (t : ByteArray) (v z : Value) (us : List Value) (ps : List PieceD) (w w' : World) : Prop := ∃ v' us', Box w' b #[.string t, .int .i64 (a : Int), .bool bd, v'] 115 ∧ Prd w' lo v' ps us' ∧ PGo b v v' w w' ∧ ∀ y, Old w y → Apt v us y → Apart y z → Apt v' us' y
/-- A loop of the reader: z is its own row of kids. -/
structure Ls (b lo a : Nat) (bd : Bool) (t : ByteArray) (v0 : Value) (us0 : List Value) (w : World) (z : Value) (ks : List Int) (v : Value) (us : List Value) (ps : List PieceD) (wr : World) : Prop where
  box : Box wr b #[.string t, .int .i64 (a : Int), .bool bd, v] 115
  prd : Prd wr lo v ps us
  go : PGo b v0 v w wr
  row : IntsO wr lo z ks
  apt : Apt v us z
  new : ∀ g, z.ownBlock = some g → w.heap.size ≤ g
  old : ∀ y, Old w y → Apt v0 us0 y → Apt v us y
theorem Ls.start {b lo a : Nat} {bd : Bool} {t : ByteArray} {v : Value} {us : List Value} {ps : List PieceD} {w : World} (hb : Box w b #[.string t, .int .i64 (a : Int), .bool bd, v] 115) (hp : Prd w lo v ps us) : Ls b lo a bd t v us w (.slice none 0 0) [] v us ps w :=
  ⟨hb, hp, PGo.of_fr (Fr.refl w), World.ownsRow_nil _ _ _ _, Apt.none _ _, fun g h => by simp [Value.ownBlock] at h, fun y _ h => h⟩
theorem Ls.fr {b lo a : Nat} {bd : Bool} {t : ByteArray} {v0 z v : Value} {us0 us : List Value} {ks : List Int} {ps : List PieceD} {w wr w1 : World} (h : Ls b lo a bd t v0 us0 w z ks v us ps wr) (hf : Fr wr w1) : Ls b lo a bd t v0 us0 w z ks v us ps w1 :=
  ⟨h.box.fr hf, h.prd.fr hf, h.go.trans (PGo.of_fr hf), owns_fr h.row hf, h.apt, h.new, h.old⟩
theorem Ls.call {b lo a a1 : Nat} {bd bd1 : Bool} {t : ByteArray} {v0 z v : Value} {us0 us : List Value} {ks : List Int} {ps ps1 : List PieceD} {w wr w1 : World} (h : Ls b lo a bd t v0 us0 w z ks v us ps wr) (hlo : b < lo) (hr : SrSt b lo a1 bd1 t v (.slice none 0 0) us ps1 wr w1) : ∃ v' us', Ls b lo a1 bd1 t v0 us0 w z ks v' us' ps1 w1 := by
  obtain ⟨v', us', h1, h2, h3, h4⟩ := hr
  have hk := h3.kids h.row h.apt.1 hlo
  have hN : ∀ y : Value, Apart y (.slice none 0 0) := fun y g _ e => by simp [Value.ownBlock] at e
  exact ⟨v', us', h1, h2, h.go.trans h3, hk.1, h4 z (fun g e => (World.ownsRow.lt h.row g e).2) h.apt (hN z), h.new, fun y hy ha => h4 y (hy.on h.go.size) (h.old y hy ha) (hN y)⟩
theorem Ls.app {b lo a : Nat} {bd : Bool} {t : ByteArray} {v0 z z' v : Value} {us0 us : List Value} {ks : List Int} {k : Int} {ps : List PieceD} {w wr w1 : World} (h : Ls b lo a bd t v0 us0 w z ks v us ps wr) (hlo : b < lo) (hg : wr.grownBy w1 z.ownBlock) (ho : IntsO w1 lo z' (ks ++ [k])) (hat : z'.ownBlock = z.ownBlock ∨ ∃ g, z'.ownBlock = some g ∧ wr.heap.size ≤ g) : Ls b lo a bd t v0 us0 w z' (ks ++ [k]) v us ps w1 := by
  have hsz := h.go.size
  have hmem : ∀ k, k < ps.length → nAt us k ∈ us := fun k hk => by
    have hk' : k < us.length := by rw [h.prd.len]; exact hk
    have : nAt us k = us[k] := by unfold nAt; simp [List.getD, hk']
    rw [this]
    exact List.getElem_mem hk'
  have sym : ∀ {x y : Value}, Apart x y → Apart y x := fun q g h1 h2 => q g h2 h1
  refine ⟨h.box.gr hg (fun e => by have := (World.ownsRow.lt h.row b e).1; omega), ⟨h.prd.len, World.ownsRow.kept h.prd.own hg (Apart.ne (sym h.apt.1)), fun j hj => ⟨World.ownsRow.kept (h.prd.kid j hj).1 hg (Apart.ne (sym (h.apt.2 _ (hmem j hj)))), (h.prd.kid j hj).2⟩⟩, ⟨?_, h.go.row⟩, ho, ?_, ?_, h.old⟩
  · have ht := h.go.two
    refine ⟨hg.os.trans ht.os, hg.tape.trans ht.tape, hg.output.trans ht.output, Nat.le_trans ht.size hg.size, fun i hi h1 h2 => ?_⟩
    rw [hg.block i (by omega) (fun e => by have := h.new i (by first | exact e | exact e.symm); omega)]
    exact ht.block i hi h1 h2
  · refine ⟨fun g h1 h2 => ?_, fun u hu g h1 h2 => ?_⟩
    · rcases hat with r | ⟨g', r, hg'⟩
      · exact h.apt.1 g (r ▸ h1) h2
      · rw [r] at h1
        cases h1
        have := (World.ownsRow.lt h.prd.own g h2).2
        omega
    · rcases hat with r | ⟨g', r, hg'⟩
      · exact h.apt.2 u hu g (r ▸ h1) h2
      · rw [r] at h1
        cases h1
        obtain ⟨j, hj, rfl⟩ := List.getElem_of_mem hu
        have e1 : nAt us j = us[j] := by unfold nAt; simp [List.getD, hj]
        have := (World.ownsRow.lt (h.prd.kid j (by rw [← h.prd.len]; exact hj)).1 g (by rw [e1]; exact h2)).2
        omega
  · intro g e
    rcases hat with r | ⟨g', r, hg'⟩
    · exact h.new g (r ▸ e)
    · rw [r] at e
      cases e
      omega
theorem Ls.at_ {b lo a a1 : Nat} {bd bd1 : Bool} {t : ByteArray} {v0 z v : Value} {us0 us : List Value} {ks : List Int} {ps : List PieceD} {w wr : World} (h : Ls b lo a bd t v0 us0 w z ks v us ps wr) (hlo : b < lo) {i : Nat} {u : Value} (hb : Box (wr.setCell ⟨b, i, none⟩ u) b #[.string t, .int .i64 (a1 : Int), .bool bd1, v] 115) : Ls b lo a1 bd1 t v0 us0 w z ks v us ps (wr.setCell ⟨b, i, none⟩ u) :=
  ⟨hb, h.prd.set (by show b < lo; exact hlo) _, ⟨h.go.two.set i _, h.go.row⟩, owns_set h.row (by show b < lo; exact hlo) _, h.apt, h.new, h.old⟩
theorem Ls.piece {b lo a : Nat} {bd : Bool} {t : ByteArray} {v0 v v' u : Value} {us0 us : List Value} {ps : List PieceD} {x : PieceD} {w wr w1 : World} (h : Ls b lo a bd t v0 us0 w (.slice none 0 0) [] v us ps wr) (hu : ∀ g, u.ownBlock = some g → w.heap.size ≤ g)
    (h1 : Box w1 b #[.string t, .int .i64 (a : Int), .bool bd, v'] 115) (h2 : Prd w1 lo v' (ps ++ [x]) (us ++ [u])) (h3 : Two b v.ownBlock wr w1) (h4 : v'.ownBlock = v.ownBlock ∨ ∃ g, v'.ownBlock = some g ∧ wr.heap.size ≤ g) : Ls b lo a bd t v0 us0 w (.slice none 0 0) [] v' (us ++ [u]) (ps ++ [x]) w1 :=
  ⟨h1, h2, h.go.trans ⟨h3, h4⟩, World.ownsRow_nil _ _ _ _, Apt.none _ _, fun g h => by simp [Value.ownBlock] at h, fun y hy ha => (h.old y hy ha).snoc (hy.on h.go.size) (fun g e1 e2 => by have := hy g e1; have := hu g e2; omega) h4⟩
theorem Ls.done {b lo a a1 : Nat} {bd bd1 : Bool} {t : ByteArray} {v0 z v : Value} {us0 us : List Value} {ks : List Int} {ps ps1 : List PieceD} {w wr w1 : World} (h : Ls b lo a bd t v0 us0 w z ks v us ps wr) (hr : SrSt b lo a1 bd1 t v z us ps1 wr w1) : SrSt b lo a1 bd1 t v0 (.slice none 0 0) us0 ps1 w w1 := by
  obtain ⟨v', us', h1, h2, h3, h4⟩ := hr
  exact ⟨v', us', h1, h2, h.go.trans h3, fun y hy ha _ => h4 y (hy.on h.go.size) (h.old y hy ha) fun g e1 e2 => by have := hy g e1; have := h.new g e2; omega⟩
/-- The row of kids begins: one kid in a block of its own. -/
theorem Ls.row1 {b lo a : Nat} {bd : Bool} {t : ByteArray} {v0 v : Value} {us0 us : List Value} {ps : List PieceD} {w wr : World} (h : Ls b lo a bd t v0 us0 w (.slice none 0 0) [] v us ps wr) (hlw : lo ≤ w.heap.size) (k : Int) :
    Ls b lo a bd t v0 us0 w (.slice (some ⟨wr.heap.size, 0, none⟩) 1 1) [k] v us ps (wr.alloc (.cells #[.int .i64 k] 3)) := by
  have hsz := h.go.size
  have hf : Fr wr (wr.alloc (.cells #[.int .i64 k] 3)) := (Fr.refl _).alloc _
  have h1 := h.fr hf
  refine ⟨h1.box, h1.prd, h1.go, ⟨by simp, .inr ⟨wr.heap.size, 1, #[.int .i64 k], rfl, by omega, heap_alloc_new wr _, by simp, by unfold maxLen; omega, by simp, by simp⟩⟩, ⟨fun g e1 e2 => ?_, fun u hu g e1 e2 => ?_⟩, fun g e => ?_, h.old⟩
  · cases e1
    exact absurd (World.ownsRow.lt h.prd.own _ e2).2 (Nat.lt_irrefl _)
  · cases e1
    obtain ⟨j, hj, rfl⟩ := List.getElem_of_mem hu
    have e3 : nAt us j = us[j] := by unfold nAt; simp [List.getD, hj]
    exact absurd (World.ownsRow.lt (h.prd.kid j (by rw [← h.prd.len]; exact hj)).1 _ (by rw [e3]; exact e2)).2 (Nat.lt_irrefl _)
  · cases e
    omega
set_option maxHeartbeats 8000000 in
set_option maxRecDepth 100000 in
theorem put_any (b lo a : Nat) (bd : Bool) (t : ByteArray) (v u : Value) (ps : List PieceD) (us : List Value) (x : PieceD) (w : World) (hb : Box w b #[.string t, .int .i64 (a : Int), .bool bd, v] 115) (hlo : b < lo) (hlw : lo ≤ w.heap.size)
    (hp : Prd w lo v ps us) (hu : IntsO w lo u x.f2) (hau : Apart u v) (hn : ps.length ≤ 1000) :
    Calls Try.prog 162 #[.pointer (some ⟨b, 0, none⟩), .agg #[.int .i64 x.f0, .int .u8 (x.f1.toNat : Int), u]] w fun e w' => ∃ v', e = .returned (.int .i64 (ps.length : Int)) ∧ Box w' b #[.string t, .int .i64 (a : Int), .bool bd, v'] 115 ∧ Prd w' lo v' (ps ++ [x]) (us ++ [u]) ∧ Two b v.ownBlock w w' ∧ (v'.ownBlock = v.ownBlock ∨ ∃ g, v'.ownBlock = some g ∧ w.heap.size ≤ g) := by
  obtain ⟨i0, hi, hz0, hz1, hz2⟩ := info_parts info_Piece
  obtain ⟨ao, cap, rfl⟩ := hp.val
  obtain ⟨au, cu, rfl⟩ := owns_val hu
  have hxl := x.f1.toNat_lt
  have hbl := hb.lt
  have HP := Lib.hid hp
  have HU := Lib.hid hu
  have HO : Hid (w.ownsRow lo 121 3 (.slice ao ps.length cap) ps.length (pcells ps us)) := Lib.hid hp.own
  have hwl : IntKind.i64.wrap ((ps.length : Int) + 1 - 1) = (ps.length : Int) := by rw [show (ps.length : Int) + 1 - 1 = ps.length by omega]; exact IntWalk.i64_in _ (by omega)
  clear hp hu
  have F := hb.facts
  have hne1 : b ≠ w.heap.size := by omega
  have hne2 : w.heap.size ≠ b := by omega
  go_enter Try.func162, Try.ntmps162
  go_wp2_with fail
  go_region_law ((refine step_append_rd (by rfl) _ _ 25 (by rfl) lo 121 i0 (.agg #[.int .i64 0, .int .u8 0, .slice none 0 0]) 3 40 Try.underlying25 hi hz0 hz1 hz2 rfl (by decide) (.slice ao ps.length cap) ps.length (pcells ps us) (by rfl) (by exact owns_lo (owns_ab HO.out (by repeat (first | (with_reducible exact Ab.refl _ _) | (with_reducible assumption) | (with_reducible refine Ab.drewN ?_ _) | (with_reducible refine Ab.drew ?_) | (with_reducible refine Ab.alloc ?_ _) | (with_reducible refine Ab.setCell ?_ (by (first | (with_reducible assumption) | omega | (simp only [World.size_alloc, World.size_setCell, World.size_drew, World.heap_drewN]; omega) | (simp; done) | (simp; omega))) _) | (with_reducible refine Ab.fr ?_ (by with_reducible assumption))))) (by (first | (with_reducible assumption) | omega | (simp only [World.size_alloc, World.size_setCell, World.size_drew, World.heap_drewN]; omega) | (simp; done) | (simp; omega)))) _ 1 [.int .i64 x.f0, .int .u8 (x.f1.toNat : Int), .slice au x.f2.length cu] (by rfl) (RdS.drew (RdS.new (by first | rfl | (simp; done)) rfl)) (by simp [Value.oneCell']) (by unfold maxLen; omega) (by omega) (by (first | (with_reducible assumption) | omega | (simp only [World.size_alloc, World.size_setCell, World.size_drew, World.heap_drewN]; omega) | (simp; done) | (simp; omega))) ?_; intro ay cy w9 hown hgrow hat; have hB9 : Box w9 b _ _ := Box.gr (Box.fr hb (by repeat (first | (with_reducible exact Fr.refl _) | (with_reducible assumption) | (with_reducible refine Fr.drewN ?_ _) | (with_reducible refine Fr.drew ?_) | (with_reducible refine Fr.alloc ?_ _) | (with_reducible refine Fr.setCell ?_ (by (first | (with_reducible assumption) | omega | (simp only [World.size_alloc, World.size_setCell, World.size_drew, World.heap_drewN]; omega) | (simp; done) | (simp; omega))) _) | (with_reducible refine Fr.trans ?_ (by with_reducible assumption))))) hgrow (fun e => by have := (World.ownsRow.lt HO.out b e).1; omega); have F9 := hB9.facts; have z9 := hgrow.size; (try simp only [World.size_alloc, World.size_drew] at z9)))
  all_goals
    go_wp2_with fail
    go_ret
    have hat2 : (Value.slice ay (ps.length + 1) cy).ownBlock = (Value.slice ao ps.length cap).ownBlock ∨ ∃ g, (Value.slice ay (ps.length + 1) cy).ownBlock = some g ∧ w.heap.size ≤ g := by
      rcases hat with h | h
      · exact .inl h
      · exact .inr ⟨_, h, by simp; try omega⟩
    have hP9 := Prd.more HP.out HU.out hau rfl hown (fun z ks hz haz => World.ownsRow.kept (owns_fr hz (by repeat (first | (with_reducible exact Fr.refl _) | (with_reducible assumption) | (with_reducible refine Fr.drewN ?_ _) | (with_reducible refine Fr.drew ?_) | (with_reducible refine Fr.alloc ?_ _) | (with_reducible refine Fr.setCell ?_ (by (first | (with_reducible assumption) | omega | (simp only [World.size_alloc, World.size_setCell, World.size_drew, World.heap_drewN]; omega) | (simp; done) | (simp; omega))) _) | (with_reducible refine Fr.trans ?_ (by with_reducible assumption))))) hgrow (haz.symm.symm |> fun q => (Apart.ne q))) hat2
    refine ⟨.slice ay (ps.length + 1) cy, by first | rfl | (congr 1), ?_, ?_, ?_, hat2⟩
    · first | exact hB9.set_to (by simp) | exact (hB9.set_to (by simp)).drew
    · exact Prd.set hP9 (by show b < lo; omega) _
    · exact Two.set (Two.trans (Two.of_fr (by repeat (first | (with_reducible exact Fr.refl _) | (with_reducible assumption) | (with_reducible refine Fr.drewN ?_ _) | (with_reducible refine Fr.drew ?_) | (with_reducible refine Fr.alloc ?_ _) | (with_reducible refine Fr.setCell ?_ (by (first | (with_reducible assumption) | omega | (simp only [World.size_alloc, World.size_setCell, World.size_drew, World.heap_drewN]; omega) | (simp; done) | (simp; omega))) _) | (with_reducible refine Fr.trans ?_ (by with_reducible assumption))))) (Two.of_gr hgrow)) 3 _
/-- What the reader's item comes to, wherever it is called. -/
def one1 (t : ByteArray) (f a : Nat) (ps : List PieceD) : Option (Int × Nat × List PieceD) := if isLab (nx t a) = true ∨ nx t a = 40 then srs t f .item a ps else none
def goA (t : ByteArray) (f : Nat) (ks : List Int) (r : Option (Int × Nat × List PieceD)) : Option (Int × Nat × List PieceD) :=
  match r with
  | none => none
  | some (k, a1, ps1) => srs t f (.alt (ks ++ [k])) a1 ps1
def goE (t : ByteArray) (f : Nat) (ks : List Int) (r : Option (Int × Nat × List PieceD)) : Option (Int × Nat × List PieceD) :=
  match r with
  | none => none
  | some (k, a1, ps1) => if nx t a1 = 124 then srs t f (.expr (ks ++ [k])) (a1 + 1) ps1 else some ((grp 3 (ks ++ [k]) ps1).1, a1, (grp 3 (ks ++ [k]) ps1).2)
theorem srs_expr (t : ByteArray) (f a : Nat) (ks : List Int) (ps : List PieceD) : srs t (f + 1) (.expr ks) a ps = goE t f ks (srs t f (.alt []) a ps) := by
  rw [srs]
  unfold goE
  cases srs t f (.alt []) a ps with
  | none => rfl
  | some r => rfl
theorem srs_alt (t : ByteArray) (f a : Nat) (ks : List Int) (ps : List PieceD) (h : ks.length = 0 ∨ ¬ (t.size ≤ a ∨ nx t a = 124 ∨ nx t a = 41)) : srs t (f + 1) (.alt ks) a ps = goA t f ks (one1 t f a ps) := by
  rw [srs]
  unfold goA one1
  by_cases hc : isLab (nx t a) = true ∨ nx t a = 40
  · rw [if_pos hc, if_pos hc]
    cases srs t f .item a ps with
    | none => rfl
    | some r => rfl
  · rw [if_neg hc, if_neg hc]
    rcases h with h | h
    · rw [if_pos h]
    · rw [if_neg h]
      split <;> rfl
theorem stop_no {t : ByteArray} {a : Nat} (h : t.size ≤ a ∨ nx t a = 124 ∨ nx t a = 41) : ¬ (isLab (nx t a) = true ∨ nx t a = 40) := by
  have e : nx t a = 0 ∨ nx t a = 124 ∨ nx t a = 41 := h.imp nx_end id
  rintro (hc | hc)
  · unfold isLab at hc
    rw [decide_eq_true_eq] at hc
    omega
  · omega
theorem srs_stop (t : ByteArray) (f a : Nat) (ks : List Int) (ps : List PieceD) (hk : ks.length ≠ 0) (h : t.size ≤ a ∨ nx t a = 124 ∨ nx t a = 41) : srs t (f + 1) (.alt ks) a ps = some ((grp 2 ks ps).1, a, (grp 2 ks ps).2) := by
  rw [srs, if_neg (stop_no h), if_neg hk, if_pos h]
/-- What a call of the reader leaves behind; a, ps are what it began with, c what it may lay besides. -/
def SPost (b lo a c : Nat) (t : ByteArray) (v : Value) (us : List Value) (ps : List PieceD) (w : World) (R : Option (Int × Nat × List PieceD)) (e : Ending) (w' : World) : Prop :=
  ∃ (k : Int) (a1 : Nat) (ps1 : List PieceD) (bd : Bool), e = .returned (.int .i64 k) ∧ SrSt b lo a1 bd t v (.slice none 0 0) us ps1 w w' ∧ a ≤ a1 ∧ a1 ≤ t.size ∧ ps1.length + 2 * a ≤ ps.length + 2 * a1 + c ∧
    ((bd = false ∧ R = some (k, a1, ps1)) ∨ (bd = true ∧ R = none))
def OneC (t : ByteArray) (f : Nat) : Prop := ∀ (b lo a : Nat) (v : Value) (us : List Value) (ps : List PieceD) (w : World), Box w b #[.string t, .int .i64 (a : Int), .bool false, v] 115 → b < lo → lo ≤ w.heap.size → Prd w lo v ps us → a ≤ t.size → 3 * (t.size - a) ≤ f → ps.length + 2 * (t.size - a) ≤ 900 →
  Calls Try.prog 204 #[.pointer (some ⟨b, 0, none⟩)] w (SPost b lo a 0 t v us ps w (one1 t f a ps))
def RowC (t : ByteArray) (f : Nat) : Prop := ∀ (b lo a : Nat) (v : Value) (us : List Value) (ps : List PieceD) (w : World), Box w b #[.string t, .int .i64 (a : Int), .bool false, v] 115 → b < lo → lo ≤ w.heap.size → Prd w lo v ps us → a ≤ t.size → 3 * (t.size - a) + 1 ≤ f → ps.length + 2 * (t.size - a) ≤ 900 →
  Calls Try.prog 161 #[.pointer (some ⟨b, 0, none⟩)] w (SPost b lo a 1 t v us ps w (srs t f (.alt []) a ps))
def AltsC (t : ByteArray) (f : Nat) : Prop := ∀ (b lo a : Nat) (v : Value) (us : List Value) (ps : List PieceD) (w : World), Box w b #[.string t, .int .i64 (a : Int), .bool false, v] 115 → b < lo → lo ≤ w.heap.size → Prd w lo v ps us → a ≤ t.size → 3 * (t.size - a) + 2 ≤ f → ps.length + 2 * (t.size - a) ≤ 900 →
  Calls Try.prog 85 #[.pointer (some ⟨b, 0, none⟩)] w (SPost b lo a 2 t v us ps w (srs t f (.expr []) a ps))
/-- The end of a row of kids, more than one: they are laid as a piece. -/
theorem putKids_any {b lo a : Nat} {bd : Bool} {t : ByteArray} {v0 v z : Value} {us0 us : List Value} {ks : List Int} {ps : List PieceD} {w wr : World} (h : Ls b lo a bd t v0 us0 w z ks v us ps wr) (hlo : b < lo) (hlw : lo ≤ w.heap.size) (op : Int) (hn : ps.length ≤ 1000) :
    Calls Try.prog 162 #[.pointer (some ⟨b, 0, none⟩), .agg #[.int .i64 op, .int .u8 0, z]] wr fun e w' => e = .returned (.int .i64 (ps.length : Int)) ∧ SrSt b lo a bd t v0 (.slice none 0 0) us0 (ps ++ [⟨op, 0, ks⟩]) w w' := by
  have q := put_any b lo a bd t v z ps us ⟨op, 0, ks⟩ wr h.box hlo (by have := h.go.size; omega) h.prd h.row h.apt.1 hn
  refine q.mono fun e w' ⟨v', e1, e2, e3, e4, e5⟩ => ⟨e1, ?_⟩
  exact h.done ⟨v', _, e2, e3, ⟨e4, e5⟩, fun y hy ha hz => ha.snoc hy hz e5⟩
theorem Ls.none_done {b lo a : Nat} {bd : Bool} {t : ByteArray} {v0 v z : Value} {us0 us : List Value} {ks : List Int} {ps : List PieceD} {w wr : World} (h : Ls b lo a bd t v0 us0 w z ks v us ps wr) : SrSt b lo a bd t v0 (.slice none 0 0) us0 ps w wr :=
  h.done ⟨v, us, h.box, h.prd, PGo.of_fr (Fr.refl _), fun y _ ha _ => ha⟩
end Go.Proofs.Ytjgghiniajmfjaa
