/- Lemmas of the proofs of this seat that name no function: frames, endings, and the step from a walk to a row of the form 'the law returns true and its arguments read as before'. No condition. -/
import Derived.Test.YtphjlecbhbcbcaaRows
import Derived.WalkKit
import Derived.ProofKit
import Derived.WalkLawsBesides
import Derived.WalkSpells
import Derived.Lib.Hide
import Derived.Lib.SmallJoins
import Derived.SizedLaws
import Derived.Deep.Draws
import Derived.Lib.Strings
namespace Go.Proofs.Ytphjlecbhbcbcaa
open Go.RowKit Go.ChangeShapes Go.WideShapes Go.ChangeAt

/-- Below the first heap's size nothing has turned. -/
def Fr (w w' : World) : Prop := Below w.heap.size w w'
theorem Fr.out {w w' : World} (h : Fr w w') : Below w.heap.size w w' := h
theorem Fr.refl (w : World) : Fr w w := Below.refl _ _
theorem Fr.size {w w' : World} (h : Fr w w') : w.heap.size ≤ w'.heap.size := h.out.size
theorem Fr.trans {a b c : World} (h : Fr a b) (k : Fr b c) : Fr a c := Below.trans h.out (Below.mono k.out h.size)
theorem Fr.drew {a w : World} (h : Fr a w) : Fr a w.drew := Below.drew h.out
theorem Fr.drewN {a w : World} (h : Fr a w) (n : Nat) : Fr a (w.drewN n) := ⟨h.out.os, h.out.tape, h.out.output, h.out.size, h.out.block⟩
theorem Fr.grown {a w w' : World} {row : Option Nat} (h : Fr a w) (hg : w.grownBy w' row) (hr : ∀ k, row = some k → a.heap.size ≤ k) : Fr a w' := Below.grown h.out hg h.size hr
theorem Fr.alloc {a w : World} (h : Fr a w) (o : Obj) : Fr a (w.alloc o) := Below.alloc h.out h.size o
theorem Fr.setCell {a w : World} (h : Fr a w) {p : Addr} (hp : a.heap.size ≤ p.block) (u : Value) : Fr a (w.setCell p u) := Below.setCell h.out hp u
theorem Fr.cell {w w' : World} (h : Fr w w') {p : Addr} (hp : p.block < w.heap.size) : w'.cell? p = w.cell? p := h.out.cell hp
theorem Fr.frozen {w w' : World} (h : Fr w w') {p : Addr} (hp : p.block < w.heap.size) : w'.frozen? p = w.frozen? p := h.out.frozen hp
/-- What the walk wants behind a contract that ends in 'Fr': each old cell and each old mark reads as before. -/
theorem Fr.rules {W w1 : World} (h : Fr W w1) : (∀ b o, b < W.heap.size → w1.cell? ⟨b, o, none⟩ = W.cell? ⟨b, o, none⟩) ∧ (∀ b o, b < W.heap.size → w1.frozen? ⟨b, o, none⟩ = W.frozen? ⟨b, o, none⟩) ∧ W.heap.size ≤ w1.heap.size :=
  ⟨fun b o k => h.cell (p := ⟨b, o, none⟩) k, fun b o k => h.frozen (p := ⟨b, o, none⟩) k, h.size⟩

/-- One block that stood at the call: its cells and marks read as before (rules without a premise: the walk uses them by itself). -/
theorem Fr.blk {W w1 : World} (h : Fr W w1) (b : Nat) (hb : b < W.heap.size) : (∀ o, w1.cell? ⟨b, o, none⟩ = W.cell? ⟨b, o, none⟩) ∧ (∀ o, w1.frozen? ⟨b, o, none⟩ = W.frozen? ⟨b, o, none⟩) :=
  ⟨fun o => h.cell (p := ⟨b, o, none⟩) hb, fun o => h.frozen (p := ⟨b, o, none⟩) hb⟩

theorem Fr.gr {w w' : World} (h : Fr w w') (row : Option Nat) : w.grownBy w' row := ⟨h.out.os, h.out.tape, h.out.output, h.out.size, fun k hk _ => h.out.block k hk⟩
theorem gr_trans {a b c : World} {row : Option Nat} (h : a.grownBy b row) (k : b.grownBy c row) : a.grownBy c row :=
  ⟨k.os.trans h.os, k.tape.trans h.tape, k.output.trans h.output, Nat.le_trans h.size k.size, fun i hi hr => (k.block i (Nat.lt_of_lt_of_le hi h.size) hr).trans (h.block i hi hr)⟩
theorem gr_drewN {a b : World} {row : Option Nat} (h : a.grownBy b row) (n : Nat) : a.grownBy (b.drewN n) row := ⟨h.os, h.tape, h.output, h.size, h.block⟩
/-- What is owned stays owned while nothing old turns. -/
theorem owns_fr {w w' : World} {lo : Nat} {e : TypeId} {sz : Nat} {v : Value} {n : Nat} {xs : List Value} (h : w.ownsRow lo e sz v n xs) (hf : Fr w w') : w'.ownsRow lo e sz v n xs :=
  h.kept (hf.gr none) (by cases v.ownBlock <;> simp)
theorem owns_cell {w : World} {lo : Nat} {e : TypeId} {sz g n cap : Nat} {xs : List Value} (h : w.ownsRow lo e sz (.slice (some ⟨g, 0, none⟩) n cap) n xs) (j : Nat) (hj : j < n * sz) : ∃ u, w.cell? ⟨g, j, none⟩ = some u :=
  ⟨_, (h.cellAt j hj).trans (List.getElem?_eq_getElem (by have := h.1; omega))⟩
theorem owns_lo {w : World} {lo lo' : Nat} {e : TypeId} {sz : Nat} {v : Value} {n : Nat} {xs : List Value} (h : w.ownsRow lo e sz v n xs) (hl : lo' ≤ lo) : w.ownsRow lo' e sz v n xs := by
  obtain ⟨h1, h2 | ⟨g, cap, cur, hv, hg, hr⟩⟩ := h
  · exact ⟨h1, .inl h2⟩
  · exact ⟨h1, .inr ⟨g, cap, cur, hv, Nat.le_trans hl hg, hr⟩⟩
/-- The two shapes of an owned slice. -/
theorem owns_shape {w : World} {lo : Nat} {e : TypeId} {sz : Nat} {v : Value} {n : Nat} {xs : List Value} (h : w.ownsRow lo e sz v n xs) : (v = .slice none 0 0 ∧ n = 0 ∧ xs = []) ∨ ∃ g cap, v = .slice (some ⟨g, 0, none⟩) n cap ∧ lo ≤ g ∧ g < w.heap.size ∧ n ≤ cap ∧ cap ≤ maxLen := by
  obtain ⟨h1, ⟨h2, rfl⟩ | ⟨g, cap, cur, hv, hg, hh, hn, hc, _⟩⟩ := h
  · exact .inl ⟨h2, rfl, List.eq_nil_of_length_eq_zero (by simpa using h1)⟩
  · exact .inr ⟨g, cap, hv, hg, (Array.getElem?_eq_some_iff.1 hh).1, hn, hc⟩

/-- A box that was laid reads as it was laid. -/
theorem Fr.box {w w' : World} {X : Array Value} {T : TypeId} (h : Fr (w.alloc (.cells X T)) w') (o : Nat) : w'.cell? ⟨w.heap.size, o, none⟩ = X[o]? :=
  (h.cell (p := ⟨w.heap.size, o, none⟩) (by simp)).trans (World.cell?_alloc_at _ _ _ _ rfl)
/-- From block lo on nothing has turned that stood. -/
def Ab (lo : Nat) (w w' : World) : Prop := w.heap.size ≤ w'.heap.size ∧ ∀ k, lo ≤ k → k < w.heap.size → w'.heap[k]? = w.heap[k]?
theorem Ab.refl (lo : Nat) (w : World) : Ab lo w w := ⟨Nat.le_refl _, fun _ _ _ => rfl⟩
theorem Ab.trans {lo : Nat} {a b c : World} (h : Ab lo a b) (k : Ab lo b c) : Ab lo a c := ⟨Nat.le_trans h.1 k.1, fun i hi hs => (k.2 i hi (Nat.lt_of_lt_of_le hs h.1)).trans (h.2 i hi hs)⟩
theorem Ab.of_fr {lo : Nat} {w w' : World} (h : Fr w w') : Ab lo w w' := ⟨h.size, fun k _ hk => h.out.block k hk⟩
theorem Ab.fr {lo : Nat} {a w w' : World} (h : Ab lo a w) (hf : Fr w w') : Ab lo a w' := h.trans (Ab.of_fr hf)
theorem Ab.alloc {lo : Nat} {a w : World} (h : Ab lo a w) (o : Obj) : Ab lo a (w.alloc o) := h.fr ((Fr.refl _).alloc o)
theorem Ab.drew {lo : Nat} {a w : World} (h : Ab lo a w) : Ab lo a w.drew := h.fr (Fr.refl _).drew
theorem Ab.drewN {lo : Nat} {a w : World} (h : Ab lo a w) (n : Nat) : Ab lo a (w.drewN n) := h.fr ((Fr.refl _).drewN n)
theorem Ab.setCell {lo : Nat} {a w : World} (h : Ab lo a w) {p : Addr} (hp : p.block < lo) (u : Value) : Ab lo a (w.setCell p u) :=
  h.trans ⟨by simp [World.setCell], fun k hk _ => Below.heap_setCell _ _ _ _ (by omega)⟩
theorem Ab.gr {lo : Nat} {a w w' : World} {row : Option Nat} (h : Ab lo a w) (hg : w.grownBy w' row) (hr : ∀ k, row = some k → k < lo) : Ab lo a w' :=
  h.trans ⟨hg.size, fun k hk hs => hg.block k hs (fun e => by have := hr k e.symm; omega)⟩
theorem owns_ab {w w' : World} {lo : Nat} {e : TypeId} {sz : Nat} {v : Value} {n : Nat} {xs : List Value} (h : w.ownsRow lo e sz v n xs) (hf : Ab lo w w') : w'.ownsRow lo e sz v n xs := by
  obtain ⟨h1, h2 | ⟨g, cap, cur, hv, hg, hh, hr⟩⟩ := h
  · exact ⟨h1, .inl h2⟩
  · exact ⟨h1, .inr ⟨g, cap, cur, hv, hg, (hf.2 g hg (Array.getElem?_eq_some_iff.1 hh).1).trans hh, hr⟩⟩

theorem ret_bool {a b : Bool} (h : a = b) : Ending.returned (.bool a) = .returned (.bool b) := by rw [h]
theorem ret_int {k : IntKind} {a b : Int} (h : a = b) : Ending.returned (.int k a) = .returned (.int k b) := by rw [h]
theorem ret_str {a b : ByteArray} (h : a = b) : Ending.returned (.string a) = .returned (.string b) := by rw [h]

theorem Try_own : ownKnob Try.prog.godebug = none := by kernel_rfl
theorem Try_laidOut : laidOutB Try.prog = true := by kernel_rfl

/-- The arguments read behind the call as they did: all of them, by induction on the list of types. -/
theorem trodAll_kept {H : Type} {enc : TypeId × Value → H} {P : Program} (hl : laidOutB P = true) {W W' : World} (hb : Fr W W') :
    ∀ {ts : List TypeId} {vs : List Value} {ds : List (DataW H)} {ps : List MemPlace}, (ts.all fun t => P.readableRec t && decide (t < P.types.size)) = true →
      DataW.TrodAll enc P W 0 (fun _ => true) true ts vs ds ps → (∀ x ∈ ps, x.block < W.heap.size) → DataW.TrodAll enc P W' 0 (fun b => decide (b < W.heap.size)) true ts vs ds ps
  | [], [], [], _, _, h, _ => h
  | t :: ts, v :: vs, d :: ds, ps, ht, h, hlt => by
    obtain ⟨p, q, h0, hr, rfl⟩ := h
    simp only [List.all_cons, Bool.and_eq_true, decide_eq_true_eq] at ht
    exact ⟨p, q, Below.trod hl ht.1.1 ht.1.2 h0 hb.out (fun x hx => hlt x (List.mem_append_left _ hx)), trodAll_kept hl hb ht.2 hr (fun x hx => hlt x (List.mem_append_right _ hx)), rfl⟩
  | [], _ :: _, _, _, _, h, _ => h.elim
  | [], [], _ :: _, _, _, h, _ => h.elim
  | _ :: _, [], _, _, _, h, _ => h.elim
  | _ :: _, _ :: _, [], _, _, h, _ => h.elim

/-- The step from the walk to the row's 'post', whatever the arguments are. -/
theorem law_post {H : Type} {enc : TypeId × Value → H} {P : Program} {f : Func} {s : ChangeSpec} (hl : laidOutB P = true) (hts : (f.params.toList.all fun t => P.readableRec t && decide (t < P.types.size)) = true)
    (hr : f.resultTypes = #[4]) (hbool : P.underlying 4 = some .bool) (hv : s.vars = [])
    {W W' : World} {args : Array Value} {ds gs : List (DataW H)} {before : List MemPlace}
    (hfn : s.fn H (ds ++ gs) = { results := [.lit (.bool true)], args := ds })
    (hW : DataW.Whole enc P f.params.toList s.vars false W args.toList ds gs before) (hb : Fr W W') : s.post enc P f false true false false W args (.bool true) W' := by
  have hW' := hW
  obtain ⟨p, q, hA, hV, rfl, _, _⟩ := hW
  rw [hv] at hV
  obtain ⟨rfl, rfl⟩ := trodVars_none hV
  simp only [List.append_nil] at hW' hfn ⊢
  have hlt : ∀ x ∈ p, x.block < W.heap.size := fun x hx => by simpa using hW'.lt x hx
  refine ⟨ds, [], p, [], p, [], hW', ?_, ?_, ?_, hb.out.frame _, fun h => by cases h⟩
  · rw [hr]
    simp only [List.append_nil, hfn]
    exact trodAll_mk1 (shut_bool hbool _)
  · simp only [List.append_nil, hfn]
    exact trodAll_kept hl hb hts hA hlt
  · simp only [List.append_nil, hfn]
    rw [hv]
    rfl
end Go.Proofs.Ytphjlecbhbcbcaa
