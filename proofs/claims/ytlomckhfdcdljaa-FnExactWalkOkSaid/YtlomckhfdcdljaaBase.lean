/- Lemmas of the proofs of this seat that name no function: frames, endings, and the step from a walk to a row of the form 'the law returns true and its arguments read as before'. No condition. -/
import Derived.Test.YtlomckhfdcdljaaRows
import Derived.WalkKit
import Derived.ProofKit
import Derived.WalkLawsBesides
import Derived.WalkSpells
import Derived.Lib.Hide
import Derived.Lib.SmallJoins
import Derived.SizedLaws
namespace Go.Proofs.Ytlomckhfdcdljaa
open Go.RowKit Go.ChangeShapes Go.WideShapes Go.ChangeAt

/-- Below the first heap's size nothing has turned. -/
def Fr (w w' : World) : Prop := Below w.heap.size w w'
theorem Fr.out {w w' : World} (h : Fr w w') : Below w.heap.size w w' := h
theorem Fr.refl (w : World) : Fr w w := Below.refl _ _
theorem Fr.size {w w' : World} (h : Fr w w') : w.heap.size ≤ w'.heap.size := h.out.size
theorem Fr.trans {a b c : World} (h : Fr a b) (k : Fr b c) : Fr a c := Below.trans h.out (Below.mono k.out h.size)
theorem Fr.drew {a w : World} (h : Fr a w) : Fr a w.drew := Below.drew h.out
theorem Fr.alloc {a w : World} (h : Fr a w) (o : Obj) : Fr a (w.alloc o) := Below.alloc h.out h.size o
theorem Fr.setCell {a w : World} (h : Fr a w) {p : Addr} (hp : a.heap.size ≤ p.block) (u : Value) : Fr a (w.setCell p u) := Below.setCell h.out hp u
theorem Fr.cell {w w' : World} (h : Fr w w') {p : Addr} (hp : p.block < w.heap.size) : w'.cell? p = w.cell? p := h.out.cell hp
theorem Fr.frozen {w w' : World} (h : Fr w w') {p : Addr} (hp : p.block < w.heap.size) : w'.frozen? p = w.frozen? p := h.out.frozen hp
/-- What the walk wants behind a contract that ends in 'Fr': each old cell and each old mark reads as before. -/
theorem Fr.rules {W w1 : World} (h : Fr W w1) : (∀ b o, b < W.heap.size → w1.cell? ⟨b, o, none⟩ = W.cell? ⟨b, o, none⟩) ∧ (∀ b o, b < W.heap.size → w1.frozen? ⟨b, o, none⟩ = W.frozen? ⟨b, o, none⟩) ∧ W.heap.size ≤ w1.heap.size :=
  ⟨fun b o k => h.cell (p := ⟨b, o, none⟩) k, fun b o k => h.frozen (p := ⟨b, o, none⟩) k, h.size⟩

/-- One block that stood at the call: its cells and marks read as before (rules without a premise: the walk uses them by itself). -/
theorem Fr.blk {W w1 : World} (h : Fr W w1) (b : Nat) (hb : b < W.heap.size) : (∀ o, w1.cell? ⟨b, o, none⟩ = W.cell? ⟨b, o, none⟩) ∧ (∀ o, w1.frozen? ⟨b, o, none⟩ = W.frozen? ⟨b, o, none⟩) :=
  ⟨fun o => h.cell (p := ⟨b, o, none⟩) hb, fun o => h.frozen (p := ⟨b, o, none⟩) hb⟩

theorem ret_bool {a b : Bool} (h : a = b) : Ending.returned (.bool a) = .returned (.bool b) := by rw [h]
theorem ret_int {k : IntKind} {a b : Int} (h : a = b) : Ending.returned (.int k a) = .returned (.int k b) := by rw [h]
theorem ret_str {a b : ByteArray} (h : a = b) : Ending.returned (.string a) = .returned (.string b) := by rw [h]

theorem Try_own : ownKnob Try.prog.godebug = none := by kernel_rfl
theorem Try_laidOut : laidOutB Try.prog = true := by kernel_rfl

/-- The arguments read behind the call as they did: all of them, by induction on the list of types. -/
theorem trodAll_kept {H : Type} {enc : TypeId × Value → H} {P : Program} (hl : laidOutB P = true) {W W' : World} (hb : Fr W W') :
    ∀ {ts : List TypeId} {vs : List Value} {ds : List (DataW H)} {ps : List MemPlace}, (ts.all fun t => P.readableRec t && decide (t < P.types.size)) = true →
      DataW.TrodAll enc P W 0 (fun _ => true) true ts vs ds ps → (∀ x ∈ ps, x.block < W.heap.size) → DataW.TrodAll enc P W' 0 (fun b => decide (b < W.heap.size)) true ts vs ds ps
  | [], [], [], _, _, h, _ => h
  | t :: ts, v :: vs, d :: ds, ps, ht, h, hlt => by
    obtain ⟨p, q, h0, hr, rfl⟩ := h
    simp only [List.all_cons, Bool.and_eq_true, decide_eq_true_eq] at ht
    exact ⟨p, q, Below.trod hl ht.1.1 ht.1.2 h0 hb.out (fun x hx => hlt x (List.mem_append_left _ hx)), trodAll_kept hl hb ht.2 hr (fun x hx => hlt x (List.mem_append_right _ hx)), rfl⟩
  | [], _ :: _, _, _, _, h, _ => h.elim
  | [], [], _ :: _, _, _, h, _ => h.elim
  | _ :: _, [], _, _, _, h, _ => h.elim
  | _ :: _, _ :: _, [], _, _, h, _ => h.elim

/-- The step from the walk to the row's 'post', whatever the arguments are. -/
theorem law_post {H : Type} {enc : TypeId × Value → H} {P : Program} {f : Func} {s : ChangeSpec} (hl : laidOutB P = true) (hts : (f.params.toList.all fun t => P.readableRec t && decide (t < P.types.size)) = true)
    (hr : f.resultTypes = #[4]) (hbool : P.underlying 4 = some .bool) (hv : s.vars = [])
    {W W' : World} {args : Array Value} {ds gs : List (DataW H)} {before : List MemPlace}
    (hfn : s.fn H (ds ++ gs) = { results := [.lit (.bool true)], args := ds })
    (hW : DataW.Whole enc P f.params.toList s.vars false W args.toList ds gs before) (hb : Fr W W') : s.post enc P f false true false false W args (.bool true) W' := by
  have hW' := hW
  obtain ⟨p, q, hA, hV, rfl, _, _⟩ := hW
  rw [hv] at hV
  obtain ⟨rfl, rfl⟩ := trodVars_none hV
  simp only [List.append_nil] at hW' hfn ⊢
  have hlt : ∀ x ∈ p, x.block < W.heap.size := fun x hx => by simpa using hW'.lt x hx
  refine ⟨ds, [], p, [], p, [], hW', ?_, ?_, ?_, hb.out.frame _, fun h => by cases h⟩
  · rw [hr]
    simp only [List.append_nil, hfn]
    exact trodAll_mk1 (shut_bool hbool _)
  · simp only [List.append_nil, hfn]
    exact trodAll_kept hl hb hts hA hlt
  · simp only [List.append_nil, hfn]
    rw [hv]
    rfl
end Go.Proofs.Ytlomckhfdcdljaa
