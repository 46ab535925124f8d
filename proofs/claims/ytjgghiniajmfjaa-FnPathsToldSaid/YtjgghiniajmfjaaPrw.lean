/- The program's path reader: its state (Prd), next, piece, group. Conditions: bounds on what is read. -/
import Derived.Test.YtjgghiniajmfjaaPrs
import Derived.Test.YtjgghiniajmfjaaInsF
import Derived.Deep.RegionLaw
import Derived.BigQuiet
namespace Go.Proofs.Ytjgghiniajmfjaa
open Go.RowKit
set_option linter.unusedVariables false
set_option linter.unusedSimpArgs false
def pcells : List PieceD → List Value → List Value
  | d :: ps, u :: us => .int .i64 d.f0 :: .int .u8 (d.f1.toNat : Int) :: u :: pcells ps us
  | _, _ => []
theorem pcells_snoc : ∀ {ps : List PieceD} {us : List Value} (x : PieceD) (u : Value), us.length = ps.length → pcells (ps ++ [x]) (us ++ [u]) = pcells ps us ++ [.int .i64 x.f0, .int .u8 (x.f1.toNat : Int), u]
  | [], [], x, u, _ => rfl
  | [], _ :: _, _, _, h => by simp at h
  | _ :: _, [], _, _, h => by simp at h
  | d :: ps, e :: us, x, u, h => by
    simp only [List.cons_append, pcells]
    rw [pcells_snoc x u (by simpa using h)]
/-- The pieces that a reader has laid down so far: the row is its own, and so is each piece's row of kids; the rows lie apart. -/
structure Prd (w : World) (lo : Nat) (v : Value) (ps : List PieceD) (us : List Value) : Prop where
  len : us.length = ps.length
  own : w.ownsRow lo 121 3 v ps.length (pcells ps us)
  kid : ∀ k, k < ps.length → IntsO w lo (nAt us k) (nAt ps k).f2 ∧ Apart (nAt us k) v
theorem Prd.none (w : World) (lo : Nat) : Prd w lo (.slice none 0 0) [] [] := ⟨rfl, World.ownsRow_nil _ _ _ _, fun k hk => by simp at hk⟩
theorem Prd.fr {w w' : World} {lo : Nat} {v : Value} {ps : List PieceD} {us : List Value} (h : Prd w lo v ps us) (hf : Fr w w') : Prd w' lo v ps us :=
  ⟨h.len, owns_fr h.own hf, fun k hk => ⟨owns_fr (h.kid k hk).1 hf, (h.kid k hk).2⟩⟩
theorem Prd.set {w : World} {lo : Nat} {v : Value} {ps : List PieceD} {us : List Value} (h : Prd w lo v ps us) {p : Addr} (hp : p.block < lo) (u : Value) : Prd (w.setCell p u) lo v ps us :=
  ⟨h.len, owns_set h.own hp u, fun k hk => ⟨owns_set (h.kid k hk).1 hp u, (h.kid k hk).2⟩⟩
theorem Prd.val {w : World} {lo : Nat} {v : Value} {ps : List PieceD} {us : List Value} (h : Prd w lo v ps us) : ∃ ao cap, v = .slice ao ps.length cap := owns_val h.own
set_option maxHeartbeats 1000000 in
theorem next_any (b a : Nat) (t : ByteArray) (v : Value) (w : World) (hb : Box w b #[.string t, .int .i64 (a : Int), v] 110) (ht : t.size ≤ 1000) :
    Calls Try.prog 159 #[.pointer (some ⟨b, 0, none⟩)] w fun e w' => e = .returned (.int .u8 (nx t a : Int)) ∧ Fr w w' := by
  have F := hb.facts
  by_cases hlt : a < t.size
  · have HX : Hid (nx t a = (t[a]).toNat) := Lib.hid (dif_pos hlt)
    go_enter Try.func159, Try.ntmps159
    go_wp2_with fail
    go_quiet (fail)
    go_wp2_with fail
    go_quiet (fail)
    go_wp2_with fail
    go_ret
    exact ⟨ret_u8 (by rw [HX.out]), by repeat (first | (with_reducible exact Fr.refl _) | (with_reducible assumption) | (with_reducible refine Fr.drewN ?_ _) | (with_reducible refine Fr.drew ?_) | (with_reducible refine Fr.alloc ?_ _) | (with_reducible refine Fr.setCell ?_ (by (first | (with_reducible assumption) | omega | (simp only [World.size_alloc, World.size_setCell, World.size_drew, World.heap_drewN]; omega) | (simp; done) | (simp; omega))) _) | (with_reducible refine Fr.trans ?_ (by with_reducible assumption)))⟩
  · have HX : Hid (nx t a = 0) := Lib.hid (nx_end (by omega))
    go_enter Try.func159, Try.ntmps159
    go_wp2_with fail
    go_quiet (fail)
    go_wp2_with fail
    go_ret
    exact ⟨ret_u8 (by rw [HX.out]; rfl), by repeat (first | (with_reducible exact Fr.refl _) | (with_reducible assumption) | (with_reducible refine Fr.drewN ?_ _) | (with_reducible refine Fr.drew ?_) | (with_reducible refine Fr.alloc ?_ _) | (with_reducible refine Fr.setCell ?_ (by (first | (with_reducible assumption) | omega | (simp only [World.size_alloc, World.size_setCell, World.size_drew, World.heap_drewN]; omega) | (simp; done) | (simp; omega))) _) | (with_reducible refine Fr.trans ?_ (by with_reducible assumption)))⟩
theorem Prd.more {w w' : World} {lo : Nat} {v v' u : Value} {ps : List PieceD} {us : List Value} {x : PieceD} {H : Nat} (h : Prd w lo v ps us) (hu : IntsO w lo u x.f2) (hau : Apart u v) (hH : H = w.heap.size)
    (ho : w'.ownsRow lo 121 3 v' (ps.length + 1) (pcells ps us ++ [.int .i64 x.f0, .int .u8 (x.f1.toNat : Int), u])) (hg : ∀ (z : Value) (ks : List Int), IntsO w lo z ks → Apart z v → IntsO w' lo z ks) (hat : v'.ownBlock = v.ownBlock ∨ ∃ g, v'.ownBlock = some g ∧ w.heap.size ≤ g) : Prd w' lo v' (ps ++ [x]) (us ++ [u]) := by
  have ap : ∀ (z : Value) (ks : List Int), IntsO w lo z ks → Apart z v → Apart z v' := fun z ks hz haz g h1 h2 => by
    rcases hat with e | ⟨g', e, hge⟩
    · exact haz g h1 (e ▸ h2)
    · rw [e] at h2
      cases h2
      have := (World.ownsRow.lt hz g h1).2
      omega
  refine ⟨by simp [h.len], ?_, fun k hk => ?_⟩
  · rw [pcells_snoc x u h.len]
    simpa using ho
  · simp only [List.length_append, List.length_singleton] at hk
    by_cases hk2 : k < ps.length
    · have e1 : nAt (us ++ [u]) k = nAt us k := by unfold nAt; simp [List.getD, List.getElem?_append_left (show k < us.length by rw [h.len]; exact hk2)]
      have e2 : nAt (ps ++ [x]) k = nAt ps k := by unfold nAt; simp [List.getD, List.getElem?_append_left hk2]
      rw [e1, e2]
      obtain ⟨h1, h2⟩ := h.kid k hk2
      exact ⟨hg _ _ h1 h2, ap _ _ h1 h2⟩
    · obtain rfl : k = ps.length := by omega
      have e1 : nAt (us ++ [u]) ps.length = u := by unfold nAt; rw [← h.len]; simp [List.getD]
      have e2 : nAt (ps ++ [x]) ps.length = x := by unfold nAt; simp [List.getD]
      rw [e1, e2]
      exact ⟨hg _ _ hu hau, ap _ _ hu hau⟩
set_option maxHeartbeats 8000000 in
set_option maxRecDepth 100000 in
theorem piece_any (b lo a : Nat) (t : ByteArray) (v u : Value) (ps : List PieceD) (us : List Value) (x : PieceD) (w : World) (hb : Box w b #[.string t, .int .i64 (a : Int), v] 110) (hlo : b < lo) (hlw : lo ≤ w.heap.size)
    (hp : Prd w lo v ps us) (hu : IntsO w lo u x.f2) (hau : Apart u v) (hn : ps.length ≤ 1000) :
    Calls Try.prog 203 #[.pointer (some ⟨b, 0, none⟩), .agg #[.int .i64 x.f0, .int .u8 (x.f1.toNat : Int), u]] w fun e w' => ∃ v', e = .returned (.int .i64 (ps.length : Int)) ∧ Box w' b #[.string t, .int .i64 (a : Int), v'] 110 ∧ Prd w' lo v' (ps ++ [x]) (us ++ [u]) ∧ Two b v.ownBlock w w' ∧ (v'.ownBlock = v.ownBlock ∨ ∃ g, v'.ownBlock = some g ∧ w.heap.size ≤ g) := by
  obtain ⟨i0, hi, hz0, hz1, hz2⟩ := info_parts info_Piece
  obtain ⟨ao, cap, rfl⟩ := hp.val
  obtain ⟨au, cu, rfl⟩ := owns_val hu
  have hxl := x.f1.toNat_lt
  have hbl := hb.lt
  have HP := Lib.hid hp
  have HU := Lib.hid hu
  have HO : Hid (w.ownsRow lo 121 3 (.slice ao ps.length cap) ps.length (pcells ps us)) := Lib.hid hp.own
  have hwl : IntKind.i64.wrap ((ps.length : Int) + 1 - 1) = (ps.length : Int) := by rw [show (ps.length : Int) + 1 - 1 = ps.length by omega]; exact IntWalk.i64_in _ (by omega)
  clear hp hu
  have F := hb.facts
  have hne1 : b ≠ w.heap.size := by omega
  have hne2 : w.heap.size ≠ b := by omega
  go_enter Try.func203, Try.ntmps203
  go_wp2_with fail
  go_region_law ((refine step_append_rd (by rfl) _ _ 25 (by rfl) lo 121 i0 (.agg #[.int .i64 0, .int .u8 0, .slice none 0 0]) 3 40 Try.underlying25 hi hz0 hz1 hz2 rfl (by decide) (.slice ao ps.length cap) ps.length (pcells ps us) (by rfl) (by exact owns_lo (owns_ab HO.out (by repeat (first | (with_reducible exact Ab.refl _ _) | (with_reducible assumption) | (with_reducible refine Ab.drewN ?_ _) | (with_reducible refine Ab.drew ?_) | (with_reducible refine Ab.alloc ?_ _) | (with_reducible refine Ab.setCell ?_ (by (first | (with_reducible assumption) | omega | (simp only [World.size_alloc, World.size_setCell, World.size_drew, World.heap_drewN]; omega) | (simp; done) | (simp; omega))) _) | (with_reducible refine Ab.fr ?_ (by with_reducible assumption))))) (by (first | (with_reducible assumption) | omega | (simp only [World.size_alloc, World.size_setCell, World.size_drew, World.heap_drewN]; omega) | (simp; done) | (simp; omega)))) _ 1 [.int .i64 x.f0, .int .u8 (x.f1.toNat : Int), .slice au x.f2.length cu] (by rfl) (RdS.drew (RdS.new (by first | rfl | (simp; done)) rfl)) (by simp [Value.oneCell']) (by unfold maxLen; omega) (by omega) (by (first | (with_reducible assumption) | omega | (simp only [World.size_alloc, World.size_setCell, World.size_drew, World.heap_drewN]; omega) | (simp; done) | (simp; omega))) ?_; intro ay cy w9 hown hgrow hat; have hB9 : Box w9 b _ _ := Box.gr (Box.fr hb (by repeat (first | (with_reducible exact Fr.refl _) | (with_reducible assumption) | (with_reducible refine Fr.drewN ?_ _) | (with_reducible refine Fr.drew ?_) | (with_reducible refine Fr.alloc ?_ _) | (with_reducible refine Fr.setCell ?_ (by (first | (with_reducible assumption) | omega | (simp only [World.size_alloc, World.size_setCell, World.size_drew, World.heap_drewN]; omega) | (simp; done) | (simp; omega))) _) | (with_reducible refine Fr.trans ?_ (by with_reducible assumption))))) hgrow (fun e => by have := (World.ownsRow.lt HO.out b e).1; omega); have F9 := hB9.facts; have z9 := hgrow.size; (try simp only [World.size_alloc, World.size_drew] at z9)))
  all_goals
    go_wp2_with fail
    go_ret
    have hat2 : (Value.slice ay (ps.length + 1) cy).ownBlock = (Value.slice ao ps.length cap).ownBlock ∨ ∃ g, (Value.slice ay (ps.length + 1) cy).ownBlock = some g ∧ w.heap.size ≤ g := by
      rcases hat with h | h
      · exact .inl h
      · exact .inr ⟨_, h, by simp; try omega⟩
    have hP9 := Prd.more HP.out HU.out hau rfl hown (fun z ks hz haz => World.ownsRow.kept (owns_fr hz (by repeat (first | (with_reducible exact Fr.refl _) | (with_reducible assumption) | (with_reducible refine Fr.drewN ?_ _) | (with_reducible refine Fr.drew ?_) | (with_reducible refine Fr.alloc ?_ _) | (with_reducible refine Fr.setCell ?_ (by (first | (with_reducible assumption) | omega | (simp only [World.size_alloc, World.size_setCell, World.size_drew, World.heap_drewN]; omega) | (simp; done) | (simp; omega))) _) | (with_reducible refine Fr.trans ?_ (by with_reducible assumption))))) hgrow (haz.symm.symm |> fun q => (Apart.ne q))) hat2
    refine ⟨.slice ay (ps.length + 1) cy, by first | rfl | (congr 1), ?_, ?_, ?_, hat2⟩
    · first | exact hB9.set_to (by simp) | exact (hB9.set_to (by simp)).drew
    · exact Prd.set hP9 (by show b < lo; omega) _
    · exact Two.set (Two.trans (Two.of_fr (by repeat (first | (with_reducible exact Fr.refl _) | (with_reducible assumption) | (with_reducible refine Fr.drewN ?_ _) | (with_reducible refine Fr.drew ?_) | (with_reducible refine Fr.alloc ?_ _) | (with_reducible refine Fr.setCell ?_ (by (first | (with_reducible assumption) | omega | (simp only [World.size_alloc, World.size_setCell, World.size_drew, World.heap_drewN]; omega) | (simp; done) | (simp; omega))) _) | (with_reducible refine Fr.trans ?_ (by with_reducible assumption))))) (Two.of_gr hgrow)) 2 _
/-- What a call of the reader may have turned: its box, the row of its pieces, nothing else that stood. -/
structure PGo (b : Nat) (v v' : Value) (w w' : World) : Prop where
  two : Two b v.ownBlock w w'
  row : v'.ownBlock = v.ownBlock ∨ ∃ g, v'.ownBlock = some g ∧ w.heap.size ≤ g
theorem PGo.size {b : Nat} {v v' : Value} {w w' : World} (h : PGo b v v' w w') : w.heap.size ≤ w'.heap.size := h.two.size
theorem PGo.of_fr {b : Nat} {v : Value} {w w' : World} (h : Fr w w') : PGo b v v w w' := ⟨Two.of_fr h, .inl rfl⟩
theorem PGo.then {b : Nat} {v v' : Value} {w w' w'' : World} (h : PGo b v v' w w') (k : Two b v'.ownBlock w' w'') : Two b v.ownBlock w w'' :=
  ⟨k.os.trans h.two.os, k.tape.trans h.two.tape, k.output.trans h.two.output, Nat.le_trans h.two.size k.size, fun i hi h1 h2 => by
    rw [k.block i (Nat.lt_of_lt_of_le hi h.two.size) h1 (fun e => by
      rcases h.row with r | ⟨g, r, hg⟩
      · exact h2 (e.trans r)
      · rw [r] at e; cases e; omega)]
    exact h.two.block i hi h1 h2⟩
theorem PGo.trans {b : Nat} {v v' v'' : Value} {w w' w'' : World} (h : PGo b v v' w w') (k : PGo b v' v'' w' w'') : PGo b v v'' w w'' :=
  ⟨h.then k.two, by
    rcases k.row with r | ⟨g, r, hg⟩
    · rw [r]
      exact h.row
    · exact .inr ⟨g, r, Nat.le_trans h.two.size hg⟩⟩
/-- A row of the caller's own, apart from the pieces, stays as it is. -/
theorem PGo.kids {b lo : Nat} {v v' z : Value} {w w' : World} {ks : List Int} (h : PGo b v v' w w') (hz : IntsO w lo z ks) (ha : Apart z v) (hb : b < lo) : IntsO w' lo z ks ∧ Apart z v' := by
  refine ⟨?_, fun g h1 h2 => ?_⟩
  · obtain ⟨h1, h2 | ⟨g, cap, cur, hv, hg, hh, hr⟩⟩ := hz
    · exact ⟨h1, .inl h2⟩
    · refine ⟨h1, .inr ⟨g, cap, cur, hv, hg, (h.two.block g (Array.getElem?_eq_some_iff.1 hh).1 (by omega) (fun e => ?_)).trans hh, hr⟩⟩
      exact ha g (by rw [hv]; rfl) e.symm
  · rcases h.row with r | ⟨g', r, hg⟩
    · exact ha g h1 (r ▸ h2)
    · rw [r] at h2
      cases h2
      have := (World.ownsRow.lt hz g h1).2
      omega
/-- A row of a caller's: none of the pieces' rows. -/
def Apt (v : Value) (us : List Value) (y : Value) : Prop := Apart y v ∧ ∀ u, u ∈ us → Apart y u
def Old (w : World) (y : Value) : Prop := ∀ g, y.ownBlock = some g → g < w.heap.size
theorem Apt.snoc {v v' u y : Value} {us : List Value} {w : World} (h : Apt v us y) (ho : Old w y) (hu : Apart y u) (hr : v'.ownBlock = v.ownBlock ∨ ∃ g, v'.ownBlock = some g ∧ w.heap.size ≤ g) : Apt v' (us ++ [u]) y := by
  refine ⟨fun g h1 h2 => ?_, fun x hx => ?_⟩
  · rcases hr with r | ⟨g', r, hg⟩
    · exact h.1 g h1 (r ▸ h2)
    · rw [r] at h2
      cases h2
      have := ho g h1
      omega
  · rcases List.mem_append.1 hx with hx | hx
    · exact h.2 x hx
    · simp only [List.mem_singleton] at hx
      rw [hx]
      exact hu
/-- The reader's state behind a call: z is a row that the call was handed. -/
def RdSt (b lo a : Nat) (t : ByteArray) (v z : Value) (us : List Value) (ps : List PieceD) (w w' : World) : Prop := ∃ v' us', Box w' b #[.string t, .int .i64 (a : Int), v'] 110 ∧ Prd w' lo v' ps us' ∧ PGo b v v' w w' ∧ ∀ y, Old w y → Apt v us y → Apart y z → Apt v' us' y
set_option maxHeartbeats 4000000 in
theorem group_any (b lo a : Nat) (t : ByteArray) (v z : Value) (ps : List PieceD) (us : List Value) (op : Int) (ks : List Int) (w : World) (hb : Box w b #[.string t, .int .i64 (a : Int), v] 110) (hlo : b < lo) (hlw : lo ≤ w.heap.size)
    (hp : Prd w lo v ps us) (hu : IntsO w lo z ks) (hau : Apart z v) (hn : ps.length ≤ 1000) (hk : 0 < ks.length) :
    Calls Try.prog 160 #[.pointer (some ⟨b, 0, none⟩), .int .i64 op, z] w fun e w' => e = .returned (.int .i64 (grp op ks ps).1) ∧ RdSt b lo a t v z us (grp op ks ps).2 w w' := by
  have HB := Lib.hid hb
  have HP := Lib.hid hp
  have HU := Lib.hid hu
  obtain ⟨az, cz, rfl⟩ := owns_val hu
  obtain ⟨az', bz, oz, cz', hv, hcz, hmz, fz⟩ := (IntsO.rd hu).one
  cases hv
  obtain ⟨rfl, hbz, fz⟩ := fz hk
  by_cases h1 : ks.length = 1
  · obtain ⟨k, rfl⟩ : ∃ k, ks = [k] := by
      match ks, h1 with
      | [k], _ => exact ⟨k, rfl⟩
    have c0 : w.cell? ⟨bz, oz, none⟩ = some (.int .i64 k) := fz 0 (by simp)
    clear fz hb hp hu
    go_enter Try.func160, Try.ntmps160
    go_wp2_with fail
    go_ret
    exact ⟨rfl, v, us, HB.out.fr (by repeat (first | (with_reducible exact Fr.refl _) | (with_reducible assumption) | (with_reducible refine Fr.drewN ?_ _) | (with_reducible refine Fr.drew ?_) | (with_reducible refine Fr.alloc ?_ _) | (with_reducible refine Fr.setCell ?_ (by (first | (with_reducible assumption) | omega | (simp only [World.size_alloc, World.size_setCell, World.size_drew, World.heap_drewN]; omega) | (simp; done) | (simp; omega))) _) | (with_reducible refine Fr.trans ?_ (by with_reducible assumption)))), HP.out.fr (by repeat (first | (with_reducible exact Fr.refl _) | (with_reducible assumption) | (with_reducible refine Fr.drewN ?_ _) | (with_reducible refine Fr.drew ?_) | (with_reducible refine Fr.alloc ?_ _) | (with_reducible refine Fr.setCell ?_ (by (first | (with_reducible assumption) | omega | (simp only [World.size_alloc, World.size_setCell, World.size_drew, World.heap_drewN]; omega) | (simp; done) | (simp; omega))) _) | (with_reducible refine Fr.trans ?_ (by with_reducible assumption)))), PGo.of_fr (by repeat (first | (with_reducible exact Fr.refl _) | (with_reducible assumption) | (with_reducible refine Fr.drewN ?_ _) | (with_reducible refine Fr.drew ?_) | (with_reducible refine Fr.alloc ?_ _) | (with_reducible refine Fr.setCell ?_ (by (first | (with_reducible assumption) | omega | (simp only [World.size_alloc, World.size_setCell, World.size_drew, World.heap_drewN]; omega) | (simp; done) | (simp; omega))) _) | (with_reducible refine Fr.trans ?_ (by with_reducible assumption)))), fun y _ h _ => h⟩
  · have hg : grp op ks ps = ((ps.length : Int), ps ++ [⟨op, 0, ks⟩]) := by
      unfold grp
      split
      · simp at h1
      · rfl
    have HG := Lib.hid hg
    have q : ((ks.length : Int) == 1) = false := by rw [beq_eq_false_iff_ne]; omega
    have CP : Hid (∀ w', Fr w w' → Calls Try.prog 203 #[.pointer (some ⟨b, 0, none⟩), .agg #[.int .i64 op, .int .u8 0, .slice (some ⟨bz, oz, none⟩) ks.length cz]] w' fun e w'' => ∃ v', e = .returned (.int .i64 (ps.length : Int)) ∧ Box w'' b #[.string t, .int .i64 (a : Int), v'] 110 ∧ Prd w'' lo v' (ps ++ [⟨op, 0, ks⟩]) (us ++ [.slice (some ⟨bz, oz, none⟩) ks.length cz]) ∧ Two b v.ownBlock w' w'' ∧ (v'.ownBlock = v.ownBlock ∨ ∃ g, v'.ownBlock = some g ∧ w'.heap.size ≤ g)) := Lib.hid fun w' h => piece_any b lo a t v _ ps us ⟨op, 0, ks⟩ w' (HB.out.fr h) hlo (by have := h.size; omega) (HP.out.fr h) (owns_fr HU.out h) hau hn
    clear fz hb hp hu hg
    go_enter Try.func160, Try.ntmps160
    go_wp2_with fail
    refine (CP.out _ (by repeat (first | (with_reducible exact Fr.refl _) | (with_reducible assumption) | (with_reducible refine Fr.drewN ?_ _) | (with_reducible refine Fr.drew ?_) | (with_reducible refine Fr.alloc ?_ _) | (with_reducible refine Fr.setCell ?_ (by (first | (with_reducible assumption) | omega | (simp only [World.size_alloc, World.size_setCell, World.size_drew, World.heap_drewN]; omega) | (simp; done) | (simp; omega))) _) | (with_reducible refine Fr.trans ?_ (by with_reducible assumption))))).mono ?_
    rintro e w1 ⟨v', rfl, hb1, hp1, ht1, hr1⟩
    have HB1 := Lib.hid hb1
    have HP1 := Lib.hid hp1
    clear hb1 hp1
    go_wp2_with fail
    go_ret
    rw [HG.out]
    have hr2 : v'.ownBlock = v.ownBlock ∨ ∃ g, v'.ownBlock = some g ∧ w.heap.size ≤ g := hr1
    exact ⟨rfl, v', _, HB1.out, HP1.out, ⟨ht1, hr2⟩, fun y hy h hz => h.snoc hy hz hr2⟩
end Go.Proofs.Ytjgghiniajmfjaa
