/- ReadPath of the program: rpM. No condition but the size of a text. -/
import Derived.Test.YtjgghiniajmfjaaPri
namespace Go.Proofs.Ytjgghiniajmfjaa
open Go.RowKit
set_option linter.unusedVariables false
set_option linter.unusedSimpArgs false
def zipP : List PieceD → List Value → List (List Value)
  | d :: ps, u :: us => [.int .i64 d.f0, .int .u8 (d.f1.toNat : Int), u] :: zipP ps us
  | _, _ => []
theorem zipP_flat : ∀ (ps : List PieceD) (us : List Value), (zipP ps us).flatten = pcells ps us
  | [], [] => rfl
  | [], _ :: _ => rfl
  | _ :: _, [] => rfl
  | d :: ps, u :: us => by
    rw [zipP, pcells, List.flatten_cons, zipP_flat ps us]
    rfl
theorem zipP_len : ∀ (ps : List PieceD) (us : List Value), us.length = ps.length → (zipP ps us).length = ps.length
  | [], [], _ => rfl
  | [], _ :: _, h => by simp at h
  | _ :: _, [], h => by simp at h
  | d :: ps, u :: us, h => by
    rw [zipP, List.length_cons, List.length_cons, zipP_len ps us (by simpa using h)]
theorem zipP_at : ∀ (ps : List PieceD) (us : List Value) (k : Nat) (c : List Value) (x : PieceD), us.length = ps.length → (zipP ps us)[k]? = some c → ps[k]? = some x → c = [.int .i64 x.f0, .int .u8 (x.f1.toNat : Int), nAt us k]
  | [], _, k, c, x, _, _, h => by simp at h
  | _ :: _, [], _, _, _, h, _, _ => by simp at h
  | d :: ps, u :: us, 0, c, x, _, h1, h2 => by
    simp [zipP] at h1 h2
    subst h2
    rw [← h1]
    rfl
  | d :: ps, u :: us, k + 1, c, x, h, h1, h2 => by
    simp [zipP] at h1 h2
    have := zipP_at ps us k c x (by simpa using h) h1 h2
    rw [this]
    congr 1
theorem Prd.rd {w : World} {lo : Nat} {v : Value} {ps : List PieceD} {us : List Value} (h : Prd w lo v ps us) : PiecesR w v ps := by
  refine ⟨zipP ps us, zipP_len _ _ h.len, ?_, fun k c x hc hx => ?_⟩
  · rw [zipP_flat]
    exact RdS.of_owns h.own
  · have e := zipP_at ps us k c x h.len hc hx
    have hk : k < ps.length := (List.getElem?_eq_some_iff.1 hx).1
    have ex : nAt ps k = x := by
      have := nAt_get hk
      rw [hx] at this
      exact (Option.some.inj this).symm
    refine ⟨by rw [e]; rfl, nAt us k, e, ?_⟩
    rw [← ex]
    exact IntsO.rd (h.kid k hk).1
theorem PiecesR.nil (w : World) : PiecesR w (.slice none 0 0) [] := (Prd.none w 0).rd
theorem Two.fr_new {w w1 w2 : World} {b : Nat} (h1 : Fr w w1) (hb : w.heap.size ≤ b) (h : Two b none w1 w2) : Fr w w2 :=
  ⟨h.os.trans h1.out.os, h.tape.trans h1.out.tape, h.output.trans h1.out.output, Nat.le_trans h1.size h.size, fun i hi => by
    rw [h.block i (Nat.lt_of_lt_of_le hi h1.size) (by omega) (fun e => by cases e)]
    exact h1.out.block i hi⟩
set_option maxHeartbeats 8000000 in
set_option maxRecDepth 100000 in
theorem implReadPath_any (t : ByteArray) (w : World) (ht : t.size ≤ 9223372036854775807) :
    Calls Try.prog 13 #[.string t] w fun e w' => ∃ v, e = .returned (.tuple #[.agg #[v], .bool (rpM t).2]) ∧ PiecesR w' v (rpM t).1 ∧ Fr w w' := by
  by_cases hs : 20 < t.size
  · have HM : Hid (rpM t = ([], false)) := Lib.hid (by unfold rpM; rw [if_pos hs])
    have q : decide (20 < (t.size : Int)) = true := decide_eq_true (by omega)
    clear hs
    go_enter Try.func13, Try.ntmps13
    go_wp2_with fail
    refine bodyPost_ret (v := .tuple #[.agg #[.slice none 0 0], .bool false]) (by simp [results, Try.results13, go_sem, *]) rfl ?_
    rw [HM.out]
    exact ⟨_, rfl, PiecesR.nil _, by repeat (first | (with_reducible exact Fr.refl _) | (with_reducible assumption) | (with_reducible refine Fr.drewN ?_ _) | (with_reducible refine Fr.drew ?_) | (with_reducible refine Fr.alloc ?_ _) | (with_reducible refine Fr.setCell ?_ (by (first | (with_reducible assumption) | omega | (simp only [World.size_alloc, World.size_setCell, World.size_drew, World.heap_drewN]; omega) | (simp; done) | (simp; omega))) _) | (with_reducible refine Fr.trans ?_ (by with_reducible assumption)))⟩
  · have q : decide (20 < (t.size : Int)) = false := decide_eq_false (by omega)
    have hs2 : t.size ≤ 20 := by omega
    obtain ⟨F, hFF⟩ : ∃ F : Nat, F = 100 := ⟨_, rfl⟩
    have hM : rpM t = rpG t (prs t F (.expr []) 0 []) := by unfold rpM; rw [if_neg hs, hFF]
    obtain ⟨R, hR⟩ : ∃ R, prs t F (.expr []) 0 [] = R := ⟨_, rfl⟩
    have HM : Hid (rpM t = rpG t R) := Lib.hid (by rw [hM, hR])
    clear hM
    have CE : Hid (∀ w', Box w' (w.heap.size + 1) #[.string t, .int .i64 0, .slice none 0 0] 110 → Calls Try.prog 84 #[.pointer (some ⟨w.heap.size + 1, 0, none⟩)] w' (RPost (w.heap.size + 1) (w.heap.size + 2) t (.slice none 0 0) [] w' R)) := Lib.hid fun w' h => by
      have := (reader_any t (by omega) F).2.2 (w.heap.size + 1) (w.heap.size + 2) 0 (.slice none 0 0) [] [] w' h (by omega) (by have := h.lt; omega) (Prd.none _ _) (by omega) (by omega) (by simp; omega)
      rw [hR] at this
      exact this
    clear hs hR hFF
    cases R with
    | none =>
      go_enter Try.func13, Try.ntmps13
      go_wp2_with fail
      refine (CE.out _ (Box.new' (by simp))).mono ?_
      rintro e w1 ⟨rfl, ht1⟩
      have HF : Fr w w1 := Two.fr_new (b := w.heap.size + 1) (by repeat (first | (with_reducible exact Fr.refl _) | (with_reducible assumption) | (with_reducible refine Fr.drewN ?_ _) | (with_reducible refine Fr.drew ?_) | (with_reducible refine Fr.alloc ?_ _) | (with_reducible refine Fr.setCell ?_ (by (first | (with_reducible assumption) | omega | (simp only [World.size_alloc, World.size_setCell, World.size_drew, World.heap_drewN]; omega) | (simp; done) | (simp; omega))) _) | (with_reducible refine Fr.trans ?_ (by with_reducible assumption)))) (by omega) ht1
      have B0 : Box w1 w.heap.size #[.slice none 0 0] 27 := ht1.box ((Box.new _ _ _).alloc _) (by omega) (by simp [Value.ownBlock])
      have F0 := B0.facts
      clear ht1
      go_wp2_with fail
      refine bodyPost_ret (v := .tuple #[.agg #[.slice none 0 0], .bool false]) (by simp [results, Try.results13, go_sem, *]) rfl ?_
      rw [HM.out]
      exact ⟨_, rfl, PiecesR.nil _, by repeat (first | (with_reducible exact Fr.refl _) | (with_reducible assumption) | (with_reducible refine Fr.drewN ?_ _) | (with_reducible refine Fr.drew ?_) | (with_reducible refine Fr.alloc ?_ _) | (with_reducible refine Fr.setCell ?_ (by (first | (with_reducible assumption) | omega | (simp only [World.size_alloc, World.size_setCell, World.size_drew, World.heap_drewN]; omega) | (simp; done) | (simp; omega))) _) | (with_reducible refine Fr.trans ?_ (by with_reducible assumption)))⟩
    | some r =>
      obtain ⟨k, a, ps⟩ := r
      have HM2 : Hid (rpM t = if a = t.size ∧ pathB ps = true then (ps, true) else ([], false)) := HM
      clear HM
      go_enter Try.func13, Try.ntmps13
      go_wp2_with fail
      refine (CE.out _ (Box.new' (by simp))).mono ?_
      rintro e w1 ⟨rfl, v', us', hb1, hp1, hg1, _⟩
      have HF : Fr w w1 := Two.fr_new (b := w.heap.size + 1) (by repeat (first | (with_reducible exact Fr.refl _) | (with_reducible assumption) | (with_reducible refine Fr.drewN ?_ _) | (with_reducible refine Fr.drew ?_) | (with_reducible refine Fr.alloc ?_ _) | (with_reducible refine Fr.setCell ?_ (by (first | (with_reducible assumption) | omega | (simp only [World.size_alloc, World.size_setCell, World.size_drew, World.heap_drewN]; omega) | (simp; done) | (simp; omega))) _) | (with_reducible refine Fr.trans ?_ (by with_reducible assumption)))) (by omega) hg1.two
      have HP := Lib.hid hp1.rd
      have HPr := Lib.hid hp1
      have hlen : ps.length ≤ 9223372036854775807 := NestR.le HP.out
      have F1 := hb1.facts
      have B0 : Box w1 w.heap.size #[.slice none 0 0] 27 := hg1.two.box ((Box.new _ _ _).alloc _) (by omega) (by simp [Value.ownBlock])
      have F0 := B0.facts
      obtain ⟨av, cv, rfl⟩ := hp1.val
      clear hg1 hp1 hb1
      by_cases ha : a = t.size
      · subst ha
        have CP : Hid (∀ w', Fr w1 w' → Calls Try.prog 25 #[.agg #[.slice av ps.length cv]] w' fun e w'' => e = .returned (.bool (pathB ps)) ∧ Fr w' w'') := Lib.hid fun w' h => implPathOk_any _ ps w' (HP.out.fr h)
        obtain ⟨pb, hpb⟩ : ∃ pb, pathB ps = pb := ⟨_, rfl⟩
        rw [hpb] at CP HM2
        clear hpb
        cases pb
        · go_wp2_with fail
          refine (CP.out _ (by repeat (first | (with_reducible exact Fr.refl _) | (with_reducible assumption) | (with_reducible refine Fr.drewN ?_ _) | (with_reducible refine Fr.drew ?_) | (with_reducible refine Fr.alloc ?_ _) | (with_reducible refine Fr.setCell ?_ (by (first | (with_reducible assumption) | omega | (simp only [World.size_alloc, World.size_setCell, World.size_drew, World.heap_drewN]; omega) | (simp; done) | (simp; omega))) _) | (with_reducible refine Fr.trans ?_ (by with_reducible assumption))))).mono ?_
          rintro e w2 ⟨rfl, hf2⟩
          have F02 := (B0.fr hf2).facts
          go_wp2_with fail
          refine bodyPost_ret (v := .tuple #[.agg #[.slice none 0 0], .bool false]) (by simp [results, Try.results13, go_sem, *]) rfl ?_
          rw [HM2.out, if_neg (by simp)]
          exact ⟨_, rfl, PiecesR.nil _, by repeat (first | (with_reducible exact Fr.refl _) | (with_reducible assumption) | (with_reducible refine Fr.drewN ?_ _) | (with_reducible refine Fr.drew ?_) | (with_reducible refine Fr.alloc ?_ _) | (with_reducible refine Fr.setCell ?_ (by (first | (with_reducible assumption) | omega | (simp only [World.size_alloc, World.size_setCell, World.size_drew, World.heap_drewN]; omega) | (simp; done) | (simp; omega))) _) | (with_reducible refine Fr.trans ?_ (by with_reducible assumption)))⟩
        · go_wp2_with fail
          refine (CP.out _ (by repeat (first | (with_reducible exact Fr.refl _) | (with_reducible assumption) | (with_reducible refine Fr.drewN ?_ _) | (with_reducible refine Fr.drew ?_) | (with_reducible refine Fr.alloc ?_ _) | (with_reducible refine Fr.setCell ?_ (by (first | (with_reducible assumption) | omega | (simp only [World.size_alloc, World.size_setCell, World.size_drew, World.heap_drewN]; omega) | (simp; done) | (simp; omega))) _) | (with_reducible refine Fr.trans ?_ (by with_reducible assumption))))).mono ?_
          rintro e w2 ⟨rfl, hf2⟩
          have F02 := (B0.fr hf2).facts
          have k2 := hf2.blk (w.heap.size + 1) (by (first | (with_reducible assumption) | omega | (simp only [World.size_alloc, World.size_setCell, World.size_drew, World.heap_drewN]; omega) | (simp; done) | (simp; omega)))
          go_wp2_with fail
          refine bodyPost_ret (v := .tuple #[.agg #[.slice av ps.length cv], .bool true]) (by simp [results, Try.results13, go_sem, *]) rfl ?_
          rw [HM2.out, if_pos (by simp)]
          exact ⟨_, rfl, (Prd.set (HPr.out.fr hf2) (by show w.heap.size < w.heap.size + 2; omega) _).rd, by repeat (first | (with_reducible exact Fr.refl _) | (with_reducible assumption) | (with_reducible refine Fr.drewN ?_ _) | (with_reducible refine Fr.drew ?_) | (with_reducible refine Fr.alloc ?_ _) | (with_reducible refine Fr.setCell ?_ (by (first | (with_reducible assumption) | omega | (simp only [World.size_alloc, World.size_setCell, World.size_drew, World.heap_drewN]; omega) | (simp; done) | (simp; omega))) _) | (with_reducible refine Fr.trans ?_ (by with_reducible assumption)))⟩
      · have q2 : ((a : Int) != (t.size : Int)) = true := by rw [bne_iff_ne]; omega
        have HM3 : Hid (rpM t = ([], false)) := Lib.hid (by rw [HM2.out, if_neg (fun h => ha h.1)])
        clear ha
        go_wp2_with fail
        refine bodyPost_ret (v := .tuple #[.agg #[.slice none 0 0], .bool false]) (by simp [results, Try.results13, go_sem, *]) rfl ?_
        rw [HM3.out]
        exact ⟨_, rfl, PiecesR.nil _, by repeat (first | (with_reducible exact Fr.refl _) | (with_reducible assumption) | (with_reducible refine Fr.drewN ?_ _) | (with_reducible refine Fr.drew ?_) | (with_reducible refine Fr.alloc ?_ _) | (with_reducible refine Fr.setCell ?_ (by (first | (with_reducible assumption) | omega | (simp only [World.size_alloc, World.size_setCell, World.size_drew, World.heap_drewN]; omega) | (simp; done) | (simp; omega))) _) | (with_reducible refine Fr.trans ?_ (by with_reducible assumption)))⟩
end Go.Proofs.Ytjgghiniajmfjaa
