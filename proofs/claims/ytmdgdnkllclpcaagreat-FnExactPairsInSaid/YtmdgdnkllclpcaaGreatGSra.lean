/- Texts in one: Nfi, Inp, Shg, Joi, Lkp, Lol, Sra. -/
import Derived.Test.YtmdgdnkllclpcaaGreatGPutA
import Derived.Test.YtmdgdnkllclpcaaGreatGMark
import Derived.Shelf.SlSortCmp.WholeK
import Derived.Test.YtmdgdnkllclpcaaGreatGVis
import Derived.Test.YtmdgdnkllclpcaaGreatGPrw
import Derived.Test.YtmdgdnkllclpcaaGreatGTFilter
import Derived.StillTailTactics
/- The automaton of a path: the arcs from a state (the closure in impl.NfaOf). Conditions: bounds on what is held. -/
namespace Go.Proofs.YtmdgdnkllclpcaaGreat
open Go.RowKit
set_option linter.unusedVariables false
set_option linter.unusedSimpArgs false
theorem PosSt.tch {B : Nat → Prop} {w w' : World} {b lo : Nat} {pv lv fv : Value} {s : StD} (h : PosSt w b lo pv lv fv s) (t : Tch B w w') (hd : ∀ i, PB b lv fv i → ¬ B i) : PosSt w' b lo pv lv fv s :=
  ⟨t.box h.box (hd _ (.inl rfl)), t.owns h.labs (fun g e => hd g (.inr (.inl e))), t.owns h.fol (fun g e => hd g (.inr (.inr e))), h.ap, h.nl, h.nf⟩
/-- An automaton under way: its box, its arcs, its ends. -/
def AB (c : Nat) (av : Value) (i : Nat) : Prop := i = c ∨ av.ownBlock = some i
structure NfaSt (w : World) (c lo : Nat) (n : Int) (av ev : Value) (xs : List EdgeR) (bs : List Bool) : Prop where
  box : Box w c #[.int .i64 n, av, ev] 103
  arcs : w.ownsRow lo 186 3 av xs.length (xs.flatMap EdgeR.cells)
  ends : w.ownsRow lo 4 1 ev bs.length (bs.map Value.bool)
  ap : Apart av ev
  na : av.ownBlock ≠ some c
  ne : ev.ownBlock ≠ some c
theorem NfaSt.fr {w w' : World} {c lo : Nat} {n : Int} {av ev : Value} {xs : List EdgeR} {bs : List Bool} (h : NfaSt w c lo n av ev xs bs) (hf : Fr w w') : NfaSt w' c lo n av ev xs bs :=
  ⟨h.box.fr hf, owns_fr h.arcs hf, owns_fr h.ends hf, h.ap, h.na, h.ne⟩
theorem NfaSt.old {w : World} {c lo : Nat} {n : Int} {av ev : Value} {xs : List EdgeR} {bs : List Bool} (h : NfaSt w c lo n av ev xs bs) : ∀ i, AB c av i → i < w.heap.size := by
  rintro i (e | e)
  · have := h.box.lt; omega
  · exact owns_old h.arcs i e
theorem rowA_len (labs : List UInt8) (s : Nat) (p : Nat → Bool) : (rowA labs s p).length = (reachL labs.length p).length := by simp [rowA]
theorem rowA_step {labs : List UInt8} {s : Nat} {p : Nat → Bool} {k m : Nat} (hk : k < (reachL labs.length p).length) (hm : iAt (reachL labs.length p) k = (m : Int)) : (rowA labs s p).take (k + 1) = (rowA labs s p).take k ++ [arcE labs s m] := by
  rw [List.take_succ_eq_append_getElem (by rw [rowA_len]; exact hk)]
  congr 2
  unfold rowA
  rw [List.getElem_map]
  have : (reachL labs.length p)[k] = (m : Int) := by rw [← hm]; simp [iAt, List.getD, List.getElem?_eq_getElem hk]
  rw [this]; rfl
theorem BytesO.one {w : World} {lo : Nat} {v : Value} {l : List UInt8} (h : BytesO w lo v l) (hn : 0 < l.length) : ∃ g cap, v = .slice (some ⟨g, 0, none⟩) l.length cap ∧ lo ≤ g ∧ g < w.heap.size ∧ ∀ i, i < l.length → w.cell? ⟨g, i, none⟩ = some (.int .u8 ((nAt l i).toNat : Int)) := by
  rcases owns_shape h with ⟨rfl, hn0, _⟩ | ⟨g, cap, rfl, h1, h2, _⟩
  · omega
  · refine ⟨g, cap, rfl, h1, h2, fun i hi => ?_⟩
    rw [World.ownsRow.cellAt h i (by omega)]
    simp [nums, nAt, List.getD, List.getElem?_eq_getElem hi]
theorem arcE_cells (labs : List UInt8) (s j : Nat) : (arcE labs s j).cells = [.int .i64 (s : Int), .int .u8 ((nAt labs j).toNat : Int), .int .i64 ((j : Int) + 1)] := rfl
set_option maxHeartbeats 8000000 in
set_option maxRecDepth 100000 in
theorem arcs_any (b c lo q : Nat) (n : Int) (pv lv fv av ev : Value) (s : StD) (p : Nat → Bool) (xs : List EdgeR) (bs : List Bool) (w : World) (hP : PosSt w b lo pv lv fv s) (hA : NfaSt w c lo n av ev xs bs) (hd : ∀ i, PB b lv fv i → ¬ AB c av i) (hp : ∀ j, p j = true → j < s.labs.length) (hs : s.labs.length ≤ 24) (hx : xs.length ≤ 100000) (hq : q ≤ 1000) :
    Calls Tryz.prog 197 #[.int .i64 (q : Int), .int .u32 (bN p : Int), .pointer (some ⟨c, 0, none⟩), .pointer (some ⟨b, 0, none⟩)] w fun e w' => e = .returned (.tuple #[]) ∧ ∃ av', NfaSt w' c lo n av' ev (xs ++ rowA s.labs q p) bs ∧ Tch (AB c av) w w' ∧ Mvd w.heap.size av av' := by
  obtain ⟨i0, hi, hz0, hz1, hz2⟩ := info_parts info_Arc
  obtain ⟨al, cl, rfl⟩ : ∃ al cl, lv = .slice al s.labs.length cl := owns_val hP.labs
  obtain ⟨ae, ce, rfl⟩ : ∃ al cl, ev = .slice al bs.length cl := owns_val hA.ends
  have HL := Lib.hid hp
  have HP := Lib.hid hP
  have HA := Lib.hid hA
  have HD := Lib.hid hd
  clear hp hP hA hd
  go_enter Tryz.func197, Tryz.ntmps197
  go_wp2_with (go_at_call 157; refine (bitsIn_any p _).mono ?_; rintro e w1 ⟨az, cz, rfl, ho, hf1⟩)
  have hre := reachL_more (p := p) (fun k hk => HL.out k hk) (show s.labs.length ≤ 32 by omega)
  rw [hre] at ho ⊢
  have hrl := reachL_len s.labs.length p
  have HO := Lib.hid (IntsO.fr ho (Fr.refl w1))
  have zw := hf1.size
  have HA1 := Lib.hid (HA.out.fr hf1)
  have HX0 : Hid (xs ++ (rowA s.labs q p).take 0 = xs) := Lib.hid (by simp)
  have HZ := Lib.hid (owns_old ho)
  clear ho hre
  go_loopw [7, 11] (fun _ i wr => ∃ (k : Nat) (av' : Value), k ≤ (reachL s.labs.length p).length ∧ i = .int .i64 k ∧ Hid (IntsO wr w.heap.size (.slice az (reachL s.labs.length p).length cz) (reachL s.labs.length p)) ∧ Hid (NfaSt wr c lo n av' (.slice ae bs.length ce) (xs ++ (rowA s.labs q p).take k) bs) ∧ Hid (Tch (AB c av) w wr) ∧ Hid (Mvd w1.heap.size av av') ∧ w1.heap.size ≤ wr.heap.size) (fun _ i _ => (reachL s.labs.length p).length - (intOf i).toNat)
  case atStart => exact ⟨0, av, Nat.zero_le _, rfl, HO, Lib.hid (by rw [HX0.out]; exact HA1.out), Lib.hid (Tch.of_fr hf1), Lib.hid (.inl rfl), Nat.le_refl _⟩
  case round =>
    clear HO HA1 HX0
    obtain ⟨k, av', hk, rfl, HO, HA1, HT, HM, zr1⟩ := hrel
    have zr := HT.out.size
    by_cases hlt : k < (reachL s.labs.length p).length
    · obtain ⟨m, hm, hmn, hpm⟩ := reachL_get hlt
      have HSTEP := Lib.hid (rowA_step (s := q) hlt hm)
      obtain ⟨az', bz, oz, cz', hv, hcz, hmz, fz⟩ := (IntsO.rd HO.out).one
      cases hv
      obtain ⟨rfl, hbz, fz⟩ := fz (by omega)
      have c0 := fz k hlt
      rw [hm] at c0
      have HP1 := Lib.hid (HP.out.tch HT.out HD.out)
      obtain ⟨av2, cv2, rfl⟩ : ∃ a cc, av' = .slice a (xs ++ (rowA s.labs q p).take k).length cc := owns_val HA1.out.arcs
      obtain ⟨gl, cl', hv, _, hgl, hcl⟩ := BytesO.one HP1.out.labs (by omega)
      cases hv
      have cm := hcl m hmn
      have hbl := (nAt s.labs m).toNat_lt
      obtain ⟨L, hLL⟩ : ∃ L, ((nAt s.labs m).toNat : Int) = L := ⟨_, rfl⟩
      have HLL := Lib.hid hLL
      have hL0 : 0 ≤ L := by omega
      have hL1 : L < 256 := by omega
      rw [hLL] at cm
      have FB := HP1.out.box.facts
      have FC := HA1.out.box.facts
      have hlen : (xs ++ (rowA s.labs q p).take k).length ≤ 100000 + 24 := by
        rw [List.length_append, List.length_take, rowA_len]; omega
      obtain ⟨M, hM⟩ : ∃ M, (xs ++ (rowA s.labs q p).take k).length = M := ⟨_, rfl⟩
      have HMM := Lib.hid hM
      have HOA : Hid (wr.ownsRow lo 186 3 (.slice av2 M cv2) M ((xs ++ (rowA s.labs q p).take k).flatMap EdgeR.cells)) := Lib.hid (by have := HA1.out.arcs; rw [hM] at this; exact this)
      rw [hM] at FC hlen
      have zc : c < wr.heap.size := HA1.out.box.lt
      have zb : b < wr.heap.size := HP1.out.box.lt
      have hcb : b ≠ c := fun e => HD.out b (.inl rfl) (.inl e)
      have hc1 : c ≠ wr.heap.size := by omega
      have hc2 : c ≠ wr.heap.size + 1 := by omega
      have hb1 : b ≠ wr.heap.size := by omega
      have hz1' : bz ≠ wr.heap.size := by have := owns_old HO.out bz rfl; omega
      have hg1 : gl ≠ wr.heap.size := by omega
      have hzwr : bz < wr.heap.size := owns_old HO.out bz rfl
      have hwm : IntKind.i64.wrap ((m : Int) + 1) = (m : Int) + 1 := IntWalk.i64_in _ (by omega)
      clear hLL hM fz hm hcl
      go_wp2_with fail
      go_region_law ((refine step_append_rd (by rfl) _ _ 100 (by rfl) lo 186 i0 (.agg #[.int .i64 0, .int .u8 0, .int .i64 0]) 3 24 Tryz.underlying100 hi hz0 hz1 hz2 rfl (by decide) (.slice av2 M cv2) M ((xs ++ (rowA s.labs q p).take k).flatMap EdgeR.cells) (by rfl) (by exact owns_lo (owns_ab HOA.out (by exact Qa)) (by exact Qz)) _ 1 [.int .i64 (q : Int), .int .u8 L, .int .i64 ((m : Int) + 1)] (by rfl) (RdS.drew (RdS.new (by first | rfl | (simp; done)) rfl)) (by simp [Value.oneCell']) (by unfold maxLen; omega) (by omega) (by exact Qz) ?_; intro ay cy w9 hown hgrow hat; have hB9 : Box w9 c _ _ := Box.gr (Box.fr HA1.out.box (by exact Qf)) hgrow (fun e => HA1.out.na (by rw [HMM.out]; exact e)); have F9 := hB9.facts; have z9 := hgrow.size; (try simp only [World.size_alloc, World.size_drew] at z9)))
      all_goals
        have m1 : Mvd w1.heap.size (.slice av2 M cv2) (.slice ay (M + 1) cy) := Mvd.of_app hat (by exact Qz)
        have hyc : (Value.slice ay (M + 1) cy).ownBlock ≠ some c := (Mvd.of_app (n := wr.heap.size) hat (by exact Qz)).ne (by rw [← HMM.out]; exact HA1.out.na) zc
        have hye : Apart (Value.slice ay (M + 1) cy) (.slice ae bs.length ce) := (Mvd.of_app (n := wr.heap.size) hat (by exact Qz)).apart (by rw [← HMM.out]; exact HA1.out.ap) (owns_old HA1.out.ends)
        have e9 : World.ownsRow w9 lo 4 1 (.slice ae bs.length ce) bs.length (bs.map Value.bool) := World.ownsRow.kept (owns_fr HA1.out.ends (by exact Qf)) hgrow (Apart.ne (Apart.symm' (by rw [← HMM.out]; exact HA1.out.ap)))
        have t9 : Tch (AB c av) w w9 := (HT.out.fr (by exact Qf)).then (Tch.of_gr (B := AB c (.slice av2 M cv2)) hgrow (fun i e => .inr e)) (by
          rintro i hi (e | e)
          · exact .inl e
          · have hm := HM.out
            rw [HMM.out] at hm
            exact .inr (hm.old (i := i) e (Nat.lt_of_lt_of_le hi zw)))
        have o9 : IntsO w9 w.heap.size (.slice (some ⟨bz, oz, none⟩) (reachL s.labs.length p).length cz) (reachL s.labs.length p) := World.ownsRow.kept (owns_fr HO.out (by exact Qf)) hgrow (Apart.ne (fun g h1 h2 => by
          have h3 := (World.ownsRow.lt HO.out g h1).1
          have hm := HM.out
          rw [HMM.out] at hm
          have h4 := owns_old HA.out.arcs g (hm.old h2 (HZ.out g h1))
          omega))
        have hXX : (xs ++ (rowA s.labs q p).take (k + 1)) = (xs ++ (rowA s.labs q p).take k) ++ [arcE s.labs q m] := by rw [HSTEP.out, List.append_assoc]
        have HN : Hid (NfaSt (w9.setCell ⟨c, 1, none⟩ (.slice ay (M + 1) cy)) c lo n (.slice ay (M + 1) cy) (.slice ae bs.length ce) (xs ++ (rowA s.labs q p).take (k + 1)) bs) := Lib.hid (by
          refine ⟨hB9.set_to (by simp), ?_, owns_far e9 (p := ⟨c, 1, none⟩) HA1.out.ne _, hye, hyc, HA1.out.ne⟩
          have := owns_far hown (p := ⟨c, 1, none⟩) hyc (.slice ay (M + 1) cy)
          rw [hXX, List.length_append, HMM.out, List.flatMap_append]
          simpa [arcE_cells, HLL.out] using this)
        have HT9 := Lib.hid (t9.set (p := ⟨c, 1, none⟩) (.inl (.inl rfl)) (.slice ay (M + 1) cy))
        have HO9 := Lib.hid (owns_far o9 (p := ⟨c, 1, none⟩) (fun e => by have h3 := (World.ownsRow.lt HO.out c e).1; have h4 := HA.out.box.lt; omega) (.slice ay (M + 1) cy))
        have HM9 := Lib.hid (HM.out.trans (by rw [HMM.out]; exact m1) (Nat.le_refl _))
        go_wp2_with fail
        go_roundw
        case rel => exact ⟨k + 1, .slice ay (M + 1) cy, by omega, by go_num, HO9, HN, HT9, HM9, by simp; omega⟩
        case measure => (simp [intOf]; omega)
    · obtain rfl : k = (reachL s.labs.length p).length := by omega
      have hall : (rowA s.labs q p).take (reachL s.labs.length p).length = rowA s.labs q p := by rw [← rowA_len s.labs q p, List.take_length]
      go_wp2_with fail
      go_end0
      exact ⟨rfl, av', by rw [← hall]; exact HA1.out, HT.out, HM.out.mono zw⟩
end Go.Proofs.YtmdgdnkllclpcaaGreat

/- The automaton of a path, the program's: some arc leaves the beginning, no arc twice; the closure's frame. Conditions: bounds on what is held. -/
namespace Go.Proofs.YtmdgdnkllclpcaaGreat
open Go.RowKit
set_option linter.unusedVariables false
set_option linter.unusedSimpArgs false
/-! ### plain -/
theorem spRow_first (a b : SpD) : (spRow a b).first = orB a.first (ifB a.null b.first) := rfl
theorem spAlt_first (a b : SpD) : (spAlt a b).first = orB a.first b.first := rfl
theorem rowS_first {go : Nat → StD → StD × SpD} {ks : List Int} {s : StD} (h : ∀ t, ∃ j, (go (kAt ks 0) t).2.first j = true) : ∀ m, 0 < m → ∃ j, (rowS go ks s m).2.first j = true
  | 0, h0 => absurd h0 (by omega)
  | 1, _ => by
    obtain ⟨j, hj⟩ := h s
    exact ⟨j, by rw [rowS]; simp only []; rw [spRow_first]; exact orB_iff.2 (.inr (ifB_iff.2 ⟨rfl, hj⟩))⟩
  | m + 2, _ => by
    obtain ⟨j, hj⟩ := rowS_first (s := s) h (m + 1) (by omega)
    exact ⟨j, by rw [rowS]; simp only []; rw [spRow_first]; exact orB_iff.2 (.inl hj)⟩
theorem altS_first {go : Nat → StD → StD × SpD} {ks : List Int} {s : StD} (h : ∀ t, ∃ j, (go (kAt ks 0) t).2.first j = true) : ∀ m, 0 < m → ∃ j, (altS go ks s m).2.first j = true
  | 0, h0 => absurd h0 (by omega)
  | 1, _ => by
    obtain ⟨j, hj⟩ := h s
    exact ⟨j, by rw [altS]; simp only []; rw [spAlt_first]; exact orB_iff.2 (.inr hj)⟩
  | m + 2, _ => by
    obtain ⟨j, hj⟩ := altS_first (s := s) h (m + 1) (by omega)
    exact ⟨j, by rw [altS]; simp only []; rw [spAlt_first]; exact orB_iff.2 (.inl hj)⟩
theorem glu_first {ps : List PieceD} (hp : pathB ps = true) : ∀ f p, p < f → p < ps.length → ∀ s, ∃ j, (glu ps f p s).2.first j = true := by
  intro f
  induction f with
  | zero => intro p h; omega
  | succ f ih =>
    intro p hf hl s
    have hx := (pathB_out hp).2 p hl
    have hk : 0 < (nAt ps p).f2.length → ∀ t, ∃ j, (glu ps f (kAt (nAt ps p).f2 0) t).2.first j = true := fun h t => by
      have := kAt_lt hp hl h
      exact ih _ (by omega) (by omega) t
    have h2l : (nAt ps p).f0 = 2 ∨ (nAt ps p).f0 = 3 → 0 < (nAt ps p).f2.length := fun h => by
      unfold pieceB at hx
      rw [if_neg (by omega), if_pos h] at hx
      simp at hx
      omega
    rw [glu]
    simp only []
    by_cases h1 : (nAt ps p).f0 = 1
    · rw [if_pos h1]; exact ⟨s.labs.length, by simp [oneB]⟩
    · rw [if_neg h1]
      by_cases h2 : (nAt ps p).f0 = 2
      · rw [if_pos h2]; exact rowS_first (hk (h2l (.inl h2))) _ (h2l (.inl h2))
      · rw [if_neg h2]
        by_cases h3 : (nAt ps p).f0 = 3
        · rw [if_pos h3]; exact altS_first (hk (h2l (.inr h3))) _ (h2l (.inr h3))
        · rw [if_neg h3]
          obtain ⟨hl1, _⟩ := pieceB_one hx h1 h2 h3
          exact hk (by omega) s
theorem reachL_nodup (n : Nat) (p : Nat → Bool) : (reachL n p).Nodup := by
  unfold reachL
  refine List.Pairwise.map _ (fun a b h => ?_) ((List.nodup_range).filter _)
  intro e
  exact h (by omega)
theorem rowA_nodup (labs : List UInt8) (s : Nat) (p : Nat → Bool) : (rowA labs s p).Nodup := by
  unfold rowA
  refine (List.pairwise_map).2 ((reachL_nodup labs.length p).imp_of_mem fun {a b} ha hb h e => h ?_)
  obtain ⟨j, rfl, _⟩ := mem_reachL.1 ha
  obtain ⟨i, rfl, _⟩ := mem_reachL.1 hb
  have := congrArg EdgeR.f2 e
  simp only [arcE] at this
  omega
theorem arcL_nodup (labs : List UInt8) (P : Nat → Nat → Bool) : ∀ m, (arcL labs P m).Nodup
  | 0 => List.Pairwise.nil
  | m + 1 => by
    rw [arcL]
    refine List.nodup_append.2 ⟨arcL_nodup labs P m, rowA_nodup _ _ _, fun x hx y hy e => ?_⟩
    subst e
    obtain ⟨s, j, h1, _, _, rfl⟩ := mem_arcL.1 hx
    obtain ⟨i, _, _, e⟩ := mem_rowA.1 hy
    have := congrArg EdgeR.f0 e
    simp only [arcE] at this
    omega
theorem arcL_len (labs : List UInt8) (P : Nat → Nat → Bool) : ∀ m, (arcL labs P m).length ≤ m * labs.length
  | 0 => by simp [arcL]
  | m + 1 => by
    rw [arcL, List.length_append, rowA_len]
    have := arcL_len labs P m
    have := reachL_len labs.length (P m)
    rw [Nat.add_mul]
    omega
theorem arcL_one (labs : List UInt8) (P : Nat → Nat → Bool) : arcL labs P 1 = [] ++ rowA labs 0 (P 0) := rfl
/-- The arcs laid and sorted are those of the automaton. -/
theorem arcL_sorted {labs : List UInt8} {P : Nat → Nat → Bool} {ys : List EdgeR} (hs : Srt ys) (hm : ∀ x, x ∈ ys ↔ x ∈ arcL labs P (labs.length + 1)) : ys = arcC labs P :=
  srt_eq hs (srt_arcC _ _) fun x => by rw [hm x, mem_arcL, mem_arcC]
theorem owns_up {w : World} {lo lo' : Nat} {e : TypeId} {sz : Nat} {v : Value} {n : Nat} {xs : List Value} (h : w.ownsRow lo e sz v n xs) (hg : ∀ g, v.ownBlock = some g → lo' ≤ g) : w.ownsRow lo' e sz v n xs := by
  obtain ⟨h1, h2 | ⟨g, cap, cur, hv, hg', r⟩⟩ := h
  · exact ⟨h1, .inl h2⟩
  · exact ⟨h1, .inr ⟨g, cap, cur, hv, hg g (by rw [hv]; rfl), r⟩⟩
theorem arcs_any2 {wq w : World} (b c lo q : Nat) (n : Int) (pv lv fv av ev : Value) (s : StD) (p : Nat → Bool) (xs : List EdgeR) (bs : List Bool) (hlo : lo ≤ wq.heap.size) (hP : PosSt wq b lo pv lv fv s) (hF : Fr wq w) (hA : NfaSt w c wq.heap.size n av ev xs bs) (hc : wq.heap.size ≤ c) (hp : ∀ j, p j = true → j < s.labs.length) (hs : s.labs.length ≤ 24) (hx : xs.length ≤ 100000) (hq : q ≤ 1000) :
    Calls Tryz.prog 197 #[.int .i64 (q : Int), .int .u32 (bN p : Int), .pointer (some ⟨c, 0, none⟩), .pointer (some ⟨b, 0, none⟩)] w fun e w' => e = .returned (.tuple #[]) ∧ ∃ av', NfaSt w' c wq.heap.size n av' ev (xs ++ rowA s.labs q p) bs ∧ Fr wq w' := by
  have hA0 : NfaSt w c lo n av ev xs bs := ⟨hA.box, owns_lo hA.arcs hlo, owns_lo hA.ends hlo, hA.ap, hA.na, hA.ne⟩
  have hAB : ∀ i, AB c av i → wq.heap.size ≤ i := by
    rintro i (e | e)
    · omega
    · exact (World.ownsRow.lt hA.arcs i e).1
  have hPB : ∀ i, PB b lv fv i → i < wq.heap.size := by
    rintro i (e | e | e)
    · have := hP.box.lt; omega
    · exact owns_old hP.labs i e
    · exact owns_old hP.fol i e
  refine (arcs_any b c lo q n pv lv fv av ev s p xs bs w (hP.fr hF) hA0 (fun i h1 h2 => by have := hAB i h2; have := hPB i h1; omega) hp hs hx hq).mono ?_
  rintro e w' ⟨rfl, av', hN, hT, hM⟩
  refine ⟨rfl, av', ⟨hN.box, owns_up hN.arcs ?_, owns_up hN.ends (fun g e => (World.ownsRow.lt hA.ends g e).1), hN.ap, hN.na, hN.ne⟩, hT.old hF (fun i hi h => by have := hAB i h; omega)⟩
  intro g hg
  rcases hM with e | ⟨g', e, h⟩
  · rw [e] at hg; exact (World.ownsRow.lt hA.arcs g hg).1
  · rw [e] at hg
    cases hg
    have := hF.size
    omega
end Go.Proofs.YtmdgdnkllclpcaaGreat

/- Contracts of the shelf laid at this seat (printed by mk_shg.py). No condition but those named. -/
namespace Go.Proofs.YtmdgdnkllclpcaaGreat
open Go.RowKit Go.Shelf
set_option linter.unusedVariables false
set_option linter.unusedSimpArgs false
def sh_sortArc_ren : Go.Shelf.Ren := ⟨fun | 6 => 198 | 15 => 135 | 14 => 215 | 28 => 177 | 29 => 178 | 20 => 218 | 21 => 219 | 22 => 220 | 23 => 221 | 24 => 222 | 25 => 223 | 26 => 224 | 27 => 225 | 46 => 226 | 47 => 201 | 48 => 202 | 49 => 227 | 50 => 228 | 57 => 229 | n => n, fun | 22 => 100 | 24 => 186 | 25 => 257 | 3 => 3 | 39 => 179 | 0 => 0 | 53 => 192 | 55 => 232 | 4 => 4 | 46 => 225 | 45 => 224 | 50 => 202 | 5 => 5 | 9 => 9 | 66 => 258 | 70 => 262 | 76 => 273 | 77 => 274 | n => n, fun | n => n⟩
theorem sh_sortArc : Go.Proofs.SlLaysF0.n6 Tryz.prog sh_sortArc_ren := {
  mixed := by kernel_rfl
  f6 := ⟨Tryz.f198.name, by decide, Tryz.func198.trans (congrArg some (by kernel_rfl))⟩
  f14 := ⟨Tryz.f215.name, by decide, Tryz.func215.trans (congrArg some (by kernel_rfl))⟩
  f15 := Tryz.func135.trans (congrArg some (by kernel_rfl))
  f20 := ⟨Tryz.f218.name, by decide, Tryz.func218.trans (congrArg some (by kernel_rfl))⟩
  f21 := ⟨Tryz.f219.name, by decide, Tryz.func219.trans (congrArg some (by kernel_rfl))⟩
  f22 := ⟨Tryz.f220.name, by decide, Tryz.func220.trans (congrArg some (by kernel_rfl))⟩
  f23 := ⟨Tryz.f221.name, by decide, Tryz.func221.trans (congrArg some (by kernel_rfl))⟩
  f24 := ⟨Tryz.f222.name, by decide, Tryz.func222.trans (congrArg some (by kernel_rfl))⟩
  f25 := ⟨Tryz.f223.name, by decide, Tryz.func223.trans (congrArg some (by kernel_rfl))⟩
  f26 := ⟨Tryz.f224.name, by decide, Tryz.func224.trans (congrArg some (by kernel_rfl))⟩
  f27 := ⟨Tryz.f225.name, by decide, Tryz.func225.trans (congrArg some (by kernel_rfl))⟩
  f28 := Tryz.func177.trans (congrArg some (by kernel_rfl))
  f29 := Tryz.func178.trans (congrArg some (by kernel_rfl))
  f46 := ⟨Tryz.f226.name, by decide, Tryz.func226.trans (congrArg some (by kernel_rfl))⟩
  f47 := Tryz.func201.trans (congrArg some (by kernel_rfl))
  f48 := Tryz.func202.trans (congrArg some (by kernel_rfl))
  f49 := ⟨Tryz.f227.name, by decide, Tryz.func227.trans (congrArg some (by kernel_rfl))⟩
  f50 := ⟨Tryz.f228.name, by decide, Tryz.func228.trans (congrArg some (by kernel_rfl))⟩
  f57 := ⟨Tryz.f229.name, by decide, Tryz.func229.trans (congrArg some (by kernel_rfl))⟩
  t0 := Tryz.underlying0
  a0 := Tryz.isAgg0
  z0 := Tryz.sizeOf0
  v0 := Tryz.zeroValue0
  t3 := Tryz.underlying3
  a3 := Tryz.isAgg3
  z3 := Tryz.sizeOf3
  v3 := Tryz.zeroValue3
  t4 := Tryz.underlying4
  a4 := Tryz.isAgg4
  z4 := Tryz.sizeOf4
  v4 := Tryz.zeroValue4
  t5 := Tryz.underlying5
  a5 := Tryz.isAgg5
  z5 := Tryz.sizeOf5
  v5 := Tryz.zeroValue5
  t9 := Tryz.underlying9
  a9 := Tryz.isAgg9
  z9 := Tryz.sizeOf9
  v9 := Tryz.zeroValue9
  t22 := Tryz.underlying100
  a22 := Tryz.isAgg100
  z22 := Tryz.sizeOf100
  v22 := Tryz.zeroValue100
  t25 := Tryz.underlying257
  a25 := Tryz.isAgg257
  z25 := Tryz.sizeOf257
  v25 := Tryz.zeroValue257
  t39 := Tryz.underlying179
  a39 := Tryz.isAgg179
  z39 := Tryz.sizeOf179
  v39 := Tryz.zeroValue179
  t45 := Tryz.underlying224
  a45 := Tryz.isAgg224
  z45 := Tryz.sizeOf224
  v45 := Tryz.zeroValue224
  t46 := Tryz.underlying225
  a46 := Tryz.isAgg225
  z46 := Tryz.sizeOf225
  v46 := Tryz.zeroValue225
  t50 := Tryz.underlying202
  a50 := Tryz.isAgg202
  z50 := Tryz.sizeOf202
  v50 := Tryz.zeroValue202
  t53 := Tryz.underlying192
  a53 := Tryz.isAgg192
  z53 := Tryz.sizeOf192
  v53 := Tryz.zeroValue192
  t55 := Tryz.underlying232
  a55 := Tryz.isAgg232
  z55 := Tryz.sizeOf232
  v55 := Tryz.zeroValue232
  t66 := Tryz.underlying258
  a66 := Tryz.isAgg258
  z66 := Tryz.sizeOf258
  v66 := Tryz.zeroValue258
  t70 := Tryz.underlying262
  a70 := Tryz.isAgg262
  z70 := Tryz.sizeOf262
  v70 := Tryz.zeroValue262
  t76 := Tryz.underlying273
  a76 := Tryz.isAgg273
  z76 := Tryz.sizeOf273
  v76 := Tryz.zeroValue273
  t77 := Tryz.underlying274
  a77 := Tryz.isAgg274
  z77 := Tryz.sizeOf274
  v77 := Tryz.zeroValue274 }
end Go.Proofs.YtmdgdnkllclpcaaGreat

/- The automaton of a path, the reference's: join. Conditions: bounds on what is held. -/
namespace Go.Proofs.YtmdgdnkllclpcaaGreat
open Go.RowKit
set_option linter.unusedVariables false
set_option linter.unusedSimpArgs false
structure MakSt (w : World) (b lo : Nat) (pv lv av : Value) (bad : Bool) (labs : List UInt8) (xs : List EdgeR) : Prop where
  box : Box w b #[pv, lv, av, .bool bad] 217
  labs : BytesO w lo lv labs
  arcs : w.ownsRow lo 186 3 av xs.length (xs.flatMap EdgeR.cells)
  ap : Apart lv av
  nl : lv.ownBlock ≠ some b
  na : av.ownBlock ≠ some b
theorem MakSt.fr {w w' : World} {b lo : Nat} {pv lv av : Value} {bad : Bool} {labs : List UInt8} {xs : List EdgeR} (h : MakSt w b lo pv lv av bad labs xs) (hf : Fr w w') : MakSt w' b lo pv lv av bad labs xs :=
  ⟨h.box.fr hf, owns_fr h.labs hf, owns_fr h.arcs hf, h.ap, h.nl, h.na⟩
/-- Nothing that stood has turned but cell 2 of block b. -/
structure Jq (b : Nat) (w w' : World) : Prop where
  tch : Tch (· = b) w w'
  c1 : w'.cell? ⟨b, 1, none⟩ = w.cell? ⟨b, 1, none⟩
theorem Jq.of_fr {b : Nat} {w w' : World} (hb : b < w.heap.size) (h : Fr w w') : Jq b w w' := ⟨Tch.of_fr h, h.cell (p := ⟨b, 1, none⟩) hb⟩
theorem Jq.store {b : Nat} {w w' : World} (hb : b < w.heap.size) (v : Value) (h : Fr w w') : Jq b w (w'.setCell ⟨b, 2, none⟩ v) :=
  ⟨Tch.set (B := fun i => i = b) (Tch.of_fr h) (p := ⟨b, 2, none⟩) (.inl rfl) v, (World.cell?_setCell_other _ ⟨b, 2, none⟩ ⟨b, 1, none⟩ v (by simp)).trans (h.cell (p := ⟨b, 1, none⟩) hb)⟩
theorem Jq.cell {b : Nat} {w w' : World} (h : Jq b w w') {g o : Nat} {v : Value} (hg : g < w.heap.size) (hb : g ≠ b) (hc : w.cell? ⟨g, o, none⟩ = some v) : w'.cell? ⟨g, o, none⟩ = some v := (World.cell?_of_block (h.tch.block g hg hb)).trans hc
def rowJ (labs : List UInt8) (ts : List Int) (f : Int) : List EdgeR := ts.map fun t => ⟨f, nAt labs (t - 1).toNat, t⟩
def joinP (labs : List UInt8) (fs ts : List Int) (i k : Nat) : List EdgeR := (fs.take i).flatMap (rowJ labs ts) ++ (rowJ labs ts (iAt fs i)).take k
def joinL (labs : List UInt8) (fs ts : List Int) : List EdgeR := fs.flatMap (rowJ labs ts)
theorem joinP_step {labs : List UInt8} {fs ts : List Int} {i k : Nat} (hk : k < ts.length) : joinP labs fs ts i (k + 1) = joinP labs fs ts i k ++ [⟨iAt fs i, nAt labs (iAt ts k - 1).toNat, iAt ts k⟩] := by
  unfold joinP
  rw [List.take_succ_eq_append_getElem (by simpa [rowJ] using hk), ← List.append_assoc]
  simp [rowJ, iAt, List.getD, List.getElem?_eq_getElem hk]
theorem joinP_next {labs : List UInt8} {fs ts : List Int} {i : Nat} (hi : i < fs.length) : joinP labs fs ts i ts.length = joinP labs fs ts (i + 1) 0 := by
  unfold joinP
  have e : iAt fs i = fs[i] := by simp [iAt, List.getD, List.getElem?_eq_getElem hi]
  have e2 : List.take ts.length (rowJ labs ts fs[i]) = rowJ labs ts fs[i] := List.take_of_length_le (by simp [rowJ])
  rw [e, e2, List.take_succ_eq_append_getElem hi, List.flatMap_append]
  simp
theorem joinP_all (labs : List UInt8) (fs ts : List Int) : joinP labs fs ts fs.length 0 = joinL labs fs ts := by unfold joinP joinL; simp
theorem joinP_mem {labs : List UInt8} {fs ts : List Int} {i k : Nat} (hi : i ≤ fs.length) {x : EdgeR} (h : x ∈ joinP labs fs ts i k) (hk : i = fs.length → k = 0) : x.f0 ∈ fs ∧ x.f2 ∈ ts := by
  unfold joinP at h
  rw [List.mem_append] at h
  rcases h with h | h
  · rw [List.mem_flatMap] at h
    obtain ⟨f, hf, hx⟩ := h
    obtain ⟨t, ht, rfl⟩ := List.mem_map.1 hx
    exact ⟨List.mem_of_mem_take hf, ht⟩
  · rcases Nat.lt_or_ge i fs.length with hlt | hge
    · have := List.mem_of_mem_take h
      obtain ⟨t, ht, rfl⟩ := List.mem_map.1 this
      refine ⟨?_, ht⟩
      simp only [iAt, List.getD, List.getElem?_eq_getElem hlt, Option.getD_some]
      exact List.getElem_mem hlt
    · rw [hk (by omega)] at h
      simp at h
theorem putsE_snoc (xs fs : List EdgeR) (f : EdgeR) : putsE xs (fs ++ [f]) = putE (putsE xs fs) f := by unfold putsE; rw [List.foldl_append]; rfl
def Bnd (x : EdgeR) : Prop := 0 ≤ x.f0 ∧ x.f0 < 32 ∧ 0 ≤ x.f2 ∧ x.f2 < 32
theorem puts_len {labs : List UInt8} {fs ts : List Int} {xs : List EdgeR} (hs : Srt xs) (hb : ∀ x ∈ xs, Bnd x) (hf : ∀ f ∈ fs, 0 ≤ f ∧ f < 32) (ht : ∀ t ∈ ts, 0 ≤ t ∧ t < 32) {i k : Nat} (hi : i ≤ fs.length) (hk : i = fs.length → k = 0) : (putsE xs (joinP labs fs ts i k)).length ≤ 262144 :=
  srt_len (srt_putsE hs) fun x hx => by
    rcases mem_putsE.1 hx with h | h
    · exact hb x h
    · obtain ⟨h1, h2⟩ := joinP_mem hi h hk
      have := hf _ h1
      have := ht _ h2
      omega
theorem iAt_mem {l : List Int} {k : Nat} (h : k < l.length) : iAt l k ∈ l := by
  simp only [iAt, List.getD, List.getElem?_eq_getElem h, Option.getD_some]
  exact List.getElem_mem h
set_option maxHeartbeats 8000000 in
set_option maxRecDepth 100000 in
theorem join_arcs_any (b lo : Nat) (pv lv av vf vt : Value) (bad : Bool) (labs : List UInt8) (xs : List EdgeR) (fs ts : List Int) (w : World) (hM : MakSt w b lo pv lv av bad labs xs) (hF : IntsO w lo vf fs) (hT : IntsO w lo vt ts) (hfb : vf.ownBlock ≠ some b) (htb : vt.ownBlock ≠ some b) (hlw : lo ≤ w.heap.size)
    (hs : Srt xs) (hb : ∀ x ∈ xs, Bnd x) (hf : ∀ f ∈ fs, 0 ≤ f ∧ f < 32) (ht : ∀ t ∈ ts, 1 ≤ t ∧ t ≤ (labs.length : Int)) (hl : labs.length ≤ 24) :
    Calls Tryz.prog 163 #[.pointer (some ⟨b, 0, none⟩), vf, vt] w fun e w' => e = .returned (.tuple #[]) ∧ ∃ av', MakSt w' b lo pv lv av' bad labs (putsE xs (joinL labs fs ts)) ∧ Tch (· = b) w w' ∧ Mvd w.heap.size av av' := by
  have ht' : ∀ t ∈ ts, 0 ≤ t ∧ t < 32 := fun t h => by have := ht t h; omega
  have HPL := Lib.hid (fun i k (hi : i ≤ fs.length) (hk : i = fs.length → k = 0) => puts_len (labs := labs) hs hb hf ht' hi hk)
  have HTS := Lib.hid ht
  obtain ⟨afo, cf, rfl⟩ : ∃ a c, vf = .slice a fs.length c := owns_val hF
  obtain ⟨ato, ct, rfl⟩ : ∃ a c, vt = .slice a ts.length c := owns_val hT
  have hfl := (IntsO.rd hF).le
  have htl := (IntsO.rd hT).le
  have HFB := Lib.hid hfb; have HTB := Lib.hid htb
  have HM := Lib.hid hM
  have HF := Lib.hid hF
  have HT := Lib.hid hT
  clear hM hF hT hs hb hf ht ht' hfb htb
  go_enter Tryz.func163, Tryz.ntmps163
  go_wp2_with fail
  go_loopw [6] (fun i wr => ∃ (i' : Nat) (av' : Value), i' ≤ fs.length ∧ i = .int .i64 i' ∧ Hid (MakSt wr b lo pv lv av' bad labs (putsE xs (joinP labs fs ts i' 0))) ∧ Hid (Tch (· = b) w wr) ∧ Hid (Mvd w.heap.size av av')) (fun i _ => fs.length - (intOf i).toNat)
  case atStart => exact ⟨0, av, Nat.zero_le _, rfl, Lib.hid (by simpa [joinP, putsE] using HM.out), Lib.hid (Tch.refl _ _), Lib.hid (.inl rfl)⟩
  case round =>
    obtain ⟨i, av', hi, rfl, HA, HC, HV⟩ := hrel
    by_cases hlt : i < fs.length
    · go_wp2_with fail
      go_loopw [7] (fun j wr => ∃ (k : Nat) (av' : Value), k ≤ ts.length ∧ j = .int .i64 k ∧ Hid (MakSt wr b lo pv lv av' bad labs (putsE xs (joinP labs fs ts i k))) ∧ Hid (Tch (· = b) w wr) ∧ Hid (Mvd w.heap.size av av')) (fun j _ => ts.length - (intOf j).toNat)
      case atStart => exact ⟨0, av', Nat.zero_le _, rfl, HA, HC, HV⟩
      case round =>
        clear HA HC HV
        obtain ⟨k, av2, hk, rfl, HA, HC, HV⟩ := hrel
        by_cases hkt : k < ts.length
        · have hpl := HPL.out i k (by omega) (fun e => by omega)
          have HST := Lib.hid (joinP_step (labs := labs) (fs := fs) (i := i) hkt)
          obtain ⟨Y, hY⟩ : ∃ Y, putsE xs (joinP labs fs ts i k) = Y := ⟨_, rfl⟩
          rw [hY] at hpl HA
          have HY := Lib.hid hY
          clear hY
          obtain ⟨ht1, ht2⟩ := HTS.out _ (iAt_mem hkt)
          obtain ⟨tm, htm⟩ : ∃ tm : Nat, iAt ts k = (tm : Int) + 1 := ⟨(iAt ts k - 1).toNat, by omega⟩
          have htl2 : tm < labs.length := by omega
          obtain ⟨a1, b1, o1, c1, hv, _, _, f1⟩ := (IntsO.rd (HC.out.owns HF.out (fun g e h => HFB.out (by rw [e, h])))).one
          cases hv
          obtain ⟨rfl, hb1, f1⟩ := f1 (by omega)
          obtain ⟨a2, b2, o2, c2, hv, _, _, f2⟩ := (IntsO.rd (HC.out.owns HT.out (fun g e h => HTB.out (by rw [e, h])))).one
          cases hv
          obtain ⟨rfl, hb2, f2⟩ := f2 (by omega)
          obtain ⟨bl, cl, rfl, hbl0, hbl, hcl⟩ := BytesO.one HA.out.labs (by omega)
          obtain ⟨ay, cy, rfl⟩ : ∃ a c, av2 = .slice a Y.length c := owns_val HA.out.arcs
          have e1 := f1 i hlt
          have e2 := f2 k hkt
          have e3 := hcl tm htl2
          rw [htm] at e2
          obtain ⟨F, hF⟩ : ∃ F, iAt fs i = F := ⟨_, rfl⟩
          rw [hF] at e1
          have hLb := (nAt labs tm).toNat_lt
          have hw1 : IntKind.i64.wrap ((tm : Int) + 1 - 1) = (tm : Int) := by rw [show (tm : Int) + 1 - 1 = tm by omega]; exact IntWalk.i64_in _ (by omega)
          have hw2 : IntKind.i64.wrap (tm : Int) = (tm : Int) := IntWalk.i64_in _ (by omega)
          have zb : b < wr.heap.size := HA.out.box.lt
          have FB := HA.out.box.facts
          have CT : Hid (∀ w', Fr wr w' → Calls Tryz.prog 192 #[.slice ay Y.length cy, .agg #[.int .i64 F, .int .u8 ((nAt labs tm).toNat : Int), .int .i64 ((tm : Int) + 1)]] w' fun e w'' => ∃ ao cap, e = .returned (.slice ao (putE Y ⟨F, nAt labs tm, (tm : Int) + 1⟩).length cap) ∧ ArcsW w'' w'.heap.size w''.heap.size (.slice ao (putE Y ⟨F, nAt labs tm, (tm : Int) + 1⟩).length cap) (putE Y ⟨F, nAt labs tm, (tm : Int) + 1⟩) ∧ Fr w' w'') := Lib.hid fun w' hq => l07Put_any _ Y ⟨F, nAt labs tm, (tm : Int) + 1⟩ w' (RdS.of_owns (owns_fr HA.out.arcs hq)) (by omega)
          have HE : Hid (putE Y ⟨F, nAt labs tm, (tm : Int) + 1⟩ = putsE xs (joinP labs fs ts i (k + 1))) := Lib.hid (by rw [HST.out, putsE_snoc, HY.out, htm, hF, show ((tm : Int) + 1 - 1).toNat = tm by omega])
          obtain ⟨Z, hZ⟩ : ∃ Z, putE Y ⟨F, nAt labs tm, (tm : Int) + 1⟩ = Z := ⟨_, rfl⟩
          rw [hZ] at CT HE
          have hH := Lib.hid hF; have hHZ := Lib.hid hZ
          clear hF hZ f1 f2 hcl htm
          have hnb1 : b1 ≠ b := fun e => HFB.out (by show some b1 = some b; rw [e])
          have hnb2 : b2 ≠ b := fun e => HTB.out (by show some b2 = some b; rw [e])
          have hnbl : bl ≠ b := fun e => HA.out.nl (by show some bl = some b; rw [e])
          have P1 : ∀ w', Jq b wr w' → w'.cell? _ = _ := fun w' h => h.cell hb1 hnb1 e1
          have P2 : ∀ w', Jq b wr w' → w'.cell? _ = _ := fun w' h => h.cell hb2 hnb2 e2
          have P3 : ∀ w', Jq b wr w' → w'.cell? _ = _ := fun w' h => h.cell hbl hnbl e3
          have P4 : ∀ w', Jq b wr w' → w'.cell? ⟨b, 1, none⟩ = some (.slice (some ⟨bl, 0, none⟩) labs.length cl) := fun w' h => h.c1.trans (HA.out.box.cell 1)
          clear hnb1 hnb2 hnbl
          go_wp2_with fail
          refine wp_region_held_drew (S := fun w' => Jq b wr w') (by kernel_rfl) (by refine Jq.of_fr zb ?_; repeat (first | (with_reducible exact Fr.refl _) | (with_reducible assumption) | (with_reducible refine Fr.drewN ?_ _) | (with_reducible refine Fr.drew ?_) | (with_reducible refine Fr.alloc ?_ _) | (with_reducible refine Fr.setCell ?_ (by exact Qz) _) | (with_reducible refine Fr.trans ?_ (by with_reducible assumption)))) (fun hHeld => ?_)
          refine wpAnyH_take (i := 0) (v := ?_) rfl (by kernel_rfl) (by kernel_rfl) (by kernel_rfl) (fun _ _ _ h => h) (Or.inl ⟨by rfl, ?_⟩) (by assumption) ?_
          rotate_left
          · intro w hSw; (try dsimp only at hSw); go_simp
            all_goals (try with_reducible rfl)
          (try simp only [Act.put, List.setIfInBounds_toArray, List.set_cons_zero, List.set_cons_succ])
          refine wpAnyH_take (i := 1) (v := ?_) rfl (by kernel_rfl) (by kernel_rfl) (by kernel_rfl) (fun _ _ _ h => h) (Or.inl ⟨by rfl, ?_⟩) (by assumption) ?_
          rotate_left
          · intro w hSw; (try dsimp only at hSw); go_simp
            all_goals (try with_reducible rfl)
          (try simp only [Act.put, List.setIfInBounds_toArray, List.set_cons_zero, List.set_cons_succ])
          refine wpAnyH_take (i := 2) (v := ?_) rfl (by kernel_rfl) (by kernel_rfl) (by kernel_rfl) (fun _ _ _ h => h) (Or.inl ⟨by rfl, ?_⟩) (by assumption) ?_
          rotate_left
          · intro w hSw; (try dsimp only at hSw); go_simp
            all_goals (try with_reducible rfl)
          (try simp only [Act.put, List.setIfInBounds_toArray, List.set_cons_zero, List.set_cons_succ])
          refine wpAnyH_take (i := 3) (v := ?_) rfl (by kernel_rfl) (by kernel_rfl) (by kernel_rfl) (fun _ _ _ h => h) (Or.inl ⟨by rfl, ?_⟩) (by assumption) ?_
          rotate_left
          · intro w hSw; (try dsimp only at hSw); go_simp
            all_goals (try with_reducible rfl)
          (try simp only [Act.put, List.setIfInBounds_toArray, List.set_cons_zero, List.set_cons_succ])
          refine wpAnyH_take (i := 5) (v := ?_) rfl (by kernel_rfl) (by kernel_rfl) (by kernel_rfl) (fun _ _ _ h => h) (Or.inl ⟨by rfl, ?_⟩) (by assumption) ?_
          rotate_left
          · intro w hSw; (try dsimp only at hSw); go_simp
            all_goals (try with_reducible rfl)
          (try simp only [Act.put, List.setIfInBounds_toArray, List.set_cons_zero, List.set_cons_succ])
          refine wpAnyH_take (i := 6) (v := ?_) rfl (by kernel_rfl) (by kernel_rfl) (by kernel_rfl) (fun _ _ _ h => h) (Or.inl ⟨by rfl, ?_⟩) (by assumption) ?_
          rotate_left
          · intro w hSw; (try dsimp only at hSw); go_simp
            all_goals (try with_reducible rfl)
          (try simp only [Act.put, List.setIfInBounds_toArray, List.set_cons_zero, List.set_cons_succ])
          refine wpAnyH_take (i := 7) (v := ?_) rfl (by kernel_rfl) (by kernel_rfl) (by kernel_rfl) (fun _ _ _ h => h) (Or.inl ⟨by rfl, ?_⟩) (by assumption) ?_
          rotate_left
          · intro w hSw; (try dsimp only at hSw); go_simp
            all_goals (try with_reducible rfl)
          (try simp only [Act.put, List.setIfInBounds_toArray, List.set_cons_zero, List.set_cons_succ])
          refine wpAnyH_take (i := 8) (v := ?_) rfl (by kernel_rfl) (by kernel_rfl) (by kernel_rfl) (fun _ _ _ h => h) (Or.inl ⟨by rfl, ?_⟩) (by assumption) ?_
          rotate_left
          · intro w hSw; (try dsimp only at hSw); go_simp
            all_goals (try with_reducible rfl)
          (try simp only [Act.put, List.setIfInBounds_toArray, List.set_cons_zero, List.set_cons_succ])
          refine wpAnyH_take (i := 9) (v := ?_) rfl (by kernel_rfl) (by kernel_rfl) (by kernel_rfl) (fun _ _ _ h => h) (Or.inl ⟨by rfl, ?_⟩) (by assumption) ?_
          rotate_left
          · intro w hSw; (try dsimp only at hSw); go_simp
            all_goals (try with_reducible rfl)
          (try simp only [Act.put, List.setIfInBounds_toArray, List.set_cons_zero, List.set_cons_succ])
          refine wpAnyH_take (i := 10) (v := ?_) rfl (by kernel_rfl) (by kernel_rfl) (by kernel_rfl) (fun _ _ _ h => h) (Or.inl ⟨by rfl, ?_⟩) (by assumption) ?_
          rotate_left
          · intro w hSw; (try dsimp only at hSw); go_simp
            all_goals (try with_reducible rfl)
          (try simp only [Act.put, List.setIfInBounds_toArray, List.set_cons_zero, List.set_cons_succ])
          refine wpAnyH_take (i := 11) (v := ?_) rfl (by kernel_rfl) (by kernel_rfl) (by kernel_rfl) (fun _ _ _ h => h) (Or.inl ⟨by rfl, ?_⟩) (by assumption) ?_
          rotate_left
          · intro w hSw; (try dsimp only at hSw); go_simp
            all_goals (try with_reducible rfl)
          (try simp only [Act.put, List.setIfInBounds_toArray, List.set_cons_zero, List.set_cons_succ])
          refine wpAnyH_take (i := 12) (v := ?_) rfl (by kernel_rfl) (by kernel_rfl) (by kernel_rfl) (fun _ _ _ h => h) (Or.inl ⟨by rfl, ?_⟩) (by assumption) ?_
          rotate_left
          · intro w hSw; (try dsimp only at hSw); go_simp
            all_goals (try with_reducible rfl)
          (try simp only [Act.put, List.setIfInBounds_toArray, List.set_cons_zero, List.set_cons_succ])
          refine wpAnyH_take (i := 13) (v := ?_) rfl (by kernel_rfl) (by kernel_rfl) (by kernel_rfl) (fun _ _ _ h => h) (Or.inl ⟨by rfl, ?_⟩) (by assumption) ?_
          rotate_left
          · intro w hSw; (try dsimp only at hSw); go_simp
            all_goals (try with_reducible rfl)
          (try simp only [Act.put, List.setIfInBounds_toArray, List.set_cons_zero, List.set_cons_succ])
          refine wpAnyH_take (i := 14) (v := ?_) rfl (by kernel_rfl) (by kernel_rfl) (by kernel_rfl) (fun _ _ _ h => h) (Or.inl ⟨by rfl, ?_⟩) (by assumption) ?_
          rotate_left
          · intro w hSw; (try dsimp only at hSw); go_simp
            all_goals (try with_reducible rfl)
          (try simp only [Act.put, List.setIfInBounds_toArray, List.set_cons_zero, List.set_cons_succ])
          refine wpAnyH_take (i := 15) (v := ?_) rfl (by kernel_rfl) (by kernel_rfl) (by kernel_rfl) (fun _ _ _ h => h) (Or.inl ⟨by rfl, ?_⟩) (by assumption) ?_
          rotate_left
          · intro w hSw; (try dsimp only at hSw); go_simp
            all_goals (try with_reducible rfl)
          (try simp only [Act.put, List.setIfInBounds_toArray, List.set_cons_zero, List.set_cons_succ])
          refine wpAnyH_take (i := 16) (v := ?_) rfl (by kernel_rfl) (by kernel_rfl) (by kernel_rfl) (fun _ _ _ h => h) (Or.inl ⟨by rfl, ?_⟩) (by assumption) ?_
          rotate_left
          · intro w hSw; (try dsimp only at hSw); go_simp
            all_goals (try with_reducible rfl)
          (try simp only [Act.put, List.setIfInBounds_toArray, List.set_cons_zero, List.set_cons_succ])
          refine wpAnyH_take (i := 17) (v := ?_) rfl (by kernel_rfl) (by kernel_rfl) (by kernel_rfl) (fun _ _ _ h => h) (Or.inl ⟨by rfl, ?_⟩) (by assumption) ?_
          rotate_left
          · intro w hSw; (try dsimp only at hSw); go_simp
            all_goals (try with_reducible rfl)
          (try simp only [Act.put, List.setIfInBounds_toArray, List.set_cons_zero, List.set_cons_succ])
          refine wpAnyH_take (i := 18) (v := ?_) rfl (by kernel_rfl) (by kernel_rfl) (by kernel_rfl) (fun _ _ _ h => h) (Or.inl ⟨by rfl, ?_⟩) (by assumption) ?_
          rotate_left
          · intro w hSw; (try dsimp only at hSw); go_simp
            all_goals (try with_reducible rfl)
          (try simp only [Act.put, List.setIfInBounds_toArray, List.set_cons_zero, List.set_cons_succ])
          refine wpAnyH_take (i := 19) (v := ?_) rfl (by kernel_rfl) (by kernel_rfl) (by kernel_rfl) (fun _ _ _ h => h) (Or.inl ⟨by rfl, ?_⟩) (by assumption) ?_
          rotate_left
          · intro w hSw; (try dsimp only at hSw); go_simp
            all_goals (try with_reducible rfl)
          (try simp only [Act.put, List.setIfInBounds_toArray, List.set_cons_zero, List.set_cons_succ])
          refine wpAnyH_take (i := 20) (v := ?_) rfl (by kernel_rfl) (by kernel_rfl) (by kernel_rfl) (fun _ _ _ h => h) (Or.inl ⟨by rfl, ?_⟩) (by assumption) ?_
          rotate_left
          · intro w hSw; (try dsimp only at hSw); go_simp
            all_goals (try with_reducible rfl)
          (try simp only [Act.put, List.setIfInBounds_toArray, List.set_cons_zero, List.set_cons_succ])
          refine wpAnyH_take (i := 21) (v := ?_) rfl (by kernel_rfl) (by kernel_rfl) (by kernel_rfl) (fun _ _ _ h => h) (Or.inl ⟨by rfl, ?_⟩) (by assumption) ?_
          rotate_left
          · intro w hSw; (try dsimp only at hSw); go_simp
            all_goals (try with_reducible rfl)
          (try simp only [Act.put, List.setIfInBounds_toArray, List.set_cons_zero, List.set_cons_succ])
          refine wpAnyH_take (i := 22) (v := ?_) rfl (by kernel_rfl) (by kernel_rfl) (by kernel_rfl) (fun _ _ _ h => h) (Or.inl ⟨by rfl, ?_⟩) (by assumption) ?_
          rotate_left
          · intro w hSw; (try dsimp only at hSw); go_simp
            all_goals (try with_reducible rfl)
          (try simp only [Act.put, List.setIfInBounds_toArray, List.set_cons_zero, List.set_cons_succ])
          refine wpAnyH_take (i := 23) (v := ?_) rfl (by kernel_rfl) (by kernel_rfl) (by kernel_rfl) (fun _ _ _ h => h) (Or.inl ⟨by rfl, ?_⟩) (by assumption) ?_
          rotate_left
          · intro w hSw; (try dsimp only at hSw); go_simp
            all_goals (try with_reducible rfl)
          (try simp only [Act.put, List.setIfInBounds_toArray, List.set_cons_zero, List.set_cons_succ])
          refine wpAnyH_take (i := 24) (v := ?_) rfl (by kernel_rfl) (by kernel_rfl) (by kernel_rfl) (fun _ _ _ h => h) (Or.inl ⟨by rfl, ?_⟩) (by assumption) ?_
          rotate_left
          · intro w hSw; (try dsimp only at hSw); go_simp
            all_goals (try with_reducible rfl)
          (try simp only [Act.put, List.setIfInBounds_toArray, List.set_cons_zero, List.set_cons_succ])
          refine wpAnyH_ready (rs := [4]) (by kernel_rfl) (by simp) ?_
          refine AllReadyH.cons rfl (fun K hK => ?_) AllReadyH.nil
          go_simp
          refine hK.out _ _ (by first | (focus ((refine Jq.of_fr zb ?_; repeat (first | (with_reducible exact Fr.refl _) | (with_reducible assumption) | (with_reducible refine Fr.drewN ?_ _) | (with_reducible refine Fr.drew ?_) | (with_reducible refine Fr.alloc ?_ _) | (with_reducible refine Fr.setCell ?_ (by exact Qz) _) | (with_reducible refine Fr.trans ?_ (by with_reducible assumption)))); done)) | (focus ((refine Jq.store zb _ ?_; repeat (first | (with_reducible exact Fr.refl _) | (with_reducible assumption) | (with_reducible refine Fr.drewN ?_ _) | (with_reducible refine Fr.drew ?_) | (with_reducible refine Fr.alloc ?_ _) | (with_reducible refine Fr.setCell ?_ (by exact Qz) _) | (with_reducible refine Fr.trans ?_ (by with_reducible assumption)))); done))) (fun hHeld2 => ?_)
          clear hK K hHeld; have hHeld := hHeld2; clear hHeld2
          (try simp only [Act.put, List.setIfInBounds_toArray, List.set_cons_zero, List.set_cons_succ])
          refine wpAnyH_ready (rs := [25]) (by kernel_rfl) (by simp) ?_
          refine AllReadyH.cons rfl (fun K hK => ?_) AllReadyH.nil
          go_simp
          go_at_call 192
          refine (CT.out _ (by exact Qf)).mono ?_
          rintro e w9 ⟨a9, c9, rfl, ho9, hf9⟩
          have hB9 : Box w9 b _ _ := Box.fr HA.out.box (by exact Qf)
          have F9 := hB9.facts
          have z9 := hf9.size
          (try simp only [World.size_alloc, World.size_drew, World.heap_drewN] at z9)
          go_wp2_with fail
          refine hK.out _ _ (by first | (focus ((refine Jq.of_fr zb ?_; repeat (first | (with_reducible exact Fr.refl _) | (with_reducible assumption) | (with_reducible refine Fr.drewN ?_ _) | (with_reducible refine Fr.drew ?_) | (with_reducible refine Fr.alloc ?_ _) | (with_reducible refine Fr.setCell ?_ (by exact Qz) _) | (with_reducible refine Fr.trans ?_ (by with_reducible assumption)))); done)) | (focus ((refine Jq.store zb _ ?_; repeat (first | (with_reducible exact Fr.refl _) | (with_reducible assumption) | (with_reducible refine Fr.drewN ?_ _) | (with_reducible refine Fr.drew ?_) | (with_reducible refine Fr.alloc ?_ _) | (with_reducible refine Fr.setCell ?_ (by exact Qz) _) | (with_reducible refine Fr.trans ?_ (by with_reducible assumption)))); done))) (fun hHeld2 => ?_)
          clear hK K hHeld; have hHeld := hHeld2; clear hHeld2
          (try simp only [Act.put, List.setIfInBounds_toArray, List.set_cons_zero, List.set_cons_succ])
          refine wpAnyH_take (i := 26) (v := ?_) rfl (by kernel_rfl) (by kernel_rfl) (by kernel_rfl) (fun _ _ _ h => h) (Or.inl ⟨by rfl, ?_⟩) (by assumption) ?_
          rotate_left
          · intro w hSw; (try dsimp only at hSw); go_simp
            all_goals (try with_reducible rfl)
          (try simp only [Act.put, List.setIfInBounds_toArray, List.set_cons_zero, List.set_cons_succ])
          refine wpAnyH_take (i := 27) (v := ?_) rfl (by kernel_rfl) (by kernel_rfl) (by kernel_rfl) (fun _ _ _ h => h) (Or.inl ⟨by rfl, ?_⟩) (by assumption) ?_
          rotate_left
          · intro w hSw; (try dsimp only at hSw); go_simp
            all_goals (try with_reducible rfl)
          (try simp only [Act.put, List.setIfInBounds_toArray, List.set_cons_zero, List.set_cons_succ])
          refine wpAnyH_ready (rs := [28]) (by kernel_rfl) (by simp) ?_
          refine AllReadyH.cons rfl (fun K hK => ?_) AllReadyH.nil
          go_simp
          refine hK.out _ _ (by first | (focus ((refine Jq.of_fr zb ?_; repeat (first | (with_reducible exact Fr.refl _) | (with_reducible assumption) | (with_reducible refine Fr.drewN ?_ _) | (with_reducible refine Fr.drew ?_) | (with_reducible refine Fr.alloc ?_ _) | (with_reducible refine Fr.setCell ?_ (by exact Qz) _) | (with_reducible refine Fr.trans ?_ (by with_reducible assumption)))); done)) | (focus ((refine Jq.store zb _ ?_; repeat (first | (with_reducible exact Fr.refl _) | (with_reducible assumption) | (with_reducible refine Fr.drewN ?_ _) | (with_reducible refine Fr.drew ?_) | (with_reducible refine Fr.alloc ?_ _) | (with_reducible refine Fr.setCell ?_ (by exact Qz) _) | (with_reducible refine Fr.trans ?_ (by with_reducible assumption)))); done))) (fun hHeld2 => ?_)
          clear hK K hHeld; have hHeld := hHeld2; clear hHeld2
          (try simp only [Act.put, List.setIfInBounds_toArray, List.set_cons_zero, List.set_cons_succ])
          refine wpAnyH_done (by kernel_rfl) ?_ _
          have hY9 : ArcsW w9 wr.heap.size w9.heap.size (.slice a9 Z.length c9) Z := by
            have := ho9; simpa using this
          have hyb : (Value.slice a9 Z.length c9).ownBlock ≠ some b := fun e => by have := (World.ownsRow.lt ho9.1 b e).1; simp at this; omega
          have hya : Apart (.slice (some ⟨bl, 0, none⟩) labs.length cl) (Value.slice a9 Z.length c9) := fun g h1 h2 => by
            have := (World.ownsRow.lt ho9.1 g h2).1
            have := owns_old HA.out.labs g h1
            simp at *; omega
          have hR : Hid (MakSt (w9.setCell ⟨b, 2, none⟩ (.slice a9 Z.length c9)) b lo pv (.slice (some ⟨bl, 0, none⟩) labs.length cl) (.slice a9 Z.length c9) bad labs (putsE xs (joinP labs fs ts i (k + 1)))) := Lib.hid (by
            rw [← HE.out]
            refine ⟨hB9.set_to (by simp), owns_far (owns_fr HA.out.labs (by exact Qf)) (p := ⟨b, 2, none⟩) HA.out.nl _, owns_far (owns_lo ho9.1 (by have := HC.out.size; simp; omega)) (p := ⟨b, 2, none⟩) hyb _, hya, HA.out.nl, hyb⟩)
          have hT : Hid (Tch (· = b) w (w9.setCell ⟨b, 2, none⟩ (.slice a9 Z.length c9))) := Lib.hid ((HC.out.fr (show Fr wr w9 by exact Qf)).set (B := fun i => i = b) (p := ⟨b, 2, none⟩) (.inl rfl) _)
          have hM : Hid (Mvd w.heap.size av (.slice a9 Z.length c9)) := Lib.hid (by
            rcases owns_shape ho9.1 with ⟨_, h0, _⟩ | ⟨g, cap, e, h1, _⟩
            · exfalso
              have hm := mem_putE (xs := Y) (f := ⟨F, nAt labs tm, (tm : Int) + 1⟩) (x := ⟨F, nAt labs tm, (tm : Int) + 1⟩)
              have := hm.2 (.inr rfl)
              rw [hHZ.out] at this
              rw [List.eq_nil_of_length_eq_zero h0] at this
              simp at this
            · exact .inr ⟨g, by rw [e]; rfl, by have := HC.out.size; simp at *; omega⟩)
          go_wp2_with fail
          go_roundw
          case rel => exact ⟨k + 1, .slice a9 Z.length c9, by omega, by go_num, hR, hT, hM⟩
          case measure => (simp [intOf]; omega)
        · obtain rfl : k = ts.length := by omega
          have HN := Lib.hid (joinP_next (labs := labs) (ts := ts) hlt)
          rw [HN.out] at HA
          go_wp2_with fail
          go_roundw
          case rel => exact ⟨i + 1, av2, by omega, by go_num, HA, HC, HV⟩
          case measure => (simp [intOf]; omega)
    · obtain rfl : i = fs.length := by omega
      have HN := Lib.hid (joinP_all labs fs ts)
      rw [HN.out] at HA
      go_wp2_with fail
      go_end0
      exact ⟨rfl, av', HA.out, HC.out, HV.out⟩
end Go.Proofs.YtmdgdnkllclpcaaGreat

/- The automaton of a path, the reference's: lists of states, the arcs so far; plain. No condition. -/
namespace Go.Proofs.YtmdgdnkllclpcaaGreat
open Go.RowKit
set_option linter.unusedVariables false
set_option linter.unusedSimpArgs false
def InL (L : List Int) (p : Nat → Bool) : Prop := ∀ x : Int, x ∈ L ↔ ∃ j : Nat, p j = true ∧ x = (j : Int) + 1
theorem InL.nil : InL [] noB := fun x => by simp [noB]
theorem InL.one (n : Nat) : InL [(n : Int) + 1] (oneB n) := fun x => by
  simp only [List.mem_singleton, oneB, decide_eq_true_eq]
  constructor
  · rintro rfl; exact ⟨n, rfl, rfl⟩
  · rintro ⟨j, rfl, rfl⟩; rfl
theorem InL.app {L M : List Int} {p q : Nat → Bool} (h : InL L p) (k : InL M q) : InL (L ++ M) (orB p q) := fun x => by
  rw [List.mem_append, h x, k x]
  constructor
  · rintro (⟨j, h1, h2⟩ | ⟨j, h1, h2⟩)
    · exact ⟨j, orB_iff.2 (.inl h1), h2⟩
    · exact ⟨j, orB_iff.2 (.inr h1), h2⟩
  · rintro ⟨j, h1, h2⟩
    rcases orB_iff.1 h1 with h1 | h1
    · exact .inl ⟨j, h1, h2⟩
    · exact .inr ⟨j, h1, h2⟩
theorem InL.as {L : List Int} {p q : Nat → Bool} (h : InL L p) (e : p = q) : InL L q := e ▸ h
def ArcS (s : StD) (xs : List EdgeR) : Prop := Srt xs ∧ ∀ x, x ∈ xs ↔ ∃ i j, s.fol i j = true ∧ x = arcE s.labs (i + 1) j
theorem ArcS.nil : ArcS ⟨[], fun _ _ => false⟩ [] := ⟨List.Pairwise.nil, fun x => by simp⟩
theorem mem_joinL {labs : List UInt8} {fs ts : List Int} {x : EdgeR} : x ∈ joinL labs fs ts ↔ ∃ f ∈ fs, ∃ t ∈ ts, x = ⟨f, nAt labs (t - 1).toNat, t⟩ := by
  unfold joinL rowJ
  simp only [List.mem_flatMap, List.mem_map]
  constructor
  · rintro ⟨f, hf, t, ht, rfl⟩; exact ⟨f, hf, t, ht, rfl⟩
  · rintro ⟨f, hf, t, ht, rfl⟩; exact ⟨f, hf, t, ht, rfl⟩
theorem ArcS.join {s : StD} {xs : List EdgeR} {F T : List Int} {l f : Nat → Bool} (h : ArcS s xs) (hF : InL F l) (hT : InL T f) : ArcS ⟨s.labs, folJ s.fol l f⟩ (putsE xs (joinL s.labs F T)) := by
  refine ⟨srt_putsE h.1, fun x => ?_⟩
  rw [mem_putsE, h.2 x, mem_joinL]
  constructor
  · rintro (⟨i, j, h1, h2⟩ | ⟨a, ha, t, ht, rfl⟩)
    · exact ⟨i, j, folJ_iff.2 (.inl h1), h2⟩
    · obtain ⟨i, h1, rfl⟩ := (hF a).1 ha
      obtain ⟨j, h2, rfl⟩ := (hT t).1 ht
      exact ⟨i, j, folJ_iff.2 (.inr ⟨h1, h2⟩), by unfold arcE; simp⟩
  · rintro ⟨i, j, h1, rfl⟩
    rcases folJ_iff.1 h1 with h1 | ⟨h1, h2⟩
    · exact .inl ⟨i, j, h1, rfl⟩
    · exact .inr ⟨(i : Int) + 1, (hF _).2 ⟨i, h1, rfl⟩, (j : Int) + 1, (hT _).2 ⟨j, h2, rfl⟩, by unfold arcE; simp⟩
theorem ArcS.more {s : StD} {xs : List EdgeR} (h : ArcS s xs) (hs : StOk s) (l : UInt8) : ArcS ⟨s.labs ++ [l], s.fol⟩ xs := by
  refine ⟨h.1, fun x => ?_⟩
  rw [h.2 x]
  have e : ∀ i j, s.fol i j = true → arcE s.labs (i + 1) j = arcE (s.labs ++ [l]) (i + 1) j := fun i j hij => by
    unfold arcE
    rw [nAt_front _ _ (hs i j hij).2]
  constructor
  · rintro ⟨i, j, h1, rfl⟩; exact ⟨i, j, h1, e i j h1⟩
  · rintro ⟨i, j, h1, rfl⟩; exact ⟨i, j, h1, (e i j h1).symm⟩
theorem ArcS.bnd {s : StD} {xs : List EdgeR} (h : ArcS s xs) (hs : StOk s) (hn : s.labs.length ≤ 24) : ∀ x ∈ xs, Bnd x := fun x hx => by
  obtain ⟨i, j, h1, rfl⟩ := (h.2 x).1 hx
  have := hs i j h1
  unfold Bnd arcE
  simp only []
  omega
theorem InL.bnd {L : List Int} {p : Nat → Bool} {n : Nat} (h : InL L p) (hp : ∀ j, p j = true → j < n) : ∀ x ∈ L, 1 ≤ x ∧ x ≤ (n : Int) := fun x hx => by
  obtain ⟨j, h1, rfl⟩ := (h x).1 hx
  have := hp j h1
  omega
theorem InL.bnd2 {L : List Int} {p : Nat → Bool} {n : Nat} (h : InL L p) (hp : ∀ j, p j = true → j < n) (hn : n ≤ 24) : ∀ x ∈ L, 0 ≤ x ∧ x < 32 := fun x hx => by have := h.bnd hp x hx; omega
/-- What a call of look leaves behind. -/
def LB (b : Nat) (lv : Value) (i : Nat) : Prop := i = b ∨ lv.ownBlock = some i
def LokQ (b lo : Nat) (pv lv av : Value) (n : Nat) (r : StD × SpD) (w : World) (e : Ending) (w' : World) : Prop :=
  ∃ (v1 v2 lv' av' : Value) (L1 L2 : List Int) (xs' : List EdgeR), e = .returned (.agg #[v1, v2, .bool r.2.null]) ∧ MakSt w' b lo pv lv' av' false r.1.labs xs' ∧ ArcS r.1 xs' ∧ Tch (LB b lv) w w' ∧ Mvd w.heap.size lv lv' ∧ Mvd w.heap.size av av' ∧
    IntsO w' w.heap.size v1 L1 ∧ IntsO w' w.heap.size v2 L2 ∧ InL L1 r.2.first ∧ InL L2 r.2.last ∧ L1.length ≤ n ∧ L2.length ≤ n ∧ Apart v1 v2 ∧ Apart v1 lv' ∧ Apart v2 lv'
def LokC (ps : List PieceD) (w0 : World) (pv : Value) (f : Nat) : Prop := ∀ (b p : Nat) (s : StD) (xs : List EdgeR) (lv av : Value) (w : World), Fr w0 w → w0.heap.size ≤ b → MakSt w b w0.heap.size pv lv av false s.labs xs → ArcS s xs → StOk s → p < f → p < ps.length → s.labs.length + occA ps p ≤ 23 →
  Calls Tryz.prog 162 #[.pointer (some ⟨b, 0, none⟩), .int .i64 (p : Int)] w fun e w' => LokQ b w0.heap.size pv lv av (occA ps p) (glu ps f p s) w e w'
theorem MakSt.set {w : World} {b lo : Nat} {pv lv av : Value} {bad : Bool} {labs : List UInt8} {xs : List EdgeR} (h : MakSt w b lo pv lv av bad labs xs) {p : Addr} (h1 : b ≠ p.block) (h2 : lv.ownBlock ≠ some p.block) (h3 : av.ownBlock ≠ some p.block) (v : Value) : MakSt (w.setCell p v) b lo pv lv av bad labs xs :=
  ⟨h.box.other h1 v, owns_far h.labs h2 v, owns_far h.arcs h3 v, h.ap, h.nl, h.na⟩
theorem MakSt.set3 {w : World} {b lo : Nat} {pv lv av : Value} {bad : Bool} {labs : List UInt8} {xs : List EdgeR} (h : MakSt w b lo pv lv av bad labs xs) {c : Nat} (h1 : b ≠ c) (h2 : lv.ownBlock ≠ some c) (h3 : av.ownBlock ≠ some c) (u v x : Value) : MakSt (((w.setCell ⟨c, 0, none⟩ u).setCell ⟨c, 1, none⟩ v).setCell ⟨c, 2, none⟩ x) b lo pv lv av bad labs xs :=
  ((h.set (p := ⟨c, 0, none⟩) h1 h2 h3 u).set (p := ⟨c, 1, none⟩) h1 h2 h3 v).set (p := ⟨c, 2, none⟩) h1 h2 h3 x
theorem LB.back {n b : Nat} {lv lv' : Value} (h : Mvd n lv lv') : ∀ i, i < n → LB b lv' i → LB b lv i := by
  rintro i hi (e | e)
  · exact .inl e
  · exact .inr (h.old e hi)
theorem MakSt.old {w : World} {b lo : Nat} {pv lv av : Value} {bad : Bool} {labs : List UInt8} {xs : List EdgeR} (h : MakSt w b lo pv lv av bad labs xs) : ∀ i, LB b lv i → i < w.heap.size := by
  rintro i (e | e)
  · have := h.box.lt; omega
  · exact owns_old h.labs i e
theorem MakSt.lo_ {w : World} {b lo : Nat} {pv lv av : Value} {bad : Bool} {labs : List UInt8} {xs : List EdgeR} (h : MakSt w b lo pv lv av bad labs xs) (hb : lo ≤ b) : ∀ i, i < lo → ¬ LB b lv i := by
  rintro i hi (e | e)
  · omega
  · have := (World.ownsRow.lt h.labs i e).1; omega
end Go.Proofs.YtmdgdnkllclpcaaGreat

/- The automaton of a path, the reference's: the state of look's loop. No condition. -/
namespace Go.Proofs.YtmdgdnkllclpcaaGreat
open Go.RowKit
set_option linter.unusedVariables false
set_option linter.unusedSimpArgs false
theorem no_orB (a : Nat → Bool) : orB noB a = a := by funext j; simp [orB, noB]
theorem ifB_yes (b : Nat → Bool) : ifB true b = b := by funext j; simp [ifB]
theorem own_len (a : Option Addr) (n m c : Nat) : (Value.slice a n c).ownBlock = (Value.slice a m c).ownBlock := by cases a <;> rfl
/-- Rows of two types lie apart. -/
theorem owns_types {w : World} {lo lo' : Nat} {e e' : TypeId} {sz sz' : Nat} {v v' : Value} {n n' : Nat} {xs xs' : List Value} (h : w.ownsRow lo e sz v n xs) (k : w.ownsRow lo' e' sz' v' n' xs') (hne : e ≠ e') : Apart v v' := by
  intro g h1 h2
  rcases h.2 with ⟨rfl, _⟩ | ⟨g1, c1, u1, rfl, _, hh, _⟩
  · simp [Value.ownBlock] at h1
  · rcases k.2 with ⟨rfl, _⟩ | ⟨g2, c2, u2, rfl, _, kk, _⟩
    · simp [Value.ownBlock] at h2
    · simp only [Value.ownBlock, Option.some.injEq] at h1 h2
      subst h1
      subst h2
      rw [hh] at kk
      cases kk
      exact hne rfl
theorem owns_box {w : World} {lo : Nat} {e T : TypeId} {sz : Nat} {v : Value} {n g : Nat} {xs : List Value} {X : Array Value} (h : w.ownsRow lo e sz v n xs) (k : Box w g X T) (hne : e ≠ T) : v.ownBlock ≠ some g := by
  intro h1
  rcases h.2 with ⟨rfl, _⟩ | ⟨g1, c1, u1, rfl, _, hh, _⟩
  · simp [Value.ownBlock] at h1
  · simp only [Value.ownBlock, Option.some.injEq] at h1
    subst h1
    rw [show w.heap[g1]? = _ from k] at hh
    cases hh
    exact hne rfl
structure LCo (w : World) (b lo : Nat) (pv lv av : Value) (X : Array Value) (s : StD) (wr : World) (lv' av' : Value) (xs : List EdgeR) : Prop where
  st : MakSt wr b lo pv lv' av' false s.labs xs
  arc : ArcS s xs
  res : Box wr w.heap.size #[.slice none 0 0, .slice none 0 0, .bool false] 219
  pc : Box wr (w.heap.size + 1) X 237
  tch : Tch (LB b lv) w wr
  ml : Mvd (w.heap.size + 3) lv lv'
  ma : Mvd w.heap.size av av'
theorem LCo.new {w : World} {b lo : Nat} {pv lv av : Value} {X : Array Value} {s : StD} {wr : World} {lv' av' : Value} {xs xs0 : List EdgeR} {labs0 : List UInt8} (h : LCo w b lo pv lv av X s wr lv' av' xs) (h0 : MakSt w b lo pv lv av false labs0 xs0) : ∀ i, w.heap.size ≤ i → i < w.heap.size + 3 → ¬ LB b lv' i := by
  rintro i h1 h2 (e | e)
  · have := h0.box.lt; omega
  · have := owns_old h0.labs i (h.ml.old e h2); omega
theorem LCo.fr {w : World} {b lo : Nat} {pv lv av : Value} {X : Array Value} {s : StD} {wr w2 : World} {lv' av' : Value} {xs : List EdgeR} (h : LCo w b lo pv lv av X s wr lv' av' xs) (hf : Fr wr w2) : LCo w b lo pv lv av X s w2 lv' av' xs :=
  ⟨h.st.fr hf, h.arc, h.res.fr hf, h.pc.fr hf, h.tch.fr hf, h.ml, h.ma⟩
/-- Behind a call that may have turned the maker alone. -/
theorem LCo.call {w : World} {b lo : Nat} {pv lv av : Value} {X : Array Value} {s s2 : StD} {wr w2 : World} {lv' av' lv2 av2 : Value} {xs xs2 xs0 : List EdgeR} {labs0 : List UInt8} (h : LCo w b lo pv lv av X s wr lv' av' xs) (h0 : MakSt w b lo pv lv av false labs0 xs0) (hz : w.heap.size + 3 ≤ wr.heap.size)
    (q : MakSt w2 b lo pv lv2 av2 false s2.labs xs2) (qa : ArcS s2 xs2) (t : Tch (LB b lv') wr w2) (m1 : Mvd wr.heap.size lv' lv2) (m2 : Mvd wr.heap.size av' av2) : LCo w b lo pv lv av X s2 w2 lv2 av2 xs2 :=
  ⟨q, qa, t.box h.res (h.new h0 _ (Nat.le_refl _) (by omega)), t.box h.pc (h.new h0 _ (by omega) (by omega)), h.tch.then t (LB.back (h.ml.mono (by omega))), h.ml.trans m1 hz, h.ma.trans m2 h.tch.size⟩
/-- A row of ints stays behind such a call. -/
theorem LCo.row {w : World} {b lo : Nat} {pv lv av : Value} {X : Array Value} {s : StD} {wr w2 : World} {lv' av' v : Value} {xs : List EdgeR} {L : List Int} {lo2 : Nat} (h : LCo w b lo pv lv av X s wr lv' av' xs) (hv : IntsO wr lo2 v L) (t : Tch (LB b lv') wr w2) : IntsO w2 lo2 v L :=
  t.owns hv fun g hg e => by
    rcases e with e | e
    · exact owns_box hv h.st.box (by decide) (by rw [hg, e])
    · exact owns_types hv h.st.labs (by decide) g hg e
theorem LCo.grow {w : World} {b lo : Nat} {pv lv av : Value} {X : Array Value} {s : StD} {wr w2 : World} {lv' av' v : Value} {L : List Int} {xs : List EdgeR} {lo2 : Nat} (h : LCo w b lo pv lv av X s wr lv' av' xs)
    (hv : IntsO wr lo2 v L) (hn : ∀ i, v.ownBlock = some i → w.heap.size ≤ i) (hg : wr.grownBy w2 v.ownBlock) : LCo w b lo pv lv av X s w2 lv' av' xs :=
  ⟨⟨h.st.box.gr hg (owns_box hv h.st.box (by decide)), World.ownsRow.kept h.st.labs hg (Apart.ne (owns_types h.st.labs hv (by decide))), World.ownsRow.kept h.st.arcs hg (Apart.ne (owns_types h.st.arcs hv (by decide))), h.st.ap, h.st.nl, h.st.na⟩, h.arc, h.res.gr hg (owns_box hv h.res (by decide)), h.pc.gr hg (owns_box hv h.pc (by decide)), h.tch.then (Tch.of_gr (B := fun i => v.ownBlock = some i) hg (fun i e => e)) (fun i hi e => by have := hn i e; omega), h.ml, h.ma⟩
/-- A store into the loop's own look. -/
theorem LCo.set {w : World} {b lo : Nat} {pv lv av : Value} {X Z : Array Value} {s : StD} {wr : World} {lv' av' : Value} {xs : List EdgeR} (h : LCo w b lo pv lv av X s wr lv' av' xs) (k : Box wr (w.heap.size + 1 + 1) Z 219) (hb : b < w.heap.size) (i : Nat) (v : Value) : LCo w b lo pv lv av X s (wr.setCell ⟨w.heap.size + 1 + 1, i, none⟩ v) lv' av' xs :=
  ⟨h.st.set (p := ⟨w.heap.size + 1 + 1, i, none⟩) (by show b ≠ w.heap.size + 1 + 1; omega) (owns_box h.st.labs k (by decide)) (owns_box h.st.arcs k (by decide)) v, h.arc, h.res.other (p := ⟨w.heap.size + 1 + 1, i, none⟩) (by show w.heap.size ≠ w.heap.size + 1 + 1; omega) v, h.pc.other (p := ⟨w.heap.size + 1 + 1, i, none⟩) (by show w.heap.size + 1 ≠ w.heap.size + 1 + 1; omega) v, h.tch.set (p := ⟨w.heap.size + 1 + 1, i, none⟩) (.inr (by show w.heap.size ≤ w.heap.size + 1 + 1; omega)) v, h.ml, h.ma⟩
/-- The state of the loop at a head. -/
structure LLp (w : World) (b lo : Nat) (pv lv av : Value) (X : Array Value) (n : Nat) (s : StD) (o : SpD) (wr : World) (lv' av' o1 o2 : Value) (O1 O2 : List Int) (xs : List EdgeR) : Prop where
  co : LCo w b lo pv lv av X s wr lv' av' xs
  out : Box wr (w.heap.size + 1 + 1) #[o1, o2, .bool o.null] 219
  r1 : IntsO wr (w.heap.size + 3) o1 O1
  r2 : IntsO wr (w.heap.size + 3) o2 O2
  i1 : InL O1 o.first
  i2 : InL O2 o.last
  l1 : O1.length ≤ n
  l2 : O2.length ≤ n
  ap : Apart o1 o2
theorem IntsO.setb {w : World} {lo g i : Nat} {v : Value} {L : List Int} {X : Array Value} {T : TypeId} (h : IntsO w lo v L) (k : Box w g X T) (hT : 3 ≠ T) (u : Value) : IntsO (w.setCell ⟨g, i, none⟩ u) lo v L := owns_far h (p := ⟨g, i, none⟩) (owns_box h k hT) u
theorem IntsO.set3 {w : World} {lo lo' g : Nat} {v : Value} {L : List Int} {X : Array Value} {T : TypeId} (h : IntsO w lo v L) (k : Box w g X T) (hT : 3 ≠ T) (hl : lo' ≤ lo) (u x y : Value) : IntsO (((w.setCell ⟨g, 0, none⟩ u).setCell ⟨g, 1, none⟩ x).setCell ⟨g, 2, none⟩ y) lo' v L :=
  owns_lo (((h.setb (i := 0) k hT u).setb (i := 1) (k.set 0 u) hT x).setb (i := 2) ((k.set 0 u).set 1 x) hT y) hl
/-- In the midst of a round: the call's own look lies in a box, both looks' rows are at hand. -/
structure LPh (w : World) (b lo : Nat) (pv lv av : Value) (X : Array Value) (s : StD) (W : World) (lv' av' : Value) (xs : List EdgeR) (Z : Array Value) (kb : Nat) (Y : Array Value) (o1 o2 y1 y2 : Value) (O1 O2 L1 L2 : List Int) : Prop where
  co : LCo w b lo pv lv av X s W lv' av' xs
  out : Box W (w.heap.size + 1 + 1) Z 219
  yb : Box W kb Y 219
  r1 : IntsO W (w.heap.size + 3) o1 O1
  r2 : IntsO W (w.heap.size + 3) o2 O2
  r3 : IntsO W (w.heap.size + 3) y1 L1
  r4 : IntsO W (w.heap.size + 3) y2 L2
  hk : kb ≠ w.heap.size + 1 + 1
theorem LPh.set {w : World} {b lo : Nat} {pv lv av : Value} {X : Array Value} {s : StD} {W : World} {lv' av' : Value} {xs : List EdgeR} {Z : Array Value} {kb : Nat} {Y : Array Value} {o1 o2 y1 y2 : Value} {O1 O2 L1 L2 : List Int} (h : LPh w b lo pv lv av X s W lv' av' xs Z kb Y o1 o2 y1 y2 O1 O2 L1 L2) (hb : b < w.heap.size) (i : Nat) (v : Value) :
    LPh w b lo pv lv av X s (W.setCell ⟨w.heap.size + 1 + 1, i, none⟩ v) lv' av' xs (Z.setIfInBounds i v) kb Y o1 o2 y1 y2 O1 O2 L1 L2 :=
  ⟨h.co.set h.out hb i v, h.out.set i v, h.yb.other (p := ⟨w.heap.size + 1 + 1, i, none⟩) h.hk v, h.r1.setb h.out (by decide) v, h.r2.setb h.out (by decide) v, h.r3.setb h.out (by decide) v, h.r4.setb h.out (by decide) v, h.hk⟩
theorem LPh.as {w : World} {b lo : Nat} {pv lv av : Value} {X : Array Value} {s : StD} {W : World} {lv' av' : Value} {xs : List EdgeR} {Z Z' : Array Value} {kb : Nat} {Y : Array Value} {o1 o2 y1 y2 : Value} {O1 O2 L1 L2 : List Int} (h : LPh w b lo pv lv av X s W lv' av' xs Z kb Y o1 o2 y1 y2 O1 O2 L1 L2) (e : Z = Z') : LPh w b lo pv lv av X s W lv' av' xs Z' kb Y o1 o2 y1 y2 O1 O2 L1 L2 := e ▸ h
theorem LPh.fr {w : World} {b lo : Nat} {pv lv av : Value} {X : Array Value} {s : StD} {W W' : World} {lv' av' : Value} {xs : List EdgeR} {Z : Array Value} {kb : Nat} {Y : Array Value} {o1 o2 y1 y2 : Value} {O1 O2 L1 L2 : List Int} (h : LPh w b lo pv lv av X s W lv' av' xs Z kb Y o1 o2 y1 y2 O1 O2 L1 L2) (hf : Fr W W') : LPh w b lo pv lv av X s W' lv' av' xs Z kb Y o1 o2 y1 y2 O1 O2 L1 L2 :=
  ⟨h.co.fr hf, h.out.fr hf, h.yb.fr hf, h.r1.fr hf, h.r2.fr hf, h.r3.fr hf, h.r4.fr hf, h.hk⟩
/-- An append to the first row. -/
theorem LPh.grow1 {w : World} {b lo : Nat} {pv lv av : Value} {X : Array Value} {s : StD} {W W' : World} {lv' av' : Value} {xs : List EdgeR} {Z : Array Value} {kb : Nat} {Y : Array Value} {o1 o1' o2 y1 y2 : Value} {O1 O1' O2 L1 L2 : List Int} (h : LPh w b lo pv lv av X s W lv' av' xs Z kb Y o1 o2 y1 y2 O1 O2 L1 L2)
    (hg : W.grownBy W' o1.ownBlock) (hn : IntsO W' (w.heap.size + 3) o1' O1') (a2 : Apart o1 o2) (a3 : Apart o1 y1) (a4 : Apart o1 y2) : LPh w b lo pv lv av X s W' lv' av' xs Z kb Y o1' o2 y1 y2 O1' O2 L1 L2 :=
  ⟨h.co.grow h.r1 (fun i e => by have := (World.ownsRow.lt h.r1 i e).1; omega) hg, h.out.gr hg (owns_box h.r1 h.out (by decide)), h.yb.gr hg (owns_box h.r1 h.yb (by decide)), hn, World.ownsRow.kept h.r2 hg (Apart.ne (Apart.symm' a2)), World.ownsRow.kept h.r3 hg (Apart.ne (Apart.symm' a3)), World.ownsRow.kept h.r4 hg (Apart.ne (Apart.symm' a4)), h.hk⟩
theorem LPh.grow2 {w : World} {b lo : Nat} {pv lv av : Value} {X : Array Value} {s : StD} {W W' : World} {lv' av' : Value} {xs : List EdgeR} {Z : Array Value} {kb : Nat} {Y : Array Value} {o1 o2 o2' y1 y2 : Value} {O1 O2 O2' L1 L2 : List Int} (h : LPh w b lo pv lv av X s W lv' av' xs Z kb Y o1 o2 y1 y2 O1 O2 L1 L2)
    (hg : W.grownBy W' o2.ownBlock) (hn : IntsO W' (w.heap.size + 3) o2' O2') (a1 : Apart o2 o1) (a3 : Apart o2 y1) (a4 : Apart o2 y2) : LPh w b lo pv lv av X s W' lv' av' xs Z kb Y o1 o2' y1 y2 O1 O2' L1 L2 :=
  ⟨h.co.grow h.r2 (fun i e => by have := (World.ownsRow.lt h.r2 i e).1; omega) hg, h.out.gr hg (owns_box h.r2 h.out (by decide)), h.yb.gr hg (owns_box h.r2 h.yb (by decide)), World.ownsRow.kept h.r1 hg (Apart.ne (Apart.symm' a1)), hn, World.ownsRow.kept h.r3 hg (Apart.ne (Apart.symm' a3)), World.ownsRow.kept h.r4 hg (Apart.ne (Apart.symm' a4)), h.hk⟩
theorem apart_lt {w : World} {lo n : Nat} {e e' : TypeId} {sz sz' : Nat} {v v' : Value} {m m' : Nat} {xs xs' : List Value} {w' : World} (h : w.ownsRow lo e sz v m xs) (k : w'.ownsRow n e' sz' v' m' xs') (hn : w.heap.size ≤ n) : Apart v v' := fun g h1 h2 => by
  have := (World.ownsRow.lt h g h1).2
  have := (World.ownsRow.lt k g h2).1
  omega
end Go.Proofs.YtmdgdnkllclpcaaGreat

/- Arcs sorted (slices.SortFunc by impl.compareArcs): what the row holds. No condition. -/
namespace Go.Proofs.YtmdgdnkllclpcaaGreat
open Go.RowKit Go.Shelf Go.Sort
set_option linter.unusedVariables false
set_option linter.unusedSimpArgs false
def arc3 (x : EdgeR) : List Int := [x.f0, (x.f1.toNat : Int), x.f2]
def arcCm (x y : EdgeR) : Int := cmpL (arc3 x) (arc3 y)
theorem arcCm_lt (x y : EdgeR) : ltOf arcCm x y = edgeLt x y := by
  unfold ltOf arcCm arc3
  rw [Bool.eq_iff_iff, decide_eq_true_eq, edgeLt_iff]
  simp only [cmpL]
  constructor
  · intro h
    repeat' split at h
    all_goals first | omega | (left; omega) | (right; refine ⟨by omega, ?_⟩; first | (left; omega) | (right; exact ⟨UInt8.toNat_inj.1 (by omega), by omega⟩))
  · rintro (h | ⟨h0, h | ⟨h1, h⟩⟩)
    · repeat' split
      all_goals omega
    · repeat' split
      all_goals omega
    · rw [h1]
      repeat' split
      all_goals omega
theorem arcSWO : SWO (ltOf arcCm) where
  irrefl x := by rw [arcCm_lt]; exact edgeLt_irr x
  trans x y z h1 h2 := by rw [arcCm_lt] at *; exact edgeLt_trans h1 h2
  ntrans x y z h1 h2 := by
    rw [arcCm_lt] at *
    cases h : edgeLt x z
    · rfl
    · rcases edgeLt_tri x y with k | k | k
      · rw [k] at h1; cases h1
      · subst k; rw [h] at h2; cases h2
      · have := edgeLt_trans k h; rw [this] at h2; cases h2
theorem ints3 {w : World} {b : Nat} {x y z : Int} {T : TypeId} (h : Box w b #[.int .i64 x, .int .i64 y, .int .i64 z] T) : IntsR w (.slice (some ⟨b, 0, none⟩) 3 3) [x, y, z] := by
  refine ⟨rfl, _, _, rfl, Nat.le_refl _, by unfold maxLen; omega, fun _ => ⟨b, 0, rfl, h.lt, fun j hj => ?_⟩⟩
  rw [Nat.zero_add, h.cell]
  match j, hj with
  | 0, _ => rfl
  | 1, _ => rfl
  | 2, _ => rfl
theorem compareArcs_any (x y : EdgeR) (W : World) :
    Calls Tryz.prog 199 #[.agg #[.int .i64 x.f0, .int .u8 (x.f1.toNat : Int), .int .i64 x.f2], .agg #[.int .i64 y.f0, .int .u8 (y.f1.toNat : Int), .int .i64 y.f2]] W fun e w' => e = .returned (.int .i64 (arcCm x y)) ∧ ∃ q os', w' = grow (W.drewN q) os' := by
  have hl := x.f1.toNat_lt
  have hm := y.f1.toNat_lt
  obtain ⟨p, hp⟩ : ∃ p, arcCm x y = p := ⟨_, rfl⟩
  have HP := Lib.hid hp
  rw [hp]
  clear hp
  go_enter Tryz.func199, Tryz.ntmps199
  go_wp2_with fail
  refine (slicesCompare_any _ _ (arc3 x) (arc3 y) _ (ints3 (Box.alloc (Box.new' (by simp)) _)) (ints3 (Box.new' (by simp)))).mono ?_
  rintro e w1 ⟨rfl, rfl⟩
  go_wp2_with fail
  go_ret
  exact ⟨ret_int HP.out, 0, _, by rw [alloc_eq_grow, alloc_eq_grow, alloc_eq_grow, alloc_eq_grow, grow_grow, grow_grow, grow_grow]; rfl⟩
theorem flat_get (ys : List EdgeR) {t : Nat} (ht : t < ys.length * 3) : (ys.flatMap EdgeR.cells)[t]? = some ((edgeAt ys (t / 3)).cells[t % 3]!) := by
  have hl : (ys.flatMap EdgeR.cells).length = ys.length * 3 := by
    have := flat_len ys EdgeR.cells 3 EdgeR.cells_length ys.length (Nat.le_refl _)
    rwa [List.take_length] at this
  have h := edge_flat ys (t / 3) (t % 3) (by omega) (by omega) undef
  rw [show t / 3 * 3 + t % 3 = t by omega] at h
  rw [List.getD_eq_getElem?_getD, List.getElem?_eq_getElem (by omega)] at h
  rw [List.getElem?_eq_getElem (by omega)]
  simp only [Option.getD_some] at h
  rw [h]
  have h3 : t % 3 < (edgeAt ys (t / 3)).cells.length := by rw [EdgeR.cells_length]; omega
  rw [List.getD_eq_getElem?_getD, List.getElem?_eq_getElem h3, getElem!_pos (edgeAt ys (t / 3)).cells (t % 3) h3]
  rfl
theorem arr_edge (ys : List EdgeR) (k : Nat) : (ys.toArray)[k]! = edgeAt ys k := by
  unfold edgeAt
  rw [List.getD_eq_getElem?_getD]
  simp [getElem!_def]
  cases ys[k]? <;> rfl
theorem holds_arcs {w : World} {lo B cap : Nat} {xs : List EdgeR} (h : w.ownsRow lo 186 3 (.slice (some ⟨B, 0, none⟩) xs.length cap) xs.length (xs.flatMap EdgeR.cells)) : HoldsK EdgeR.cells 3 w B 0 xs.toArray := by
  intro j hj
  rw [size_flatK] at hj
  simp only [List.size_toArray] at hj
  rw [Nat.zero_add, get_flatK _ _ _ _ (by simpa using hj), arr_edge]
  exact ⟨(h.cellAt j hj).trans (flat_get xs hj), h.frozenAt j⟩
theorem owns_sortW {w : World} {lo B cap m : Nat} {xs ys : List EdgeR} {os : Array Obj} (h : w.ownsRow lo 186 3 (.slice (some ⟨B, 0, none⟩) xs.length cap) xs.length (xs.flatMap EdgeR.cells)) (hl : ys.length = xs.length) :
    (sortWorldK EdgeR.cells 3 w B 0 m ys.toArray os).ownsRow lo 186 3 (.slice (some ⟨B, 0, none⟩) xs.length cap) xs.length (ys.flatMap EdgeR.cells) ∧ w.grownBy (sortWorldK EdgeR.cells 3 w B 0 m ys.toArray os) (some B) := by
  obtain ⟨h1, ⟨h2, _⟩ | ⟨g, cp, cur, hv, hg, hh, hn, hc, hs, ht⟩⟩ := h
  · cases h2
  · cases hv
    have hB : B < w.heap.size := (Array.getElem?_eq_some_iff.1 hh).1
    have hfl : (ys.flatMap EdgeR.cells).length = ys.length * 3 := by
      have := flat_len ys EdgeR.cells 3 EdgeR.cells_length ys.length (Nat.le_refl _)
      rwa [List.take_length] at this
    have hsz : (flatK EdgeR.cells 3 ys.toArray).size = ys.length * 3 := by simp
    refine ⟨⟨by rw [hfl, hl], .inr ⟨B, cap, putCells id 0 (flatK EdgeR.cells 3 ys.toArray) cur, rfl, hg, ?_, hn, hc, by simp [putCells, hs], ?_⟩⟩, ⟨rfl, rfl, rfl, by simp [sortWorldK, grow, putRowK, putRow, mapBlock, ahead], ?_⟩⟩
    · simp only [sortWorldK, grow, putRowK, putRow, mapBlock, show (Sort.ahead w m).heap = w.heap from rfl]
      rw [Array.getElem?_append_left (by simpa using hB), Array.getElem?_modify, if_pos rfl, hh]
      rfl
    · refine List.ext_getElem? fun t => ?_
      rw [List.getElem?_take]
      by_cases htl : t < xs.length * 3
      · rw [if_pos htl, flat_get ys (by omega)]
        have hc2 : xs.length * 3 ≤ cap * 3 := Nat.mul_le_mul_right _ hn
        have htc : t < cur.size := by omega
        unfold putCells
        rw [Array.getElem?_toList, Array.getElem?_mapIdx, Array.getElem?_eq_getElem htc]
        simp only [Option.map_some, id_eq, Nat.sub_zero]
        rw [if_pos ⟨Nat.zero_le _, by rw [hsz]; omega⟩, get_flatK _ _ _ _ (by simpa using (show t < ys.length * 3 by omega)), arr_edge]
      · rw [if_neg htl, List.getElem?_eq_none (by rw [hfl]; omega)]
    · intro k hk hkb
      simp only [sortWorldK, grow, putRowK, putRow, mapBlock, show (Sort.ahead w m).heap = w.heap from rfl]
      rw [Array.getElem?_append_left (by simpa using hk), Array.getElem?_modify, if_neg (fun e => hkb (by rw [e]))]
theorem sortArcs_any (lo B cap : Nat) (xs : List EdgeR) (w : World) (h : w.ownsRow lo 186 3 (.slice (some ⟨B, 0, none⟩) xs.length cap) xs.length (xs.flatMap EdgeR.cells)) (hn : xs.length ≤ 1000000) (hd : xs.Nodup) :
    Calls Tryz.prog 198 #[.slice (some ⟨B, 0, none⟩) xs.length cap, .func (.func 199) #[] #[]] w fun e w' => e = .returned (.tuple #[]) ∧ ∃ ys : List EdgeR, Srt ys ∧ (∀ x, x ∈ ys ↔ x ∈ xs) ∧ ys.length = xs.length ∧ w'.ownsRow lo 186 3 (.slice (some ⟨B, 0, none⟩) xs.length cap) xs.length (ys.flatMap EdgeR.cells) ∧ w.grownBy w' (some B) := by
  have hB : B < w.heap.size := owns_old h B rfl
  have eg : ∀ args w, (callFunc 199 args).run Tryz.prog w = .ok (.enter 199 args) w := enters_of Tryz.func199 (by kernel_rfl) rfl
  have hcon := AnyQ.slices_SortFunc sh_sortArc 3 Tryz.isAgg186 Tryz.sizeOf186 EdgeR.cells EdgeR.cells_length (fun x v hv => by simp [EdgeR.cells] at hv; rcases hv with rfl | rfl | rfl <;> rfl) arcCm arcSWO 199 #[] B 0 cap xs.toArray w eg (fun _ _ _ _ x y => compareArcs_any x y _) (holds_arcs h) hB (by simp; omega)
  refine hcon.mono fun e w' ⟨he, d', m, os, hp, hs, hw⟩ => ⟨he, d'.toList, ?_⟩
  have hsz : d'.size = xs.length := by simpa using hp.1
  have hperm : d'.toList.Perm xs := by
    have := hp.2.2
    simp only [Array.toList_extract, List.extract_eq_take_drop, List.drop_zero, Nat.sub_zero, List.size_toArray, Nat.zero_add] at this
    rw [List.take_of_length_le (l := d'.toList) (by simp [hsz]), List.take_of_length_le (l := xs) (by omega)] at this
    exact this
  have hnd : d'.toList.Nodup := hperm.nodup_iff.2 hd
  have ho := owns_sortW (m := m) (os := os) (ys := d'.toList) h (by simpa using hsz)
  refine ⟨?_, fun x => hperm.mem_iff, by simpa using hsz, ?_, ?_⟩
  · refine List.pairwise_iff_getElem.2 fun i j hi hj hij => ?_
    have hl := hs i j (Nat.zero_le _) hij (by simpa [hsz] using hj)
    rw [arcCm_lt] at hl
    have hi' : i < d'.size := by simpa using hi
    have hj' : j < d'.size := by simpa using hj
    rw [getElem!_pos d' j hj', getElem!_pos d' i hi'] at hl
    have hne : d'.toList[i] ≠ d'.toList[j] := fun e => by
      have := (List.getElem_inj hnd).1 e
      omega
    simp only [Array.getElem_toList] at hne ⊢
    rcases edgeLt_tri d'[i] d'[j] with k | k | k
    · exact k
    · exact absurd k hne
    · rw [k] at hl; cases hl
  · rw [hw]; simpa using ho.1
  · rw [hw]; simpa using ho.2
end Go.Proofs.YtmdgdnkllclpcaaGreat
