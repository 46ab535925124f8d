/- Texts in one: Unf, Unf2. -/
import Derived.Test.YtjgghiniajmfjaaKRv
import Derived.Test.YtjgghiniajmfjaaSum
import Derived.Test.YtjgghiniajmfjaaTFlat
/- Frames read from a file: plain law and the contracts of impl.frameAt, impl.Unframe, spec.Unframe. Condition: the file has at most 2^24 bytes. -/
namespace Go.Proofs.Ytjgghiniajmfjaa
open Go.RowKit
set_option linter.unusedVariables false
set_option linter.unusedSimpArgs false
theorem rvGo_ok (s : ByteArray) (a : Nat) : ∀ (f k m v : Nat), v = 128 ^ k → a + k ≤ s.size → m = dec (bytesAt s a k) → (∀ x ∈ bytesAt s a k, 128 ≤ x.toNat) → (rvGo s a k m v f).ok = true →
    ∃ j : Nat, (rvGo s a k m v f).n = ((dec (bytesAt s a (j + 1)) : Nat) : Int) ∧ (rvGo s a k m v f).e = ((a + j + 1 : Nat) : Int) ∧ a + j < s.size ∧ j < k + f ∧ varL (dec (bytesAt s a (j + 1))) = bytesAt s a (j + 1) ∧ dec (bytesAt s a (j + 1)) ≤ 1000000000
  | 0, k, m, v, _, _, _, _, h => by simp [rvGo, rvNo] at h
  | f + 1, k, m, v, hv, hk, hm, hall, h => by
    rw [rvGo] at h ⊢
    by_cases hlt : a + k < s.size
    · rw [dif_pos hlt] at h ⊢
      have hdec : m + s[a + k].toNat % 128 * v = dec (bytesAt s a (k + 1)) := by rw [bytesAt_succ hlt, dec_snoc, bytesAt_length hk, ← hv, ← hm]
      by_cases hb : 128 ≤ s[a + k].toNat
      · rw [if_pos hb] at h ⊢
        obtain ⟨j, h1, h2, h3, h4, h5⟩ := rvGo_ok s a f (k + 1) _ (v * 128) (by rw [hv, Nat.pow_succ]) (by omega) hdec (fun x hx => by
          rw [bytesAt_succ hlt] at hx
          rcases List.mem_append.1 hx with h | h
          · exact hall x h
          · simp at h; subst h; exact hb) h
        exact ⟨j, h1, h2, h3, by omega, h5⟩
      · rw [if_neg hb] at h ⊢
        by_cases hz : (s[a + k].toNat = 0 ∧ 0 < k) ∨ 1000000000 < m + s[a + k].toNat % 128 * v
        · rw [if_pos hz] at h; simp [rvNo] at h
        · rw [if_neg hz]
          refine ⟨k, by rw [hdec], rfl, hlt, by omega, ?_, by rw [← hdec]; omega⟩
          rw [bytesAt_succ hlt]
          refine (varL_dec _ _ hall (by omega)).2 ?_
          by_cases hk0 : k = 0
          · left; rw [hk0]; simp [bytesAt]
          · right; intro h0; exact hz (.inl ⟨h0, by omega⟩)
    · rw [dif_neg hlt] at h; simp [rvNo] at h
/-- A number that was read: its bytes are those between the two places. -/
theorem rv_ok {s : ByteArray} {a : Nat} (ha : a ≤ s.size) (h : (rv s (a : Int)).ok = true) :
    ∃ (n j : Nat), (rv s (a : Int)).n = (n : Int) ∧ (rv s (a : Int)).e = ((a + j + 1 : Nat) : Int) ∧ a + j + 1 ≤ s.size ∧ n ≤ 1000000000 ∧ varL n = bytesAt s a (j + 1) := by
  have he : rv s (a : Int) = rvGo s a 0 0 1 5 := by unfold rv; rw [if_pos ⟨by omega, by omega⟩, Int.toNat_natCast]
  rw [he] at h ⊢
  obtain ⟨j, h1, h2, h3, h4, h5, h6⟩ := rvGo_ok s a 5 0 0 1 rfl (by omega) (by simp [bytesAt, dec]) (fun x hx => by simp [bytesAt] at hx) h
  exact ⟨_, j, h1, h2, by omega, h6, h5⟩
structure FrR where
  t : ByteArray
  e : Int
  ok : Bool
def frNo : FrR := ⟨⟨#[]⟩, 0, false⟩
def frAt (s : ByteArray) (a : Int) : FrR :=
  if (rv s a).ok = true ∧ 1 ≤ (rv s a).n ∧ (rv s a).n ≤ 9000 ∧ (rv s a).n + 4 ≤ s.size - (rv s a).e ∧
    s.extract (rv s a).e.toNat ((rv s a).e.toNat + 4) = fourT (sumOf (s.extract ((rv s a).e.toNat + 4) ((rv s a).e.toNat + 4 + (rv s a).n.toNat))) then
    ⟨s.extract ((rv s a).e.toNat + 4) ((rv s a).e.toNat + 4 + (rv s a).n.toNat), (rv s a).e + 4 + (rv s a).n, true⟩ else frNo
theorem extract_len {s : ByteArray} {i j : Nat} (h : j ≤ s.size) : (s.extract i j).size = j - i := by
  simp [ByteArray.size_extract]; omega
set_option maxRecDepth 100000 in
set_option maxHeartbeats 1000000 in
theorem frameAt_any (s : ByteArray) (a : Nat) (w : World) (hs : s.size ≤ 16777216) (ha : a ≤ s.size) :
    Calls Try.prog 216 #[.string s, .int .i64 a] w fun e w' => e = .returned (.tuple #[.string (frAt s a).t, .int .i64 (frAt s a).e, .bool (frAt s a).ok]) ∧ Fr w w' := by
  obtain ⟨r, hr⟩ : ∃ r, frAt s (a : Int) = r := ⟨_, rfl⟩
  have HR := Lib.hid hr
  rw [hr]
  clear hr
  cases hok : (rv s (a : Int)).ok
  · have HN : Hid (r = frNo) := by show _ = _; rw [← HR.out]; unfold frAt; rw [if_neg (by rw [hok]; simp)]
    go_enter Try.func216, Try.ntmps216
    go_wp2_with (go_at_call 108; refine (implReadVar_any s _ _ hs).mono ?_; rintro e w1 ⟨rfl, rfl⟩)
    go_ret3
    rw [HN.out]
    exact ⟨rfl, by repeat (first | (with_reducible exact Fr.refl _) | (with_reducible assumption) | (with_reducible refine Fr.drewN ?_ _) | (with_reducible refine Fr.drew ?_) | (with_reducible refine Fr.alloc ?_ _) | (with_reducible refine Fr.setCell ?_ (by (first | (with_reducible assumption) | omega | (simp only [World.size_alloc, World.size_setCell, World.size_drew, World.heap_drewN]; omega) | (simp; done) | (simp; omega))) _) | (with_reducible refine Fr.trans ?_ (by with_reducible assumption)))⟩
  · obtain ⟨n, j, hn, he, hj, hn9, hbytes⟩ := rv_ok ha hok
    obtain ⟨p, hp⟩ : ∃ p, a + j + 1 = p := ⟨_, rfl⟩
    rw [hp] at he hj
    have hfr : Hid (r = if 1 ≤ n ∧ n ≤ 9000 ∧ n + 4 + p ≤ s.size ∧ s.extract p (p + 4) = fourT (sumOf (s.extract (p + 4) (p + 4 + n))) then ⟨s.extract (p + 4) (p + 4 + n), ((p + 4 + n : Nat) : Int), true⟩ else frNo) := by
      show _ = _
      rw [← HR.out]
      unfold frAt
      rw [hok, hn, he]
      simp only [Int.toNat_natCast, true_and]
      by_cases hc : 1 ≤ n ∧ n ≤ 9000 ∧ n + 4 + p ≤ s.size ∧ s.extract p (p + 4) = fourT (sumOf (s.extract (p + 4) (p + 4 + n)))
      · rw [if_pos hc, if_pos ⟨by omega, by omega, by omega, hc.2.2.2⟩]
        congr 1
      · rw [if_neg hc, if_neg (fun h => hc ⟨by omega, by omega, by omega, h.2.2.2⟩)]
    clear hbytes hp HR
    by_cases h1 : 1 ≤ n ∧ n ≤ 9000
    · obtain ⟨h1, h2⟩ := h1
      by_cases h3 : n + 4 + p ≤ s.size
      · have hx : (s.extract (p + 4) (p + 4 + n)).size = n := by rw [extract_len (by omega)]; omega
        obtain ⟨t, ht⟩ : ∃ t, s.extract (p + 4) (p + 4 + n) = t := ⟨_, rfl⟩
        rw [ht] at hx hfr
        have hts : t.size ≤ maxLen := by unfold maxLen; omega
        have hw1 : IntKind.i64.wrap ((p : Int) + 4) = (p : Int) + 4 := IntWalk.i64_in _ (by omega)
        have hw2 : (0 : Int) ≤ (p : Int) := by omega
        have hw3 : (p : Int) ≤ (p : Int) + 4 := by omega
        have hw4 : (p : Int) + 4 ≤ s.size := by omega
        have hw5 : (0 : Int) ≤ (p : Int) + 4 := by omega
        have hw6 : ((p : Int) + 4).toNat = p + 4 := by omega
        by_cases h4 : s.extract p (p + 4) = fourT (sumOf t)
        · have HY : Hid (r = ⟨t, ((p + 4 + n : Nat) : Int), true⟩) := by show _ = _; rw [hfr.out, if_pos ⟨h1, h2, h3, h4⟩]
          have hq1 := bytes_beq h4
          clear hfr h4 hx
          go_enter Try.func216, Try.ntmps216
          go_wp2_with (go_at_call 108; refine (implReadVar_any s _ _ hs).mono ?_; rintro e w1 ⟨rfl, rfl⟩)
          go_region_held3 (fun w' => Fr w w') (repeat (first | (with_reducible exact Fr.refl _) | (with_reducible assumption) | (with_reducible refine Fr.drewN ?_ _) | (with_reducible refine Fr.drew ?_) | (with_reducible refine Fr.alloc ?_ _) | (with_reducible refine Fr.setCell ?_ (by (first | (with_reducible assumption) | omega | (simp only [World.size_alloc, World.size_setCell, World.size_drew, World.heap_drewN]; omega) | (simp; done) | (simp; omega))) _) | (with_reducible refine Fr.trans ?_ (by with_reducible assumption)))) (first | (go_at_call 210; refine (sumText_any t _ hts).mono ?_; rintro e w2 ⟨rfl, hf2⟩))
          go_wp2_with fail
          go_ret3
          rw [HY.out]
          exact ⟨by simp, by repeat (first | (with_reducible exact Fr.refl _) | (with_reducible assumption) | (with_reducible refine Fr.drewN ?_ _) | (with_reducible refine Fr.drew ?_) | (with_reducible refine Fr.alloc ?_ _) | (with_reducible refine Fr.setCell ?_ (by (first | (with_reducible assumption) | omega | (simp only [World.size_alloc, World.size_setCell, World.size_drew, World.heap_drewN]; omega) | (simp; done) | (simp; omega))) _) | (with_reducible refine Fr.trans ?_ (by with_reducible assumption)))⟩
        · have HN : Hid (r = frNo) := by show _ = _; rw [hfr.out, if_neg (fun h => h4 h.2.2.2)]
          have hq1 := bytes_bne h4
          clear hfr h4 hx
          go_enter Try.func216, Try.ntmps216
          go_wp2_with (go_at_call 108; refine (implReadVar_any s _ _ hs).mono ?_; rintro e w1 ⟨rfl, rfl⟩)
          go_region_held3 (fun w' => Fr w w') (repeat (first | (with_reducible exact Fr.refl _) | (with_reducible assumption) | (with_reducible refine Fr.drewN ?_ _) | (with_reducible refine Fr.drew ?_) | (with_reducible refine Fr.alloc ?_ _) | (with_reducible refine Fr.setCell ?_ (by (first | (with_reducible assumption) | omega | (simp only [World.size_alloc, World.size_setCell, World.size_drew, World.heap_drewN]; omega) | (simp; done) | (simp; omega))) _) | (with_reducible refine Fr.trans ?_ (by with_reducible assumption)))) (first | (go_at_call 210; refine (sumText_any t _ hts).mono ?_; rintro e w2 ⟨rfl, hf2⟩))
          go_wp2_with fail
          go_ret3
          rw [HN.out]
          exact ⟨rfl, by repeat (first | (with_reducible exact Fr.refl _) | (with_reducible assumption) | (with_reducible refine Fr.drewN ?_ _) | (with_reducible refine Fr.drew ?_) | (with_reducible refine Fr.alloc ?_ _) | (with_reducible refine Fr.setCell ?_ (by (first | (with_reducible assumption) | omega | (simp only [World.size_alloc, World.size_setCell, World.size_drew, World.heap_drewN]; omega) | (simp; done) | (simp; omega))) _) | (with_reducible refine Fr.trans ?_ (by with_reducible assumption)))⟩
      · have HN : Hid (r = frNo) := by show _ = _; rw [hfr.out, if_neg (fun h => h3 h.2.2.1)]
        clear hfr
        go_enter Try.func216, Try.ntmps216
        go_wp2_with (go_at_call 108; refine (implReadVar_any s _ _ hs).mono ?_; rintro e w1 ⟨rfl, rfl⟩)
        go_ret3
        rw [HN.out]
        exact ⟨rfl, by repeat (first | (with_reducible exact Fr.refl _) | (with_reducible assumption) | (with_reducible refine Fr.drewN ?_ _) | (with_reducible refine Fr.drew ?_) | (with_reducible refine Fr.alloc ?_ _) | (with_reducible refine Fr.setCell ?_ (by (first | (with_reducible assumption) | omega | (simp only [World.size_alloc, World.size_setCell, World.size_drew, World.heap_drewN]; omega) | (simp; done) | (simp; omega))) _) | (with_reducible refine Fr.trans ?_ (by with_reducible assumption)))⟩
    · have HN : Hid (r = frNo) := by show _ = _; rw [hfr.out, if_neg (fun h => h1 ⟨h.1, h.2.1⟩)]
      clear hfr
      by_cases h2 : n < 1
      · go_enter Try.func216, Try.ntmps216
        go_wp2_with (go_at_call 108; refine (implReadVar_any s _ _ hs).mono ?_; rintro e w1 ⟨rfl, rfl⟩)
        go_ret3
        rw [HN.out]
        exact ⟨rfl, by repeat (first | (with_reducible exact Fr.refl _) | (with_reducible assumption) | (with_reducible refine Fr.drewN ?_ _) | (with_reducible refine Fr.drew ?_) | (with_reducible refine Fr.alloc ?_ _) | (with_reducible refine Fr.setCell ?_ (by (first | (with_reducible assumption) | omega | (simp only [World.size_alloc, World.size_setCell, World.size_drew, World.heap_drewN]; omega) | (simp; done) | (simp; omega))) _) | (with_reducible refine Fr.trans ?_ (by with_reducible assumption)))⟩
      · have h3 : 9000 < n := by omega
        go_enter Try.func216, Try.ntmps216
        go_wp2_with (go_at_call 108; refine (implReadVar_any s _ _ hs).mono ?_; rintro e w1 ⟨rfl, rfl⟩)
        go_ret3
        rw [HN.out]
        exact ⟨rfl, by repeat (first | (with_reducible exact Fr.refl _) | (with_reducible assumption) | (with_reducible refine Fr.drewN ?_ _) | (with_reducible refine Fr.drew ?_) | (with_reducible refine Fr.alloc ?_ _) | (with_reducible refine Fr.setCell ?_ (by (first | (with_reducible assumption) | omega | (simp only [World.size_alloc, World.size_setCell, World.size_drew, World.heap_drewN]; omega) | (simp; done) | (simp; omega))) _) | (with_reducible refine Fr.trans ?_ (by with_reducible assumption)))⟩
theorem frAt_ok {s : ByteArray} {a : Nat} (ha : a ≤ s.size) (h : (frAt s (a : Int)).ok = true) : ∃ e : Nat, (frAt s (a : Int)).e = (e : Int) ∧ a < e ∧ e ≤ s.size ∧ (frAt s (a : Int)).t.size ≤ 9000 := by
  unfold frAt at h ⊢
  split at h
  · rename_i hc
    obtain ⟨n, j, hn, he, hj, hn9, hbytes⟩ := rv_ok ha hc.1
    rw [if_pos hc]
    obtain ⟨_, h1, h2, h3, h4⟩ := hc
    rw [hn] at h1 h2 h3
    rw [he] at h3
    refine ⟨a + j + 1 + 4 + n, by rw [hn, he]; push_cast; omega, by omega, by omega, ?_⟩
    show (s.extract _ _).size ≤ 9000
    rw [hn, he, ByteArray.size_extract]
    simp only [Int.toNat_natCast]
    omega
  · simp [frNo] at h
/-- All frames from a place on. -/
def unfGo (s : ByteArray) : Nat → Nat → List ByteArray × Nat
  | 0, a => ([], a)
  | f + 1, a => if (frAt s a).ok = true then ((frAt s a).t :: (unfGo s f (frAt s a).e.toNat).1, (unfGo s f (frAt s a).e.toNat).2) else ([], a)
def unf (s : ByteArray) : List ByteArray × Nat := if s.size ≤ 20000 then unfGo s (s.size + 1) 0 else ([], 0)
theorem unfGo_len (s : ByteArray) : ∀ (f a : Nat), a ≤ s.size → (unfGo s f a).1.length + a ≤ s.size
  | 0, a, h => by simpa [unfGo] using h
  | f + 1, a, h => by
    rw [unfGo]
    split
    · rename_i hok
      obtain ⟨e, h1, h2, h3, _⟩ := frAt_ok h hok
      have := unfGo_len s f e h3
      rw [h1]
      simp only [Int.toNat_natCast, List.length_cons]
      omega
    · simpa using h
theorem unf_len (s : ByteArray) : (unf s).1.length ≤ 20000 := by
  unfold unf
  split
  · have := unfGo_len s (s.size + 1) 0 (Nat.zero_le _); omega
  · simp
set_option maxRecDepth 100000 in
set_option maxHeartbeats 1000000 in
theorem implUnframe_any (s : ByteArray) (w : World) (hs : s.size ≤ 1048576) :
    Calls Try.prog 175 #[.string s] w fun e w' => ∃ ao cap, e = .returned (.tuple #[.slice ao (unf s).1.length cap, .int .i64 (unf s).2]) ∧ StrsW w' w.heap.size w'.heap.size (.slice ao (unf s).1.length cap) (unf s).1 ∧ Fr w w' := by
  obtain ⟨i0, hi, hz0, hz1, hz2⟩ := info_parts info_string
  obtain ⟨U, hU⟩ : ∃ U, unf s = U := ⟨_, rfl⟩
  have HU := Lib.hid hU
  rw [hU]
  clear hU
  by_cases hl : s.size ≤ 20000
  · have H0 : Hid (unfGo s (s.size + 1) 0 = U) := by show _ = _; rw [← HU.out]; unfold unf; rw [if_pos hl]
    go_enter Try.func175, Try.ntmps175
    go_wp2_with fail
    go_loopw [4, 5] (fun o p wr => ∃ (a f : Nat) (acc : List ByteArray) (ao : Option Addr) (cap : Nat), p = .int .i64 a ∧ o = .slice ao acc.length cap ∧ a ≤ s.size ∧ s.size + 1 ≤ f + a ∧ acc.length ≤ a ∧ wr.ownsRow w.heap.size 9 1 (.slice ao acc.length cap) acc.length (acc.map Value.string) ∧ Fr w wr ∧ Hid (acc ++ (unfGo s f a).1 = U.1 ∧ (unfGo s f a).2 = U.2)) (fun _ p _ => s.size - (intOf p).toNat)
    case atStart => exact ⟨0, s.size + 1, [], none, 0, rfl, rfl, Nat.zero_le _, by omega, Nat.zero_le _, World.ownsRow_nil _ _ _ _, Fr.refl _, by show _ ∧ _; rw [H0.out]; exact ⟨rfl, rfl⟩⟩
    case round =>
      clear H0
      obtain ⟨a, f, acc, ao, cap, rfl, rfl, ha, hf, hacc, ho, hfr, hinv⟩ := hrel
      obtain ⟨f, rfl⟩ : ∃ g, f = g + 1 := ⟨f - 1, by omega⟩
      have hzr := hfr.size
      cases hok : (frAt s (a : Int)).ok
      · have HI : Hid (acc = U.1 ∧ a = U.2) := by
          show _ ∧ _
          have := hinv.out
          rw [unfGo, if_neg (by rw [hok]; simp)] at this
          simpa using this
        go_wp2_with (go_at_call 216; refine (frameAt_any s a _ (by omega) ha).mono ?_; rintro e w2 ⟨rfl, hf2⟩)
        go_ret2
        rw [← HI.out.1, ← HI.out.2]
        exact ⟨ao, cap, rfl, OwW.of_owns (owns_fr ho (by repeat (first | (with_reducible exact Fr.refl _) | (with_reducible assumption) | (with_reducible refine Fr.drewN ?_ _) | (with_reducible refine Fr.drew ?_) | (with_reducible refine Fr.alloc ?_ _) | (with_reducible refine Fr.setCell ?_ (by (first | (with_reducible assumption) | omega | (simp only [World.size_alloc, World.size_setCell, World.size_drew, World.heap_drewN]; omega) | (simp; done) | (simp; omega))) _) | (with_reducible refine Fr.trans ?_ (by with_reducible assumption))))), by repeat (first | (with_reducible exact Fr.refl _) | (with_reducible assumption) | (with_reducible refine Fr.drewN ?_ _) | (with_reducible refine Fr.drew ?_) | (with_reducible refine Fr.alloc ?_ _) | (with_reducible refine Fr.setCell ?_ (by (first | (with_reducible assumption) | omega | (simp only [World.size_alloc, World.size_setCell, World.size_drew, World.heap_drewN]; omega) | (simp; done) | (simp; omega))) _) | (with_reducible refine Fr.trans ?_ (by with_reducible assumption)))⟩
      · obtain ⟨e, he1, he2, he3, _⟩ := frAt_ok ha hok
        obtain ⟨t, ht⟩ : ∃ t, (frAt s (a : Int)).t = t := ⟨_, rfl⟩
        have HI : Hid ((acc ++ [t]) ++ (unfGo s f e).1 = U.1 ∧ (unfGo s f e).2 = U.2) := by
          show _ ∧ _
          have := hinv.out
          rw [unfGo, if_pos hok, he1, Int.toNat_natCast, ht] at this
          refine ⟨?_, this.2⟩
          rw [List.append_assoc]
          exact this.1
        go_wp2_with (first | (go_at_call 216; refine (frameAt_any s a _ (by omega) ha).mono ?_; rintro e w2 ⟨rfl, hf2⟩; have hz2' := hf2.size) | (at_builtin; refine wpList_append_rd rfl _ _ 107 rfl w.heap.size 9 i0 (.string ⟨#[]⟩) 1 16 Try.underlying107 hi hz0 hz1 hz2 rfl (by decide) (.slice ao acc.length cap) acc.length (acc.map Value.string) rfl (by exact owns_lo (owns_ab ho (by repeat (first | (with_reducible exact Ab.refl _ _) | (with_reducible assumption) | (with_reducible refine Ab.drewN ?_ _) | (with_reducible refine Ab.drew ?_) | (with_reducible refine Ab.alloc ?_ _) | (with_reducible refine Ab.setCell ?_ (by (first | (with_reducible assumption) | omega | (simp only [World.size_alloc, World.size_setCell, World.size_drew, World.heap_drewN]; omega) | (simp; done) | (simp; omega))) _) | (with_reducible refine Ab.fr ?_ (by with_reducible assumption))))) (by (first | (with_reducible assumption) | omega | (simp only [World.size_alloc, World.size_setCell, World.size_drew, World.heap_drewN]; omega) | (simp; done) | (simp; omega)))) _ 1 [.string t] rfl (RdS.new (by simp) rfl) (by simp [Value.oneCell']) (by unfold maxLen; omega) (by omega) (by (first | (with_reducible assumption) | omega | (simp only [World.size_alloc, World.size_setCell, World.size_drew, World.heap_drewN]; omega) | (simp; done) | (simp; omega))) ?_; intro ao3 cap3 w3 hown hgrow hat))
        have hf3 : Fr w w3 := Fr.app (show Fr w _ by repeat (first | (with_reducible exact Fr.refl _) | (with_reducible assumption) | (with_reducible refine Fr.drewN ?_ _) | (with_reducible refine Fr.drew ?_) | (with_reducible refine Fr.alloc ?_ _) | (with_reducible refine Fr.setCell ?_ (by (first | (with_reducible assumption) | omega | (simp only [World.size_alloc, World.size_setCell, World.size_drew, World.heap_drewN]; omega) | (simp; done) | (simp; omega))) _) | (with_reducible refine Fr.trans ?_ (by with_reducible assumption)))) hgrow (RowIn.of_owns ho) (Nat.le_refl _)
        have hX : w3.ownsRow w.heap.size 9 1 (.slice ao3 (acc ++ [t]).length cap3) (acc ++ [t]).length ((acc ++ [t]).map Value.string) := by
          simp only [List.length_append, List.length_singleton, List.map_append, List.map_cons, List.map_nil]
          exact hown
        clear hown hgrow
        go_roundw
        case rel => exact ⟨e, f, acc ++ [t], ao3, cap3, rfl, by simp, he3, by omega, by simp; omega, hX, hf3, HI⟩
        case measure => simp [intOf]; omega
  · have H0 : Hid (U = ([], 0)) := by show _ = _; rw [← HU.out]; unfold unf; rw [if_neg hl]
    go_enter Try.func175, Try.ntmps175
    go_wp2_with fail
    go_ret2
    rw [H0.out]
    exact ⟨none, 0, rfl, StrsW.nil _ _ _, by repeat (first | (with_reducible exact Fr.refl _) | (with_reducible assumption) | (with_reducible refine Fr.drewN ?_ _) | (with_reducible refine Fr.drew ?_) | (with_reducible refine Fr.alloc ?_ _) | (with_reducible refine Fr.setCell ?_ (by (first | (with_reducible assumption) | omega | (simp only [World.size_alloc, World.size_setCell, World.size_drew, World.heap_drewN]; omega) | (simp; done) | (simp; omega))) _) | (with_reducible refine Fr.trans ?_ (by with_reducible assumption)))⟩
end Go.Proofs.Ytjgghiniajmfjaa

/- Frames read from a file: the contract of spec.Unframe. Condition: the file has at most 2^20 bytes. -/
namespace Go.Proofs.Ytjgghiniajmfjaa
open Go.RowKit
set_option linter.unusedVariables false
set_option linter.unusedSimpArgs false
theorem frAt_eq {s : ByteArray} {a n p : Nat} (hok : (rv s (a : Int)).ok = true) (hn : (rv s (a : Int)).n = (n : Int)) (he : (rv s (a : Int)).e = (p : Int)) :
    frAt s (a : Int) = if 1 ≤ n ∧ n ≤ 9000 ∧ n + 4 + p ≤ s.size ∧ s.extract p (p + 4) = fourT (sumOf (s.extract (p + 4) (p + 4 + n))) then ⟨s.extract (p + 4) (p + 4 + n), ((p + 4 + n : Nat) : Int), true⟩ else frNo := by
  unfold frAt
  rw [hok, hn, he]
  simp only [Int.toNat_natCast, true_and]
  by_cases hc : 1 ≤ n ∧ n ≤ 9000 ∧ n + 4 + p ≤ s.size ∧ s.extract p (p + 4) = fourT (sumOf (s.extract (p + 4) (p + 4 + n)))
  · rw [if_pos hc, if_pos ⟨by omega, by omega, by omega, hc.2.2.2⟩]
    congr 1
  · rw [if_neg hc, if_neg (fun h => hc ⟨by omega, by omega, by omega, h.2.2.2⟩)]
theorem bytesAt_add (s : ByteArray) (a i j : Nat) : bytesAt s a (i + j) = bytesAt s a i ++ bytesAt s (a + i) j := by
  unfold bytesAt
  rw [List.take_add, List.drop_drop]
theorem frame_iff {s t : ByteArray} {a j n : Nat} (hv : varL n = bytesAt s a (j + 1)) (ht : s.extract (a + j + 1 + 4) (a + j + 1 + 4 + n) = t) (hn : t.size = n) (hs : a + j + 1 + 4 + n ≤ s.size) :
    frameT t = s.extract a (a + j + 1 + 4 + n) ↔ s.extract (a + j + 1) (a + j + 1 + 4) = fourT (sumOf t) := by
  have hr : (s.extract a (a + j + 1 + 4 + n)).data.toList = bytesAt s a (j + 1) ++ bytesAt s (a + j + 1) 4 ++ bytesAt s (a + j + 1 + 4) n := by
    rw [show a + j + 1 + 4 + n = a + ((j + 1) + 4 + n) by omega, extract_bytes, bytesAt_add, bytesAt_add, show a + (j + 1) = a + j + 1 by omega, show a + ((j + 1) + 4) = a + j + 1 + 4 by omega]
  have hl : (frameT t).data.toList = varL n ++ (fourT (sumOf t)).data.toList ++ t.data.toList := by
    unfold frameT vText
    rw [hn]
    simp [ByteArray.data_append, Array.toList_append]
  have ht2 : t.data.toList = bytesAt s (a + j + 1 + 4) n := by rw [← ht, extract_bytes]
  constructor
  · intro h
    apply WideShapes.bytes_inj
    rw [extract_bytes]
    have h2 : (frameT t).data.toList = (s.extract a (a + j + 1 + 4 + n)).data.toList := by rw [h]
    rw [hl, hr, hv, ht2] at h2
    have h3 := List.append_cancel_right h2
    exact (List.append_cancel_left h3).symm
  · intro h
    apply WideShapes.bytes_inj
    rw [hl, hr, hv, ht2, ← h, extract_bytes]
theorem rv_end (s : ByteArray) : (rv s (s.size : Int)).ok = false := by
  unfold rv
  rw [if_pos ⟨by omega, by omega⟩, rvGo, dif_neg (by simp)]
  rfl
theorem frAt_end (s : ByteArray) : (frAt s (s.size : Int)).ok = false := by
  unfold frAt
  rw [if_neg (by rw [rv_end]; simp)]
  rfl
set_option maxRecDepth 100000 in
set_option maxHeartbeats 2000000 in
theorem specUnframe_any (s : ByteArray) (w : World) (hs : s.size ≤ 1048576) :
    Calls Try.prog 100 #[.string s] w fun e w' => ∃ ao cap, e = .returned (.tuple #[.slice ao (unf s).1.length cap, .int .i64 (unf s).2]) ∧ StrsW w' w.heap.size w'.heap.size (.slice ao (unf s).1.length cap) (unf s).1 ∧ Fr w w' := by
  obtain ⟨i0, hi, hz0, hz1, hz2⟩ := info_parts info_string
  obtain ⟨U, hU⟩ : ∃ U, unf s = U := ⟨_, rfl⟩
  have HU := Lib.hid hU
  rw [hU]
  clear hU
  by_cases hl : s.size ≤ 20000
  · have H0 : Hid (unfGo s (s.size + 1) 0 = U) := by show _ = _; rw [← HU.out]; unfold unf; rw [if_pos hl]
    go_enter Try.func100, Try.ntmps100
    go_wp2_with fail
    go_loopw [4, 5] (fun o p wr => ∃ (a f : Nat) (acc : List ByteArray) (ao : Option Addr) (cap : Nat), p = .int .i64 a ∧ o = .slice ao acc.length cap ∧ a ≤ s.size ∧ s.size + 1 ≤ f + a ∧ acc.length ≤ a ∧ wr.ownsRow w.heap.size 9 1 (.slice ao acc.length cap) acc.length (acc.map Value.string) ∧ Fr w wr ∧ Hid (acc ++ (unfGo s f a).1 = U.1 ∧ (unfGo s f a).2 = U.2)) (fun _ p _ => s.size - (intOf p).toNat)
    case atStart => exact ⟨0, s.size + 1, [], some ⟨w.heap.size, 0, none⟩, 0, rfl, rfl, Nat.zero_le _, by omega, Nat.zero_le _, made_empty rfl (Nat.le_refl _), by repeat (first | (with_reducible exact Fr.refl _) | (with_reducible assumption) | (with_reducible refine Fr.drewN ?_ _) | (with_reducible refine Fr.drew ?_) | (with_reducible refine Fr.alloc ?_ _) | (with_reducible refine Fr.setCell ?_ (by (first | (with_reducible assumption) | omega | (simp only [World.size_alloc, World.size_setCell, World.size_drew, World.heap_drewN]; omega) | (simp; done) | (simp; omega))) _) | (with_reducible refine Fr.trans ?_ (by with_reducible assumption))), by show _ ∧ _; rw [H0.out]; exact ⟨rfl, rfl⟩⟩
    case round =>
      clear H0
      obtain ⟨a, f, acc, ao, cap, rfl, rfl, ha, hf, hacc, ho, hfr, hinv⟩ := hrel
      obtain ⟨f, rfl⟩ : ∃ g, f = g + 1 := ⟨f - 1, by omega⟩
      have hzr := hfr.size
      have hstop : (frAt s (a : Int)).ok = false → Hid (acc = U.1 ∧ a = U.2) := by
        intro hok
        show _ ∧ _
        have := hinv.out
        rw [unfGo, if_neg (by rw [hok]; simp)] at this
        simpa using this
      by_cases hlt : a < s.size
      · cases hok : (rv s (a : Int)).ok
        · have HI := hstop (by unfold frAt; rw [if_neg (by rw [hok]; simp)]; rfl)
          clear hstop
          go_wp2_with (go_at_call 101; refine (specReadVar_any s _ _ (by omega)).mono ?_; rintro e w1 ⟨rfl, hf1⟩)
          go_ret2
          rw [← HI.out.1, ← HI.out.2]
          exact ⟨ao, cap, rfl, OwW.of_owns (owns_fr ho (by repeat (first | (with_reducible exact Fr.refl _) | (with_reducible assumption) | (with_reducible refine Fr.drewN ?_ _) | (with_reducible refine Fr.drew ?_) | (with_reducible refine Fr.alloc ?_ _) | (with_reducible refine Fr.setCell ?_ (by (first | (with_reducible assumption) | omega | (simp only [World.size_alloc, World.size_setCell, World.size_drew, World.heap_drewN]; omega) | (simp; done) | (simp; omega))) _) | (with_reducible refine Fr.trans ?_ (by with_reducible assumption))))), by repeat (first | (with_reducible exact Fr.refl _) | (with_reducible assumption) | (with_reducible refine Fr.drewN ?_ _) | (with_reducible refine Fr.drew ?_) | (with_reducible refine Fr.alloc ?_ _) | (with_reducible refine Fr.setCell ?_ (by (first | (with_reducible assumption) | omega | (simp only [World.size_alloc, World.size_setCell, World.size_drew, World.heap_drewN]; omega) | (simp; done) | (simp; omega))) _) | (with_reducible refine Fr.trans ?_ (by with_reducible assumption)))⟩
        · obtain ⟨n, j, hn, he, hj, hn9, hbytes⟩ := rv_ok ha hok
          have heq := frAt_eq hok hn he
          by_cases h3 : n + 4 + (a + j + 1) ≤ s.size
          · obtain ⟨t, ht⟩ : ∃ t, s.extract (a + j + 1 + 4) (a + j + 1 + 4 + n) = t := ⟨_, rfl⟩
            have hx : t.size = n := by rw [← ht, extract_len (by omega)]; omega
            have hts : t.size ≤ maxLen := by unfold maxLen; omega
            have hiff := frame_iff hbytes ht hx (by omega)
            rw [ht] at heq
            obtain ⟨p, hp⟩ : ∃ p, a + j + 1 = p := ⟨_, rfl⟩
            have hap : a ≤ p := by omega
            rw [hp] at he hj heq hiff ht h3
            have HT := Lib.hid ht
            by_cases hb : 1 ≤ n ∧ n ≤ 9000
            · have hfb : frameB t = true := by unfold frameB; rw [hx]; exact decide_eq_true hb
              have hfR : frameR t = frameT t := frameR_ok hfb
              by_cases h4 : s.extract p (p + 4) = fourT (sumOf t)
              · have hok2 : frAt s (a : Int) = ⟨t, ((p + 4 + n : Nat) : Int), true⟩ := by rw [heq, if_pos ⟨hb.1, hb.2, h3, h4⟩]
                have HI : Hid ((acc ++ [t]) ++ (unfGo s f (p + 4 + n)).1 = U.1 ∧ (unfGo s f (p + 4 + n)).2 = U.2) := by
                  show _ ∧ _
                  have := hinv.out
                  rw [unfGo, if_pos (by rw [hok2]), hok2] at this
                  simp only [Int.toNat_natCast] at this
                  refine ⟨?_, this.2⟩
                  rw [List.append_assoc]
                  exact this.1
                have hq := bytes_beq (hfR.trans (hiff.2 h4))
                have HFR := Lib.hid hfR
                clear hok2 hfR h4
                have hw1 : IntKind.i64.wrap ((p : Int) + 4) = (p : Int) + 4 := IntWalk.i64_in _ (by omega)
                have hw6 : ((p : Int) + 4).toNat = p + 4 := by clear hw1; omega
                have hw7 : ((p : Int) + 4 + n).toNat = p + 4 + n := by clear hw1; omega
                have hw8 : (0 : Int) ≤ (a : Int) := by clear hw1; omega
                have hw9 : (a : Int) ≤ (p : Int) + 4 + n := by clear hw1; omega
                have hw10 : (p : Int) + 4 + n ≤ s.size := by clear hw1; omega
                clear hbytes heq hiff hstop
                go_wp2_with (first | (go_at_call 101; refine (specReadVar_any s _ _ (by omega)).mono ?_; rintro e w1 ⟨rfl, hf1⟩; have hz1' := hf1.size) | (go_at_call 128; refine (specFrame_any t _ hts).mono ?_; rintro e w2 ⟨rfl, hf2⟩; have hz2' := hf2.size) | (at_builtin; refine wpList_append_rd rfl _ _ 107 rfl w.heap.size 9 i0 (.string ⟨#[]⟩) 1 16 Try.underlying107 hi hz0 hz1 hz2 rfl (by decide) (.slice ao acc.length cap) acc.length (acc.map Value.string) rfl (by exact owns_lo (owns_ab ho (by repeat (first | (with_reducible exact Ab.refl _ _) | (with_reducible assumption) | (with_reducible refine Ab.drewN ?_ _) | (with_reducible refine Ab.drew ?_) | (with_reducible refine Ab.alloc ?_ _) | (with_reducible refine Ab.setCell ?_ (by (first | (with_reducible assumption) | omega | (simp only [World.size_alloc, World.size_setCell, World.size_drew, World.heap_drewN]; omega) | (simp; done) | (simp; omega))) _) | (with_reducible refine Ab.fr ?_ (by with_reducible assumption))))) (by (first | (with_reducible assumption) | omega | (simp only [World.size_alloc, World.size_setCell, World.size_drew, World.heap_drewN]; omega) | (simp; done) | (simp; omega)))) _ 1 [.string t] rfl (RdS.new (by first | rfl | (simp; done)) rfl) (by simp [Value.oneCell']) (by unfold maxLen; omega) (by omega) (by (first | (with_reducible assumption) | omega | (simp only [World.size_alloc, World.size_setCell, World.size_drew, World.heap_drewN]; omega) | (simp; done) | (simp; omega))) ?_; intro ao3 cap3 w3 hown hgrow hat))
                have hf3 : Fr w w3 := Fr.app (show Fr w _ by repeat (first | (with_reducible exact Fr.refl _) | (with_reducible assumption) | (with_reducible refine Fr.drewN ?_ _) | (with_reducible refine Fr.drew ?_) | (with_reducible refine Fr.alloc ?_ _) | (with_reducible refine Fr.setCell ?_ (by (first | (with_reducible assumption) | omega | (simp only [World.size_alloc, World.size_setCell, World.size_drew, World.heap_drewN]; omega) | (simp; done) | (simp; omega))) _) | (with_reducible refine Fr.trans ?_ (by with_reducible assumption)))) hgrow (RowIn.of_owns ho) (Nat.le_refl _)
                have hX : w3.ownsRow w.heap.size 9 1 (.slice ao3 (acc ++ [t]).length cap3) (acc ++ [t]).length ((acc ++ [t]).map Value.string) := by
                  simp only [List.length_append, List.length_singleton, List.map_append, List.map_cons, List.map_nil]
                  exact hown
                clear hown hgrow
                go_roundw
                case rel => exact ⟨p + 4 + n, f, acc ++ [t], ao3, cap3, by go_num, by simp, by omega, by omega, by simp; omega, hX, hf3, HI⟩
                case measure => simp [intOf]; omega
              · have HI := hstop (by rw [heq, if_neg (fun h => h4 h.2.2.2)]; rfl)
                have hq := bytes_bne (show ¬ frameR t = s.extract a (p + 4 + n) by rw [hfR]; exact fun h => h4 (hiff.1 h))
                have HFR := Lib.hid hfR
                clear hfR h4
                have hw1 : IntKind.i64.wrap ((p : Int) + 4) = (p : Int) + 4 := IntWalk.i64_in _ (by omega)
                have hw6 : ((p : Int) + 4).toNat = p + 4 := by clear hw1; omega
                have hw7 : ((p : Int) + 4 + n).toNat = p + 4 + n := by clear hw1; omega
                have hw8 : (0 : Int) ≤ (a : Int) := by clear hw1; omega
                have hw9 : (a : Int) ≤ (p : Int) + 4 + n := by clear hw1; omega
                have hw10 : (p : Int) + 4 + n ≤ s.size := by clear hw1; omega
                clear hbytes heq hiff hstop
                go_wp2_with (first | (go_at_call 101; refine (specReadVar_any s _ _ (by omega)).mono ?_; rintro e w1 ⟨rfl, hf1⟩; have hz1' := hf1.size) | (go_at_call 128; refine (specFrame_any t _ hts).mono ?_; rintro e w2 ⟨rfl, hf2⟩; have hz2' := hf2.size))
                go_ret2
                rw [← HI.out.1, ← HI.out.2]
                exact ⟨ao, cap, rfl, OwW.of_owns (owns_fr ho (by repeat (first | (with_reducible exact Fr.refl _) | (with_reducible assumption) | (with_reducible refine Fr.drewN ?_ _) | (with_reducible refine Fr.drew ?_) | (with_reducible refine Fr.alloc ?_ _) | (with_reducible refine Fr.setCell ?_ (by (first | (with_reducible assumption) | omega | (simp only [World.size_alloc, World.size_setCell, World.size_drew, World.heap_drewN]; omega) | (simp; done) | (simp; omega))) _) | (with_reducible refine Fr.trans ?_ (by with_reducible assumption))))), by repeat (first | (with_reducible exact Fr.refl _) | (with_reducible assumption) | (with_reducible refine Fr.drewN ?_ _) | (with_reducible refine Fr.drew ?_) | (with_reducible refine Fr.alloc ?_ _) | (with_reducible refine Fr.setCell ?_ (by (first | (with_reducible assumption) | omega | (simp only [World.size_alloc, World.size_setCell, World.size_drew, World.heap_drewN]; omega) | (simp; done) | (simp; omega))) _) | (with_reducible refine Fr.trans ?_ (by with_reducible assumption)))⟩
            · have HI := hstop (by rw [heq, if_neg (fun h => hb ⟨h.1, h.2.1⟩)]; rfl)
              have hfb : frameB t = false := by unfold frameB; rw [hx]; exact decide_eq_false hb
              have hw1 : IntKind.i64.wrap ((p : Int) + 4) = (p : Int) + 4 := IntWalk.i64_in _ (by omega)
              have hw6 : ((p : Int) + 4).toNat = p + 4 := by clear hw1; omega
              have hw7 : ((p : Int) + 4 + n).toNat = p + 4 + n := by clear hw1; omega
              have hw8 : (0 : Int) ≤ (a : Int) := by clear hw1; omega
              have hw9 : (a : Int) ≤ (p : Int) + 4 + n := by clear hw1; omega
              have hw10 : (p : Int) + 4 + n ≤ s.size := by clear hw1; omega
              clear hbytes heq hiff hstop
              go_wp2_with (first | (go_at_call 101; refine (specReadVar_any s _ _ (by omega)).mono ?_; rintro e w1 ⟨rfl, hf1⟩; have hz1' := hf1.size) | (go_at_call 128; refine (specFrame_any t _ hts).mono ?_; rintro e w2 ⟨rfl, hf2⟩; have hz2' := hf2.size))
              go_ret2
              rw [← HI.out.1, ← HI.out.2]
              exact ⟨ao, cap, rfl, OwW.of_owns (owns_fr ho (by repeat (first | (with_reducible exact Fr.refl _) | (with_reducible assumption) | (with_reducible refine Fr.drewN ?_ _) | (with_reducible refine Fr.drew ?_) | (with_reducible refine Fr.alloc ?_ _) | (with_reducible refine Fr.setCell ?_ (by (first | (with_reducible assumption) | omega | (simp only [World.size_alloc, World.size_setCell, World.size_drew, World.heap_drewN]; omega) | (simp; done) | (simp; omega))) _) | (with_reducible refine Fr.trans ?_ (by with_reducible assumption))))), by repeat (first | (with_reducible exact Fr.refl _) | (with_reducible assumption) | (with_reducible refine Fr.drewN ?_ _) | (with_reducible refine Fr.drew ?_) | (with_reducible refine Fr.alloc ?_ _) | (with_reducible refine Fr.setCell ?_ (by (first | (with_reducible assumption) | omega | (simp only [World.size_alloc, World.size_setCell, World.size_drew, World.heap_drewN]; omega) | (simp; done) | (simp; omega))) _) | (with_reducible refine Fr.trans ?_ (by with_reducible assumption)))⟩
          · have HI := hstop (by rw [heq, if_neg (fun h => h3 h.2.2.1)]; rfl)
            obtain ⟨p, hp⟩ : ∃ p, a + j + 1 = p := ⟨_, rfl⟩
            rw [hp] at he hj h3
            clear hbytes heq hstop hp
            go_wp2_with (first | (go_at_call 101; refine (specReadVar_any s _ _ (by omega)).mono ?_; rintro e w1 ⟨rfl, hf1⟩; have hz1' := hf1.size) | (go_at_call 128; refine (specFrame_any t _ hts).mono ?_; rintro e w2 ⟨rfl, hf2⟩; have hz2' := hf2.size))
            go_ret2
            rw [← HI.out.1, ← HI.out.2]
            exact ⟨ao, cap, rfl, OwW.of_owns (owns_fr ho (by repeat (first | (with_reducible exact Fr.refl _) | (with_reducible assumption) | (with_reducible refine Fr.drewN ?_ _) | (with_reducible refine Fr.drew ?_) | (with_reducible refine Fr.alloc ?_ _) | (with_reducible refine Fr.setCell ?_ (by (first | (with_reducible assumption) | omega | (simp only [World.size_alloc, World.size_setCell, World.size_drew, World.heap_drewN]; omega) | (simp; done) | (simp; omega))) _) | (with_reducible refine Fr.trans ?_ (by with_reducible assumption))))), by repeat (first | (with_reducible exact Fr.refl _) | (with_reducible assumption) | (with_reducible refine Fr.drewN ?_ _) | (with_reducible refine Fr.drew ?_) | (with_reducible refine Fr.alloc ?_ _) | (with_reducible refine Fr.setCell ?_ (by (first | (with_reducible assumption) | omega | (simp only [World.size_alloc, World.size_setCell, World.size_drew, World.heap_drewN]; omega) | (simp; done) | (simp; omega))) _) | (with_reducible refine Fr.trans ?_ (by with_reducible assumption)))⟩
      · obtain rfl : a = s.size := by omega
        have HI := hstop (frAt_end s)
        clear hstop
        go_wp2_with fail
        go_ret2
        rw [← HI.out.1, ← HI.out.2]
        exact ⟨ao, cap, rfl, OwW.of_owns ho, by repeat (first | (with_reducible exact Fr.refl _) | (with_reducible assumption) | (with_reducible refine Fr.drewN ?_ _) | (with_reducible refine Fr.drew ?_) | (with_reducible refine Fr.alloc ?_ _) | (with_reducible refine Fr.setCell ?_ (by (first | (with_reducible assumption) | omega | (simp only [World.size_alloc, World.size_setCell, World.size_drew, World.heap_drewN]; omega) | (simp; done) | (simp; omega))) _) | (with_reducible refine Fr.trans ?_ (by with_reducible assumption)))⟩
  · have H0 : Hid (U = ([], 0)) := by show _ = _; rw [← HU.out]; unfold unf; rw [if_neg hl]
    go_enter Try.func100, Try.ntmps100
    go_wp2_with fail
    go_ret2
    rw [H0.out]
    exact ⟨_, _, rfl, OwW.of_owns (made_empty rfl (Nat.le_refl _)), by repeat (first | (with_reducible exact Fr.refl _) | (with_reducible assumption) | (with_reducible refine Fr.drewN ?_ _) | (with_reducible refine Fr.drew ?_) | (with_reducible refine Fr.alloc ?_ _) | (with_reducible refine Fr.setCell ?_ (by (first | (with_reducible assumption) | omega | (simp only [World.size_alloc, World.size_setCell, World.size_drew, World.heap_drewN]; omega) | (simp; done) | (simp; omega))) _) | (with_reducible refine Fr.trans ?_ (by with_reducible assumption)))⟩
end Go.Proofs.Ytjgghiniajmfjaa
