/- Rows of rows of ints, each in a block of its own, in any order: marks. No condition but the sizes. -/
import Derived.Test.YtmdgdnkllclpcaaGreatNIntSS
namespace Go.Proofs.YtmdgdnkllclpcaaGreat
open Go.RowKit
set_option linter.unusedVariables false
set_option linter.unusedSimpArgs false
theorem OwW.keep {w w' : World} {lo hi a b : Nat} {T : TypeId} {sz n : Nat} {v : Value} {xs : List Value} (h : OwW w lo hi T sz v n xs) (s : Span a b w w') (hd : ∀ g, v.ownBlock = some g → g < a ∨ b ≤ g) : OwW w' lo hi T sz v n xs := by
  obtain ⟨⟨h1, h2⟩, h3⟩ := h
  rcases h2 with h2 | ⟨g, cap, cur, hv, hg, hh, hr⟩
  · exact ⟨⟨h1, .inl h2⟩, h3⟩
  · refine ⟨⟨h1, .inr ⟨g, cap, cur, hv, hg, ?_, hr⟩⟩, h3⟩
    rw [s.block g (Array.getElem?_eq_some_iff.1 hh).1 (hd g (by rw [hv]; rfl))]
    exact hh
theorem OwW.tight {w : World} {lo hi : Nat} {T : TypeId} {sz n : Nat} {v : Value} {xs : List Value} (h : OwW w lo hi T sz v n xs) (hl : lo ≤ hi) : ∃ l k, OwW w l k T sz v n xs ∧ lo ≤ l ∧ l ≤ k ∧ k ≤ hi ∧ ∀ g, l ≤ g → g < k → v.ownBlock = some g := by
  obtain ⟨⟨h1, h2⟩, h3⟩ := h
  rcases h2 with h2 | ⟨g, cap, cur, hv, hg, hh, hr⟩
  · exact ⟨lo, lo, ⟨⟨h1, .inl h2⟩, fun g e => by rw [h2.1] at e; cases e⟩, Nat.le_refl _, Nat.le_refl _, hl, fun g p q => by omega⟩
  · have hb := h3 g (by rw [hv]; rfl)
    refine ⟨g, g + 1, ⟨⟨h1, .inr ⟨g, cap, cur, hv, Nat.le_refl _, hh, hr⟩⟩, fun q e => ?_⟩, hg, by omega, by omega, fun q p1 p2 => ?_⟩
    · rw [hv] at e; cases e; exact ⟨Nat.le_refl _, Nat.lt_succ_self _⟩
    · rw [show q = g by omega, hv]; rfl
/-- A row that reads, its block in [lo, hi) (its room may be less than its block's). -/
def RdW (w : World) (lo hi : Nat) (sz : Nat) (v : Value) (n : Nat) (xs : List Value) : Prop := RdS w sz v n xs ∧ RowIn lo hi v ∧ (0 < n → ∃ g c, v = .slice (some ⟨g, 0, none⟩) n c ∧ g < w.heap.size)
theorem RdW.of {w : World} {lo hi : Nat} {T : TypeId} {sz n : Nat} {v : Value} {xs : List Value} (h : OwW w lo hi T sz v n xs) : RdW w lo hi sz v n xs := by
  refine ⟨h.rd, h.2, fun hn => ?_⟩
  rcases owns_shape h.1 with ⟨_, h0, _⟩ | ⟨g, c, hv, b1, b2, _⟩
  · omega
  · exact ⟨g, c, hv, b2⟩
theorem RdW.keep {w w' : World} {lo hi a b sz n : Nat} {v : Value} {xs : List Value} (h : RdW w lo hi sz v n xs) (s : Span a b w w') (hd : ∀ g, v.ownBlock = some g → g < a ∨ b ≤ g) : RdW w' lo hi sz v n xs := by
  obtain ⟨h1, h2, h3⟩ := h
  refine ⟨?_, h2, fun hn => ?_⟩
  · obtain ⟨k1, ao, cap, rfl, k2, k3, k4⟩ := h1
    refine ⟨k1, ao, cap, rfl, k2, k3, fun hn => ?_⟩
    obtain ⟨g, o, rfl, hg, hc⟩ := k4 hn
    exact ⟨g, o, rfl, Nat.lt_of_lt_of_le hg s.size, fun j hj => ((s.blk g hg (hd g rfl)).1 _).trans (hc j hj)⟩
  · obtain ⟨g, c, hv, hg⟩ := h3 hn
    exact ⟨g, c, hv, Nat.lt_of_lt_of_le hg s.size⟩
theorem RdW.span {w w' : World} {lo hi a b sz n : Nat} {v : Value} {xs : List Value} (h : RdW w lo hi sz v n xs) (s : Span a b w w') (hd : hi ≤ a ∨ b ≤ lo) : RdW w' lo hi sz v n xs := h.keep s fun g hg => by have := h.2.1 g hg; omega
theorem RdW.fr {w w' : World} {lo hi sz n : Nat} {v : Value} {xs : List Value} (h : RdW w lo hi sz v n xs) (hf : Fr w w') : RdW w' lo hi sz v n xs := h.span (Span.of_fr (lo := hi) (hi := hi) hf) (.inl (Nat.le_refl _))
theorem RdW.mono {w : World} {lo hi lo' hi' sz n : Nat} {v : Value} {xs : List Value} (h : RdW w lo hi sz v n xs) (h0 : lo' ≤ lo) (h0' : hi ≤ hi') : RdW w lo' hi' sz v n xs := ⟨h.1, h.2.1.mono h0 h0', h.2.2⟩
theorem RdW.val {w : World} {lo hi sz n : Nat} {v : Value} {xs : List Value} (h : RdW w lo hi sz v n xs) : ∃ ao cap, v = .slice ao n cap := by obtain ⟨⟨_, ao, cap, hv, _⟩, _⟩ := h; exact ⟨ao, cap, hv⟩
def IntSSV (w : World) (lo hi : Nat) (v : Value) (xs : List (List Int)) : Prop := ∃ us : List Value, us.length = xs.length ∧ RdW w lo hi 1 v xs.length us ∧ (∀ (k : Nat) u x, us[k]? = some u → xs[k]? = some x → OwW w lo hi 3 1 u x.length (x.map (Value.int .i64)) ∧ ∀ g, u.ownBlock = some g → v.ownBlock ≠ some g) ∧ ∀ (j k : Nat) u u', j ≠ k → us[j]? = some u → us[k]? = some u' → ∀ g, u.ownBlock = some g → u'.ownBlock ≠ some g
theorem IntSSV.span {w w' : World} {lo hi : Nat} {v : Value} {xs : List (List Int)} (h : IntSSV w lo hi v xs) {a b : Nat} (s : Span a b w w') (hd : hi ≤ a ∨ b ≤ lo) : IntSSV w' lo hi v xs := by
  obtain ⟨us, h1, h2, h3, h4⟩ := h
  exact ⟨us, h1, h2.span s hd, fun k u x hu hx => ⟨(h3 k u x hu hx).1.span s hd, (h3 k u x hu hx).2⟩, h4⟩
theorem IntSSV.fr {w w' : World} {lo hi : Nat} {v : Value} {xs : List (List Int)} (h : IntSSV w lo hi v xs) (hf : Fr w w') : IntSSV w' lo hi v xs := by
  obtain ⟨us, h1, h2, h3, h4⟩ := h
  exact ⟨us, h1, h2.fr hf, fun k u x hu hx => ⟨(h3 k u x hu hx).1.fr hf, (h3 k u x hu hx).2⟩, h4⟩
theorem IntSSV.mono {w : World} {lo hi lo' hi' : Nat} {v : Value} {xs : List (List Int)} (h : IntSSV w lo hi v xs) (h0 : lo' ≤ lo) (h0' : hi ≤ hi') : IntSSV w lo' hi' v xs := by
  obtain ⟨us, h1, h2, h3, h4⟩ := h
  exact ⟨us, h1, h2.mono h0 h0', fun k u x hu hx => ⟨(h3 k u x hu hx).1.mono h0 h0', (h3 k u x hu hx).2⟩, h4⟩
theorem flat_oneV (us : List Value) : (us.map fun v => [v]).flatten = us := by
  induction us with
  | nil => rfl
  | cons u us ih => rw [List.map_cons, List.flatten_cons, ih]; rfl
theorem IntSSV.rd {w : World} {lo hi : Nat} {v : Value} {xs : List (List Int)} (h : IntSSV w lo hi v xs) : IntSSR w v xs := by
  obtain ⟨us, h1, h2, h3, h4⟩ := h
  refine ⟨us.map fun v => [v], by simp [h1], by rw [flat_oneV]; exact h2.1, fun k u x hu hx => ?_⟩
  rw [List.getElem?_map] at hu
  cases hk : us[k]? with
  | none => rw [hk] at hu; cases hu
  | some u' =>
    rw [hk] at hu
    cases hu
    exact ⟨rfl, u', rfl, (h3 k u' x hk hx).1.rd⟩
theorem IntSSV.val {w : World} {lo hi : Nat} {v : Value} {xs : List (List Int)} (h : IntSSV w lo hi v xs) : ∃ ao cap, v = .slice ao xs.length cap := by
  obtain ⟨us, h1, h2, h3, h4⟩ := h
  exact h2.val
theorem IntSSV.nil (w : World) (lo hi : Nat) : IntSSV w lo hi (.slice none 0 0) [] := ⟨[], rfl, RdW.of (OwW.nil _ _ _ 86 _), fun k u x hu => by simp at hu, fun j k u u' _ hu => by simp at hu⟩
/-- One of the rows is turned. -/
theorem IntSSV.turn {w : World} {lo hi : Nat} {v : Value} {A B : List (List Int)} {x : List Int} (h : IntSSV w lo hi v (A ++ x :: B)) :
    ∃ g0 cp a c l0 h0, v = .slice (some ⟨g0, 0, none⟩) (A ++ x :: B).length cp ∧ g0 < w.heap.size ∧ w.cell? ⟨g0, A.length, none⟩ = some (.slice a x.length c) ∧ IntsW w l0 h0 (.slice a x.length c) x ∧ lo ≤ l0 ∧ h0 ≤ hi ∧
      ∀ (w' : World) (y : List Int), y.length = x.length → Span l0 h0 w w' → IntsW w' l0 h0 (.slice a x.length c) y → IntSSV w' lo hi v (A ++ y :: B) := by
  obtain ⟨us, h1, h2, h3, h4⟩ := h
  have hlt : A.length < us.length := by rw [h1]; simp
  have hu : us[A.length]? = some us[A.length] := List.getElem?_eq_getElem hlt
  have hx : (A ++ x :: B)[A.length]? = some x := by simp
  generalize us[A.length] = u at hu
  obtain ⟨p1, p2⟩ := h3 _ _ _ hu hx
  obtain ⟨g0, cp, hv, b2⟩ := h2.2.2 (by simp only [List.length_append, List.length_cons]; omega)
  · have hb := h2.2.1 g0 (by rw [hv]; rfl)
    obtain ⟨l0, k0, q1, q2, q3, q4, q5⟩ := OwW.tight p1 (show lo ≤ hi by omega)
    obtain ⟨a, c, rfl⟩ := p1.val
    refine ⟨g0, cp, a, c, l0, k0, hv, b2, ?_, q1, q2, q4, fun w' y hy s hw => ?_⟩
    · obtain ⟨_, _, _, hv2, _, _, h7⟩ := h2.1
      rw [hv] at hv2
      cases hv2
      obtain ⟨_, _, e, _, hc⟩ := h7 (by simp only [List.length_append, List.length_cons]; omega)
      cases e
      have := hc A.length (by simp)
      rw [Nat.zero_add] at this
      rw [this, hu]
    · have hlen : (A ++ y :: B).length = (A ++ x :: B).length := by simp
      refine ⟨us, by rw [h1, hlen], ?_, fun k u' z hu' hz => ?_, h4⟩
      · rw [hlen]
        exact h2.keep s fun g hg => by
          by_cases hc : l0 ≤ g ∧ g < k0
          · exact absurd hg (p2 g (q5 g hc.1 hc.2))
          · omega
      · by_cases hk : k = A.length
        · subst hk
          rw [hu] at hu'
          cases hu'
          have : z = y := by simpa using hz.symm
          subst this
          refine ⟨?_, p2⟩
          have hw2 := OwW.mono hw q2 q4
          unfold IntsW at hw2
          rw [hy] at hw2 ⊢
          exact hw2
        · have hz' : (A ++ x :: B)[k]? = some z := by
            rw [← hz]
            by_cases hl : k < A.length
            · rw [List.getElem?_append_left hl, List.getElem?_append_left hl]
            · rw [List.getElem?_append_right (by omega), List.getElem?_append_right (by omega)]
              obtain ⟨m, hm⟩ : ∃ m, k - A.length = m + 1 := ⟨k - A.length - 1, by omega⟩
              rw [hm]; rfl
          obtain ⟨r1, r2⟩ := h3 k u' z hu' hz'
          exact ⟨r1.keep s fun g hg => by
            by_cases hc : l0 ≤ g ∧ g < k0
            · exact absurd (q5 g hc.1 hc.2) (h4 k A.length u' _ hk hu' hu g hg)
            · omega, r2⟩
set_option maxHeartbeats 2000000 in
set_option maxRecDepth 100000 in
theorem markIntSS_v (v : Value) (xs : List (List Int)) (k : Int) (lo hi : Nat) (w : World) (ha : IntSSV w lo hi v xs) (h0 : 0 < k) (h1 : k + (IntSSCnt xs : Int) ≤ 1073741824) :
    Calls Tryz.prog 22 #[v, .int .i64 k] w fun e w' => e = .returned (.int .i64 (k + (IntSSCnt xs : Int))) ∧ IntSSV w' lo hi v (mkIntSSs k xs) ∧ Span lo hi w w' := by
  obtain ⟨ao, cap, rfl⟩ := ha.val
  have hxl : xs.length ≤ 9223372036854775807 := (IntSSV.rd ha).le
  have HA := Lib.hid ha
  clear ha
  go_enter Tryz.func22, Tryz.ntmps22
  go_wp2
  go_loopw [1, 5] (fun l i wr => ∃ (m : Nat) (Dn : List (List Int)) (kk : Int), m ≤ xs.length ∧ i = .int .i64 m ∧ l = .int .i64 kk ∧ Dn.length = m ∧ Hid (Dn ++ mkIntSSs kk (xs.drop m) = mkIntSSs k xs) ∧ kk + (IntSSCnt (xs.drop m) : Int) = k + (IntSSCnt xs : Int) ∧ 0 < kk ∧ Hid (IntSSV wr lo hi (.slice ao xs.length cap) (Dn ++ xs.drop m)) ∧ Span lo hi w wr) (fun _ i _ => xs.length - (intOf i).toNat)
  case atStart => exact ⟨0, [], k, Nat.zero_le _, rfl, rfl, rfl, Lib.hid rfl, rfl, h0, Lib.hid HA.out, Span.refl _ _ _⟩
  case round =>
    clear HA
    obtain ⟨m, Dn, kk, hm, rfl, rfl, hdl, hd, hcn, hk0, HW, hsp⟩ := hrel
    by_cases hlt : m < xs.length
    · rw [Ints_drop hlt] at hd hcn HW
      rw [mkIntSSs] at hd
      rw [IntSSCnt_cons] at hcn
      have hdr : (xs.drop (m + 1)).length = xs.length - (m + 1) := List.length_drop
      generalize nAt xs m = x at hd hcn HW
      obtain ⟨g0, cp0, aow0, capw0, l0, h0, hv0, hg0, hc0, hr0, ub0, uc0, ug0⟩ := IntSSV.turn HW.out
      rw [show (Dn ++ x :: xs.drop (m + 1)).length = xs.length by simp; omega] at hv0
      cases hv0
      rw [hdl] at hc0
      have HU1 := Lib.hid ug0
      have HR1 := Lib.hid hr0
      clear ug0 hr0
      go_wp2_with (go_at_call 51; refine (markIntS_w _ x kk l0 h0 _ HR1.out (by omega) (by omega)).mono ?_; rintro e w1 ⟨rfl, om, spw⟩; have zw := spw.size)
      have n1 := HU1.out w1 (mkInts kk x.length) (mkInts_length _ _) spw om
      have sp1 : Span lo hi w w1 := hsp.trans (Span.wide spw ub0 uc0)
      have NQ1 := Lib.hid n1
      clear n1
      go_wp2_with fail
      go_roundw
      case rel => exact ⟨m + 1, Dn ++ [mkInts kk x.length], kk + (x.length : Int), by omega, by go_num, by go_num, by simp [hdl], by have := hd.out; rw [List.append_assoc]; exact this, by omega, by omega, by have := NQ1.out; rw [List.append_assoc]; exact this, sp1⟩
      case measure => (simp [intOf]; omega)
    · obtain rfl : m = xs.length := by omega
      rw [List.drop_length] at hd hcn HW
      simp only [mkIntSSs, List.append_nil, IntSSCnt, List.map_nil, List.sum_nil] at hd hcn HW
      go_wp2
      go_ret
      exact ⟨ret_int (by unfold IntSSCnt; omega), by have h := HW.out; rw [hd.out] at h; exact h, hsp⟩
end Go.Proofs.YtmdgdnkllclpcaaGreat
