/- A graph's text is read as the graph: plain lemmas. No condition. -/
import Derived.Test.YtjgghiniajmfjaaGrP
import Derived.Test.YtjgghiniajmfjaaFrm
namespace Go.Proofs.Ytjgghiniajmfjaa
open Go.RowKit
set_option linter.unusedVariables false
set_option linter.unusedSimpArgs false
theorem varL_ne0 (n : Nat) : varL n ≠ [] := by
  by_cases h : n ≤ 127
  · rw [varL_small h]; simp
  · rw [varL_big (by omega)]; simp
theorem rvGo_var0 (s : ByteArray) (a : Nat) : ∀ (f m i n u : Nat) (R : List UInt8), s.data.toList.drop (a + i) = varL m ++ R → (varL m).length ≤ f → (i = 0 ∨ 0 < m) → n + m * u ≤ 1000000000 →
    rvGo s a i n u f = ⟨((n + m * u : Nat) : Int), ((a + i + (varL m).length : Nat) : Int), true⟩ := by
  intro f
  induction f with
  | zero => intro m i n u R _ hl; exact absurd (List.length_pos_iff.2 (varL_ne0 m)) (by omega)
  | succ f ih =>
    intro m i n u R hd hl hm hb
    by_cases h : m ≤ 127
    · rw [varL_small h] at hd hl ⊢
      obtain ⟨h1, h2⟩ := at_drop (s := s) (a := a + i) (i := 0) (b := UInt8.ofNat m) (by rw [hd]; rfl)
      have h3 : (s[a + i]'h1).toNat = m := by
        have e : s[a + i]'h1 = UInt8.ofNat m := h2
        rw [e]; simp; omega
      have hm' : m % 128 = m := Nat.mod_eq_of_lt (by omega)
      rw [rvGo, dif_pos (show a + i < s.size from h1), if_neg (by omega), h3, hm', if_neg (by rintro (⟨h0, h4⟩ | h4) <;> omega)]
      rfl
    · rw [varL_big (by omega)] at hd hl ⊢
      obtain ⟨h1, h2⟩ := at_drop (s := s) (a := a + i) (i := 0) (b := UInt8.ofNat (128 + m % 128)) (by rw [hd]; rfl)
      have h3 : (s[a + i]'h1).toNat = 128 + m % 128 := by
        have e : s[a + i]'h1 = UInt8.ofNat (128 + m % 128) := h2
        rw [e]; simp; omega
      have hmul : n + m % 128 * u + m / 128 * (u * 128) = n + m * u := by
        conv => rhs; rw [← Nat.mod_add_div m 128]
        rw [Nat.add_mul, Nat.add_assoc]
        congr 2
        rw [Nat.mul_comm 128 (m / 128), Nat.mul_assoc, Nat.mul_comm u 128]
      have hd2 : s.data.toList.drop (a + (i + 1)) = varL (m / 128) ++ R := by
        rw [show a + (i + 1) = a + i + 1 by omega, ← List.drop_drop, hd]; rfl
      have hl2 : (varL (m / 128)).length ≤ f := by simp only [List.length_cons] at hl; omega
      have := ih (m / 128) (i + 1) (n + m % 128 * u) (u * 128) R hd2 hl2 (.inr (by omega)) (by omega)
      rw [rvGo, dif_pos (show a + i < s.size from h1), if_pos (by omega), h3, show (128 + m % 128) % 128 = m % 128 by omega, this, hmul]
      simp only [List.length_cons]
      congr 2
      omega
theorem scVar_fw {s : ByteArray} {a n : Nat} {R : List UInt8} (hn : n ≤ 100000) (hd : s.data.toList.drop a = varL n ++ R) : scVar s ⟨a, false⟩ = ((n : Int), ⟨a + (varL n).length, false⟩) := by
  have hl : (varL n).length ≤ 5 := by
    by_cases h : n ≤ 127
    · rw [varL_small h]; simp
    · by_cases h2 : n / 128 ≤ 127
      · rw [varL_big (by omega), varL_small h2]; simp
      · rw [varL_big (by omega), varL_big (by omega), varL_small (by omega)]; simp
  have ha : a ≤ s.size := by
    have := congrArg List.length hd
    rw [List.length_drop, List.length_append, list_size] at this
    have := List.length_pos_iff.2 (varL_ne0 n)
    omega
  have hr : rv s (a : Int) = ⟨(n : Int), ((a + (varL n).length : Nat) : Int), true⟩ := by
    unfold rv
    rw [if_pos ⟨by omega, by omega⟩, Int.toNat_natCast, rvGo_var0 s a 5 n 0 0 1 R (by rw [Nat.add_zero]; exact hd) hl (.inl rfl) (by omega)]
    simp
  rw [scVar_ok (c := ⟨a, false⟩) (by rw [hr]; simp), hr]
  simp only [Int.toNat_natCast]
theorem scByte_fw {s : ByteArray} {a : Nat} {b : UInt8} {R : List UInt8} (hd : s.data.toList.drop a = b :: R) : scByte s ⟨a, false⟩ = ((b.toNat : Int), ⟨a + 1, false⟩) := by
  obtain ⟨h1, h2⟩ := at_drop (s := s) (a := a) (i := 0) (b := b) (by rw [hd]; rfl)
  rw [scByte_ok (c := ⟨a, false⟩) (by rintro (h | h); exact absurd h (by simp); simp only [] at h; omega)]
  have e : s[a]'h1 = b := h2
  show (((s[a]'h1).toNat : Int), _) = _
  rw [e]
theorem drop_app0 {X Y L : List UInt8} {a : Nat} (h : L.drop a = X ++ Y) : L.drop (a + X.length) = Y := by
  rw [← List.drop_drop, h, List.drop_left]
theorem egG_fwd {s : ByteArray} : ∀ (xs : List EdgeR) (a : Nat) (R : List UInt8), (∀ x ∈ xs, (0 ≤ x.f0 ∧ x.f0 ≤ 100000) ∧ (0 ≤ x.f2 ∧ x.f2 ≤ 100000)) → s.data.toList.drop a = xs.flatMap edgeT ++ R →
    egG s xs.length ⟨a, false⟩ = (xs, ⟨a + (xs.flatMap edgeT).length, false⟩)
  | [], a, R, _, h => rfl
  | x :: xs, a, R, hx, h => by
    obtain ⟨⟨h0, h0'⟩, h2, h2'⟩ := hx x (by simp)
    rw [List.flatMap_cons, List.append_assoc, show edgeT x = varL x.f0.toNat ++ (x.f1 :: varL x.f2.toNat) from rfl, List.append_assoc, List.cons_append] at h
    have e0 := scVar_fw (by omega) h
    have d1 := drop_app0 h
    have e1 := scByte_fw d1
    have d2 : s.data.toList.drop (a + (varL x.f0.toNat).length + 1) = varL x.f2.toNat ++ (xs.flatMap edgeT ++ R) := by rw [← List.drop_drop, d1]; rfl
    have e2 := scVar_fw (by omega) d2
    have d3 := drop_app0 d2
    have ih := egG_fwd xs _ R (fun y hy => hx y (by simp [hy])) d3
    rw [List.length_cons, egG_next e0 e1 e2 (by omega), Nat.add_sub_cancel, ih]
    simp only [Prod.mk.injEq, List.cons.injEq, and_true, Sc.mk.injEq]
    refine ⟨?_, ?_⟩
    · obtain ⟨x0, x1, x2⟩ := x
      simp only [] at h0 h0' h2 h2'
      simp only [EdgeR.mk.injEq]
      exact ⟨by omega, by simp, by omega⟩
    · rw [List.flatMap_cons, List.length_append]
      unfold edgeT
      simp only [List.length_append, List.length_cons]
      omega
theorem edges_rng {g : GraphD} (h : graphB g = true) : ∀ x ∈ g.f1, (0 ≤ x.f0 ∧ x.f0 ≤ 100000) ∧ (0 ≤ x.f2 ∧ x.f2 ≤ 100000) := by
  obtain ⟨⟨h1, h2⟩, h3, h4⟩ := graphB_out h
  intro x hx
  obtain ⟨k, hk, rfl⟩ := List.mem_iff_getElem.1 hx
  obtain ⟨⟨a, b⟩, ⟨c, d⟩, _⟩ := edgK_rng (x := g.f1[k]) (by simp [edgeAt, List.getD, List.getElem?_eq_getElem hk]) (h4 k hk)
  omega
theorem rdG_fwd {g : GraphD} (h : graphB g = true) : rdGB (graphS g) = true ∧ rdG (graphS g) = g := by
  obtain ⟨⟨h1, h2⟩, h3, h4⟩ := graphB_out h
  have hs : graphS g = ⟨(graphL g).toArray⟩ := by unfold graphS; rw [if_pos h]
  obtain ⟨s, hS⟩ : ∃ s, graphS g = s := ⟨_, rfl⟩
  rw [hS] at hs ⊢
  have hd : s.data.toList = varL g.f0.toNat ++ (varL g.f1.length ++ (g.f1.flatMap edgeT ++ [])) := by rw [hs]; simp [graphL]
  have hsz : s.size = (varL g.f0.toNat).length + ((varL g.f1.length).length + (g.f1.flatMap edgeT).length) := by rw [← list_size, hd]; simp
  have d0 : s.data.toList.drop 0 = varL g.f0.toNat ++ (varL g.f1.length ++ (g.f1.flatMap edgeT ++ [])) := by rw [List.drop_zero]; exact hd
  have e0 := scVar_fw (by omega) d0
  have d1 := drop_app0 d0
  have e1 := scVar_fw (by omega) d1
  have d2 := drop_app0 d1
  have e2 := egG_fwd g.f1 _ [] (edges_rng h) d2
  have hg : grP 41 s = (g, (g.f1.length : Int), ⟨0 + (varL g.f0.toNat).length + (varL g.f1.length).length + (g.f1.flatMap edgeT).length, false⟩) := by
    rw [grP_of e0 e1 (xs := g.f1) (e := ⟨0 + (varL g.f0.toNat).length + (varL g.f1.length).length + (g.f1.flatMap edgeT).length, false⟩) (by rw [show (min ((g.f1.length : Nat) : Int) ((41 : Nat) : Int)).toNat = g.f1.length by omega]; exact e2)]
    obtain ⟨g0, g1⟩ := g
    simp only [] at h1 ⊢
    rw [show ((g0.toNat : Nat) : Int) = g0 by omega]
  have hb : rdGB s = true := by
    unfold rdGB
    rw [hg]
    unfold grI
    simp only [Bool.not_false, Bool.true_and, Bool.and_eq_true, decide_eq_true_eq]
    exact ⟨by omega, trivial, h⟩
  refine ⟨hb, ?_⟩
  unfold rdG grX
  rw [if_pos hb, hg]
end Go.Proofs.Ytjgghiniajmfjaa
