/- Packets, plain: what is read of a packet's text is the packet; a text with one byte turned has another check sum. Plain lemmas. No condition. -/
import Derived.Test.YtnlcgffffjjojaaRdp
import Derived.Test.YtnlcgffffjjojaaFrm
namespace Go.Proofs.Ytnlcgffffjjojaa
open Go.RowKit
set_option linter.unusedVariables false
set_option linter.unusedSimpArgs false

theorem varL_ne (n : Nat) : varL n ≠ [] := by
  by_cases h : n ≤ 127
  · rw [varL_small h]; simp
  · rw [varL_big (by omega)]; simp
theorem rvGo_var (s : ByteArray) (a : Nat) : ∀ (f m i n u : Nat) (R : List UInt8), s.data.toList.drop (a + i) = varL m ++ R → (varL m).length ≤ f → (i = 0 ∨ 0 < m) → n + m * u ≤ 1000000000 →
    rvGo s a i n u f = ⟨((n + m * u : Nat) : Int), ((a + i + (varL m).length : Nat) : Int), true⟩ := by
  intro f
  induction f with
  | zero => intro m i n u R _ hl; exact absurd (List.length_pos_iff.2 (varL_ne m)) (by omega)
  | succ f ih =>
    intro m i n u R hd hl hm hb
    by_cases h : m ≤ 127
    · rw [varL_small h] at hd hl ⊢
      obtain ⟨h1, h2⟩ := at_drop (s := s) (a := a + i) (i := 0) (b := UInt8.ofNat m) (by rw [hd]; rfl)
      have h3 : (s[a + i]'h1).toNat = m := by
        have e : s[a + i]'h1 = UInt8.ofNat m := h2
        rw [e]; simp; omega
      have hm' : m % 128 = m := Nat.mod_eq_of_lt (by omega)
      rw [rvGo, dif_pos (show a + i < s.size from h1), if_neg (by omega), h3, hm', if_neg (by rintro (⟨h0, h4⟩ | h4) <;> omega)]
      rfl
    · rw [varL_big (by omega)] at hd hl ⊢
      obtain ⟨h1, h2⟩ := at_drop (s := s) (a := a + i) (i := 0) (b := UInt8.ofNat (128 + m % 128)) (by rw [hd]; rfl)
      have h3 : (s[a + i]'h1).toNat = 128 + m % 128 := by
        have e : s[a + i]'h1 = UInt8.ofNat (128 + m % 128) := h2
        rw [e]; simp; omega
      have hmul : n + m % 128 * u + m / 128 * (u * 128) = n + m * u := by
        conv => rhs; rw [← Nat.mod_add_div m 128]
        rw [Nat.add_mul, Nat.add_assoc]
        congr 2
        rw [Nat.mul_comm 128 (m / 128), Nat.mul_assoc, Nat.mul_comm u 128]
      have hd2 : s.data.toList.drop (a + (i + 1)) = varL (m / 128) ++ R := by
        rw [show a + (i + 1) = a + i + 1 by omega, ← List.drop_drop, hd]; rfl
      have hl2 : (varL (m / 128)).length ≤ f := by simp only [List.length_cons] at hl; omega
      have := ih (m / 128) (i + 1) (n + m % 128 * u) (u * 128) R hd2 hl2 (.inr (by omega)) (by omega)
      rw [rvGo, dif_pos (show a + i < s.size from h1), if_pos (by omega), h3, show (128 + m % 128) % 128 = m % 128 by omega, this, hmul]
      simp only [List.length_cons]
      congr 2
      omega
theorem scVar_fwd {s : ByteArray} {a n : Nat} {R : List UInt8} (hn : n ≤ 100000) (hd : s.data.toList.drop a = varL n ++ R) : scVar s ⟨a, false⟩ = ((n : Int), ⟨a + (varL n).length, false⟩) := by
  have hl : (varL n).length ≤ 5 := by
    by_cases h : n ≤ 127
    · rw [varL_small h]; simp
    · by_cases h2 : n / 128 ≤ 127
      · rw [varL_big (by omega), varL_small h2]; simp
      · rw [varL_big (by omega), varL_big (by omega), varL_small (by omega)]; simp
  have ha : a ≤ s.size := by
    have := congrArg List.length hd
    rw [List.length_drop, List.length_append, list_size] at this
    have := List.length_pos_iff.2 (varL_ne n)
    omega
  have hr : rv s (a : Int) = ⟨(n : Int), ((a + (varL n).length : Nat) : Int), true⟩ := by
    unfold rv
    rw [if_pos ⟨by omega, by omega⟩, Int.toNat_natCast, rvGo_var s a 5 n 0 0 1 R (by rw [Nat.add_zero]; exact hd) hl (.inl rfl) (by omega)]
    simp
  rw [scVar_ok (c := ⟨a, false⟩) (by rw [hr]; simp), hr]
  simp only [Int.toNat_natCast]
theorem scByte_fwd {s : ByteArray} {a : Nat} {b : UInt8} {R : List UInt8} (hd : s.data.toList.drop a = b :: R) : scByte s ⟨a, false⟩ = ((b.toNat : Int), ⟨a + 1, false⟩) := by
  obtain ⟨h1, h2⟩ := at_drop (s := s) (a := a) (i := 0) (b := b) (by rw [hd]; rfl)
  rw [scByte_ok (c := ⟨a, false⟩) (by rintro (h | h); exact absurd h (by simp); simp only [] at h; omega)]
  have e : s[a]'h1 = b := h2
  show (((s[a]'h1).toNat : Int), _) = _
  rw [e]
theorem sealedT_list (x : ByteArray) : (sealedT x).data.toList = x.data.toList ++ fourL (sumOf x) := by
  unfold sealedT fourT
  rw [ByteArray.data_append, Array.toList_append]
theorem sealedT_size (x : ByteArray) : (sealedT x).size = x.size + 4 := by
  rw [← list_size, sealedT_list, List.length_append, list_size]; rfl
theorem take_extract (z : ByteArray) (n : Nat) : (z.extract 0 n).data.toList = z.data.toList.take n := by
  simp only [ByteArray.data_extract, Array.toList_extract]
  rw [List.extract_eq_take_drop, Nat.sub_zero, List.drop_zero]
theorem drop_extract (z : ByteArray) (n : Nat) (h : n ≤ z.size) : (z.extract n z.size).data.toList = z.data.toList.drop n := by
  simp only [ByteArray.data_extract, Array.toList_extract]
  rw [List.extract_eq_take_drop, List.take_of_length_le]
  rw [List.length_drop, list_size]
  omega
theorem unB_list {z : ByteArray} {n : Nat} (h : z.size = n + 4) (hn : n ≤ 20000) : unB z = decide (z.data.toList.drop n = fourL (sumL 4294967295 (z.data.toList.take n))) := by
  unfold unB
  have e1 : z.size - 4 = n := by omega
  rw [e1]
  congr 1
  have e2 := drop_extract z n (by omega)
  have e3 := take_extract z n
  apply propext
  constructor
  · rintro ⟨_, _, h3⟩
    rw [← e2, h3]
    unfold fourT sumOf
    rw [e3]
  · intro h3
    refine ⟨by omega, by omega, ?_⟩
    apply WideShapes.bytes_inj
    rw [e2, h3]
    unfold fourT sumOf
    rw [e3]
theorem unB_sealed {x : ByteArray} (hx : x.size ≤ 20000) : unB (sealedT x) = true := by
  rw [unB_list (sealedT_size x) hx, decide_eq_true_eq, sealedT_list, ← list_size, List.drop_left, List.take_left]
  rfl
theorem unT_sealed {x : ByteArray} (hx : x.size ≤ 20000) : unT (sealedT x) = x := by
  rw [unT_ok (unB_sealed hx), sealedT_size, Nat.add_sub_cancel]
  apply WideShapes.bytes_inj
  rw [take_extract, sealedT_list, ← list_size, List.take_left]
theorem pktT_list {e f t q a : Int} {s : ByteArray} (hf : 0 ≤ f ∧ f ≤ 8) (ht : 0 ≤ t ∧ t ≤ 8) : (pktT e f t q a s).data.toList = varL e.toNat ++ (UInt8.ofNat f.toNat :: UInt8.ofNat t.toNat :: (varL q.toNat ++ (varL a.toNat ++ s.data.toList))) := by
  unfold pktT vText
  have := strOf_two (m := f.toNat) (n := t.toNat) (by omega) (by omega)
  rw [show ((f.toNat : Nat) : Int) = f by omega, show ((t.toNat : Nat) : Int) = t by omega] at this
  simp only [ByteArray.data_append, Array.toList_append, this, List.append_assoc, List.cons_append, List.nil_append]
theorem drop_app {X Y L : List UInt8} {a : Nat} (h : L.drop a = X ++ Y) : L.drop (a + X.length) = Y := by
  rw [← List.drop_drop, h, List.drop_left]
/-- What is read of the text of a right packet is the packet. -/
theorem rdp_fwd {e f t q a : Int} {s : ByteArray} (h : pktB e f t q a s = true) : rdp (sealedT (pktT e f t q a s)) = ⟨e, f, t, q, a, s, true⟩ := by
  obtain ⟨h1, h2, h3, h4, h5, h6, h7, h8, h9, h10, h11⟩ := pktB_bounds h
  have hsz := pktT_size h
  have hu := unT_sealed (x := pktT e f t q a s) (by omega)
  have hb := unB_sealed (x := pktT e f t q a s) (by omega)
  have hL := pktT_list (e := e) (q := q) (a := a) (s := s) ⟨h3, h4⟩ ⟨h5, h6⟩
  have d1 : (pktT e f t q a s).data.toList.drop 0 = varL e.toNat ++ (UInt8.ofNat f.toNat :: UInt8.ofNat t.toNat :: (varL q.toNat ++ (varL a.toNat ++ s.data.toList))) := by rw [List.drop_zero]; exact hL
  have d2 := drop_app d1
  have d3 := drop_app (X := [UInt8.ofNat f.toNat]) d2
  have d4 := drop_app (X := [UInt8.ofNat t.toNat]) d3
  have d5 := drop_app d4
  have d6 := drop_app d5
  simp only [List.length_singleton] at d3 d4 d5 d6
  generalize hx : pktT e f t q a s = x at *
  have s1 : rdS1 (sealedT x) = (e, ⟨0 + (varL e.toNat).length, false⟩) := by
    unfold rdS1
    rw [hu, hb]
    have := scVar_fwd (a := 0) (by omega) d1
    rw [show ((e.toNat : Nat) : Int) = e by omega] at this
    exact this
  have s2 : rdS2 (sealedT x) = (f, ⟨0 + (varL e.toNat).length + 1, false⟩) := by
    unfold rdS2
    rw [hu, s1]
    have := scByte_fwd d2
    rw [show (((UInt8.ofNat f.toNat).toNat : Nat) : Int) = f by rw [UInt8.toNat_ofNat']; omega] at this
    exact this
  have s3 : rdS3 (sealedT x) = (t, ⟨0 + (varL e.toNat).length + 1 + 1, false⟩) := by
    unfold rdS3
    rw [hu, s2]
    have := scByte_fwd d3
    rw [show (((UInt8.ofNat t.toNat).toNat : Nat) : Int) = t by rw [UInt8.toNat_ofNat']; omega] at this
    exact this
  have s4 : rdS4 (sealedT x) = (q, ⟨0 + (varL e.toNat).length + 1 + 1 + (varL q.toNat).length, false⟩) := by
    unfold rdS4
    rw [hu, s3]
    have := scVar_fwd (by omega) d4
    rw [show ((q.toNat : Nat) : Int) = q by omega] at this
    exact this
  have s5 : rdS5 (sealedT x) = (a, ⟨0 + (varL e.toNat).length + 1 + 1 + (varL q.toNat).length + (varL a.toNat).length, false⟩) := by
    unfold rdS5
    rw [hu, s4]
    have := scVar_fwd (by omega) d5
    rw [show ((a.toNat : Nat) : Int) = a by omega] at this
    exact this
  have hz : 0 + (varL e.toNat).length + 1 + 1 + (varL q.toNat).length + (varL a.toNat).length ≤ x.size := by
    have := congrArg List.length hL
    simp only [List.length_append, List.length_cons, list_size] at this
    omega
  have s6 : rdBody (sealedT x) = s := by
    unfold rdBody
    rw [hu, s5]
    apply WideShapes.bytes_inj
    rw [drop_extract _ _ hz, d6]
  unfold rdp
  rw [s1, s2, s3, s4, s5, s6, if_pos ⟨rfl, h⟩]
theorem xor_left {a b c : Nat} (h : a ^^^ c = b ^^^ c) : a = b := by
  have := congrArg (· ^^^ c) h
  simpa [Nat.xor_assoc] using this
theorem step1_inj {x y : Nat} (hx : x < 4294967296) (hy : y < 4294967296) (h : step1 x = step1 y) : x = y := by
  have top : ∀ z, z < 2147483648 → 2147483648 ≤ z ^^^ poly := by
    intro z hz
    have h1 : (z ^^^ poly).testBit 31 = true := by
      rw [Nat.testBit_xor, Nat.testBit_lt_two_pow (show z < 2 ^ 31 by omega)]
      decide
    exact Nat.ge_two_pow_of_testBit h1
  unfold step1 at h
  by_cases p : x % 2 = 1 <;> by_cases q : y % 2 = 1
  · rw [if_pos p, if_pos q] at h
    have := xor_left h
    omega
  · rw [if_pos p, if_neg q] at h
    have := top (x / 2) (by omega)
    omega
  · rw [if_neg p, if_pos q] at h
    have := top (y / 2) (by omega)
    omega
  · rw [if_neg p, if_neg q] at h
    omega
theorem stepN_inj {x y : Nat} (hx : x < 4294967296) (hy : y < 4294967296) : ∀ j, stepN j x = stepN j y → x = y
  | 0, h => h
  | j + 1, h => stepN_inj hx hy j (step1_inj (stepN_lt hx j) (stepN_lt hy j) h)
theorem sumByte_inj {x y : Nat} {b : UInt8} (hx : x < 4294967296) (hy : y < 4294967296) (h : sumByte x b = sumByte y b) : x = y :=
  xor_left (stepN_inj (xor_byte_lt hx b) (xor_byte_lt hy b) 8 h)
theorem sumByte_byte {x : Nat} {b c : UInt8} (hx : x < 4294967296) (h : sumByte x b = sumByte x c) : b = c := by
  have := stepN_inj (xor_byte_lt hx b) (xor_byte_lt hx c) 8 h
  rw [Nat.xor_comm x, Nat.xor_comm x] at this
  exact UInt8.toNat_inj.1 (xor_left this)
theorem sumL_inj {l : List UInt8} : ∀ {x y : Nat}, x < 4294967296 → y < 4294967296 → sumL x l = sumL y l → x = y := by
  induction l with
  | nil => intro x y _ _ h; exact h
  | cons b l ih => intro x y hx hy h; exact sumByte_inj hx hy (ih (sumByte_lt hx b) (sumByte_lt hy b) h)
theorem sumL_set {l : List UInt8} {c : UInt8} : ∀ {x i : Nat}, x < 4294967296 → (hi : i < l.length) → l[i] ≠ c → sumL x (l.set i c) ≠ sumL x l := by
  induction l with
  | nil => intro x i _ hi; exact absurd hi (by simp)
  | cons b l ih =>
    intro x i hx hi hc
    cases i with
    | zero =>
      intro h
      exact hc (sumByte_byte hx (sumL_inj (sumByte_lt hx c) (sumByte_lt hx b) h)).symm
    | succ i => exact ih (sumByte_lt hx b) (by simpa using hi) hc
theorem fourL_inj {x y : Nat} (hx : x < 4294967296) (hy : y < 4294967296) (h : fourL x = fourL y) : x = y := by
  unfold fourL at h
  simp only [List.cons.injEq, and_true] at h
  obtain ⟨h1, h2, h3, h4⟩ := h
  have e1 := congrArg UInt8.toNat h1
  have e2 := congrArg UInt8.toNat h2
  have e3 := congrArg UInt8.toNat h3
  have e4 := congrArg UInt8.toNat h4
  simp only [UInt8.toNat_ofNat'] at e1 e2 e3 e4
  omega
/-- A sealed text with one byte turned is refused. -/
theorem unB_turned {x z : ByteArray} {i : Nat} {c : UInt8} (hx : x.size ≤ 20000) (hi : i < (sealedT x).data.toList.length) (hc : (sealedT x).data.toList[i] ≠ c) (hz : z.data.toList = (sealedT x).data.toList.set i c) : unB z = false := by
  have hzs : z.size = x.size + 4 := by rw [← list_size, hz, List.length_set, list_size, sealedT_size]
  rw [unB_list hzs hx, decide_eq_false_iff_not, hz]
  simp only [sealedT_list] at hc hi ⊢
  by_cases h : i < x.size
  · have hxl : i < x.data.toList.length := by rw [list_size]; exact h
    rw [List.set_append_left _ _ hxl, ← list_size x]
    have hl : x.data.toList.length = (x.data.toList.set i c).length := by rw [List.length_set]
    intro h2
    rw [hl, List.drop_left, List.take_left] at h2
    rw [List.getElem_append_left hxl] at hc
    exact sumL_set (by omega) hxl hc (fourL_inj (sumL_lt (by omega) _) (sumL_lt (by omega) _) h2).symm
  · have hxl : x.data.toList.length ≤ i := by rw [list_size]; omega
    rw [List.set_append_right _ _ hxl, ← list_size x]
    intro h2
    rw [List.drop_left, List.take_left] at h2
    rw [List.getElem_append_right hxl] at hc
    have hk : i - x.data.toList.length < (fourL (sumOf x)).length := by rw [List.length_append] at hi; omega
    have h3 : (fourL (sumOf x))[i - x.data.toList.length]? = ((fourL (sumOf x)).set (i - x.data.toList.length) c)[i - x.data.toList.length]? := by rw [h2]; rfl
    rw [List.getElem?_set_self hk, List.getElem?_eq_getElem hk] at h3
    exact hc (Option.some.inj h3)
theorem rdp_no {z : ByteArray} (h : unB z = false) : rdp z = pkNo := by
  unfold rdp
  rw [if_neg]
  rintro ⟨h5, _⟩
  have := (rdp_back z h5).1
  rw [h] at this
  cases this
end Go.Proofs.Ytnlcgffffjjojaa
