/- Texts in one: Qnm, Rel, Nfp, GrOk, PutE. -/
import Derived.Test.YtmdgdnkllclpcaaGreatGPrw
import Derived.Test.YtmdgdnkllclpcaaGreatGNest
import Derived.Test.YtmdgdnkllclpcaaGreatGApp
import Derived.Deep.RegionLaw
import Derived.Deep.RegionHeld3
import Derived.Deep.Cut
/- QueryName of both. Conditions: a bound on the text. -/
namespace Go.Proofs.YtmdgdnkllclpcaaGreat
open Go.RowKit
set_option linter.unusedVariables false
set_option linter.unusedSimpArgs false
def eachB (t : ByteArray) : Bool := t.toList == [101, 97, 99, 104]
def lowAt (t : ByteArray) (i : Nat) : Bool := decide (97 ≤ nx t i ∧ nx t i ≤ 122)
def lowTo (t : ByteArray) (k : Nat) : Bool := (List.range k).all (lowAt t)
def qnB (t : ByteArray) : Bool := decide (1 ≤ t.size ∧ t.size ≤ 4) && (!eachB t && lowTo t t.size)
theorem lowTo_no {t : ByteArray} {k n : Nat} (h : lowAt t k = false) (hk : k < n) : lowTo t n = false := by
  unfold lowTo
  rw [List.all_eq_false]
  exact ⟨k, List.mem_range.2 hk, by rw [h]; simp⟩
theorem lowTo_step {t : ByteArray} {k : Nat} (h : lowTo t k = true) (h1 : lowAt t k = true) : lowTo t (k + 1) = true := by
  unfold lowTo at *
  rw [List.range_succ, List.all_append, h]
  simp [h1]
theorem qnB_no {t : ByteArray} (h : lowTo t t.size = false) : qnB t = false := by unfold qnB; rw [h]; simp
set_option maxHeartbeats 2000000 in
theorem specQueryName_any (t : ByteArray) (w : World) (ht : t.size ≤ 1048576) :
    Calls Tryz.prog 161 #[.string t] w fun e w' => e = .returned (.bool (qnB t)) ∧ Fr w w' := by
  go_enter Tryz.func161, Tryz.ntmps161
  go_wp2_with fail
  go_loopw [3] (fun i wr => ∃ k : Nat, k ≤ t.size ∧ i = .int .i64 k ∧ Hid (lowTo t k = true) ∧ Fr w wr) (fun i _ => t.size - (intOf i).toNat)
  case atStart => exact ⟨0, Nat.zero_le _, rfl, Lib.hid rfl, Fr.refl _⟩
  case round =>
    obtain ⟨k, hk, rfl, HL, hfr⟩ := hrel
    by_cases hlt : k < t.size
    · have hx : nx t k = (t[k]).toNat := dif_pos hlt
      have hb := (t[k]).toNat_lt
      obtain ⟨y, hy⟩ : ∃ y, (t[k]).toNat = y := ⟨_, rfl⟩
      by_cases h1 : lowAt t k = true
      · have h2 := h1
        unfold lowAt at h2
        rw [hx, hy, decide_eq_true_eq] at h2
        have HS := Lib.hid (lowTo_step HL.out h1)
        obtain ⟨h3, h4⟩ := h2
        have g1 : decide ((y : Int) < 97) = false := by simp; omega
        have g2 : decide ((y : Int) > 122) = false := by simp; omega
        clear hx h1
        go_wp2_with fail
        go_roundw
        case rel => exact ⟨k + 1, by omega, by go_num, HS, by exact Qf⟩
        case measure => (simp [intOf]; omega)
      · have HN : Hid (qnB t = false) := Lib.hid (qnB_no (lowTo_no (by simpa using h1) hlt))
        unfold lowAt at h1
        rw [hx, hy, decide_eq_true_eq] at h1
        clear hx
        by_cases h3 : y < 97
        · go_wp2_with fail
          go_ret
          exact ⟨ret_bool (by rw [HN.out]), by exact Qf⟩
        · have h4 : 122 < y := by omega
          clear h1
          go_wp2_with fail
          go_ret
          exact ⟨ret_bool (by rw [HN.out]), by exact Qf⟩
    · obtain rfl : k = t.size := by omega
      have HQ : Hid (qnB t = (decide (1 ≤ t.size ∧ t.size ≤ 4) && !eachB t)) := Lib.hid (by unfold qnB; rw [HL.out, Bool.and_true])
      go_wp2_with (go_at_call 56; refine (l01In_any _ _ _ _).mono ?_; rintro e w1 ⟨rfl, rfl⟩)
      · rename_i hg
        go_ret
        exact ⟨ret_bool (by rw [HQ.out]; simp [eachB] at *; first | omega | (intro _; omega) | skip), by exact Qf⟩
      · rename_i hg
        go_ret
        exact ⟨ret_bool (by rw [HQ.out]; simp [eachB] at *; first | omega | (intro _; omega) | skip), by exact Qf⟩
set_option maxHeartbeats 2000000 in
theorem implQueryName_any (t : ByteArray) (w : World) (ht : t.size ≤ 1048576) :
    Calls Tryz.prog 165 #[.string t] w fun e w' => e = .returned (.bool (qnB t)) ∧ Fr w w' := by
  by_cases hs : 1 ≤ t.size ∧ t.size ≤ 4
  · obtain ⟨hs1, hs2⟩ := hs
    obtain ⟨eb, heb⟩ : ∃ b, (t.toList == [101, 97, 99, 104]) = b := ⟨_, rfl⟩
    have HQ0 : Hid (qnB t = (!eb && lowTo t t.size)) := Lib.hid (by unfold qnB eachB; rw [heb, decide_eq_true (⟨hs1, hs2⟩ : 1 ≤ t.size ∧ t.size ≤ 4), Bool.true_and])
    have g1 : decide ((t.size : Int) < 1) = false := by simp; omega
    have g2 : decide ((t.size : Int) > 4) = false := by simp; omega
    cases eb
    · go_enter Tryz.func165, Tryz.ntmps165
      go_wp2_with fail
      go_loopw [3] (fun i wr => ∃ k : Nat, k ≤ t.size ∧ i = .int .i64 k ∧ Hid (lowTo t k = true) ∧ Fr w wr) (fun i _ => t.size - (intOf i).toNat)
      case atStart => exact ⟨0, Nat.zero_le _, rfl, Lib.hid rfl, Fr.refl _⟩
      case round =>
        obtain ⟨k, hk, rfl, HL, hfr⟩ := hrel
        by_cases hlt : k < t.size
        · have hx : nx t k = (t[k]).toNat := dif_pos hlt
          have hb := (t[k]).toNat_lt
          obtain ⟨y, hy⟩ : ∃ y, (t[k]).toNat = y := ⟨_, rfl⟩
          by_cases h1 : lowAt t k = true
          · have h2 := h1
            unfold lowAt at h2
            rw [hx, hy, decide_eq_true_eq] at h2
            have HS := Lib.hid (lowTo_step HL.out h1)
            obtain ⟨h3, h4⟩ := h2
            clear hx h1
            go_wp2_with fail
            go_roundw
            case rel => exact ⟨k + 1, by omega, by go_num, HS, by exact Qf⟩
            case measure => (simp [intOf]; omega)
          · have HN : Hid (qnB t = false) := Lib.hid (qnB_no (lowTo_no (by simpa using h1) hlt))
            unfold lowAt at h1
            rw [hx, hy, decide_eq_true_eq] at h1
            clear hx
            by_cases h3 : y < 97
            · go_wp2_with fail
              go_ret
              exact ⟨ret_bool (by rw [HN.out]), by exact Qf⟩
            · have h4 : 122 < y := by omega
              clear h1
              go_wp2_with fail
              go_ret
              exact ⟨ret_bool (by rw [HN.out]), by exact Qf⟩
        · obtain rfl : k = t.size := by omega
          go_wp2_with fail
          go_ret
          exact ⟨ret_bool (by rw [HQ0.out, HL.out]; rfl), by exact Qf⟩
    · go_enter Tryz.func165, Tryz.ntmps165
      go_wp2_with fail
      go_ret
      exact ⟨ret_bool (by rw [HQ0.out]; rfl), by exact Qf⟩
  · have HQ : Hid (qnB t = false) := Lib.hid (by unfold qnB; rw [decide_eq_false hs, Bool.false_and])
    go_enter Tryz.func165, Tryz.ntmps165
    go_wp2_with fail
    all_goals first | (exfalso; omega) | (go_ret; exact ⟨ret_bool (by rw [HQ.out]), by exact Qf⟩)
end Go.Proofs.YtmdgdnkllclpcaaGreat

/- Relations between the places of a graph, plain: what a path means, by its pieces; again and again, two ways. No condition. -/
namespace Go.Proofs.YtmdgdnkllclpcaaGreat
open Go.RowKit
set_option linter.unusedVariables false
set_option linter.unusedSimpArgs false
def Sup (n : Nat) (a : (Nat → Nat → Bool)) : Prop := ∀ i j, a i j = true → i < n ∧ j < n
def rNo : (Nat → Nat → Bool) := fun _ _ => false
def rId (n : Nat) : (Nat → Nat → Bool) := fun i j => decide (i = j ∧ i < n)
def rComp (n : Nat) (a b : (Nat → Nat → Bool)) : (Nat → Nat → Bool) := fun i j => (List.range n).any fun k => a i k && b k j
def rOr (a b : (Nat → Nat → Bool)) : (Nat → Nat → Bool) := fun i j => a i j || b i j
def wsh (a : (Nat → Nat → Bool)) : Nat → (Nat → Nat → Bool)
  | 0 => a
  | k + 1 => fun i j => wsh a k i j || (wsh a k i k && wsh a k k j)
def rnd (n : Nat) (a : (Nat → Nat → Bool)) : Nat → (Nat → Nat → Bool)
  | 0 => a
  | r + 1 => rOr (rnd n a r) (rComp n (rnd n a r) a)
theorem rl_ext {a b : (Nat → Nat → Bool)} (h : ∀ i j, a i j = true ↔ b i j = true) : a = b := by
  funext i j
  exact Bool.eq_iff_iff.2 (h i j)
theorem rComp_iff {n : Nat} {a b : (Nat → Nat → Bool)} {i j : Nat} : rComp n a b i j = true ↔ ∃ k, k < n ∧ a i k = true ∧ b k j = true := by
  unfold rComp
  simp [List.any_eq_true, List.mem_range]
theorem rOr_iff {a b : (Nat → Nat → Bool)} {i j : Nat} : rOr a b i j = true ↔ a i j = true ∨ b i j = true := by
  unfold rOr
  simp
theorem rId_iff {n i j : Nat} : rId n i j = true ↔ i = j ∧ i < n := by
  unfold rId
  simp
theorem wsh_succ_iff {a : (Nat → Nat → Bool)} {k i j : Nat} : wsh a (k + 1) i j = true ↔ wsh a k i j = true ∨ (wsh a k i k = true ∧ wsh a k k j = true) := by
  rw [wsh]
  simp
theorem sup_no (n : Nat) : Sup n rNo := fun i j h => by cases h
theorem sup_dflt (n : Nat) : Sup n (default : Nat → Nat → Bool) := fun i j h => by cases h
theorem sup_id (n : Nat) : Sup n (rId n) := fun i j h => by rw [rId_iff] at h; omega
theorem sup_or {n : Nat} {a b : (Nat → Nat → Bool)} (ha : Sup n a) (hb : Sup n b) : Sup n (rOr a b) := fun i j h => by
  rcases rOr_iff.1 h with h | h
  · exact ha _ _ h
  · exact hb _ _ h
theorem sup_comp {n : Nat} {a b : (Nat → Nat → Bool)} (ha : Sup n a) (hb : Sup n b) : Sup n (rComp n a b) := fun i j h => by
  obtain ⟨k, hk, h1, h2⟩ := rComp_iff.1 h
  exact ⟨(ha _ _ h1).1, (hb _ _ h2).2⟩
theorem sup_wsh {n : Nat} {a : (Nat → Nat → Bool)} (ha : Sup n a) : ∀ k, Sup n (wsh a k)
  | 0 => ha
  | k + 1 => fun i j h => by
    rcases wsh_succ_iff.1 h with h | ⟨h1, h2⟩
    · exact sup_wsh ha k _ _ h
    · exact ⟨(sup_wsh ha k _ _ h1).1, (sup_wsh ha k _ _ h2).2⟩
theorem id_comp {n : Nat} {a : (Nat → Nat → Bool)} (ha : Sup n a) : rComp n (rId n) a = a := by
  refine rl_ext fun i j => ?_
  rw [rComp_iff]
  constructor
  · rintro ⟨k, hk, h1, h2⟩
    rw [rId_iff] at h1
    rw [h1.1]
    exact h2
  · intro h
    exact ⟨i, (ha _ _ h).1, rId_iff.2 ⟨rfl, (ha _ _ h).1⟩, h⟩
theorem no_or (a : (Nat → Nat → Bool)) : rOr rNo a = a := rl_ext fun i j => by rw [rOr_iff]; exact ⟨fun h => h.resolve_left (by intro h; cases h), .inr⟩
/-! ### again and again -/
theorem wsh_mono {a : (Nat → Nat → Bool)} {i j : Nat} : ∀ {k : Nat}, a i j = true → wsh a k i j = true
  | 0, h => h
  | k + 1, h => wsh_succ_iff.2 (.inl (wsh_mono h))
theorem wsh_through {a : (Nat → Nat → Bool)} : ∀ (k : Nat) {i m j : Nat}, m < k → wsh a k i m = true → wsh a k m j = true → wsh a k i j = true
  | 0, _, _, _, h, _, _ => absurd h (by omega)
  | k + 1, i, m, j, hm, h1, h2 => by
    rw [wsh_succ_iff] at h1 h2 ⊢
    rcases Nat.lt_or_ge m k with hk | hk
    · have T := @wsh_through a k
      rcases h1 with h1 | ⟨h1, h1'⟩
      · rcases h2 with h2 | ⟨h2, h2'⟩
        · exact .inl (T hk h1 h2)
        · exact .inr ⟨T hk h1 h2, h2'⟩
      · rcases h2 with h2 | ⟨h2, h2'⟩
        · exact .inr ⟨h1, T hk h1' h2⟩
        · exact .inr ⟨h1, h2'⟩
    · obtain rfl : m = k := by omega
      have e1 : wsh a m i m = true := by
        rcases h1 with h1 | ⟨h1, _⟩
        · exact h1
        · exact h1
      have e2 : wsh a m m j = true := by
        rcases h2 with h2 | ⟨_, h2⟩
        · exact h2
        · exact h2
      exact .inr ⟨e1, e2⟩
theorem wsh_step {n : Nat} {a : (Nat → Nat → Bool)} (ha : Sup n a) {i k j : Nat} (h1 : wsh a n i k = true) (h2 : a k j = true) : wsh a n i j = true :=
  wsh_through n (ha _ _ h2).1 h1 (wsh_mono h2)
/-- The least of what holds a and goes on by a. -/
theorem wsh_least {a c : (Nat → Nat → Bool)} (h0 : ∀ i j, a i j = true → c i j = true) (ht : ∀ i k j, c i k = true → c k j = true → c i j = true) : ∀ k i j, wsh a k i j = true → c i j = true
  | 0, i, j, h => h0 i j h
  | k + 1, i, j, h => by
    rcases wsh_succ_iff.1 h with h | ⟨h1, h2⟩
    · exact wsh_least h0 ht k i j h
    · exact ht _ _ _ (wsh_least h0 ht k _ _ h1) (wsh_least h0 ht k _ _ h2)
theorem rnd_sub {n : Nat} {a : (Nat → Nat → Bool)} (ha : Sup n a) : ∀ r i j, rnd n a r i j = true → wsh a n i j = true
  | 0, i, j, h => wsh_mono h
  | r + 1, i, j, h => by
    rcases rOr_iff.1 h with h | h
    · exact rnd_sub ha r i j h
    · obtain ⟨k, hk, h1, h2⟩ := rComp_iff.1 h
      exact wsh_step ha (rnd_sub ha r _ _ h1) h2
def cnt (p : Nat → Bool) : Nat → Nat
  | 0 => 0
  | n + 1 => cnt p n + (if p n then 1 else 0)
theorem cnt_le {p q : Nat → Bool} (h : ∀ x, p x = true → q x = true) : ∀ n, cnt p n ≤ cnt q n
  | 0 => Nat.le_refl _
  | n + 1 => by
    have := cnt_le h n
    rw [cnt, cnt]
    cases hp : p n
    · simp; omega
    · rw [h n hp]; simpa using this
theorem cnt_lt {p q : Nat → Bool} (h : ∀ x, p x = true → q x = true) {x : Nat} (h1 : p x = false) (h2 : q x = true) : ∀ n, x < n → cnt p n < cnt q n
  | 0, hx => absurd hx (by omega)
  | n + 1, hx => by
    rw [cnt, cnt]
    by_cases e : x = n
    · subst e
      rw [h1, h2]
      have := cnt_le h x
      simp
      omega
    · have := cnt_lt h h1 h2 n (by omega)
      cases hp : p n
      · simp; omega
      · rw [h n hp]; simpa using this
theorem cnt_all (n : Nat) : cnt (fun _ => true) n = n := by
  induction n with
  | zero => rfl
  | succ n ih => rw [cnt, ih]; simp
theorem rnd_up {n : Nat} {a : (Nat → Nat → Bool)} {r i j : Nat} (h : rnd n a r i j = true) : rnd n a (r + 1) i j = true := rOr_iff.2 (.inl h)
/-- Row i goes on by a no more, or it has r places. -/
theorem rnd_row {n : Nat} {a : (Nat → Nat → Bool)} (ha : Sup n a) (i : Nat) : ∀ r, (∀ k j, rnd n a r i k = true → a k j = true → rnd n a r i j = true) ∨ r ≤ cnt (rnd n a r i) n
  | 0 => .inr (Nat.zero_le _)
  | r + 1 => by
    rcases rnd_row ha i r with h | h
    · left
      have e : ∀ j, rnd n a (r + 1) i j = true → rnd n a r i j = true := fun j hj => by
        rcases rOr_iff.1 hj with hj | hj
        · exact hj
        · obtain ⟨k, hk, h1, h2⟩ := rComp_iff.1 hj
          exact h k j h1 h2
      exact fun k j h1 h2 => rnd_up (h k j (e k h1) h2)
    · by_cases hc : ∀ k j, rnd n a r i k = true → a k j = true → rnd n a r i j = true
      · left
        have e : ∀ j, rnd n a (r + 1) i j = true → rnd n a r i j = true := fun j hj => by
          rcases rOr_iff.1 hj with hj | hj
          · exact hj
          · obtain ⟨k, hk, h1, h2⟩ := rComp_iff.1 hj
            exact hc k j h1 h2
        exact fun k j h1 h2 => rnd_up (hc k j (e k h1) h2)
      · right
        have : ∃ k j, rnd n a r i k = true ∧ a k j = true ∧ rnd n a r i j = false := by
          refine Classical.byContradiction fun hn => hc fun k j h1 h2 => ?_
          cases hr : rnd n a r i j
          · exact absurd ⟨k, j, h1, h2, hr⟩ hn
          · rfl
        obtain ⟨k, j, h1, h2, h3⟩ := this
        have hlt := cnt_lt (p := rnd n a r i) (q := rnd n a (r + 1) i) (fun x hx => rnd_up hx) h3 (rOr_iff.2 (.inr (rComp_iff.2 ⟨k, (ha _ _ h2).1, h1, h2⟩))) n (ha _ _ h2).2
        omega
theorem rnd_closed {n : Nat} {a : (Nat → Nat → Bool)} (ha : Sup n a) {i k j : Nat} (h1 : rnd n a n i k = true) (h2 : a k j = true) : rnd n a n i j = true := by
  rcases rnd_row ha i n with h | h
  · exact h k j h1 h2
  · cases hr : rnd n a n i j
    · have hlt := cnt_lt (p := rnd n a n i) (q := fun _ => true) (fun x _ => rfl) hr rfl n (ha _ _ h2).2
      rw [cnt_all] at hlt
      omega
    · rfl
theorem rnd_has {n : Nat} {a : (Nat → Nat → Bool)} {i j : Nat} (h : a i j = true) : ∀ r, rnd n a r i j = true
  | 0 => h
  | r + 1 => rnd_up (rnd_has h r)
theorem rnd_trans {n : Nat} {a : (Nat → Nat → Bool)} (ha : Sup n a) : ∀ r {i k j : Nat}, rnd n a n i k = true → rnd n a r k j = true → rnd n a n i j = true
  | 0, i, k, j, h1, h2 => rnd_closed ha h1 h2
  | r + 1, i, k, j, h1, h2 => by
    rcases rOr_iff.1 h2 with h2 | h2
    · exact rnd_trans ha r h1 h2
    · obtain ⟨m, hm, h3, h4⟩ := rComp_iff.1 h2
      exact rnd_closed ha (rnd_trans ha r h1 h3) h4
/-- Both ways mean the same. -/
theorem rnd_wsh {n : Nat} {a : (Nat → Nat → Bool)} (ha : Sup n a) : rnd n a n = wsh a n :=
  rl_ext fun i j => ⟨rnd_sub ha n i j, wsh_least (fun i j h => rnd_has h n) (fun i k j h1 h2 => rnd_trans ha n h1 h2) n i j⟩
/-! ### what a path means -/
def kAt (l : List Int) (k : Nat) : Nat := (iAt l k).toNat
def rowR (n : Nat) (acc : List (Nat → Nat → Bool)) (ks : List Int) : Nat → (Nat → Nat → Bool)
  | 0 => rId n
  | m + 1 => rComp n (rowR n acc ks m) (nAt acc (kAt ks m))
def altR (acc : List (Nat → Nat → Bool)) (ks : List Int) : Nat → (Nat → Nat → Bool)
  | 0 => rNo
  | m + 1 => rOr (altR acc ks m) (nAt acc (kAt ks m))
def stepR (n : Nat) (st : UInt8 → (Nat → Nat → Bool)) (acc : List (Nat → Nat → Bool)) (x : PieceD) : (Nat → Nat → Bool) :=
  if x.f0 = 1 then st x.f1
  else if x.f0 = 2 then rowR n acc x.f2 x.f2.length
  else if x.f0 = 3 then altR acc x.f2 x.f2.length
  else if x.f0 = 4 then rOr (wsh (nAt acc (kAt x.f2 0)) n) (rId n)
  else if x.f0 = 5 then wsh (nAt acc (kAt x.f2 0)) n
  else rOr (nAt acc (kAt x.f2 0)) (rId n)
def denR (n : Nat) (st : UInt8 → (Nat → Nat → Bool)) (ps : List PieceD) : Nat → List (Nat → Nat → Bool)
  | 0 => []
  | i + 1 => denR n st ps i ++ [stepR n st (denR n st ps i) (nAt ps i)]
def endR (n : Nat) (st : UInt8 → (Nat → Nat → Bool)) (ps : List PieceD) : (Nat → Nat → Bool) := nAt (denR n st ps ps.length) (ps.length - 1)
theorem denR_len (n : Nat) (st : UInt8 → (Nat → Nat → Bool)) (ps : List PieceD) : ∀ i, (denR n st ps i).length = i
  | 0 => rfl
  | i + 1 => by rw [denR]; simp [denR_len n st ps i]
theorem nAt_end {α : Type} [Inhabited α] (l : List α) (x : α) {k : Nat} (hk : k = l.length) : nAt (l ++ [x]) k = x := by subst hk; simp [nAt, List.getD]
theorem nAt_front {α : Type} [Inhabited α] (l : List α) (x : α) {k : Nat} (hk : k < l.length) : nAt (l ++ [x]) k = nAt l k := by simp [nAt, List.getD, List.getElem?_append_left hk]
theorem nAt_far {α : Type} [Inhabited α] (l : List α) {k : Nat} (hk : l.length ≤ k) : nAt l k = default := by simp [nAt, List.getD, List.getElem?_eq_none hk]
theorem sup_row {n : Nat} {acc : List (Nat → Nat → Bool)} (h : ∀ k, Sup n (nAt acc k)) (ks : List Int) : ∀ m, Sup n (rowR n acc ks m)
  | 0 => sup_id n
  | m + 1 => sup_comp (sup_row h ks m) (h _)
theorem sup_alt {n : Nat} {acc : List (Nat → Nat → Bool)} (h : ∀ k, Sup n (nAt acc k)) (ks : List Int) : ∀ m, Sup n (altR acc ks m)
  | 0 => sup_no n
  | m + 1 => sup_or (sup_alt h ks m) (h _)
theorem sup_stepR {n : Nat} {st : UInt8 → (Nat → Nat → Bool)} {acc : List (Nat → Nat → Bool)} (hs : ∀ l, Sup n (st l)) (h : ∀ k, Sup n (nAt acc k)) (x : PieceD) : Sup n (stepR n st acc x) := by
  unfold stepR
  split
  · exact hs _
  split
  · exact sup_row h _ _
  split
  · exact sup_alt h _ _
  split
  · exact sup_or (sup_wsh (h _) _) (sup_id n)
  split
  · exact sup_wsh (h _) _
  · exact sup_or (h _) (sup_id n)
theorem sup_den {n : Nat} {st : UInt8 → (Nat → Nat → Bool)} (hs : ∀ l, Sup n (st l)) (ps : List PieceD) : ∀ i k, Sup n (nAt (denR n st ps i) k)
  | 0, k => by rw [denR, nAt_far _ (by simp)]; exact sup_dflt n
  | i + 1, k => by
    rw [denR]
    rcases Nat.lt_trichotomy k i with h | h | h
    · rw [nAt_front _ _ (by rw [denR_len]; exact h)]
      exact sup_den hs ps i k
    · rw [nAt_end _ _ (by rw [denR_len]; exact h)]
      exact sup_stepR hs (sup_den hs ps i) _
    · rw [nAt_far _ (by simp [denR_len]; omega)]
      exact sup_dflt n
theorem sup_end {n : Nat} {st : UInt8 → (Nat → Nat → Bool)} (hs : ∀ l, Sup n (st l)) (ps : List PieceD) : Sup n (endR n st ps) := sup_den hs ps _ _
/-- The vertices that are reached, ascending. -/
def reachL (n : Nat) (p : Nat → Bool) : List Int := ((List.range n).filter p).map fun k : Nat => (k : Int)
theorem reachL_succ (n : Nat) (p : Nat → Bool) : reachL (n + 1) p = if p n = true then reachL n p ++ [(n : Int)] else reachL n p := by
  unfold reachL
  rw [List.range_succ, List.filter_append]
  by_cases h : p n = true
  · simp [h]
  · simp [h]
theorem reachL_more {n m : Nat} {p : Nat → Bool} (h : ∀ k, p k = true → k < n) (hm : n ≤ m) : reachL m p = reachL n p := by
  obtain ⟨d, rfl⟩ : ∃ d, m = n + d := ⟨m - n, by omega⟩
  induction d with
  | zero => rfl
  | succ d ih =>
    rw [show n + (d + 1) = (n + d) + 1 by omega, reachL_succ, if_neg (fun e => by have := h _ e; omega)]
    exact ih (by omega)
theorem reachL_len (n : Nat) (p : Nat → Bool) : (reachL n p).length ≤ n := by
  induction n with
  | zero => simp [reachL]
  | succ n ih =>
    rw [reachL_succ]
    split
    · simp; omega
    · omega
def pairsL (R : (Nat → Nat → Bool)) (m : Nat) : Nat → List (List Int)
  | 0 => []
  | v + 1 => pairsL R m v ++ (reachL m (R v)).map fun w => [(v : Int), w]
theorem pairsL_len (R : (Nat → Nat → Bool)) (m : Nat) : ∀ v, (pairsL R m v).length ≤ v * m
  | 0 => by simp [pairsL]
  | v + 1 => by
    rw [pairsL, List.length_append, List.length_map, Nat.add_mul, Nat.one_mul]
    have := pairsL_len R m v
    have := reachL_len m (R v)
    omega
end Go.Proofs.YtmdgdnkllclpcaaGreat

/- The automaton of a path, plain: which occurrences come first, last, next; how many there are. No condition. -/
namespace Go.Proofs.YtmdgdnkllclpcaaGreat
open Go.RowKit
set_option linter.unusedVariables false
set_option linter.unusedSimpArgs false
/-- What is known of a piece. -/
structure SpD where
  first : Nat → Bool
  last : Nat → Bool
  null : Bool
/-- The occurrences met so far: their labels, and which may follow which. -/
structure StD where
  labs : List UInt8
  fol : Nat → Nat → Bool
def noB : Nat → Bool := fun _ => false
def oneB (n : Nat) : Nat → Bool := fun j => decide (j = n)
def orB (a b : Nat → Bool) : Nat → Bool := fun j => a j || b j
def ifB (c : Bool) (b : Nat → Bool) : Nat → Bool := fun j => c && b j
def folJ (fol : Nat → Nat → Bool) (l f : Nat → Bool) : Nat → Nat → Bool := fun i j => fol i j || (l i && f j)
def sp0 (b : Bool) : SpD := ⟨noB, noB, b⟩
def spRow (o y : SpD) : SpD := ⟨orB o.first (ifB o.null y.first), orB (ifB y.null o.last) y.last, o.null && y.null⟩
def spAlt (o y : SpD) : SpD := ⟨orB o.first y.first, orB o.last y.last, o.null || y.null⟩
def rowS (go : Nat → StD → StD × SpD) (ks : List Int) (s : StD) : Nat → StD × SpD
  | 0 => (s, sp0 true)
  | m + 1 =>
    let a := rowS go ks s m
    let r := go (kAt ks m) a.1
    (⟨r.1.labs, folJ r.1.fol a.2.last r.2.first⟩, spRow a.2 r.2)
def altS (go : Nat → StD → StD × SpD) (ks : List Int) (s : StD) : Nat → StD × SpD
  | 0 => (s, sp0 false)
  | m + 1 =>
    let a := altS go ks s m
    let r := go (kAt ks m) a.1
    (r.1, spAlt a.2 r.2)
def glu (ps : List PieceD) : Nat → Nat → StD → StD × SpD
  | 0, _, s => (s, sp0 false)
  | f + 1, p, s =>
    let x := nAt ps p
    if x.f0 = 1 then (⟨s.labs ++ [x.f1], s.fol⟩, ⟨oneB s.labs.length, oneB s.labs.length, false⟩)
    else if x.f0 = 2 then rowS (glu ps f) x.f2 s x.f2.length
    else if x.f0 = 3 then altS (glu ps f) x.f2 s x.f2.length
    else
      let r := glu ps f (kAt x.f2 0) s
      (⟨r.1.labs, if x.f0 = 6 then r.1.fol else folJ r.1.fol r.2.last r.2.first⟩, ⟨r.2.first, r.2.last, r.2.null || decide (x.f0 ≠ 5)⟩)
/-! ### how many occurrences there are -/
def occK (acc : List Nat) (ks : List Int) : Nat → Nat
  | 0 => 0
  | m + 1 => occK acc ks m + nAt acc (kAt ks m)
def occS (acc : List Nat) (x : PieceD) : Nat := (if x.f0 = 1 then 1 else 0) + occK acc x.f2 x.f2.length
def occL (ps : List PieceD) : Nat → List Nat
  | 0 => []
  | i + 1 => occL ps i ++ [occS (occL ps i) (nAt ps i)]
def occA (ps : List PieceD) (k : Nat) : Nat := nAt (occL ps ps.length) k
theorem occL_len (ps : List PieceD) : ∀ i, (occL ps i).length = i
  | 0 => rfl
  | i + 1 => by rw [occL, List.length_append, occL_len ps i]; rfl
theorem occL_at (ps : List PieceD) {k n : Nat} (h : k < n) : nAt (occL ps n) k = occS (occL ps k) (nAt ps k) := by
  induction n with
  | zero => omega
  | succ n ih =>
    rw [occL]
    rcases Nat.lt_or_ge k n with h1 | h1
    · rw [nAt_front _ _ (by rw [occL_len]; omega), ih h1]
    · obtain rfl : k = n := by omega
      rw [nAt_end _ _ (occL_len ps k).symm]
theorem occL_same (ps : List PieceD) {k n m : Nat} (h : k < n) (h' : k < m) : nAt (occL ps n) k = nAt (occL ps m) k := by rw [occL_at ps h, occL_at ps h']
theorem occL_app (ps more : List PieceD) : ∀ i, i ≤ ps.length → occL (ps ++ more) i = occL ps i
  | 0, _ => rfl
  | i + 1, h => by
    rw [occL, occL, occL_app ps more i (by omega)]
    rw [show nAt (ps ++ more) i = nAt ps i by simp [nAt, List.getD, List.getElem?_append_left (show i < ps.length by omega)]]
theorem occK_ext {a b : List Nat} {ks : List Int} : ∀ m, (∀ j, j < m → nAt a (kAt ks j) = nAt b (kAt ks j)) → occK a ks m = occK b ks m
  | 0, _ => rfl
  | m + 1, h => by rw [occK, occK, occK_ext m (fun j hj => h j (by omega)), h m (by omega)]
theorem occA_app {ps more : List PieceD} {k : Nat} (h : k < ps.length) : occA (ps ++ more) k = occA ps k := by
  unfold occA
  rw [occL_same (ps ++ more) (m := ps.length) (by rw [List.length_append]; omega) h, occL_app ps more ps.length (Nat.le_refl _)]
theorem occA_end (ps : List PieceD) (x : PieceD) : occA (ps ++ [x]) ps.length = occS (occL ps ps.length) x := by
  unfold occA
  rw [occL_at (ps ++ [x]) (by simp), occL_app ps [x] ps.length (Nat.le_refl _), nAt_end ps x rfl]
/-- The sum over a list of kids. -/
def occT (ps : List PieceD) (ks : List Int) : Nat := (ks.map fun k => occA ps k.toNat).sum
theorem occT_snoc (ps : List PieceD) (ks : List Int) (k : Int) : occT ps (ks ++ [k]) = occT ps ks + occA ps k.toNat := by simp [occT]
theorem occK_sum (ps : List PieceD) (ks : List Int) : ∀ m, m ≤ ks.length → occK (occL ps ps.length) ks m = ((ks.take m).map fun k => occA ps k.toNat).sum
  | 0, _ => by simp [occK]
  | m + 1, h => by
    rw [occK, occK_sum ps ks m (by omega), List.take_succ_eq_append_getElem (by omega), List.map_append, List.sum_append]
    simp [occA, kAt, iAt, List.getD, List.getElem?_eq_getElem (show m < ks.length by omega)]
theorem occT_eq (ps : List PieceD) (ks : List Int) : occK (occL ps ps.length) ks ks.length = occT ps ks := by rw [occK_sum ps ks _ (Nat.le_refl _), List.take_length]; rfl
theorem occT_app {ps more : List PieceD} {ks : List Int} (h : ∀ k ∈ ks, k.toNat < ps.length) : occT (ps ++ more) ks = occT ps ks := by
  unfold occT
  congr 1
  exact List.map_congr_left fun k hk => occA_app (h k hk)
/-- A piece laid behind: its kids' occurrences, one for a step. -/
theorem occA_piece (ps : List PieceD) (x : PieceD) (h : x.f0 ≠ 1) : occA (ps ++ [x]) ps.length = occT ps x.f2 := by
  rw [occA_end, occS, if_neg h, Nat.zero_add, occT_eq]
theorem occA_step (ps : List PieceD) (l : UInt8) : occA (ps ++ [⟨1, l, []⟩]) ps.length = 1 := by
  rw [occA_end]; rfl
end Go.Proofs.YtmdgdnkllclpcaaGreat

/- GraphOk of both. No condition. -/
namespace Go.Proofs.YtmdgdnkllclpcaaGreat
open Go.RowKit
set_option linter.unusedVariables false
set_option linter.unusedSimpArgs false
set_option maxHeartbeats 4000000 in
set_option maxRecDepth 100000 in
theorem specGraphOk_any (v : Value) (n : Int) (xs : List EdgeR) (w : World) (hv : EdgesR w v xs) :
    Calls Tryz.prog 81 #[.agg #[.int .i64 n, v]] w fun e w' => e = .returned (.bool (graphB ⟨n, xs⟩)) ∧ Fr w w' := by
  obtain ⟨ao, ba, oa, ca, rfl, hca, hma, fa⟩ := hv.one
  have FA := Lib.hid fa
  clear hv fa
  by_cases hn : 1 ≤ n ∧ n ≤ 12
  · have gN : decide (1 ≤ n ∧ n ≤ 12) = true := by simp [hn]
    by_cases hl : xs.length ≤ 40
    · have hN : Hid (∀ k, k < xs.length → edgK n xs k = false → graphB ⟨n, xs⟩ = false) := Lib.hid fun k hk h => graphB_no (g := ⟨n, xs⟩) hk h
      have hY : Hid ((∀ j, j < xs.length → edgK n xs j = true) → graphB ⟨n, xs⟩ = true) := Lib.hid fun h => graphB_ok (g := ⟨n, xs⟩) hn hl h
      have hn1 := hn.1
      have hn2 := hn.2
      clear hn
      go_enter Tryz.func81, Tryz.ntmps81
      go_wp2_with (go_at_call 56; refine (l01In_any _ _ _ _).mono ?_; rintro e w1 ⟨rfl, rfl⟩)
      go_loopw [3, 4] (fun i _ wr => ∃ k : Nat, k ≤ xs.length ∧ i = .int .i64 k ∧ Fr w wr ∧ Hid (∀ j, j < k → edgK n xs j = true) ∧ Box wr w.heap.size #[.int .i64 n, .slice ao xs.length ca] 55) (fun i _ _ => xs.length - (intOf i).toNat)
      case atStart => exact ⟨0, Nat.zero_le _, rfl, by exact Qf, Lib.hid (fun j hj => absurd hj (by omega)), Box.new _ _ _⟩
      case round =>
        obtain ⟨k, hk, rfl, hfr, hj, BX⟩ := hrel
        have FX := BX.facts
        have zr := BX.lt
        by_cases hlt : k < xs.length
        · obtain ⟨rfl, hba, fa⟩ := FA.out (by omega); obtain ⟨x, hx⟩ : ∃ x, edgeAt xs k = x := ⟨_, rfl⟩; obtain ⟨y, hy⟩ : ∃ y, edgeAt xs (k - 1) = y := ⟨_, rfl⟩; obtain ⟨g0, g1, g2⟩ := fa k hlt; obtain ⟨e0, e1, e2⟩ := fa (k - 1) (by omega); rw [hx] at g0 g1 g2; rw [hy] at e0 e1 e2; have c0 := (hfr.cell (p := ⟨ba, _, none⟩) hba).trans g0; have c1 := (hfr.cell (p := ⟨ba, _, none⟩) hba).trans g1; have c2 := (hfr.cell (p := ⟨ba, _, none⟩) hba).trans g2; have E0 := Lib.hid e0; have E1 := Lib.hid e1; have E2 := Lib.hid e2; have hbw : ba < wr.heap.size := Nat.lt_of_lt_of_le hba hfr.size; have hl := x.f1.toNat_lt; have HX := Lib.hid hx; have HY := Lib.hid hy; clear g0 g1 g2 e0 e1 e2 fa hx hy
          have hwn : IntKind.i64.wrap (n - 1) = n - 1 := IntWalk.i64_in _ (by omega)
          by_cases hf : 0 ≤ x.f0 ∧ x.f0 < n
          · have gF : decide (0 ≤ x.f0 ∧ x.f0 ≤ n - 1) = true := by simp; omega
            by_cases ht : 0 ≤ x.f2 ∧ x.f2 < n
            · have gT : decide (0 ≤ x.f2 ∧ x.f2 ≤ n - 1) = true := by simp; omega
              by_cases hl1 : 97 ≤ x.f1.toNat
              · have gA : decide ((x.f1.toNat : Int) < 97) = false := by simp; omega
                by_cases hl2 : x.f1.toNat ≤ 100
                · have gB : decide (100 < (x.f1.toNat : Int)) = false := by simp; omega
                  have HK := Lib.hid (fun h => edgK_ok (n := n) HX.out HY.out hf ht ⟨hl1, hl2⟩ h)
                  clear hf ht
                  by_cases hz : k = 0
                  · have hF : Hid (edgK n xs k = true) := Lib.hid (HK.out (.inl hz))
                    subst hz
                    simp only [Nat.zero_mul, Nat.add_zero] at c0 c1 c2
                    go_wp2
                    go_quiet (first | (go_at_call 56; exact Calls.quiet_of_same ((l01In_any _ _ _ _).mono fun _ _ h => ⟨h.1, h.2.symm⟩)))
                    go_wp2
                    go_roundw
                    case rel => exact ⟨1, by omega, by go_num, by exact Qf, Lib.hid (fun j h => by obtain rfl : j = 0 := (by omega); exact hF.out), BX.fr (by exact Qf)⟩
                    case measure => (simp [intOf]; omega)
                  · have hk0 : 0 < k := by omega
                    have gk : decide (0 < (k : Int)) = true := by simp; omega
                    have hk2 : ((k - 1 : Nat) : Int) < xs.length := by omega
                    have hwk : IntKind.i64.wrap ((k : Int) - 1) = ((k - 1 : Nat) : Int) := by rw [IntWalk.i64_in _ (by omega)]; omega
                    have RG : ∀ w', Sf (wr.alloc (.cells #[.int .i64 x.f0, .int .u8 (x.f1.toNat : Int), .int .i64 x.f2] 184)) w' → ∀ o, w'.cell? ⟨w.heap.size, o, none⟩ = #[Value.int .i64 n, .slice (some ⟨ba, oa, none⟩) xs.length ca][o]? := fun w' h o => ((BX.alloc _).fr h.out).cell o
                    have RX : ∀ w', Sf (wr.alloc (.cells #[.int .i64 x.f0, .int .u8 (x.f1.toNat : Int), .int .i64 x.f2] 184)) w' → ∀ o, w'.cell? ⟨wr.heap.size, o, none⟩ = #[Value.int .i64 x.f0, .int .u8 (x.f1.toNat : Int), .int .i64 x.f2][o]? := fun w' h o => ((Box.new _ _ _).fr h.out).cell o
                    have P0 : ∀ w', Sf (wr.alloc (.cells #[.int .i64 x.f0, .int .u8 (x.f1.toNat : Int), .int .i64 x.f2] 184)) w' → w'.cell? _ = _ := fun w' h => ((hfr.trans (((Fr.refl _).alloc _).trans h.out)).cell (p := ⟨ba, _, none⟩) hba).trans E0.out
                    have P1 : ∀ w', Sf (wr.alloc (.cells #[.int .i64 x.f0, .int .u8 (x.f1.toNat : Int), .int .i64 x.f2] 184)) w' → w'.cell? _ = _ := fun w' h => ((hfr.trans (((Fr.refl _).alloc _).trans h.out)).cell (p := ⟨ba, _, none⟩) hba).trans E1.out
                    have P2 : ∀ w', Sf (wr.alloc (.cells #[.int .i64 x.f0, .int .u8 (x.f1.toNat : Int), .int .i64 x.f2] 184)) w' → w'.cell? _ = _ := fun w' h => ((hfr.trans (((Fr.refl _).alloc _).trans h.out)).cell (p := ⟨ba, _, none⟩) hba).trans E2.out
                    cases hL : edgeLt y x
                    · have hF := Lib.hid (hN.out k hlt (edgK_less HX.out HY.out hk0 hL))
                      have CT : Hid (∀ w', Calls Tryz.prog 140 #[.agg #[.int .i64 y.f0, .int .u8 (y.f1.toNat : Int), .int .i64 y.f2], .agg #[.int .i64 x.f0, .int .u8 (x.f1.toNat : Int), .int .i64 x.f2]] w' fun e w'' => e = .returned (.bool false) ∧ Fr w' w'') := Lib.hid fun w' => by rw [← hL]; exact specEdgeLess_any y x w'
                      clear hL
                      go_wp2_with fail
                      go_region_held3 (fun w' => Sf (wr.alloc (.cells #[.int .i64 x.f0, .int .u8 (x.f1.toNat : Int), .int .i64 x.f2] 184)) w') ((refine Sf.mk ?_; repeat (first | (with_reducible exact Fr.refl _) | (with_reducible assumption) | (with_reducible refine Fr.drewN ?_ _) | (with_reducible refine Fr.drew ?_) | (with_reducible refine Fr.alloc ?_ _) | (with_reducible refine Fr.setCell ?_ (by exact Qz) _) | (with_reducible refine Fr.trans ?_ (by with_reducible assumption))))) (first | (go_at_call 56; refine (l01In_any _ _ _ _).mono ?_; rintro e w1 ⟨rfl, rfl⟩) | (go_at_call 140; refine (CT.out _).mono ?_; rintro e w5 ⟨rfl, hf5⟩))
                      all_goals
                        go_wp2_with fail
                        go_ret
                        (exact ⟨ret_bool hF.out.symm, by exact Qf⟩)
                    · have hF : Hid (edgK n xs k = true) := Lib.hid (HK.out (.inr hL))
                      have CT : Hid (∀ w', Calls Tryz.prog 140 #[.agg #[.int .i64 y.f0, .int .u8 (y.f1.toNat : Int), .int .i64 y.f2], .agg #[.int .i64 x.f0, .int .u8 (x.f1.toNat : Int), .int .i64 x.f2]] w' fun e w'' => e = .returned (.bool true) ∧ Fr w' w'') := Lib.hid fun w' => by rw [← hL]; exact specEdgeLess_any y x w'
                      clear hL
                      go_wp2_with fail
                      go_region_held3 (fun w' => Sf (wr.alloc (.cells #[.int .i64 x.f0, .int .u8 (x.f1.toNat : Int), .int .i64 x.f2] 184)) w') ((refine Sf.mk ?_; repeat (first | (with_reducible exact Fr.refl _) | (with_reducible assumption) | (with_reducible refine Fr.drewN ?_ _) | (with_reducible refine Fr.drew ?_) | (with_reducible refine Fr.alloc ?_ _) | (with_reducible refine Fr.setCell ?_ (by exact Qz) _) | (with_reducible refine Fr.trans ?_ (by with_reducible assumption))))) (first | (go_at_call 56; refine (l01In_any _ _ _ _).mono ?_; rintro e w1 ⟨rfl, rfl⟩) | (go_at_call 140; refine (CT.out _).mono ?_; rintro e w5 ⟨rfl, hf5⟩))
                      all_goals
                        clear hwk
                        go_wp2_with fail
                        go_roundw
                        (case rel => exact ⟨k + 1, by omega, by go_num, by exact Qf, Lib.hid (fun j h => (by rcases Nat.lt_succ_iff_lt_or_eq.1 h with h | rfl; exact hj.out j h; exact hF.out)), BX.fr (by exact Qf)⟩); (case measure => (simp [intOf]; omega))
                · have gB : decide (100 < (x.f1.toNat : Int)) = true := by simp; omega
                  have hF := Lib.hid (hN.out k hlt (edgK_label HX.out (by omega)))
                  clear hf ht
                  go_wp2
                  go_quiet (first | (go_at_call 56; exact Calls.quiet_of_same ((l01In_any _ _ _ _).mono fun _ _ h => ⟨h.1, h.2.symm⟩)))
                  go_wp2
                  go_ret
                  (exact ⟨ret_bool hF.out.symm, by exact Qf⟩)
              · have gA : decide ((x.f1.toNat : Int) < 97) = true := by simp; omega
                have hF := Lib.hid (hN.out k hlt (edgK_label HX.out (by omega)))
                clear hf ht
                go_wp2
                go_quiet (first | (go_at_call 56; exact Calls.quiet_of_same ((l01In_any _ _ _ _).mono fun _ _ h => ⟨h.1, h.2.symm⟩)))
                go_wp2
                go_ret
                (exact ⟨ret_bool hF.out.symm, by exact Qf⟩)
            · have gT : decide (0 ≤ x.f2 ∧ x.f2 ≤ n - 1) = false := by rw [decide_eq_false_iff_not]; omega
              have hF := Lib.hid (hN.out k hlt (edgK_to HX.out ht))
              clear hf ht
              go_wp2
              go_quiet (first | (go_at_call 56; exact Calls.quiet_of_same ((l01In_any _ _ _ _).mono fun _ _ h => ⟨h.1, h.2.symm⟩)))
              go_wp2
              go_ret
              (exact ⟨ret_bool hF.out.symm, by exact Qf⟩)
          · have gF : decide (0 ≤ x.f0 ∧ x.f0 ≤ n - 1) = false := by rw [decide_eq_false_iff_not]; omega
            have hF := Lib.hid (hN.out k hlt (edgK_from HX.out hf))
            clear hf
            go_wp2
            go_quiet (first | (go_at_call 56; exact Calls.quiet_of_same ((l01In_any _ _ _ _).mono fun _ _ h => ⟨h.1, h.2.symm⟩)))
            go_wp2
            go_ret
            (exact ⟨ret_bool hF.out.symm, by exact Qf⟩)
        · have hF : Hid (graphB ⟨n, xs⟩ = true) := Lib.hid (hY.out (fun j h => hj.out j (by omega)))
          go_wp2
          go_ret
          (exact ⟨ret_bool hF.out.symm, by exact Qf⟩)
    · have hF : Hid (graphB ⟨n, xs⟩ = false) := Lib.hid (graphB_long (g := ⟨n, xs⟩) hl)
      clear hn
      go_enter Tryz.func81, Tryz.ntmps81
      go_wp2_with (go_at_call 56; refine (l01In_any _ _ _ _).mono ?_; rintro e w1 ⟨rfl, rfl⟩)
      go_ret
      (exact ⟨ret_bool hF.out.symm, by exact Qf⟩)
  · have gN : decide (1 ≤ n ∧ n ≤ 12) = false := by simpa using hn
    have hF : Hid (graphB ⟨n, xs⟩ = false) := Lib.hid (graphB_size (g := ⟨n, xs⟩) hn)
    clear hn
    go_enter Tryz.func81, Tryz.ntmps81
    go_wp2_with (go_at_call 56; refine (l01In_any _ _ _ _).mono ?_; rintro e w1 ⟨rfl, rfl⟩)
    go_ret
    (exact ⟨ret_bool hF.out.symm, by exact Qf⟩)
set_option maxHeartbeats 4000000 in
set_option maxRecDepth 100000 in
theorem implGraphOk_any (v : Value) (n : Int) (xs : List EdgeR) (w : World) (hv : EdgesR w v xs) :
    Calls Tryz.prog 84 #[.agg #[.int .i64 n, v]] w fun e w' => e = .returned (.bool (graphB ⟨n, xs⟩)) ∧ Fr w w' := by
  obtain ⟨ao, ba, oa, ca, rfl, hca, hma, fa⟩ := hv.one
  have FA := Lib.hid fa
  clear hv fa
  by_cases hn1 : 1 ≤ n
  · by_cases hn2 : n ≤ 12
    · by_cases hl : xs.length ≤ 40
      · have hN : Hid (∀ k, k < xs.length → edgK n xs k = false → graphB ⟨n, xs⟩ = false) := Lib.hid fun k hk h => graphB_no (g := ⟨n, xs⟩) hk h
        have hY : Hid ((∀ j, j < xs.length → edgK n xs j = true) → graphB ⟨n, xs⟩ = true) := Lib.hid fun h => graphB_ok (g := ⟨n, xs⟩) ⟨hn1, hn2⟩ hl h
        have CV : Hid (∀ (x : Int) w', Calls Tryz.prog 142 #[.agg #[.int .i64 n, .slice ao xs.length ca], .int .i64 x] w' fun e w'' => e = .returned (.bool (decide (0 ≤ x ∧ x < n))) ∧ Fr w' w'') := Lib.hid fun x w' => isVertex_any n _ x w'
        go_enter Tryz.func84, Tryz.ntmps84
        go_wp2
        go_loopw [3, 4, 22] (fun _ _ i wr => ∃ k : Nat, k ≤ xs.length ∧ i = .int .i64 k ∧ Fr w wr ∧ Hid (∀ j, j < k → edgK n xs j = true) ∧ Box wr w.heap.size #[.int .i64 n, .slice ao xs.length ca] 55) (fun _ _ i _ => xs.length - (intOf i).toNat)
        case atStart => exact ⟨0, Nat.zero_le _, rfl, by exact Qf, Lib.hid (fun j hj => absurd hj (by omega)), Box.new _ _ _⟩
        case round =>
          obtain ⟨k, hk, rfl, hfr, hj, BX⟩ := hrel
          have FX := BX.facts
          have zr := BX.lt
          by_cases hlt : k < xs.length
          · obtain ⟨rfl, hba, fa⟩ := FA.out (by omega); obtain ⟨x, hx⟩ : ∃ x, edgeAt xs k = x := ⟨_, rfl⟩; obtain ⟨y, hy⟩ : ∃ y, edgeAt xs (k - 1) = y := ⟨_, rfl⟩; obtain ⟨g0, g1, g2⟩ := fa k hlt; obtain ⟨e0, e1, e2⟩ := fa (k - 1) (by omega); rw [hx] at g0 g1 g2; rw [hy] at e0 e1 e2; have c0 := (hfr.cell (p := ⟨ba, _, none⟩) hba).trans g0; have c1 := (hfr.cell (p := ⟨ba, _, none⟩) hba).trans g1; have c2 := (hfr.cell (p := ⟨ba, _, none⟩) hba).trans g2; have E0 := Lib.hid e0; have E1 := Lib.hid e1; have E2 := Lib.hid e2; have hbw : ba < wr.heap.size := Nat.lt_of_lt_of_le hba hfr.size; have hl := x.f1.toNat_lt; have HX := Lib.hid hx; have HY := Lib.hid hy; clear g0 g1 g2 e0 e1 e2 fa hx hy
            by_cases hf : 0 ≤ x.f0 ∧ x.f0 < n
            · have gF : decide (0 ≤ x.f0 ∧ x.f0 < n) = true := by simp [hf]
              by_cases ht : 0 ≤ x.f2 ∧ x.f2 < n
              · have gT : decide (0 ≤ x.f2 ∧ x.f2 < n) = true := by simp [ht]
                by_cases hl1 : 97 ≤ x.f1.toNat ∧ x.f1.toNat ≤ 100
                · have gA : decide (97 ≤ x.f1.toNat ∧ x.f1.toNat ≤ 100) = true := by simp [hl1]
                  have HK := Lib.hid (fun h => edgK_ok (n := n) HX.out HY.out hf ht hl1 h)
                  clear hf ht hl1
                  go_wp2_with fail
                  refine (CV.out _ _).mono ?_
                  rintro e w2 ⟨rfl, hf2⟩
                  have BG2 := ((BX.alloc (.cells #[.int .i64 x.f0, .int .u8 (x.f1.toNat : Int), .int .i64 x.f2] 184)).fr hf2)
                  have BE2 : Box w2 wr.heap.size #[.int .i64 x.f0, .int .u8 (x.f1.toNat : Int), .int .i64 x.f2] 184 := (Box.new _ _ _).fr hf2
                  have FG2 := BG2.facts
                  have FE2 := BE2.facts
                  rw [gF]
                  go_wp2_with fail
                  refine (CV.out _ _).mono ?_
                  rintro e w3 ⟨rfl, hf3⟩
                  have BG3 := BG2.fr hf3
                  have BE3 := BE2.fr hf3
                  clear FG2 FE2 FX
                  have FG3 := BG3.facts
                  have FE3 := BE3.facts
                  rw [gT]
                  go_wp2_with fail
                  refine (isLabel_any x.f1 _).mono ?_
                  rintro e w4 ⟨rfl, rfl⟩
                  rw [gA]
                  by_cases hz : k = 0
                  · have hF : Hid (edgK n xs k = true) := Lib.hid (HK.out (.inl hz))
                    subst hz
                    go_wp2
                    go_quiet (fail)
                    go_wp2
                    go_roundw
                    case rel => exact ⟨1, by omega, by go_num, by exact Qf, Lib.hid (fun j h => by obtain rfl : j = 0 := (by omega); exact hF.out), BX.fr (by exact Qf)⟩
                    case measure => (simp [intOf]; omega)
                  · have hk0 : 0 < k := by omega
                    have gk : decide (0 < (k : Int)) = true := by simp; omega
                    have hk2 : ((k - 1 : Nat) : Int) < xs.length := by omega
                    have hwk : IntKind.i64.wrap ((k : Int) - 1) = ((k - 1 : Nat) : Int) := by rw [IntWalk.i64_in _ (by omega)]; omega
                    have hfw : Hid (Fr w w4) := Lib.hid (by exact Qf)
                    have RG : ∀ w', Sf w4 w' → ∀ o, w'.cell? ⟨w.heap.size, o, none⟩ = #[Value.int .i64 n, .slice (some ⟨ba, oa, none⟩) xs.length ca][o]? := fun w' h o => (BG3.fr h.out).cell o
                    have RX : ∀ w', Sf w4 w' → ∀ o, w'.cell? ⟨wr.heap.size, o, none⟩ = #[Value.int .i64 x.f0, .int .u8 (x.f1.toNat : Int), .int .i64 x.f2][o]? := fun w' h o => (BE3.fr h.out).cell o
                    have P0 : ∀ w', Sf w4 w' → w'.cell? _ = _ := fun w' h => ((hfw.out.trans h.out).cell (p := ⟨ba, _, none⟩) hba).trans E0.out
                    have P1 : ∀ w', Sf w4 w' → w'.cell? _ = _ := fun w' h => ((hfw.out.trans h.out).cell (p := ⟨ba, _, none⟩) hba).trans E1.out
                    have P2 : ∀ w', Sf w4 w' → w'.cell? _ = _ := fun w' h => ((hfw.out.trans h.out).cell (p := ⟨ba, _, none⟩) hba).trans E2.out
                    cases hL : edgeLt y x
                    · have hF := Lib.hid (hN.out k hlt (edgK_less HX.out HY.out hk0 hL))
                      have CT : Hid (∀ w', Calls Tryz.prog 144 #[.agg #[.int .i64 y.f0, .int .u8 (y.f1.toNat : Int), .int .i64 y.f2], .agg #[.int .i64 x.f0, .int .u8 (x.f1.toNat : Int), .int .i64 x.f2]] w' fun e w'' => e = .returned (.bool false) ∧ Fr w' w'') := Lib.hid fun w' => by rw [← hL]; exact implEdgeLess_any y x w'
                      clear hL
                      go_wp2_with fail
                      go_region_held3 (fun w' => Sf w4 w') ((refine Sf.mk ?_; repeat (first | (with_reducible exact Fr.refl _) | (with_reducible assumption) | (with_reducible refine Fr.drewN ?_ _) | (with_reducible refine Fr.drew ?_) | (with_reducible refine Fr.alloc ?_ _) | (with_reducible refine Fr.setCell ?_ (by exact Qz) _) | (with_reducible refine Fr.trans ?_ (by with_reducible assumption))))) (first | (go_at_call 144; refine (CT.out _).mono ?_; rintro e w5 ⟨rfl, hf5⟩))
                      all_goals
                        go_wp2_with fail
                        go_ret
                        (exact ⟨ret_bool hF.out.symm, by exact Qf⟩)
                    · have hF : Hid (edgK n xs k = true) := Lib.hid (HK.out (.inr hL))
                      have CT : Hid (∀ w', Calls Tryz.prog 144 #[.agg #[.int .i64 y.f0, .int .u8 (y.f1.toNat : Int), .int .i64 y.f2], .agg #[.int .i64 x.f0, .int .u8 (x.f1.toNat : Int), .int .i64 x.f2]] w' fun e w'' => e = .returned (.bool true) ∧ Fr w' w'') := Lib.hid fun w' => by rw [← hL]; exact implEdgeLess_any y x w'
                      clear hL
                      go_wp2_with fail
                      go_region_held3 (fun w' => Sf w4 w') ((refine Sf.mk ?_; repeat (first | (with_reducible exact Fr.refl _) | (with_reducible assumption) | (with_reducible refine Fr.drewN ?_ _) | (with_reducible refine Fr.drew ?_) | (with_reducible refine Fr.alloc ?_ _) | (with_reducible refine Fr.setCell ?_ (by exact Qz) _) | (with_reducible refine Fr.trans ?_ (by with_reducible assumption))))) (first | (go_at_call 144; refine (CT.out _).mono ?_; rintro e w5 ⟨rfl, hf5⟩))
                      all_goals
                        clear hwk
                        go_wp2_with fail
                        go_roundw
                        (case rel => exact ⟨k + 1, by omega, by go_num, by exact Qf, Lib.hid (fun j h => (by rcases Nat.lt_succ_iff_lt_or_eq.1 h with h | rfl; exact hj.out j h; exact hF.out)), BX.fr (by exact Qf)⟩); (case measure => (simp [intOf]; omega))
                · have gA : decide (97 ≤ x.f1.toNat ∧ x.f1.toNat ≤ 100) = false := by simpa using hl1
                  have hF := Lib.hid (hN.out k hlt (edgK_label HX.out hl1))
                  clear hf ht hl1
                  go_wp2_with fail
                  refine (CV.out _ _).mono ?_
                  rintro e w2 ⟨rfl, hf2⟩
                  have BG2 := ((BX.alloc (.cells #[.int .i64 x.f0, .int .u8 (x.f1.toNat : Int), .int .i64 x.f2] 184)).fr hf2)
                  have BE2 : Box w2 wr.heap.size #[.int .i64 x.f0, .int .u8 (x.f1.toNat : Int), .int .i64 x.f2] 184 := (Box.new _ _ _).fr hf2
                  have FG2 := BG2.facts
                  have FE2 := BE2.facts
                  rw [gF]
                  go_wp2_with fail
                  refine (CV.out _ _).mono ?_
                  rintro e w3 ⟨rfl, hf3⟩
                  have BG3 := BG2.fr hf3
                  have BE3 := BE2.fr hf3
                  clear FG2 FE2 FX
                  have FG3 := BG3.facts
                  have FE3 := BE3.facts
                  rw [gT]
                  go_wp2_with fail
                  refine (isLabel_any x.f1 _).mono ?_
                  rintro e w4 ⟨rfl, rfl⟩
                  rw [gA]
                  go_wp2
                  go_ret
                  (exact ⟨ret_bool hF.out.symm, by exact Qf⟩)
              · have gT : decide (0 ≤ x.f2 ∧ x.f2 < n) = false := by simpa using ht
                have hF := Lib.hid (hN.out k hlt (edgK_to HX.out ht))
                clear hf ht
                go_wp2_with fail
                refine (CV.out _ _).mono ?_
                rintro e w2 ⟨rfl, hf2⟩
                have BG2 := ((BX.alloc (.cells #[.int .i64 x.f0, .int .u8 (x.f1.toNat : Int), .int .i64 x.f2] 184)).fr hf2)
                have BE2 : Box w2 wr.heap.size #[.int .i64 x.f0, .int .u8 (x.f1.toNat : Int), .int .i64 x.f2] 184 := (Box.new _ _ _).fr hf2
                have FG2 := BG2.facts
                have FE2 := BE2.facts
                rw [gF]
                go_wp2_with fail
                refine (CV.out _ _).mono ?_
                rintro e w3 ⟨rfl, hf3⟩
                rw [gT]
                go_wp2
                go_ret
                (exact ⟨ret_bool hF.out.symm, by exact Qf⟩)
            · have gF : decide (0 ≤ x.f0 ∧ x.f0 < n) = false := by simpa using hf
              have hF := Lib.hid (hN.out k hlt (edgK_from HX.out hf))
              clear hf
              go_wp2_with fail
              refine (CV.out _ _).mono ?_
              rintro e w2 ⟨rfl, hf2⟩
              rw [gF]
              go_wp2
              go_ret
              (exact ⟨ret_bool hF.out.symm, by exact Qf⟩)
          · have hF : Hid (graphB ⟨n, xs⟩ = true) := Lib.hid (hY.out (fun j h => hj.out j (by omega)))
            go_wp2
            go_ret
            (exact ⟨ret_bool hF.out.symm, by exact Qf⟩)
      · have hF : Hid (graphB ⟨n, xs⟩ = false) := Lib.hid (graphB_long (g := ⟨n, xs⟩) hl)
        go_enter Tryz.func84, Tryz.ntmps84
        go_wp2
        go_ret
        (exact ⟨ret_bool hF.out.symm, by exact Qf⟩)
    · have hF : Hid (graphB ⟨n, xs⟩ = false) := Lib.hid (graphB_size (g := ⟨n, xs⟩) (by show ¬ (1 ≤ n ∧ n ≤ 12); omega))
      go_enter Tryz.func84, Tryz.ntmps84
      go_wp2
      go_ret
      (exact ⟨ret_bool hF.out.symm, by exact Qf⟩)
  · have hF : Hid (graphB ⟨n, xs⟩ = false) := Lib.hid (graphB_size (g := ⟨n, xs⟩) (by show ¬ (1 ≤ n ∧ n ≤ 12); omega))
    go_enter Tryz.func84, Tryz.ntmps84
    go_wp2
    go_ret
    (exact ⟨ret_bool hF.out.symm, by exact Qf⟩)
end Go.Proofs.YtmdgdnkllclpcaaGreat

/- An edge put into its place (spec.l04Put), an edge added to a right graph (spec.GraphAdd). Conditions: bounds on what is read. (Printed by mk_pute.py.) -/
namespace Go.Proofs.YtmdgdnkllclpcaaGreat
open Go.RowKit
set_option linter.unusedVariables false
set_option linter.unusedSimpArgs false
def selE (p : EdgeR → Bool) (xs : List EdgeR) (k : Nat) : List EdgeR := (xs.take k).filter p
theorem selE_yes {p : EdgeR → Bool} {xs : List EdgeR} {k : Nat} {x : EdgeR} (hk : k < xs.length) (hx : edgeAt xs k = x) (h : p x = true) : selE p xs (k + 1) = selE p xs k ++ [x] := by
  have e : xs[k] = x := by rw [← hx]; simp [edgeAt, List.getD, List.getElem?_eq_getElem hk]
  unfold selE
  rw [List.take_succ_eq_append_getElem hk, List.filter_append, e]
  simp [h]
theorem selE_no {p : EdgeR → Bool} {xs : List EdgeR} {k : Nat} {x : EdgeR} (hk : k < xs.length) (hx : edgeAt xs k = x) (h : p x = false) : selE p xs (k + 1) = selE p xs k := by
  have e : xs[k] = x := by rw [← hx]; simp [edgeAt, List.getD, List.getElem?_eq_getElem hk]
  unfold selE
  rw [List.take_succ_eq_append_getElem hk, List.filter_append, e]
  simp [h]
theorem selE_all (p : EdgeR → Bool) (xs : List EdgeR) : selE p xs xs.length = xs.filter p := by unfold selE; rw [List.take_length]
theorem selE_le (p : EdgeR → Bool) (xs : List EdgeR) (k : Nat) : (selE p xs k).length ≤ xs.length := by
  unfold selE
  have h1 := List.length_filter_le p (xs.take k)
  have h2 := List.length_take_le k xs
  have h3 : (xs.take k).length ≤ xs.length := by rw [List.length_take]; omega
  omega
def putE (xs : List EdgeR) (f : EdgeR) : List EdgeR := xs.filter (fun x => edgeLt x f) ++ [f] ++ xs.filter (edgeLt f)
def putEK (xs : List EdgeR) (f : EdgeR) (k : Nat) : List EdgeR := xs.filter (fun x => edgeLt x f) ++ [f] ++ selE (edgeLt f) xs k
theorem putEK_zero (xs : List EdgeR) (f : EdgeR) : putEK xs f 0 = xs.filter (fun x => edgeLt x f) ++ [f] := by simp [putEK, selE]
theorem putEK_all (xs : List EdgeR) (f : EdgeR) : putEK xs f xs.length = putE xs f := by unfold putEK putE; rw [selE_all]
theorem putEK_yes {f : EdgeR} {xs : List EdgeR} {k : Nat} {x : EdgeR} (hk : k < xs.length) (hx : edgeAt xs k = x) (h : edgeLt f x = true) : putEK xs f (k + 1) = putEK xs f k ++ [x] := by
  unfold putEK; rw [selE_yes hk hx h]; simp only [List.append_assoc]
theorem putEK_no {f : EdgeR} {xs : List EdgeR} {k : Nat} {x : EdgeR} (hk : k < xs.length) (hx : edgeAt xs k = x) (h : edgeLt f x = false) : putEK xs f (k + 1) = putEK xs f k := by
  unfold putEK; rw [selE_no hk hx h]
theorem putEK_le (xs : List EdgeR) (f : EdgeR) (k : Nat) : (putEK xs f k).length ≤ 2 * xs.length + 1 := by
  have h1 := selE_le (edgeLt f) xs k
  have h2 := List.length_filter_le (fun x => edgeLt x f) xs
  unfold putEK
  simp only [List.length_append, List.length_singleton]
  omega
theorem edgeC_snoc (l : List EdgeR) (x : EdgeR) : (l ++ [x]).flatMap EdgeR.cells = l.flatMap EdgeR.cells ++ [.int .i64 x.f0, .int .u8 (x.f1.toNat : Int), .int .i64 x.f2] := by
  rw [List.flatMap_append]; simp [EdgeR.cells]
end Go.Proofs.YtmdgdnkllclpcaaGreat
