/- Unsealed and ReadPacket of both. No condition but the size. -/
import Derived.Test.YtnlcgffffjjojaaScan
import Derived.Test.YtnlcgffffjjojaaPkt3
import Derived.Test.YtnlcgffffjjojaaUnf2
namespace Go.Proofs.Ytnlcgffffjjojaa
open Go.RowKit
set_option linter.unusedVariables false
set_option linter.unusedSimpArgs false

theorem Box.far {w : World} {b q i : Nat} {X : Array Value} {T : TypeId} (h : Box w b X T) (hp : b ≠ q) (v : Value) : Box (w.setCell ⟨q, i, none⟩ v) b X T := h.other (p := ⟨q, i, none⟩) hp v
def unB (t : ByteArray) : Bool := decide (4 ≤ t.size ∧ t.size ≤ 20004 ∧ t.extract (t.size - 4) t.size = fourT (sumOf (t.extract 0 (t.size - 4))))
def unT (t : ByteArray) : ByteArray := if unB t then t.extract 0 (t.size - 4) else ByteArray.empty
theorem unT_no {t : ByteArray} (h : unB t = false) : unT t = ByteArray.empty := if_neg (by simp [h])
theorem unT_ok {t : ByteArray} (h : unB t = true) : unT t = t.extract 0 (t.size - 4) := if_pos h
theorem unT_size (t : ByteArray) (hs : t.size ≤ 1048576) : (unT t).size ≤ 1048576 := by
  cases h : unB t
  · rw [unT_no h]; simp
  · rw [unT_ok h, ByteArray.size_extract]; omega
set_option maxHeartbeats 1000000 in
set_option maxRecDepth 100000 in
theorem specUnsealed_any (t : ByteArray) (w : World) (hs : t.size ≤ 1048576) :
    Calls Try.prog 117 #[.string t] w fun e w' => e = .returned (.tuple #[.string (unT t), .bool (unB t)]) ∧ Fr w w' := by
  by_cases h1 : 4 ≤ t.size ∧ t.size ≤ 20004
  · obtain ⟨m, hm⟩ : ∃ m, t.size = m + 4 := ⟨t.size - 4, by omega⟩
    have hm4 : t.size - 4 = m := by omega
    have hw : IntKind.i64.wrap ((t.size : Int) - 4) = (m : Int) := (IntWalk.i64_in _ (by omega)).trans (by omega)
    have htn : ((m : Int)).toNat = m := by simp
    have hwm : (t.size : Int) - 4 = (m : Int) := by omega
    have hx : (t.extract 0 m).size ≤ maxLen := by rw [ByteArray.size_extract]; unfold maxLen; omega
    have hlt := sumOf_lt (t.extract 0 m)
    have hml : m ≤ t.size := by omega
    have hm2 : m ≤ 20000 := by omega
    clear hm hwm
    have d1 : decide ((m : Int) < 0) = false := decide_eq_false (by omega)
    have d2 : decide ((20000 : Int) < (m : Int)) = false := by simp; omega
    by_cases he : t.extract m t.size = fourT (sumOf (t.extract 0 m))
    · have hb : unB t = true := by unfold unB; rw [hm4]; exact decide_eq_true ⟨h1.1, h1.2, he⟩
      have he' := bytes_beq he
      have HU := Lib.hid (unT_ok hb)
      rw [hm4] at HU
      rw [hb]
      go_enter Try.func117, Try.ntmps117
      go_wp2_with fail
      go_region_held3 (fun w' => Sf w w') ((refine Sf.mk ?_; repeat (first | (with_reducible exact Fr.refl _) | (with_reducible assumption) | (with_reducible refine Fr.drewN ?_ _) | (with_reducible refine Fr.drew ?_) | (with_reducible refine Fr.alloc ?_ _) | (with_reducible refine Fr.setCell ?_ (by (first | (with_reducible assumption) | omega | (simp only [World.size_alloc, World.size_setCell, World.size_drew, World.heap_drewN]; omega) | (simp; done) | (simp; omega))) _) | (with_reducible refine Fr.trans ?_ (by with_reducible assumption))))) (first | (go_at_call 167; refine (specSumOf_any (t.extract 0 m) _ hx).mono ?_; rintro e w1 ⟨rfl, rfl⟩) | (go_at_call 166; refine (l02Four_any (sumOf (t.extract 0 m)) _ hlt).mono ?_; rintro e w2 ⟨rfl, hf2⟩))
      go_wp2_with fail
      go_ret2
      exact ⟨by rw [HU.out]; rfl, by repeat (first | (with_reducible exact Fr.refl _) | (with_reducible assumption) | (with_reducible refine Fr.drewN ?_ _) | (with_reducible refine Fr.drew ?_) | (with_reducible refine Fr.alloc ?_ _) | (with_reducible refine Fr.setCell ?_ (by (first | (with_reducible assumption) | omega | (simp only [World.size_alloc, World.size_setCell, World.size_drew, World.heap_drewN]; omega) | (simp; done) | (simp; omega))) _) | (with_reducible refine Fr.trans ?_ (by with_reducible assumption)))⟩
    · have hb : unB t = false := by unfold unB; rw [hm4]; exact decide_eq_false (fun h => he h.2.2)
      have he' := bytes_bne he
      have HU := Lib.hid (unT_no hb)
      rw [hb]
      go_enter Try.func117, Try.ntmps117
      go_wp2_with fail
      go_region_held3 (fun w' => Sf w w') ((refine Sf.mk ?_; repeat (first | (with_reducible exact Fr.refl _) | (with_reducible assumption) | (with_reducible refine Fr.drewN ?_ _) | (with_reducible refine Fr.drew ?_) | (with_reducible refine Fr.alloc ?_ _) | (with_reducible refine Fr.setCell ?_ (by (first | (with_reducible assumption) | omega | (simp only [World.size_alloc, World.size_setCell, World.size_drew, World.heap_drewN]; omega) | (simp; done) | (simp; omega))) _) | (with_reducible refine Fr.trans ?_ (by with_reducible assumption))))) (first | (go_at_call 167; refine (specSumOf_any (t.extract 0 m) _ hx).mono ?_; rintro e w1 ⟨rfl, rfl⟩) | (go_at_call 166; refine (l02Four_any (sumOf (t.extract 0 m)) _ hlt).mono ?_; rintro e w2 ⟨rfl, hf2⟩))
      go_wp2_with fail
      go_ret2
      exact ⟨by rw [HU.out]; rfl, by repeat (first | (with_reducible exact Fr.refl _) | (with_reducible assumption) | (with_reducible refine Fr.drewN ?_ _) | (with_reducible refine Fr.drew ?_) | (with_reducible refine Fr.alloc ?_ _) | (with_reducible refine Fr.setCell ?_ (by (first | (with_reducible assumption) | omega | (simp only [World.size_alloc, World.size_setCell, World.size_drew, World.heap_drewN]; omega) | (simp; done) | (simp; omega))) _) | (with_reducible refine Fr.trans ?_ (by with_reducible assumption)))⟩
  · have hb : unB t = false := by unfold unB; exact decide_eq_false (fun h => h1 ⟨h.1, h.2.1⟩)
    have HU := Lib.hid (unT_no hb)
    rw [hb]
    have hw : IntKind.i64.wrap ((t.size : Int) - 4) = (t.size : Int) - 4 := IntWalk.i64_in _ (by omega)
    by_cases h0 : t.size < 4
    · have d1 : decide ((t.size : Int) - 4 < 0) = true := by simp; omega
      go_enter Try.func117, Try.ntmps117
      go_wp2_with fail
      go_quiet (fail)
      go_wp2_with fail
      go_ret2
      exact ⟨by rw [HU.out]; rfl, by repeat (first | (with_reducible exact Fr.refl _) | (with_reducible assumption) | (with_reducible refine Fr.drewN ?_ _) | (with_reducible refine Fr.drew ?_) | (with_reducible refine Fr.alloc ?_ _) | (with_reducible refine Fr.setCell ?_ (by (first | (with_reducible assumption) | omega | (simp only [World.size_alloc, World.size_setCell, World.size_drew, World.heap_drewN]; omega) | (simp; done) | (simp; omega))) _) | (with_reducible refine Fr.trans ?_ (by with_reducible assumption)))⟩
    · have d1 : decide ((t.size : Int) - 4 < 0) = false := by simp; omega
      have d2 : decide ((20000 : Int) < (t.size : Int) - 4) = true := by simp; omega
      go_enter Try.func117, Try.ntmps117
      go_wp2_with fail
      go_quiet (fail)
      go_wp2_with fail
      go_ret2
      exact ⟨by rw [HU.out]; rfl, by repeat (first | (with_reducible exact Fr.refl _) | (with_reducible assumption) | (with_reducible refine Fr.drewN ?_ _) | (with_reducible refine Fr.drew ?_) | (with_reducible refine Fr.alloc ?_ _) | (with_reducible refine Fr.setCell ?_ (by (first | (with_reducible assumption) | omega | (simp only [World.size_alloc, World.size_setCell, World.size_drew, World.heap_drewN]; omega) | (simp; done) | (simp; omega))) _) | (with_reducible refine Fr.trans ?_ (by with_reducible assumption)))⟩
set_option maxHeartbeats 1000000 in
set_option maxRecDepth 100000 in
theorem implUnsealed_any (t : ByteArray) (w : World) (hs : t.size ≤ 1048576) :
    Calls Try.prog 112 #[.string t] w fun e w' => e = .returned (.tuple #[.string (unT t), .bool (unB t)]) ∧ Fr w w' := by
  by_cases h1 : 4 ≤ t.size ∧ t.size ≤ 20004
  · obtain ⟨m, hm⟩ : ∃ m, t.size = m + 4 := ⟨t.size - 4, by omega⟩
    have hm4 : t.size - 4 = m := by omega
    have hw : IntKind.i64.wrap ((t.size : Int) - 4) = (m : Int) := (IntWalk.i64_in _ (by omega)).trans (by omega)
    have htn : ((m : Int)).toNat = m := by simp
    have hwm : (t.size : Int) - 4 = (m : Int) := by omega
    have hx : (t.extract 0 m).size ≤ maxLen := by rw [ByteArray.size_extract]; unfold maxLen; omega
    have hlt := sumOf_lt (t.extract 0 m)
    have hml : m ≤ t.size := by omega
    have hm2 : m ≤ 20000 := by omega
    clear hm hwm
    have d1 : decide ((m : Int) < 0) = false := decide_eq_false (by omega)
    have d2 : decide ((20000 : Int) < (m : Int)) = false := by simp; omega
    by_cases he : t.extract m t.size = fourT (sumOf (t.extract 0 m))
    · have hb : unB t = true := by unfold unB; rw [hm4]; exact decide_eq_true ⟨h1.1, h1.2, he⟩
      have he' := bytes_beq he.symm
      have HU := Lib.hid (unT_ok hb)
      rw [hm4] at HU
      rw [hb]
      go_enter Try.func112, Try.ntmps112
      go_wp2_with fail
      go_region_held3 (fun w' => Sf w w') ((refine Sf.mk ?_; repeat (first | (with_reducible exact Fr.refl _) | (with_reducible assumption) | (with_reducible refine Fr.drewN ?_ _) | (with_reducible refine Fr.drew ?_) | (with_reducible refine Fr.alloc ?_ _) | (with_reducible refine Fr.setCell ?_ (by (first | (with_reducible assumption) | omega | (simp only [World.size_alloc, World.size_setCell, World.size_drew, World.heap_drewN]; omega) | (simp; done) | (simp; omega))) _) | (with_reducible refine Fr.trans ?_ (by with_reducible assumption))))) (first | (go_at_call 102; refine (sumText_any (t.extract 0 m) _ hx).mono ?_; rintro e w2 ⟨rfl, hf2⟩))
      go_wp2_with fail
      go_ret2
      exact ⟨by rw [HU.out]; rfl, by repeat (first | (with_reducible exact Fr.refl _) | (with_reducible assumption) | (with_reducible refine Fr.drewN ?_ _) | (with_reducible refine Fr.drew ?_) | (with_reducible refine Fr.alloc ?_ _) | (with_reducible refine Fr.setCell ?_ (by (first | (with_reducible assumption) | omega | (simp only [World.size_alloc, World.size_setCell, World.size_drew, World.heap_drewN]; omega) | (simp; done) | (simp; omega))) _) | (with_reducible refine Fr.trans ?_ (by with_reducible assumption)))⟩
    · have hb : unB t = false := by unfold unB; rw [hm4]; exact decide_eq_false (fun h => he h.2.2)
      have he' := bytes_bne (fun h => he h.symm)
      have HU := Lib.hid (unT_no hb)
      rw [hb]
      go_enter Try.func112, Try.ntmps112
      go_wp2_with fail
      go_region_held3 (fun w' => Sf w w') ((refine Sf.mk ?_; repeat (first | (with_reducible exact Fr.refl _) | (with_reducible assumption) | (with_reducible refine Fr.drewN ?_ _) | (with_reducible refine Fr.drew ?_) | (with_reducible refine Fr.alloc ?_ _) | (with_reducible refine Fr.setCell ?_ (by (first | (with_reducible assumption) | omega | (simp only [World.size_alloc, World.size_setCell, World.size_drew, World.heap_drewN]; omega) | (simp; done) | (simp; omega))) _) | (with_reducible refine Fr.trans ?_ (by with_reducible assumption))))) (first | (go_at_call 102; refine (sumText_any (t.extract 0 m) _ hx).mono ?_; rintro e w2 ⟨rfl, hf2⟩))
      go_wp2_with fail
      go_ret2
      exact ⟨by rw [HU.out]; rfl, by repeat (first | (with_reducible exact Fr.refl _) | (with_reducible assumption) | (with_reducible refine Fr.drewN ?_ _) | (with_reducible refine Fr.drew ?_) | (with_reducible refine Fr.alloc ?_ _) | (with_reducible refine Fr.setCell ?_ (by (first | (with_reducible assumption) | omega | (simp only [World.size_alloc, World.size_setCell, World.size_drew, World.heap_drewN]; omega) | (simp; done) | (simp; omega))) _) | (with_reducible refine Fr.trans ?_ (by with_reducible assumption)))⟩
  · have hb : unB t = false := by unfold unB; exact decide_eq_false (fun h => h1 ⟨h.1, h.2.1⟩)
    have HU := Lib.hid (unT_no hb)
    rw [hb]
    have hw : IntKind.i64.wrap ((t.size : Int) - 4) = (t.size : Int) - 4 := IntWalk.i64_in _ (by omega)
    by_cases h0 : t.size < 4
    · have d1 : decide ((t.size : Int) - 4 < 0) = true := by simp; omega
      go_enter Try.func112, Try.ntmps112
      go_wp2_with fail
      go_quiet (fail)
      go_wp2_with fail
      go_ret2
      exact ⟨by rw [HU.out]; rfl, by repeat (first | (with_reducible exact Fr.refl _) | (with_reducible assumption) | (with_reducible refine Fr.drewN ?_ _) | (with_reducible refine Fr.drew ?_) | (with_reducible refine Fr.alloc ?_ _) | (with_reducible refine Fr.setCell ?_ (by (first | (with_reducible assumption) | omega | (simp only [World.size_alloc, World.size_setCell, World.size_drew, World.heap_drewN]; omega) | (simp; done) | (simp; omega))) _) | (with_reducible refine Fr.trans ?_ (by with_reducible assumption)))⟩
    · have d1 : decide ((t.size : Int) - 4 < 0) = false := by simp; omega
      have d2 : decide ((20000 : Int) < (t.size : Int) - 4) = true := by simp; omega
      go_enter Try.func112, Try.ntmps112
      go_wp2_with fail
      go_quiet (fail)
      go_wp2_with fail
      go_ret2
      exact ⟨by rw [HU.out]; rfl, by repeat (first | (with_reducible exact Fr.refl _) | (with_reducible assumption) | (with_reducible refine Fr.drewN ?_ _) | (with_reducible refine Fr.drew ?_) | (with_reducible refine Fr.alloc ?_ _) | (with_reducible refine Fr.setCell ?_ (by (first | (with_reducible assumption) | omega | (simp only [World.size_alloc, World.size_setCell, World.size_drew, World.heap_drewN]; omega) | (simp; done) | (simp; omega))) _) | (with_reducible refine Fr.trans ?_ (by with_reducible assumption)))⟩
structure PkO where
  e : Int
  f : Int
  t : Int
  q : Int
  a : Int
  s : ByteArray
  ok : Bool
def pkNo : PkO := ⟨0, 0, 0, 0, 0, ByteArray.empty, false⟩
def rdS1 (x : ByteArray) := scVar (unT x) ⟨0, !unB x⟩
def rdS2 (x : ByteArray) := scByte (unT x) (rdS1 x).2
def rdS3 (x : ByteArray) := scByte (unT x) (rdS2 x).2
def rdS4 (x : ByteArray) := scVar (unT x) (rdS3 x).2
def rdS5 (x : ByteArray) := scVar (unT x) (rdS4 x).2
def rdBody (x : ByteArray) : ByteArray := (unT x).extract (rdS5 x).2.a (unT x).size
def rdp (x : ByteArray) : PkO := if (rdS5 x).2.bad = false ∧ pktB (rdS1 x).1 (rdS2 x).1 (rdS3 x).1 (rdS4 x).1 (rdS5 x).1 (rdBody x) = true then ⟨(rdS1 x).1, (rdS2 x).1, (rdS3 x).1, (rdS4 x).1, (rdS5 x).1, rdBody x, true⟩ else pkNo
theorem rdp_def (x : ByteArray) : rdp x = if (rdS5 x).2.bad = false ∧ pktB (rdS1 x).1 (rdS2 x).1 (rdS3 x).1 (rdS4 x).1 (rdS5 x).1 ((unT x).extract (rdS5 x).2.a (unT x).size) = true then ⟨(rdS1 x).1, (rdS2 x).1, (rdS3 x).1, (rdS4 x).1, (rdS5 x).1, (unT x).extract (rdS5 x).2.a (unT x).size, true⟩ else pkNo := rfl
theorem bytes_of_extract (x : ByteArray) (a b : Nat) (h : a ≤ b) : (x.extract a b).data.toList = bytesAt x a (b - a) := by
  have := extract_bytes x a (b - a)
  rwa [show a + (b - a) = b by omega] at this
theorem strOf_two {m n : Nat} (hm : m < 256) (hn : n < 256) : (strOfNums [(m : Int), (n : Int)]).data.toList = [UInt8.ofNat m, UInt8.ofNat n] := by
  have h : [(m : Int), (n : Int)] = nums [UInt8.ofNat m, UInt8.ofNat n] := by simp only [nums, List.map_cons, List.map_nil, num_byte m hm, num_byte n hn]
  rw [h, str_nums]
/-- What was read and is right is the text of what was read. -/
theorem rdp_back (x : ByteArray) (h5 : (rdS5 x).2.bad = false) : unB x = true ∧ sealedT (pktT (rdS1 x).1 (rdS2 x).1 (rdS3 x).1 (rdS4 x).1 (rdS5 x).1 (rdBody x)) = x := by
  have l1 : (rdS1 x).2.a ≤ (unT x).size := scVar_le (c := ⟨0, !unB x⟩) (Nat.zero_le _)
  have l2 : (rdS2 x).2.a ≤ (unT x).size := scByte_le l1
  have l3 : (rdS3 x).2.a ≤ (unT x).size := scByte_le l2
  have l4 : (rdS4 x).2.a ≤ (unT x).size := scVar_le l3
  obtain ⟨b4, n5, j5, e5, z5, _, k5⟩ := scVar_read l4 h5
  obtain ⟨b3, n4, j4, e4, z4, _, k4⟩ := scVar_read l3 b4
  obtain ⟨b2, z3, e3⟩ := scByte_read b3
  obtain ⟨b1, z2, e2⟩ := scByte_read b2
  obtain ⟨b0, n1, j1, e1, z1, _, k1⟩ := scVar_read (c := ⟨0, !unB x⟩) (Nat.zero_le _) b1
  have hu : unB x = true := by simpa using b0
  refine ⟨hu, ?_⟩
  change rdS1 x = _ at e1
  change rdS2 x = _ at e2
  change rdS3 x = _ at e3
  change rdS4 x = _ at e4
  change rdS5 x = _ at e5
  simp only [Nat.zero_add] at e1 z1 k1
  have A1 : (rdS1 x).2.a = j1 + 1 := by rw [e1]
  have A2 : (rdS2 x).2.a = j1 + 1 + 1 := by rw [e2]; show (rdS1 x).2.a + 1 = _; rw [A1]
  have A3 : (rdS3 x).2.a = j1 + 1 + 1 + 1 := by rw [e3]; show (rdS2 x).2.a + 1 = _; rw [A2]
  have A4 : (rdS4 x).2.a = j1 + 1 + 1 + 1 + j4 + 1 := by rw [e4]; show (rdS3 x).2.a + j4 + 1 = _; rw [A3]
  have A5 : (rdS5 x).2.a = j1 + 1 + 1 + 1 + j4 + 1 + j5 + 1 := by rw [e5]; show (rdS4 x).2.a + j5 + 1 = _; rw [A4]
  have hT : pktT (rdS1 x).1 (rdS2 x).1 (rdS3 x).1 (rdS4 x).1 (rdS5 x).1 (rdBody x) = unT x := by
    apply WideShapes.bytes_inj
    have v1 : (rdS1 x).1 = (n1 : Int) := by rw [e1]
    have v2 : (rdS2 x).1 = ((((unT x)[(rdS1 x).2.a]'z2).toNat : Nat) : Int) := by rw [e2]
    have v3 : (rdS3 x).1 = ((((unT x)[(rdS2 x).2.a]'z3).toNat : Nat) : Int) := by rw [e3]
    have v4 : (rdS4 x).1 = (n4 : Int) := by rw [e4]
    have v5 : (rdS5 x).1 = (n5 : Int) := by rw [e5]
    rw [v1, v2, v3, v4, v5]
    unfold pktT vText rdBody
    simp only [ByteArray.data_append, Array.toList_append, Int.toNat_natCast]
    rw [strOf_two ((unT x)[(rdS1 x).2.a]'z2).toNat_lt ((unT x)[(rdS2 x).2.a]'z3).toNat_lt, k1, k4, k5, bytes_of_extract _ _ _ (by rw [A5]; rw [A4] at z5; omega)]
    have hb2 : [UInt8.ofNat ((unT x)[(rdS1 x).2.a]'z2).toNat, UInt8.ofNat ((unT x)[(rdS2 x).2.a]'z3).toNat] = bytesAt (unT x) (j1 + 1) 2 := by
      rw [show (2 : Nat) = 0 + 1 + 1 from rfl, bytesAt_succ (by rw [A2] at z3; omega), bytesAt_succ (by rw [A1] at z2; omega)]
      simp only [bytesAt, List.take_zero, List.nil_append, List.cons_append, Nat.add_zero, UInt8.ofNat_toNat]
      simp only [A1, A2]
    rw [hb2, A3, A4, A5]
    have hall : (unT x).data.toList = bytesAt (unT x) 0 ((j1 + 1) + 2 + (j4 + 1) + (j5 + 1) + ((unT x).size - (j1 + 1 + 1 + 1 + j4 + 1 + j5 + 1))) := by
      rw [A4] at z5
      unfold bytesAt
      rw [List.drop_zero, List.take_of_length_le]
      rw [Array.length_toList]
      show (unT x).size ≤ _
      omega
    rw [hall, bytesAt_add _ _ (j1 + 1 + 2 + (j4 + 1) + (j5 + 1)) _, bytesAt_add _ _ (j1 + 1 + 2 + (j4 + 1)) (j5 + 1), bytesAt_add _ _ (j1 + 1 + 2) (j4 + 1), bytesAt_add _ _ (j1 + 1) 2]
    simp only [Nat.zero_add]
    rfl
  unfold sealedT
  rw [hT]
  have hb : 4 ≤ x.size ∧ x.size ≤ 20004 ∧ x.extract (x.size - 4) x.size = fourT (sumOf (x.extract 0 (x.size - 4))) := by unfold unB at hu; exact of_decide_eq_true hu
  rw [unT_ok hu, ← hb.2.2]
  apply WideShapes.bytes_inj
  rw [ByteArray.data_append, Array.toList_append, bytes_of_extract _ _ _ (by omega), bytes_of_extract _ _ _ (by omega)]
  have := (bytesAt_add x 0 (x.size - 4 - 0) (x.size - (x.size - 4))).symm
  rw [show 0 + (x.size - 4 - 0) = x.size - 4 by omega] at this
  rw [this]
  unfold bytesAt
  rw [List.drop_zero, List.take_of_length_le]
  rw [Array.length_toList]
  show x.size ≤ _
  omega
set_option maxHeartbeats 4000000 in
set_option maxRecDepth 100000 in
theorem specReadPacket_any (t : ByteArray) (w : World) (hs : t.size ≤ 1048576) :
    Calls Try.prog 52 #[.string t] w fun e w' => e = .returned (.tuple #[.agg #[.int .i64 (rdp t).e, .int .i64 (rdp t).f, .int .i64 (rdp t).t, .int .i64 (rdp t).q, .int .i64 (rdp t).a, .string (rdp t).s], .bool (rdp t).ok]) ∧ Fr w w' := by
  have hsz := unT_size t hs
  have HBK := Lib.hid (rdp_back t)
  have HRP := Lib.hid (rdp_def t)
  unfold rdBody at HBK
  have CU : Hid (∀ w', Calls Try.prog 117 #[.string t] w' fun e w'' => e = .returned (.tuple #[.string (unT t), .bool (unB t)]) ∧ Fr w' w'') := fun w' => specUnsealed_any t w' hs
  obtain ⟨⟨v1, a1, b1⟩, q1⟩ : ∃ r, rdS1 t = r := ⟨_, rfl⟩
  obtain ⟨⟨v2, a2, b2⟩, q2⟩ : ∃ r, rdS2 t = r := ⟨_, rfl⟩
  obtain ⟨⟨v3, a3, b3⟩, q3⟩ : ∃ r, rdS3 t = r := ⟨_, rfl⟩
  obtain ⟨⟨v4, a4, b4⟩, q4⟩ : ∃ r, rdS4 t = r := ⟨_, rfl⟩
  obtain ⟨⟨v5, a5, b5⟩, q5⟩ : ∃ r, rdS5 t = r := ⟨_, rfl⟩
  obtain ⟨u, hu⟩ : ∃ u, unB t = u := ⟨_, rfl⟩
  obtain ⟨s, hS⟩ : ∃ s, unT t = s := ⟨_, rfl⟩
  have s1 : scVar s ⟨0, (!u)⟩ = (v1, ⟨a1, b1⟩) := by have := q1; unfold rdS1 at this; rw [hu] at this; rw [hS] at this; exact this
  have s2 : scByte s ⟨a1, b1⟩ = (v2, ⟨a2, b2⟩) := by have := q2; unfold rdS2 at this; rw [q1] at this; rw [hS] at this; exact this
  have s3 : scByte s ⟨a2, b2⟩ = (v3, ⟨a3, b3⟩) := by have := q3; unfold rdS3 at this; rw [q2] at this; rw [hS] at this; exact this
  have s4 : scVar s ⟨a3, b3⟩ = (v4, ⟨a4, b4⟩) := by have := q4; unfold rdS4 at this; rw [q3] at this; rw [hS] at this; exact this
  have s5 : scVar s ⟨a4, b4⟩ = (v5, ⟨a5, b5⟩) := by have := q5; unfold rdS5 at this; rw [q4] at this; rw [hS] at this; exact this
  rw [q1, q2, q3, q4, q5, hS] at HRP HBK
  rw [hu] at HBK
  rw [hu, hS] at CU
  rw [hS] at hsz
  have H5 : Hid (u = false → b5 = true) := fun h => by rcases b5 with _ | _; (have := (HBK.out rfl).1; rw [h] at this; cases this); rfl
  simp only [] at HRP HBK
  have l1 : a1 ≤ s.size := by have := scVar_le (s := s) (c := ⟨0, !u⟩) (Nat.zero_le _); rw [s1] at this; exact this
  have l2 : a2 ≤ s.size := by have := scByte_le (s := s) (c := ⟨a1, b1⟩) l1; rw [s2] at this; exact this
  have l3 : a3 ≤ s.size := by have := scByte_le (s := s) (c := ⟨a2, b2⟩) l2; rw [s3] at this; exact this
  have l4 : a4 ≤ s.size := by have := scVar_le (s := s) (c := ⟨a3, b3⟩) l3; rw [s4] at this; exact this
  have l5 : a5 ≤ s.size := by have := scVar_le (s := s) (c := ⟨a4, b4⟩) l4; rw [s5] at this; exact this
  have K1 : Hid (∀ b w', Box w' b #[.string s, .int .i64 0, .bool (!u)] 153 → Calls Try.prog 119 #[.pointer (some ⟨b, 0, none⟩)] w' fun e w'' => e = .returned (.int .i64 v1) ∧ Box w'' b #[.string s, .int .i64 (a1 : Int), .bool b1] 153 ∧ Span b (b + 1) w' w'') := fun b w' hb => by have := l03Var_any b 0 (!u) s w' hb (by omega) (Nat.zero_le _); rw [s1] at this; exact this
  have K2 : Hid (∀ b w', Box w' b #[.string s, .int .i64 (a1 : Int), .bool b1] 153 → Calls Try.prog 120 #[.pointer (some ⟨b, 0, none⟩)] w' fun e w'' => e = .returned (.int .i64 v2) ∧ Box w'' b #[.string s, .int .i64 (a2 : Int), .bool b2] 153 ∧ Span b (b + 1) w' w'') := fun b w' hb => by have := l03Byte_any b a1 b1 s w' hb (by omega); rw [s2] at this; exact this
  have K3 : Hid (∀ b w', Box w' b #[.string s, .int .i64 (a2 : Int), .bool b2] 153 → Calls Try.prog 120 #[.pointer (some ⟨b, 0, none⟩)] w' fun e w'' => e = .returned (.int .i64 v3) ∧ Box w'' b #[.string s, .int .i64 (a3 : Int), .bool b3] 153 ∧ Span b (b + 1) w' w'') := fun b w' hb => by have := l03Byte_any b a2 b2 s w' hb (by omega); rw [s3] at this; exact this
  have K4 : Hid (∀ b w', Box w' b #[.string s, .int .i64 (a3 : Int), .bool b3] 153 → Calls Try.prog 119 #[.pointer (some ⟨b, 0, none⟩)] w' fun e w'' => e = .returned (.int .i64 v4) ∧ Box w'' b #[.string s, .int .i64 (a4 : Int), .bool b4] 153 ∧ Span b (b + 1) w' w'') := fun b w' hb => by have := l03Var_any b a3 b3 s w' hb (by omega) l3; rw [s4] at this; exact this
  have K5 : Hid (∀ b w', Box w' b #[.string s, .int .i64 (a4 : Int), .bool b4] 153 → Calls Try.prog 119 #[.pointer (some ⟨b, 0, none⟩)] w' fun e w'' => e = .returned (.int .i64 v5) ∧ Box w'' b #[.string s, .int .i64 (a5 : Int), .bool b5] 153 ∧ Span b (b + 1) w' w'') := fun b w' hb => by have := l03Var_any b a4 b4 s w' hb (by omega) l4; rw [s5] at this; exact this
  clear s1 s2 s3 s4 s5 q1 q2 q3 q4 q5 hu hS
  go_enter Try.func52, Try.ntmps52
  go_wp2_with fail
  refine (CU.out _).mono ?_
  rintro e w1 ⟨rfl, hf1⟩
  have hz1 := hf1.size; (try simp only [World.size_alloc, World.size_setCell, World.size_drew] at hz1)
  have BR : Box w1 w.heap.size #[.int .i64 0, .int .i64 0, .int .i64 0, .int .i64 0, .int .i64 0, .string ⟨#[]⟩] 27 := (Box.new' rfl).fr hf1
  have FBR := BR.facts
  go_wp2_with fail
  refine (K1.out _ _ (Box.new _ _ _)).mono ?_
  rintro e w2 ⟨rfl, bc, sp2⟩
  have hz2 := sp2.size; (try simp only [World.size_alloc, World.size_setCell, World.size_drew] at hz2)
  have hg2 : Fr w w2 := Span.fr (show Fr w (w1.alloc _) by repeat (first | (with_reducible exact Fr.refl _) | (with_reducible assumption) | (with_reducible refine Fr.drewN ?_ _) | (with_reducible refine Fr.drew ?_) | (with_reducible refine Fr.alloc ?_ _) | (with_reducible refine Fr.setCell ?_ (by (first | (with_reducible assumption) | omega | (simp only [World.size_alloc, World.size_setCell, World.size_drew, World.heap_drewN]; omega) | (simp; done) | (simp; omega))) _) | (with_reducible refine Fr.trans ?_ (by with_reducible assumption)))) sp2 (by (first | (with_reducible assumption) | omega | (simp only [World.size_alloc, World.size_setCell, World.size_drew, World.heap_drewN]; omega) | (simp; done) | (simp; omega)))
  have BR := (BR.alloc _).span sp2 (.inl (by (first | (with_reducible assumption) | omega | (simp only [World.size_alloc, World.size_setCell, World.size_drew, World.heap_drewN]; omega) | (simp; done) | (simp; omega))))
  clear FBR
  have FBR := BR.facts
  have FBC := bc.facts
  go_wp2_with fail
  refine (K2.out _ _ (bc.alloc _)).mono ?_
  rintro e w3 ⟨rfl, bd, sp3⟩
  have hz3 := sp3.size; (try simp only [World.size_alloc, World.size_setCell, World.size_drew] at hz3)
  have BP : Box w3 w2.heap.size #[.int .i64 v1, .int .i64 0, .int .i64 0, .int .i64 0, .int .i64 0, .string ⟨#[]⟩] 27 := (Box.new _ _ _).span sp3 (.inr (by (first | (with_reducible assumption) | omega | (simp only [World.size_alloc, World.size_setCell, World.size_drew, World.heap_drewN]; omega) | (simp; done) | (simp; omega))))
  have BR := (BR.alloc _).span sp3 (.inl (by (first | (with_reducible assumption) | omega | (simp only [World.size_alloc, World.size_setCell, World.size_drew, World.heap_drewN]; omega) | (simp; done) | (simp; omega))))
  have hg3 : Fr w w3 := Span.fr (show Fr w _ by repeat (first | (with_reducible exact Fr.refl _) | (with_reducible assumption) | (with_reducible refine Fr.drewN ?_ _) | (with_reducible refine Fr.drew ?_) | (with_reducible refine Fr.alloc ?_ _) | (with_reducible refine Fr.setCell ?_ (by (first | (with_reducible assumption) | omega | (simp only [World.size_alloc, World.size_setCell, World.size_drew, World.heap_drewN]; omega) | (simp; done) | (simp; omega))) _) | (with_reducible refine Fr.trans ?_ (by with_reducible assumption)))) sp3 (by (first | (with_reducible assumption) | omega | (simp only [World.size_alloc, World.size_setCell, World.size_drew, World.heap_drewN]; omega) | (simp; done) | (simp; omega)))
  have bc := bd
  clear bd FBR FBC
  have FBR := BR.facts
  have FBC := bc.facts
  have FBP := BP.facts
  go_wp2_with fail
  refine (K3.out _ _ (bc.far (by omega) _)).mono ?_
  rintro e w4 ⟨rfl, bd, sp4⟩
  have hz4 := sp4.size; (try simp only [World.size_alloc, World.size_setCell, World.size_drew] at hz4)
  have BP : Box w4 w2.heap.size #[.int .i64 v1, .int .i64 v2, .int .i64 0, .int .i64 0, .int .i64 0, .string ⟨#[]⟩] 27 := (BP.set_to (by simp)).span sp4 (.inr (by (first | (with_reducible assumption) | omega | (simp only [World.size_alloc, World.size_setCell, World.size_drew, World.heap_drewN]; omega) | (simp; done) | (simp; omega))))
  have BR := (BR.far (by omega) _).span sp4 (.inl (by (first | (with_reducible assumption) | omega | (simp only [World.size_alloc, World.size_setCell, World.size_drew, World.heap_drewN]; omega) | (simp; done) | (simp; omega))))
  have hg4 : Fr w w4 := Span.fr (show Fr w _ by repeat (first | (with_reducible exact Fr.refl _) | (with_reducible assumption) | (with_reducible refine Fr.drewN ?_ _) | (with_reducible refine Fr.drew ?_) | (with_reducible refine Fr.alloc ?_ _) | (with_reducible refine Fr.setCell ?_ (by (first | (with_reducible assumption) | omega | (simp only [World.size_alloc, World.size_setCell, World.size_drew, World.heap_drewN]; omega) | (simp; done) | (simp; omega))) _) | (with_reducible refine Fr.trans ?_ (by with_reducible assumption)))) sp4 (by (first | (with_reducible assumption) | omega | (simp only [World.size_alloc, World.size_setCell, World.size_drew, World.heap_drewN]; omega) | (simp; done) | (simp; omega)))
  have bc := bd
  clear bd FBR FBC FBP
  have FBR := BR.facts
  have FBC := bc.facts
  have FBP := BP.facts
  go_wp2_with fail
  refine (K4.out _ _ (bc.far (by omega) _)).mono ?_
  rintro e w5 ⟨rfl, bd, sp5⟩
  have hz5 := sp5.size; (try simp only [World.size_alloc, World.size_setCell, World.size_drew] at hz5)
  have BP : Box w5 w2.heap.size #[.int .i64 v1, .int .i64 v2, .int .i64 v3, .int .i64 0, .int .i64 0, .string ⟨#[]⟩] 27 := (BP.set_to (by simp)).span sp5 (.inr (by (first | (with_reducible assumption) | omega | (simp only [World.size_alloc, World.size_setCell, World.size_drew, World.heap_drewN]; omega) | (simp; done) | (simp; omega))))
  have BR := (BR.far (by omega) _).span sp5 (.inl (by (first | (with_reducible assumption) | omega | (simp only [World.size_alloc, World.size_setCell, World.size_drew, World.heap_drewN]; omega) | (simp; done) | (simp; omega))))
  have hg5 : Fr w w5 := Span.fr (show Fr w _ by repeat (first | (with_reducible exact Fr.refl _) | (with_reducible assumption) | (with_reducible refine Fr.drewN ?_ _) | (with_reducible refine Fr.drew ?_) | (with_reducible refine Fr.alloc ?_ _) | (with_reducible refine Fr.setCell ?_ (by (first | (with_reducible assumption) | omega | (simp only [World.size_alloc, World.size_setCell, World.size_drew, World.heap_drewN]; omega) | (simp; done) | (simp; omega))) _) | (with_reducible refine Fr.trans ?_ (by with_reducible assumption)))) sp5 (by (first | (with_reducible assumption) | omega | (simp only [World.size_alloc, World.size_setCell, World.size_drew, World.heap_drewN]; omega) | (simp; done) | (simp; omega)))
  have bc := bd
  clear bd FBR FBC FBP
  have FBR := BR.facts
  have FBC := bc.facts
  have FBP := BP.facts
  go_wp2_with fail
  refine (K5.out _ _ (bc.far (by omega) _)).mono ?_
  rintro e w6 ⟨rfl, bd, sp6⟩
  have hz6 := sp6.size; (try simp only [World.size_alloc, World.size_setCell, World.size_drew] at hz6)
  have BP : Box w6 w2.heap.size #[.int .i64 v1, .int .i64 v2, .int .i64 v3, .int .i64 v4, .int .i64 0, .string ⟨#[]⟩] 27 := (BP.set_to (by simp)).span sp6 (.inr (by (first | (with_reducible assumption) | omega | (simp only [World.size_alloc, World.size_setCell, World.size_drew, World.heap_drewN]; omega) | (simp; done) | (simp; omega))))
  have BR := (BR.far (by omega) _).span sp6 (.inl (by (first | (with_reducible assumption) | omega | (simp only [World.size_alloc, World.size_setCell, World.size_drew, World.heap_drewN]; omega) | (simp; done) | (simp; omega))))
  have hg6 : Fr w w6 := Span.fr (show Fr w _ by repeat (first | (with_reducible exact Fr.refl _) | (with_reducible assumption) | (with_reducible refine Fr.drewN ?_ _) | (with_reducible refine Fr.drew ?_) | (with_reducible refine Fr.alloc ?_ _) | (with_reducible refine Fr.setCell ?_ (by (first | (with_reducible assumption) | omega | (simp only [World.size_alloc, World.size_setCell, World.size_drew, World.heap_drewN]; omega) | (simp; done) | (simp; omega))) _) | (with_reducible refine Fr.trans ?_ (by with_reducible assumption)))) sp6 (by (first | (with_reducible assumption) | omega | (simp only [World.size_alloc, World.size_setCell, World.size_drew, World.heap_drewN]; omega) | (simp; done) | (simp; omega)))
  have bc := bd
  clear bd FBR FBC FBP
  have FBR := BR.facts
  have FBC := bc.facts
  have FBP := BP.facts
  rcases b5 with _ | _
  · have hback := (HBK.out rfl).2
    have htn : ((a5 : Int)).toNat = a5 := by simp
    obtain ⟨body, hbody⟩ : ∃ y, s.extract a5 s.size = y := ⟨_, rfl⟩
    rw [hbody] at hback HRP
    cases hpb : pktB v1 v2 v3 v4 v5 body
    · have HN : Hid (rdp t = pkNo) := by show _ = _; rw [HRP.out, if_neg (fun h => by rw [hpb] at h; cases h.2)]
      have CT : Hid (∀ w', Calls Try.prog 16 #[.agg #[.int .i64 v1, .int .i64 v2, .int .i64 v3, .int .i64 v4, .int .i64 v5, .string body]] w' fun e w'' => e = .returned (.tuple #[.string ByteArray.empty, .bool false]) ∧ Fr w' w'') := fun w' => by have := specPacketText_any v1 v2 v3 v4 v5 body w'; rw [pktR_no hpb, hpb] at this; exact this
      clear hpb hback
      go_wp2_with fail
      refine (CT.out _).mono ?_
      rintro e w8 ⟨rfl, hf8⟩
      have hz8 := hf8.size; (try simp only [World.size_alloc, World.size_setCell, World.size_drew] at hz8)
      have BP : Box w8 w2.heap.size #[.int .i64 v1, .int .i64 v2, .int .i64 v3, .int .i64 v4, .int .i64 v5, .string body] 27 := (((BP.set_to (X := #[.int .i64 v1, .int .i64 v2, .int .i64 v3, .int .i64 v4, .int .i64 v5, .string ⟨#[]⟩]) (by simp)).set_to (by simp)).fr hf8)
      have BR := ((BR.far (by omega) _).far (by omega) _).fr hf8
      have hg8 : Fr w w8 := by repeat (first | (with_reducible exact Fr.refl _) | (with_reducible assumption) | (with_reducible refine Fr.drewN ?_ _) | (with_reducible refine Fr.drew ?_) | (with_reducible refine Fr.alloc ?_ _) | (with_reducible refine Fr.setCell ?_ (by (first | (with_reducible assumption) | omega | (simp only [World.size_alloc, World.size_setCell, World.size_drew, World.heap_drewN]; omega) | (simp; done) | (simp; omega))) _) | (with_reducible refine Fr.trans ?_ (by with_reducible assumption)))
      clear FBR FBP
      have FBR := BR.facts
      have FBP := BP.facts
      go_wp2_with fail
      refine bodyPost_ret (v := .tuple #[.agg #[.int .i64 0, .int .i64 0, .int .i64 0, .int .i64 0, .int .i64 0, .string ⟨#[]⟩], .bool false]) (by simp [results, Try.results52, go_sem, *]) rfl ⟨by rw [HN.out]; rfl, by repeat (first | (with_reducible exact Fr.refl _) | (with_reducible assumption) | (with_reducible refine Fr.drewN ?_ _) | (with_reducible refine Fr.drew ?_) | (with_reducible refine Fr.alloc ?_ _) | (with_reducible refine Fr.setCell ?_ (by (first | (with_reducible assumption) | omega | (simp only [World.size_alloc, World.size_setCell, World.size_drew, World.heap_drewN]; omega) | (simp; done) | (simp; omega))) _) | (with_reducible refine Fr.trans ?_ (by with_reducible assumption)))⟩
    · have HY : Hid (rdp t = ⟨v1, v2, v3, v4, v5, body, true⟩) := by show _ = _; rw [HRP.out, if_pos ⟨rfl, hpb⟩]
      have CT : Hid (∀ w', Calls Try.prog 16 #[.agg #[.int .i64 v1, .int .i64 v2, .int .i64 v3, .int .i64 v4, .int .i64 v5, .string body]] w' fun e w'' => e = .returned (.tuple #[.string t, .bool true]) ∧ Fr w' w'') := fun w' => by have := specPacketText_any v1 v2 v3 v4 v5 body w'; rw [pktR_ok hpb, hpb, hback] at this; exact this
      have hte : (t.toList == t.toList) = true := bytes_beq rfl
      clear hpb hback
      go_wp2_with fail
      refine (CT.out _).mono ?_
      rintro e w8 ⟨rfl, hf8⟩
      have hz8 := hf8.size; (try simp only [World.size_alloc, World.size_setCell, World.size_drew] at hz8)
      have BP : Box w8 w2.heap.size #[.int .i64 v1, .int .i64 v2, .int .i64 v3, .int .i64 v4, .int .i64 v5, .string body] 27 := (((BP.set_to (X := #[.int .i64 v1, .int .i64 v2, .int .i64 v3, .int .i64 v4, .int .i64 v5, .string ⟨#[]⟩]) (by simp)).set_to (by simp)).fr hf8)
      have BR := ((BR.far (by omega) _).far (by omega) _).fr hf8
      have hg8 : Fr w w8 := by repeat (first | (with_reducible exact Fr.refl _) | (with_reducible assumption) | (with_reducible refine Fr.drewN ?_ _) | (with_reducible refine Fr.drew ?_) | (with_reducible refine Fr.alloc ?_ _) | (with_reducible refine Fr.setCell ?_ (by (first | (with_reducible assumption) | omega | (simp only [World.size_alloc, World.size_setCell, World.size_drew, World.heap_drewN]; omega) | (simp; done) | (simp; omega))) _) | (with_reducible refine Fr.trans ?_ (by with_reducible assumption)))
      clear FBR FBP
      have FBR := BR.facts
      have FBP := BP.facts
      go_wp2_with fail
      refine bodyPost_ret (v := .tuple #[.agg #[.int .i64 v1, .int .i64 v2, .int .i64 v3, .int .i64 v4, .int .i64 v5, .string body], .bool true]) (by simp [results, Try.results52, go_sem, *]) rfl ⟨by rw [HY.out], by repeat (first | (with_reducible exact Fr.refl _) | (with_reducible assumption) | (with_reducible refine Fr.drewN ?_ _) | (with_reducible refine Fr.drew ?_) | (with_reducible refine Fr.alloc ?_ _) | (with_reducible refine Fr.setCell ?_ (by (first | (with_reducible assumption) | omega | (simp only [World.size_alloc, World.size_setCell, World.size_drew, World.heap_drewN]; omega) | (simp; done) | (simp; omega))) _) | (with_reducible refine Fr.trans ?_ (by with_reducible assumption)))⟩
  · have HN : Hid (rdp t = pkNo) := by show _ = _; rw [HRP.out, if_neg (fun h => by cases h.1)]
    go_wp2_with fail
    refine bodyPost_ret (v := .tuple #[.agg #[.int .i64 0, .int .i64 0, .int .i64 0, .int .i64 0, .int .i64 0, .string ⟨#[]⟩], .bool false]) (by simp [results, Try.results52, go_sem, *]) rfl ⟨by rw [HN.out]; rfl, by repeat (first | (with_reducible exact Fr.refl _) | (with_reducible assumption) | (with_reducible refine Fr.drewN ?_ _) | (with_reducible refine Fr.drew ?_) | (with_reducible refine Fr.alloc ?_ _) | (with_reducible refine Fr.setCell ?_ (by (first | (with_reducible assumption) | omega | (simp only [World.size_alloc, World.size_setCell, World.size_drew, World.heap_drewN]; omega) | (simp; done) | (simp; omega))) _) | (with_reducible refine Fr.trans ?_ (by with_reducible assumption)))⟩
set_option maxHeartbeats 4000000 in
set_option maxRecDepth 100000 in
theorem implReadPacket_any (t : ByteArray) (w : World) (hs : t.size ≤ 1048576) :
    Calls Try.prog 48 #[.string t] w fun e w' => e = .returned (.tuple #[.agg #[.int .i64 (rdp t).e, .int .i64 (rdp t).f, .int .i64 (rdp t).t, .int .i64 (rdp t).q, .int .i64 (rdp t).a, .string (rdp t).s], .bool (rdp t).ok]) ∧ Fr w w' := by
  have hsz := unT_size t hs
  have HBK := Lib.hid (rdp_back t)
  have HRP := Lib.hid (rdp_def t)
  unfold rdBody at HBK
  have CU : Hid (∀ w', Calls Try.prog 112 #[.string t] w' fun e w'' => e = .returned (.tuple #[.string (unT t), .bool (unB t)]) ∧ Fr w' w'') := fun w' => implUnsealed_any t w' hs
  obtain ⟨⟨v1, a1, b1⟩, q1⟩ : ∃ r, rdS1 t = r := ⟨_, rfl⟩
  obtain ⟨⟨v2, a2, b2⟩, q2⟩ : ∃ r, rdS2 t = r := ⟨_, rfl⟩
  obtain ⟨⟨v3, a3, b3⟩, q3⟩ : ∃ r, rdS3 t = r := ⟨_, rfl⟩
  obtain ⟨⟨v4, a4, b4⟩, q4⟩ : ∃ r, rdS4 t = r := ⟨_, rfl⟩
  obtain ⟨⟨v5, a5, b5⟩, q5⟩ : ∃ r, rdS5 t = r := ⟨_, rfl⟩
  obtain ⟨u, hu⟩ : ∃ u, unB t = u := ⟨_, rfl⟩
  obtain ⟨s, hS⟩ : ∃ s, unT t = s := ⟨_, rfl⟩
  have s1 : scVar s ⟨0, (!u)⟩ = (v1, ⟨a1, b1⟩) := by have := q1; unfold rdS1 at this; rw [hu] at this; rw [hS] at this; exact this
  have s2 : scByte s ⟨a1, b1⟩ = (v2, ⟨a2, b2⟩) := by have := q2; unfold rdS2 at this; rw [q1] at this; rw [hS] at this; exact this
  have s3 : scByte s ⟨a2, b2⟩ = (v3, ⟨a3, b3⟩) := by have := q3; unfold rdS3 at this; rw [q2] at this; rw [hS] at this; exact this
  have s4 : scVar s ⟨a3, b3⟩ = (v4, ⟨a4, b4⟩) := by have := q4; unfold rdS4 at this; rw [q3] at this; rw [hS] at this; exact this
  have s5 : scVar s ⟨a4, b4⟩ = (v5, ⟨a5, b5⟩) := by have := q5; unfold rdS5 at this; rw [q4] at this; rw [hS] at this; exact this
  rw [q1, q2, q3, q4, q5, hS] at HRP HBK
  rw [hu] at HBK
  rw [hu, hS] at CU
  rw [hS] at hsz
  have H5 : Hid (u = false → b5 = true) := fun h => by rcases b5 with _ | _; (have := (HBK.out rfl).1; rw [h] at this; cases this); rfl
  simp only [] at HRP HBK
  have l1 : a1 ≤ s.size := by have := scVar_le (s := s) (c := ⟨0, !u⟩) (Nat.zero_le _); rw [s1] at this; exact this
  have l2 : a2 ≤ s.size := by have := scByte_le (s := s) (c := ⟨a1, b1⟩) l1; rw [s2] at this; exact this
  have l3 : a3 ≤ s.size := by have := scByte_le (s := s) (c := ⟨a2, b2⟩) l2; rw [s3] at this; exact this
  have l4 : a4 ≤ s.size := by have := scVar_le (s := s) (c := ⟨a3, b3⟩) l3; rw [s4] at this; exact this
  have l5 : a5 ≤ s.size := by have := scVar_le (s := s) (c := ⟨a4, b4⟩) l4; rw [s5] at this; exact this
  have K1 : Hid (∀ b w', Box w' b #[.string s, .int .i64 0, .bool (!u)] 145 → Calls Try.prog 113 #[.pointer (some ⟨b, 0, none⟩)] w' fun e w'' => e = .returned (.int .i64 v1) ∧ Box w'' b #[.string s, .int .i64 (a1 : Int), .bool b1] 145 ∧ Span b (b + 1) w' w'') := fun b w' hb => by have := number_any b 0 (!u) s w' hb (by omega) (Nat.zero_le _); rw [s1] at this; exact this
  have K2 : Hid (∀ b w', Box w' b #[.string s, .int .i64 (a1 : Int), .bool b1] 145 → Calls Try.prog 114 #[.pointer (some ⟨b, 0, none⟩)] w' fun e w'' => e = .returned (.int .u8 v2) ∧ Box w'' b #[.string s, .int .i64 (a2 : Int), .bool b2] 145 ∧ Span b (b + 1) w' w'') := fun b w' hb => by have := octet_any b a1 b1 s w' hb (by omega); rw [s2] at this; exact this
  have K3 : Hid (∀ b w', Box w' b #[.string s, .int .i64 (a2 : Int), .bool b2] 145 → Calls Try.prog 114 #[.pointer (some ⟨b, 0, none⟩)] w' fun e w'' => e = .returned (.int .u8 v3) ∧ Box w'' b #[.string s, .int .i64 (a3 : Int), .bool b3] 145 ∧ Span b (b + 1) w' w'') := fun b w' hb => by have := octet_any b a2 b2 s w' hb (by omega); rw [s3] at this; exact this
  have K4 : Hid (∀ b w', Box w' b #[.string s, .int .i64 (a3 : Int), .bool b3] 145 → Calls Try.prog 113 #[.pointer (some ⟨b, 0, none⟩)] w' fun e w'' => e = .returned (.int .i64 v4) ∧ Box w'' b #[.string s, .int .i64 (a4 : Int), .bool b4] 145 ∧ Span b (b + 1) w' w'') := fun b w' hb => by have := number_any b a3 b3 s w' hb (by omega) l3; rw [s4] at this; exact this
  have K5 : Hid (∀ b w', Box w' b #[.string s, .int .i64 (a4 : Int), .bool b4] 145 → Calls Try.prog 113 #[.pointer (some ⟨b, 0, none⟩)] w' fun e w'' => e = .returned (.int .i64 v5) ∧ Box w'' b #[.string s, .int .i64 (a5 : Int), .bool b5] 145 ∧ Span b (b + 1) w' w'') := fun b w' hb => by have := number_any b a4 b4 s w' hb (by omega) l4; rw [s5] at this; exact this
  have n2 := scByte_nat s ⟨a1, b1⟩; rw [s2] at n2
  have n3 := scByte_nat s ⟨a2, b2⟩; rw [s3] at n3
  have i2 : IntKind.i64.wrap v2 = v2 := IntWalk.i64_in _ (by have := n2.1; have := n2.2; simp only [] at *; omega)
  have i3 : IntKind.i64.wrap v3 = v3 := IntWalk.i64_in _ (by have := n3.1; have := n3.2; simp only [] at *; omega)
  have I2 := Lib.hid n2; have I3 := Lib.hid n3; clear n2 n3
  clear s1 s2 s3 s4 s5 q1 q2 q3 q4 q5 hu hS
  cases u
  · have HN : Hid (rdp t = pkNo) := by show _ = _; rw [HRP.out, if_neg (fun h => by rw [H5.out rfl] at h; cases h.1)]
    go_enter Try.func48, Try.ntmps48
    go_wp2_with fail
    refine (CU.out _).mono ?_
    rintro e w1 ⟨rfl, hf1⟩
    have BR : Box w1 w.heap.size #[.int .i64 0, .int .i64 0, .int .i64 0, .int .i64 0, .int .i64 0, .string ⟨#[]⟩] 27 := (Box.new' rfl).fr hf1
    have FBR := BR.facts
    go_wp2_with fail
    refine bodyPost_ret (v := .tuple #[.agg #[.int .i64 0, .int .i64 0, .int .i64 0, .int .i64 0, .int .i64 0, .string ⟨#[]⟩], .bool false]) (by simp [results, Try.results48, go_sem, *]) rfl ⟨by rw [HN.out]; rfl, by repeat (first | (with_reducible exact Fr.refl _) | (with_reducible assumption) | (with_reducible refine Fr.drewN ?_ _) | (with_reducible refine Fr.drew ?_) | (with_reducible refine Fr.alloc ?_ _) | (with_reducible refine Fr.setCell ?_ (by (first | (with_reducible assumption) | omega | (simp only [World.size_alloc, World.size_setCell, World.size_drew, World.heap_drewN]; omega) | (simp; done) | (simp; omega))) _) | (with_reducible refine Fr.trans ?_ (by with_reducible assumption)))⟩
  · go_enter Try.func48, Try.ntmps48
    go_wp2_with fail
    refine (CU.out _).mono ?_
    rintro e w1 ⟨rfl, hf1⟩
    have hz1 := hf1.size; (try simp only [World.size_alloc, World.size_setCell, World.size_drew] at hz1)
    have BR : Box w1 w.heap.size #[.int .i64 0, .int .i64 0, .int .i64 0, .int .i64 0, .int .i64 0, .string ⟨#[]⟩] 27 := (Box.new' rfl).fr hf1
    have FBR := BR.facts
    go_wp2_with fail
    refine (K1.out _ _ (Box.new _ _ _)).mono ?_
    rintro e w2 ⟨rfl, bc, sp2⟩
    have hz2 := sp2.size; (try simp only [World.size_alloc, World.size_setCell, World.size_drew] at hz2)
    have hg2 : Fr w w2 := Span.fr (show Fr w (w1.alloc _) by repeat (first | (with_reducible exact Fr.refl _) | (with_reducible assumption) | (with_reducible refine Fr.drewN ?_ _) | (with_reducible refine Fr.drew ?_) | (with_reducible refine Fr.alloc ?_ _) | (with_reducible refine Fr.setCell ?_ (by (first | (with_reducible assumption) | omega | (simp only [World.size_alloc, World.size_setCell, World.size_drew, World.heap_drewN]; omega) | (simp; done) | (simp; omega))) _) | (with_reducible refine Fr.trans ?_ (by with_reducible assumption)))) sp2 (by (first | (with_reducible assumption) | omega | (simp only [World.size_alloc, World.size_setCell, World.size_drew, World.heap_drewN]; omega) | (simp; done) | (simp; omega)))
    have BR := (BR.alloc _).span sp2 (.inl (by (first | (with_reducible assumption) | omega | (simp only [World.size_alloc, World.size_setCell, World.size_drew, World.heap_drewN]; omega) | (simp; done) | (simp; omega))))
    clear FBR
    have FBR := BR.facts
    have FBC := bc.facts
    go_wp2_with fail
    refine (K2.out _ _ (bc.alloc _)).mono ?_
    rintro e w3 ⟨rfl, bd, sp3⟩
    have hz3 := sp3.size; (try simp only [World.size_alloc, World.size_setCell, World.size_drew] at hz3)
    have BP : Box w3 w2.heap.size #[.int .i64 v1, .int .i64 0, .int .i64 0, .int .i64 0, .int .i64 0, .string ⟨#[]⟩] 27 := (Box.new _ _ _).span sp3 (.inr (by (first | (with_reducible assumption) | omega | (simp only [World.size_alloc, World.size_setCell, World.size_drew, World.heap_drewN]; omega) | (simp; done) | (simp; omega))))
    have BR := (BR.alloc _).span sp3 (.inl (by (first | (with_reducible assumption) | omega | (simp only [World.size_alloc, World.size_setCell, World.size_drew, World.heap_drewN]; omega) | (simp; done) | (simp; omega))))
    have hg3 : Fr w w3 := Span.fr (show Fr w _ by repeat (first | (with_reducible exact Fr.refl _) | (with_reducible assumption) | (with_reducible refine Fr.drewN ?_ _) | (with_reducible refine Fr.drew ?_) | (with_reducible refine Fr.alloc ?_ _) | (with_reducible refine Fr.setCell ?_ (by (first | (with_reducible assumption) | omega | (simp only [World.size_alloc, World.size_setCell, World.size_drew, World.heap_drewN]; omega) | (simp; done) | (simp; omega))) _) | (with_reducible refine Fr.trans ?_ (by with_reducible assumption)))) sp3 (by (first | (with_reducible assumption) | omega | (simp only [World.size_alloc, World.size_setCell, World.size_drew, World.heap_drewN]; omega) | (simp; done) | (simp; omega)))
    have bc := bd
    clear bd FBR FBC
    have FBR := BR.facts
    have FBC := bc.facts
    have FBP := BP.facts
    go_wp2_with fail
    refine (K3.out _ _ (bc.far (by omega) _)).mono ?_
    rintro e w4 ⟨rfl, bd, sp4⟩
    have hz4 := sp4.size; (try simp only [World.size_alloc, World.size_setCell, World.size_drew] at hz4)
    have BP : Box w4 w2.heap.size #[.int .i64 v1, .int .i64 v2, .int .i64 0, .int .i64 0, .int .i64 0, .string ⟨#[]⟩] 27 := (BP.set_to (by simp)).span sp4 (.inr (by (first | (with_reducible assumption) | omega | (simp only [World.size_alloc, World.size_setCell, World.size_drew, World.heap_drewN]; omega) | (simp; done) | (simp; omega))))
    have BR := (BR.far (by omega) _).span sp4 (.inl (by (first | (with_reducible assumption) | omega | (simp only [World.size_alloc, World.size_setCell, World.size_drew, World.heap_drewN]; omega) | (simp; done) | (simp; omega))))
    have hg4 : Fr w w4 := Span.fr (show Fr w _ by repeat (first | (with_reducible exact Fr.refl _) | (with_reducible assumption) | (with_reducible refine Fr.drewN ?_ _) | (with_reducible refine Fr.drew ?_) | (with_reducible refine Fr.alloc ?_ _) | (with_reducible refine Fr.setCell ?_ (by (first | (with_reducible assumption) | omega | (simp only [World.size_alloc, World.size_setCell, World.size_drew, World.heap_drewN]; omega) | (simp; done) | (simp; omega))) _) | (with_reducible refine Fr.trans ?_ (by with_reducible assumption)))) sp4 (by (first | (with_reducible assumption) | omega | (simp only [World.size_alloc, World.size_setCell, World.size_drew, World.heap_drewN]; omega) | (simp; done) | (simp; omega)))
    have bc := bd
    clear bd FBR FBC FBP
    have FBR := BR.facts
    have FBC := bc.facts
    have FBP := BP.facts
    go_wp2_with fail
    refine (K4.out _ _ (bc.far (by omega) _)).mono ?_
    rintro e w5 ⟨rfl, bd, sp5⟩
    have hz5 := sp5.size; (try simp only [World.size_alloc, World.size_setCell, World.size_drew] at hz5)
    have BP : Box w5 w2.heap.size #[.int .i64 v1, .int .i64 v2, .int .i64 v3, .int .i64 0, .int .i64 0, .string ⟨#[]⟩] 27 := (BP.set_to (by simp)).span sp5 (.inr (by (first | (with_reducible assumption) | omega | (simp only [World.size_alloc, World.size_setCell, World.size_drew, World.heap_drewN]; omega) | (simp; done) | (simp; omega))))
    have BR := (BR.far (by omega) _).span sp5 (.inl (by (first | (with_reducible assumption) | omega | (simp only [World.size_alloc, World.size_setCell, World.size_drew, World.heap_drewN]; omega) | (simp; done) | (simp; omega))))
    have hg5 : Fr w w5 := Span.fr (show Fr w _ by repeat (first | (with_reducible exact Fr.refl _) | (with_reducible assumption) | (with_reducible refine Fr.drewN ?_ _) | (with_reducible refine Fr.drew ?_) | (with_reducible refine Fr.alloc ?_ _) | (with_reducible refine Fr.setCell ?_ (by (first | (with_reducible assumption) | omega | (simp only [World.size_alloc, World.size_setCell, World.size_drew, World.heap_drewN]; omega) | (simp; done) | (simp; omega))) _) | (with_reducible refine Fr.trans ?_ (by with_reducible assumption)))) sp5 (by (first | (with_reducible assumption) | omega | (simp only [World.size_alloc, World.size_setCell, World.size_drew, World.heap_drewN]; omega) | (simp; done) | (simp; omega)))
    have bc := bd
    clear bd FBR FBC FBP
    have FBR := BR.facts
    have FBC := bc.facts
    have FBP := BP.facts
    go_wp2_with fail
    refine (K5.out _ _ (bc.far (by omega) _)).mono ?_
    rintro e w6 ⟨rfl, bd, sp6⟩
    have hz6 := sp6.size; (try simp only [World.size_alloc, World.size_setCell, World.size_drew] at hz6)
    have BP : Box w6 w2.heap.size #[.int .i64 v1, .int .i64 v2, .int .i64 v3, .int .i64 v4, .int .i64 0, .string ⟨#[]⟩] 27 := (BP.set_to (by simp)).span sp6 (.inr (by (first | (with_reducible assumption) | omega | (simp only [World.size_alloc, World.size_setCell, World.size_drew, World.heap_drewN]; omega) | (simp; done) | (simp; omega))))
    have BR := (BR.far (by omega) _).span sp6 (.inl (by (first | (with_reducible assumption) | omega | (simp only [World.size_alloc, World.size_setCell, World.size_drew, World.heap_drewN]; omega) | (simp; done) | (simp; omega))))
    have hg6 : Fr w w6 := Span.fr (show Fr w _ by repeat (first | (with_reducible exact Fr.refl _) | (with_reducible assumption) | (with_reducible refine Fr.drewN ?_ _) | (with_reducible refine Fr.drew ?_) | (with_reducible refine Fr.alloc ?_ _) | (with_reducible refine Fr.setCell ?_ (by (first | (with_reducible assumption) | omega | (simp only [World.size_alloc, World.size_setCell, World.size_drew, World.heap_drewN]; omega) | (simp; done) | (simp; omega))) _) | (with_reducible refine Fr.trans ?_ (by with_reducible assumption)))) sp6 (by (first | (with_reducible assumption) | omega | (simp only [World.size_alloc, World.size_setCell, World.size_drew, World.heap_drewN]; omega) | (simp; done) | (simp; omega)))
    have bc := bd
    clear bd FBR FBC FBP
    have FBR := BR.facts
    have FBC := bc.facts
    have FBP := BP.facts
    rcases b5 with _ | _
    · have hback := (HBK.out rfl).2
      have htn : ((a5 : Int)).toNat = a5 := by simp
      obtain ⟨body, hbody⟩ : ∃ y, s.extract a5 s.size = y := ⟨_, rfl⟩
      rw [hbody] at hback HRP
      have RS : Hid (∀ b w', Box w' b #[.string s, .int .i64 (a5 : Int), .bool false] 145 → Calls Try.prog 115 #[.pointer (some ⟨b, 0, none⟩)] w' fun e w'' => e = .returned (.string body) ∧ Box w'' b #[.string s, .int .i64 (s.size : Int), .bool false] 145 ∧ Span b (b + 1) w' w'') := fun b w' hb => by have := rest_any b a5 false s w' hb (by omega) l5; simpa [hbody] using this
      cases hpb : pktB v1 v2 v3 v4 v5 body
      · have HN : Hid (rdp t = pkNo) := by show _ = _; rw [HRP.out, if_neg (fun h => by rw [hpb] at h; cases h.2)]
        have CT : Hid (∀ w', Calls Try.prog 50 #[.agg #[.int .i64 v1, .int .i64 v2, .int .i64 v3, .int .i64 v4, .int .i64 v5, .string body]] w' fun e w'' => e = .returned (.bool false) ∧ Fr w' w'') := fun w' => by have := implPacketOk_any v1 v2 v3 v4 v5 body w'; rw [hpb] at this; exact this
        clear hpb hback hbody
        go_wp2_with fail
        refine (RS.out _ _ (bc.far (by omega) _)).mono ?_
        rintro e w7 ⟨rfl, bd, sp7⟩
        have hz7 := sp7.size; (try simp only [World.size_alloc, World.size_setCell, World.size_drew] at hz7)
        have BP : Box w7 w2.heap.size #[.int .i64 v1, .int .i64 v2, .int .i64 v3, .int .i64 v4, .int .i64 v5, .string ⟨#[]⟩] 27 := (BP.set_to (by simp)).span sp7 (.inr (by (first | (with_reducible assumption) | omega | (simp only [World.size_alloc, World.size_setCell, World.size_drew, World.heap_drewN]; omega) | (simp; done) | (simp; omega))))
        have BR := (BR.far (by omega) _).span sp7 (.inl (by (first | (with_reducible assumption) | omega | (simp only [World.size_alloc, World.size_setCell, World.size_drew, World.heap_drewN]; omega) | (simp; done) | (simp; omega))))
        have hg7 : Fr w w7 := Span.fr (show Fr w _ by repeat (first | (with_reducible exact Fr.refl _) | (with_reducible assumption) | (with_reducible refine Fr.drewN ?_ _) | (with_reducible refine Fr.drew ?_) | (with_reducible refine Fr.alloc ?_ _) | (with_reducible refine Fr.setCell ?_ (by (first | (with_reducible assumption) | omega | (simp only [World.size_alloc, World.size_setCell, World.size_drew, World.heap_drewN]; omega) | (simp; done) | (simp; omega))) _) | (with_reducible refine Fr.trans ?_ (by with_reducible assumption)))) sp7 (by (first | (with_reducible assumption) | omega | (simp only [World.size_alloc, World.size_setCell, World.size_drew, World.heap_drewN]; omega) | (simp; done) | (simp; omega)))
        have bc := bd
        clear bd FBR FBC FBP
        have FBR := BR.facts
        have FBC := bc.facts
        have FBP := BP.facts
        go_wp2_with fail
        refine (CT.out _).mono ?_
        rintro e w8 ⟨rfl, hf8⟩
        have hz8 := hf8.size; (try simp only [World.size_alloc, World.size_setCell, World.size_drew] at hz8)
        have BP : Box w8 w2.heap.size #[.int .i64 v1, .int .i64 v2, .int .i64 v3, .int .i64 v4, .int .i64 v5, .string body] 27 := ((BP.set_to (by simp)).fr hf8)
        have BR := ((BR.far (by omega) _)).fr hf8
        have hg8 : Fr w w8 := by repeat (first | (with_reducible exact Fr.refl _) | (with_reducible assumption) | (with_reducible refine Fr.drewN ?_ _) | (with_reducible refine Fr.drew ?_) | (with_reducible refine Fr.alloc ?_ _) | (with_reducible refine Fr.setCell ?_ (by (first | (with_reducible assumption) | omega | (simp only [World.size_alloc, World.size_setCell, World.size_drew, World.heap_drewN]; omega) | (simp; done) | (simp; omega))) _) | (with_reducible refine Fr.trans ?_ (by with_reducible assumption)))
        clear FBR FBP
        have FBR := BR.facts
        have FBP := BP.facts
        go_wp2_with fail
        refine bodyPost_ret (v := .tuple #[.agg #[.int .i64 0, .int .i64 0, .int .i64 0, .int .i64 0, .int .i64 0, .string ⟨#[]⟩], .bool false]) (by simp [results, Try.results48, go_sem, *]) rfl ⟨by rw [HN.out]; rfl, by repeat (first | (with_reducible exact Fr.refl _) | (with_reducible assumption) | (with_reducible refine Fr.drewN ?_ _) | (with_reducible refine Fr.drew ?_) | (with_reducible refine Fr.alloc ?_ _) | (with_reducible refine Fr.setCell ?_ (by (first | (with_reducible assumption) | omega | (simp only [World.size_alloc, World.size_setCell, World.size_drew, World.heap_drewN]; omega) | (simp; done) | (simp; omega))) _) | (with_reducible refine Fr.trans ?_ (by with_reducible assumption)))⟩
      · have HY : Hid (rdp t = ⟨v1, v2, v3, v4, v5, body, true⟩) := by show _ = _; rw [HRP.out, if_pos ⟨rfl, hpb⟩]
        have CT : Hid (∀ w', Calls Try.prog 50 #[.agg #[.int .i64 v1, .int .i64 v2, .int .i64 v3, .int .i64 v4, .int .i64 v5, .string body]] w' fun e w'' => e = .returned (.bool true) ∧ Fr w' w'') := fun w' => by have := implPacketOk_any v1 v2 v3 v4 v5 body w'; rw [hpb] at this; exact this
        clear hpb hback hbody
        go_wp2_with fail
        refine (RS.out _ _ (bc.far (by omega) _)).mono ?_
        rintro e w7 ⟨rfl, bd, sp7⟩
        have hz7 := sp7.size; (try simp only [World.size_alloc, World.size_setCell, World.size_drew] at hz7)
        have BP : Box w7 w2.heap.size #[.int .i64 v1, .int .i64 v2, .int .i64 v3, .int .i64 v4, .int .i64 v5, .string ⟨#[]⟩] 27 := (BP.set_to (by simp)).span sp7 (.inr (by (first | (with_reducible assumption) | omega | (simp only [World.size_alloc, World.size_setCell, World.size_drew, World.heap_drewN]; omega) | (simp; done) | (simp; omega))))
        have BR := (BR.far (by omega) _).span sp7 (.inl (by (first | (with_reducible assumption) | omega | (simp only [World.size_alloc, World.size_setCell, World.size_drew, World.heap_drewN]; omega) | (simp; done) | (simp; omega))))
        have hg7 : Fr w w7 := Span.fr (show Fr w _ by repeat (first | (with_reducible exact Fr.refl _) | (with_reducible assumption) | (with_reducible refine Fr.drewN ?_ _) | (with_reducible refine Fr.drew ?_) | (with_reducible refine Fr.alloc ?_ _) | (with_reducible refine Fr.setCell ?_ (by (first | (with_reducible assumption) | omega | (simp only [World.size_alloc, World.size_setCell, World.size_drew, World.heap_drewN]; omega) | (simp; done) | (simp; omega))) _) | (with_reducible refine Fr.trans ?_ (by with_reducible assumption)))) sp7 (by (first | (with_reducible assumption) | omega | (simp only [World.size_alloc, World.size_setCell, World.size_drew, World.heap_drewN]; omega) | (simp; done) | (simp; omega)))
        have bc := bd
        clear bd FBR FBC FBP
        have FBR := BR.facts
        have FBC := bc.facts
        have FBP := BP.facts
        go_wp2_with fail
        refine (CT.out _).mono ?_
        rintro e w8 ⟨rfl, hf8⟩
        have hz8 := hf8.size; (try simp only [World.size_alloc, World.size_setCell, World.size_drew] at hz8)
        have BP : Box w8 w2.heap.size #[.int .i64 v1, .int .i64 v2, .int .i64 v3, .int .i64 v4, .int .i64 v5, .string body] 27 := ((BP.set_to (by simp)).fr hf8)
        have BR := ((BR.far (by omega) _)).fr hf8
        have hg8 : Fr w w8 := by repeat (first | (with_reducible exact Fr.refl _) | (with_reducible assumption) | (with_reducible refine Fr.drewN ?_ _) | (with_reducible refine Fr.drew ?_) | (with_reducible refine Fr.alloc ?_ _) | (with_reducible refine Fr.setCell ?_ (by (first | (with_reducible assumption) | omega | (simp only [World.size_alloc, World.size_setCell, World.size_drew, World.heap_drewN]; omega) | (simp; done) | (simp; omega))) _) | (with_reducible refine Fr.trans ?_ (by with_reducible assumption)))
        clear FBR FBP
        have FBR := BR.facts
        have FBP := BP.facts
        go_wp2_with fail
        refine bodyPost_ret (v := .tuple #[.agg #[.int .i64 v1, .int .i64 v2, .int .i64 v3, .int .i64 v4, .int .i64 v5, .string body], .bool true]) (by simp [results, Try.results48, go_sem, *]) rfl ⟨by rw [HY.out], by repeat (first | (with_reducible exact Fr.refl _) | (with_reducible assumption) | (with_reducible refine Fr.drewN ?_ _) | (with_reducible refine Fr.drew ?_) | (with_reducible refine Fr.alloc ?_ _) | (with_reducible refine Fr.setCell ?_ (by (first | (with_reducible assumption) | omega | (simp only [World.size_alloc, World.size_setCell, World.size_drew, World.heap_drewN]; omega) | (simp; done) | (simp; omega))) _) | (with_reducible refine Fr.trans ?_ (by with_reducible assumption)))⟩
    · have HN : Hid (rdp t = pkNo) := by show _ = _; rw [HRP.out, if_neg (fun h => by cases h.1)]
      have RS : Hid (∀ b w', Box w' b #[.string s, .int .i64 (a5 : Int), .bool true] 145 → Calls Try.prog 115 #[.pointer (some ⟨b, 0, none⟩)] w' fun e w'' => e = .returned (.string ByteArray.empty) ∧ Box w'' b #[.string s, .int .i64 (a5 : Int), .bool true] 145 ∧ Span b (b + 1) w' w'') := fun b w' hb => by have := rest_any b a5 true s w' hb (by omega) l5; simpa using this
      go_wp2_with fail
      refine (RS.out _ _ (bc.far (by omega) _)).mono ?_
      rintro e w7 ⟨rfl, bd, sp7⟩
      have hz7 := sp7.size; (try simp only [World.size_alloc, World.size_setCell, World.size_drew] at hz7)
      have BP : Box w7 w2.heap.size #[.int .i64 v1, .int .i64 v2, .int .i64 v3, .int .i64 v4, .int .i64 v5, .string ⟨#[]⟩] 27 := (BP.set_to (by simp)).span sp7 (.inr (by (first | (with_reducible assumption) | omega | (simp only [World.size_alloc, World.size_setCell, World.size_drew, World.heap_drewN]; omega) | (simp; done) | (simp; omega))))
      have BR := (BR.far (by omega) _).span sp7 (.inl (by (first | (with_reducible assumption) | omega | (simp only [World.size_alloc, World.size_setCell, World.size_drew, World.heap_drewN]; omega) | (simp; done) | (simp; omega))))
      have hg7 : Fr w w7 := Span.fr (show Fr w _ by repeat (first | (with_reducible exact Fr.refl _) | (with_reducible assumption) | (with_reducible refine Fr.drewN ?_ _) | (with_reducible refine Fr.drew ?_) | (with_reducible refine Fr.alloc ?_ _) | (with_reducible refine Fr.setCell ?_ (by (first | (with_reducible assumption) | omega | (simp only [World.size_alloc, World.size_setCell, World.size_drew, World.heap_drewN]; omega) | (simp; done) | (simp; omega))) _) | (with_reducible refine Fr.trans ?_ (by with_reducible assumption)))) sp7 (by (first | (with_reducible assumption) | omega | (simp only [World.size_alloc, World.size_setCell, World.size_drew, World.heap_drewN]; omega) | (simp; done) | (simp; omega)))
      have bc := bd
      clear bd FBR FBC FBP
      have FBR := BR.facts
      have FBC := bc.facts
      have FBP := BP.facts
      go_wp2_with fail
      refine bodyPost_ret (v := .tuple #[.agg #[.int .i64 0, .int .i64 0, .int .i64 0, .int .i64 0, .int .i64 0, .string ⟨#[]⟩], .bool false]) (by simp [results, Try.results48, go_sem, *]) rfl ⟨by rw [HN.out]; rfl, by repeat (first | (with_reducible exact Fr.refl _) | (with_reducible assumption) | (with_reducible refine Fr.drewN ?_ _) | (with_reducible refine Fr.drew ?_) | (with_reducible refine Fr.alloc ?_ _) | (with_reducible refine Fr.setCell ?_ (by (first | (with_reducible assumption) | omega | (simp only [World.size_alloc, World.size_setCell, World.size_drew, World.heap_drewN]; omega) | (simp; done) | (simp; omega))) _) | (with_reducible refine Fr.trans ?_ (by with_reducible assumption)))⟩
end Go.Proofs.Ytnlcgffffjjojaa
