/- Texts in one: Num, Row, App. -/
import Derived.Test.YtmdgdnkllclpcaaGreatGMark
import Derived.Test.YtmdgdnkllclpcaaGreatGFlat
import Derived.Deep.AppendLies
import Derived.Maps.AppendAt
import Derived.Lib.SliceRun
import Derived.Lib.Walk
/- Numbers as bytes: impl.varText and spec.l01Var give the same bytes. Condition: the number is not negative and below 2^40. -/
namespace Go.Proofs.YtmdgdnkllclpcaaGreat
open Go.RowKit
set_option linter.unusedVariables false
set_option linter.unusedSimpArgs false

/-- The bytes of a number, low ones first. -/
def varL (n : Nat) : List UInt8 := if h : n ≤ 127 then [UInt8.ofNat n] else UInt8.ofNat (128 + n % 128) :: varL (n / 128)
theorem varL_small {n : Nat} (h : n ≤ 127) : varL n = [UInt8.ofNat n] := by rw [varL, dif_pos h]
theorem varL_big {n : Nat} (h : 127 < n) : varL n = UInt8.ofNat (128 + n % 128) :: varL (n / 128) := by rw [varL, dif_neg (by omega)]
theorem varL_len (n : Nat) : (varL n).length ≤ n + 1 := by
  induction n using Nat.strongRecOn with
  | ind n ih =>
    by_cases h : n ≤ 127
    · rw [varL_small h]; simp
    · rw [varL_big (by omega), List.length_cons]
      have := ih (n / 128) (by omega)
      omega
theorem varL_pos (n : Nat) : 0 < (varL n).length := by
  by_cases h : n ≤ 127
  · rw [varL_small h]; simp
  · rw [varL_big (by omega)]; simp
theorem varL_len40 (n : Nat) (h : n < 1099511627776) : (varL n).length ≤ 6 := by
  have step : ∀ m k, (∀ n, n < m → (varL n).length ≤ k) → ∀ n, n < m * 128 → (varL n).length ≤ k + 1 := by
    intro m k hk n hn
    by_cases h : n ≤ 127
    · rw [varL_small h]; simp
    · rw [varL_big (by omega), List.length_cons]
      have := hk (n / 128) (by omega)
      omega
  have h1 : ∀ n, n < 128 → (varL n).length ≤ 1 := fun n hn => by rw [varL_small (by omega)]; simp
  have h6 := step _ _ (step _ _ (step _ _ (step _ _ (step _ _ h1))))
  exact h6 n (by omega)
def vText (n : Int) : ByteArray := ⟨(varL n.toNat).toArray⟩
theorem vText_size (n : Int) : (vText n).size = (varL n.toNat).length := by simp [vText, ByteArray.size]

theorem info_byte : (Tryz.prog.info? 5).map (fun i => (i.zero, i.size, i.bytes)) = some (some (.int .u8 0), 1, 1) := by kernel_rfl

/-- 'string(b)' of bytes that the call itself laid. -/
theorem conv_own {w : World} {lo : Nat} {v : Value} {n : Nat} {xs : List Int} (h : w.ownsRow lo 5 1 v n (xs.map (Value.int .u8))) :
    (convert 215 9 v).run Tryz.prog w = .ok (.string (strOfNums xs)) w := by
  have h0 := h
  obtain ⟨h1, ⟨rfl, rfl⟩ | ⟨g, cap, cur, rfl, _⟩⟩ := h
  · have : xs = [] := by simpa using h1
    subst this
    exact run_convert_bytes_nil _ 215 5 Tryz.underlying215 Tryz.underlying5 0 0 9 Tryz.underlying9
  · have hn : xs.length = n := by simpa using h1
    refine run_convert_bytes_arg _ 215 5 Tryz.underlying215 Tryz.underlying5 g 0 n cap xs hn (fun i hi => ?_) 9 Tryz.underlying9
    rw [Nat.zero_add, h0.cellAt i (by omega)]
    have : i < xs.length := by omega
    simp [List.getD, List.getElem?_eq_getElem this]

/-- The bytes l as numbers. -/
def nums (l : List UInt8) : List Int := l.map fun b => (b.toNat : Int)
theorem nums_append (l m : List UInt8) : nums (l ++ m) = nums l ++ nums m := by simp [nums]
theorem nums_length (l : List UInt8) : (nums l).length = l.length := by simp [nums]
theorem str_nums (l : List UInt8) : strOfNums (nums l) = ⟨l.toArray⟩ := by
  apply WideShapes.bytes_inj
  rw [strOfNums_data, nums, List.map_map]
  show l.map _ = l
  conv => rhs; rw [← List.map_id l]
  apply List.map_congr_left
  intro b _
  simp
theorem num_byte (m : Nat) (h : m < 256) : ((UInt8.ofNat m).toNat : Int) = m := by
  have : (UInt8.ofNat m).toNat = m := by simp; omega
  omega

def BytesO (w : World) (lo : Nat) (v : Value) (l : List UInt8) : Prop := w.ownsRow lo 5 1 v l.length ((nums l).map (Value.int .u8))

theorem BytesO.snoc {w : World} {lo : Nat} {v : Value} {l : List UInt8} {x : Int} {b : UInt8} (h : w.ownsRow lo 5 1 v (l.length + 1) ((nums l).map (Value.int .u8) ++ [.int .u8 x])) (hx : x = (b.toNat : Int)) : BytesO w lo v (l ++ [b]) := by
  subst hx
  unfold BytesO
  rw [nums_append, List.map_append, List.length_append]
  exact h
theorem BytesO.conv {w : World} {lo : Nat} {v : Value} {l : List UInt8} (h : BytesO w lo v l) : (convert 215 9 v).run Tryz.prog w = .ok (.string ⟨l.toArray⟩) w := by
  rw [← str_nums]
  exact conv_own h
/-- Behind an append of the call's own: nothing old has turned. -/
theorem append_fr {w wr w1 : World} {o : Obj} {e : TypeId} {sz : Nat} {v : Value} {n : Nat} {xs : List Value} (hfr : Fr w wr) (ho : wr.ownsRow w.heap.size e sz v n xs) (hg : (wr.alloc o).grownBy w1 v.ownBlock) : Fr w w1 :=
  (hfr.alloc o).grown hg (fun k hk => (ho.lt k hk).1)

set_option maxRecDepth 100000 in
theorem varText_nat (k : Nat) (w : World) (h1 : k ≤ 1099511627775) :
    Calls Tryz.prog 148 #[.int .i64 k] w fun e w' => e = .returned (.string (vText k)) ∧ Fr w w' := by
  obtain ⟨i0, hi, hz0, hz1, hz2⟩ := info_parts info_byte
  have hlen := varL_len40 k (by omega)
  go_enter Tryz.func148, Tryz.ntmps148
  go_wp2
  go_loopw [0, 3] (fun i v wr => ∃ (m : Nat) (l : List UInt8), i = .int .i64 m ∧ BytesO wr w.heap.size v l ∧ m ≤ k ∧ Hid (l ++ varL m = varL k) ∧ Fr w wr) (fun i _ _ => (intOf i).toNat)
  case atStart => exact ⟨k, [], rfl, World.ownsRow_nil _ _ _ _, Nat.le_refl _, by simp [Hid], Fr.refl _⟩
  case round =>
    obtain ⟨m, l, rfl, ho, hm, hd, hfr⟩ := hrel
    have hll : l.length ≤ 6 := by
      have := congrArg List.length hd.out
      simp only [List.length_append] at this
      omega
    clear hlen
    by_cases hlt : 127 < m
    · go_wp2_with (at_builtin; refine wpList_append_own _ rfl _ _ 215 rfl w.heap.size 5 i0 (.int .u8 0) 1 1 Tryz.underlying215 hi hz0 hz1 hz2 rfl (by decide) _ _ _ rfl (World.ownsRow.alloc ho _) ⟨wr.heap.size, 0, none⟩ 1 1 [.int .u8 (128 + (m : Int) % 128)] rfl rfl (cell_one_new _ _ _) (by simp [Value.oneCell']) (by unfold maxLen; omega) (by omega) (by have := hfr.size; simp; omega) ?_; intro v' w1 hown' hgrow _)
      have hf1 := append_fr hfr ho hgrow
      have ho1 := BytesO.snoc (b := UInt8.ofNat (128 + m % 128)) hown' (by rw [num_byte _ (by omega)]; omega)
      have hd1 : Hid ((l ++ [UInt8.ofNat (128 + m % 128)]) ++ varL (m / 128) = varL k) := by have := hd.out; rw [varL_big hlt] at this; rw [List.append_assoc]; exact this
      clear hown' hgrow
      go_roundw
      case rel => exact ⟨m / 128, _, rfl, ho1, by omega, hd1, hf1⟩
      case measure => (simp [intOf]; omega)
    · go_wp2_with (at_builtin; refine wpList_append_own _ rfl _ _ 215 rfl w.heap.size 5 i0 (.int .u8 0) 1 1 Tryz.underlying215 hi hz0 hz1 hz2 rfl (by decide) _ _ _ rfl (World.ownsRow.alloc ho _) ⟨wr.heap.size, 0, none⟩ 1 1 [.int .u8 (m : Int)] rfl rfl (cell_one_new _ _ _) (by simp [Value.oneCell']) (by unfold maxLen; omega) (by omega) (by have := hfr.size; simp; omega) ?_; intro v' w1 hown' hgrow _; have hf1 := append_fr hfr ho hgrow; have ho1 := BytesO.snoc (b := UInt8.ofNat m) hown' (by rw [num_byte _ (by omega)]); have hcv := ho1.conv)
      go_ret
      exact ⟨ret_str (by have := hd.out; rw [varL_small (by omega)] at this; unfold vText; rw [Int.toNat_natCast, ← this]), hf1⟩
theorem varText_any (k : Int) (w : World) (h0 : 0 ≤ k) (h1 : k ≤ 1099511627775) :
    Calls Tryz.prog 148 #[.int .i64 k] w fun e w' => e = .returned (.string (vText k)) ∧ Fr w w' := by
  obtain ⟨n, rfl⟩ := Int.eq_ofNat_of_zero_le h0
  exact varText_nat n w (by omega)
set_option maxRecDepth 100000 in
theorem l01Var_nat (k : Nat) (w : World) (h1 : k ≤ 1099511627775) :
    Calls Tryz.prog 153 #[.int .i64 k] w fun e w' => e = .returned (.string (vText k)) ∧ Fr w w' := by
  obtain ⟨i0, hi, hz0, hz1, hz2⟩ := info_parts info_byte
  have hlen := varL_len40 k (by omega)
  go_enter Tryz.func153, Tryz.ntmps153
  go_wp2
  go_loopw [0, 3] (fun i v wr => ∃ (m : Nat) (l : List UInt8), i = .int .i64 m ∧ BytesO wr w.heap.size v l ∧ m ≤ k ∧ Hid (l ++ varL m = varL k) ∧ Fr w wr) (fun i _ _ => (intOf i).toNat)
  case atStart => exact ⟨k, [], rfl, World.ownsRow_lit w #[] 0 (Nat.le_refl _) (by simp [maxLen]) rfl, Nat.le_refl _, by simp [Hid], (Fr.refl _).alloc _⟩
  case round =>
    obtain ⟨m, l, rfl, ho, hm, hd, hfr⟩ := hrel
    have hll : l.length ≤ 6 := by
      have := congrArg List.length hd.out
      simp only [List.length_append] at this
      omega
    clear hlen
    by_cases hlt : 127 < m
    · go_wp2_with (at_builtin; refine wpList_append_own _ rfl _ _ 215 rfl w.heap.size 5 i0 (.int .u8 0) 1 1 Tryz.underlying215 hi hz0 hz1 hz2 rfl (by decide) _ _ _ rfl (World.ownsRow.alloc ho _) ⟨wr.heap.size, 0, none⟩ 1 1 [.int .u8 ((m : Int) % 128 + 128)] rfl rfl (cell_one_new _ _ _) (by simp [Value.oneCell']) (by unfold maxLen; omega) (by omega) (by have := hfr.size; simp; omega) ?_; intro v' w1 hown' hgrow _)
      have hf1 := append_fr hfr ho hgrow
      have ho1 := BytesO.snoc (b := UInt8.ofNat (128 + m % 128)) hown' (by rw [num_byte _ (by omega)]; omega)
      have hd1 : Hid ((l ++ [UInt8.ofNat (128 + m % 128)]) ++ varL (m / 128) = varL k) := by have := hd.out; rw [varL_big hlt] at this; rw [List.append_assoc]; exact this
      clear hown' hgrow
      go_roundw
      case rel => exact ⟨m / 128, _, rfl, ho1, by omega, hd1, hf1⟩
      case measure => (simp [intOf]; omega)
    · go_wp2_with (at_builtin; refine wpList_append_own _ rfl _ _ 215 rfl w.heap.size 5 i0 (.int .u8 0) 1 1 Tryz.underlying215 hi hz0 hz1 hz2 rfl (by decide) _ _ _ rfl (World.ownsRow.alloc ho _) ⟨wr.heap.size, 0, none⟩ 1 1 [.int .u8 (m : Int)] rfl rfl (cell_one_new _ _ _) (by simp [Value.oneCell']) (by unfold maxLen; omega) (by omega) (by have := hfr.size; simp; omega) ?_; intro v' w1 hown' hgrow _; have hf1 := append_fr hfr ho hgrow; have ho1 := BytesO.snoc (b := UInt8.ofNat m) hown' (by rw [num_byte _ (by omega)]); have hcv := ho1.conv)
      go_ret
      exact ⟨ret_str (by have := hd.out; rw [varL_small (by omega)] at this; unfold vText; rw [Int.toNat_natCast, ← this]), hf1⟩
theorem l01Var_any (k : Int) (w : World) (h0 : 0 ≤ k) (h1 : k ≤ 1099511627775) :
    Calls Tryz.prog 153 #[.int .i64 k] w fun e w' => e = .returned (.string (vText k)) ∧ Fr w w' := by
  obtain ⟨n, rfl⟩ := Int.eq_ofNat_of_zero_le h0
  exact l01Var_nat n w (by omega)
end Go.Proofs.YtmdgdnkllclpcaaGreat

/- Footprints: what a call may have turned (Span), owned rows between two bounds (..W), marking and reading marks of whole slices. No condition. (Printed by mk_row.py.) -/
namespace Go.Proofs.YtmdgdnkllclpcaaGreat
open Go.RowKit
set_option linter.unusedVariables false
set_option linter.unusedSimpArgs false

/-- From w to w' only blocks in [lo, hi) have turned. -/
structure Span (lo hi : Nat) (w w' : World) : Prop where
  os : w'.os = w.os
  tape : w'.tape = w.tape
  output : w'.output = w.output
  size : w.heap.size ≤ w'.heap.size
  block : ∀ k, k < w.heap.size → (k < lo ∨ hi ≤ k) → w'.heap[k]? = w.heap[k]?
theorem Span.refl (lo hi : Nat) (w : World) : Span lo hi w w := ⟨rfl, rfl, rfl, Nat.le_refl _, fun _ _ _ => rfl⟩
theorem Span.trans {lo hi : Nat} {a b c : World} (h : Span lo hi a b) (k : Span lo hi b c) : Span lo hi a c :=
  ⟨k.os.trans h.os, k.tape.trans h.tape, k.output.trans h.output, Nat.le_trans h.size k.size, fun i hi ho => (k.block i (Nat.lt_of_lt_of_le hi h.size) ho).trans (h.block i hi ho)⟩
theorem Span.of_fr {lo hi : Nat} {w w' : World} (h : Fr w w') : Span lo hi w w' := ⟨h.out.os, h.out.tape, h.out.output, h.size, fun k hk _ => h.out.block k hk⟩
theorem Span.then_fr {lo hi : Nat} {a w w' : World} (h : Span lo hi a w) (hf : Fr w w') : Span lo hi a w' := h.trans (Span.of_fr hf)
theorem Span.of_gr {lo hi : Nat} {w w' : World} {row : Option Nat} (h : w.grownBy w' row) (hr : ∀ k, row = some k → lo ≤ k ∧ k < hi) : Span lo hi w w' :=
  ⟨h.os, h.tape, h.output, h.size, fun k hk ho => h.block k hk (fun e => by have := hr k e.symm; omega)⟩
theorem Span.mono {lo hi lo' hi' : Nat} {w w' : World} (h : Span lo hi w w') (h1 : lo' ≤ lo) (h2 : hi ≤ hi') : Span lo' hi' w w' :=
  ⟨h.os, h.tape, h.output, h.size, fun k hk ho => h.block k hk (by omega)⟩
theorem Span.fr {lo hi : Nat} {a w w' : World} (h : Fr a w) (k : Span lo hi w w') (hl : a.heap.size ≤ lo) : Fr a w' :=
  ⟨k.os.trans h.out.os, k.tape.trans h.out.tape, k.output.trans h.out.output, Nat.le_trans h.size k.size, fun i hi => (k.block i (Nat.lt_of_lt_of_le hi h.size) (.inl (Nat.lt_of_lt_of_le hi hl))).trans (h.out.block i hi)⟩
theorem Span.owns {lo hi : Nat} {w w' : World} {b : Nat} {e : TypeId} {sz : Nat} {v : Value} {n : Nat} {xs : List Value} (k : Span lo hi w w') (h : w.ownsRow b e sz v n xs) (hv : ∀ g, v.ownBlock = some g → g < lo ∨ hi ≤ g) : w'.ownsRow b e sz v n xs := by
  obtain ⟨h1, h2 | ⟨g, cap, cur, hv', hg, hh, hr⟩⟩ := h
  · exact ⟨h1, .inl h2⟩
  · exact ⟨h1, .inr ⟨g, cap, cur, hv', hg, (k.block g (Array.getElem?_eq_some_iff.1 hh).1 (hv g (by rw [hv']; rfl))).trans hh, hr⟩⟩
theorem Span.blk {lo hi : Nat} {w w' : World} (k : Span lo hi w w') (b : Nat) (hb : b < w.heap.size) (ho : b < lo ∨ hi ≤ b) : (∀ o, w'.cell? ⟨b, o, none⟩ = w.cell? ⟨b, o, none⟩) ∧ (∀ o, w'.frozen? ⟨b, o, none⟩ = w.frozen? ⟨b, o, none⟩) :=
  ⟨fun o => World.cell?_of_block (k.block b hb ho), fun o => World.frozen?_of_block (k.block b hb ho)⟩
/-- What a slice reads as stays where nothing of the span is its block. -/
theorem Span.rd {lo hi : Nat} {w w' : World} {sz n : Nat} {v : Value} {xs : List Value} (k : Span lo hi w w') (h : RdS w sz v n xs) (hv : ∀ g, v.ownBlock = some g → g < lo ∨ hi ≤ g) (ho : ∀ a m c, v = .slice (some a) m c → a.off = 0) : RdS w' sz v n xs := by
  obtain ⟨h1, ao, cap, rfl, h2, h3, h4⟩ := h
  refine ⟨h1, ao, cap, rfl, h2, h3, fun hn => ?_⟩
  obtain ⟨b, o, rfl, hb, hc⟩ := h4 hn
  have h0 : o = 0 := ho ⟨b, o, none⟩ n cap rfl
  subst h0
  exact ⟨b, 0, rfl, Nat.lt_of_lt_of_le hb k.size, fun j hj => ((k.blk b hb (hv b rfl)).1 _).trans (hc j hj)⟩
/-- The row of v lies in [lo, hi). -/
def RowIn (lo hi : Nat) (v : Value) : Prop := ∀ g, v.ownBlock = some g → lo ≤ g ∧ g < hi
theorem RowIn.of_owns {w : World} {b : Nat} {e : TypeId} {sz : Nat} {v : Value} {n : Nat} {xs : List Value} (h : w.ownsRow b e sz v n xs) : RowIn b w.heap.size v := h.lt
theorem RowIn.mono {lo hi lo' hi' : Nat} {v : Value} (h : RowIn lo hi v) (h1 : lo' ≤ lo) (h2 : hi ≤ hi') : RowIn lo' hi' v := fun g hg => by have := h g hg; omega
def Apart (u v : Value) : Prop := ∀ g, u.ownBlock = some g → v.ownBlock = some g → False
theorem Apart.symm {u v : Value} (h : Apart u v) : Apart v u := fun g a b => h g b a
theorem Apart.of_in {lo hi lo' hi' : Nat} {u v : Value} (h : RowIn lo hi u) (k : RowIn lo' hi' v) (hh : hi ≤ lo' ∨ hi' ≤ lo) : Apart u v := fun g a b => by have := h g a; have := k g b; omega
theorem Apart.ne {u v : Value} (h : Apart u v) : u.ownBlock = none ∨ u.ownBlock ≠ v.ownBlock := by
  cases hu : u.ownBlock with
  | none => exact .inl rfl
  | some g => exact .inr fun e => h g hu e.symm
theorem owns_zero {w : World} {b : Nat} {e : TypeId} {sz : Nat} {v : Value} {n : Nat} {xs : List Value} (h : w.ownsRow b e sz v n xs) : ∀ a m c, v = .slice (some a) m c → a.off = 0 := by
  intro a m c hv
  obtain ⟨h1, ⟨h2, _⟩ | ⟨g, cap, cur, h2, _⟩⟩ := h
  · rw [h2] at hv; cases hv
  · rw [h2] at hv; cases hv; rfl

/-- Block b is a box of these cells, none frozen. -/
def Box (w : World) (b : Nat) (X : Array Value) (T : TypeId) : Prop := w.heap[b]? = some (.cells X T (0, 0))
theorem Box.lt {w : World} {b : Nat} {X : Array Value} {T : TypeId} (h : Box w b X T) : b < w.heap.size := (Array.getElem?_eq_some_iff.1 h).1
theorem Box.new (w : World) (X : Array Value) (T : TypeId) : Box (w.alloc (.cells X T)) w.heap.size X T := by unfold Box World.alloc; simp
theorem Box.new' {w : World} {X : Array Value} {T : TypeId} {b : Nat} (hb : b = w.heap.size) : Box (w.alloc (.cells X T)) b X T := hb ▸ Box.new w X T
theorem Box.cell {w : World} {b : Nat} {X : Array Value} {T : TypeId} (h : Box w b X T) (o : Nat) : w.cell? ⟨b, o, none⟩ = X[o]? := by simp [World.cell?, show w.heap[b]? = _ from h]
theorem Box.frozen {w : World} {b : Nat} {X : Array Value} {T : TypeId} (h : Box w b X T) (o : Nat) : w.frozen? ⟨b, o, none⟩ = false := by simp [World.frozen?, show w.heap[b]? = _ from h]
theorem Box.facts {w : World} {b : Nat} {X : Array Value} {T : TypeId} (h : Box w b X T) : (∀ o, w.cell? ⟨b, o, none⟩ = X[o]?) ∧ (∀ o, w.frozen? ⟨b, o, none⟩ = false) ∧ b < w.heap.size := ⟨h.cell, h.frozen, h.lt⟩
theorem Box.fr {w w' : World} {b : Nat} {X : Array Value} {T : TypeId} (h : Box w b X T) (hf : Fr w w') : Box w' b X T := (hf.out.block b h.lt).trans h
theorem Box.alloc {w : World} {b : Nat} {X : Array Value} {T : TypeId} (h : Box w b X T) (o : Obj) : Box (w.alloc o) b X T := h.fr ((Fr.refl _).alloc o)
theorem Box.drew {w : World} {b : Nat} {X : Array Value} {T : TypeId} (h : Box w b X T) : Box w.drew b X T := h
theorem Box.drewN {w : World} {b : Nat} {X : Array Value} {T : TypeId} (h : Box w b X T) (n : Nat) : Box (w.drewN n) b X T := h.fr ((Fr.refl _).drewN n)
theorem Box.gr {w w' : World} {b : Nat} {X : Array Value} {T : TypeId} {row : Option Nat} (h : Box w b X T) (hg : w.grownBy w' row) (hr : row ≠ some b) : Box w' b X T := (hg.block b h.lt (fun e => hr e.symm)).trans h
theorem Box.row {w w' : World} {b lo hi : Nat} {X : Array Value} {T : TypeId} {v : Value} (h : Box w b X T) (hg : w.grownBy w' v.ownBlock) (hr : RowIn lo hi v) (hb : b < lo ∨ hi ≤ b) : Box w' b X T := h.gr hg (fun e => by have := hr b e; omega)
theorem Box.span {w w' : World} {b lo hi : Nat} {X : Array Value} {T : TypeId} (h : Box w b X T) (hs : Span lo hi w w') (hb : b < lo ∨ hi ≤ b) : Box w' b X T := (hs.block b h.lt hb).trans h
theorem Box.set {w : World} {b : Nat} {X : Array Value} {T : TypeId} (h : Box w b X T) (i : Nat) (v : Value) : Box (w.setCell ⟨b, i, none⟩ v) b (X.setIfInBounds i v) T := heap_setCell_same w b i X T v h
theorem Box.set_to {w : World} {b : Nat} {X Y : Array Value} {T : TypeId} {i : Nat} {v : Value} (h : Box w b Y T) (e : Y.setIfInBounds i v = X) : Box (w.setCell ⟨b, i, none⟩ v) b X T := e ▸ h.set i v
theorem Box.other {w : World} {b : Nat} {X : Array Value} {T : TypeId} (h : Box w b X T) {p : Addr} (hp : b ≠ p.block) (v : Value) : Box (w.setCell p v) b X T := (heap_setCell_other w p b v hp).trans h
/-- Behind an append: where the new row lies. -/
theorem RowIn.app {lo g n c : Nat} {v : Value} {H hi : Nat} (hat : v.ownBlock = some g ∨ g = H) (hr : RowIn lo H v) (hl : lo ≤ H) (hg : g < hi) : RowIn lo hi (.slice (some ⟨g, 0, none⟩) n c) := by
  intro k hk
  have hk' : g = k := by simpa [Value.ownBlock] using hk
  subst hk'
  rcases hat with h | h
  · exact ⟨(hr g h).1, hg⟩
  · omega
theorem Apart.app {lo g n c : Nat} {u v : Value} {H : Nat} (h : Apart v u) (hat : v.ownBlock = some g ∨ g = H) (hu : RowIn lo H u) : Apart (.slice (some ⟨g, 0, none⟩) n c) u := by
  intro k hk hk2
  have hk' : g = k := by simpa [Value.ownBlock] using hk
  subst hk'
  rcases hat with e | e
  · exact h g e hk2
  · have := hu g hk2; omega
theorem Apart.none (u : Value) (n c : Nat) : Apart (.slice none n c) u := fun _ h => by simp [Value.ownBlock] at h
theorem cell_new {w : World} {u : Value} {T : TypeId} {b : Nat} (hb : b = w.heap.size) : ∀ (j : Nat) (v : Value), [u][j]? = some v → (w.alloc (.cells #[u] T)).cell? ((⟨b, 0, none⟩ : Addr).add j) = some v := hb ▸ cell_one_new w u T
theorem made_list (z : Value) (n : Nat) : (madeCells #[z] n).toList = List.replicate n z := by simpa [fillR, List.flatten_replicate_singleton] using made_fill (List.replicate n ()) (fun _ => [z]) [z] 1 rfl (by omega)
theorem made_new {w : World} {lo b n : Nat} {e : TypeId} {z : Value} (hb : b = w.heap.size) (hl : lo ≤ b) (hn : n ≤ 1048576) : (w.alloc (.cells (madeCells #[z] n) e)).ownsRow lo e 1 (.slice (some ⟨b, 0, none⟩) n n) n (List.replicate n z) := by
  subst hb
  rw [← made_list]
  exact World.ownsRow_lit w _ n hl (by unfold maxLen; omega) (by rw [← Array.length_toList, made_list]; simp)
theorem owns_set {w : World} {lo : Nat} {e : TypeId} {sz : Nat} {v : Value} {n : Nat} {xs : List Value} (h : w.ownsRow lo e sz v n xs) {p : Addr} (hp : p.block < lo) (u : Value) : (w.setCell p u).ownsRow lo e sz v n xs :=
  owns_ab h ((Ab.refl lo w).setCell hp u)
theorem markStrings_any (v : Value) (ss : List ByteArray) (k : Int) (lo : Nat) (w : World) (ha : StrsO w lo v ss) (h0 : 0 < k) (h1 : k ≤ 1073741824) (h2 : ss.length ≤ 1073741824) :
    Calls Tryz.prog 76 #[v, .int .i64 k] w fun e w' => e = .returned (.int .i64 (k + ss.length)) ∧ StrsO w' lo v (marksS k ss.length) ∧ w.grownBy w' v.ownBlock := by
  rcases owns_shape ha with ⟨rfl, hn, hx⟩ | ⟨g, cap, rfl, _⟩
  · have h3 : ss = [] := List.eq_nil_of_length_eq_zero hn
    subst h3
    clear ha hn hx
    go_enter Tryz.func76, Tryz.ntmps76
    go_wp2
    go_loopw [1, 5] (fun l i wr => i = .int .i64 0 ∧ l = .int .i64 k ∧ wr = w) (fun _ i _ => 0)
    case atStart => exact ⟨rfl, rfl, rfl⟩
    case round =>
      obtain ⟨rfl, rfl, rfl⟩ := hrel
      go_wp2
      go_ret
      exact ⟨by simp, ⟨by simp [marksS], .inl ⟨by simp [marksS], rfl⟩⟩, World.grownBy.refl _ _⟩
  · refine (markStringS_any g ss.length cap ss k lo w ha h0 h1 h2).mono fun e w' h => ⟨h.1, ?_, h.2.2⟩
    unfold StrsO
    rw [marksS_length]
    exact h.2.1
theorem markInts_any (v : Value) (ss : List Int) (k : Int) (lo : Nat) (w : World) (ha : IntsO w lo v ss) (h0 : 0 < k) (h1 : k ≤ 1073741824) (h2 : ss.length ≤ 1073741824) :
    Calls Tryz.prog 51 #[v, .int .i64 k] w fun e w' => e = .returned (.int .i64 (k + ss.length)) ∧ IntsO w' lo v (marksInt k ss.length) ∧ w.grownBy w' v.ownBlock := by
  rcases owns_shape ha with ⟨rfl, hn, hx⟩ | ⟨g, cap, rfl, _⟩
  · have h3 : ss = [] := List.eq_nil_of_length_eq_zero hn
    subst h3
    clear ha hn hx
    go_enter Tryz.func51, Tryz.ntmps51
    go_wp2
    go_loopw [1, 5] (fun l i wr => i = .int .i64 0 ∧ l = .int .i64 k ∧ wr = w) (fun _ i _ => 0)
    case atStart => exact ⟨rfl, rfl, rfl⟩
    case round =>
      obtain ⟨rfl, rfl, rfl⟩ := hrel
      go_wp2
      go_ret
      exact ⟨by simp, ⟨by simp [marksInt], .inl ⟨by simp [marksInt], rfl⟩⟩, World.grownBy.refl _ _⟩
  · refine (markIntS_any g ss.length cap ss k lo w ha h0 h1 h2).mono fun e w' h => ⟨h.1, ?_, h.2.2⟩
    unfold IntsO
    rw [marksInt_length]
    exact h.2.1
end Go.Proofs.YtmdgdnkllclpcaaGreat

/- append onto a slice of the call's own, the source any slice that reads (nil too): at a plain operation and at a step of a drawn region; owned rows between two bounds (..W). No condition. -/
namespace Go.Proofs.YtmdgdnkllclpcaaGreat
open Go.RowKit
set_option linter.unusedVariables false
set_option linter.unusedSimpArgs false

theorem run_append_none_any {P : Program} {w : World} (base : Nat) (t ty e : TypeId) (i : TypeInfo) (size : Nat) (ht : P.underlying t = some (.slice e)) (hi : P.info? e = some i)
    (v : Value) (n : Nat) (xs : List Value) (hown : w.ownsRow base e size v n xs) (c : Nat) :
    (Builtin.append_ #[t, t] ty #[v, .slice none 0 c]).run P w = .ok v w := by
  rcases hown.2 with ⟨rfl, rfl⟩ | ⟨g, cap, cur, rfl, _, _, hnc, _⟩
  · simp [Builtin.append_, run_underlying ht, sizeOf, typeInfo, hi, Builtin.lenOf, Builtin.firstCells]
  · simp [Builtin.append_, run_underlying ht, sizeOf, typeInfo, hi, Builtin.lenOf, Builtin.firstCells, hnc, storeCells]
theorem run_append_rd {P : Program} (w : World) (base : Nat) (t ty e : TypeId) (i : TypeInfo) (z : Value) (size bytes : Nat) (ht : P.underlying t = some (.slice e)) (hi : P.info? e = some i) (hz : i.zero = some z)
    (hsize : i.size = size) (hby : i.bytes = bytes) (hzs : z.cells.size = size) (hsz : 0 < size)
    (v : Value) (n : Nat) (xs : List Value) (hown : w.ownsRow base e size v n xs)
    (vx : Value) (m : Nat) (news : List Value) (hr : RdS w size vx m news) (h1 : ∀ u ∈ news, u.oneCell' = true)
    (h63 : n + m ≤ maxLen) (hbytes : (n + m) * bytes ≤ 140737488355328) (hbase : base ≤ w.heap.size) :
    ∃ ao cap w', (Builtin.append_ #[t, t] ty #[v, vx]).run P w = .ok (.slice ao (n + m) cap) w' ∧ w'.ownsRow base e size (.slice ao (n + m) cap) (n + m) (xs ++ news) ∧ w.grownBy w' v.ownBlock ∧
      ((Value.slice ao (n + m) cap).ownBlock = v.ownBlock ∨ (Value.slice ao (n + m) cap).ownBlock = some w.heap.size) := by
  obtain ⟨hl, ao, c, rfl, hc1, hc2, hc3⟩ := hr
  cases ao with
  | none =>
    have hm : m = 0 := by
      rcases Nat.eq_zero_or_pos m with h | h
      · exact h
      · obtain ⟨b, o, h, _⟩ := hc3 h; cases h
    subst hm
    have hn : news = [] := List.eq_nil_of_length_eq_zero (by simpa using hl)
    subst hn
    obtain ⟨ao', cap', rfl⟩ := owns_val hown
    have hr := run_append_none_any (P := P) base t ty e i size ht hi _ n xs hown c
    refine ⟨ao', cap', w, by simpa using hr, by simpa using hown, World.grownBy.refl _ _, Or.inl (by cases ao' <;> rfl)⟩
  | some ad =>
    have hnews : ∀ j u, news[j]? = some u → w.cell? (ad.add j) = some u := by
      intro j u hj
      have hlt := (List.getElem?_eq_some_iff.1 hj).1
      have hm : 0 < m := by
        rcases Nat.eq_zero_or_pos m with h | h
        · subst h; omega
        · exact h
      obtain ⟨b, o, h, hb, hcell⟩ := hc3 hm
      cases h
      rw [Addr.add_lit, hcell j (by omega)]
      exact hj
    obtain ⟨v', w', hrun, h2, h3, h4, h5⟩ := run_append_own_at (P := P) w base t ty e i z size bytes ht hi hz hsize hby hzs hsz v n xs hown ad m c news hl hnews h1 h63 hbytes hbase
    obtain ⟨ao', cap', rfl⟩ := owns_val h2
    exact ⟨ao', cap', w', hrun, h2, h3, h5⟩
theorem wp_append_rd {P : Program} {w : World} {o : Oper} {a : Act} {K : Act → World → Prop} {Q : Exit → Act → World → Prop} (s x : Operand) (t : TypeId)
    (ho : o.op = .call { callee := .builtin .append, args := #[s, x], argTypes := #[t, t] })
    (base : Nat) (e : TypeId) (i : TypeInfo) (z : Value) (size bytes : Nat) (ht : P.underlying t = some (.slice e)) (hi : P.info? e = some i) (hz : i.zero = some z)
    (hsize : i.size = size) (hby : i.bytes = bytes) (hzs : z.cells.size = size) (hsz : 0 < size)
    (v : Value) (n : Nat) (xs : List Value) (hs : a.eval s = v) (hown : w.ownsRow base e size v n xs)
    (vx : Value) (m : Nat) (news : List Value) (hx : a.eval x = vx) (hr : RdS w size vx m news) (h1 : ∀ u ∈ news, u.oneCell' = true)
    (h63 : n + m ≤ maxLen) (hbytes : (n + m) * bytes ≤ 140737488355328) (hbase : base ≤ w.heap.size)
    (h : ∀ ao cap w', w'.ownsRow base e size (.slice ao (n + m) cap) (n + m) (xs ++ news) → w.grownBy w' v.ownBlock → ((Value.slice ao (n + m) cap).ownBlock = v.ownBlock ∨ (Value.slice ao (n + m) cap).ownBlock = some w.heap.size) → K (a.put o.dst (.slice ao (n + m) cap)) w') : o.wp P a w K Q := by
  obtain ⟨ao, cap, w', hrun, h2, h3, h4⟩ := run_append_rd (P := P) w base t o.type e i z size bytes ht hi hz hsize hby hzs hsz v n xs hown vx m news hr h1 h63 hbytes hbase
  unfold Oper.wp execOp
  simp only [ho, resolve, invoke, builtin, Sem.run_bind, Sem.run_pure, Result.andThen_ok, List.map_toArray, List.map_cons, List.map_nil, hs, hx, hrun]
  exact h ao cap w' h2 h3 h4
theorem wpList_append_rd {P : Program} {w : World} {ops : Array Oper} {rest : List Oper} {o : Oper} {a : Act} {Q : Exit → Act → World → Prop} (hgd : o.guard = none) (s x : Operand) (t : TypeId)
    (ho : o.op = .call { callee := .builtin .append, args := #[s, x], argTypes := #[t, t] })
    (base : Nat) (e : TypeId) (i : TypeInfo) (z : Value) (size bytes : Nat) (ht : P.underlying t = some (.slice e)) (hi : P.info? e = some i) (hz : i.zero = some z)
    (hsize : i.size = size) (hby : i.bytes = bytes) (hzs : z.cells.size = size) (hsz : 0 < size)
    (v : Value) (n : Nat) (xs : List Value) (hs : a.eval s = v) (hown : w.ownsRow base e size v n xs)
    (vx : Value) (m : Nat) (news : List Value) (hx : a.eval x = vx) (hr : RdS w size vx m news) (h1 : ∀ u ∈ news, u.oneCell' = true)
    (h63 : n + m ≤ maxLen) (hbytes : (n + m) * bytes ≤ 140737488355328) (hbase : base ≤ w.heap.size)
    (h : ∀ ao cap w', w'.ownsRow base e size (.slice ao (n + m) cap) (n + m) (xs ++ news) → w.grownBy w' v.ownBlock → ((Value.slice ao (n + m) cap).ownBlock = v.ownBlock ∨ (Value.slice ao (n + m) cap).ownBlock = some w.heap.size) → wpList P ops Q rest (a.put o.dst (.slice ao (n + m) cap)) w') : wpList P ops Q (o :: rest) a w :=
  wpList_plain hgd fun _ hK => wp_append_rd s x t ho base e i z size bytes ht hi hz hsize hby hzs hsz v n xs hs hown vx m news hx hr h1 h63 hbytes hbase fun ao cap w' h2 h3 h4 => hK _ _ (h ao cap w' h2 h3 h4)
theorem step_append_rd {P : Program} {w : World} {ops : Array Oper} {o : Oper} {a : Act} {K : Act → World → Prop} {Q : Exit → Act → World → Prop} {E : Prop} (hgd : o.guard = none) (s x : Operand) (t : TypeId)
    (ho : o.op = .call { callee := .builtin .append, args := #[s, x], argTypes := #[t, t] })
    (base : Nat) (e : TypeId) (i : TypeInfo) (z : Value) (size bytes : Nat) (ht : P.underlying t = some (.slice e)) (hi : P.info? e = some i) (hz : i.zero = some z)
    (hsize : i.size = size) (hby : i.bytes = bytes) (hzs : z.cells.size = size) (hsz : 0 < size)
    (v : Value) (n : Nat) (xs : List Value) (hs : a.eval s = v) (hown : w.ownsRow base e size v n xs)
    (vx : Value) (m : Nat) (news : List Value) (hx : a.eval x = vx) (hr : RdS w size vx m news) (h1 : ∀ u ∈ news, u.oneCell' = true)
    (h63 : n + m ≤ maxLen) (hbytes : (n + m) * bytes ≤ 140737488355328) (hbase : base ≤ w.heap.size)
    (h : ∀ ao cap w', w'.ownsRow base e size (.slice ao (n + m) cap) (n + m) (xs ++ news) → w.grownBy w' v.ownBlock → ((Value.slice ao (n + m) cap).ownBlock = v.ownBlock ∨ (Value.slice ao (n + m) cap).ownBlock = some w.heap.size) → K (a.put o.dst (.slice ao (n + m) cap)) w') :
    if Region.wanted o (yielded ops a.tmps) = true then Oper.wp P o a w K Q else E := by
  have hw : Region.wanted o (yielded ops a.tmps) = true := by simp [Region.wanted, hgd]
  rw [if_pos hw]
  exact wp_append_rd s x t ho base e i z size bytes ht hi hz hsize hby hzs hsz v n xs hs hown vx m news hx hr h1 h63 hbytes hbase h

theorem RdS.val {w : World} {sz : Nat} {v : Value} {n : Nat} {xs : List Value} (h : RdS w sz v n xs) : ∃ ao cap, v = .slice ao n cap ∧ (ao = none → n = 0) := by
  obtain ⟨_, ao, cap, rfl, _, _, h4⟩ := h
  refine ⟨ao, cap, rfl, fun e => ?_⟩
  rcases Nat.eq_zero_or_pos n with h | h
  · exact h
  · obtain ⟨b, o, h, _⟩ := h4 h; rw [e] at h; cases h
/-- One element that was just laid in a block of its own, as a slice of one. -/
theorem RdS.new {w : World} {X : Array Value} {T : TypeId} {sz b : Nat} (hb : b = w.heap.size) (hX : X.size = sz) : RdS (w.alloc (.cells X T)) sz (.slice (some ⟨b, 0, none⟩) 1 1) 1 X.toList := by
  subst hb
  refine ⟨by simp [hX], some ⟨w.heap.size, 0, none⟩, 1, rfl, Nat.le_refl _, by unfold maxLen; omega, fun _ => ⟨w.heap.size, 0, rfl, by simp, fun j hj => ?_⟩⟩
  rw [Nat.zero_add, World.cell?_alloc_at _ _ _ _ rfl]
  simp
theorem RdS.drew {w : World} {sz n : Nat} {v : Value} {xs : List Value} (h : RdS w sz v n xs) : RdS w.drew sz v n xs := h.fr (Fr.refl w).drew
theorem oneCells_str (l : List ByteArray) : ∀ u ∈ l.map Value.string, u.oneCell' = true := fun u hu => by obtain ⟨x, _, rfl⟩ := List.mem_map.1 hu; rfl
theorem oneCells_int (k : IntKind) (l : List Int) : ∀ u ∈ l.map (Value.int k), u.oneCell' = true := fun u hu => by obtain ⟨x, _, rfl⟩ := List.mem_map.1 hu; rfl
theorem oneCells_bool (l : List Bool) : ∀ u ∈ l.map Value.bool, u.oneCell' = true := fun u hu => by obtain ⟨x, _, rfl⟩ := List.mem_map.1 hu; rfl
/-- Where the row lies behind an append. -/
theorem RowIn.at {lo hi hi' H : Nat} {v v' : Value} (h : RowIn lo hi v) (hat : v'.ownBlock = v.ownBlock ∨ v'.ownBlock = some H) (h1 : lo ≤ H) (h2 : H < hi') (h3 : hi ≤ hi') : RowIn lo hi' v' := by
  intro k hk
  rcases hat with e | e
  · rw [e] at hk; have := h k hk; omega
  · rw [e] at hk; cases hk; omega
theorem RowIn.nil (lo hi n c : Nat) : RowIn lo hi (.slice none n c) := fun _ h => by simp [Value.ownBlock] at h

theorem made_empty {w : World} {lo b sz : Nat} {e : TypeId} (hb : b = w.heap.size) (hl : lo ≤ b) : (w.alloc (.cells #[] e)).ownsRow lo e sz (.slice (some ⟨b, 0, none⟩) 0 0) 0 [] := by
  subst hb
  exact World.ownsRow_made w #[] 0 hl (Nat.zero_le _) (by simp)
/-- Behind an append to a row that lies above: nothing old has turned. -/
theorem Fr.app {a w w' : World} {v : Value} (h : Fr a w) (hg : w.grownBy w' v.ownBlock) {lo hi : Nat} (hr : RowIn lo hi v) (hl : a.heap.size ≤ lo) : Fr a w' := h.grown hg (fun k hk => by have := hr k hk; omega)
theorem RowIn.one {b lo hi n c : Nat} (h1 : lo ≤ b) (h2 : b < hi) : RowIn lo hi (.slice (some ⟨b, 0, none⟩) n c) := by
  intro k hk
  have : b = k := by simpa [Value.ownBlock] using hk
  omega
theorem owns_far {w : World} {b : Nat} {e : TypeId} {sz : Nat} {v : Value} {n : Nat} {xs : List Value} (h : w.ownsRow b e sz v n xs) {p : Addr} (hp : v.ownBlock ≠ some p.block) (u : Value) : (w.setCell p u).ownsRow b e sz v n xs := by
  obtain ⟨h1, h2 | ⟨g, cap, cur, hv, hg, hh, hr⟩⟩ := h
  · exact ⟨h1, .inl h2⟩
  · refine ⟨h1, .inr ⟨g, cap, cur, hv, hg, ?_, hr⟩⟩
    rw [heap_setCell_other w p g u (by rintro rfl; exact hp (by rw [hv]; rfl))]
    exact hh
/-- A row that lies in [lo, H) or in block H is in no block of [H', ..) but H. -/
theorem ne_block {lo hi H : Nat} {v v' : Value} (h : RowIn lo hi v) (hat : v'.ownBlock = v.ownBlock ∨ v'.ownBlock = some H) (p : Nat) (hp : hi ≤ p ∨ p < lo) (hq : p ≠ H) : v'.ownBlock ≠ some p := by
  intro e
  rcases hat with h1 | h1
  · rw [h1] at e; have := h p e; omega
  · rw [h1] at e; cases e; exact hq rfl
/-- 'Fr' under a name of its own, for what a drawn region holds throughout: the search for 'Fr' then does not meet it. -/
def Sf (a w : World) : Prop := Fr a w
theorem Sf.out {a w : World} (h : Sf a w) : Fr a w := h
theorem Sf.mk {a w : World} (h : Fr a w) : Sf a w := h
theorem Span.app {lo hi : Nat} {a w w' : World} {row : Option Nat} (h : Span lo hi a w) (hg : w.grownBy w' row) (hr : ∀ k, row = some k → (lo ≤ k ∧ k < hi) ∨ a.heap.size ≤ k) : Span lo hi a w' :=
  ⟨hg.os.trans h.os, hg.tape.trans h.tape, hg.output.trans h.output, Nat.le_trans h.size hg.size, fun k hk ho => (hg.block k (Nat.lt_of_lt_of_le hk h.size) (fun e => by have := hr k e.symm; omega)).trans (h.block k hk ho)⟩
/-- 'Span' under a name of its own, for what a drawn region holds throughout. -/
def Ss (lo hi : Nat) (a w : World) : Prop := Span lo hi a w
theorem Ss.out {lo hi : Nat} {a w : World} (h : Ss lo hi a w) : Span lo hi a w := h
theorem Ss.mk {lo hi : Nat} {a w : World} (h : Span lo hi a w) : Ss lo hi a w := h
/-- A slice of the call's own whose row lies in [lo, hi). -/
def OwW (w : World) (lo hi : Nat) (e : TypeId) (sz : Nat) (v : Value) (n : Nat) (xs : List Value) : Prop := w.ownsRow lo e sz v n xs ∧ RowIn lo hi v
section
variable {w w' : World} {lo hi n sz : Nat} {e : TypeId} {v : Value} {xs : List Value}
theorem OwW.fr (h : OwW w lo hi e sz v n xs) (hf : Fr w w') : OwW w' lo hi e sz v n xs := ⟨owns_fr h.1 hf, h.2⟩
theorem OwW.ab (h : OwW w lo hi e sz v n xs) (hf : Ab lo w w') : OwW w' lo hi e sz v n xs := ⟨owns_ab h.1 hf, h.2⟩
theorem OwW.span (h : OwW w lo hi e sz v n xs) {a b : Nat} (s : Span a b w w') (hd : hi ≤ a ∨ b ≤ lo) : OwW w' lo hi e sz v n xs :=
  ⟨s.owns h.1 (fun g hg => by have := h.2 g hg; omega), h.2⟩
theorem OwW.set (h : OwW w lo hi e sz v n xs) {p : Addr} (hp : p.block < lo ∨ hi ≤ p.block) (u : Value) : OwW (w.setCell p u) lo hi e sz v n xs :=
  ⟨owns_far h.1 (fun e => by have := h.2 _ e; omega) u, h.2⟩
theorem OwW.drew (h : OwW w lo hi e sz v n xs) : OwW w.drew lo hi e sz v n xs := ⟨World.ownsRow.drew h.1, h.2⟩
theorem OwW.drewN (h : OwW w lo hi e sz v n xs) (m : Nat) : OwW (w.drewN m) lo hi e sz v n xs := h.fr ((Fr.refl _).drewN m)
theorem OwW.alloc (h : OwW w lo hi e sz v n xs) (o : Obj) : OwW (w.alloc o) lo hi e sz v n xs := h.fr ((Fr.refl _).alloc o)
theorem OwW.rd (h : OwW w lo hi e sz v n xs) : RdS w sz v n xs := RdS.of_owns h.1
theorem OwW.val (h : OwW w lo hi e sz v n xs) : ∃ ao cap, v = .slice ao n cap := owns_val h.1
theorem OwW.mono (h : OwW w lo hi e sz v n xs) {lo' hi' : Nat} (h1 : lo' ≤ lo) (h2 : hi ≤ hi') : OwW w lo' hi' e sz v n xs := ⟨owns_lo h.1 h1, h.2.mono h1 h2⟩
theorem OwW.of_owns (h : w.ownsRow lo e sz v n xs) : OwW w lo w.heap.size e sz v n xs := ⟨h, RowIn.of_owns h⟩
end
theorem OwW.nil (w : World) (lo hi : Nat) (e : TypeId) (sz : Nat) : OwW w lo hi e sz (.slice none 0 0) 0 [] := ⟨World.ownsRow_nil _ _ _ _, RowIn.nil _ _ _ _⟩

/-! ### a row of structs that is written over, element by element -/
def partR {α : Type} (new old : List α) (f : α → List Value) (m : Nat) : List Value := (new.take m).flatMap f ++ (old.drop m).flatMap f
theorem partR_zero {α : Type} (new old : List α) (f : α → List Value) : partR new old f 0 = old.flatMap f := by simp [partR]
theorem partR_all {α : Type} (new old : List α) (f : α → List Value) (m : Nat) (h1 : new.length = m) (h2 : old.length = m) : partR new old f m = new.flatMap f := by
  unfold partR
  rw [List.take_of_length_le (by omega), List.drop_of_length_le (by omega)]
  simp
theorem partR_split {α : Type} [Inhabited α] (new old : List α) (f : α → List Value) (m : Nat) (hm : m < old.length) : partR new old f m = (new.take m).flatMap f ++ f (old.getD m default) ++ (old.drop (m + 1)).flatMap f := by
  unfold partR
  rw [List.drop_eq_getElem_cons hm, List.flatMap_cons, List.append_assoc]
  simp [List.getD, List.getElem?_eq_getElem hm]
theorem partR_next {α : Type} [Inhabited α] (new old : List α) (f : α → List Value) (m : Nat) (hm : m < new.length) : partR new old f (m + 1) = (new.take m).flatMap f ++ f (new.getD m default) ++ (old.drop (m + 1)).flatMap f := by
  unfold partR
  rw [List.take_succ_eq_append_getElem hm, List.flatMap_append]
  simp [List.getD, List.getElem?_eq_getElem hm]
end Go.Proofs.YtmdgdnkllclpcaaGreat
