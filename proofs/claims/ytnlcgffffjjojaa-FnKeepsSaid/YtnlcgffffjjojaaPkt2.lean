/- Packets as bytes; the laws on them. No condition but the bound of a text that the reading gives. -/
import Derived.Test.YtnlcgffffjjojaaPkt
namespace Go.Proofs.Ytnlcgffffjjojaa
open Go.RowKit
set_option linter.unusedVariables false
set_option linter.unusedSimpArgs false

def pktT (e f t q a : Int) (s : ByteArray) : ByteArray := vText e ++ strOfNums [f, t] ++ vText q ++ vText a ++ s
def pktR (e f t q a : Int) (s : ByteArray) : ByteArray := if pktB e f t q a s then sealedT (pktT e f t q a s) else ByteArray.empty
theorem pktR_ok {e f t q a : Int} {s : ByteArray} (h : pktB e f t q a s = true) : pktR e f t q a s = sealedT (pktT e f t q a s) := if_pos h
theorem pktR_no {e f t q a : Int} {s : ByteArray} (h : pktB e f t q a s = false) : pktR e f t q a s = ByteArray.empty := if_neg (by simp [h])
theorem pktB_bounds {e f t q a : Int} {s : ByteArray} (h : pktB e f t q a s = true) : 1 ≤ e ∧ e ≤ 100000 ∧ 0 ≤ f ∧ f ≤ 8 ∧ 0 ≤ t ∧ t ≤ 8 ∧ 0 ≤ q ∧ q ≤ 200 ∧ 0 ≤ a ∧ a ≤ 200 ∧ s.size ≤ 6000 := by
  unfold pktB at h
  rw [Bool.and_eq_true, decide_eq_true_eq] at h
  obtain ⟨⟨h1, h2, h3, h4, h5, h6, h7, h8, h9, h10, h11⟩, h12⟩ := h
  refine ⟨h1, h2, h3, h4, h5, h6, h8, h9, h10, h11, ?_⟩
  split at h12
  · have := of_decide_eq_true h12; omega
  · have := of_decide_eq_true h12; omega
theorem vText_le (n : Int) (h : n < 1099511627776) : (vText n).size ≤ 6 := by rw [vText_size]; exact varL_len40 _ (by omega)
theorem pktT_size {e f t q a : Int} {s : ByteArray} (h : pktB e f t q a s = true) : (pktT e f t q a s).size ≤ 6020 := by
  obtain ⟨h1, h2, h3, h4, h5, h6, h8, h9, h10, h11, h12⟩ := pktB_bounds h
  have e1 := vText_le e (by omega)
  have e2 := vText_le q (by omega)
  have e3 := vText_le a (by omega)
  have e4 : (strOfNums [f, t]).size = 2 := by rw [strOfNums_size]; rfl
  unfold pktT
  simp only [ByteArray.size_append]
  omega

set_option maxRecDepth 100000 in
theorem implPacketText_any (e f t q a : Int) (s : ByteArray) (w : World) :
    Calls Try.prog 18 #[.agg #[.int .i64 e, .int .i64 f, .int .i64 t, .int .i64 q, .int .i64 a, .string s]] w fun e' w' => e' = .returned (.tuple #[.string (pktR e f t q a s), .bool (pktB e f t q a s)]) ∧ Fr w w' := by
  have hcv := fun (a b : Int) (w : World) => conv_lit [a, b] w 2 rfl
  simp only [List.map_cons, List.map_nil] at hcv
  cases hb : pktB e f t q a s
  · have HR := Lib.hid (pktR_no hb)
    go_enter Try.func18, Try.ntmps18
    go_wp2_with (go_at_call 50; refine (implPacketOk_any _ _ _ _ _ _ _).mono ?_; rintro e w1 ⟨rfl, hf1⟩; have k0 := hf1.blk w.heap.size (by (first | (with_reducible assumption) | omega | (simp only [World.size_alloc, World.size_setCell, World.size_drew, World.heap_drewN]; omega) | (simp; done) | (simp; omega))))
    go_ret2
    exact ⟨ret_sb HR.out.symm rfl, by repeat (first | (with_reducible exact Fr.refl _) | (with_reducible assumption) | (with_reducible refine Fr.drewN ?_ _) | (with_reducible refine Fr.drew ?_) | (with_reducible refine Fr.alloc ?_ _) | (with_reducible refine Fr.setCell ?_ (by (first | (with_reducible assumption) | omega | (simp only [World.size_alloc, World.size_setCell, World.size_drew, World.heap_drewN]; omega) | (simp; done) | (simp; omega))) _) | (with_reducible refine Fr.trans ?_ (by with_reducible assumption)))⟩
  · have HR := Lib.hid (pktR_ok hb)
    obtain ⟨h1, h2, h3, h4, h5, h6, h8, h9, h10, h11, h12⟩ := pktB_bounds hb
    have hsz := pktT_size hb
    have e1 := vText_le e (by omega)
    have e2 := vText_le q (by omega)
    have e3 := vText_le a (by omega)
    have e4 : (strOfNums [f, t]).size ≤ 2 := by rw [strOfNums_size]; exact Nat.le_refl _
    go_enter Try.func18, Try.ntmps18
    go_wp2_with fail
    refine (implPacketOk_any _ _ _ _ _ _ _).mono ?_
    rintro e0 w1 ⟨rfl, hf1⟩
    have k0 := hf1.blk w.heap.size (by (first | (with_reducible assumption) | omega | (simp only [World.size_alloc, World.size_setCell, World.size_drew, World.heap_drewN]; omega) | (simp; done) | (simp; omega))); have z1 := hf1.size; (try simp only [World.size_alloc, World.size_setCell, World.size_drew] at z1)
    go_wp2_with fail
    have r0 : ∀ w', Fr w1 w' → ∀ o, w'.cell? ⟨w.heap.size, o, none⟩ = _ := fun w' h o => Fr.box (hf1.trans h) o
    have q1 : ¬ 9223372036854775807 < (vText e).size + (strOfNums [f, t]).size := by omega
    have q2 : ¬ 9223372036854775807 < (vText e).size + (strOfNums [f, t]).size + (vText q).size := by omega
    have q3 : ¬ 9223372036854775807 < (vText e).size + (strOfNums [f, t]).size + (vText q).size + (vText a).size := by omega
    have q4 : ¬ 9223372036854775807 < (vText e).size + (strOfNums [f, t]).size + (vText q).size + (vText a).size + s.size := by omega
    go_region_held3 (fun w' => Fr w1 w') (repeat (first | (with_reducible exact Fr.refl _) | (with_reducible assumption) | (with_reducible refine Fr.drewN ?_ _) | (with_reducible refine Fr.drew ?_) | (with_reducible refine Fr.alloc ?_ _) | (with_reducible refine Fr.setCell ?_ (by (first | (with_reducible assumption) | omega | (simp only [World.size_alloc, World.size_setCell, World.size_drew, World.heap_drewN]; omega) | (simp; done) | (simp; omega))) _) | (with_reducible refine Fr.trans ?_ (by with_reducible assumption)))) (first | (go_at_call 91; refine (varText_any _ _ (by omega) (by omega)).mono ?_; rintro e0 w2 ⟨rfl, hf2⟩) | (go_at_call 90; refine (implSealed_any (pktT e f t q a s) _ (by omega)).mono ?_; rintro e0 w3 ⟨rfl, hf3⟩))
    go_wp2
    go_ret2
    exact ⟨ret_sb HR.out.symm rfl, by repeat (first | (with_reducible exact Fr.refl _) | (with_reducible assumption) | (with_reducible refine Fr.drewN ?_ _) | (with_reducible refine Fr.drew ?_) | (with_reducible refine Fr.alloc ?_ _) | (with_reducible refine Fr.setCell ?_ (by (first | (with_reducible assumption) | omega | (simp only [World.size_alloc, World.size_setCell, World.size_drew, World.heap_drewN]; omega) | (simp; done) | (simp; omega))) _) | (with_reducible refine Fr.trans ?_ (by with_reducible assumption)))⟩
theorem toPacketA_any (e f t q a : Int) (s : ByteArray) (w : World) :
    Calls Try.prog 17 #[.agg #[.int .i64 e, .int .i64 f, .int .i64 t, .int .i64 q, .int .i64 a, .string s]] w fun e' w' => e' = .returned (.agg #[.int .i64 e, .int .i64 f, .int .i64 t, .int .i64 q, .int .i64 a, .string s]) ∧ Fr w w' := by
  go_enter Try.func17, Try.ntmps17
  go_wp2
  exact bodyPost_ret (v := .agg #[.int .i64 e, .int .i64 f, .int .i64 t, .int .i64 q, .int .i64 a, .string s]) (by simp [results, Try.results17, go_sem]) rfl ⟨rfl, by repeat (first | (with_reducible exact Fr.refl _) | (with_reducible assumption) | (with_reducible refine Fr.drewN ?_ _) | (with_reducible refine Fr.drew ?_) | (with_reducible refine Fr.alloc ?_ _) | (with_reducible refine Fr.setCell ?_ (by (first | (with_reducible assumption) | omega | (simp only [World.size_alloc, World.size_setCell, World.size_drew, World.heap_drewN]; omega) | (simp; done) | (simp; omega))) _) | (with_reducible refine Fr.trans ?_ (by with_reducible assumption)))⟩
set_option maxRecDepth 100000 in
theorem szPacketA_any (e f t q a : Int) (s : ByteArray) (left : Int) (w : World) (h0 : 0 ≤ left) (h1 : left ≤ 1048576) (ht : s.size ≤ maxLen) :
    Calls Try.prog 15 #[.agg #[.int .i64 e, .int .i64 f, .int .i64 t, .int .i64 q, .int .i64 a, .string s], .int .i64 left] w fun e' w' => e' = .returned (.int .i64 (szR left s.size)) ∧ Fr w w' := by
  unfold maxLen at ht
  by_cases hl : (s.size : Int) ≤ left
  · have hr := szR_ok hl
    go_enter Try.func15, Try.ntmps15
    go_wp2
    go_ret
    exact ⟨ret_int (by first | rfl | exact hr.symm), by repeat (first | (with_reducible exact Fr.refl _) | (with_reducible assumption) | (with_reducible refine Fr.drewN ?_ _) | (with_reducible refine Fr.drew ?_) | (with_reducible refine Fr.alloc ?_ _) | (with_reducible refine Fr.setCell ?_ (by (first | (with_reducible assumption) | omega | (simp only [World.size_alloc, World.size_setCell, World.size_drew, World.heap_drewN]; omega) | (simp; done) | (simp; omega))) _) | (with_reducible refine Fr.trans ?_ (by with_reducible assumption)))⟩
  · have hr := szR_no hl
    go_enter Try.func15, Try.ntmps15
    go_wp2
    go_ret
    exact ⟨ret_int (by first | rfl | exact hr.symm), by repeat (first | (with_reducible exact Fr.refl _) | (with_reducible assumption) | (with_reducible refine Fr.drewN ?_ _) | (with_reducible refine Fr.drew ?_) | (with_reducible refine Fr.alloc ?_ _) | (with_reducible refine Fr.setCell ?_ (by (first | (with_reducible assumption) | omega | (simp only [World.size_alloc, World.size_setCell, World.size_drew, World.heap_drewN]; omega) | (simp; done) | (simp; omega))) _) | (with_reducible refine Fr.trans ?_ (by with_reducible assumption)))⟩
end Go.Proofs.Ytnlcgffffjjojaa
