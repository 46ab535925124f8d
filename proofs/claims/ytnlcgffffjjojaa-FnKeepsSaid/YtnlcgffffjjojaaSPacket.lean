/- The struct Packet and slices of it: what they read as; the laws' helpers. No condition but the sizes that the reading gives. (Printed by mk_structs.py.) -/
import Derived.Test.YtnlcgffffjjojaaStr
import Derived.Test.YtnlcgffffjjojaaOk
import Derived.Deep.QuietTactic
import Derived.BigQuiet
import Derived.Deep.RegionHeld3
namespace Go.Proofs.Ytnlcgffffjjojaa
open Go.RowKit
set_option linter.unusedVariables false
set_option linter.unusedSimpArgs false

structure PacketR where
  f0 : Int
  f1 : Int
  f2 : Int
  f3 : Int
  f4 : Int
  f5 : ByteArray
instance : Inhabited PacketR := ⟨⟨default, default, default, default, default, ByteArray.empty⟩⟩
def PacketR.cells (x : PacketR) : List Value := [.int .i64 x.f0, .int .i64 x.f1, .int .i64 x.f2, .int .i64 x.f3, .int .i64 x.f4, .string x.f5]
theorem PacketR.cells_length (x : PacketR) : x.cells.length = 6 := rfl
def packetAt (l : List PacketR) (k : Nat) : PacketR := l.getD k default
theorem PacketR.ext' {x y : PacketR} (h0 : x.f0 = y.f0) (h1 : x.f1 = y.f1) (h2 : x.f2 = y.f2) (h3 : x.f3 = y.f3) (h4 : x.f4 = y.f4) (h5 : x.f5 = y.f5) : x = y := by cases x; cases y; simp_all

def PacketsR (w : World) (v : Value) (xs : List PacketR) : Prop := RdS w 6 v xs.length (xs.flatMap PacketR.cells)
theorem PacketsR.fr {w w' : World} {v : Value} {xs : List PacketR} (h : PacketsR w v xs) (hf : Fr w w') : PacketsR w' v xs := RdS.fr h hf
theorem PacketsR.le {w : World} {v : Value} {xs : List PacketR} (h : PacketsR w v xs) : xs.length ≤ 9223372036854775807 := RdS.le h
theorem packet_flat (xs : List PacketR) (k j : Nat) (hk : k < xs.length) (hj : j < 6) (d : Value) : (xs.flatMap PacketR.cells).getD (k * 6 + j) d = (packetAt xs k).cells.getD j d := by
  induction xs generalizing k with
  | nil => simp at hk
  | cons x xs ih =>
    rw [List.flatMap_cons]
    cases k with
    | zero => simp [List.getD, List.getElem?_append_left (show j < x.cells.length by rw [PacketR.cells_length]; exact hj), packetAt]
    | succ k =>
      have := ih k (by simpa using hk)
      simp only [List.getD] at this ⊢
      rw [List.getElem?_append_right (by rw [PacketR.cells_length]; omega), show (k + 1) * 6 + j - x.cells.length = k * 6 + j by rw [PacketR.cells_length]; omega, this]
      simp [packetAt]
theorem PacketsR.one {w : World} {v : Value} {xs : List PacketR} (h : PacketsR w v xs) :
    ∃ ao b o cap, v = .slice ao xs.length cap ∧ xs.length ≤ cap ∧ cap ≤ 9223372036854775807 ∧ (0 < xs.length → ao = some ⟨b, o, none⟩ ∧ b < w.heap.size ∧ ∀ k, k < xs.length → w.cell? ⟨b, o + k * 6, none⟩ = some (.int .i64 (packetAt xs k).f0) ∧ w.cell? ⟨b, o + k * 6 + 1, none⟩ = some (.int .i64 (packetAt xs k).f1) ∧ w.cell? ⟨b, o + k * 6 + 2, none⟩ = some (.int .i64 (packetAt xs k).f2) ∧ w.cell? ⟨b, o + k * 6 + 3, none⟩ = some (.int .i64 (packetAt xs k).f3) ∧ w.cell? ⟨b, o + k * 6 + 4, none⟩ = some (.int .i64 (packetAt xs k).f4) ∧ w.cell? ⟨b, o + k * 6 + 5, none⟩ = some (.string (packetAt xs k).f5)) := by
  obtain ⟨ao, b, o, cap, h1, h2, h3, h4⟩ := RdS.one h undef
  refine ⟨ao, b, o, cap, h1, h2, h3, fun hn => ⟨(h4 hn).1, (h4 hn).2.1, fun k hk => ?_⟩⟩
  have hc := (h4 hn).2.2
  exact ⟨by have := hc (k * 6 + 0) (by omega); rw [packet_flat xs k 0 hk (by omega)] at this; exact this, by have := hc (k * 6 + 1) (by omega); rw [packet_flat xs k 1 hk (by omega)] at this; exact this, by have := hc (k * 6 + 2) (by omega); rw [packet_flat xs k 2 hk (by omega)] at this; exact this, by have := hc (k * 6 + 3) (by omega); rw [packet_flat xs k 3 hk (by omega)] at this; exact this, by have := hc (k * 6 + 4) (by omega); rw [packet_flat xs k 4 hk (by omega)] at this; exact this, by have := hc (k * 6 + 5) (by omega); rw [packet_flat xs k 5 hk (by omega)] at this; exact this⟩

theorem toPacket_any (x : PacketR) (w : World) :
    Calls Try.prog 17 #[.agg #[.int .i64 x.f0, .int .i64 x.f1, .int .i64 x.f2, .int .i64 x.f3, .int .i64 x.f4, .string x.f5]] w fun e w' => e = .returned (.agg #[.int .i64 x.f0, .int .i64 x.f1, .int .i64 x.f2, .int .i64 x.f3, .int .i64 x.f4, .string x.f5]) ∧ Fr w w' := by
  go_enter Try.func17, Try.ntmps17
  go_wp2
  exact bodyPost_ret (v := .agg #[.int .i64 x.f0, .int .i64 x.f1, .int .i64 x.f2, .int .i64 x.f3, .int .i64 x.f4, .string x.f5]) (by simp [results, Try.results17, go_sem]) rfl ⟨rfl, by repeat (first | (with_reducible exact Fr.refl _) | (with_reducible assumption) | (with_reducible refine Fr.drewN ?_ _) | (with_reducible refine Fr.drew ?_) | (with_reducible refine Fr.alloc ?_ _) | (with_reducible refine Fr.setCell ?_ (by (first | (with_reducible assumption) | omega | (simp only [World.size_alloc, World.size_setCell, World.size_drew, World.heap_drewN]; omega) | (simp; done) | (simp; omega))) _) | (with_reducible refine Fr.trans ?_ (by with_reducible assumption)))⟩


def PacketR.bulk (x : PacketR) : Nat := x.f5.size
def PacketR.okSize (x : PacketR) : Prop := x.f5.size ≤ maxLen
set_option maxRecDepth 100000 in
theorem szPacket_any (x : PacketR) (left : Int) (w : World) (hx : x.okSize) (h0 : 0 ≤ left) (h1 : left ≤ 1048576) :
    Calls Try.prog 15 #[.agg #[.int .i64 x.f0, .int .i64 x.f1, .int .i64 x.f2, .int .i64 x.f3, .int .i64 x.f4, .string x.f5], .int .i64 left] w fun e w' => e = .returned (.int .i64 (szR left x.bulk)) ∧ Fr w w' := by
  unfold PacketR.okSize maxLen at hx
  by_cases c0 : (x.f5.size : Int) ≤ left
  · have hr : szR left x.bulk = left - x.bulk := szR_ok (by unfold PacketR.bulk; omega)
    have hb : (x.bulk : Int) = (x.f5.size : Int) := by unfold PacketR.bulk; omega
    go_enter Try.func15, Try.ntmps15
    go_wp2
    go_ret
    exact ⟨ret_int (by rw [szR_ok (by omega)]; omega), by repeat (first | (with_reducible exact Fr.refl _) | (with_reducible assumption) | (with_reducible refine Fr.drewN ?_ _) | (with_reducible refine Fr.drew ?_) | (with_reducible refine Fr.alloc ?_ _) | (with_reducible refine Fr.setCell ?_ (by (first | (with_reducible assumption) | omega | (simp only [World.size_alloc, World.size_setCell, World.size_drew, World.heap_drewN]; omega) | (simp; done) | (simp; omega))) _) | (with_reducible refine Fr.trans ?_ (by with_reducible assumption)))⟩
  · go_enter Try.func15, Try.ntmps15
    go_wp2
    go_ret
    exact ⟨ret_int (by rw [szR_no (by unfold PacketR.bulk; omega)]), by repeat (first | (with_reducible exact Fr.refl _) | (with_reducible assumption) | (with_reducible refine Fr.drewN ?_ _) | (with_reducible refine Fr.drew ?_) | (with_reducible refine Fr.alloc ?_ _) | (with_reducible refine Fr.setCell ?_ (by (first | (with_reducible assumption) | omega | (simp only [World.size_alloc, World.size_setCell, World.size_drew, World.heap_drewN]; omega) | (simp; done) | (simp; omega))) _) | (with_reducible refine Fr.trans ?_ (by with_reducible assumption)))⟩

theorem info_Packet : (Try.prog.info? 27).map (fun i => (i.zero, i.size, i.bytes)) = some (some (.agg #[.int .i64 0, .int .i64 0, .int .i64 0, .int .i64 0, .int .i64 0, .string ⟨#[]⟩]), 6, 56) := by kernel_rfl
def PacketsO (w : World) (lo : Nat) (v : Value) (xs : List PacketR) : Prop := w.ownsRow lo 27 6 v xs.length (xs.flatMap PacketR.cells)
theorem PacketsO.rd {w : World} {lo : Nat} {v : Value} {xs : List PacketR} (h : PacketsO w lo v xs) : PacketsR w v xs := RdS.of_owns h
theorem PacketsO.val {w : World} {lo : Nat} {v : Value} {xs : List PacketR} (h : PacketsO w lo v xs) : ∃ ao cap, v = .slice ao xs.length cap := owns_val h
theorem PacketsO.fr {w w' : World} {lo : Nat} {v : Value} {xs : List PacketR} (h : PacketsO w lo v xs) (hf : Fr w w') : PacketsO w' lo v xs := owns_fr h hf
def sumPacket (xs : List PacketR) (k : Nat) : Nat := ((xs.take k).map PacketR.bulk).sum
theorem sumPacket_succ (xs : List PacketR) (k : Nat) (h : k < xs.length) : sumPacket xs (k + 1) = sumPacket xs k + (packetAt xs k).bulk := by
  unfold sumPacket packetAt
  rw [List.take_succ_eq_append_getElem h, List.map_append, List.sum_append]
  simp [List.getD, List.getElem?_eq_getElem h]
theorem sumPacket_le (xs : List PacketR) (k : Nat) : sumPacket xs k ≤ sumPacket xs xs.length := by
  unfold sumPacket
  rw [List.take_length]
  conv => rhs; rw [← List.take_append_drop k xs]
  rw [List.map_append, List.sum_append]
  omega
def PacketsBulk (xs : List PacketR) : Nat := xs.length + sumPacket xs xs.length
theorem packet_mem {xs : List PacketR} {p : PacketR → Prop} (h : ∀ x ∈ xs, p x) (k : Nat) (hk : k < xs.length) : p (packetAt xs k) := by
  have := h xs[k] (List.getElem_mem hk)
  simpa [packetAt, List.getD, List.getElem?_eq_getElem hk] using this



end Go.Proofs.Ytnlcgffffjjojaa
