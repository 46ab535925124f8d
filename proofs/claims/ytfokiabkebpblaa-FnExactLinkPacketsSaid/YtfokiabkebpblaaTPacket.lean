/- Marks of slices of Packet; their interface. (Printed by mk_types.py.) No condition but the sizes that the reading gives. -/
import Derived.Test.YtfokiabkebpblaaSPacket
import Derived.Test.YtfokiabkebpblaaApp
namespace Go.Proofs.Ytfokiabkebpblaa
open Go.RowKit
set_option linter.unusedVariables false
set_option linter.unusedSimpArgs false

def mkPacket (k : Int) : PacketR := ⟨k, (k + 1), (k + 1 + 1), (k + 1 + 1 + 1), (k + 1 + 1 + 1 + 1), mTextI (k + 1 + 1 + 1 + 1 + 1)⟩
def mkPackets (k : Int) (n : Nat) : List PacketR := (List.range n).map fun i : Nat => mkPacket (k + 6 * i)
theorem mkPackets_length (k : Int) (n : Nat) : (mkPackets k n).length = n := by simp [mkPackets]
theorem mkPackets_at (k : Int) (n j : Nat) (h : j < n) : packetAt (mkPackets k n) j = mkPacket (k + 6 * j) := by simp [mkPackets, packetAt, List.getD, h]
theorem packet_oneCells (xs : List PacketR) : ∀ u ∈ xs.flatMap PacketR.cells, u.oneCell' = true := by
  intro u hu
  obtain ⟨x, _, h⟩ := List.mem_flatMap.1 hu
  simp only [PacketR.cells, List.mem_cons, List.not_mem_nil, or_false] at h
  rcases h with rfl | rfl | rfl | rfl | rfl | rfl <;> rfl
def PacketsW (w : World) (lo hi : Nat) (v : Value) (xs : List PacketR) : Prop := OwW w lo hi 39 6 v xs.length (xs.flatMap PacketR.cells)
theorem PacketsW.rd {w : World} {lo hi : Nat} {v : Value} {xs : List PacketR} (h : PacketsW w lo hi v xs) : PacketsR w v xs := OwW.rd h
theorem PacketsW.val {w : World} {lo hi : Nat} {v : Value} {xs : List PacketR} (h : PacketsW w lo hi v xs) : ∃ ao cap, v = .slice ao xs.length cap := OwW.val h
theorem PacketsW.fr {w w' : World} {lo hi : Nat} {v : Value} {xs : List PacketR} (h : PacketsW w lo hi v xs) (hf : Fr w w') : PacketsW w' lo hi v xs := OwW.fr h hf
theorem PacketsW.span {w w' : World} {lo hi : Nat} {v : Value} {xs : List PacketR} (h : PacketsW w lo hi v xs) {a b : Nat} (s : Span a b w w') (hd : hi ≤ a ∨ b ≤ lo) : PacketsW w' lo hi v xs := OwW.span h s hd
theorem PacketsW.nil (w : World) (lo hi : Nat) : PacketsW w lo hi (.slice none 0 0) [] := OwW.nil _ _ _ _ _
theorem packet_part (new old : List PacketR) (m : Nat) (hm : m < old.length) (hl : new.length = old.length) : (((((((partR new old PacketR.cells m).set (m * 6) (Value.int .i64 (packetAt new m).f0)).set (m * 6 + 1) (Value.int .i64 (packetAt new m).f1)).set (m * 6 + 2) (Value.int .i64 (packetAt new m).f2)).set (m * 6 + 3) (Value.int .i64 (packetAt new m).f3)).set (m * 6 + 4) (Value.int .i64 (packetAt new m).f4)).set (m * 6 + 5) (Value.string (packetAt new m).f5)) = partR new old PacketR.cells (m + 1) := by
  rw [partR_split new old PacketR.cells m hm]
  have ha : ((new.take m).flatMap PacketR.cells).length = m * 6 := flat_len new PacketR.cells 6 PacketR.cells_length m (by omega)
  rw [set_mid _ _ _ 0 _ (by rw [ha]; rfl) (by rw [PacketR.cells_length]; omega)]
  rw [set_mid _ _ _ 1 _ (by rw [ha]) (by simp only [List.length_set]; rw [PacketR.cells_length]; omega)]
  rw [set_mid _ _ _ 2 _ (by rw [ha]) (by simp only [List.length_set]; rw [PacketR.cells_length]; omega)]
  rw [set_mid _ _ _ 3 _ (by rw [ha]) (by simp only [List.length_set]; rw [PacketR.cells_length]; omega)]
  rw [set_mid _ _ _ 4 _ (by rw [ha]) (by simp only [List.length_set]; rw [PacketR.cells_length]; omega)]
  rw [set_mid _ _ _ 5 _ (by rw [ha]) (by simp only [List.length_set]; rw [PacketR.cells_length]; omega)]
  rw [partR_next new old PacketR.cells m (by omega)]
  rfl
set_option maxHeartbeats 1000000 in
set_option maxRecDepth 100000 in
theorem markPacketS_any (g n cap : Nat) (xs : List PacketR) (k : Int) (lo : Nat) (w : World) (ha : w.ownsRow lo 39 6 (.slice (some ⟨g, 0, none⟩) n cap) n (xs.flatMap PacketR.cells)) (hn : xs.length = n) (h0 : 0 < k) (h1 : k + 6 * n ≤ 1073741824) :
    Calls Try.prog 61 #[.slice (some ⟨g, 0, none⟩) n cap, .int .i64 k] w fun e w' => e = .returned (.int .i64 (k + 6 * n)) ∧ w'.ownsRow lo 39 6 (.slice (some ⟨g, 0, none⟩) n cap) n ((mkPackets k n).flatMap PacketR.cells) ∧ w.grownBy w' (some g) := by
  have hg0 : g < w.heap.size := (ha.lt g rfl).2
  go_enter Try.func61, Try.ntmps61
  go_wp2
  go_loopw [1, 5] (fun l i wr => ∃ m : Nat, m ≤ n ∧ i = .int .i64 m ∧ l = .int .i64 (k + 6 * m) ∧ wr.ownsRow lo 39 6 (.slice (some ⟨g, 0, none⟩) n cap) n (partR (mkPackets k n) xs PacketR.cells m) ∧ w.grownBy wr (some g)) (fun _ i _ => n - (intOf i).toNat)
  case atStart => exact ⟨0, Nat.zero_le _, rfl, by simp, by rw [partR_zero]; exact ha, World.grownBy.refl _ _⟩
  case round =>
    clear ha
    obtain ⟨m, hm, rfl, rfl, ho, hfr⟩ := hrel
    by_cases hlt : m < n
    · have hp := packet_part (mkPackets k n) xs m (by omega) (by rw [mkPackets_length, hn])
      rw [mkPackets_at k n m hlt] at hp
      have HP := Lib.hid hp
      clear hp
      have f0 := ho.frozenAt (m * 6); obtain ⟨u0, c0⟩ := owns_cell ho (m * 6) (by omega); have s0 := ho.stored (m * 6) (.int .i64 (k + 6 * m))
      have f1 := s0.1.frozenAt (m * 6 + 1); obtain ⟨u1, c1⟩ := owns_cell s0.1 (m * 6 + 1) (by omega); have s1 := s0.1.stored (m * 6 + 1) (.int .i64 (k + 6 * m + 1))
      have f2 := s1.1.frozenAt (m * 6 + 2); obtain ⟨u2, c2⟩ := owns_cell s1.1 (m * 6 + 2) (by omega); have s2 := s1.1.stored (m * 6 + 2) (.int .i64 (k + 6 * m + 1 + 1))
      have f3 := s2.1.frozenAt (m * 6 + 3); obtain ⟨u3, c3⟩ := owns_cell s2.1 (m * 6 + 3) (by omega); have s3 := s2.1.stored (m * 6 + 3) (.int .i64 (k + 6 * m + 1 + 1 + 1))
      have f4 := s3.1.frozenAt (m * 6 + 4); obtain ⟨u4, c4⟩ := owns_cell s3.1 (m * 6 + 4) (by omega); have s4 := s3.1.stored (m * 6 + 4) (.int .i64 (k + 6 * m + 1 + 1 + 1 + 1))
      go_wp2_with fail
      refine (markText_int (k + 6 * m + 1 + 1 + 1 + 1 + 1) _ (by omega) (by omega)).mono ?_
      rintro e w5 ⟨rfl, hf5⟩
      have o5 := owns_fr s4.1 hf5
      have f5 := o5.frozenAt (m * 6 + 5); obtain ⟨u5, c5⟩ := owns_cell o5 (m * 6 + 5) (by omega); have s5 := o5.stored (m * 6 + 5) (.string (mTextI (k + 6 * m + 1 + 1 + 1 + 1 + 1)))
      go_wp2_with fail
      go_roundw
      case rel => exact ⟨m + 1, by omega, by go_num, by go_num, HP.out ▸ s5.1, gr_trans (gr_trans (gr_trans (gr_trans (gr_trans (gr_trans (gr_trans hfr (s0.2)) (s1.2)) (s2.2)) (s3.2)) (s4.2)) (hf5.gr _)) (s5.2)⟩
      case measure => (simp [intOf]; omega)
    · obtain rfl : m = n := by omega
      rw [partR_all _ _ _ m (by rw [mkPackets_length]) hn] at ho
      go_wp2
      go_ret
      exact ⟨rfl, ho, hfr⟩
theorem markPacketS_w (v : Value) (xs : List PacketR) (k : Int) (lo hi : Nat) (w : World) (ha : PacketsW w lo hi v xs) (h0 : 0 < k) (h1 : k + 6 * xs.length ≤ 1073741824) :
    Calls Try.prog 61 #[v, .int .i64 k] w fun e w' => e = .returned (.int .i64 (k + 6 * xs.length)) ∧ PacketsW w' lo hi v (mkPackets k xs.length) ∧ Span lo hi w w' := by
  rcases owns_shape ha.1 with ⟨rfl, hn, hx⟩ | ⟨g, cap, rfl, _⟩
  · have h3 : xs = [] := List.eq_nil_of_length_eq_zero hn
    subst h3
    clear ha hn hx
    go_enter Try.func61, Try.ntmps61
    go_wp2
    go_loopw [1, 5] (fun l i wr => i = .int .i64 0 ∧ l = .int .i64 k ∧ wr = w) (fun _ i _ => 0)
    case atStart => exact ⟨rfl, rfl, rfl⟩
    case round =>
      obtain ⟨rfl, rfl, rfl⟩ := hrel
      go_wp2
      go_ret
      exact ⟨by simp, by simpa [PacketsW, mkPackets] using OwW.nil _ _ _ _ _, Span.refl _ _ _⟩
  · refine (markPacketS_any g xs.length cap xs k lo w ha.1 rfl h0 h1).mono fun e w' h => ⟨h.1, ⟨?_, ha.2⟩, Span.of_gr h.2.2 ha.2⟩
    rw [mkPackets_length]
    exact h.2.1
set_option maxHeartbeats 1000000 in
set_option maxRecDepth 100000 in
theorem heldPacketS_any (a : Value) (k : Int) (n : Nat) (w : World) (ha : PacketsR w a (mkPackets k n)) (h0 : 0 < k) (h1 : k + 6 * n ≤ 1073741824) :
    Calls Try.prog 62 #[a, .int .i64 k] w fun e w' => e = .returned (.int .i64 (k + 6 * n)) ∧ Fr w w' := by
  obtain ⟨ao, ba, oa, ca, rfl, hca, hma, fa⟩ := ha.one
  clear ha
  rw [mkPackets_length] at hca fa ⊢
  go_enter Try.func62, Try.ntmps62
  go_wp2
  go_loopw [1, 5] (fun l i wr => ∃ m : Nat, m ≤ n ∧ i = .int .i64 m ∧ l = .int .i64 (k + 6 * m) ∧ Fr w wr) (fun _ i _ => n - (intOf i).toNat)
  case atStart => exact ⟨0, Nat.zero_le _, rfl, by simp, Fr.refl _⟩
  case round =>
    obtain ⟨m, hm, rfl, rfl, hfr⟩ := hrel
    by_cases hlt : m < n
    · obtain ⟨rfl, hba, fa⟩ := fa (by omega)
      have c0 : ∀ w', Fr wr w' → w'.cell? ⟨ba, oa + m * 6, none⟩ = some (.int .i64 (k + 6 * m)) := fun w' hf => ((hfr.trans hf).cell (p := ⟨ba, _, none⟩) hba).trans ((fa m hlt).1.trans (by rw [mkPackets_at k n m hlt]; rfl))
      have c1 : ∀ w', Fr wr w' → w'.cell? ⟨ba, oa + m * 6 + 1, none⟩ = some (.int .i64 (k + 6 * m + 1)) := fun w' hf => ((hfr.trans hf).cell (p := ⟨ba, _, none⟩) hba).trans ((fa m hlt).2.1.trans (by rw [mkPackets_at k n m hlt]; rfl))
      have c2 : ∀ w', Fr wr w' → w'.cell? ⟨ba, oa + m * 6 + 2, none⟩ = some (.int .i64 (k + 6 * m + 1 + 1)) := fun w' hf => ((hfr.trans hf).cell (p := ⟨ba, _, none⟩) hba).trans ((fa m hlt).2.2.1.trans (by rw [mkPackets_at k n m hlt]; rfl))
      have c3 : ∀ w', Fr wr w' → w'.cell? ⟨ba, oa + m * 6 + 3, none⟩ = some (.int .i64 (k + 6 * m + 1 + 1 + 1)) := fun w' hf => ((hfr.trans hf).cell (p := ⟨ba, _, none⟩) hba).trans ((fa m hlt).2.2.2.1.trans (by rw [mkPackets_at k n m hlt]; rfl))
      have c4 : ∀ w', Fr wr w' → w'.cell? ⟨ba, oa + m * 6 + 4, none⟩ = some (.int .i64 (k + 6 * m + 1 + 1 + 1 + 1)) := fun w' hf => ((hfr.trans hf).cell (p := ⟨ba, _, none⟩) hba).trans ((fa m hlt).2.2.2.2.1.trans (by rw [mkPackets_at k n m hlt]; rfl))
      have c5 : ∀ w', Fr wr w' → w'.cell? ⟨ba, oa + m * 6 + 5, none⟩ = some (.string (mTextI (k + 6 * m + 1 + 1 + 1 + 1 + 1))) := fun w' hf => ((hfr.trans hf).cell (p := ⟨ba, _, none⟩) hba).trans ((fa m hlt).2.2.2.2.2.trans (by rw [mkPackets_at k n m hlt]; rfl))
      clear fa
      have d0 := c0 wr (by repeat (first | (with_reducible exact Fr.refl _) | (with_reducible assumption) | (with_reducible refine Fr.drewN ?_ _) | (with_reducible refine Fr.drew ?_) | (with_reducible refine Fr.alloc ?_ _) | (with_reducible refine Fr.setCell ?_ (by (first | (with_reducible assumption) | omega | (simp only [World.size_alloc, World.size_setCell, World.size_drew, World.heap_drewN]; omega) | (simp; done) | (simp; omega))) _) | (with_reducible refine Fr.trans ?_ (by with_reducible assumption))))
      have d1 := c1 wr (by repeat (first | (with_reducible exact Fr.refl _) | (with_reducible assumption) | (with_reducible refine Fr.drewN ?_ _) | (with_reducible refine Fr.drew ?_) | (with_reducible refine Fr.alloc ?_ _) | (with_reducible refine Fr.setCell ?_ (by (first | (with_reducible assumption) | omega | (simp only [World.size_alloc, World.size_setCell, World.size_drew, World.heap_drewN]; omega) | (simp; done) | (simp; omega))) _) | (with_reducible refine Fr.trans ?_ (by with_reducible assumption))))
      have d2 := c2 wr (by repeat (first | (with_reducible exact Fr.refl _) | (with_reducible assumption) | (with_reducible refine Fr.drewN ?_ _) | (with_reducible refine Fr.drew ?_) | (with_reducible refine Fr.alloc ?_ _) | (with_reducible refine Fr.setCell ?_ (by (first | (with_reducible assumption) | omega | (simp only [World.size_alloc, World.size_setCell, World.size_drew, World.heap_drewN]; omega) | (simp; done) | (simp; omega))) _) | (with_reducible refine Fr.trans ?_ (by with_reducible assumption))))
      have d3 := c3 wr (by repeat (first | (with_reducible exact Fr.refl _) | (with_reducible assumption) | (with_reducible refine Fr.drewN ?_ _) | (with_reducible refine Fr.drew ?_) | (with_reducible refine Fr.alloc ?_ _) | (with_reducible refine Fr.setCell ?_ (by (first | (with_reducible assumption) | omega | (simp only [World.size_alloc, World.size_setCell, World.size_drew, World.heap_drewN]; omega) | (simp; done) | (simp; omega))) _) | (with_reducible refine Fr.trans ?_ (by with_reducible assumption))))
      have d4 := c4 wr (by repeat (first | (with_reducible exact Fr.refl _) | (with_reducible assumption) | (with_reducible refine Fr.drewN ?_ _) | (with_reducible refine Fr.drew ?_) | (with_reducible refine Fr.alloc ?_ _) | (with_reducible refine Fr.setCell ?_ (by (first | (with_reducible assumption) | omega | (simp only [World.size_alloc, World.size_setCell, World.size_drew, World.heap_drewN]; omega) | (simp; done) | (simp; omega))) _) | (with_reducible refine Fr.trans ?_ (by with_reducible assumption))))
      go_wp2_with fail
      try go_quiet (fail)
      try go_wp2_with fail
      go_wp2_with fail
      have e5 : ∀ w', Fr wr w' → w'.cell? ⟨ba, oa + m * 6 + 5, none⟩ = some (.string (mTextI (k + 6 * m + 1 + 1 + 1 + 1 + 1))) := fun w' hf => c5 w' (by repeat (first | (with_reducible exact Fr.refl _) | (with_reducible assumption) | (with_reducible refine Fr.drewN ?_ _) | (with_reducible refine Fr.drew ?_) | (with_reducible refine Fr.alloc ?_ _) | (with_reducible refine Fr.setCell ?_ (by (first | (with_reducible assumption) | omega | (simp only [World.size_alloc, World.size_setCell, World.size_drew, World.heap_drewN]; omega) | (simp; done) | (simp; omega))) _) | (with_reducible refine Fr.trans ?_ (by with_reducible assumption))))
      go_region_held3 (fun w' => Fr wr w') (repeat (first | (with_reducible exact Fr.refl _) | (with_reducible assumption) | (with_reducible refine Fr.drewN ?_ _) | (with_reducible refine Fr.drew ?_) | (with_reducible refine Fr.alloc ?_ _) | (with_reducible refine Fr.setCell ?_ (by (first | (with_reducible assumption) | omega | (simp only [World.size_alloc, World.size_setCell, World.size_drew, World.heap_drewN]; omega) | (simp; done) | (simp; omega))) _) | (with_reducible refine Fr.trans ?_ (by with_reducible assumption)))) (first | (go_at_call 81; refine (markText_int (k + 6 * m + 1 + 1 + 1 + 1 + 1) _ (by omega) (by omega)).mono ?_; rintro e w5 ⟨rfl, hf5⟩))
      clear e5
      try go_wp2_with fail
      go_roundw
      case rel => exact ⟨m + 1, by omega, by go_num, by go_num, by repeat (first | (with_reducible exact Fr.refl _) | (with_reducible assumption) | (with_reducible refine Fr.drewN ?_ _) | (with_reducible refine Fr.drew ?_) | (with_reducible refine Fr.alloc ?_ _) | (with_reducible refine Fr.setCell ?_ (by (first | (with_reducible assumption) | omega | (simp only [World.size_alloc, World.size_setCell, World.size_drew, World.heap_drewN]; omega) | (simp; done) | (simp; omega))) _) | (with_reducible refine Fr.trans ?_ (by with_reducible assumption)))⟩
      case measure => (simp [intOf]; omega)
    · clear fa
      obtain rfl : m = n := by omega
      go_wp2
      go_ret
      exact ⟨rfl, hfr⟩
theorem heldPacketS_w (a : Value) (k : Int) (n : Nat) (w : World) (ha : PacketsR w a (mkPackets k n)) (h0 : 0 < k) (h1 : k + 6 * n ≤ 1073741824) :
    Calls Try.prog 62 #[a, .int .i64 k] w fun e w' => e = .returned (.int .i64 (k + 6 * n)) ∧ Fr w w' := heldPacketS_any a k n w ha h0 h1
end Go.Proofs.Ytfokiabkebpblaa
