/- A file of a disk by its name: fileIndex, FileAt of the program (by slices.IndexFunc and a closure) and of the reference. No condition. -/
import Derived.Test.YtjgghiniajmfjaaKLose
import Derived.Shelf.Abstract
namespace Go.Proofs.Ytjgghiniajmfjaa
open Go.RowKit
set_option linter.unusedVariables false
set_option linter.unusedSimpArgs false
def fIxGo (s : ByteArray) : List FileR → Nat → Int
  | [], _ => -1
  | x :: r, i => if x.f0 = s then (i : Int) else fIxGo s r (i + 1)
def fIx (xs : List FileR) (s : ByteArray) : Int := fIxGo s xs 0
theorem fIxGo_hit (s : ByteArray) : ∀ (xs : List FileR) (k i : Nat), k < xs.length → (fileAt xs k).f0 = s → (∀ j, j < k → ¬ (fileAt xs j).f0 = s) → fIxGo s xs i = ((i + k : Nat) : Int)
  | [], k, i, hk, _, _ => absurd hk (Nat.not_lt_zero _)
  | x :: r, 0, i, _, h, _ => by
    have h' : x.f0 = s := h
    simp [fIxGo, h']
  | x :: r, k + 1, i, hk, h, hn => by
    have h0 : ¬ x.f0 = s := hn 0 (Nat.succ_pos _)
    rw [fIxGo, if_neg h0, fIxGo_hit s r k (i + 1) (by simpa using hk) h (fun j hj => hn (j + 1) (by omega))]
    congr 1
    omega
theorem fIxGo_miss (s : ByteArray) : ∀ (xs : List FileR) (i : Nat), (∀ j, j < xs.length → ¬ (fileAt xs j).f0 = s) → fIxGo s xs i = -1
  | [], _, _ => rfl
  | x :: r, i, h => by
    have h0 : ¬ x.f0 = s := h 0 (by simp)
    rw [fIxGo, if_neg h0]
    exact fIxGo_miss s r (i + 1) (fun j hj => h (j + 1) (by simpa using hj))
theorem fIx_hit {xs : List FileR} {s : ByteArray} {k : Nat} (hk : k < xs.length) (h : (fileAt xs k).f0 = s) (hn : ∀ j, j < k → ¬ (fileAt xs j).f0 = s) : fIx xs s = k := by
  unfold fIx; rw [fIxGo_hit s xs k 0 hk h hn]; simp
theorem fIx_miss {xs : List FileR} {s : ByteArray} (h : ∀ j, j < xs.length → ¬ (fileAt xs j).f0 = s) : fIx xs s = -1 := fIxGo_miss s xs 0 h
theorem fIx_cases (xs : List FileR) (s : ByteArray) : fIx xs s = -1 ∨ ∃ k : Nat, k < xs.length ∧ fIx xs s = k := by
  unfold fIx
  have gen : ∀ (xs : List FileR) (i : Nat), fIxGo s xs i = -1 ∨ ∃ k : Nat, k < xs.length ∧ fIxGo s xs i = ((i + k : Nat) : Int) := by
    intro xs
    induction xs with
    | nil => intro i; exact .inl rfl
    | cons x r ih =>
      intro i
      rw [fIxGo]
      split
      · exact .inr ⟨0, by simp, by simp⟩
      · rcases ih (i + 1) with h | ⟨k, h1, h2⟩
        · exact .inl h
        · exact .inr ⟨k + 1, by simpa using h1, by rw [h2]; congr 1; omega⟩
  rcases gen xs 0 with h | ⟨k, h1, h2⟩
  · exact .inl h
  · exact .inr ⟨k, h1, by rw [h2]; simp⟩
def fTx (xs : List FileR) (s : ByteArray) : ByteArray := if fIx xs s < 0 then ⟨#[]⟩ else (fileAt xs (fIx xs s).toNat).f1
def fHas (xs : List FileR) (s : ByteArray) : Bool := decide (0 ≤ fIx xs s)
theorem fTx_no {xs : List FileR} {s : ByteArray} (h : fIx xs s = -1) : fTx xs s = ⟨#[]⟩ ∧ fHas xs s = false := by unfold fTx fHas; rw [h]; exact ⟨rfl, rfl⟩
theorem fTx_at {xs : List FileR} {s : ByteArray} {k : Nat} (h : fIx xs s = k) : fTx xs s = (fileAt xs k).f1 ∧ fHas xs s = true := by
  unfold fTx fHas; rw [h]; exact ⟨by rw [if_neg (by omega)]; simp, by simp⟩
theorem fTx_size {xs : List FileR} (h : diskB xs = true) (s : ByteArray) : (fTx xs s).size ≤ 20000 := by
  rcases fIx_cases xs s with hn | ⟨k, hk, hn⟩
  · rw [(fTx_no hn).1]; exact Nat.zero_le _
  · rw [(fTx_at hn).1]; exact (diskB_file h hk).1
theorem fileIs_any (x : FileR) (s : ByteArray) (B : Nat) (w : World) (hc : w.cell? ⟨B, 0, none⟩ = some (.string s)) (hB : B < w.heap.size) :
    Calls Try.prog 243 #[.agg #[.string x.f0, .string x.f1, .int .i64 x.f2], .pointer (some ⟨B, 0, none⟩)] w fun e w' => e = .returned (.bool (decide (x.f0 = s))) ∧ Fr w w' := by
  have hne : B ≠ w.heap.size := by omega
  go_enter Try.func243, Try.ntmps243
  go_wp2
  go_ret
  exact ⟨ret_bool (bytes_eq_iff _ _), by repeat (first | (with_reducible exact Fr.refl _) | (with_reducible assumption) | (with_reducible refine Fr.drewN ?_ _) | (with_reducible refine Fr.drew ?_) | (with_reducible refine Fr.alloc ?_ _) | (with_reducible refine Fr.setCell ?_ (by (first | (with_reducible assumption) | omega | (simp only [World.size_alloc, World.size_setCell, World.size_drew, World.heap_drewN]; omega) | (simp; done) | (simp; omega))) _) | (with_reducible refine Fr.trans ?_ (by with_reducible assumption)))⟩
set_option maxHeartbeats 1000000 in
theorem indexFile_any (v : Value) (xs : List FileR) (s : ByteArray) (B : Nat) (w : World) (hv : FilesR w v xs) (hc : w.cell? ⟨B, 0, none⟩ = some (.string s)) (hB : B < w.heap.size) :
    Calls Try.prog 242 #[v, .func (.func 243) #[] #[.pointer (some ⟨B, 0, none⟩)]] w fun e w' => e = .returned (.int .i64 (fIx xs s)) ∧ Fr w w' := by
  have eg : ∀ args w, (callFunc 243 args).run Try.prog w = .ok (.enter 243 args) w := enters_of Try.func243 (by kernel_rfl) rfl
  have hl := hv.le
  obtain ⟨ao, ba, oa, ca, rfl, hca, hma, fa⟩ := hv.one
  clear hv
  go_enter Try.func242, Try.ntmps242
  go_wp2
  go_loopw [5, 8] (fun _ i wr => ∃ k : Nat, k ≤ xs.length ∧ i = .int .i64 k ∧ Fr w wr ∧ Hid (∀ j, j < k → ¬ (fileAt xs j).f0 = s)) (fun _ i _ => xs.length - (intOf i).toNat)
  case atStart => exact ⟨0, Nat.zero_le _, rfl, Fr.refl _, fun j hj => absurd hj (by omega)⟩
  case round =>
    obtain ⟨k, hk, rfl, hfr, hj⟩ := hrel
    have hcr : wr.cell? ⟨B, 0, none⟩ = some (.string s) := (hfr.cell (p := ⟨B, 0, none⟩) hB).trans hc
    have hBr : B < wr.heap.size := Nat.lt_of_lt_of_le hB hfr.size
    by_cases hlt : k < xs.length
    · obtain ⟨rfl, hba, fa⟩ := fa (by omega)
      obtain ⟨x, hx⟩ : ∃ x, fileAt xs k = x := ⟨_, rfl⟩
      have c0 : wr.cell? ⟨ba, oa + k * 3, none⟩ = some (.string x.f0) := (hfr.cell (p := ⟨ba, _, none⟩) hba).trans (hx ▸ (fa k hlt).1)
      have c1 : wr.cell? ⟨ba, oa + k * 3 + 1, none⟩ = some (.string x.f1) := (hfr.cell (p := ⟨ba, _, none⟩) hba).trans (hx ▸ (fa k hlt).2.1)
      have c2 : wr.cell? ⟨ba, oa + k * 3 + 2, none⟩ = some (.int .i64 x.f2) := (hfr.cell (p := ⟨ba, _, none⟩) hba).trans (hx ▸ (fa k hlt).2.2)
      have hbw : ba < wr.heap.size := Nat.lt_of_lt_of_le hba hfr.size
      clear fa
      have hcall := fileIs_any x s B wr hcr hBr
      by_cases hq : x.f0 = s
      · have HI : Hid (fIx xs s = k) := fIx_hit hlt (by rw [hx]; exact hq) hj.out
        rw [decide_eq_true hq] at hcall
        clear hq
        go_wp2_with (go_at_fn 243; refine hcall.mono ?_; rintro e w1 ⟨rfl, hf1⟩)
        go_ret
        exact ⟨by rw [HI.out]; rfl, by repeat (first | (with_reducible exact Fr.refl _) | (with_reducible assumption) | (with_reducible refine Fr.drewN ?_ _) | (with_reducible refine Fr.drew ?_) | (with_reducible refine Fr.alloc ?_ _) | (with_reducible refine Fr.setCell ?_ (by (first | (with_reducible assumption) | omega | (simp only [World.size_alloc, World.size_setCell, World.size_drew, World.heap_drewN]; omega) | (simp; done) | (simp; omega))) _) | (with_reducible refine Fr.trans ?_ (by with_reducible assumption)))⟩
      · have HN : Hid (¬ (fileAt xs k).f0 = s) := by show ¬ _; rw [hx]; exact hq
        rw [decide_eq_false hq] at hcall
        clear hq
        go_wp2_with (go_at_fn 243; refine hcall.mono ?_; rintro e w1 ⟨rfl, hf1⟩)
        go_roundw
        case rel => exact ⟨k + 1, by omega, by go_num, by repeat (first | (with_reducible exact Fr.refl _) | (with_reducible assumption) | (with_reducible refine Fr.drewN ?_ _) | (with_reducible refine Fr.drew ?_) | (with_reducible refine Fr.alloc ?_ _) | (with_reducible refine Fr.setCell ?_ (by (first | (with_reducible assumption) | omega | (simp only [World.size_alloc, World.size_setCell, World.size_drew, World.heap_drewN]; omega) | (simp; done) | (simp; omega))) _) | (with_reducible refine Fr.trans ?_ (by with_reducible assumption))), fun j h => (by rcases Nat.lt_succ_iff_lt_or_eq.1 h with h | rfl; exact hj.out j h; exact HN.out)⟩
        case measure => (simp [intOf]; omega)
    · have hkl : k = xs.length := by omega
      subst hkl
      have HI : Hid (fIx xs s = -1) := fIx_miss hj.out
      go_wp2
      go_ret
      exact ⟨by rw [HI.out]; rfl, by repeat (first | (with_reducible exact Fr.refl _) | (with_reducible assumption) | (with_reducible refine Fr.drewN ?_ _) | (with_reducible refine Fr.drew ?_) | (with_reducible refine Fr.alloc ?_ _) | (with_reducible refine Fr.setCell ?_ (by (first | (with_reducible assumption) | omega | (simp only [World.size_alloc, World.size_setCell, World.size_drew, World.heap_drewN]; omega) | (simp; done) | (simp; omega))) _) | (with_reducible refine Fr.trans ?_ (by with_reducible assumption)))⟩
theorem fileIndex_any (v : Value) (xs : List FileR) (s : ByteArray) (w : World) (hv : FilesR w v xs) :
    Calls Try.prog 212 #[.agg #[v], .string s] w fun e w' => e = .returned (.int .i64 (fIx xs s)) ∧ Fr w w' := by
  obtain ⟨n, hn⟩ : ∃ n, fIx xs s = n := ⟨_, rfl⟩
  have hcon := fun (W : World) (hf : Fr w W) (hc : W.cell? ⟨w.heap.size + 1, 0, none⟩ = some (.string s)) (hB : w.heap.size + 1 < W.heap.size) => indexFile_any v xs s (w.heap.size + 1) W (hv.fr hf) hc hB
  rw [hn] at hcon ⊢
  obtain ⟨ao, ba, oa, ca, rfl, hca, hma, fa⟩ := hv.one
  clear fa hv hn
  go_enter Try.func212, Try.ntmps212
  go_wp2_with (first | (go_at_call 242; refine (hcon _ (by repeat (first | (with_reducible exact Fr.refl _) | (with_reducible assumption) | (with_reducible refine Fr.drewN ?_ _) | (with_reducible refine Fr.drew ?_) | (with_reducible refine Fr.alloc ?_ _) | (with_reducible refine Fr.setCell ?_ (by (first | (with_reducible assumption) | omega | (simp only [World.size_alloc, World.size_setCell, World.size_drew, World.heap_drewN]; omega) | (simp; done) | (simp; omega))) _) | (with_reducible refine Fr.trans ?_ (by with_reducible assumption)))) (by simp) (by simp)).mono ?_; rintro e w1 ⟨rfl, hf1⟩))
  go_ret
  exact ⟨rfl, by repeat (first | (with_reducible exact Fr.refl _) | (with_reducible assumption) | (with_reducible refine Fr.drewN ?_ _) | (with_reducible refine Fr.drew ?_) | (with_reducible refine Fr.alloc ?_ _) | (with_reducible refine Fr.setCell ?_ (by (first | (with_reducible assumption) | omega | (simp only [World.size_alloc, World.size_setCell, World.size_drew, World.heap_drewN]; omega) | (simp; done) | (simp; omega))) _) | (with_reducible refine Fr.trans ?_ (by with_reducible assumption)))⟩
theorem implFileAt_any (v : Value) (xs : List FileR) (s : ByteArray) (w : World) (hv : FilesR w v xs) :
    Calls Try.prog 174 #[.agg #[v], .string s] w fun e w' => e = .returned (.tuple #[.string (fTx xs s), .bool (fHas xs s)]) ∧ Fr w w' := by
  have hl := hv.le
  obtain ⟨ao, ba, oa, ca, rfl, hca, hma, fa⟩ := hv.one
  rcases fIx_cases xs s with hn | ⟨k, hk, hn⟩
  · have HN := Lib.hid hn
    have HT := Lib.hid (fTx_no hn)
    clear hn fa
    go_enter Try.func174, Try.ntmps174
    go_wp2_with fail
    refine (fileIndex_any _ xs s _ (hv.fr (by repeat (first | (with_reducible exact Fr.refl _) | (with_reducible assumption) | (with_reducible refine Fr.drewN ?_ _) | (with_reducible refine Fr.drew ?_) | (with_reducible refine Fr.alloc ?_ _) | (with_reducible refine Fr.setCell ?_ (by (first | (with_reducible assumption) | omega | (simp only [World.size_alloc, World.size_setCell, World.size_drew, World.heap_drewN]; omega) | (simp; done) | (simp; omega))) _) | (with_reducible refine Fr.trans ?_ (by with_reducible assumption)))))).mono ?_
    rintro e w1 ⟨rfl, hf1⟩
    rw [HN.out]
    have z1 := hf1.size; (try simp only [World.size_alloc, World.size_setCell, World.size_drew] at z1)
    go_wp2_with fail
    go_ret2
    rw [HT.out.1, HT.out.2]
    exact ⟨rfl, by repeat (first | (with_reducible exact Fr.refl _) | (with_reducible assumption) | (with_reducible refine Fr.drewN ?_ _) | (with_reducible refine Fr.drew ?_) | (with_reducible refine Fr.alloc ?_ _) | (with_reducible refine Fr.setCell ?_ (by (first | (with_reducible assumption) | omega | (simp only [World.size_alloc, World.size_setCell, World.size_drew, World.heap_drewN]; omega) | (simp; done) | (simp; omega))) _) | (with_reducible refine Fr.trans ?_ (by with_reducible assumption)))⟩
  · have HN := Lib.hid hn
    have HT := Lib.hid (fTx_at hn)
    clear hn
    obtain ⟨rfl, hba, fa⟩ := fa (by omega)
    obtain ⟨x, hx⟩ : ∃ x, fileAt xs k = x := ⟨_, rfl⟩
    have c1' : ∀ W, Fr w W → W.cell? ⟨ba, oa + k * 3 + 1, none⟩ = some (.string x.f1) := fun W hfr => (hfr.cell (p := ⟨ba, _, none⟩) hba).trans (hx ▸ (fa k hk).2.1)
    rw [hx] at HT
    clear fa hx
    go_enter Try.func174, Try.ntmps174
    go_wp2_with fail
    refine (fileIndex_any _ xs s _ (hv.fr (by repeat (first | (with_reducible exact Fr.refl _) | (with_reducible assumption) | (with_reducible refine Fr.drewN ?_ _) | (with_reducible refine Fr.drew ?_) | (with_reducible refine Fr.alloc ?_ _) | (with_reducible refine Fr.setCell ?_ (by (first | (with_reducible assumption) | omega | (simp only [World.size_alloc, World.size_setCell, World.size_drew, World.heap_drewN]; omega) | (simp; done) | (simp; omega))) _) | (with_reducible refine Fr.trans ?_ (by with_reducible assumption)))))).mono ?_
    rintro e w1 ⟨rfl, hf1⟩
    rw [HN.out]
    have BD : Box w1 (w.heap.size) #[.slice (some ⟨ba, oa, none⟩) xs.length ca] 46 := (Box.new' (w := w) rfl).fr (by repeat (first | (with_reducible exact Fr.refl _) | (with_reducible assumption) | (with_reducible refine Fr.drewN ?_ _) | (with_reducible refine Fr.drew ?_) | (with_reducible refine Fr.alloc ?_ _) | (with_reducible refine Fr.setCell ?_ (by (first | (with_reducible assumption) | omega | (simp only [World.size_alloc, World.size_setCell, World.size_drew, World.heap_drewN]; omega) | (simp; done) | (simp; omega))) _) | (with_reducible refine Fr.trans ?_ (by with_reducible assumption))))
    have FD := BD.facts
    have c1 := c1' w1 (by repeat (first | (with_reducible exact Fr.refl _) | (with_reducible assumption) | (with_reducible refine Fr.drewN ?_ _) | (with_reducible refine Fr.drew ?_) | (with_reducible refine Fr.alloc ?_ _) | (with_reducible refine Fr.setCell ?_ (by (first | (with_reducible assumption) | omega | (simp only [World.size_alloc, World.size_setCell, World.size_drew, World.heap_drewN]; omega) | (simp; done) | (simp; omega))) _) | (with_reducible refine Fr.trans ?_ (by with_reducible assumption))))
    have z1 := hf1.size; (try simp only [World.size_alloc, World.size_setCell, World.size_drew] at z1)
    clear c1'
    go_wp2_with fail
    go_ret2
    rw [HT.out.1, HT.out.2]
    exact ⟨rfl, by repeat (first | (with_reducible exact Fr.refl _) | (with_reducible assumption) | (with_reducible refine Fr.drewN ?_ _) | (with_reducible refine Fr.drew ?_) | (with_reducible refine Fr.alloc ?_ _) | (with_reducible refine Fr.setCell ?_ (by (first | (with_reducible assumption) | omega | (simp only [World.size_alloc, World.size_setCell, World.size_drew, World.heap_drewN]; omega) | (simp; done) | (simp; omega))) _) | (with_reducible refine Fr.trans ?_ (by with_reducible assumption)))⟩
theorem l14At_any (v : Value) (xs : List FileR) (s : ByteArray) (w : World) (hv : FilesR w v xs) :
    Calls Try.prog 170 #[.agg #[v], .string s] w fun e w' => e = .returned (.int .i64 (fIx xs s)) ∧ Fr w w' := by
  have hl := hv.le
  obtain ⟨ao, ba, oa, ca, rfl, hca, hma, fa⟩ := hv.one
  clear hv
  go_enter Try.func170, Try.ntmps170
  go_wp2
  go_loopw [5] (fun i wr => ∃ k : Nat, k ≤ xs.length ∧ i = .int .i64 k ∧ Fr w wr ∧ Hid (∀ j, j < k → ¬ (fileAt xs j).f0 = s) ∧ Box wr w.heap.size #[.slice ao xs.length ca] 46) (fun i _ => xs.length - (intOf i).toNat)
  case atStart => exact ⟨0, Nat.zero_le _, rfl, by repeat (first | (with_reducible exact Fr.refl _) | (with_reducible assumption) | (with_reducible refine Fr.drewN ?_ _) | (with_reducible refine Fr.drew ?_) | (with_reducible refine Fr.alloc ?_ _) | (with_reducible refine Fr.setCell ?_ (by (first | (with_reducible assumption) | omega | (simp only [World.size_alloc, World.size_setCell, World.size_drew, World.heap_drewN]; omega) | (simp; done) | (simp; omega))) _) | (with_reducible refine Fr.trans ?_ (by with_reducible assumption))), fun j hj => absurd hj (by omega), Box.new' rfl⟩
  case round =>
    obtain ⟨k, hk, rfl, hfr, hj, hbx⟩ := hrel
    have FD := hbx.facts
    by_cases hlt : k < xs.length
    · obtain ⟨rfl, hba, fa⟩ := fa (by omega)
      obtain ⟨x, hx⟩ : ∃ x, fileAt xs k = x := ⟨_, rfl⟩
      have c0 : wr.cell? ⟨ba, oa + k * 3, none⟩ = some (.string x.f0) := (hfr.cell (p := ⟨ba, _, none⟩) hba).trans (hx ▸ (fa k hlt).1)
      have hbw : ba < wr.heap.size := Nat.lt_of_lt_of_le hba hfr.size
      clear fa
      by_cases hq : x.f0 = s
      · have HI : Hid (fIx xs s = k) := fIx_hit hlt (by rw [hx]; exact hq) hj.out
        have hbeq := bytes_beq hq
        go_wp2_with fail
        go_ret
        exact ⟨by rw [HI.out]; rfl, by repeat (first | (with_reducible exact Fr.refl _) | (with_reducible assumption) | (with_reducible refine Fr.drewN ?_ _) | (with_reducible refine Fr.drew ?_) | (with_reducible refine Fr.alloc ?_ _) | (with_reducible refine Fr.setCell ?_ (by (first | (with_reducible assumption) | omega | (simp only [World.size_alloc, World.size_setCell, World.size_drew, World.heap_drewN]; omega) | (simp; done) | (simp; omega))) _) | (with_reducible refine Fr.trans ?_ (by with_reducible assumption)))⟩
      · have HN : Hid (¬ (fileAt xs k).f0 = s) := by show ¬ _; rw [hx]; exact hq
        have hbeq := bytes_bne hq
        go_wp2_with fail
        go_roundw
        case rel => exact ⟨k + 1, by omega, by go_num, by repeat (first | (with_reducible exact Fr.refl _) | (with_reducible assumption) | (with_reducible refine Fr.drewN ?_ _) | (with_reducible refine Fr.drew ?_) | (with_reducible refine Fr.alloc ?_ _) | (with_reducible refine Fr.setCell ?_ (by (first | (with_reducible assumption) | omega | (simp only [World.size_alloc, World.size_setCell, World.size_drew, World.heap_drewN]; omega) | (simp; done) | (simp; omega))) _) | (with_reducible refine Fr.trans ?_ (by with_reducible assumption))), fun j h => (by rcases Nat.lt_succ_iff_lt_or_eq.1 h with h | rfl; exact hj.out j h; exact HN.out), hbx.fr (by repeat (first | (with_reducible exact Fr.refl _) | (with_reducible assumption) | (with_reducible refine Fr.drewN ?_ _) | (with_reducible refine Fr.drew ?_) | (with_reducible refine Fr.alloc ?_ _) | (with_reducible refine Fr.setCell ?_ (by (first | (with_reducible assumption) | omega | (simp only [World.size_alloc, World.size_setCell, World.size_drew, World.heap_drewN]; omega) | (simp; done) | (simp; omega))) _) | (with_reducible refine Fr.trans ?_ (by with_reducible assumption))))⟩
        case measure => (simp [intOf]; omega)
    · have hkl : k = xs.length := by omega
      subst hkl
      have HI : Hid (fIx xs s = -1) := fIx_miss hj.out
      go_wp2_with fail
      go_ret
      exact ⟨by rw [HI.out]; rfl, by repeat (first | (with_reducible exact Fr.refl _) | (with_reducible assumption) | (with_reducible refine Fr.drewN ?_ _) | (with_reducible refine Fr.drew ?_) | (with_reducible refine Fr.alloc ?_ _) | (with_reducible refine Fr.setCell ?_ (by (first | (with_reducible assumption) | omega | (simp only [World.size_alloc, World.size_setCell, World.size_drew, World.heap_drewN]; omega) | (simp; done) | (simp; omega))) _) | (with_reducible refine Fr.trans ?_ (by with_reducible assumption)))⟩
theorem specFileAt_any (v : Value) (xs : List FileR) (s : ByteArray) (w : World) (hv : FilesR w v xs) :
    Calls Try.prog 99 #[.agg #[v], .string s] w fun e w' => e = .returned (.tuple #[.string (fTx xs s), .bool (fHas xs s)]) ∧ Fr w w' := by
  have hl := hv.le
  obtain ⟨ao, ba, oa, ca, rfl, hca, hma, fa⟩ := hv.one
  rcases fIx_cases xs s with hn | ⟨k, hk, hn⟩
  · have HN := Lib.hid hn
    have HT := Lib.hid (fTx_no hn)
    clear hn fa
    go_enter Try.func99, Try.ntmps99
    go_wp2_with fail
    refine (l14At_any _ xs s _ (hv.fr (by repeat (first | (with_reducible exact Fr.refl _) | (with_reducible assumption) | (with_reducible refine Fr.drewN ?_ _) | (with_reducible refine Fr.drew ?_) | (with_reducible refine Fr.alloc ?_ _) | (with_reducible refine Fr.setCell ?_ (by (first | (with_reducible assumption) | omega | (simp only [World.size_alloc, World.size_setCell, World.size_drew, World.heap_drewN]; omega) | (simp; done) | (simp; omega))) _) | (with_reducible refine Fr.trans ?_ (by with_reducible assumption)))))).mono ?_
    rintro e w1 ⟨rfl, hf1⟩
    rw [HN.out]
    have z1 := hf1.size; (try simp only [World.size_alloc, World.size_setCell, World.size_drew] at z1)
    go_wp2_with fail
    go_ret2
    rw [HT.out.1, HT.out.2]
    exact ⟨rfl, by repeat (first | (with_reducible exact Fr.refl _) | (with_reducible assumption) | (with_reducible refine Fr.drewN ?_ _) | (with_reducible refine Fr.drew ?_) | (with_reducible refine Fr.alloc ?_ _) | (with_reducible refine Fr.setCell ?_ (by (first | (with_reducible assumption) | omega | (simp only [World.size_alloc, World.size_setCell, World.size_drew, World.heap_drewN]; omega) | (simp; done) | (simp; omega))) _) | (with_reducible refine Fr.trans ?_ (by with_reducible assumption)))⟩
  · have HN := Lib.hid hn
    have HT := Lib.hid (fTx_at hn)
    clear hn
    obtain ⟨rfl, hba, fa⟩ := fa (by omega)
    obtain ⟨x, hx⟩ : ∃ x, fileAt xs k = x := ⟨_, rfl⟩
    have c1' : ∀ W, Fr w W → W.cell? ⟨ba, oa + k * 3 + 1, none⟩ = some (.string x.f1) := fun W hfr => (hfr.cell (p := ⟨ba, _, none⟩) hba).trans (hx ▸ (fa k hk).2.1)
    rw [hx] at HT
    clear fa hx
    go_enter Try.func99, Try.ntmps99
    go_wp2_with fail
    refine (l14At_any _ xs s _ (hv.fr (by repeat (first | (with_reducible exact Fr.refl _) | (with_reducible assumption) | (with_reducible refine Fr.drewN ?_ _) | (with_reducible refine Fr.drew ?_) | (with_reducible refine Fr.alloc ?_ _) | (with_reducible refine Fr.setCell ?_ (by (first | (with_reducible assumption) | omega | (simp only [World.size_alloc, World.size_setCell, World.size_drew, World.heap_drewN]; omega) | (simp; done) | (simp; omega))) _) | (with_reducible refine Fr.trans ?_ (by with_reducible assumption)))))).mono ?_
    rintro e w1 ⟨rfl, hf1⟩
    rw [HN.out]
    have BD : Box w1 (w.heap.size) #[.slice (some ⟨ba, oa, none⟩) xs.length ca] 46 := (Box.new' (w := w) rfl).fr (by repeat (first | (with_reducible exact Fr.refl _) | (with_reducible assumption) | (with_reducible refine Fr.drewN ?_ _) | (with_reducible refine Fr.drew ?_) | (with_reducible refine Fr.alloc ?_ _) | (with_reducible refine Fr.setCell ?_ (by (first | (with_reducible assumption) | omega | (simp only [World.size_alloc, World.size_setCell, World.size_drew, World.heap_drewN]; omega) | (simp; done) | (simp; omega))) _) | (with_reducible refine Fr.trans ?_ (by with_reducible assumption))))
    have FD := BD.facts
    have c1 := c1' w1 (by repeat (first | (with_reducible exact Fr.refl _) | (with_reducible assumption) | (with_reducible refine Fr.drewN ?_ _) | (with_reducible refine Fr.drew ?_) | (with_reducible refine Fr.alloc ?_ _) | (with_reducible refine Fr.setCell ?_ (by (first | (with_reducible assumption) | omega | (simp only [World.size_alloc, World.size_setCell, World.size_drew, World.heap_drewN]; omega) | (simp; done) | (simp; omega))) _) | (with_reducible refine Fr.trans ?_ (by with_reducible assumption))))
    have z1 := hf1.size; (try simp only [World.size_alloc, World.size_setCell, World.size_drew] at z1)
    clear c1'
    go_wp2_with fail
    go_ret2
    rw [HT.out.1, HT.out.2]
    exact ⟨rfl, by repeat (first | (with_reducible exact Fr.refl _) | (with_reducible assumption) | (with_reducible refine Fr.drewN ?_ _) | (with_reducible refine Fr.drew ?_) | (with_reducible refine Fr.alloc ?_ _) | (with_reducible refine Fr.setCell ?_ (by (first | (with_reducible assumption) | omega | (simp only [World.size_alloc, World.size_setCell, World.size_drew, World.heap_drewN]; omega) | (simp; done) | (simp; omega))) _) | (with_reducible refine Fr.trans ?_ (by with_reducible assumption)))⟩
end Go.Proofs.Ytjgghiniajmfjaa
