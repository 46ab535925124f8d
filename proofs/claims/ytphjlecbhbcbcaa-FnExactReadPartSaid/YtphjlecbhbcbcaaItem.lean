/- Slices of impl.Item: what they read as. No condition. -/
import Derived.Test.YtphjlecbhbcbcaaBagP
import Derived.Test.YtphjlecbhbcbcaaTFlat
import Derived.Test.YtphjlecbhbcbcaaNest2
namespace Go.Proofs.Ytphjlecbhbcbcaa
open Go.RowKit
set_option linter.unusedVariables false
set_option linter.unusedSimpArgs false
def ItemE (w : World) (u : List Value) (d : ItemD) : Prop := ∃ a, u = [a, .int .i64 d.f1] ∧ IntsR w a d.f0
def ItemEW (w : World) (lo hi : Nat) (u : List Value) (d : ItemD) : Prop := ∃ ao cap, u = [.slice ao d.f0.length cap, .int .i64 d.f1] ∧ IntsW w lo hi (.slice ao d.f0.length cap) d.f0
theorem ItemE.fr {w w' : World} {u : List Value} {d : ItemD} (h : ItemE w u d) (hf : Fr w w') : ItemE w' u d := by obtain ⟨a, h1, h2⟩ := h; exact ⟨a, h1, h2.fr hf⟩
theorem ItemEW.span {w w' : World} {lo hi : Nat} {u : List Value} {d : ItemD} {a b : Nat} (h : ItemEW w lo hi u d) (s : Span a b w w') (hd : hi ≤ a ∨ b ≤ lo) : ItemEW w' lo hi u d := by obtain ⟨x, y, h1, h2⟩ := h; exact ⟨x, y, h1, h2.span s hd⟩
theorem ItemEW.rd {w : World} {lo hi : Nat} {u : List Value} {d : ItemD} (h : ItemEW w lo hi u d) : ItemE w u d := by obtain ⟨x, y, h1, h2⟩ := h; exact ⟨_, h1, h2.rd⟩
def ItemSR (w : World) (v : Value) (xs : List ItemD) : Prop := NestR ItemE 2 w v xs
def ItemSW (w : World) (lo hi : Nat) (v : Value) (xs : List ItemD) : Prop := NestW ItemEW 178 2 w lo hi v xs
theorem ItemSR.fr {w w' : World} {v : Value} {xs : List ItemD} (h : ItemSR w v xs) (hf : Fr w w') : ItemSR w' v xs := NestR.fr (E := ItemE) (fun a b => ItemE.fr a b) h hf
theorem ItemSW.fr {w w' : World} {lo hi : Nat} {v : Value} {xs : List ItemD} (h : ItemSW w lo hi v xs) (hf : Fr w w') : ItemSW w' lo hi v xs := NestP.fr (E := ItemEW) (fun a b c => ItemEW.span a b c) h hf
theorem ItemSW.span {w w' : World} {lo hi : Nat} {v : Value} {xs : List ItemD} (h : ItemSW w lo hi v xs) {a b : Nat} (s : Span a b w w') (hd : hi ≤ a ∨ b ≤ lo) : ItemSW w' lo hi v xs := NestP.span (E := ItemEW) (fun a b c => ItemEW.span a b c) h s hd
theorem ItemSW.rd {w : World} {lo hi : Nat} {v : Value} {xs : List ItemD} (h : ItemSW w lo hi v xs) : ItemSR w v xs := NestP.rd (E := ItemEW) (E' := ItemE) (fun a => ItemEW.rd a) h
theorem ItemSW.val {w : World} {lo hi : Nat} {v : Value} {xs : List ItemD} (h : ItemSW w lo hi v xs) : ∃ ao cap, v = .slice ao xs.length cap := NestW.val h
theorem ItemSW.mono {w : World} {lo hi : Nat} {v : Value} {xs : List ItemD} (h : ItemSW w lo hi v xs) {lo' hi' : Nat} (h1 : lo' ≤ lo) (h2 : hi ≤ hi') : ItemSW w lo' hi' v xs := NestP.mono h h1 h2
theorem ItemSW.nil (w : World) (lo hi : Nat) : ItemSW w lo hi (.slice none 0 0) [] := NestP.none_yet (OwW.nil _ _ _ _ _)
theorem ItemSR.one {w : World} {v : Value} {xs : List ItemD} (h : ItemSR w v xs) :
    ∃ ao b o cap, v = .slice ao xs.length cap ∧ xs.length ≤ cap ∧ cap ≤ 9223372036854775807 ∧ (0 < xs.length → ao = some ⟨b, o, none⟩ ∧ b < w.heap.size ∧ ∀ k, k < xs.length → ∃ a, IntsR w a (itmAt xs k).f0 ∧ w.cell? ⟨b, o + k * 2, none⟩ = some a ∧ w.cell? ⟨b, o + k * 2 + 1, none⟩ = some (.int .i64 (itmAt xs k).f1)) := by
  obtain ⟨ao, b, o, cap, h1, h2, h3, h4⟩ := NestR.one h
  refine ⟨ao, b, o, cap, h1, h2, h3, fun hn => ⟨(h4 hn).1, (h4 hn).2.1, fun k hk => ?_⟩⟩
  obtain ⟨u, _, ⟨a, hu, ha⟩, hc⟩ := (h4 hn).2.2 k hk
  rw [hu] at hc
  exact ⟨a, ha, by simpa using hc 0 _ (by omega) rfl, by have := hc 1 _ (by omega) rfl; exact this⟩
theorem info_Item : (Try.prog.info? 178).map (fun i => (i.zero, i.size, i.bytes)) = some (some (.agg #[.slice none 0 0, .int .i64 0]), 2, 32) := by kernel_rfl
theorem info_intv : (Try.prog.info? 3).map (fun i => (i.zero, i.size, i.bytes)) = some (some (.int .i64 0), 1, 8) := by kernel_rfl
end Go.Proofs.Ytphjlecbhbcbcaa
