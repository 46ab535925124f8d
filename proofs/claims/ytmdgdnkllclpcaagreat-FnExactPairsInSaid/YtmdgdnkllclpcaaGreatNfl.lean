/- Rows of automata: what they read as, built one by one. No condition. -/
import Derived.Test.YtmdgdnkllclpcaaGreatGMof
namespace Go.Proofs.YtmdgdnkllclpcaaGreat
open Go.RowKit
set_option linter.unusedVariables false
set_option linter.unusedSimpArgs false
instance : Inhabited NfaD := ⟨⟨0, [], []⟩⟩
def NfaE (w : World) (u : List Value) (d : NfaD) : Prop := ∃ a e, u = [.int .i64 d.f0, a, e] ∧ EdgesR w a d.f1 ∧ BoolsR w e d.f2
def NfaEW (w : World) (lo hi : Nat) (u : List Value) (d : NfaD) : Prop := ∃ a e, u = [.int .i64 d.f0, a, e] ∧ OwW w lo hi 186 3 a d.f1.length (d.f1.flatMap EdgeR.cells) ∧ OwW w lo hi 4 1 e d.f2.length (d.f2.map Value.bool)
theorem NfaE.fr {w w' : World} {u : List Value} {d : NfaD} (h : NfaE w u d) (hf : Fr w w') : NfaE w' u d := by obtain ⟨a, e, h1, h2, h3⟩ := h; exact ⟨a, e, h1, h2.fr hf, RdS.fr h3 hf⟩
theorem NfaEW.span {w w' : World} {lo hi : Nat} {u : List Value} {d : NfaD} {a b : Nat} (h : NfaEW w lo hi u d) (s : Span a b w w') (hd : hi ≤ a ∨ b ≤ lo) : NfaEW w' lo hi u d := by obtain ⟨x, y, h1, h2, h3⟩ := h; exact ⟨x, y, h1, h2.span s hd, h3.span s hd⟩
theorem NfaEW.ab {w w' : World} {lo hi : Nat} {u : List Value} {d : NfaD} (h : NfaEW w lo hi u d) (s : Ab lo w w') : NfaEW w' lo hi u d := by obtain ⟨x, y, h1, h2, h3⟩ := h; exact ⟨x, y, h1, OwW.ab h2 s, OwW.ab h3 s⟩
theorem NfaEW.rd {w : World} {lo hi : Nat} {u : List Value} {d : NfaD} (h : NfaEW w lo hi u d) : NfaE w u d := by obtain ⟨x, y, h1, h2, h3⟩ := h; exact ⟨x, y, h1, OwW.rd h2, OwW.rd h3⟩
def NfasR (w : World) (v : Value) (xs : List NfaD) : Prop := NestR NfaE 3 w v xs
def NfasW (w : World) (lo hi : Nat) (v : Value) (xs : List NfaD) : Prop := NestW NfaEW 103 3 w lo hi v xs
theorem NfasR.fr {w w' : World} {v : Value} {xs : List NfaD} (h : NfasR w v xs) (hf : Fr w w') : NfasR w' v xs := NestR.fr (E := NfaE) (fun a b => NfaE.fr a b) h hf
theorem NfasW.fr {w w' : World} {lo hi : Nat} {v : Value} {xs : List NfaD} (h : NfasW w lo hi v xs) (hf : Fr w w') : NfasW w' lo hi v xs := NestP.fr (E := NfaEW) (fun a b c => NfaEW.span a b c) h hf
theorem NfasW.span {w w' : World} {lo hi : Nat} {v : Value} {xs : List NfaD} (h : NfasW w lo hi v xs) {a b : Nat} (s : Span a b w w') (hd : hi ≤ a ∨ b ≤ lo) : NfasW w' lo hi v xs := NestP.span (E := NfaEW) (fun a b c => NfaEW.span a b c) h s hd
theorem NfasW.ab {w w' : World} {lo hi : Nat} {v : Value} {xs : List NfaD} (h : NfasW w lo hi v xs) (s : Ab lo w w') : NfasW w' lo hi v xs := NestP.ab (E := NfaEW) (fun a b => NfaEW.ab a b) h s
theorem NfasW.mono {w : World} {lo hi lo' hi' : Nat} {v : Value} {xs : List NfaD} (h : NfasW w lo hi v xs) (hl : lo' ≤ lo) (hh : hi ≤ hi') : NfasW w lo' hi' v xs := NestP.mono h hl hh
theorem NfasW.rd {w : World} {lo hi : Nat} {v : Value} {xs : List NfaD} (h : NfasW w lo hi v xs) : NfasR w v xs := NestP.rd (E := NfaEW) (E' := NfaE) (fun a => NfaEW.rd a) h
theorem NfasW.val {w : World} {lo hi : Nat} {v : Value} {xs : List NfaD} (h : NfasW w lo hi v xs) : ∃ ao cap, v = .slice ao xs.length cap := NestW.val h
theorem NfasW.nil (w : World) (lo hi : Nat) : NfasW w lo hi (.slice none 0 0) [] := NestP.none_yet (OwW.nil _ _ _ _ _)
theorem NfasR.one {w : World} {v : Value} {xs : List NfaD} (h : NfasR w v xs) :
    ∃ ao b o cap, v = .slice ao xs.length cap ∧ xs.length ≤ cap ∧ cap ≤ 9223372036854775807 ∧ (0 < xs.length → ao = some ⟨b, o, none⟩ ∧ b < w.heap.size ∧ ∀ k, k < xs.length → ∃ a e, EdgesR w a (nAt xs k).f1 ∧ BoolsR w e (nAt xs k).f2 ∧ w.cell? ⟨b, o + k * 3, none⟩ = some (.int .i64 (nAt xs k).f0) ∧ w.cell? ⟨b, o + k * 3 + 1, none⟩ = some a ∧ w.cell? ⟨b, o + k * 3 + 2, none⟩ = some e) := by
  obtain ⟨ao, b, o, cap, h1, h2, h3, h4⟩ := NestR.one h
  refine ⟨ao, b, o, cap, h1, h2, h3, fun hn => ⟨(h4 hn).1, (h4 hn).2.1, fun k hk => ?_⟩⟩
  obtain ⟨u, _, ⟨a, e, hu, ha, he⟩, hc⟩ := (h4 hn).2.2 k hk
  rw [hu] at hc
  exact ⟨a, e, ha, he, by simpa using hc 0 _ (by omega) rfl, by simpa using hc 1 _ (by omega) rfl, by simpa using hc 2 _ (by omega) rfl⟩
theorem info_Nfa : (Tryz.prog.info? 103).map (fun i => (i.zero, i.size, i.bytes)) = some (some (.agg #[.int .i64 0, .slice none 0 0, .slice none 0 0]), 3, 56) := by kernel_rfl
/-! ### the automata of a query -/
def autK (xs : List AtomR) : Nat → List NfaD
  | 0 => []
  | k + 1 => autK xs k ++ [nfaT (atomAt xs k).f1]
theorem autK_len (xs : List AtomR) : ∀ k, (autK xs k).length = k
  | 0 => rfl
  | k + 1 => by rw [autK, List.length_append, autK_len xs k]; rfl
theorem autK_at (xs : List AtomR) : ∀ {m k : Nat}, k < m → nAt (autK xs m) k = nfaT (atomAt xs k).f1
  | 0, k, h => by omega
  | m + 1, k, h => by
    rw [autK]
    by_cases e : k < m
    · have := autK_at xs e
      unfold nAt List.getD at this ⊢
      rw [List.getElem?_append_left (by rw [autK_len]; exact e)]
      exact this
    · obtain rfl : k = m := by omega
      unfold nAt List.getD
      rw [List.getElem?_append_right (by rw [autK_len]; exact Nat.le_refl _), autK_len, Nat.sub_self]
      rfl
def autL (q : QueryD) : List NfaD := autK q.f2 q.f2.length
theorem autL_len (q : QueryD) : (autL q).length = q.f2.length := autK_len _ _
/-- A new automaton behind those that are there. -/
theorem NfasW.snoc {w0 w1 w2 : World} {L H : Nat} {az az' : Option Addr} {cz cz' k : Nat} {xs : List NfaD} {cells u : List Value} {d : NfaD} {l1 h1 : Nat}
    (happ : ∀ (v' : Value) (w' w'' : World) (u : List Value) (x : NfaD) (l1 h1 hi' J : Nat), Fr w0 w' → w''.ownsRow L 103 3 v' (xs.length + 1) (cells ++ u) → w'.grownBy w'' (Value.slice az k cz).ownBlock → (v'.ownBlock = (Value.slice az k cz).ownBlock ∨ v'.ownBlock = some J) → RowIn L hi' v' → h1 ≤ J → h1 ≤ hi' → u.length = 3 → NfaEW w' l1 h1 u x → L ≤ l1 → H ≤ l1 → l1 ≤ h1 → NestW NfaEW 103 3 w'' L hi' v' (xs ++ [x]))
    (hf : Fr w0 w1) (hown : w2.ownsRow L 103 3 (.slice az' (xs.length + 1) cz') (xs.length + 1) (cells ++ u)) (hg : w1.grownBy w2 (Value.slice az k cz).ownBlock) (hat : (Value.slice az' (xs.length + 1) cz').ownBlock = (Value.slice az k cz).ownBlock ∨ (Value.slice az' (xs.length + 1) cz').ownBlock = some w1.heap.size)
    (hu : u.length = 3) (he : NfaEW w1 l1 h1 u d) (h1w : h1 ≤ w1.heap.size) (hL : L ≤ l1) (hH : H ≤ l1) (hl : l1 ≤ h1) : NfasW w2 L w2.heap.size (.slice az' (xs.length + 1) cz') (xs ++ [d]) := by
  have := hg.size
  exact happ _ w1 w2 u d l1 h1 w2.heap.size w1.heap.size hf hown hg hat (RowIn.of_owns hown) h1w (by omega) hu he hL hH hl
end Go.Proofs.YtmdgdnkllclpcaaGreat
