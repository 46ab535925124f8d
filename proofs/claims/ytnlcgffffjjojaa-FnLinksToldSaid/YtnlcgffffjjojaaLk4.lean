/- Links: LinkPackets of the program and of the reference. Condition: a bound on the length of what is read, which the laws pay. -/
import Derived.Test.YtnlcgffffjjojaaLk3
import Derived.Deep.RegionHeld3
import Derived.Deep.Cut
namespace Go.Proofs.Ytnlcgffffjjojaa
open Go.RowKit
set_option linter.unusedVariables false
set_option linter.unusedSimpArgs false
def pkAt (d : LinkD) (e f t : Int) (i : Nat) : PacketR := ⟨e, f, t, d.f1 + i + 1, d.f2, sAt d.f0 (d.f1.toNat + i)⟩
def pkK (d : LinkD) (e f t : Int) (k : Nat) : List PacketR := (List.range k).map (pkAt d e f t)
def pkOne (d : LinkD) (e f t : Int) : List PacketR := if sendsN d = 0 ∧ 0 < d.f2 then [⟨e, f, t, 0, d.f2, ⟨#[]⟩⟩] else pkK d e f t (sendsN d)
def pkOk (p : PacketR) : Bool := pktB p.f0 p.f1 p.f2 p.f3 p.f4 p.f5
def pkL (d : LinkD) (e f t : Int) : List PacketR := if linkB d.f0 d.f1 d.f2 && (pkOne d e f t).all pkOk then pkOne d e f t else []
theorem pkK_length (d : LinkD) (e f t : Int) (k : Nat) : (pkK d e f t k).length = k := by simp [pkK]
theorem pkOne_le (d : LinkD) (e f t : Int) : (pkOne d e f t).length ≤ 3 := by
  unfold pkOne
  split
  · simp
  · rw [pkK_length]; exact sendsN_le d
theorem pkL_cnt (d : LinkD) (e f t : Int) : 6 * (pkL d e f t).length ≤ 100000000 := by
  unfold pkL
  split
  · have := pkOne_le d e f t; omega
  · simp
theorem pkK_succ (d : LinkD) (e f t : Int) (k : Nat) : (pkK d e f t (k + 1)).flatMap PacketR.cells = (pkK d e f t k).flatMap PacketR.cells ++ [.int .i64 e, .int .i64 f, .int .i64 t, .int .i64 (d.f1 + k + 1), .int .i64 d.f2, .string (sAt d.f0 (d.f1.toNat + k))] := by
  simp [pkK, List.range_succ, List.flatMap_append, PacketR.cells, pkAt]
set_option maxHeartbeats 4000000 in
set_option maxRecDepth 100000 in
theorem implLinkPackets_any (d : LinkD) (e f t : Int) (hn : d.f0.length ≤ 1048576) (v : Value) (w : World) (hv : LinkRd w v d) :
    Calls Try.prog 37 #[v, .int .i64 e, .int .i64 f, .int .i64 t] w fun e' w' => ∃ ao cap, e' = .returned (.slice ao (pkL d e f t).length cap) ∧ PacketsW w' w.heap.size w'.heap.size (.slice ao (pkL d e f t).length cap) (pkL d e f t) ∧ Fr w w' := by
  obtain ⟨i0, hi, hz0, hz1, hz2⟩ := info_parts info_Packet
  obtain ⟨u, rfl, hu⟩ := hv
  have hv : LinkRd w _ d := ⟨_, rfl, hu⟩
  have hl := hu.le
  obtain ⟨a0, c0, rfl, _⟩ := RdS.val hu
  cases hb : linkB d.f0 d.f1 d.f2
  · have HP : Hid (pkL d e f t = []) := by unfold pkL; rw [hb]; rfl
    go_enter Try.func37, Try.ntmps37
    go_wp2_with fail
    refine (implLinkOk_any _ d.f0 d.f1 d.f2 _ (hu.fr (by repeat (first | (with_reducible exact Fr.refl _) | (with_reducible assumption) | (with_reducible refine Fr.drewN ?_ _) | (with_reducible refine Fr.drew ?_) | (with_reducible refine Fr.alloc ?_ _) | (with_reducible refine Fr.setCell ?_ (by (first | (with_reducible assumption) | omega | (simp only [World.size_alloc, World.size_setCell, World.size_drew, World.heap_drewN]; omega) | (simp; done) | (simp; omega))) _) | (with_reducible refine Fr.trans ?_ (by with_reducible assumption)))))).mono ?_
    rintro e1 w1 ⟨rfl, hf1⟩
    go_wp2_with fail
    go_ret
    rw [HP.out]
    exact ⟨none, 0, rfl, PacketsW.nil _ _ _, by repeat (first | (with_reducible exact Fr.refl _) | (with_reducible assumption) | (with_reducible refine Fr.drewN ?_ _) | (with_reducible refine Fr.drew ?_) | (with_reducible refine Fr.alloc ?_ _) | (with_reducible refine Fr.setCell ?_ (by (first | (with_reducible assumption) | omega | (simp only [World.size_alloc, World.size_setCell, World.size_drew, World.heap_drewN]; omega) | (simp; done) | (simp; omega))) _) | (with_reducible refine Fr.trans ?_ (by with_reducible assumption)))⟩
  · have hlb := linkB_took hb
    have hle := linkB_le hb
    obtain ⟨ss, a1, b⟩ := d
    simp only at *
    obtain ⟨a, rfl⟩ := Int.eq_ofNat_of_zero_le hlb.1
    obtain ⟨_, _, hb0, hb1⟩ := hlb
    have HB := Lib.hid hb
    clear hb
    have h3 := sendsN_le ⟨ss, (a : Int), b⟩
    obtain ⟨N, hN⟩ : ∃ N, sendsN ⟨ss, (a : Int), b⟩ = N := ⟨_, rfl⟩
    rw [hN] at h3
    have HN := Lib.hid hN
    clear hN
    go_enter Try.func37, Try.ntmps37
    go_wp2_with fail
    refine (implLinkOk_any _ ss _ b _ (hu.fr (by repeat (first | (with_reducible exact Fr.refl _) | (with_reducible assumption) | (with_reducible refine Fr.drewN ?_ _) | (with_reducible refine Fr.drew ?_) | (with_reducible refine Fr.alloc ?_ _) | (with_reducible refine Fr.setCell ?_ (by (first | (with_reducible assumption) | omega | (simp only [World.size_alloc, World.size_setCell, World.size_drew, World.heap_drewN]; omega) | (simp; done) | (simp; omega))) _) | (with_reducible refine Fr.trans ?_ (by with_reducible assumption)))))).mono ?_
    rintro e1 w1 ⟨rfl, hf1⟩
    rw [HB.out]
    have k0 := hf1.blk w.heap.size (by (first | (with_reducible assumption) | omega | (simp only [World.size_alloc, World.size_setCell, World.size_drew, World.heap_drewN]; omega) | (simp; done) | (simp; omega))); have z1 := hf1.size; (try simp only [World.size_alloc, World.size_setCell, World.size_drew] at z1)
    go_wp2_with fail
    refine (implLinkSends_any _ ⟨ss, (a : Int), b⟩ _ (hv.fr (by repeat (first | (with_reducible exact Fr.refl _) | (with_reducible assumption) | (with_reducible refine Fr.drewN ?_ _) | (with_reducible refine Fr.drew ?_) | (with_reducible refine Fr.alloc ?_ _) | (with_reducible refine Fr.setCell ?_ (by (first | (with_reducible assumption) | omega | (simp only [World.size_alloc, World.size_setCell, World.size_drew, World.heap_drewN]; omega) | (simp; done) | (simp; omega))) _) | (with_reducible refine Fr.trans ?_ (by with_reducible assumption)))))).mono ?_
    rintro e2 w2 ⟨ao, cap, rfl, os, hf2⟩
    have k0 := hf2.blk w.heap.size (by (first | (with_reducible assumption) | omega | (simp only [World.size_alloc, World.size_setCell, World.size_drew, World.heap_drewN]; omega) | (simp; done) | (simp; omega))); have z1 := hf2.size; (try simp only [World.size_alloc, World.size_setCell, World.size_drew] at z1)
    have hsl : (sendsL ⟨ss, (a : Int), b⟩).length = N := by rw [sendsL_length]; exact HN.out
    obtain ⟨ao, bs, is, cs, hval, hca, hma, fs⟩ := os.rd.one
    rw [hsl] at hval hca fs ⊢
    cases hval
    have hsat : ∀ j, j < N → iAt (sendsL ⟨ss, (a : Int), b⟩) j = (a : Int) + j + 1 := fun j hj => by unfold sendsL; rw [HN.out]; exact sends_at _ _ _ hj
    go_wp2_with fail
    go_loopw [9, 11, 20] (fun o n i wr => ∃ (k : Nat) (ao' : Option Addr) (cap' : Nat), k ≤ N ∧ i = .int .i64 k ∧ o = .slice ao' k cap' ∧ wr.ownsRow w2.heap.size 27 6 (.slice ao' k cap') k ((pkK ⟨ss, (a : Int), b⟩ e f t k).flatMap PacketR.cells) ∧ Fr w2 wr) (fun _ _ i _ => N - (intOf i).toNat)
    case atStart => exact ⟨0, none, 0, Nat.zero_le _, rfl, rfl, World.ownsRow_nil _ _ _ _, Fr.refl _⟩
    case round =>
      obtain ⟨k, ao', cap', hk, rfl, rfl, ho, hfr⟩ := hrel
      by_cases hlt : k < N
      · obtain ⟨h1, h2, h4⟩ := sendsN_lt (show k < sendsN ⟨ss, (a : Int), b⟩ by rw [HN.out]; exact hlt)
        simp only at h1 h2
        obtain ⟨rfl, hbs, fs⟩ := fs (by omega)
        have c1 : wr.cell? ⟨bs, is + k, none⟩ = some (.int .i64 ((a : Int) + k + 1)) := (hfr.cell (p := ⟨bs, _, none⟩) hbs).trans (by rw [fs k hlt, hsat k hlt])
        obtain ⟨x0, ba, oa, x1, hva, _, _, fa⟩ := hu.one
        cases hva
        obtain ⟨rfl, hba, fa⟩ := fa (by omega)
        have hE2 : Fr (w.alloc (.cells #[.slice (some ⟨ba, oa, none⟩) ss.length c0, .int .i64 (a : Int), .int .i64 b] 53)) w2 := by repeat (first | (with_reducible exact Fr.refl _) | (with_reducible assumption) | (with_reducible refine Fr.drewN ?_ _) | (with_reducible refine Fr.drew ?_) | (with_reducible refine Fr.alloc ?_ _) | (with_reducible refine Fr.setCell ?_ (by (first | (with_reducible assumption) | omega | (simp only [World.size_alloc, World.size_setCell, World.size_drew, World.heap_drewN]; omega) | (simp; done) | (simp; omega))) _) | (with_reducible refine Fr.trans ?_ (by with_reducible assumption)))
        have hw2 : Fr w w2 := Fr.trans ((Fr.refl w).alloc _) hE2
        have rs : ∀ w', Sf w2 w' → w'.cell? ⟨ba, oa + (a + k), none⟩ = some (.string (sAt ss (a + k))) := fun w' h => ((hw2.trans h.out).cell (p := ⟨ba, _, none⟩) hba).trans (fa (a + k) (by omega))
        have rb : ∀ w', Sf w2 w' → ∀ o, w'.cell? ⟨w.heap.size, o, none⟩ = #[.slice (some ⟨ba, oa, none⟩) ss.length c0, .int .i64 (a : Int), .int .i64 b][o]? := fun w' h o => Fr.box (hE2.trans h.out) o
        have hw3 : (0 : Int) ≤ (a : Int) + k := by omega
        have hw4 : (a : Int) + k < ss.length := by omega
        have hw5 : ((a : Int) + k).toNat = a + k := by omega
        have hw1 : IntKind.i64.wrap ((a : Int) + k + 1 - 1) = ((a : Int) + k) := by rw [IntWalk.i64_in _ (by omega)]; omega
        have hw6 : IntKind.i64.wrap ((a : Int) + k) = ((a : Int) + k) := IntWalk.i64_in _ (by clear hw1; omega)
        clear fs fa hw2 hE2
        go_wp2_with fail
        have hz := hfr.size
        go_region_held3 (fun w' => Sf w2 w') ((refine Sf.mk ?_; repeat (first | (with_reducible exact Fr.refl _) | (with_reducible assumption) | (with_reducible refine Fr.drewN ?_ _) | (with_reducible refine Fr.drew ?_) | (with_reducible refine Fr.alloc ?_ _) | (with_reducible refine Fr.setCell ?_ (by (first | (with_reducible assumption) | omega | (simp only [World.size_alloc, World.size_setCell, World.size_drew, World.heap_drewN]; omega) | (simp; done) | (simp; omega))) _) | (with_reducible refine Fr.trans ?_ (by with_reducible assumption))))) ((refine step_append_rd (by rfl) _ _ 61 (by rfl) w2.heap.size 27 i0 (.agg #[.int .i64 0, .int .i64 0, .int .i64 0, .int .i64 0, .int .i64 0, .string ⟨#[]⟩]) 6 56 Try.underlying61 hi hz0 hz1 hz2 rfl (by decide) (.slice ao' k cap') k ((pkK ⟨ss, (a : Int), b⟩ e f t k).flatMap PacketR.cells) (by rfl) (by exact owns_lo (owns_ab ho (by repeat (first | (with_reducible exact Ab.refl _ _) | (with_reducible assumption) | (with_reducible refine Ab.drewN ?_ _) | (with_reducible refine Ab.drew ?_) | (with_reducible refine Ab.alloc ?_ _) | (with_reducible refine Ab.setCell ?_ (by (first | (with_reducible assumption) | omega | (simp only [World.size_alloc, World.size_setCell, World.size_drew, World.heap_drewN]; omega) | (simp; done) | (simp; omega))) _) | (with_reducible refine Ab.fr ?_ (by with_reducible assumption))))) (by (first | (with_reducible assumption) | omega | (simp only [World.size_alloc, World.size_setCell, World.size_drew, World.heap_drewN]; omega) | (simp; done) | (simp; omega)))) _ 1 [.int .i64 e, .int .i64 f, .int .i64 t, .int .i64 ((a : Int) + k + 1), .int .i64 b, .string (sAt ss (a + k))] (by rfl) (RdS.new (by simp) rfl) (by simp [Value.oneCell']) (by unfold maxLen; omega) (by omega) (by (first | (with_reducible assumption) | omega | (simp only [World.size_alloc, World.size_setCell, World.size_drew, World.heap_drewN]; omega) | (simp; done) | (simp; omega))) ?_; intro ao3 cap3 w3 hown hgrow hat; have hf3 : Fr w2 w3 := Fr.app (show Fr w2 _ by repeat (first | (with_reducible exact Fr.refl _) | (with_reducible assumption) | (with_reducible refine Fr.drewN ?_ _) | (with_reducible refine Fr.drew ?_) | (with_reducible refine Fr.alloc ?_ _) | (with_reducible refine Fr.setCell ?_ (by (first | (with_reducible assumption) | omega | (simp only [World.size_alloc, World.size_setCell, World.size_drew, World.heap_drewN]; omega) | (simp; done) | (simp; omega))) _) | (with_reducible refine Fr.trans ?_ (by with_reducible assumption)))) hgrow (RowIn.of_owns ho) (Nat.le_refl _)))
        go_wp2_with fail
        have hs := pkK_succ ⟨ss, (a : Int), b⟩ e f t k
        simp only [Int.toNat_natCast] at hs
        rw [← hs] at hown
        clear hs hgrow
        go_roundw
        case rel => exact ⟨k + 1, ao3, cap3, by omega, by go_num, rfl, hown, hf3⟩
        case measure => (simp [intOf]; omega)
      · obtain rfl : k = N := by omega
        clear fs
        have hE2 : Fr (w.alloc (.cells #[.slice a0 ss.length c0, .int .i64 (a : Int), .int .i64 b] 53)) w2 := by repeat (first | (with_reducible exact Fr.refl _) | (with_reducible assumption) | (with_reducible refine Fr.drewN ?_ _) | (with_reducible refine Fr.drew ?_) | (with_reducible refine Fr.alloc ?_ _) | (with_reducible refine Fr.setCell ?_ (by (first | (with_reducible assumption) | omega | (simp only [World.size_alloc, World.size_setCell, World.size_drew, World.heap_drewN]; omega) | (simp; done) | (simp; omega))) _) | (with_reducible refine Fr.trans ?_ (by with_reducible assumption)))
        have hw2 : Fr w w2 := Fr.trans ((Fr.refl w).alloc _) hE2
        have hbx := fun o => Fr.box (hE2.trans hfr) o
        have hz := hfr.size
        obtain ⟨L, hL⟩ : ∃ L, pkOne ⟨ss, (a : Int), b⟩ e f t = L := ⟨_, rfl⟩
        have HL := Lib.hid hL
        have hL3 : L.length ≤ 3 := by rw [← hL]; exact pkOne_le _ _ _ _
        clear hL
        have hE2' := Lib.hid hE2
        by_cases hk0 : k = 0
        · subst hk0
          have ho0 : wr.ownsRow w2.heap.size 27 6 (.slice ao' 0 cap') 0 [] := ho
          clear ho
          by_cases hb2 : 0 < b
          · have hL2 : L = [⟨e, f, t, 0, b, ⟨#[]⟩⟩] := by rw [← HL.out]; unfold pkOne; rw [if_pos ⟨HN.out, hb2⟩]
            have hn : Hid (1 = L.length) := by rw [hL2]; (try rfl)
            have HL2 := Lib.hid hL2
            clear hL2
            go_wp2_with (at_builtin; refine wpList_append_rd rfl _ _ 61 rfl w2.heap.size 27 i0 (.agg #[.int .i64 0, .int .i64 0, .int .i64 0, .int .i64 0, .int .i64 0, .string ⟨#[]⟩]) 6 56 Try.underlying61 hi hz0 hz1 hz2 rfl (by decide) (.slice ao' 0 cap') 0 [] rfl (by exact owns_lo (owns_ab ho0 (by repeat (first | (with_reducible exact Ab.refl _ _) | (with_reducible assumption) | (with_reducible refine Ab.drewN ?_ _) | (with_reducible refine Ab.drew ?_) | (with_reducible refine Ab.alloc ?_ _) | (with_reducible refine Ab.setCell ?_ (by (first | (with_reducible assumption) | omega | (simp only [World.size_alloc, World.size_setCell, World.size_drew, World.heap_drewN]; omega) | (simp; done) | (simp; omega))) _) | (with_reducible refine Ab.fr ?_ (by with_reducible assumption))))) (by (first | (with_reducible assumption) | omega | (simp only [World.size_alloc, World.size_setCell, World.size_drew, World.heap_drewN]; omega) | (simp; done) | (simp; omega)))) _ 1 [.int .i64 e, .int .i64 f, .int .i64 t, .int .i64 0, .int .i64 b, .string ⟨#[]⟩] rfl (RdS.new (by simp) rfl) (by simp [Value.oneCell']) (by unfold maxLen; omega) (by omega) (by (first | (with_reducible assumption) | omega | (simp only [World.size_alloc, World.size_setCell, World.size_drew, World.heap_drewN]; omega) | (simp; done) | (simp; omega))) ?_; intro ao3 cap3 w3 hown hgrow hat; have hf3 : Fr w2 w3 := Fr.app (show Fr w2 _ by repeat (first | (with_reducible exact Fr.refl _) | (with_reducible assumption) | (with_reducible refine Fr.drewN ?_ _) | (with_reducible refine Fr.drew ?_) | (with_reducible refine Fr.alloc ?_ _) | (with_reducible refine Fr.setCell ?_ (by (first | (with_reducible assumption) | omega | (simp only [World.size_alloc, World.size_setCell, World.size_drew, World.heap_drewN]; omega) | (simp; done) | (simp; omega))) _) | (with_reducible refine Fr.trans ?_ (by with_reducible assumption)))) hgrow (RowIn.of_owns ho0) (Nat.le_refl _))
            have hX : w3.ownsRow w2.heap.size 27 6 (.slice ao3 1 cap3) 1 (L.flatMap PacketR.cells) := by rw [HL2.out]; exact hown
            clear hown hgrow hat ho0
            have hR : PacketsR w3 (.slice ao3 1 cap3) L := by have := RdS.of_owns hX; unfold PacketsR; rw [← hn.out]; exact this
            have hfX : Fr w w3 := Fr.trans (Fr.trans ((Fr.refl w).alloc _) hE2'.out) hf3
            obtain ⟨aq, bq, oq, cq, hvq, hcq, hmq, fq⟩ := hR.one
            rw [← hn.out] at hvq hcq fq
            cases hvq
            clear hR
            have hlow := hE2'.out.size; (try simp only [World.size_alloc] at hlow)
            have HX := Lib.hid hX
            clear hX
            go_loopw [13, 60] (fun _ i wr2 => ∃ j : Nat, j ≤ 1 ∧ i = .int .i64 j ∧ Fr w3 wr2 ∧ Hid (∀ m, m < j → pkOk (packetAt L m) = true)) (fun _ i _ => 1 - (intOf i).toNat)
            case atStart => exact ⟨0, Nat.zero_le _, rfl, Fr.refl _, fun m hm => absurd hm (by omega)⟩
            case round =>
              obtain ⟨j, hj, rfl, hfr2, hall⟩ := hrel
              by_cases hlj : j < 1
              · obtain ⟨rfl, hbq, fq⟩ := fq (by omega)
                obtain ⟨pp, hpp⟩ : ∃ pp, packetAt L j = pp := ⟨_, rfl⟩
                have fj := fq j hlj
                rw [hpp] at fj
                obtain ⟨f0, f1, f2, f3, f4, f5⟩ := fj
                have g0 := (hfr2.cell (p := ⟨bq, _, none⟩) hbq).trans f0
                have g1 := (hfr2.cell (p := ⟨bq, _, none⟩) hbq).trans f1
                have g2 := (hfr2.cell (p := ⟨bq, _, none⟩) hbq).trans f2
                have g3 := (hfr2.cell (p := ⟨bq, _, none⟩) hbq).trans f3
                have g4 := (hfr2.cell (p := ⟨bq, _, none⟩) hbq).trans f4
                have g5 := (hfr2.cell (p := ⟨bq, _, none⟩) hbq).trans f5
                have HPP := Lib.hid hpp
                clear fq f0 f1 f2 f3 f4 f5 hpp
                cases hp : pkOk pp
                · have hp' : pktB pp.f0 pp.f1 pp.f2 pp.f3 pp.f4 pp.f5 = false := hp
                  have HPK : Hid (pkL ⟨ss, (a : Int), b⟩ e f t = []) := by
                    unfold pkL
                    rw [HL.out, show L.all pkOk = false from not_all_getD default j (by rw [← hn.out]; exact hlj) (by show pkOk (packetAt L j) = false; rw [HPP.out]; exact hp), Bool.and_false]
                    rfl
                  clear hp
                  go_wp2_with (go_at_call 50; refine (implPacketOk_any pp.f0 pp.f1 pp.f2 pp.f3 pp.f4 pp.f5 _).mono ?_; rintro e' w' ⟨rfl, hf9⟩)
                  go_ret
                  rw [HPK.out]
                  exact ⟨none, 0, rfl, PacketsW.nil _ _ _, by repeat (first | (with_reducible exact Fr.refl _) | (with_reducible assumption) | (with_reducible refine Fr.drewN ?_ _) | (with_reducible refine Fr.drew ?_) | (with_reducible refine Fr.alloc ?_ _) | (with_reducible refine Fr.setCell ?_ (by (first | (with_reducible assumption) | omega | (simp only [World.size_alloc, World.size_setCell, World.size_drew, World.heap_drewN]; omega) | (simp; done) | (simp; omega))) _) | (with_reducible refine Fr.trans ?_ (by with_reducible assumption)))⟩
                · have hp' : pktB pp.f0 pp.f1 pp.f2 pp.f3 pp.f4 pp.f5 = true := hp
                  have HP := Lib.hid hp
                  clear hp
                  go_wp2_with (go_at_call 50; refine (implPacketOk_any pp.f0 pp.f1 pp.f2 pp.f3 pp.f4 pp.f5 _).mono ?_; rintro e' w' ⟨rfl, hf9⟩)
                  go_roundw
                  case rel => exact ⟨j + 1, by omega, by go_num, by repeat (first | (with_reducible exact Fr.refl _) | (with_reducible assumption) | (with_reducible refine Fr.drewN ?_ _) | (with_reducible refine Fr.drew ?_) | (with_reducible refine Fr.alloc ?_ _) | (with_reducible refine Fr.setCell ?_ (by (first | (with_reducible assumption) | omega | (simp only [World.size_alloc, World.size_setCell, World.size_drew, World.heap_drewN]; omega) | (simp; done) | (simp; omega))) _) | (with_reducible refine Fr.trans ?_ (by with_reducible assumption))), fun m hm => by rcases Nat.lt_succ_iff_lt_or_eq.1 hm with h | rfl; exact hall.out m h; rw [HPP.out]; exact HP.out⟩
                  case measure => (simp [intOf]; omega)
              · have HPK : Hid (pkL ⟨ss, (a : Int), b⟩ e f t = L) := by
                  unfold pkL
                  rw [HL.out, show L.all pkOk = true from all_getD default (fun m hm => hall.out m (by rw [← hn.out] at hm; omega)), Bool.and_true]
                  rw [if_pos HB.out]
                  exact rfl
                clear fq
                go_wp2
                go_ret
                rw [HPK.out, ← hn.out]
                exact ⟨_, _, rfl, by unfold PacketsW; rw [← hn.out]; exact OwW.mono (OwW.of_owns (owns_fr HX.out hfr2)) (by omega) (Nat.le_refl _), by repeat (first | (with_reducible exact Fr.refl _) | (with_reducible assumption) | (with_reducible refine Fr.drewN ?_ _) | (with_reducible refine Fr.drew ?_) | (with_reducible refine Fr.alloc ?_ _) | (with_reducible refine Fr.setCell ?_ (by (first | (with_reducible assumption) | omega | (simp only [World.size_alloc, World.size_setCell, World.size_drew, World.heap_drewN]; omega) | (simp; done) | (simp; omega))) _) | (with_reducible refine Fr.trans ?_ (by with_reducible assumption)))⟩
          · have hL2 : L = [] := by rw [← HL.out]; unfold pkOne; rw [if_neg (fun h => hb2 h.2), HN.out]; (try rfl)
            have hn : Hid (0 = L.length) := by rw [hL2]; (try rfl)
            have hX : wr.ownsRow w2.heap.size 27 6 (.slice ao' 0 cap') 0 (L.flatMap PacketR.cells) := by rw [hL2]; exact ho0
            clear hL2 ho0
            go_wp2_with fail
            have hR : PacketsR wr (.slice ao' 0 cap') L := by have := RdS.of_owns hX; unfold PacketsR; rw [← hn.out]; exact this
            have hfX : Fr w wr := Fr.trans (Fr.trans ((Fr.refl w).alloc _) hE2'.out) hfr
            obtain ⟨aq, bq, oq, cq, hvq, hcq, hmq, fq⟩ := hR.one
            rw [← hn.out] at hvq hcq fq
            cases hvq
            clear hR
            have hlow := hE2'.out.size; (try simp only [World.size_alloc] at hlow)
            have HX := Lib.hid hX
            clear hX
            go_loopw [13, 60] (fun _ i wr2 => ∃ j : Nat, j ≤ 0 ∧ i = .int .i64 j ∧ Fr wr wr2 ∧ Hid (∀ m, m < j → pkOk (packetAt L m) = true)) (fun _ i _ => 0 - (intOf i).toNat)
            case atStart => exact ⟨0, Nat.zero_le _, rfl, Fr.refl _, fun m hm => absurd hm (by omega)⟩
            case round =>
              obtain ⟨j, hj, rfl, hfr2, hall⟩ := hrel
              by_cases hlj : j < 0
              · exact absurd hlj (by omega)
              · have HPK : Hid (pkL ⟨ss, (a : Int), b⟩ e f t = L) := by
                  unfold pkL
                  rw [HL.out, show L.all pkOk = true from all_getD default (fun m hm => hall.out m (by rw [← hn.out] at hm; omega)), Bool.and_true]
                  rw [if_pos HB.out]
                  exact rfl
                clear fq
                go_wp2
                go_ret
                rw [HPK.out, ← hn.out]
                exact ⟨_, _, rfl, by unfold PacketsW; rw [← hn.out]; exact OwW.mono (OwW.of_owns (owns_fr HX.out hfr2)) (by omega) (Nat.le_refl _), by repeat (first | (with_reducible exact Fr.refl _) | (with_reducible assumption) | (with_reducible refine Fr.drewN ?_ _) | (with_reducible refine Fr.drew ?_) | (with_reducible refine Fr.alloc ?_ _) | (with_reducible refine Fr.setCell ?_ (by (first | (with_reducible assumption) | omega | (simp only [World.size_alloc, World.size_setCell, World.size_drew, World.heap_drewN]; omega) | (simp; done) | (simp; omega))) _) | (with_reducible refine Fr.trans ?_ (by with_reducible assumption)))⟩
        · have hL2 : L = pkK ⟨ss, (a : Int), b⟩ e f t k := by rw [← HL.out]; unfold pkOne; rw [if_neg (fun h => hk0 (by rw [← HN.out]; exact h.1)), HN.out]
          have hn : Hid (k = L.length) := by rw [hL2, pkK_length]; (try rfl)
          have hX : wr.ownsRow w2.heap.size 27 6 (.slice ao' k cap') k (L.flatMap PacketR.cells) := by rw [hL2]; exact ho
          have hd1 : (k == 0) = false := by simpa using hk0
          have hd2 : decide ((k : Int) = 0) = false := by simpa using hk0
          clear hL2 ho
          go_wp2_with fail
          have hR : PacketsR wr (.slice ao' k cap') L := by have := RdS.of_owns hX; unfold PacketsR; rw [← hn.out]; exact this
          have hfX : Fr w wr := Fr.trans (Fr.trans ((Fr.refl w).alloc _) hE2'.out) hfr
          obtain ⟨aq, bq, oq, cq, hvq, hcq, hmq, fq⟩ := hR.one
          rw [← hn.out] at hvq hcq fq
          cases hvq
          clear hR
          have hlow := hE2'.out.size; (try simp only [World.size_alloc] at hlow)
          have HX := Lib.hid hX
          clear hX
          go_loopw [13, 60] (fun _ i wr2 => ∃ j : Nat, j ≤ k ∧ i = .int .i64 j ∧ Fr wr wr2 ∧ Hid (∀ m, m < j → pkOk (packetAt L m) = true)) (fun _ i _ => k - (intOf i).toNat)
          case atStart => exact ⟨0, Nat.zero_le _, rfl, Fr.refl _, fun m hm => absurd hm (by omega)⟩
          case round =>
            obtain ⟨j, hj, rfl, hfr2, hall⟩ := hrel
            by_cases hlj : j < k
            · obtain ⟨rfl, hbq, fq⟩ := fq (by omega)
              obtain ⟨pp, hpp⟩ : ∃ pp, packetAt L j = pp := ⟨_, rfl⟩
              have fj := fq j hlj
              rw [hpp] at fj
              obtain ⟨f0, f1, f2, f3, f4, f5⟩ := fj
              have g0 := (hfr2.cell (p := ⟨bq, _, none⟩) hbq).trans f0
              have g1 := (hfr2.cell (p := ⟨bq, _, none⟩) hbq).trans f1
              have g2 := (hfr2.cell (p := ⟨bq, _, none⟩) hbq).trans f2
              have g3 := (hfr2.cell (p := ⟨bq, _, none⟩) hbq).trans f3
              have g4 := (hfr2.cell (p := ⟨bq, _, none⟩) hbq).trans f4
              have g5 := (hfr2.cell (p := ⟨bq, _, none⟩) hbq).trans f5
              have HPP := Lib.hid hpp
              clear fq f0 f1 f2 f3 f4 f5 hpp
              cases hp : pkOk pp
              · have hp' : pktB pp.f0 pp.f1 pp.f2 pp.f3 pp.f4 pp.f5 = false := hp
                have HPK : Hid (pkL ⟨ss, (a : Int), b⟩ e f t = []) := by
                  unfold pkL
                  rw [HL.out, show L.all pkOk = false from not_all_getD default j (by rw [← hn.out]; exact hlj) (by show pkOk (packetAt L j) = false; rw [HPP.out]; exact hp), Bool.and_false]
                  rfl
                clear hp
                go_wp2_with (go_at_call 50; refine (implPacketOk_any pp.f0 pp.f1 pp.f2 pp.f3 pp.f4 pp.f5 _).mono ?_; rintro e' w' ⟨rfl, hf9⟩)
                go_ret
                rw [HPK.out]
                exact ⟨none, 0, rfl, PacketsW.nil _ _ _, by repeat (first | (with_reducible exact Fr.refl _) | (with_reducible assumption) | (with_reducible refine Fr.drewN ?_ _) | (with_reducible refine Fr.drew ?_) | (with_reducible refine Fr.alloc ?_ _) | (with_reducible refine Fr.setCell ?_ (by (first | (with_reducible assumption) | omega | (simp only [World.size_alloc, World.size_setCell, World.size_drew, World.heap_drewN]; omega) | (simp; done) | (simp; omega))) _) | (with_reducible refine Fr.trans ?_ (by with_reducible assumption)))⟩
              · have hp' : pktB pp.f0 pp.f1 pp.f2 pp.f3 pp.f4 pp.f5 = true := hp
                have HP := Lib.hid hp
                clear hp
                go_wp2_with (go_at_call 50; refine (implPacketOk_any pp.f0 pp.f1 pp.f2 pp.f3 pp.f4 pp.f5 _).mono ?_; rintro e' w' ⟨rfl, hf9⟩)
                go_roundw
                case rel => exact ⟨j + 1, by omega, by go_num, by repeat (first | (with_reducible exact Fr.refl _) | (with_reducible assumption) | (with_reducible refine Fr.drewN ?_ _) | (with_reducible refine Fr.drew ?_) | (with_reducible refine Fr.alloc ?_ _) | (with_reducible refine Fr.setCell ?_ (by (first | (with_reducible assumption) | omega | (simp only [World.size_alloc, World.size_setCell, World.size_drew, World.heap_drewN]; omega) | (simp; done) | (simp; omega))) _) | (with_reducible refine Fr.trans ?_ (by with_reducible assumption))), fun m hm => by rcases Nat.lt_succ_iff_lt_or_eq.1 hm with h | rfl; exact hall.out m h; rw [HPP.out]; exact HP.out⟩
                case measure => (simp [intOf]; omega)
            · have HPK : Hid (pkL ⟨ss, (a : Int), b⟩ e f t = L) := by
                unfold pkL
                rw [HL.out, show L.all pkOk = true from all_getD default (fun m hm => hall.out m (by rw [← hn.out] at hm; omega)), Bool.and_true]
                rw [if_pos HB.out]
                exact rfl
              clear fq
              go_wp2
              go_ret
              rw [HPK.out, ← hn.out]
              exact ⟨_, _, rfl, by unfold PacketsW; rw [← hn.out]; exact OwW.mono (OwW.of_owns (owns_fr HX.out hfr2)) (by omega) (Nat.le_refl _), by repeat (first | (with_reducible exact Fr.refl _) | (with_reducible assumption) | (with_reducible refine Fr.drewN ?_ _) | (with_reducible refine Fr.drew ?_) | (with_reducible refine Fr.alloc ?_ _) | (with_reducible refine Fr.setCell ?_ (by (first | (with_reducible assumption) | omega | (simp only [World.size_alloc, World.size_setCell, World.size_drew, World.heap_drewN]; omega) | (simp; done) | (simp; omega))) _) | (with_reducible refine Fr.trans ?_ (by with_reducible assumption)))⟩
end Go.Proofs.Ytnlcgffffjjojaa
