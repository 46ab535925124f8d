/- A roaming's rows in a set of blocks (RoamS), for a box that lies among them. No condition. -/
import Derived.Test.YtmdgdnkllclpcaaGreatRsp
namespace Go.Proofs.YtmdgdnkllclpcaaGreat
open Go.RowKit
set_option linter.unusedVariables false
set_option linter.unusedSimpArgs false
structure RoamS (w:World) (S:Nat→Prop) (u1 u2:Value) (L1:List (Itm (List WalkR))) (L2:List (Itm ParcelD)):Prop where
 ex: ∃ B1 B2:Nat→Prop,NestV WalkssEW 37 1 w B1 u1 L1∧NestV ParcelEW 155 2 w B2 u2 L2∧(∀ g,B1 g→ ¬ B2 g)∧ ∀ g,B1 g∨B2 g→S g
section
variable {w w' w5:World} {S:Nat→Prop} {lo hi:Nat} {u1 u2 v':Value} {L1:List (Itm (List WalkR))} {L2 M:List (Itm ParcelD)}
theorem RoamS.tch {D:Nat→Prop} (h:RoamS w S u1 u2 L1 L2) (t:Tch D w w') (hd: ∀ g,S g→ ¬ D g):RoamS w' S u1 u2 L1 L2:=by
 obtain⟨B1,B2,a,b,c,e⟩:=h.ex
 exact⟨B1,B2,a.tch WalkssEW.keeps t fun g hg=>hd g (e g (.inl hg)),b.tch ParcelEW.keeps t fun g hg=>hd g (e g (.inr hg)),c,e⟩
theorem RoamS.fr (h:RoamS w S u1 u2 L1 L2) (hf:Fr w w'):RoamS w' S u1 u2 L1 L2:=h.tch (Tch.of_fr (B:=fun _=>False) hf) fun _ _ k=>k
theorem RoamS.set (h:RoamS w S u1 u2 L1 L2) {p:Addr} (hp: ¬ S p.block) (u:Value):RoamS (w.setCell p u) S u1 u2 L1 L2:=
 h.tch (Tch.set (B:=fun g=>g=p.block) (Tch.refl _ w) (.inl rfl) u) fun g h1 e=>hp (e▸h1)
theorem RoamS.own1 (h:RoamS w S u1 u2 L1 L2):w.ownsRow 0 37 1 u1 L1.length (L1.map Itm.u).flatten:=by obtain⟨B1,B2,a,b,c,e⟩:=h.ex;exact a.own
theorem RoamS.own2 (h:RoamS w S u1 u2 L1 L2):w.ownsRow 0 155 2 u2 L2.length (L2.map Itm.u).flatten:=by obtain⟨B1,B2,a,b,c,e⟩:=h.ex;exact b.own
theorem RoamS.in1 (h:RoamS w S u1 u2 L1 L2): ∀ g,u1.ownBlock=some g→S g:=by obtain⟨B1,B2,a,b,c,e⟩:=h.ex;exact fun g hg=>e g (.inl (a.blk g hg))
theorem RoamS.in2 (h:RoamS w S u1 u2 L1 L2): ∀ g,u2.ownBlock=some g→S g:=by obtain⟨B1,B2,a,b,c,e⟩:=h.ex;exact fun g hg=>e g (.inr (b.blk g hg))
theorem RoamS.v (h:RoamS w S u1 u2 L1 L2) (hs: ∀ g,S g→lo≤g∧g<hi):RoamV w lo hi u1 u2 L1 L2:=by
 obtain⟨B1,B2,a,b,c,e⟩:=h.ex
 exact⟨B1,B2,a,b,c,fun g hg=>hs g (e g hg)⟩
theorem RoamV.s (h:RoamV w lo hi u1 u2 L1 L2):RoamS w (fun g=>lo≤g∧g<hi) u1 u2 L1 L2:=by
 obtain⟨B1,B2,a,b,c,e⟩:=h.ex
 exact⟨B1,B2,a,b,c,e⟩
theorem RoamS.sub (h:RoamS w S u1 u2 L1 L2) {S':Nat→Prop} (hs: ∀ g,S g→S' g):RoamS w S' u1 u2 L1 L2:=by
 obtain⟨B1,B2,a,b,c,e⟩:=h.ex
 exact⟨B1,B2,a,b,c,fun g hg=>hs g (e g hg)⟩
/-- Another walks' row, by its place. -/
theorem RoamS.putk {A B : List (Itm (List WalkR))} {i j : Itm (List WalkR)} {g n cap k : Nat} {c : Value} (h : RoamS w S (.slice (some ⟨g, 0, none⟩) n cap) u2 L1 L2) (hs : L1 = A ++ i :: B) (hk : A.length = k) (hj : j.u = [c]) (he : WalkssEW w j.l j.h j.u j.x) (h3 : ∀ q, S q → q < j.l) (h4 : j.l ≤ j.h) :
  RoamS (w.setCell ⟨g, k, none⟩ c) (fun q => S q ∨ (j.l ≤ q ∧ q < j.h)) (.slice (some ⟨g, 0, none⟩) n cap) u2 (A ++ j :: B) L2 ∧ (A ++ j :: B).length = L1.length := by
 subst hs hk
 refine ⟨?_, by simp⟩
 obtain ⟨B1, B2, a, b, d, e⟩ := h.ex
 have hg : B1 g := a.blk g rfl
 have hgr := h3 g (e g (.inl hg))
 have t : Tch (fun q => q = g) w (w.setCell ⟨g, A.length, none⟩ c) := Tch.set (B := fun q => q = g) (p := ⟨g, A.length, none⟩) (Tch.refl _ w) (.inl rfl) c
 have hn := a.own
 have hnl : n = (A ++ i :: B).length := by
  rcases owns_shape hn with ⟨k, _⟩ | ⟨g', c', k, _⟩
  · cases k
  · cases k; rfl
 subst hnl
 have hst := World.ownsRow.stored hn A.length c
 have hfs := flatten_set (sz := 1) a.els.lens A.length 0 i.u c (by simp) (by omega)
 rw [Nat.mul_one, Nat.add_zero] at hfs
 have hu1 := (a.els.mid).1
 have hset : i.u.set 0 c = j.u := by
  rw [hj]
  match hiu : i.u, hu1 with
  | [x], _ => rfl
 rw [hset] at hfs
 have hlist : ((A ++ i :: B).map Itm.u).set A.length j.u = (A ++ j :: B).map Itm.u := by
  rw [List.map_append, List.map_cons, List.map_append, List.map_cons, List.set_append_right _ _ (by simp)]
  simp
 rw [hlist] at hfs
 have e1 := (a.els.tch WalkssEW.keeps t (fun q k e => k.2 (by rw [e]; rfl))).swap (j := j) (by rw [hj]; rfl) (WalkssEW.keeps he t (fun q q1 q2 e => by omega)) h4 (fun q q1 q2 k => by have := h3 q (e q (.inl k.1)); omega)
 refine ⟨fun q => B1 q ∨ (j.l ≤ q ∧ q < j.h), B2, ⟨?_, fun q k => .inl (a.blk q k), e1.sub fun q k => ?_⟩, b.tch ParcelEW.keeps t (fun q k1 k2 => d q (k2 ▸ hg) k1), fun q k1 k2 => ?_, fun q k => ?_⟩
 · have h6 := hst.1
   rw [hfs] at h6
   have hl2 : (A ++ j :: B).length = (A ++ i :: B).length := by simp
   rw [hl2]
   exact h6
 · rcases k with k | k
   · exact ⟨.inl k.1, k.2⟩
   · exact ⟨.inr k, fun h7 => by have : g = q := by simpa [Value.ownBlock] using h7
                                 omega⟩
 · rcases k1 with k1 | k1
   · exact d q k1 k2
   · have := h3 q (e q (.inr k2)); omega
 · rcases k with (k | k) | k
   · exact .inl (e q (.inl k))
   · exact .inr k
   · exact .inl (e q (.inr k))
/-- Parcels more. -/
theorem RoamS.add2 (h:RoamS w S u1 u2 L1 L2) {l0 h0:Nat} (hM:ElsV ParcelEW 2 w (fun g=>l0≤g∧g<h0) M) (hi3: ∀ q,S q→q<l0∧q<w.heap.size) (hi5:h0≤w.heap.size)
  (hown:w5.ownsRow 0 155 2 v' (L2.length+M.length) ((L2.map Itm.u).flatten++(M.map Itm.u).flatten)) (hg:w.grownBy w5 u2.ownBlock) (hat:v'.ownBlock=u2.ownBlock∨v'.ownBlock=some w.heap.size):RoamS w5 (fun q=>S q∨(l0≤q∧q<h0)∨v'.ownBlock=some q) u1 v' L1 (L2++M):=by
 obtain⟨B1,B2,a,b,c,e⟩:=h.ex
 have hb1: ∀ g,B1 g→g<l0∧g<w.heap.size:=fun g k=>hi3 g (e g (.inl k))
 have hb2: ∀ g,B2 g→g<l0∧g<w.heap.size:=fun g k=>hi3 g (e g (.inr k))
 have hv: ∀ g,v'.ownBlock=some g→u2.ownBlock=some g∨g=w.heap.size:=fun g k=>by
  rcases hat with q|q
  · exact .inl (q▸k)
  · rw[q]at k;cases k;exact .inr rfl
 refine⟨B1,_,a.tch WalkssEW.keeps (Tch.of_gr (B:=fun g=>u2.ownBlock=some g) hg fun i hi=>hi) (fun g k1 k2=>c g k1 (b.blk g k2)),b.join ParcelEW.keeps hM (fun g k1 k2=>by have:=hb2 g k1;omega) hown hg (fun g k=>?_),fun g k2 k1=>?_,fun g k=>?_⟩
 · rcases hv g k with q|q
   · exact .inl q
   · exact .inr ⟨fun k1=>by have:=hb2 g k1;omega,fun k1=>by omega⟩
 · have:=hb1 g k2
   rcases k1 with k1|k1|k1
   · exact c g k2 k1
   · omega
   · rcases hv g k1 with q|q
     · exact c g k2 (b.blk g q)
     · omega
 · rcases k with k|(k|k|k)
   · exact .inl (e g (.inl k))
   · exact .inl (e g (.inr k))
   · exact .inr (.inl k)
   · exact .inr (.inr k)
end
end Go.Proofs.YtmdgdnkllclpcaaGreat
