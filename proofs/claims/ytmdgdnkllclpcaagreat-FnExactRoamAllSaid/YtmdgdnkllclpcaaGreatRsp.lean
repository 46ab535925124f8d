/- A parcel taken: what the step leaves, plain; the rows in the world. No condition. -/
import Derived.Test.YtmdgdnkllclpcaaGreatGNWalkSS2
import Derived.Test.YtmdgdnkllclpcaaGreatGParP
namespace Go.Proofs.YtmdgdnkllclpcaaGreat
open Go.RowKit
set_option linter.unusedVariables false
set_option linter.unusedSimpArgs false
def takeP (g:GraphD) (q:QueryD) (n:Int) (r:RoamD) (p:ParcelD):List WalkR×List WalkR:=takeQ (partG g p.f0 n) q p.f0 n (nAt r.f0 p.f0.toNat) p.f1
def rstR (g:GraphD) (q:QueryD) (n:Int) (r:RoamD) (k:Nat):RoamD:=⟨r.f0.set (nAt r.f1 k).f0.toNat (takeP g q n r (nAt r.f1 k)).1,r.f1.eraseIdx k++parAll (takeP g q n r (nAt r.f1 k)).2 n⟩
def rstOk (g:GraphD) (q:QueryD) (n:Int) (r:RoamD) (k:Int):Bool:=decide (0<r.f1.length)&&(decide (0≤k)&&(newOk g q n&&(decide ((r.f0.length:Int)=n)&&decide (0≤(nAt r.f1 (k.toNat%r.f1.length)).f0∧(nAt r.f1 (k.toNat%r.f1.length)).f0<n))))
def rstD (g:GraphD) (q:QueryD) (n:Int) (r:RoamD) (k:Int):RoamD:=if rstOk g q n r k=true then rstR g q n r (k.toNat%r.f1.length)else r
theorem rstD_no {g:GraphD} {q:QueryD} {n:Int} {r:RoamD} {k:Int} (h:rstOk g q n r k=false):rstD g q n r k=r:=by unfold rstD;rw[h];rfl
theorem rstD_yes {g:GraphD} {q:QueryD} {n:Int} {r:RoamD} {k:Int} (h:rstOk g q n r k=true):rstD g q n r k=rstR g q n r (k.toNat%r.f1.length):=by unfold rstD;rw[if_pos h]
theorem take_bulk {g:GraphD} {q:QueryD} {n:Int} {r:RoamD} {p:ParcelD}:(takeP g q n r p).1.length≤(nAt r.f0 p.f0.toNat).length+p.f1.length*289∧(takeP g q n r p).2.length≤p.f1.length*289:=take_bnd _ _ _ _ _ _
/-! ### how much there is -/
theorem cnt_rows (ds:List (List WalkR)):WalkSSCnt ds≤4*WalkSSBulk ds:=by
 have h: ∀ ds:List (List WalkR),WalkSSCnt ds=4*(ds.map List.length).sum:=by
  intro ds
  induction ds with
  |nil=>rfl
  |cons d ds ih=>rw[WalkSSCnt_cons,ih,List.map_cons,List.sum_cons];omega
 rw[h]
 unfold WalkSSBulk nBulk nSum
 rw[List.take_length]
 omega
theorem cnt_parcels (ds:List ParcelD):ParcelSCnt ds≤5*ParcelSBulk ds:=by
 have h: ∀ ds:List ParcelD,ParcelSCnt ds≤5*(ds.length+(ds.map ParcelD.bulk).sum):=by
  intro ds
  induction ds with
  |nil=>simp[ParcelSCnt]
  |cons d ds ih=>
   rw[ParcelSCnt_cons,List.map_cons,List.sum_cons,List.length_cons]
   unfold ParcelCnt1
   have:d.f1.length≤d.bulk:=by unfold ParcelD.bulk;omega
   omega
 have:=h ds
 unfold ParcelSBulk nBulk nSum
 rw[List.take_length]
 omega
theorem cnt_bulk (d:RoamD):d.cnt≤5*d.bulk:=by
 have h1:=cnt_rows d.f0
 have h2:=cnt_parcels d.f1
 unfold RoamD.cnt RoamD.bulk
 omega
theorem cnt_set: ∀ (ds:List (List WalkR)) (i:Nat) (x:List WalkR),WalkSSCnt (ds.set i x)≤WalkSSCnt ds+4*x.length
 |[],i,x=>by simp[WalkSSCnt]
 |d::ds,0,x=>by rw[List.set_cons_zero,WalkSSCnt_cons,WalkSSCnt_cons];omega
 |d::ds,i+1,x=>by rw[List.set_cons_succ,WalkSSCnt_cons,WalkSSCnt_cons];have:=cnt_set ds i x;omega
theorem cnt_erase: ∀ (ds:List ParcelD) (i:Nat),ParcelSCnt (ds.eraseIdx i)≤ParcelSCnt ds
 |[],i=>by simp
 |d::ds,0=>by rw[List.eraseIdx_cons_zero,ParcelSCnt_cons];omega
 |d::ds,i+1=>by rw[List.eraseIdx_cons_succ,ParcelSCnt_cons,ParcelSCnt_cons];have:=cnt_erase ds i;omega
theorem rstD_cnt (g:GraphD) (q:QueryD) (n:Int) (r:RoamD) (k:Int) (hb:r.bulk≤1048576) (h0: ∀ i,i<r.f0.length→(nAt r.f0 i).length≤1048576) (h1: ∀ i,i<r.f1.length→(nAt r.f1 i).f1.length≤1048576):(rstD g q n r k).cnt≤1000000000000:=by
 by_cases hs:rstOk g q n r k=true
 · rw[rstD_yes hs]
   have hs2:=hs
   unfold rstOk at hs2
   simp only[Bool.and_eq_true,decide_eq_true_eq]at hs2
   obtain⟨a1,a2,a3,a4,a5,a6⟩:=hs2
   have hk:k.toNat%r.f1.length<r.f1.length:=Nat.mod_lt _ a1
   generalize k.toNat%r.f1.length=m at*
   have hp:=h1 m hk
   have hq:=h0 (nAt r.f1 m).f0.toNat (by omega)
   have ht:=take_bulk (g:=g) (q:=q) (n:=n) (r:=r) (p:=nAt r.f1 m)
   have hc:=cnt_bulk r
   have h2:=cnt_set r.f0 (nAt r.f1 m).f0.toNat (takeP g q n r (nAt r.f1 m)).1
   have h3:=cnt_erase r.f1 m
   have h4:=(parAll_few (takeP g q n r (nAt r.f1 m)).2 n).2
   unfold RoamD.cnt at hc ⊢
   simp only[rstR,ParcelSCnt_append]
   omega
 · rw[rstD_no (by simpa using hs)]
   have:=cnt_bulk r
   omega
/-! ### in the world -/
section
variable {w w' w5:World} {lo hi:Nat} {u1 u2 v':Value} {L1:List (Itm (List WalkR))} {L2:List (Itm ParcelD)}
theorem RoamV.alloc (h:RoamV w lo hi u1 u2 L1 L2) (o:Obj):RoamV (w.alloc o) lo hi u1 u2 L1 L2:=h.fr ((Fr.refl _).alloc o)
theorem RoamV.drewN (h:RoamV w lo hi u1 u2 L1 L2) (n:Nat):RoamV (w.drewN n) lo hi u1 u2 L1 L2:=h.fr ((Fr.refl _).drewN n)
theorem itm_split {α:Type} {L:List (Itm α)} {k:Nat} (h:k<L.length): ∃ A i B,L=A++i::B∧A.length=k:=⟨L.take k,L[k],L.drop (k+1),by rw[← List.drop_eq_getElem_cons h,List.take_append_drop],by simp;omega⟩
theorem itm_at {α:Type} [Inhabited α] {A B:List (Itm α)} {i:Itm α} {xs:List α} (h:(A++i::B).map Itm.x=xs):nAt xs A.length=i.x:=by
 subst h
 simp[nAt,List.getD]
theorem itm_set {α:Type} {A B:List (Itm α)} {i j:Itm α} {xs:List α} (h:(A++i::B).map Itm.x=xs):(A++j::B).map Itm.x=xs.set A.length j.x:=by
 subst h
 rw[List.map_append,List.map_cons,List.map_append,List.map_cons,List.set_append_right _ _ (by simp)]
 simp
theorem itm_erase {α:Type} {A B:List (Itm α)} {i:Itm α} {xs:List α} (h:(A++i::B).map Itm.x=xs):(A++B).map Itm.x=xs.eraseIdx A.length:=by
 subst h
 rw[List.map_append,List.map_append,List.map_cons,List.eraseIdx_append_of_length_le (by simp)]
 simp
/-- One walks' row of a roaming, where it is kept. -/
theorem RoamV.at1 {A B:List (Itm (List WalkR))} {i:Itm (List WalkR)} (h:RoamV w lo hi u1 u2 (A++i::B) L2): ∃ g cap a c,u1= .slice (some ⟨g,0,none⟩) (A++i::B).length cap∧lo≤g∧g<hi∧g<w.heap.size∧w.cell? ⟨g,A.length,none⟩=some (.slice a i.x.length c)∧w.frozen? ⟨g,A.length,none⟩=false∧WalksR w (.slice a i.x.length c) i.x:=by
 obtain⟨B1,B2,a,b,c,e⟩:=h.ex
 obtain⟨c1,⟨ao,co,hu,hw⟩,c3,c4,c5⟩:=a.els.mid
 rcases owns_shape a.own with⟨_,hn,_⟩|⟨g,cap,hv,hgr⟩
 · simp at hn
 have hb:=e g (.inl (a.blk g (by rw[hv];rfl)))
 refine⟨g,cap,ao,co,hv,hb.1,hb.2,(World.ownsRow.lt (hv▸a.own) g rfl).2,?_,(hv▸a.own).frozenAt _,hw.rd⟩
 have h1:=World.ownsRow.cellAt (hv▸a.own) A.length (by simp)
 rw[h1]
 have h2:=flatten_at (sz:=1) a.els.lens A.length i.u (by simp) 0 (by omega)
 rw[Nat.mul_one,Nat.add_zero]at h2
 rw[h2,hu];rfl
/-- One parcel of a roaming, where it is kept. -/
theorem RoamV.at2 {A B:List (Itm ParcelD)} {i:Itm ParcelD} (h:RoamV w lo hi u1 u2 L1 (A++i::B)): ∃ g cap a c,u2= .slice (some ⟨g,0,none⟩) (A++i::B).length cap∧(A++i::B).length≤cap∧cap≤9223372036854775807∧lo≤g∧g<hi∧g<w.heap.size∧w.cell? ⟨g,A.length*2,none⟩=some (.int .i64 i.x.f0)∧w.cell? ⟨g,A.length*2+1,none⟩=some (.slice a i.x.f1.length c)∧WalksW w i.l i.h (.slice a i.x.f1.length c) i.x.f1∧ ∀ q,i.l≤q→q<i.h→(lo≤q∧q<hi)∧u2.ownBlock≠some q∧u1.ownBlock≠some q:=by
 obtain⟨B1,B2,a,b,c,e⟩:=h.ex
 obtain⟨c1,⟨ao,co,hu,hw⟩,c3,c4,c5⟩:=b.els.mid
 rcases owns_shape b.own with⟨_,hn,_⟩|⟨g,cap,hv,_,_,g3,g4⟩
 · simp at hn
 have hb:=e g (.inr (b.blk g (by rw[hv];rfl)))
 have hm:cap≤9223372036854775807:=by unfold maxLen at g4;omega
 have hcell: ∀ j,j<2→w.cell? ⟨g,A.length*2+j,none⟩=i.u[j]? :=fun j hj=>by
  have h1:=World.ownsRow.cellAt (hv▸b.own) (A.length*2+j) (by simp;omega)
  rw[h1]
  exact flatten_at (sz:=2) b.els.lens A.length i.u (by simp) j hj
 refine⟨g,cap,ao,co,hv,g3,hm,hb.1,hb.2,(World.ownsRow.lt (hv▸b.own) g rfl).2,?_,?_,hw,fun q q1 q2=>⟨e q (.inr (c4 q q1 q2).1),(c4 q q1 q2).2,fun k=>c q (a.blk q k) (c4 q q1 q2).1⟩⟩
 · have:=hcell 0 (by omega)
   rw[Nat.add_zero,hu]at this
   exact this
 · have:=hcell 1 (by omega)
   rw[hu]at this
   exact this
/-- A parcel less: behind a deletion in place. -/
theorem RoamV.del {A B:List (Itm ParcelD)} {i:Itm ParcelD} (h:RoamV w lo hi u1 u2 L1 (A++i::B)) (hown:w5.ownsRow 0 155 2 v' (A++B).length ((A++B).map Itm.u).flatten) (hg:w.grownBy w5 u2.ownBlock) (hat:v'.ownBlock=u2.ownBlock):RoamV w5 lo hi u1 v' L1 (A++B):=by
 obtain⟨B1,B2,a,b,c,e⟩:=h.ex
 have t:Tch (fun g=>u2.ownBlock=some g) w w5:=Tch.of_gr hg fun i hi=>hi
 refine⟨B1,B2,a.tch WalkssEW.keeps t (fun g k1 k2=>c g k1 (b.blk g k2)),⟨hown,fun g k=>b.blk g (hat▸k),?_⟩,c,e⟩
 have h1:=(b.els.sublist (M:=A++B) (List.Sublist.append (List.Sublist.refl _) (List.sublist_cons_self _ _))).tch ParcelEW.keeps t (fun g k=>k.2)
 rw[hat]
 exact h1
/-- A walks' row put in the place of another. -/
theorem RoamV.put1 {A B : List (Itm (List WalkR))} {i j : Itm (List WalkR)} {g n cap : Nat} {c : Value} (h : RoamV w lo hi (.slice (some ⟨g, 0, none⟩) n cap) u2 (A ++ i :: B) L2) (hj : j.u = [c]) (he : WalkssEW w j.l j.h j.u j.x) (h3 : hi ≤ j.l) (h4 : j.l ≤ j.h) (h5 : j.h ≤ w.heap.size) (hhw : hi ≤ w.heap.size) (hlo : lo ≤ hi) :
  RoamV (w.setCell ⟨g, A.length, none⟩ c) lo w.heap.size (.slice (some ⟨g, 0, none⟩) n cap) u2 (A ++ j :: B) L2 := by
 obtain ⟨B1, B2, a, b, d, e⟩ := h.ex
 have hg : B1 g := a.blk g rfl
 have hgr := e g (.inl hg)
 have t : Tch (fun q => q = g) w (w.setCell ⟨g, A.length, none⟩ c) := Tch.set (B := fun q => q = g) (p := ⟨g, A.length, none⟩) (Tch.refl _ w) (.inl rfl) c
 have hn := a.own
 have hnl : n = (A ++ i :: B).length := by
  rcases owns_shape hn with ⟨k, _⟩ | ⟨g', c', k, _⟩
  · cases k
  · cases k; rfl
 subst hnl
 have hst := World.ownsRow.stored hn A.length c
 have hfs := flatten_set (sz := 1) a.els.lens A.length 0 i.u c (by simp) (by omega)
 rw [Nat.mul_one, Nat.add_zero] at hfs
 have hu1 := (a.els.mid).1
 have hset : i.u.set 0 c = j.u := by
  rw [hj]
  match hiu : i.u, hu1 with
  | [x], _ => rfl
 rw [hset] at hfs
 have hlist : ((A ++ i :: B).map Itm.u).set A.length j.u = (A ++ j :: B).map Itm.u := by
  rw [List.map_append, List.map_cons, List.map_append, List.map_cons, List.set_append_right _ _ (by simp)]
  simp
 rw [hlist] at hfs
 have e1 := (a.els.tch WalkssEW.keeps t (fun q k e => k.2 (by rw [e]; rfl))).swap (j := j) (by rw [hj]; rfl) (WalkssEW.keeps he t (fun q q1 q2 e => by omega)) h4 (fun q q1 q2 k => by have := e q (.inl k.1); omega)
 refine ⟨fun q => B1 q ∨ (j.l ≤ q ∧ q < j.h), B2, ⟨?_, fun q k => .inl (a.blk q k), e1.sub fun q k => ?_⟩, b.tch ParcelEW.keeps t (fun q k1 k2 => d q (k2 ▸ hg) k1), fun q k1 k2 => ?_, fun q k => ?_⟩
 · have h6 := hst.1
   rw [hfs] at h6
   have hl2 : (A ++ j :: B).length = (A ++ i :: B).length := by simp
   rw [hl2]
   exact h6
 · rcases k with k | k
   · exact ⟨.inl k.1, k.2⟩
   · exact ⟨.inr k, fun h7 => by have : g = q := by simpa [Value.ownBlock] using h7
                                 omega⟩
 · rcases k1 with k1 | k1
   · exact d q k1 k2
   · have := e q (.inr k2); omega
 · rcases k with (k | k) | k
   · have := e q (.inl k); omega
   · omega
   · have := e q (.inr k); omega
theorem RoamV.at1k {k:Nat} (h:RoamV w lo hi u1 u2 L1 L2) (hk:k<L1.length): ∃ A i B g cap a c,L1=A++i::B∧A.length=k∧u1= .slice (some ⟨g,0,none⟩) L1.length cap∧lo≤g∧g<hi∧g<w.heap.size∧w.cell? ⟨g,k,none⟩=some (.slice a i.x.length c)∧w.frozen? ⟨g,k,none⟩=false∧WalksR w (.slice a i.x.length c) i.x:=by
 obtain⟨A,i,B,rfl,rfl⟩:=itm_split hk
 obtain⟨g,cap,a,c,h1⟩:=h.at1
 exact⟨A,i,B,g,cap,a,c,rfl,rfl,h1⟩
theorem RoamV.at2k {k:Nat} (h:RoamV w lo hi u1 u2 L1 L2) (hk:k<L2.length): ∃ A i B g cap a c,L2=A++i::B∧A.length=k∧u2= .slice (some ⟨g,0,none⟩) L2.length cap∧L2.length≤cap∧cap≤9223372036854775807∧lo≤g∧g<hi∧g<w.heap.size∧w.cell? ⟨g,k*2,none⟩=some (.int .i64 i.x.f0)∧w.cell? ⟨g,k*2+1,none⟩=some (.slice a i.x.f1.length c)∧WalksW w i.l i.h (.slice a i.x.f1.length c) i.x.f1∧ ∀ q,i.l≤q→q<i.h→(lo≤q∧q<hi)∧u2.ownBlock≠some q∧u1.ownBlock≠some q:=by
 obtain⟨A,i,B,rfl,rfl⟩:=itm_split hk
 obtain⟨g,cap,a,c,h1⟩:=h.at2
 exact⟨A,i,B,g,cap,a,c,rfl,rfl,h1⟩
theorem RoamV.two (h:RoamV w lo hi u1 u2 L1 L2):(∀ u∈L2.map Itm.u,u.length=2)∧ ∀ v∈(L2.map Itm.u).flatten,v.oneCell'=true:=by
 obtain⟨B1,B2,a,b,c,e⟩:=h.ex
 refine⟨b.els.lens,fun u hu=>?_⟩
 obtain⟨l,hl,hul⟩:=List.mem_flatten.1 hu
 obtain⟨i,hi',rfl⟩:=List.mem_map.1 hl
 obtain⟨_,⟨ao,cap,e,_⟩,_⟩:=b.els.el i hi'
 rw[e]at hul
 simp at hul
 rcases hul with rfl|rfl<;>rfl
/-- A parcel less, by its place. -/
theorem RoamV.delk {A B:List (Itm ParcelD)} {i:Itm ParcelD} {k:Nat} (h:RoamV w lo hi u1 u2 L1 L2) (hs:L2=A++i::B) (hk:A.length=k) (hown:w5.ownsRow 0 155 2 v' (L2.length-1) ((L2.map Itm.u).eraseIdx k).flatten) (hg:w.grownBy w5 u2.ownBlock) (hat:v'.ownBlock=u2.ownBlock):RoamV w5 lo hi u1 v' L1 (A++B)∧(A++B).length=L2.length-1:=by
 subst hs hk
 have hl:(A++B).length=(A++i::B).length-1:=by simp
 refine⟨h.del ?_ hg hat,hl⟩
 rw[hl]
 have e:(A++B).map Itm.u=((A++i::B).map Itm.u).eraseIdx A.length:=by
  rw[List.map_append,List.map_append,List.map_cons,List.eraseIdx_append_of_length_le (by simp)]
  simp
 rw[e]
 exact hown
/-- Another walks' row, by its place. -/
theorem RoamV.putk {A B:List (Itm (List WalkR))} {i j:Itm (List WalkR)} {g n cap k:Nat} {c:Value} (h:RoamV w lo hi (.slice (some ⟨g,0,none⟩) n cap) u2 L1 L2) (hs:L1=A++i::B) (hk:A.length=k) (hj:j.u=[c]) (he:WalkssEW w j.l j.h j.u j.x) (h3:hi≤j.l) (h4:j.l≤j.h) (h5:j.h≤w.heap.size) (hhw:hi≤w.heap.size) (hlo:lo≤hi):
  RoamV (w.setCell ⟨g,k,none⟩ c) lo w.heap.size (.slice (some ⟨g,0,none⟩) n cap) u2 (A++j::B) L2∧(A++j::B).length=L1.length:=by
 subst hs hk
 exact⟨h.put1 hj he h3 h4 h5 hhw hlo,by simp⟩
end
end Go.Proofs.YtmdgdnkllclpcaaGreat
