/- Texts in one: SAtom, TAtom, SFilter. -/
import Derived.Test.YtjnahjgncmcmdaaGreatGStr
import Derived.Test.YtjnahjgncmcmdaaGreatGSWalk
import Derived.Deep.QuietTactic
import Derived.BigQuiet
import Derived.Deep.RegionHeld3
namespace Go.Proofs.YtjnahjgncmcmdaaGreat
open Go.RowKit
set_option linter.unusedVariables false
set_option linter.unusedSimpArgs false
structure AtomR where
 f0:ByteArray
 f1:ByteArray
 f2:ByteArray
instance:Inhabited AtomR:=⟨⟨ByteArray.empty,ByteArray.empty,ByteArray.empty⟩⟩
def AtomR.cells (x:AtomR):List Value:=[.string x.f0,.string x.f1,.string x.f2]
theorem AtomR.cells_length (x:AtomR):x.cells.length=3:=rfl
def atomAt (l:List AtomR) (k:Nat):AtomR:=l.getD k default
theorem AtomR.ext' {x y:AtomR} (h0:x.f0=y.f0) (h1:x.f1=y.f1) (h2:x.f2=y.f2):x=y:=by cases x;cases y;simp_all
def AtomsR (w:World) (v:Value) (xs:List AtomR):Prop:=RdS w 3 v xs.length (xs.flatMap AtomR.cells)
theorem AtomsR.fr {w w':World} {v:Value} {xs:List AtomR} (h:AtomsR w v xs) (hf:Fr w w'):AtomsR w' v xs:=RdS.fr h hf
theorem AtomsR.le {w:World} {v:Value} {xs:List AtomR} (h:AtomsR w v xs):xs.length≤9223372036854775807:=RdS.le h
theorem atom_flat (xs:List AtomR) (k j:Nat) (hk:k<xs.length) (hj:j<3) (d:Value):(xs.flatMap AtomR.cells).getD (k*3+j) d=(atomAt xs k).cells.getD j d:=by
 induction xs generalizing k with
 |nil=>simp at hk
 |cons x xs ih=>
  rw[List.flatMap_cons]
  cases k with
  |zero=>simp[List.getD,List.getElem?_append_left (show j<x.cells.length by rw[AtomR.cells_length];exact hj),atomAt]
  |succ k=>
   have:=ih k (by simpa using hk)
   simp only[List.getD]at this ⊢
   rw[List.getElem?_append_right (by rw[AtomR.cells_length];omega),show(k+1)*3+j-x.cells.length=k*3+j by rw[AtomR.cells_length];omega,this]
   simp[atomAt]
theorem AtomsR.one {w:World} {v:Value} {xs:List AtomR} (h:AtomsR w v xs):
  ∃ ao b o cap,v= .slice ao xs.length cap∧xs.length≤cap∧cap≤9223372036854775807∧(0<xs.length→ao=some ⟨b,o,none⟩∧b<w.heap.size∧ ∀ k,k<xs.length→w.cell? ⟨b,o+k*3,none⟩=some (.string (atomAt xs k).f0)∧w.cell? ⟨b,o+k*3+1,none⟩=some (.string (atomAt xs k).f1)∧w.cell? ⟨b,o+k*3+2,none⟩=some (.string (atomAt xs k).f2)):=by
 obtain⟨ao,b,o,cap,h1,h2,h3,h4⟩:=RdS.one h undef
 refine⟨ao,b,o,cap,h1,h2,h3,fun hn=>⟨(h4 hn).1,(h4 hn).2.1,fun k hk=>?_⟩⟩
 have hc:=(h4 hn).2.2
 exact⟨by have:=hc (k*3+0) (by omega);rw[atom_flat xs k 0 hk (by omega)]at this;exact this,by have:=hc (k*3+1) (by omega);rw[atom_flat xs k 1 hk (by omega)]at this;exact this,by have:=hc (k*3+2) (by omega);rw[atom_flat xs k 2 hk (by omega)]at this;exact this⟩
theorem toAtom_any (x:AtomR) (w:World):
  Calls Tryz.prog 170 #[.agg #[.string x.f0,.string x.f1,.string x.f2]] w fun e w'=>e= .returned (.agg #[.string x.f0,.string x.f1,.string x.f2])∧Fr w w':=by
 go_enter Tryz.func170,Tryz.ntmps170
 go_wp2
 exact bodyPost_ret (v:= .agg #[.string x.f0,.string x.f1,.string x.f2]) (by simp[results,Tryz.results170,go_sem]) rfl ⟨rfl,by exact Qf⟩
theorem eqAtom_same (x:AtomR) (w:World):
  Calls Tryz.prog 175 #[.agg #[.string x.f0,.string x.f1,.string x.f2],.agg #[.string x.f0,.string x.f1,.string x.f2]] w fun e w'=>e= .returned (.bool true)∧Fr w w':=by
 have q0:(x.f0.toList==x.f0.toList)=true:=bytes_beq rfl
 have q1:(x.f1.toList==x.f1.toList)=true:=bytes_beq rfl
 have q2:(x.f2.toList==x.f2.toList)=true:=bytes_beq rfl
 go_enter Tryz.func175,Tryz.ntmps175
 go_wp2
 go_ret
 exact⟨rfl,by exact Qf⟩
def AtomR.bulk (x:AtomR):Nat:=x.f0.size+x.f1.size+x.f2.size
def AtomR.okSize (x:AtomR):Prop:=x.f0.size≤maxLen∧x.f1.size≤maxLen∧x.f2.size≤maxLen
set_option maxRecDepth 100000 in
theorem szAtom_any (x:AtomR) (left:Int) (w:World) (hx:x.okSize) (h0:0≤left) (h1:left≤1048576):
  Calls Tryz.prog 167 #[.agg #[.string x.f0,.string x.f1,.string x.f2],.int .i64 left] w fun e w'=>e= .returned (.int .i64 (szR left x.bulk))∧Fr w w':=by
 unfold AtomR.okSize maxLen at hx
 by_cases c0:(x.f0.size:Int)≤left
 · skip
   by_cases c1:(x.f1.size:Int)≤left-x.f0.size
   · skip
     by_cases c2:(x.f2.size:Int)≤left-x.f0.size-x.f1.size
     · have hr:szR left x.bulk=left-x.bulk:=szR_ok (by unfold AtomR.bulk;omega)
       have hb:(x.bulk:Int)=(x.f0.size:Int)+(x.f1.size:Int)+(x.f2.size:Int):=by unfold AtomR.bulk;omega
       go_enter Tryz.func167,Tryz.ntmps167
       go_wp2
       go_ret
       exact⟨ret_int (by rw[szR_ok (by omega)];omega),by exact Qf⟩
     · go_enter Tryz.func167,Tryz.ntmps167
       go_wp2
       go_ret
       exact⟨ret_int (by rw[szR_no (by unfold AtomR.bulk;omega)]),by exact Qf⟩
   · go_enter Tryz.func167,Tryz.ntmps167
     go_wp2
     go_ret
     exact⟨ret_int (by rw[szR_no (by unfold AtomR.bulk;omega)]),by exact Qf⟩
 · go_enter Tryz.func167,Tryz.ntmps167
   go_wp2
   go_ret
   exact⟨ret_int (by rw[szR_no (by unfold AtomR.bulk;omega)]),by exact Qf⟩
theorem info_Atom:(Tryz.prog.info? 144).map (fun i=>(i.zero,i.size,i.bytes))=some (some (.agg #[.string ⟨#[]⟩,.string ⟨#[]⟩,.string ⟨#[]⟩]),3,48):=by kernel_rfl
def AtomsO (w:World) (lo:Nat) (v:Value) (xs:List AtomR):Prop:=w.ownsRow lo 144 3 v xs.length (xs.flatMap AtomR.cells)
theorem AtomsO.rd {w:World} {lo:Nat} {v:Value} {xs:List AtomR} (h:AtomsO w lo v xs):AtomsR w v xs:=RdS.of_owns h
theorem AtomsO.val {w:World} {lo:Nat} {v:Value} {xs:List AtomR} (h:AtomsO w lo v xs): ∃ ao cap,v= .slice ao xs.length cap:=owns_val h
theorem AtomsO.fr {w w':World} {lo:Nat} {v:Value} {xs:List AtomR} (h:AtomsO w lo v xs) (hf:Fr w w'):AtomsO w' lo v xs:=owns_fr h hf
def sumAtom (xs:List AtomR) (k:Nat):Nat:=((xs.take k).map AtomR.bulk).sum
theorem sumAtom_succ (xs:List AtomR) (k:Nat) (h:k<xs.length):sumAtom xs (k+1)=sumAtom xs k+(atomAt xs k).bulk:=by
 unfold sumAtom atomAt
 rw[List.take_succ_eq_append_getElem h,List.map_append,List.sum_append]
 simp[List.getD,List.getElem?_eq_getElem h]
theorem sumAtom_le (xs:List AtomR) (k:Nat):sumAtom xs k≤sumAtom xs xs.length:=by
 unfold sumAtom
 rw[List.take_length]
 conv=>rhs;rw[← List.take_append_drop k xs]
 rw[List.map_append,List.sum_append]
 omega
def AtomsBulk (xs:List AtomR):Nat:=xs.length+sumAtom xs xs.length
theorem atom_mem {xs:List AtomR} {p:AtomR→Prop} (h: ∀ x∈xs,p x) (k:Nat) (hk:k<xs.length):p (atomAt xs k):=by
 have:=h xs[k] (List.getElem_mem hk)
 simpa [atomAt,List.getD,List.getElem?_eq_getElem hk]using this
theorem szAtomS_any (a : Value) (xs : List AtomR) (left : Int) (w : World) (ha : AtomsR w a xs) (hs : ∀ x ∈ xs, x.okSize) (h0 : 0 ≤ left) (h1 : left ≤ 1048576) :
  Calls Tryz.prog 110 #[a, .int .i64 left] w fun e w' => e = .returned (.int .i64 (szR left (AtomsBulk xs))) ∧ Fr w w' := by
 obtain ⟨ao, ba, oa, ca, rfl, hca, hma, fa⟩ := ha.one
 clear ha
 by_cases hl : (xs.length : Int) ≤ left
 · go_enter Tryz.func110, Tryz.ntmps110
   go_wp2
   go_loopw [1, 5] (fun l i wr => ∃ k : Nat, k ≤ xs.length ∧ i = .int .i64 k ∧ l = .int .i64 (left - xs.length - sumAtom xs k) ∧ (sumAtom xs k : Int) ≤ left - xs.length ∧ Fr w wr) (fun _ i _ => xs.length - (intOf i).toNat)
   case atStart => exact ⟨0, Nat.zero_le _, rfl, by simp [sumAtom], by simp [sumAtom]; omega, Fr.refl _⟩
   case round =>
    obtain ⟨k, hk, rfl, rfl, hj, hfr⟩ := hrel
    by_cases hlt : k < xs.length
    · obtain ⟨rfl, hba, fa⟩ := fa (by omega)
      obtain ⟨x, hx⟩ : ∃ x, atomAt xs k = x := ⟨_, rfl⟩
      have c0 : wr.cell? ⟨ba, oa + k * 3, none⟩ = some (.string x.f0) := (hfr.cell (p := ⟨ba, _, none⟩) hba).trans (hx ▸ (fa k hlt).1)
      have c1 : wr.cell? ⟨ba, oa + k * 3 + 1, none⟩ = some (.string x.f1) := (hfr.cell (p := ⟨ba, _, none⟩) hba).trans (hx ▸ (fa k hlt).2.1)
      have c2 : wr.cell? ⟨ba, oa + k * 3 + 2, none⟩ = some (.string x.f2) := (hfr.cell (p := ⟨ba, _, none⟩) hba).trans (hx ▸ (fa k hlt).2.2)
      have hok : x.okSize := hx ▸ atom_mem hs k hlt
      have hsu := sumAtom_succ xs k hlt
      rw [hx] at hsu
      have hle := sumAtom_le xs (k + 1)
      have HSU := Lib.hid hsu
      clear hsu fa hx
      by_cases hr : (x.bulk : Int) ≤ left - xs.length - sumAtom xs k
      · have hz := szR_ok hr
        go_wp2_with (go_at_call 167; refine (szAtom_any x _ _ hok (by omega) (by omega)).mono ?_; rintro e w1 ⟨rfl, hf1⟩)
        go_roundw
        case rel => exact ⟨k + 1, by omega, by go_num, by rw [HSU.out]; go_num, by rw [HSU.out]; omega, by exact Qf⟩
        case measure => (simp [intOf]; omega)
      · have hz := szR_no hr
        go_wp2_with (go_at_call 167; refine (szAtom_any x _ _ hok (by omega) (by omega)).mono ?_; rintro e w1 ⟨rfl, hf1⟩)
        go_ret
        exact ⟨ret_int (by rw [szR_no]; unfold AtomsBulk; have := HSU.out; omega), by exact Qf⟩
    · clear fa
      obtain rfl : k = xs.length := by omega
      go_wp2
      go_ret
      exact ⟨ret_int (by rw [szR_ok]; · unfold AtomsBulk; omega
                         · unfold AtomsBulk; omega), by exact Qf⟩
 · go_enter Tryz.func110, Tryz.ntmps110
   go_wp2
   go_ret
   exact ⟨ret_int (by rw [szR_no]; unfold AtomsBulk; omega), by exact Qf⟩
theorem atom_fill (xs:List AtomR) (k:Nat) (hk:k<xs.length):((((fillR xs AtomR.cells [.string ⟨#[]⟩,.string ⟨#[]⟩,.string ⟨#[]⟩] k).set (k*3) (Value.string (atomAt xs k).f0)).set (k*3+1) (Value.string (atomAt xs k).f1)).set (k*3+2) (Value.string (atomAt xs k).f2))=fillR xs AtomR.cells [.string ⟨#[]⟩,.string ⟨#[]⟩,.string ⟨#[]⟩] (k+1):=by
 rw[fillR_split xs AtomR.cells [.string ⟨#[]⟩,.string ⟨#[]⟩,.string ⟨#[]⟩] k hk]
 have ha:((xs.take k).flatMap AtomR.cells).length=k*3:=flat_len xs AtomR.cells 3 AtomR.cells_length k (Nat.le_of_lt hk)
 rw[set_mid _ _ _ 0 _ (by rw[ha];rfl) (by simp)]
 rw[set_mid _ _ _ 1 _ (by rw[ha]) (by simp)]
 rw[set_mid _ _ _ 2 _ (by rw[ha]) (by simp)]
 rw[fillR_next xs AtomR.cells [.string ⟨#[]⟩,.string ⟨#[]⟩,.string ⟨#[]⟩] k hk]
 rfl
set_option maxHeartbeats 400000 in
theorem toAtomS_any (a:Value) (xs:List AtomR) (w:World) (ha:AtomsR w a xs) (hn:xs.length≤1048576):
  Calls Tryz.prog 115 #[a] w fun e w'=> ∃ v,e= .returned v∧AtomsO w' w.heap.size v xs∧Fr w w':=by
 obtain⟨ao,ba,oa,ca,rfl,hca,hma,fa⟩:=ha.one
 clear ha
 obtain⟨i0,hi,hz0,hz1,hz2⟩:=info_parts info_Atom
 go_enter Tryz.func115,Tryz.ntmps115
 go_wp2_with(at_make;refine wpList_make_full _ rfl _ _ 28 rfl w.heap.size 144 i0 (.agg #[.string ⟨#[]⟩,.string ⟨#[]⟩,.string ⟨#[]⟩]) 3 Tryz.underlying28 hi hz0 hz1 _ _ _ _ xs.length rfl rfl rfl rfl (by rw[hz2];omega) (by unfold maxLen;omega) (by omega) ?_;intro w1 hown hgrow)
 rw[show(madeCells (Value.cells (.agg #[.string ⟨#[]⟩,.string ⟨#[]⟩,.string ⟨#[]⟩])) (xs.length*3)).toList=fillR xs AtomR.cells [.string ⟨#[]⟩,.string ⟨#[]⟩,.string ⟨#[]⟩] 0 from made_fill xs AtomR.cells [.string ⟨#[]⟩,.string ⟨#[]⟩,.string ⟨#[]⟩] 3 rfl (by omega)]at hown
 go_loopw [4] (fun i wr=> ∃ k:Nat,k≤xs.length∧i= .int .i64 k∧wr.ownsRow w.heap.size 144 3 (.slice (some ⟨w.heap.size,0,none⟩) xs.length xs.length) xs.length (fillR xs AtomR.cells [.string ⟨#[]⟩,.string ⟨#[]⟩,.string ⟨#[]⟩] k)∧Fr w wr) (fun i _=>xs.length-(intOf i).toNat)
 case atStart=>exact⟨0,Nat.zero_le _,rfl,hown,(Fr.refl w).grown hgrow (by simp)⟩
 case round=>
  clear hown hgrow
  obtain⟨k,hk,rfl,ho,hfr⟩:=hrel
  by_cases hlt:k<xs.length
  · obtain⟨rfl,hba,fa⟩:=fa (by omega)
    obtain⟨x,hx⟩: ∃ x,atomAt xs k=x:=⟨_,rfl⟩
    have c0:wr.cell? ⟨ba,oa+k*3,none⟩=some (.string x.f0):=(hfr.cell (p:=⟨ba,_,none⟩) hba).trans (hx▸(fa k hlt).1)
    have c1:wr.cell? ⟨ba,oa+k*3+1,none⟩=some (.string x.f1):=(hfr.cell (p:=⟨ba,_,none⟩) hba).trans (hx▸(fa k hlt).2.1)
    have c2:wr.cell? ⟨ba,oa+k*3+2,none⟩=some (.string x.f2):=(hfr.cell (p:=⟨ba,_,none⟩) hba).trans (hx▸(fa k hlt).2.2)
    have hfl:=Lib.hid (atom_fill xs k hlt)
    rw[hx]at hfl
    have hgs:w.heap.size<wr.heap.size:=(ho.lt _ rfl).2
    clear fa hx
    go_wp2_with(go_at_call 170;refine(toAtom_any x _).mono ?_;rintro e w2 ⟨rfl,hf1⟩;have ho2:=owns_fr ho hf1;have g0:=ho2.frozenAt (k*3);obtain⟨u0,d0⟩:=owns_cell ho2 (k*3) (by omega);have g1:=ho2.frozenAt (k*3+1);obtain⟨u1,d1⟩:=owns_cell ho2 (k*3+1) (by omega);have g2:=ho2.frozenAt (k*3+2);obtain⟨u2,d2⟩:=owns_cell ho2 (k*3+2) (by omega))
    have ho2:=owns_fr ho hf1
    have s0:=ho2.stored (k*3) (.string x.f0)
    have s1:=s0.1.stored (k*3+1) (.string x.f1)
    have s2:=s1.1.stored (k*3+2) (.string x.f2)
    go_roundw
    case rel=>exact⟨k+1,by omega,by go_num,hfl.out▸s2.1,by exact Qf⟩
    case measure=>(simp[intOf];omega)
  · clear fa
    obtain rfl:k=xs.length:=by omega
    rw[fillR_all]at ho
    go_wp2
    go_ret
    exact⟨_,rfl,ho,hfr⟩
theorem eqAtomS_same (a b:Value) (xs:List AtomR) (w:World) (ha:AtomsR w a xs) (hb:AtomsR w b xs):
  Calls Tryz.prog 121 #[a,b] w fun e w'=>e= .returned (.bool true)∧Fr w w':=by
 obtain⟨ao,ba,oa,ca,rfl,hca,hma,fa⟩:=ha.one
 obtain⟨bo,bb,ob,cb,rfl,hcb,hmb,fb⟩:=hb.one
 clear ha hb
 go_enter Tryz.func121,Tryz.ntmps121
 go_wp2
 go_loopw [5] (fun i wr=> ∃ k:Nat,k≤xs.length∧i= .int .i64 k∧Fr w wr) (fun i _=>xs.length-(intOf i).toNat)
 case atStart=>exact⟨0,Nat.zero_le _,rfl,Fr.refl _⟩
 case round=>
  obtain⟨k,hk,rfl,hfr⟩:=hrel
  by_cases hlt:k<xs.length
  · obtain⟨rfl,hba,fa⟩:=fa (by omega)
    obtain⟨rfl,hbb,fb⟩:=fb (by omega)
    obtain⟨x,hx⟩: ∃ x,atomAt xs k=x:=⟨_,rfl⟩
    have c0: ∀ w',Fr wr w'→w'.cell? ⟨ba,oa+k*3,none⟩=some (.string x.f0):=fun w' hf=>((hfr.trans hf).cell (p:=⟨ba,_,none⟩) hba).trans (hx▸(fa k hlt).1)
    have c1: ∀ w',Fr wr w'→w'.cell? ⟨ba,oa+k*3+1,none⟩=some (.string x.f1):=fun w' hf=>((hfr.trans hf).cell (p:=⟨ba,_,none⟩) hba).trans (hx▸(fa k hlt).2.1)
    have c2: ∀ w',Fr wr w'→w'.cell? ⟨ba,oa+k*3+2,none⟩=some (.string x.f2):=fun w' hf=>((hfr.trans hf).cell (p:=⟨ba,_,none⟩) hba).trans (hx▸(fa k hlt).2.2)
    have e0: ∀ w',Fr wr w'→w'.cell? ⟨bb,ob+k*3,none⟩=some (.string x.f0):=fun w' hf=>((hfr.trans hf).cell (p:=⟨bb,_,none⟩) hbb).trans (hx▸(fb k hlt).1)
    have e1: ∀ w',Fr wr w'→w'.cell? ⟨bb,ob+k*3+1,none⟩=some (.string x.f1):=fun w' hf=>((hfr.trans hf).cell (p:=⟨bb,_,none⟩) hbb).trans (hx▸(fb k hlt).2.1)
    have e2: ∀ w',Fr wr w'→w'.cell? ⟨bb,ob+k*3+2,none⟩=some (.string x.f2):=fun w' hf=>((hfr.trans hf).cell (p:=⟨bb,_,none⟩) hbb).trans (hx▸(fb k hlt).2.2)
    clear fa fb hx
    go_wp2_with fail
    go_region_held3 (fun w'=>Fr wr w') (repeat(first|(with_reducible exact Fr.refl _)|(with_reducible assumption)|(with_reducible refine Fr.drewN ?_ _)|(with_reducible refine Fr.drew ?_)|(with_reducible refine Fr.alloc ?_ _)|(with_reducible refine Fr.setCell ?_ (by exact Qz) _)|(with_reducible refine Fr.trans ?_ (by with_reducible assumption)))) (first|(go_at_call 175;refine(eqAtom_same x _).mono ?_;rintro e w2 ⟨rfl,hf1⟩))
    go_wp2_with fail
    go_roundw
    case rel=>exact⟨k+1,by omega,by go_num,by exact Qf⟩
    case measure=>(simp[intOf];omega)
  · clear fa fb
    go_wp2
    go_ret
    exact⟨rfl,hfr⟩
def mkAtom (k:Int):AtomR:=⟨mTextI k,mTextI (k+1),mTextI (k+1+1)⟩
def mkAtoms (k:Int) (n:Nat):List AtomR:=(List.range n).map fun i:Nat=>mkAtom (k+3*i)
theorem mkAtoms_length (k:Int) (n:Nat):(mkAtoms k n).length=n:=by simp[mkAtoms]
theorem mkAtoms_at (k:Int) (n j:Nat) (h:j<n):atomAt (mkAtoms k n) j=mkAtom (k+3*j):=by simp[mkAtoms,atomAt,List.getD,h]
theorem atom_oneCells (xs:List AtomR): ∀ u∈xs.flatMap AtomR.cells,u.oneCell'=true:=by
 intro u hu
 obtain⟨x,_,h⟩:=List.mem_flatMap.1 hu
 simp only[AtomR.cells,List.mem_cons,List.not_mem_nil,or_false]at h
 rcases h with rfl|rfl|rfl<;>rfl
def AtomsW (w:World) (lo hi:Nat) (v:Value) (xs:List AtomR):Prop:=OwW w lo hi 144 3 v xs.length (xs.flatMap AtomR.cells)
theorem AtomsW.rd {w:World} {lo hi:Nat} {v:Value} {xs:List AtomR} (h:AtomsW w lo hi v xs):AtomsR w v xs:=OwW.rd h
theorem AtomsW.val {w:World} {lo hi:Nat} {v:Value} {xs:List AtomR} (h:AtomsW w lo hi v xs): ∃ ao cap,v= .slice ao xs.length cap:=OwW.val h
theorem AtomsW.fr {w w':World} {lo hi:Nat} {v:Value} {xs:List AtomR} (h:AtomsW w lo hi v xs) (hf:Fr w w'):AtomsW w' lo hi v xs:=OwW.fr h hf
theorem AtomsW.span {w w':World} {lo hi:Nat} {v:Value} {xs:List AtomR} (h:AtomsW w lo hi v xs) {a b:Nat} (s:Span a b w w') (hd:hi≤a∨b≤lo):AtomsW w' lo hi v xs:=OwW.span h s hd
theorem AtomsW.nil (w:World) (lo hi:Nat):AtomsW w lo hi (.slice none 0 0) []:=OwW.nil _ _ _ _ _
theorem toAtomS_w (a:Value) (xs:List AtomR) (w:World) (ha:AtomsR w a xs) (hn:xs.length≤1048576):
  Calls Tryz.prog 115 #[a] w fun e w'=> ∃ ao cap,e= .returned (.slice ao xs.length cap)∧AtomsW w' w.heap.size w'.heap.size (.slice ao xs.length cap) xs∧Fr w w':=
 (toAtomS_any a xs w ha hn).mono fun e w' h=>by
  obtain⟨v,rfl,ho,hf⟩:=h
  obtain⟨ao,cap,rfl⟩:=ho.val
  exact⟨ao,cap,rfl,OwW.of_owns ho,hf⟩
theorem atom_part (new old:List AtomR) (m:Nat) (hm:m<old.length) (hl:new.length=old.length):((((partR new old AtomR.cells m).set (m*3) (Value.string (atomAt new m).f0)).set (m*3+1) (Value.string (atomAt new m).f1)).set (m*3+2) (Value.string (atomAt new m).f2))=partR new old AtomR.cells (m+1):=by
 rw[partR_split new old AtomR.cells m hm]
 have ha:((new.take m).flatMap AtomR.cells).length=m*3:=flat_len new AtomR.cells 3 AtomR.cells_length m (by omega)
 rw[set_mid _ _ _ 0 _ (by rw[ha];rfl) (by rw[AtomR.cells_length];omega)]
 rw[set_mid _ _ _ 1 _ (by rw[ha]) (by simp only[List.length_set];rw[AtomR.cells_length];omega)]
 rw[set_mid _ _ _ 2 _ (by rw[ha]) (by simp only[List.length_set];rw[AtomR.cells_length];omega)]
 rw[partR_next new old AtomR.cells m (by omega)]
 rfl
set_option maxHeartbeats 1000000 in
set_option maxRecDepth 100000 in
theorem markAtomS_any (g n cap:Nat) (xs:List AtomR) (k:Int) (lo:Nat) (w:World) (ha:w.ownsRow lo 144 3 (.slice (some ⟨g,0,none⟩) n cap) n (xs.flatMap AtomR.cells)) (hn:xs.length=n) (h0:0<k) (h1:k+3*n≤1073741824):
  Calls Tryz.prog 125 #[.slice (some ⟨g,0,none⟩) n cap,.int .i64 k] w fun e w'=>e= .returned (.int .i64 (k+3*n))∧w'.ownsRow lo 144 3 (.slice (some ⟨g,0,none⟩) n cap) n ((mkAtoms k n).flatMap AtomR.cells)∧w.grownBy w' (some g):=by
 have hg0:g<w.heap.size:=(ha.lt g rfl).2
 go_enter Tryz.func125,Tryz.ntmps125
 go_wp2
 go_loopw [1,5] (fun l i wr=> ∃ m:Nat,m≤n∧i= .int .i64 m∧l= .int .i64 (k+3*m)∧wr.ownsRow lo 144 3 (.slice (some ⟨g,0,none⟩) n cap) n (partR (mkAtoms k n) xs AtomR.cells m)∧w.grownBy wr (some g)) (fun _ i _=>n-(intOf i).toNat)
 case atStart=>exact⟨0,Nat.zero_le _,rfl,by simp,by rw[partR_zero];exact ha,World.grownBy.refl _ _⟩
 case round=>
  clear ha
  obtain⟨m,hm,rfl,rfl,ho,hfr⟩:=hrel
  by_cases hlt:m<n
  · have hp:=atom_part (mkAtoms k n) xs m (by omega) (by rw[mkAtoms_length,hn])
    rw[mkAtoms_at k n m hlt]at hp
    have HP:=Lib.hid hp
    clear hp
    go_wp2_with fail
    refine(markText_int (k+3*m) _ (by omega) (by omega)).mono ?_
    rintro e w0 ⟨rfl,hf0⟩
    have o0:=owns_fr ho hf0
    have f0:=o0.frozenAt (m*3);obtain⟨u0,c0⟩:=owns_cell o0 (m*3) (by omega);have s0:=o0.stored (m*3) (.string (mTextI (k+3*m)))
    go_wp2_with fail
    refine(markText_int (k+3*m+1) _ (by omega) (by omega)).mono ?_
    rintro e w1 ⟨rfl,hf1⟩
    have o1:=owns_fr s0.1 hf1
    have f1:=o1.frozenAt (m*3+1);obtain⟨u1,c1⟩:=owns_cell o1 (m*3+1) (by omega);have s1:=o1.stored (m*3+1) (.string (mTextI (k+3*m+1)))
    go_wp2_with fail
    refine(markText_int (k+3*m+1+1) _ (by omega) (by omega)).mono ?_
    rintro e w2 ⟨rfl,hf2⟩
    have o2:=owns_fr s1.1 hf2
    have f2:=o2.frozenAt (m*3+2);obtain⟨u2,c2⟩:=owns_cell o2 (m*3+2) (by omega);have s2:=o2.stored (m*3+2) (.string (mTextI (k+3*m+1+1)))
    go_wp2_with fail
    go_roundw
    case rel=>exact⟨m+1,by omega,by go_num,by go_num,HP.out▸s2.1,gr_trans (gr_trans (gr_trans (gr_trans (gr_trans (gr_trans hfr (hf0.gr _)) (s0.2)) (hf1.gr _)) (s1.2)) (hf2.gr _)) (s2.2)⟩
    case measure=>(simp[intOf];omega)
  · obtain rfl:m=n:=by omega
    rw[partR_all _ _ _ m (by rw[mkAtoms_length]) hn]at ho
    go_wp2
    go_ret
    exact⟨rfl,ho,hfr⟩
theorem markAtomS_w (v:Value) (xs:List AtomR) (k:Int) (lo hi:Nat) (w:World) (ha:AtomsW w lo hi v xs) (h0:0<k) (h1:k+3*xs.length≤1073741824):
  Calls Tryz.prog 125 #[v,.int .i64 k] w fun e w'=>e= .returned (.int .i64 (k+3*xs.length))∧AtomsW w' lo hi v (mkAtoms k xs.length)∧Span lo hi w w':=by
 rcases owns_shape ha.1 with⟨rfl,hn,hx⟩|⟨g,cap,rfl,_⟩
 · have h3:xs=[]:=List.eq_nil_of_length_eq_zero hn
   subst h3
   clear ha hn hx
   go_enter Tryz.func125,Tryz.ntmps125
   go_wp2
   go_loopw [1,5] (fun l i wr=>i= .int .i64 0∧l= .int .i64 k∧wr=w) (fun _ i _=>0)
   case atStart=>exact⟨rfl,rfl,rfl⟩
   case round=>
    obtain⟨rfl,rfl,rfl⟩:=hrel
    go_wp2
    go_ret
    exact⟨by simp,by simpa [AtomsW,mkAtoms]using OwW.nil _ _ _ _ _,Span.refl _ _ _⟩
 · refine(markAtomS_any g xs.length cap xs k lo w ha.1 rfl h0 h1).mono fun e w' h=>⟨h.1,⟨?_,ha.2⟩,Span.of_gr h.2.2 ha.2⟩
   rw[mkAtoms_length]
   exact h.2.1
structure FilterR where
 f0:ByteArray
 f1:Int
 f2:ByteArray
 f3:Int
instance:Inhabited FilterR:=⟨⟨ByteArray.empty,default,ByteArray.empty,default⟩⟩
def FilterR.cells (x:FilterR):List Value:=[.string x.f0,.int .i64 x.f1,.string x.f2,.int .i64 x.f3]
theorem FilterR.cells_length (x:FilterR):x.cells.length=4:=rfl
def filterAt (l:List FilterR) (k:Nat):FilterR:=l.getD k default
theorem FilterR.ext' {x y:FilterR} (h0:x.f0=y.f0) (h1:x.f1=y.f1) (h2:x.f2=y.f2) (h3:x.f3=y.f3):x=y:=by cases x;cases y;simp_all
def FiltersR (w:World) (v:Value) (xs:List FilterR):Prop:=RdS w 4 v xs.length (xs.flatMap FilterR.cells)
theorem FiltersR.fr {w w':World} {v:Value} {xs:List FilterR} (h:FiltersR w v xs) (hf:Fr w w'):FiltersR w' v xs:=RdS.fr h hf
theorem FiltersR.le {w:World} {v:Value} {xs:List FilterR} (h:FiltersR w v xs):xs.length≤9223372036854775807:=RdS.le h
theorem filter_flat (xs:List FilterR) (k j:Nat) (hk:k<xs.length) (hj:j<4) (d:Value):(xs.flatMap FilterR.cells).getD (k*4+j) d=(filterAt xs k).cells.getD j d:=by
 induction xs generalizing k with
 |nil=>simp at hk
 |cons x xs ih=>
  rw[List.flatMap_cons]
  cases k with
  |zero=>simp[List.getD,List.getElem?_append_left (show j<x.cells.length by rw[FilterR.cells_length];exact hj),filterAt]
  |succ k=>
   have:=ih k (by simpa using hk)
   simp only[List.getD]at this ⊢
   rw[List.getElem?_append_right (by rw[FilterR.cells_length];omega),show(k+1)*4+j-x.cells.length=k*4+j by rw[FilterR.cells_length];omega,this]
   simp[filterAt]
theorem FiltersR.one {w:World} {v:Value} {xs:List FilterR} (h:FiltersR w v xs):
  ∃ ao b o cap,v= .slice ao xs.length cap∧xs.length≤cap∧cap≤9223372036854775807∧(0<xs.length→ao=some ⟨b,o,none⟩∧b<w.heap.size∧ ∀ k,k<xs.length→w.cell? ⟨b,o+k*4,none⟩=some (.string (filterAt xs k).f0)∧w.cell? ⟨b,o+k*4+1,none⟩=some (.int .i64 (filterAt xs k).f1)∧w.cell? ⟨b,o+k*4+2,none⟩=some (.string (filterAt xs k).f2)∧w.cell? ⟨b,o+k*4+3,none⟩=some (.int .i64 (filterAt xs k).f3)):=by
 obtain⟨ao,b,o,cap,h1,h2,h3,h4⟩:=RdS.one h undef
 refine⟨ao,b,o,cap,h1,h2,h3,fun hn=>⟨(h4 hn).1,(h4 hn).2.1,fun k hk=>?_⟩⟩
 have hc:=(h4 hn).2.2
 exact⟨by have:=hc (k*4+0) (by omega);rw[filter_flat xs k 0 hk (by omega)]at this;exact this,by have:=hc (k*4+1) (by omega);rw[filter_flat xs k 1 hk (by omega)]at this;exact this,by have:=hc (k*4+2) (by omega);rw[filter_flat xs k 2 hk (by omega)]at this;exact this,by have:=hc (k*4+3) (by omega);rw[filter_flat xs k 3 hk (by omega)]at this;exact this⟩
theorem toFilter_any (x:FilterR) (w:World):
  Calls Tryz.prog 171 #[.agg #[.string x.f0,.int .i64 x.f1,.string x.f2,.int .i64 x.f3]] w fun e w'=>e= .returned (.agg #[.string x.f0,.int .i64 x.f1,.string x.f2,.int .i64 x.f3])∧Fr w w':=by
 go_enter Tryz.func171,Tryz.ntmps171
 go_wp2
 exact bodyPost_ret (v:= .agg #[.string x.f0,.int .i64 x.f1,.string x.f2,.int .i64 x.f3]) (by simp[results,Tryz.results171,go_sem]) rfl ⟨rfl,by exact Qf⟩
theorem eqFilter_same (x:FilterR) (w:World):
  Calls Tryz.prog 176 #[.agg #[.string x.f0,.int .i64 x.f1,.string x.f2,.int .i64 x.f3],.agg #[.string x.f0,.int .i64 x.f1,.string x.f2,.int .i64 x.f3]] w fun e w'=>e= .returned (.bool true)∧Fr w w':=by
 have q0:(x.f0.toList==x.f0.toList)=true:=bytes_beq rfl
 have q2:(x.f2.toList==x.f2.toList)=true:=bytes_beq rfl
 go_enter Tryz.func176,Tryz.ntmps176
 go_wp2
 go_ret
 exact⟨rfl,by exact Qf⟩
def FilterR.bulk (x:FilterR):Nat:=x.f0.size+x.f2.size
def FilterR.okSize (x:FilterR):Prop:=x.f0.size≤maxLen∧x.f2.size≤maxLen
set_option maxRecDepth 100000 in
theorem szFilter_any (x:FilterR) (left:Int) (w:World) (hx:x.okSize) (h0:0≤left) (h1:left≤1048576):
  Calls Tryz.prog 168 #[.agg #[.string x.f0,.int .i64 x.f1,.string x.f2,.int .i64 x.f3],.int .i64 left] w fun e w'=>e= .returned (.int .i64 (szR left x.bulk))∧Fr w w':=by
 unfold FilterR.okSize maxLen at hx
 by_cases c0:(x.f0.size:Int)≤left
 · skip
   by_cases c1:(x.f2.size:Int)≤left-x.f0.size
   · have hr:szR left x.bulk=left-x.bulk:=szR_ok (by unfold FilterR.bulk;omega)
     have hb:(x.bulk:Int)=(x.f0.size:Int)+(x.f2.size:Int):=by unfold FilterR.bulk;omega
     go_enter Tryz.func168,Tryz.ntmps168
     go_wp2
     go_ret
     exact⟨ret_int (by rw[szR_ok (by omega)];omega),by exact Qf⟩
   · go_enter Tryz.func168,Tryz.ntmps168
     go_wp2
     go_ret
     exact⟨ret_int (by rw[szR_no (by unfold FilterR.bulk;omega)]),by exact Qf⟩
 · go_enter Tryz.func168,Tryz.ntmps168
   go_wp2
   go_ret
   exact⟨ret_int (by rw[szR_no (by unfold FilterR.bulk;omega)]),by exact Qf⟩
theorem info_Filter:(Tryz.prog.info? 187).map (fun i=>(i.zero,i.size,i.bytes))=some (some (.agg #[.string ⟨#[]⟩,.int .i64 0,.string ⟨#[]⟩,.int .i64 0]),4,48):=by kernel_rfl
def FiltersO (w:World) (lo:Nat) (v:Value) (xs:List FilterR):Prop:=w.ownsRow lo 187 4 v xs.length (xs.flatMap FilterR.cells)
theorem FiltersO.rd {w:World} {lo:Nat} {v:Value} {xs:List FilterR} (h:FiltersO w lo v xs):FiltersR w v xs:=RdS.of_owns h
theorem FiltersO.val {w:World} {lo:Nat} {v:Value} {xs:List FilterR} (h:FiltersO w lo v xs): ∃ ao cap,v= .slice ao xs.length cap:=owns_val h
theorem FiltersO.fr {w w':World} {lo:Nat} {v:Value} {xs:List FilterR} (h:FiltersO w lo v xs) (hf:Fr w w'):FiltersO w' lo v xs:=owns_fr h hf
def sumFilter (xs:List FilterR) (k:Nat):Nat:=((xs.take k).map FilterR.bulk).sum
theorem sumFilter_succ (xs:List FilterR) (k:Nat) (h:k<xs.length):sumFilter xs (k+1)=sumFilter xs k+(filterAt xs k).bulk:=by
 unfold sumFilter filterAt
 rw[List.take_succ_eq_append_getElem h,List.map_append,List.sum_append]
 simp[List.getD,List.getElem?_eq_getElem h]
theorem sumFilter_le (xs:List FilterR) (k:Nat):sumFilter xs k≤sumFilter xs xs.length:=by
 unfold sumFilter
 rw[List.take_length]
 conv=>rhs;rw[← List.take_append_drop k xs]
 rw[List.map_append,List.sum_append]
 omega
def FiltersBulk (xs:List FilterR):Nat:=xs.length+sumFilter xs xs.length
theorem filter_mem {xs:List FilterR} {p:FilterR→Prop} (h: ∀ x∈xs,p x) (k:Nat) (hk:k<xs.length):p (filterAt xs k):=by
 have:=h xs[k] (List.getElem_mem hk)
 simpa [filterAt,List.getD,List.getElem?_eq_getElem hk]using this
theorem szFilterS_any (a : Value) (xs : List FilterR) (left : Int) (w : World) (ha : FiltersR w a xs) (hs : ∀ x ∈ xs, x.okSize) (h0 : 0 ≤ left) (h1 : left ≤ 1048576) :
  Calls Tryz.prog 111 #[a, .int .i64 left] w fun e w' => e = .returned (.int .i64 (szR left (FiltersBulk xs))) ∧ Fr w w' := by
 obtain ⟨ao, ba, oa, ca, rfl, hca, hma, fa⟩ := ha.one
 clear ha
 by_cases hl : (xs.length : Int) ≤ left
 · go_enter Tryz.func111, Tryz.ntmps111
   go_wp2
   go_loopw [1, 5] (fun l i wr => ∃ k : Nat, k ≤ xs.length ∧ i = .int .i64 k ∧ l = .int .i64 (left - xs.length - sumFilter xs k) ∧ (sumFilter xs k : Int) ≤ left - xs.length ∧ Fr w wr) (fun _ i _ => xs.length - (intOf i).toNat)
   case atStart => exact ⟨0, Nat.zero_le _, rfl, by simp [sumFilter], by simp [sumFilter]; omega, Fr.refl _⟩
   case round =>
    obtain ⟨k, hk, rfl, rfl, hj, hfr⟩ := hrel
    by_cases hlt : k < xs.length
    · obtain ⟨rfl, hba, fa⟩ := fa (by omega)
      obtain ⟨x, hx⟩ : ∃ x, filterAt xs k = x := ⟨_, rfl⟩
      have c0 : wr.cell? ⟨ba, oa + k * 4, none⟩ = some (.string x.f0) := (hfr.cell (p := ⟨ba, _, none⟩) hba).trans (hx ▸ (fa k hlt).1)
      have c1 : wr.cell? ⟨ba, oa + k * 4 + 1, none⟩ = some (.int .i64 x.f1) := (hfr.cell (p := ⟨ba, _, none⟩) hba).trans (hx ▸ (fa k hlt).2.1)
      have c2 : wr.cell? ⟨ba, oa + k * 4 + 2, none⟩ = some (.string x.f2) := (hfr.cell (p := ⟨ba, _, none⟩) hba).trans (hx ▸ (fa k hlt).2.2.1)
      have c3 : wr.cell? ⟨ba, oa + k * 4 + 3, none⟩ = some (.int .i64 x.f3) := (hfr.cell (p := ⟨ba, _, none⟩) hba).trans (hx ▸ (fa k hlt).2.2.2)
      have hok : x.okSize := hx ▸ filter_mem hs k hlt
      have hsu := sumFilter_succ xs k hlt
      rw [hx] at hsu
      have hle := sumFilter_le xs (k + 1)
      have HSU := Lib.hid hsu
      clear hsu fa hx
      by_cases hr : (x.bulk : Int) ≤ left - xs.length - sumFilter xs k
      · have hz := szR_ok hr
        go_wp2_with (go_at_call 168; refine (szFilter_any x _ _ hok (by omega) (by omega)).mono ?_; rintro e w1 ⟨rfl, hf1⟩)
        go_roundw
        case rel => exact ⟨k + 1, by omega, by go_num, by rw [HSU.out]; go_num, by rw [HSU.out]; omega, by exact Qf⟩
        case measure => (simp [intOf]; omega)
      · have hz := szR_no hr
        go_wp2_with (go_at_call 168; refine (szFilter_any x _ _ hok (by omega) (by omega)).mono ?_; rintro e w1 ⟨rfl, hf1⟩)
        go_ret
        exact ⟨ret_int (by rw [szR_no]; unfold FiltersBulk; have := HSU.out; omega), by exact Qf⟩
    · clear fa
      obtain rfl : k = xs.length := by omega
      go_wp2
      go_ret
      exact ⟨ret_int (by rw [szR_ok]; · unfold FiltersBulk; omega
                         · unfold FiltersBulk; omega), by exact Qf⟩
 · go_enter Tryz.func111, Tryz.ntmps111
   go_wp2
   go_ret
   exact ⟨ret_int (by rw [szR_no]; unfold FiltersBulk; omega), by exact Qf⟩
theorem filter_fill (xs:List FilterR) (k:Nat) (hk:k<xs.length):(((((fillR xs FilterR.cells [.string ⟨#[]⟩,.int .i64 0,.string ⟨#[]⟩,.int .i64 0] k).set (k*4) (Value.string (filterAt xs k).f0)).set (k*4+1) (Value.int .i64 (filterAt xs k).f1)).set (k*4+2) (Value.string (filterAt xs k).f2)).set (k*4+3) (Value.int .i64 (filterAt xs k).f3))=fillR xs FilterR.cells [.string ⟨#[]⟩,.int .i64 0,.string ⟨#[]⟩,.int .i64 0] (k+1):=by
 rw[fillR_split xs FilterR.cells [.string ⟨#[]⟩,.int .i64 0,.string ⟨#[]⟩,.int .i64 0] k hk]
 have ha:((xs.take k).flatMap FilterR.cells).length=k*4:=flat_len xs FilterR.cells 4 FilterR.cells_length k (Nat.le_of_lt hk)
 rw[set_mid _ _ _ 0 _ (by rw[ha];rfl) (by simp)]
 rw[set_mid _ _ _ 1 _ (by rw[ha]) (by simp)]
 rw[set_mid _ _ _ 2 _ (by rw[ha]) (by simp)]
 rw[set_mid _ _ _ 3 _ (by rw[ha]) (by simp)]
 rw[fillR_next xs FilterR.cells [.string ⟨#[]⟩,.int .i64 0,.string ⟨#[]⟩,.int .i64 0] k hk]
 rfl
set_option maxHeartbeats 400000 in
theorem toFilterS_any (a:Value) (xs:List FilterR) (w:World) (ha:FiltersR w a xs) (hn:xs.length≤1048576):
  Calls Tryz.prog 116 #[a] w fun e w'=> ∃ v,e= .returned v∧FiltersO w' w.heap.size v xs∧Fr w w':=by
 obtain⟨ao,ba,oa,ca,rfl,hca,hma,fa⟩:=ha.one
 clear ha
 obtain⟨i0,hi,hz0,hz1,hz2⟩:=info_parts info_Filter
 go_enter Tryz.func116,Tryz.ntmps116
 go_wp2_with(at_make;refine wpList_make_full _ rfl _ _ 29 rfl w.heap.size 187 i0 (.agg #[.string ⟨#[]⟩,.int .i64 0,.string ⟨#[]⟩,.int .i64 0]) 4 Tryz.underlying29 hi hz0 hz1 _ _ _ _ xs.length rfl rfl rfl rfl (by rw[hz2];omega) (by unfold maxLen;omega) (by omega) ?_;intro w1 hown hgrow)
 rw[show(madeCells (Value.cells (.agg #[.string ⟨#[]⟩,.int .i64 0,.string ⟨#[]⟩,.int .i64 0])) (xs.length*4)).toList=fillR xs FilterR.cells [.string ⟨#[]⟩,.int .i64 0,.string ⟨#[]⟩,.int .i64 0] 0 from made_fill xs FilterR.cells [.string ⟨#[]⟩,.int .i64 0,.string ⟨#[]⟩,.int .i64 0] 4 rfl (by omega)]at hown
 go_loopw [4] (fun i wr=> ∃ k:Nat,k≤xs.length∧i= .int .i64 k∧wr.ownsRow w.heap.size 187 4 (.slice (some ⟨w.heap.size,0,none⟩) xs.length xs.length) xs.length (fillR xs FilterR.cells [.string ⟨#[]⟩,.int .i64 0,.string ⟨#[]⟩,.int .i64 0] k)∧Fr w wr) (fun i _=>xs.length-(intOf i).toNat)
 case atStart=>exact⟨0,Nat.zero_le _,rfl,hown,(Fr.refl w).grown hgrow (by simp)⟩
 case round=>
  clear hown hgrow
  obtain⟨k,hk,rfl,ho,hfr⟩:=hrel
  by_cases hlt:k<xs.length
  · obtain⟨rfl,hba,fa⟩:=fa (by omega)
    obtain⟨x,hx⟩: ∃ x,filterAt xs k=x:=⟨_,rfl⟩
    have c0:wr.cell? ⟨ba,oa+k*4,none⟩=some (.string x.f0):=(hfr.cell (p:=⟨ba,_,none⟩) hba).trans (hx▸(fa k hlt).1)
    have c1:wr.cell? ⟨ba,oa+k*4+1,none⟩=some (.int .i64 x.f1):=(hfr.cell (p:=⟨ba,_,none⟩) hba).trans (hx▸(fa k hlt).2.1)
    have c2:wr.cell? ⟨ba,oa+k*4+2,none⟩=some (.string x.f2):=(hfr.cell (p:=⟨ba,_,none⟩) hba).trans (hx▸(fa k hlt).2.2.1)
    have c3:wr.cell? ⟨ba,oa+k*4+3,none⟩=some (.int .i64 x.f3):=(hfr.cell (p:=⟨ba,_,none⟩) hba).trans (hx▸(fa k hlt).2.2.2)
    have hfl:=Lib.hid (filter_fill xs k hlt)
    rw[hx]at hfl
    have hgs:w.heap.size<wr.heap.size:=(ho.lt _ rfl).2
    clear fa hx
    go_wp2_with(go_at_call 171;refine(toFilter_any x _).mono ?_;rintro e w2 ⟨rfl,hf1⟩;have ho2:=owns_fr ho hf1;have g0:=ho2.frozenAt (k*4);obtain⟨u0,d0⟩:=owns_cell ho2 (k*4) (by omega);have g1:=ho2.frozenAt (k*4+1);obtain⟨u1,d1⟩:=owns_cell ho2 (k*4+1) (by omega);have g2:=ho2.frozenAt (k*4+2);obtain⟨u2,d2⟩:=owns_cell ho2 (k*4+2) (by omega);have g3:=ho2.frozenAt (k*4+3);obtain⟨u3,d3⟩:=owns_cell ho2 (k*4+3) (by omega))
    have ho2:=owns_fr ho hf1
    have s0:=ho2.stored (k*4) (.string x.f0)
    have s1:=s0.1.stored (k*4+1) (.int .i64 x.f1)
    have s2:=s1.1.stored (k*4+2) (.string x.f2)
    have s3:=s2.1.stored (k*4+3) (.int .i64 x.f3)
    go_roundw
    case rel=>exact⟨k+1,by omega,by go_num,hfl.out▸s3.1,by exact Qf⟩
    case measure=>(simp[intOf];omega)
  · clear fa
    obtain rfl:k=xs.length:=by omega
    rw[fillR_all]at ho
    go_wp2
    go_ret
    exact⟨_,rfl,ho,hfr⟩
theorem eqFilterS_same (a b:Value) (xs:List FilterR) (w:World) (ha:FiltersR w a xs) (hb:FiltersR w b xs):
  Calls Tryz.prog 122 #[a,b] w fun e w'=>e= .returned (.bool true)∧Fr w w':=by
 obtain⟨ao,ba,oa,ca,rfl,hca,hma,fa⟩:=ha.one
 obtain⟨bo,bb,ob,cb,rfl,hcb,hmb,fb⟩:=hb.one
 clear ha hb
 go_enter Tryz.func122,Tryz.ntmps122
 go_wp2
 go_loopw [5] (fun i wr=> ∃ k:Nat,k≤xs.length∧i= .int .i64 k∧Fr w wr) (fun i _=>xs.length-(intOf i).toNat)
 case atStart=>exact⟨0,Nat.zero_le _,rfl,Fr.refl _⟩
 case round=>
  obtain⟨k,hk,rfl,hfr⟩:=hrel
  by_cases hlt:k<xs.length
  · obtain⟨rfl,hba,fa⟩:=fa (by omega)
    obtain⟨rfl,hbb,fb⟩:=fb (by omega)
    obtain⟨x,hx⟩: ∃ x,filterAt xs k=x:=⟨_,rfl⟩
    have c0: ∀ w',Fr wr w'→w'.cell? ⟨ba,oa+k*4,none⟩=some (.string x.f0):=fun w' hf=>((hfr.trans hf).cell (p:=⟨ba,_,none⟩) hba).trans (hx▸(fa k hlt).1)
    have c1: ∀ w',Fr wr w'→w'.cell? ⟨ba,oa+k*4+1,none⟩=some (.int .i64 x.f1):=fun w' hf=>((hfr.trans hf).cell (p:=⟨ba,_,none⟩) hba).trans (hx▸(fa k hlt).2.1)
    have c2: ∀ w',Fr wr w'→w'.cell? ⟨ba,oa+k*4+2,none⟩=some (.string x.f2):=fun w' hf=>((hfr.trans hf).cell (p:=⟨ba,_,none⟩) hba).trans (hx▸(fa k hlt).2.2.1)
    have c3: ∀ w',Fr wr w'→w'.cell? ⟨ba,oa+k*4+3,none⟩=some (.int .i64 x.f3):=fun w' hf=>((hfr.trans hf).cell (p:=⟨ba,_,none⟩) hba).trans (hx▸(fa k hlt).2.2.2)
    have e0: ∀ w',Fr wr w'→w'.cell? ⟨bb,ob+k*4,none⟩=some (.string x.f0):=fun w' hf=>((hfr.trans hf).cell (p:=⟨bb,_,none⟩) hbb).trans (hx▸(fb k hlt).1)
    have e1: ∀ w',Fr wr w'→w'.cell? ⟨bb,ob+k*4+1,none⟩=some (.int .i64 x.f1):=fun w' hf=>((hfr.trans hf).cell (p:=⟨bb,_,none⟩) hbb).trans (hx▸(fb k hlt).2.1)
    have e2: ∀ w',Fr wr w'→w'.cell? ⟨bb,ob+k*4+2,none⟩=some (.string x.f2):=fun w' hf=>((hfr.trans hf).cell (p:=⟨bb,_,none⟩) hbb).trans (hx▸(fb k hlt).2.2.1)
    have e3: ∀ w',Fr wr w'→w'.cell? ⟨bb,ob+k*4+3,none⟩=some (.int .i64 x.f3):=fun w' hf=>((hfr.trans hf).cell (p:=⟨bb,_,none⟩) hbb).trans (hx▸(fb k hlt).2.2.2)
    clear fa fb hx
    go_wp2_with fail
    go_region_held3 (fun w'=>Fr wr w') (repeat(first|(with_reducible exact Fr.refl _)|(with_reducible assumption)|(with_reducible refine Fr.drewN ?_ _)|(with_reducible refine Fr.drew ?_)|(with_reducible refine Fr.alloc ?_ _)|(with_reducible refine Fr.setCell ?_ (by exact Qz) _)|(with_reducible refine Fr.trans ?_ (by with_reducible assumption)))) (first|(go_at_call 176;refine(eqFilter_same x _).mono ?_;rintro e w2 ⟨rfl,hf1⟩))
    go_wp2_with fail
    go_roundw
    case rel=>exact⟨k+1,by omega,by go_num,by exact Qf⟩
    case measure=>(simp[intOf];omega)
  · clear fa fb
    go_wp2
    go_ret
    exact⟨rfl,hfr⟩
end Go.Proofs.YtjnahjgncmcmdaaGreat