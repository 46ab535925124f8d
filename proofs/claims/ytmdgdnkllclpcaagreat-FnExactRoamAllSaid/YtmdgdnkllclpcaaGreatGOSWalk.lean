/- Texts in one: NParcelS2, MRoam2, CopyN, CopyM, Open, OSFilter, OSWalk. -/
import Derived.Test.YtmdgdnkllclpcaaGreatGTch
import Derived.Test.YtmdgdnkllclpcaaGreatGParP
import Derived.Test.YtmdgdnkllclpcaaGreatGNWalkSS2
import Derived.Test.YtmdgdnkllclpcaaGreatGSWalk
import Derived.Laws.CopyOwn
import Derived.Lib.AppendZerosOnto
import Derived.Lib.SliceRun
import Derived.Lib.Overlaps
import Derived.Laws.Externs
import Derived.Deep.RegionLaw
import Derived.Test.YtmdgdnkllclpcaaGreatGStr
import Derived.Deep.Slices
import Derived.Deep.Fields
import Derived.Test.YtmdgdnkllclpcaaGreatGSFilter
namespace Go.Proofs.YtmdgdnkllclpcaaGreat
open Go.RowKit
set_option linter.unusedVariables false
set_option linter.unusedSimpArgs false
set_option maxHeartbeats 1000000 in
theorem szParcelS_any (a : Value) (xs : List (ParcelD)) (left : Int) (w : World) (ha : ParcelSR w a xs) (hs : ParcelSOk xs) (h0 : 0 ≤ left) (h1 : left ≤ 1048576) :
  Calls Tryz.prog 111 #[a, .int .i64 left] w fun e w' => e = .returned (.int .i64 (szR left (ParcelSBulk xs))) ∧ Fr w w' := by
 obtain ⟨ao, ba, oa, ca, rfl, hca, hma, fa⟩ := ha.one
 clear ha
 by_cases hl : (xs.length : Int) ≤ left
 · go_enter Tryz.func111, Tryz.ntmps111
   go_wp2
   go_loopw [1, 5] (fun l i wr => ∃ k : Nat, k ≤ xs.length ∧ i = .int .i64 k ∧ l = .int .i64 (left - xs.length - nSum ParcelD.bulk xs k) ∧ (nSum ParcelD.bulk xs k : Int) ≤ left - xs.length ∧ Fr w wr) (fun _ i _ => xs.length - (intOf i).toNat)
   case atStart => exact ⟨0, Nat.zero_le _, rfl, by simp [nSum], by simp [nSum]; omega, Fr.refl _⟩
   case round =>
    obtain ⟨k, hk, rfl, rfl, hj, hfr⟩ := hrel
    by_cases hlt : k < xs.length
    · obtain ⟨rfl, hba, fa⟩ := fa (by omega)
      obtain ⟨ac, ra, ga⟩ := fa k hlt
      obtain ⟨x, hx⟩ : ∃ x, nAt xs k = x := ⟨_, rfl⟩
      have c0 : wr.cell? ⟨ba, oa + k * 2, none⟩ = some (.int .i64 x.f0) := (hfr.cell (p := ⟨ba, _, none⟩) hba).trans (by first | exact ga.1 | (rw [← hx]; exact ga.1))
      have c1 : wr.cell? ⟨ba, oa + k * 2 + 1, none⟩ = some (ac) := (hfr.cell (p := ⟨ba, _, none⟩) hba).trans (by first | exact ga.2 | (rw [← hx]; exact ga.2))
      rw [hx] at ra
      obtain ⟨aoc, capc, rfl, _⟩ := RdS.val ra
      have hok : ParcelD.okSize x := hx ▸ nAt_mem hs k hlt
      have hsu := nSum_succ ParcelD.bulk xs k hlt
      rw [hx] at hsu
      have hle := nSum_le ParcelD.bulk xs (k + 1)
      have HSU := Lib.hid hsu
      clear hsu fa hx ga
      obtain ⟨bk, hbk⟩ : ∃ bk, ParcelD.bulk x = bk := ⟨_, rfl⟩
      rw [hbk] at HSU
      have HBK := Lib.hid hbk
      clear hbk
      by_cases hr : (bk : Int) ≤ left - xs.length - nSum ParcelD.bulk xs k
      · have hz := szR_ok hr
        go_wp2_with (go_at_call 159; refine (szParcel_w _ x _ _ ⟨_, rfl, (ra.fr (by exact Qf))⟩ hok (by omega) (by omega)).mono ?_; rintro e w1 ⟨rfl, hf1⟩; rw [HBK.out])
        go_roundw
        case rel => exact ⟨k + 1, by omega, by go_num, by rw [HSU.out]; go_num, by rw [HSU.out]; omega, by exact Qf⟩
        case measure => (simp [intOf]; omega)
      · have hz := szR_no hr
        go_wp2_with (go_at_call 159; refine (szParcel_w _ x _ _ ⟨_, rfl, (ra.fr (by exact Qf))⟩ hok (by omega) (by omega)).mono ?_; rintro e w1 ⟨rfl, hf1⟩; rw [HBK.out])
        go_ret
        exact ⟨ret_int (by rw [szR_no]; unfold ParcelSBulk nBulk; have := HSU.out; omega), by exact Qf⟩
    · clear fa
      obtain rfl : k = xs.length := by omega
      go_wp2
      go_ret
      exact ⟨ret_int (by rw [szR_ok]; · unfold ParcelSBulk nBulk; omega
                         · unfold ParcelSBulk nBulk; omega), by exact Qf⟩
 · go_enter Tryz.func111, Tryz.ntmps111
   go_wp2
   go_ret
   exact ⟨ret_int (by rw [szR_no]; unfold ParcelSBulk nBulk; omega), by exact Qf⟩
set_option maxHeartbeats 1000000 in
set_option maxRecDepth 100000 in
theorem toParcelS_w (a:Value) (xs:List (ParcelD)) (w:World) (ha:ParcelSR w a xs) (hn:ParcelSBulk xs≤1048576):
  Calls Tryz.prog 115 #[a] w fun e w'=> ∃ ao cap,e= .returned (.slice ao xs.length cap)∧ParcelSW w' w.heap.size w'.heap.size (.slice ao xs.length cap) xs∧Fr w w':=by
 obtain⟨ao,ba,oa,ca,rfl,hca,hma,fa⟩:=ha.one
 clear ha
 have hn0:xs.length≤1048576:=by unfold ParcelSBulk nBulk at hn;omega
 have HN:=Lib.hid hn
 clear hn
 obtain⟨i0,hi,hz0,hz1,hz2⟩:=info_parts info_Parcel
 go_enter Tryz.func115,Tryz.ntmps115
 go_wp2_with(at_make;refine wpList_make_full _ rfl _ _ 70 rfl w.heap.size 155 i0 (.agg #[.int .i64 0,.slice none 0 0]) 2 Tryz.underlying70 hi hz0 hz1 _ _ _ _ xs.length rfl rfl rfl rfl (by rw[hz2];omega) (by unfold maxLen;omega) (by omega) ?_;intro w1 hown hgrow)
 rw[show(madeCells (Value.cells (.agg #[.int .i64 0,.slice none 0 0])) (xs.length*2)).toList=fillR xs (fun _=>[]) [.int .i64 0,.slice none 0 0] 0 from made_fill xs (fun _=>[]) [.int .i64 0,.slice none 0 0] 2 rfl (by omega)]at hown
 go_loopw [4] (fun i wr=> ∃ k:Nat,k≤xs.length∧i= .int .i64 k∧NestP ParcelEW 155 2 wr w.heap.size wr.heap.size (.slice (some ⟨w.heap.size,0,none⟩) xs.length xs.length) xs.length ((List.replicate (xs.length-k) [.int .i64 0,.slice none 0 0]).flatten) (xs.take k)∧Fr w wr) (fun i _=>xs.length-(intOf i).toNat)
 case atStart=>exact⟨0,Nat.zero_le _,rfl,NestP.none_yet (OwW.of_owns (by simpa [fillR]using hown)),(Fr.refl w).grown hgrow (by simp)⟩
 case round=>
  clear hown hgrow
  obtain⟨k,hk,rfl,ho,hfr⟩:=hrel
  by_cases hlt:k<xs.length
  · obtain⟨rfl,hba,fa⟩:=fa (by omega)
    obtain⟨ac,ra,ga⟩:=fa k hlt
    obtain⟨x,hx⟩: ∃ x,nAt xs k=x:=⟨_,rfl⟩
    have hxl:x.f1.length≤1048576:=by
     have h1:=nSum_succ ParcelD.bulk xs k hlt
     have h2:=nSum_le ParcelD.bulk xs (k+1)
     have h3:=HN.out
     unfold ParcelSBulk nBulk at h3
     rw[hx]at h1
     have h4:ParcelD.bulk x≤1048576:=by omega
     clear h1 h2 h3 hx
     revert h4
     intro h4
     exact(by unfold ParcelD.bulk at *; omega)
    have c0:wr.cell? ⟨ba,oa+k*2,none⟩=some (.int .i64 x.f0):=(hfr.cell (p:=⟨ba,_,none⟩) hba).trans (by first|exact ga.1|(rw[← hx];exact ga.1))
    have c1:wr.cell? ⟨ba,oa+k*2+1,none⟩=some (ac):=(hfr.cell (p:=⟨ba,_,none⟩) hba).trans (by first|exact ga.2|(rw[← hx];exact ga.2))
    have HX:=Lib.hid (take_next xs k hlt)
    rw[hx]at ra HX
    obtain⟨aoc,capc,rfl,_⟩:=RdS.val ra
    have hkl:(xs.take k).length=k:=by simp;omega
    have hsz:=ho.block.2.2
    rw[show xs.length-k=(xs.length-(k+1))+1 from by omega,List.replicate_succ,List.flatten_cons]at ho
    clear fa hx ga
    go_wp2_with(go_at_call 160;refine(toParcel_w _ x _ ⟨_,rfl,(ra.fr (by exact Qf))⟩ hxl).mono ?_;rintro e w2 ⟨aor,capr,rfl,hr2,hf1⟩;have p0:=NestP.fr (E:=ParcelEW) (fun a b c=>ParcelEW.span a b c) ho hf1;obtain⟨g0,u0,d0⟩:=p0.spot (k*2) (by omega);obtain⟨g1,u1,d1⟩:=p0.spot (k*2+1) (by omega))
    have p0:=NestP.fr (E:=ParcelEW) (fun a b c=>ParcelEW.span a b c) ho hf1
    have p1:=NestP.stored (E:=ParcelEW) (fun a b c=>ParcelEW.span a b c) p0 0 (.int .i64 x.f0) (by simp) (i:=k*2) (by omega)
    have p2:=NestP.stored (E:=ParcelEW) (fun a b c=>ParcelEW.span a b c) p1 1 (.slice aor x.f1.length capr) (by simp) (i:=k*2+1) (by omega)
    go_roundw
    case rel=>
     refine⟨k+1,by omega,by go_num,?_,by exact Qf⟩
     rw[HX.out]
     have zf:=hf1.size
     refine NestP.grow (l1:=wr.heap.size) (h1:=w2.heap.size) (u:=[.int .i64 x.f0,.slice aor x.f1.length capr]) p2 rfl ?_ (by omega) (Nat.le_refl _) zf (by exact Qz)
     obtain⟨_,_,hv,hr2⟩:=hr2;cases hv
     exact⟨aor,capr,rfl,by change OwW _ _ _ _ _ _ _ _;(repeat(first|(with_reducible refine OwW.drewN ?_ _)|(with_reducible refine OwW.drew ?_)|(with_reducible refine OwW.alloc ?_ _)|(with_reducible refine OwW.set ?_ (by exact Qz) _)|(exact hr2)))⟩
    case measure=>(simp[intOf];omega)
  · clear fa
    obtain rfl:k=xs.length:=by omega
    simp only[Nat.sub_self,List.replicate_zero,List.flatten_nil,List.take_length]at ho
    go_wp2
    go_ret
    exact⟨_,_,rfl,ho,hfr⟩
theorem RoamX.of {w:World} {l0 m h0:Nat} {u1 u2:Value} {d:RoamD} (h1:WalkSSW w l0 m u1 d.f0) (h2:ParcelSW w m h0 u2 d.f1) (hm:l0≤m) (hm2:m≤h0):RoamX w l0 h0 u1 u2 d:=
 ⟨_,_,NestX.of_nest h1,NestX.of_nest h2,fun g p q=>by omega,fun g p=>by omega⟩
set_option maxHeartbeats 2000000 in
set_option maxRecDepth 100000 in
theorem szRoam_w (v:Value) (d:RoamD) (left:Int) (w:World) (hv:RoamRd w v d) (hs:d.okSize) (h0:0≤left) (h1:left≤1048576):
  Calls Tryz.prog 43 #[v,.int .i64 left] w fun e w'=>e= .returned (.int .i64 (szR left d.bulk))∧Fr w w':=by
 obtain⟨u1,u2,rfl,r1,r2⟩:=hv
 unfold RoamD.okSize at hs
 obtain⟨o1,o2⟩:=hs
 have R1:=Lib.hid r1;clear r1
 have O1:=Lib.hid o1;clear o1
 obtain⟨b1,hb1⟩: ∃ b,WalkSSBulk d.f0=b:=⟨_,rfl⟩;have B1:=Lib.hid hb1;clear hb1
 have R2:=Lib.hid r2;clear r2
 have O2:=Lib.hid o2;clear o2
 obtain⟨b2,hb2⟩: ∃ b,ParcelSBulk d.f1=b:=⟨_,rfl⟩;have B2:=Lib.hid hb2;clear hb2
 have HB:Hid (d.bulk=b1+b2):=by unfold RoamD.bulk;rw[B1.out,B2.out];exact rfl
 by_cases q1:(b1:Int)≤left
 · have z1:szR left b1=(left-b1):=szR_ok q1
   by_cases q2:(b2:Int)≤(left-b1)
   · have z2:szR (left-b1) b2=(left-b1-b2):=szR_ok q2
     go_enter Tryz.func43,Tryz.ntmps43
     go_wp2_with(first|(go_at_call 110;refine(szWalkSS_any _ d.f0 left _ (R1.out.fr (by exact Qf)) O1.out (by omega) (by omega)).mono ?_;rintro e wz1 ⟨rfl,hf1⟩;have z1:=hf1.size;(try simp only[World.size_alloc,World.size_setCell,World.size_drew]at z1);have k0:=hf1.blk w.heap.size (by exact Qz);rw[B1.out])|(go_at_call 111;refine(szParcelS_any _ d.f1 (left-b1) _ (R2.out.fr (by exact Qf)) O2.out (by omega) (by omega)).mono ?_;rintro e wz2 ⟨rfl,hf2⟩;have z1:=hf2.size;(try simp only[World.size_alloc,World.size_setCell,World.size_drew]at z1);have k0:=hf2.blk w.heap.size (by exact Qz);rw[B2.out]))
     go_ret
     exact⟨ret_int (by rw[HB.out,szR_ok (by omega)];omega),by exact Qf⟩
   · have z2:szR (left-b1) b2= -1:=szR_no q2
     go_enter Tryz.func43,Tryz.ntmps43
     go_wp2_with(first|(go_at_call 110;refine(szWalkSS_any _ d.f0 left _ (R1.out.fr (by exact Qf)) O1.out (by omega) (by omega)).mono ?_;rintro e wz1 ⟨rfl,hf1⟩;have z1:=hf1.size;(try simp only[World.size_alloc,World.size_setCell,World.size_drew]at z1);have k0:=hf1.blk w.heap.size (by exact Qz);rw[B1.out])|(go_at_call 111;refine(szParcelS_any _ d.f1 (left-b1) _ (R2.out.fr (by exact Qf)) O2.out (by omega) (by omega)).mono ?_;rintro e wz2 ⟨rfl,hf2⟩;have z1:=hf2.size;(try simp only[World.size_alloc,World.size_setCell,World.size_drew]at z1);have k0:=hf2.blk w.heap.size (by exact Qz);rw[B2.out]))
     go_ret
     exact⟨ret_int (by rw[HB.out,szR_no (by omega)]),by exact Qf⟩
 · have z1:szR left b1= -1:=szR_no q1
   go_enter Tryz.func43,Tryz.ntmps43
   go_wp2_with(first|(go_at_call 110;refine(szWalkSS_any _ d.f0 left _ (R1.out.fr (by exact Qf)) O1.out (by omega) (by omega)).mono ?_;rintro e wz1 ⟨rfl,hf1⟩;have z1:=hf1.size;(try simp only[World.size_alloc,World.size_setCell,World.size_drew]at z1);have k0:=hf1.blk w.heap.size (by exact Qz);rw[B1.out]))
   go_ret
   exact⟨ret_int (by rw[HB.out,szR_no (by omega)]),by exact Qf⟩
set_option maxHeartbeats 2000000 in
set_option maxRecDepth 100000 in
theorem toRoam_w (v:Value) (d:RoamD) (w:World) (hv:RoamRd w v d) (hn:d.bulk≤1048576):
  Calls Tryz.prog 45 #[v] w fun e w'=> ∃ a1 c1 a2 c2,e= .returned (.agg #[.slice a1 d.f0.length c1,.slice a2 d.f1.length c2])∧RoamW w' w.heap.size w'.heap.size (.agg #[.slice a1 d.f0.length c1,.slice a2 d.f1.length c2]) d∧Fr w w':=by
 obtain⟨u1,u2,rfl,r1,r2⟩:=hv
 unfold RoamD.bulk at hn
 have HN:=Lib.hid hn
 clear hn
 have R1:=Lib.hid r1
 have R2:=Lib.hid r2
 clear r1 r2
 go_enter Tryz.func45,Tryz.ntmps45
 go_wp2_with fail
 refine(toWalkSS_w _ d.f0 _ (R1.out.fr (by exact Qf)) (by have:=HN.out;omega)).mono ?_
 rintro e w1 ⟨a1,c1,rfl,ho1,hf1⟩
 have k0:=hf1.blk w.heap.size (by exact Qz);have k1:=hf1.blk (w.heap.size+1) (by exact Qz);have k2:=hf1.blk (w.heap.size+1+1) (by exact Qz);have z1:=hf1.size;(try simp only[World.size_alloc,World.size_setCell,World.size_drew]at z1)
 have HO1:=Lib.hid ho1
 clear ho1
 go_wp2_with fail
 refine(toParcelS_w _ d.f1 _ (R2.out.fr (by exact Qf)) (by have:=HN.out;omega)).mono ?_
 rintro e w2 ⟨a2,c2,rfl,ho2,hf2⟩
 have k0:=hf2.blk w.heap.size (by exact Qz);have k1:=hf2.blk (w.heap.size+1) (by exact Qz);have k2:=hf2.blk (w.heap.size+1+1) (by exact Qz);have z2:=hf2.size;(try simp only[World.size_alloc,World.size_setCell,World.size_drew]at z2)
 have HO2:=Lib.hid ho2
 clear ho2
 go_wp2_with fail
 refine bodyPost_ret (v:= .agg #[.slice a1 d.f0.length c1,.slice a2 d.f1.length c2]) (by simp[results,Tryz.results45,go_sem, *]) rfl ⟨_,_,_,_,rfl,⟨_,_,_,_,rfl,RoamX.mono (RoamX.of (m:=w1.heap.size) (h0:=w2.heap.size) (WalkSSW.ab HO1.out (by exact Qa)) (ParcelSW.ab (NestP.mono HO2.out (by exact Qz) (by exact Qz)) (by exact Qa)) (by exact Qz) (by exact Qz)) (by exact Qz) (by exact Qz)⟩,by exact Qf⟩
theorem run_copy_rowN {P:Program} (w:World) (dT sT ty elem:TypeId) (sz:Nat) (g o dLen dCap:Nat) (a:Addr) (sLen sCap:Nat) (cur:Array Value) (t:TypeId) (cs:List Value) (k:Nat) (hk:k=Nat.min sLen dLen)
  (hu:P.underlying dT=some (.slice elem)) (hs:(P.info? elem).map (·.size)=some sz)
  (hg:w.heap[g]? =some (.cells cur t (0,0))) (hn:cs.length=k*sz)
  (hsrc: ∀ j v,cs[j]? =some v→w.cell? (a.add j)=some v) (hfit:o+cs.length≤cur.size) (h1: ∀ v∈cs,v.oneCell'=true):
  (Builtin.copy_ #[dT,sT] ty #[.slice (some ⟨g,o,none⟩) dLen dCap,.slice (some a) sLen sCap]).run P w=
   .ok (goInt k) (w.setRow g (cur.toList.take o++cs++cur.toList.drop (o+cs.length)).toArray):=by
 have hl:=run_loadCells_list (P:=P) w a cs hsrc
 have hst:=run_storeCells_at P g o t cs 0 cur w hg (by simpa using hfit) h1
 cases hq:P.info? elem with
 |none=>simp[hq]at hs
 |some i=>
  have hi:i.size=sz:=by simpa [hq]using hs
  rw[hn]at hl
  simp[Builtin.copy_,run_underlying hu,Builtin.lenOf,Builtin.firstCells,sizeOf,typeInfo,hq,hi, ← hk,hl,hst]
theorem grown_setRow (w:World) (g:Nat) (cs:Array Value):w.grownBy (w.setRow g cs) (some g):=
 ⟨rfl,rfl,rfl,by simp[World.setRow],fun k hk hne=>setRow_other w g k cs (fun e=>hne (by rw[e]))⟩
theorem wpList_copyN {P:Program} {w:World} {ops:Array Oper} {rest:List Oper} {o:Oper} {a:Act} {Q:Exit→Act→World→Prop} (hgd:o.guard=none) (d s:Operand) (dT sT:TypeId)
  (ho:o.op= .call {callee:= .builtin .copy,args:= #[d,s],argTypes:= #[dT,sT]}) (elem:TypeId) (sz:Nat) (hu:P.underlying dT=some (.slice elem)) (hsz:(P.info? elem).map (·.size)=some sz)
  (g off dLen dCap:Nat) (ad:Addr) (sLen sCap:Nat) (hd:a.eval d= .slice (some ⟨g,off,none⟩) dLen dCap) (hs:a.eval s= .slice (some ad) sLen sCap) (k:Nat) (hk:k=Nat.min sLen dLen)
  (cur:List Value) (t:TypeId) (hg:w.heap[g]? =some (.cells cur.toArray t (0,0))) (cs:List Value) (hn:cs.length=k*sz)
  (hsrc: ∀ j v,cs[j]? =some v→w.cell? (ad.add j)=some v) (hfit:off+cs.length≤cur.length) (h1: ∀ v∈cs,v.oneCell'=true)
  (h: ∀ w',Hid (w'.heap[g]? =some (.cells (splice cur off cs).toArray t (0,0)))→w.grownBy w' (some g)→wpList P ops Q rest (a.put o.dst (goInt k)) w'):wpList P ops Q (o::rest) a w:=by
 refine wpList_plain hgd fun K hK=>?_
 have hrun:=run_copy_rowN (P:=P) w dT sT o.type elem sz g off dLen dCap ad sLen sCap cur.toArray t cs k hk hu hsz hg hn hsrc (by simpa using hfit) h1
 have hh:=h _ (show _=_ by simpa [splice]using setRow_heap w g _ _ t _ hg) (grown_setRow w g _)
 unfold Oper.wp
 simp[execOp,ho,resolve,invoke,builtin,hd,hs,hrun,Result.andThen]
 exact hK _ _ (by simpa using hh)
theorem step_copyN {P:Program} {ops:Array Oper} {o:Oper} {a:Act} {w:World} {K:Act→World→Prop} {Q:Exit→Act→World→Prop} {E:Prop} (hgd:o.guard=none) (d s:Operand) (dT sT:TypeId)
  (ho:o.op= .call {callee:= .builtin .copy,args:= #[d,s],argTypes:= #[dT,sT]}) (elem:TypeId) (sz:Nat) (hu:P.underlying dT=some (.slice elem)) (hsz:(P.info? elem).map (·.size)=some sz)
  (g off dLen dCap:Nat) (ad:Addr) (sLen sCap:Nat) (hd:a.eval d= .slice (some ⟨g,off,none⟩) dLen dCap) (hs:a.eval s= .slice (some ad) sLen sCap) (k:Nat) (hk:k=Nat.min sLen dLen)
  (cur:List Value) (t:TypeId) (hg:w.heap[g]? =some (.cells cur.toArray t (0,0))) (cs:List Value) (hn:cs.length=k*sz)
  (hsrc: ∀ j v,cs[j]? =some v→w.cell? (ad.add j)=some v) (hfit:off+cs.length≤cur.length) (h1: ∀ v∈cs,v.oneCell'=true)
  (h: ∀ w',Hid (w'.heap[g]? =some (.cells (splice cur off cs).toArray t (0,0)))→w.grownBy w' (some g)→K (a.put o.dst (goInt k)) w'):
  if Region.wanted o (yielded ops a.tmps)=true then Oper.wp P o a w K Q else E:=by
 have hw:Region.wanted o (yielded ops a.tmps)=true:=by simp[Region.wanted,hgd]
 rw[if_pos hw]
 have hrun:=run_copy_rowN (P:=P) w dT sT o.type elem sz g off dLen dCap ad sLen sCap cur.toArray t cs k hk hu hsz hg hn hsrc (by simpa using hfit) h1
 have hh:=h _ (show _=_ by simpa [splice]using setRow_heap w g _ _ t _ hg) (grown_setRow w g _)
 unfold Oper.wp
 simp[execOp,ho,resolve,invoke,builtin,hd,hs,hrun,Result.andThen]
 exact(by simpa using hh:K (a.put o.dst (goInt k)) (w.setRow g (List.take off cur++(cs++List.drop (off+cs.length) cur)).toArray))
theorem zeroCells_length (z:Array Value) (n:Nat):(Builtin.zeroCells z n).size=n*z.size:=by simp[Builtin.zeroCells]
/-- 'clear(s)' over a row that is known whole: the row ahead stays. -/
theorem run_clear_rowN {P:Program} (w:World) (t e ty:TypeId) (z:Value) (ht:P.underlying t=some (.slice e)) (hv: ∀ w,(zeroValue e).run P w= .ok z w) (h1: ∀ v∈z.cells,v.oneCell'=true) (g o n c:Nat) (hn:0<n) (cur:List Value) (te:TypeId)
  (hg:w.heap[g]? =some (.cells cur.toArray te (0,0))) (hfit:o+n*z.cells.size≤cur.length):
  ∃ cur':List Value,(Builtin.clear_ #[t] ty #[.slice (some ⟨g,o,none⟩) n c]).run P w= .ok (.tuple #[]) (w.setRow g cur'.toArray)∧cur'.length=cur.length∧cur'.take o=cur.take o:=by
 have hz1: ∀ v∈(Builtin.zeroCells z.cells n).toList,v.oneCell'=true:=by
  intro v hv'
  simp only[Builtin.zeroCells,Array.toList_map,List.mem_map,Array.mem_toList_iff,Array.mem_range]at hv'
  obtain⟨i,hi,rfl⟩:=hv'
  have hp:0<z.cells.size:=by
   rcases Nat.eq_zero_or_pos z.cells.size with h0|h0
   · rw[h0]at hi;simp at hi
   · exact h0
  have hm:i%z.cells.size<z.cells.size:=Nat.mod_lt _ hp
  rw[getElem!_pos z.cells _ hm]
  exact h1 _ (Array.getElem_mem hm)
 have hl:(Builtin.zeroCells z.cells n).toList.length=n*z.cells.size:=by rw[Array.length_toList,zeroCells_length]
 have hst:=run_storeCells_at P g o te (Builtin.zeroCells z.cells n).toList 0 cur.toArray w hg (by rw[hl];simpa using hfit) hz1
 refine⟨cur.take o++(Builtin.zeroCells z.cells n).toList++cur.drop (o+n*z.cells.size),?_,?_,?_⟩
 · obtain⟨m,rfl⟩: ∃ m,n=m+1:=⟨n-1,by omega⟩
   rw[hl]at hst
   simp only[Nat.add_zero,List.toList_toArray]at hst
   simp[Builtin.clear_,run_underlying ht,hv,hst]
 · simp only[List.length_append,List.length_take,List.length_drop,hl]
   omega
 · rw[List.append_assoc,List.take_append_of_le_length (by rw[List.length_take];omega),List.take_take]
   congr 1
   omega
/-- A row into which cells were laid: the arithmetic of slices.Insert. -/
theorem splice_two {α:Type} (C F:List α) (a m n:Nat) (hF:F.length=m) (ha:a≤n) (hC:n+m≤C.length):
  (splice (splice C (a+m) ((C.take n).drop a)) a F).take (n+m)=(C.take n).take a++F++(C.take n).drop a∧(splice (splice C (a+m) ((C.take n).drop a)) a F).length=C.length:=by
 have h1:((C.take n).drop a).length=n-a:=by rw[List.length_drop,List.length_take];omega
 have l1:(splice C (a+m) ((C.take n).drop a)).length=C.length:=length_splice _ _ _ (by omega)
 refine⟨?_,by rw[length_splice _ _ _ (by omega),l1]⟩
 unfold splice
 rw[h1,hF]
 have e1:(List.take (a+m) C++(List.drop a (List.take n C)++List.drop (a+m+(n-a)) C)).take a=C.take a:=by
  rw[List.take_append_of_le_length (by rw[List.length_take];omega),List.take_take];congr 1;omega
 have e2:(List.take (a+m) C++(List.drop a (List.take n C)++List.drop (a+m+(n-a)) C)).drop (a+m)=List.drop a (List.take n C)++List.drop (a+m+(n-a)) C:=by
  rw[List.drop_append_of_le_length (by rw[List.length_take];omega),List.drop_eq_nil_of_le (by rw[List.length_take];omega),List.nil_append]
 rw[e1,e2]
 have e3:(C.take n).take a=C.take a:=by rw[List.take_take];congr 1;omega
 rw[e3,List.append_assoc]
 have e4:(C.take a++(F++((C.take n).drop a++C.drop (a+m+(n-a)))))=(C.take a++(F++(C.take n).drop a))++C.drop (a+m+(n-a)):=by simp[List.append_assoc]
 rw[e4,List.take_append_of_le_length (by simp only[List.length_append,List.length_take,hF,h1];omega),List.take_of_length_le (by simp only[List.length_append,List.length_take,hF,h1];omega)]
theorem splice_two' {α:Type} (R X F:List α) (a m:Nat) (hF:F.length=m) (ha:a≤X.length) (hR:X.length+m≤R.length) (hRa:R.take a=X.take a):
  (splice (splice R a F) (a+m) (X.drop a)).take (X.length+m)=X.take a++F++X.drop a∧(splice (splice R a F) (a+m) (X.drop a)).length=R.length:=by
 have h1:(X.drop a).length=X.length-a:=List.length_drop
 have l1:(splice R a F).length=R.length:=length_splice _ _ _ (by omega)
 refine⟨?_,by rw[length_splice _ _ _ (by omega),l1]⟩
 unfold splice
 rw[h1,hF]
 have e1:(List.take a R++(F++List.drop (a+m) R)).take (a+m)=X.take a++F:=by
  rw[← List.append_assoc,List.take_append_of_le_length (by simp only[List.length_append,List.length_take,hF];omega),List.take_of_length_le (by simp only[List.length_append,List.length_take,hF];omega),hRa]
 rw[e1]
 have hle:(X.take a++F++X.drop a).length=X.length+m:=by simp only[List.length_append,List.length_take,hF,h1];omega
 rw[← List.append_assoc,List.take_append_of_le_length (by omega),List.take_of_length_le (by omega)]
theorem grown_undrew {w w':World} {r:Option Nat} (h:w.drew.grownBy w' r):w.grownBy w' r:=⟨h.os,h.tape,h.output,h.size,h.block⟩
theorem grown_trans {w w' w'':World} {r:Option Nat} (h:w.grownBy w' r) (k:w'.grownBy w'' r):w.grownBy w'' r:=
 ⟨k.os.trans h.os,k.tape.trans h.tape,k.output.trans h.output,Nat.le_trans h.size k.size,fun b hb hn=>(k.block b (Nat.lt_of_lt_of_le hb h.size) hn).trans (h.block b hb hn)⟩
theorem setCells_row (g:Nat) (t:TypeId): ∀ (cs:List Value) (o:Nat) (w:World) (cur:List Value),w.heap[g]? =some (.cells cur.toArray t (0,0))→o+cs.length≤cur.length→
  (w.setCells g o cs).heap[g]? =some (.cells (splice cur o cs).toArray t (0,0))∧w.grownBy (w.setCells g o cs) (some g)
 |[],o,w,cur,hg,h=>by
  refine⟨?_,⟨rfl,rfl,rfl,Nat.le_refl _,fun _ _ _=>rfl⟩⟩
  show w.heap[g]? =_
  rw[hg]
  simp[splice]
 |v::r,o,w,cur,hg,h=>by
  have hl:(v::r).length=r.length+1:=rfl
  have hg1:(w.setCell ⟨g,o,none⟩ v).heap[g]? =some (.cells (cur.set o v).toArray t (0,0)):=by
   rw[heap_setCell_same w g o _ t v hg];simp
  have h1:w.grownBy (w.setCell ⟨g,o,none⟩ v) (some g):=⟨rfl,rfl,rfl,by simp,fun k _ hk=>heap_setCell_other w ⟨g,o,none⟩ k v (fun e=>hk (by rw[e]))⟩
  obtain⟨h2,h3⟩:=setCells_row g t r (o+1) (w.setCell ⟨g,o,none⟩ v) (cur.set o v) hg1 (by rw[List.length_set];omega)
  refine⟨?_,grown_trans h1 h3⟩
  show((w.setCell ⟨g,o,none⟩ v).setCells g (o+1) r).heap[g]? =_
  rw[h2]
  congr 3
  have e:=list_seg_step cur o v r (by omega)
  unfold splice
  simpa [List.append_assoc,Nat.add_assoc,Nat.add_comm 1]using e
theorem run_clear_rowM {P:Program} (w:World) (t e:TypeId) (z:Value) (ht:P.underlying t=some (.slice e)) (hv: ∀ w,(zeroValue e).run P w= .ok z w) (h1: ∀ v∈z.cells,v.oneCell'=true) (g o n c:Nat) (hn:0<n) (cur:List Value) (te:TypeId)
  (hg:w.heap[g]? =some (.cells cur.toArray te (0,0))) (hfit:o+n*z.cells.size≤cur.length):
  ∃ (cur':List Value) (w':World),(∀ ty,(Builtin.clear_ #[t] ty #[.slice (some ⟨g,o,none⟩) n c]).run P w= .ok (.tuple #[]) w')∧w'.heap[g]? =some (.cells cur'.toArray te (0,0))∧w.grownBy w' (some g)∧cur'.length=cur.length∧cur'.take o=cur.take o:=by
 obtain⟨cur',h2,h3,h4⟩:=run_clear_rowN w t e t z ht hv h1 g o n c hn cur te hg hfit
 exact⟨cur',w.setRow g cur'.toArray,fun ty=>h2,setRow_heap w g _ _ te _ hg,grown_setRow _ _ _,h3,h4⟩
theorem del_take {α:Type} (C:List α) (a m n:Nat) (hn:a+m≤n) (hC:n≤C.length):(splice C a ((C.take n).drop (a+m))).take (n-m)=(C.take n).take a++(C.take n).drop (a+m)∧(splice C a ((C.take n).drop (a+m))).length=C.length:=by
 have hl:((C.take n).drop (a+m)).length=n-(a+m):=by rw[List.length_drop,List.length_take];omega
 refine⟨?_,length_splice _ _ _ (by omega)⟩
 unfold splice
 have e:(C.take n).take a=C.take a:=by rw[List.take_take];congr 1;omega
 rw[e, ← List.append_assoc,List.take_append_of_le_length (by simp only[List.length_append,List.length_take,hl];omega),List.take_of_length_le (by simp only[List.length_append,List.length_take,hl];omega)]
theorem step_append_roomN {P:Program} {ops:Array Oper} {o:Oper} {a:Act} {w:World} {K:Act→World→Prop} {Q:Exit→Act→World→Prop} {E:Prop}
  (hg:o.guard=none) (s x:Operand) (t:TypeId) (hop:o.op=Op.call {callee:=Callee.builtin Builtin.append,args:= #[s,x],argTypes:= #[t,t]})
  (e:TypeId) (i:TypeInfo) (size:Nat) (h1:P.underlying t=some (.slice e)) (h2:P.info? e=some i) (h4:i.size=size)
  (b n cap:Nat) (hs:a.eval s= .slice (some ⟨b,0,none⟩) n cap)
  (ad:Addr) (m c:Nat) (news:List Value) (hx:a.eval x= .slice (some ad) m c) (hn:news.length=m*size) (hc: ∀ j u,news[j]? =some u→w.cell? (ad.add j)=some u) (h1c: ∀ u∈news,u.oneCell'=true)
  (hroom:n+m≤cap) (hspare: ∀ j,j<news.length→(w.cell? ⟨b,n*size+j,none⟩).isSome=true∧w.frozen? ⟨b,n*size+j,none⟩=false)
  (cur:List Value) (te:TypeId) (hcur:w.heap[b]? =some (.cells cur.toArray te (0,0))) (hfit:n*size+news.length≤cur.length) (nm:Nat) (hnm:nm=n+m)
  (hK: ∀ w',Hid (w'.heap[b]? =some (.cells (splice cur (n*size) news).toArray te (0,0)))→w.grownBy w' (some b)→K (a.put o.dst (.slice (some ⟨b,0,none⟩) nm cap)) w'):
  if Region.wanted o (yielded ops a.tmps)=true then Oper.wp P o a w K Q else E:=by
 subst hnm
 obtain⟨h5,h6⟩:=setCells_row b te news (n*size) w cur hcur hfit
 refine step_append_room hg s x t hop e i size h1 h2 h4 b 0 n cap hs ad m c news hx hn hc h1c hroom (by simpa using hspare) ?_
 rw[Nat.zero_add]
 exact hK _ h5 h6
open Go.Deep Go.ChangeShapes Go.WideShapes
theorem mapM_some {α β:Type} {f:α→Option β}: ∀ {l:List α} {r:List β},l.mapM f=some r→r.length=l.length∧ ∀ (i:Nat) (x:α),l[i]? =some x→f x=r[i]?
 |[],r,h=>by simp at h;subst h;simp
 |a::l,r,h=>by
  simp only[List.mapM_cons,Option.bind_eq_bind,Option.bind_eq_some_iff,Option.pure_def,Option.some.injEq]at h
  obtain⟨b,hb,r',hr,rfl⟩:=h
  obtain⟨h1,h2⟩:=mapM_some hr
  refine⟨by simp[h1],fun i x hx=>?_⟩
  cases i with
  |zero=>simp at hx;subst hx;simpa using hb
  |succ i=>simp at hx;simpa using h2 i x hx
theorem cells_some {w:World} {base:Nat} {a:Addr} {n:Nat} {cs:List Value} (h:w.cells? base a n=some cs):cs.length=n∧ ∀ j,j<n→w.cell? (a.add j)=cs[j]? :=by
 unfold World.cells? at h
 split at h
 · obtain⟨h1,h2⟩:=mapM_some h
   refine⟨by simpa using h1,fun j hj=>h2 j j (by simp[hj])⟩
 · cases h
theorem flat_at {C:Nat→List Value} {sz:Nat}: ∀ {n:Nat},(∀ i,i<n→(C i).length=sz)→ ∀ i j,i<n→j<sz→((List.range n).flatMap C)[i*sz+j]? =(C i)[j]?
 |0,_,i,j,hi,_=>absurd hi (by omega)
 |n+1,h,i,j,hi,hj=>by
  have hl:((List.range n).flatMap C).length=n*sz:=by
   have: ∀ m,m≤n→((List.range m).flatMap C).length=m*sz:=by
    intro m
    induction m with
    |zero=>intro _;simp
    |succ m ih=>intro hm;rw[List.range_succ,List.flatMap_append,List.length_append,ih (by omega)];simp[h m (by omega),Nat.add_mul]
   exact this n (Nat.le_refl _)
  rw[List.range_succ,List.flatMap_append]
  by_cases hin:i<n
  · have:i*sz+j<n*sz:=by
     have:=Nat.mul_le_mul_right sz (show i+1≤n by omega)
     rw[Nat.add_mul]at this
     omega
    rw[List.getElem?_append_left (by omega)]
    exact flat_at (fun k hk=>h k (by omega)) i j hin hj
  · obtain rfl:i=n:=by omega
    rw[List.getElem?_append_right (by omega),hl,show i*sz+j-i*sz=j by omega]
    simp
theorem flat_length {C:Nat→List Value} {sz:Nat} {n:Nat} (h: ∀ i,i<n→(C i).length=sz):((List.range n).flatMap C).length=n*sz:=by
 induction n with
 |zero=>simp
 |succ n ih=>rw[List.range_succ,List.flatMap_append,List.length_append,ih (fun i hi=>h i (by omega))];simp[h n (by omega),Nat.add_mul]
section
variable {H:Type} {enc:TypeId×Value→H} {P:Program} {w:World} {spare:Nat→Bool} {held:Bool}
/-- A slice of whatever elements: its rows of cells, each with its own reading. -/
theorem open_rows {t e:TypeId} {sz fuel:Nat} {v:Value} {x:DataW H×List MemPlace} (ht:P.underlying t=some (.slice e)) (hc:P.cellsOf e=sz) (hsz:0<sz) (h:DataW.trod enc P w 0 spare held fuel t [v]=some x):
  ∃ (n:Nat) (C:Nat→List Value),RdS w sz v n ((List.range n).flatMap C)∧n≤maxLen∧ ∀ i,i<n→(C i).length=sz∧ ∃ m y,DataW.trod enc P w 0 spare held m e (C i)=some y:=by
 rcases open_slice ht h with⟨hcs,rfl⟩|⟨a,len,cap,m,k,D,Pl,hcs,_,hl,hm,hmm,_,hel⟩
 · obtain rfl:v= .slice none 0 0:=by simpa using hcs
   exact⟨0,fun _=>[],⟨by simp,none,0,rfl,Nat.le_refl _,by simp[maxLen],fun h=>absurd h (by omega)⟩,by simp[maxLen],fun i hi=>absurd hi (by omega)⟩
 · obtain rfl:v= .slice (some a) len cap:=by simpa using hcs
   have hlm:len≤m:=by rw[hmm];split<;>omega
   have hel': ∀ i,∃ cs:List Value,i<len→cs.length=sz∧(∀ j,j<sz→w.cell? ((a.add (i*sz)).add j)=cs[j]?)∧ ∃ y,DataW.trod enc P w 0 spare held k e cs=some y:=by
    intro i
    by_cases hi:i<len
    · obtain⟨cs',h1,h2⟩:=hel i (by omega)
      rw[hc]at h1
      obtain⟨h3,h4⟩:=cells_some h1
      exact⟨cs',fun _=>⟨h3,h4,_,h2⟩⟩
    · exact⟨[],fun h=>absurd h hi⟩
   have hC:=Classical.axiomOfChoice hel'
   obtain⟨C,hC⟩:=hC
   refine⟨len,C,⟨flat_length (fun i hi=>(hC i hi).1),some a,cap,rfl,hl,hm,fun hn=>?_⟩,by omega,fun i hi=>⟨(hC i hi).1,k,(hC i hi).2.2⟩⟩
   obtain⟨b,off,spot⟩:=a
   have h00:w.cell? ⟨b,off,spot⟩=some ((C 0)[0]'(by rw[(hC 0 hn).1];exact hsz)):=by
    have:=(hC 0 hn).2.1 0 hsz
    simpa [Addr.add,List.getElem?_eq_getElem (show 0<(C 0).length by rw[(hC 0 hn).1];exact hsz)]using this
   have hspot:spot=none:=World.cell?_spot h00
   subst hspot
   refine⟨b,off,rfl,World.block_lt_of_cell? w _ h00,fun j hj=>?_⟩
   have h1:j/sz<len:=Nat.div_lt_of_lt_mul (by rw[Nat.mul_comm];exact hj)
   have h2:j%sz<sz:=Nat.mod_lt _ hsz
   have h3:j/sz*sz+j%sz=j:=by rw[Nat.mul_comm];exact Nat.div_add_mod _ _
   have:=(hC (j/sz) h1).2.1 (j%sz) h2
   rw[WideShapes.add_plain,WideShapes.add_plain,Nat.add_assoc,h3]at this
   rw[this, ← flat_at (fun i hi=>(hC i hi).1) (j/sz) (j%sz) h1 h2,h3]
theorem flat_one {α:Type} {C:Nat→List Value} {f:α→Value} {n:Nat} {g:Nat→α} (h: ∀ i,i<n→C i=[f (g i)]):(List.range n).flatMap C=((List.range n).map g).map f:=by
 induction n with
 |zero=>simp
 |succ n ih=>rw[List.range_succ,List.flatMap_append,ih (fun i hi=>h i (by omega))];simp[h n (by omega)]
/-- A slice of one-cell elements that each read as some 'f x' with 'p x'. -/
theorem open_ones {α:Type} [Inhabited α] {f:α→Value} {p:α→Prop} {t e:TypeId} {fuel:Nat} {v:Value} {x:DataW H×List MemPlace} (ht:P.underlying t=some (.slice e)) (hc:P.cellsOf e=1) (h:DataW.trod enc P w 0 spare held fuel t [v]=some x)
  (hp: ∀ m (c:Value) (y:DataW H×List MemPlace),DataW.trod enc P w 0 spare held m e [c]=some y→ ∃ a,c=f a∧p a):
  ∃ l:List α,RdS w 1 v l.length (l.map f)∧ ∀ a∈l,p a:=by
 obtain⟨n,C,hr,_,hC⟩:=open_rows ht hc (by omega) h
 have: ∀ i,∃ a,i<n→C i=[f a]∧p a:=by
  intro i
  by_cases hi:i<n
  · obtain⟨h1,m,y,h2⟩:=hC i hi
    match hcs:C i,h1 with
    |[c],_=>
     rw[hcs]at h2
     obtain⟨a,rfl,ha⟩:=hp m c y h2
     exact⟨a,fun _=>⟨rfl,ha⟩⟩
  · exact⟨default,fun h=>absurd h hi⟩
 obtain⟨g,hg⟩:=Classical.axiomOfChoice this
 refine⟨(List.range n).map g,?_,?_⟩
 · rw[← flat_one (fun i hi=>(hg i hi).1)]
   simpa using hr
 · intro a ha
   obtain⟨i,hi,rfl⟩:=List.mem_map.1 ha
   exact(hg i (by simpa using hi)).2
theorem open_strsR {t e:TypeId} {fuel:Nat} {v:Value} {x:DataW H×List MemPlace} (ht:P.underlying t=some (.slice e)) (he:P.underlying e=some .string) (hc:P.cellsOf e=1) (h:DataW.trod enc P w 0 spare held fuel t [v]=some x):
  ∃ ss,StrsR w v ss∧ ∀ s∈ss,s.size≤maxLen:=
 open_ones (f:=Value.string) (p:=fun s=>s.size≤maxLen) ht hc h fun m c y hy=>by
  obtain⟨s,h1,_,h3⟩:=DataW.trod_string he hy
  exact⟨s,by simpa using h1,h3⟩
theorem open_intsR {t e:TypeId} {fuel:Nat} {v:Value} {x:DataW H×List MemPlace} (ht:P.underlying t=some (.slice e)) (he:P.underlying e=some (.int .i64)) (hc:P.cellsOf e=1) (h:DataW.trod enc P w 0 spare held fuel t [v]=some x):
  ∃ ss,IntsR w v ss∧ ∀ s∈ss,(Lit.int .i64 s).wf=true:=
 open_ones (f:=Value.int .i64) (p:=fun s=>(Lit.int .i64 s).wf=true) ht hc h fun m c y hy=>by
  obtain⟨s,h1,_,h3⟩:=DataW.trod_int he hy
  exact⟨s,by simpa using h1,h3⟩
theorem open_boolsR {t e:TypeId} {fuel:Nat} {v:Value} {x:DataW H×List MemPlace} (ht:P.underlying t=some (.slice e)) (he:P.underlying e=some .bool) (hc:P.cellsOf e=1) (h:DataW.trod enc P w 0 spare held fuel t [v]=some x):
  ∃ ss,BoolsR w v ss∧ ∀ s∈ss,True:=
 open_ones (f:=Value.bool) (p:=fun s=>True) ht hc h fun m c y hy=>by
  obtain⟨s,h1,_⟩:=DataW.trod_bool he hy
  exact⟨s,by simpa using h1,trivial⟩
/-- The cells of a struct of one-cell fields, each with its own reading. -/
theorem trod_fields {t:TypeId} {fs:Array Field} {fuel:Nat} {cs:List Value} {x:DataW H×List MemPlace} (ht:P.underlying t=some (.struct fs)) (hone:oneCellFields P fs=true) (hC:P.cellsOf t=fs.size) (h:DataW.trod enc P w 0 spare held fuel t cs=some x):
  cs.length=fs.size∧ ∃ n,∀ (j:Nat) (f:Field),fs[j]? =some f→ ∃ y,DataW.trod enc P w 0 spare held n f.type [cs.getD j undef]=some y:=by
 obtain⟨xs,n,_,_,hl,hxl,hg⟩:=DataW.trod_struct ht h
 rw[hC]at hl
 refine⟨hl,n,fun j f hj=>?_⟩
 obtain⟨ho,hk⟩:=hone_of hone j f hj
 have hj':j<fs.size:=(Array.getElem?_eq_some_iff.1 hj).1
 have:=hg j f hj
 rw[ho,hk,take1_drop _ _ undef (by omega),List.getElem?_eq_getElem (by omega)]at this
 exact⟨_,this⟩
/-- A struct of one-cell fields by value. -/
theorem open_struct {r:Reach} {b0:Nat} {t:TypeId} {fs:Array Field} {v:Value} {d:DataW H} {p:List MemPlace} (ht:P.underlying t=some (.struct fs)) (hone:oneCellFields P fs=true) (hC:P.cellsOf t=fs.size)
  (hv:Value.okWide P w r b0 t v) (h:DataW.Trod enc P w 0 spare held t v d p):
  ∃ cs:List Value,v= .agg cs.toArray∧cs.length=fs.size∧ ∃ n,∀ (j:Nat) (f:Field),fs[j]? =some f→ ∃ y,DataW.trod enc P w 0 spare held n f.type [cs.getD j undef]=some y:=by
 obtain⟨cs,rfl,hsz⟩:=okWide_struct ht hv
 obtain⟨fuel,hf⟩:=h
 obtain⟨h1,n,h2⟩:=trod_fields ht hone hC hf
 exact⟨cs.toList,by simp,h1,n,h2⟩
end
theorem list1 {l:List Value} (h:l.length=1): ∃ a,l=[a]:=by match l,h with|[a],_=>exact⟨a,rfl⟩
theorem list7 {l:List Value} (h:l.length=7): ∃ a b c d e f g,l=[a,b,c,d,e,f,g]:=by match l,h with|[a,b,c,d,e,f,g],_=>exact⟨a,b,c,d,e,f,g,rfl⟩
theorem list2 {l:List Value} (h:l.length=2): ∃ a b,l=[a,b]:=by match l,h with|[a,b],_=>exact⟨a,b,rfl⟩
theorem list3 {l:List Value} (h:l.length=3): ∃ a b c,l=[a,b,c]:=by match l,h with|[a,b,c],_=>exact⟨a,b,c,rfl⟩
theorem list4 {l:List Value} (h:l.length=4): ∃ a b c d,l=[a,b,c,d]:=by match l,h with|[a,b,c,d],_=>exact⟨a,b,c,d,rfl⟩
theorem list5 {l:List Value} (h:l.length=5): ∃ a b c d e,l=[a,b,c,d,e]:=by match l,h with|[a,b,c,d,e],_=>exact⟨a,b,c,d,e,rfl⟩
theorem list6 {l:List Value} (h:l.length=6): ∃ a b c d e f,l=[a,b,c,d,e,f]:=by match l,h with|[a,b,c,d,e,f],_=>exact⟨a,b,c,d,e,f,rfl⟩
theorem list8 {l:List Value} (h:l.length=8): ∃ a b c d e f g k,l=[a,b,c,d,e,f,g,k]:=by match l,h with|[a,b,c,d,e,f,g,k],_=>exact⟨a,b,c,d,e,f,g,k,rfl⟩
def FilterR.wf (x:FilterR):Prop:=x.f0.size≤maxLen∧(Lit.int .i64 x.f1).wf=true∧x.f2.size≤maxLen∧(Lit.int .i64 x.f3).wf=true
theorem cells_lawsFilter:Tryz.prog.cellsOf 165=4:=by kernel_rfl
theorem filter_flatC {C:Nat→List Value} {n:Nat} {g:Nat→FilterR} (h: ∀ i,i<n→C i=(g i).cells):(List.range n).flatMap C=((List.range n).map g).flatMap FilterR.cells:=by
 induction n with
 |zero=>simp
 |succ n ih=>rw[List.range_succ,List.flatMap_append,ih (fun i hi=>h i (by omega))];simp[h n (by omega),List.flatMap_append]
theorem open_filtersR {H:Type} {enc:TypeId×Value→H} {w:World} {spare:Nat→Bool} {held:Bool} {fuel:Nat} {v:Value} {y:DataW H×List MemPlace} (h:DataW.trod enc Tryz.prog w 0 spare held fuel 24 [v]=some y):
  ∃ xs:List FilterR,FiltersR w v xs∧ ∀ x∈xs,x.wf:=by
 obtain⟨n,C,hr,_,hC⟩:=open_rows Tryz.underlying24 cells_lawsFilter (by omega) h
 have: ∀ i,∃ a:FilterR,i<n→C i=a.cells∧a.wf:=by
  intro i
  by_cases hi:i<n
  · obtain⟨h1,m,y,h2⟩:=hC i hi
    obtain⟨h3,k,h4⟩:=trod_fields Tryz.underlying165 (by kernel_rfl) cells_lawsFilter h2
    obtain⟨c0,c1,c2,c3,hc⟩:=list4 h1
    rw[hc]at h4
    obtain⟨y0,g0⟩:=h4 0 _ rfl
    obtain⟨a0,e0,_,w0⟩:=DataW.trod_string Tryz.underlying9 g0
    obtain⟨y1,g1⟩:=h4 1 _ rfl
    obtain⟨a1,e1,_,w1⟩:=DataW.trod_int Tryz.underlying3 g1
    obtain⟨y2,g2⟩:=h4 2 _ rfl
    obtain⟨a2,e2,_,w2⟩:=DataW.trod_string Tryz.underlying9 g2
    obtain⟨y3,g3⟩:=h4 3 _ rfl
    obtain⟨a3,e3,_,w3⟩:=DataW.trod_int Tryz.underlying3 g3
    simp only[List.getD_cons_zero,List.getD_cons_succ,List.cons.injEq,and_true]at e0 e1 e2 e3
    subst e0 e1 e2 e3
    exact⟨⟨a0,a1,a2,a3⟩,fun _=>⟨hc,w0,w1,w2,w3⟩⟩
  · exact⟨default,fun h=>absurd h hi⟩
 obtain⟨g,hg⟩:=Classical.axiomOfChoice this
 refine⟨(List.range n).map g,?_,?_⟩
 · have hr':=hr
   rw[filter_flatC (fun i hi=>(hg i hi).1)]at hr'
   simpa [FiltersR]using hr'
 · intro a ha
   obtain⟨i,hi,rfl⟩:=List.mem_map.1 ha
   exact(hg i (by simpa using hi)).2
def WalkR.wf (x:WalkR):Prop:=(Lit.int .i64 x.f0).wf=true∧(Lit.int .i64 x.f1).wf=true∧(Lit.int .i64 x.f2).wf=true∧(Lit.int .i64 x.f3).wf=true
theorem cells_lawsWalk:Tryz.prog.cellsOf 50=4:=by kernel_rfl
theorem walk_flatC {C:Nat→List Value} {n:Nat} {g:Nat→WalkR} (h: ∀ i,i<n→C i=(g i).cells):(List.range n).flatMap C=((List.range n).map g).flatMap WalkR.cells:=by
 induction n with
 |zero=>simp
 |succ n ih=>rw[List.range_succ,List.flatMap_append,ih (fun i hi=>h i (by omega))];simp[h n (by omega),List.flatMap_append]
theorem open_walksR {H:Type} {enc:TypeId×Value→H} {w:World} {spare:Nat→Bool} {held:Bool} {fuel:Nat} {v:Value} {y:DataW H×List MemPlace} (h:DataW.trod enc Tryz.prog w 0 spare held fuel 27 [v]=some y):
  ∃ xs:List WalkR,WalksR w v xs∧ ∀ x∈xs,x.wf:=by
 obtain⟨n,C,hr,_,hC⟩:=open_rows Tryz.underlying27 cells_lawsWalk (by omega) h
 have: ∀ i,∃ a:WalkR,i<n→C i=a.cells∧a.wf:=by
  intro i
  by_cases hi:i<n
  · obtain⟨h1,m,y,h2⟩:=hC i hi
    obtain⟨h3,k,h4⟩:=trod_fields Tryz.underlying50 (by kernel_rfl) cells_lawsWalk h2
    obtain⟨c0,c1,c2,c3,hc⟩:=list4 h1
    rw[hc]at h4
    obtain⟨y0,g0⟩:=h4 0 _ rfl
    obtain⟨a0,e0,_,w0⟩:=DataW.trod_int Tryz.underlying3 g0
    obtain⟨y1,g1⟩:=h4 1 _ rfl
    obtain⟨a1,e1,_,w1⟩:=DataW.trod_int Tryz.underlying3 g1
    obtain⟨y2,g2⟩:=h4 2 _ rfl
    obtain⟨a2,e2,_,w2⟩:=DataW.trod_int Tryz.underlying3 g2
    obtain⟨y3,g3⟩:=h4 3 _ rfl
    obtain⟨a3,e3,_,w3⟩:=DataW.trod_int Tryz.underlying3 g3
    simp only[List.getD_cons_zero,List.getD_cons_succ,List.cons.injEq,and_true]at e0 e1 e2 e3
    subst e0 e1 e2 e3
    exact⟨⟨a0,a1,a2,a3⟩,fun _=>⟨hc,w0,w1,w2,w3⟩⟩
  · exact⟨default,fun h=>absurd h hi⟩
 obtain⟨g,hg⟩:=Classical.axiomOfChoice this
 refine⟨(List.range n).map g,?_,?_⟩
 · have hr':=hr
   rw[walk_flatC (fun i hi=>(hg i hi).1)]at hr'
   simpa [WalksR]using hr'
 · intro a ha
   obtain⟨i,hi,rfl⟩:=List.mem_map.1 ha
   exact(hg i (by simpa using hi)).2
end Go.Proofs.YtmdgdnkllclpcaaGreat