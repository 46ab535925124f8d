/- slices.Delete of one parcel out of a row of the call's own. No condition but the size. -/
import Derived.Test.YtmdgdnkllclpcaaGreatGOSWalk
import Derived.Test.YtmdgdnkllclpcaaGreatGTch
namespace Go.Proofs.YtmdgdnkllclpcaaGreat
open Go.RowKit
set_option linter.unusedVariables false
set_option linter.unusedSimpArgs false
theorem erase_two: ∀ {xs:List (List Value)} (hl: ∀ u∈xs,u.length=2) {i:Nat},(xs.eraseIdx i).flatten=xs.flatten.take (i*2)++xs.flatten.drop (i*2+2)
 |[],_,i=>by simp
 |x::xs,hl,0=>by
  have hx:x.length=2:=hl x (by simp)
  rw[List.eraseIdx_cons_zero,List.flatten_cons,Nat.zero_mul,List.take_zero,List.nil_append,Nat.zero_add,List.drop_append_of_le_length (by omega),List.drop_eq_nil_of_le (by omega),List.nil_append]
 |x::xs,hl,i+1=>by
  have hx:x.length=2:=hl x (by simp)
  rw[List.eraseIdx_cons_succ,List.flatten_cons,List.flatten_cons,erase_two (fun u hu=>hl u (by simp[hu])),show(i+1)*2=x.length+i*2 by omega,List.take_length_add_append,show x.length+i*2+2=x.length+(i*2+2) by omega,List.drop_length_add_append,List.append_assoc]
set_option maxHeartbeats 4000000 in
set_option maxRecDepth 100000 in
theorem deleteP_any (lo g cap i:Nat) (xs:List (List Value)) (w:World) (hlen: ∀ u∈xs,u.length=2) (hone: ∀ v∈xs.flatten,v.oneCell'=true) (ho:w.ownsRow lo 155 2 (.slice (some ⟨g,0,none⟩) xs.length cap) xs.length xs.flatten) (hn:xs.length≤1000000000000) (hi:i<xs.length):
  Calls Tryz.prog 117 #[.slice (some ⟨g,0,none⟩) xs.length cap,.int .i64 i,.int .i64 ((i:Int)+1)] w fun e w'=>e= .returned (.slice (some ⟨g,0,none⟩) (xs.length-1) cap)∧w'.ownsRow lo 155 2 (.slice (some ⟨g,0,none⟩) (xs.length-1) cap) (xs.length-1) (xs.eraseIdx i).flatten∧w.grownBy w' (some g):=by
 obtain⟨i0,hi0,hz0,hz1,hz2⟩:=info_parts info_Parcel
 obtain⟨hxl,⟨h,_⟩|⟨g',cap',cur,h,hbase,hg,hnc,hcm,hcs,htake⟩⟩:=ho
 · simp at h
 simp only[Value.slice.injEq,Option.some.injEq,Addr.mk.injEq,and_true,true_and]at h
 obtain⟨rfl,rfl⟩:=h
 obtain⟨C,rfl⟩: ∃ C:List Value,cur=C.toArray:=⟨cur.toList,by simp⟩
 simp only[List.toList_toArray,List.size_toArray]at hcs htake
 obtain⟨s1,s2⟩:=del_take C (i*2) 2 (xs.length*2) (by omega) (by omega)
 rw[htake, ← erase_two hlen]at s1
 have hdl:((C.take (xs.length*2)).drop (i*2+2)).length=(xs.length-(i+1))*2:=by rw[List.length_drop,List.length_take];omega
 obtain⟨D,hD⟩: ∃ D,(C.take (xs.length*2)).drop (i*2+2)=D:=⟨_,rfl⟩
 rw[hD]at hdl s2
 rw[htake]at hD
 rw[hD]at s1
 have h1c: ∀ v∈D,v.oneCell'=true:=by
  intro v hv
  rw[← hD]at hv
  exact hone v (List.mem_of_mem_drop hv)
 have hsrc: ∀ j v,D[j]? =some v→w.cell? ⟨g,(i+1)*2+j,none⟩=some v:=by
  intro j v hj
  rw[← hD, ← htake,List.getElem?_drop,List.getElem?_take]at hj
  split at hj
  · rw[show(i+1)*2+j=i*2+2+j by omega]
    simp[World.cell?,hg,hj]
  · cases hj
 have hspare: ∀ j,j<D.length→(w.cell? ⟨g,i*2+j,none⟩).isSome=true∧w.frozen? ⟨g,i*2+j,none⟩=false:=by
  intro j hj
  have hjl:i*2+j<C.length:=by omega
  refine⟨?_,by simp[World.frozen?,hg]⟩
  simp[World.cell?,hg,hjl]
 have hS1:=Lib.hid s1
 have hS2:=Lib.hid s2
 have hDL:=Lib.hid hdl
 have hH1:=Lib.hid h1c
 have hSR:=Lib.hid hsrc
 have hSP:=Lib.hid hspare
 have hHG:=Lib.hid hg
 have hCS:=Lib.hid hcs
 have HLEN:=Lib.hid hlen
 clear hlen hone
 clear s1 s2 htake hxl hD hdl h1c hsrc hspare hg hcs
 have hw1: ¬ ((i:Int)=(i:Int)+1):=by omega
 have hb1:(0:Int)≤(i:Int)+1:=by omega
 have hb2:(i:Int)+1≤(xs.length:Int):=by omega
 have hb3:(i:Int)≤(i:Int)+1:=by omega
 have hin:i≤xs.length:=by omega
 have htn:((i:Int)+1).toNat=i+1:=by omega
 have hzv: ∀ w,(zeroValue 155).run Tryz.prog w= .ok (.agg #[.int .i64 0,.slice none 0 0]) w:=fun w=>by simp[zeroValue,typeInfo,hi0,hz0]
 have hic:i≤cap:=by omega
 have hic2:(i:Int)≤(cap:Int):=by omega
 have hic3:xs.length-1≤xs.length:=by omega
 have hic4:xs.length-1≤cap:=by omega
 by_cases hlast:i+1=cap
 · have hxe:xs.length=i+1:=by omega
   have HXE:=Lib.hid hxe
   have hD0:Hid (D=[]):=List.eq_nil_of_length_eq_zero (by have:=hDL.out;omega)
   have hb5: ¬ (i+1=xs.length-1):=by omega
   subst hlast
   clear hxe
   go_enter Tryz.func117,Tryz.ntmps117
   go_wp2_with fail
   go_region_law(refine step_append_roomN rfl _ _ 70 rfl 155 i0 2 Tryz.underlying70 hi0 hz1 g i (i+1) (by simp[Act.eval,Act.put]) ⟨g,0,none⟩ 0 0 D (by simp[Act.eval,Act.put]) (by rw[hD0.out];rfl) (fun j v hj=>by rw[hD0.out]at hj;simp at hj) hH1.out (by have:=HXE.out;omega) hSP.out C 155 hHG.out (by have:=hDL.out;have:=hCS.out;omega) (xs.length-1) (by have:=HXE.out;omega) ?_;intro w1 hg1 hgr1)
   obtain⟨C2,w2,hcl,hg2',hgr2,hl2,ht2⟩:=run_clear_rowM (P:=Tryz.prog) w1 70 155 _ Tryz.underlying70 hzv (by simp[Value.cells,Value.oneCell']) g ((xs.length-1)*2) (xs.length-(xs.length-1)) (i+1-(xs.length-1)) (by omega) (splice C (i*2) D) 155 hg1.out (by have:=hS2.out;have:=hCS.out;have h3:(Value.agg #[.int .i64 0,.slice none 0 0]).cells.size=2:=rfl;rw[h3];omega)
   have hg2:=Lib.hid hg2'
   clear hg2'
   go_wp2_with fail
   go_ret
   refine⟨rfl,⟨?_,.inr ⟨g,i+1,_,rfl,hbase,hg2.out,by omega,hcm,?_,?_⟩⟩,grown_trans (grown_undrew hgr1) hgr2⟩
   · rw[flatten_len (fun u hu=>HLEN.out u (List.mem_of_mem_eraseIdx hu)),List.length_eraseIdx,if_pos hi]
   · have:=hS2.out;have:=hCS.out;simp only[List.size_toArray];omega
   · have h5:=hS1.out
     simp only[List.toList_toArray]
     rw[ht2,show(xs.length-1)*2=xs.length*2-2 by omega]
     exact h5
 · have hb4: ¬ (cap=i+1):=fun h=>hlast h.symm
   have hb5: ¬ (cap=xs.length-1):=by omega
   have hb6:((xs.length-1:Nat):Int)≤(xs.length:Int):=by omega
   clear hlast
   go_enter Tryz.func117,Tryz.ntmps117
   go_wp2_with fail
   go_region_law(refine step_append_roomN rfl _ _ 70 rfl 155 i0 2 Tryz.underlying70 hi0 hz1 g i cap (by simp[Act.eval,Act.put]) ⟨g,(i+1)*2,none⟩ (xs.length-(i+1)) (cap-(i+1)) D (by simp[Act.eval,Act.put]) hDL.out (fun j v hj=>by rw[Addr.add_lit];exact hSR.out j v hj) hH1.out (by omega) hSP.out C 155 hHG.out (by have:=hDL.out;have:=hCS.out;omega) (xs.length-1) (by omega) ?_;intro w1 hg1 hgr1)
   obtain⟨C2,w2,hcl,hg2',hgr2,hl2,ht2⟩:=run_clear_rowM (P:=Tryz.prog) w1 70 155 _ Tryz.underlying70 hzv (by simp[Value.cells,Value.oneCell']) g ((xs.length-1)*2) (xs.length-(xs.length-1)) (cap-(xs.length-1)) (by omega) (splice C (i*2) D) 155 hg1.out (by have:=hS2.out;have:=hCS.out;have h3:(Value.agg #[.int .i64 0,.slice none 0 0]).cells.size=2:=rfl;rw[h3];omega)
   have hg2:=Lib.hid hg2'
   clear hg2'
   go_wp2_with fail
   go_ret
   refine⟨rfl,⟨?_,.inr ⟨g,cap,_,rfl,hbase,hg2.out,by omega,hcm,?_,?_⟩⟩,grown_trans (grown_undrew hgr1) hgr2⟩
   · rw[flatten_len (fun u hu=>HLEN.out u (List.mem_of_mem_eraseIdx hu)),List.length_eraseIdx,if_pos hi]
   · have:=hS2.out;have:=hCS.out;simp only[List.size_toArray];omega
   · have h5:=hS1.out
     simp only[List.toList_toArray]
     rw[ht2,show(xs.length-1)*2=xs.length*2-2 by omega]
     exact h5
end Go.Proofs.YtmdgdnkllclpcaaGreat
