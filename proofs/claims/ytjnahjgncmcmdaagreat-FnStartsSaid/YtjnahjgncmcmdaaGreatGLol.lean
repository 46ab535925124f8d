/- Texts in one: Joi, Lkp, Lol. -/
import Derived.Test.YtjnahjgncmcmdaaGreatGPrt
import Derived.Test.YtjnahjgncmcmdaaGreatGTch
import Derived.Test.YtjnahjgncmcmdaaGreatGShg
import Derived.Test.YtjnahjgncmcmdaaGreatGUnf
import Derived.StillTailTactics
import Derived.Test.YtjnahjgncmcmdaaGreatGCnt
namespace Go.Proofs.YtjnahjgncmcmdaaGreat
open Go.RowKit
set_option linter.unusedVariables false
set_option linter.unusedSimpArgs false
structure MakSt (w:World) (b lo:Nat) (pv lv av:Value) (bad:Bool) (labs:List UInt8) (xs:List EdgeR):Prop where
 box:Box w b #[pv,lv,av,.bool bad] 235
 labs:BytesO w lo lv labs
 arcs:w.ownsRow lo 195 3 av xs.length (xs.flatMap EdgeR.cells)
 ap:Apart lv av
 nl:lv.ownBlock≠some b
 na:av.ownBlock≠some b
theorem MakSt.fr {w w':World} {b lo:Nat} {pv lv av:Value} {bad:Bool} {labs:List UInt8} {xs:List EdgeR} (h:MakSt w b lo pv lv av bad labs xs) (hf:Fr w w'):MakSt w' b lo pv lv av bad labs xs:=
 ⟨h.box.fr hf,owns_fr h.labs hf,owns_fr h.arcs hf,h.ap,h.nl,h.na⟩
/-- Nothing that stood has turned but cell 2 of block b. -/
structure Jq (b:Nat) (w w':World):Prop where
 tch:Tch (· =b) w w'
 c1:w'.cell? ⟨b,1,none⟩=w.cell? ⟨b,1,none⟩
theorem Jq.of_fr {b:Nat} {w w':World} (hb:b<w.heap.size) (h:Fr w w'):Jq b w w':=⟨Tch.of_fr h,h.cell (p:=⟨b,1,none⟩) hb⟩
theorem Jq.store {b:Nat} {w w':World} (hb:b<w.heap.size) (v:Value) (h:Fr w w'):Jq b w (w'.setCell ⟨b,2,none⟩ v):=
 ⟨Tch.set (B:=fun i=>i=b) (Tch.of_fr h) (p:=⟨b,2,none⟩) (.inl rfl) v,(World.cell?_setCell_other _ ⟨b,2,none⟩ ⟨b,1,none⟩ v (by simp)).trans (h.cell (p:=⟨b,1,none⟩) hb)⟩
theorem Jq.cell {b:Nat} {w w':World} (h:Jq b w w') {g o:Nat} {v:Value} (hg:g<w.heap.size) (hb:g≠b) (hc:w.cell? ⟨g,o,none⟩=some v):w'.cell? ⟨g,o,none⟩=some v:=(World.cell?_of_block (h.tch.block g hg hb)).trans hc
def rowJ (labs:List UInt8) (ts:List Int) (f:Int):List EdgeR:=ts.map fun t=>⟨f,nAt labs (t-1).toNat,t⟩
def joinP (labs:List UInt8) (fs ts:List Int) (i k:Nat):List EdgeR:=(fs.take i).flatMap (rowJ labs ts)++(rowJ labs ts (iAt fs i)).take k
def joinL (labs:List UInt8) (fs ts:List Int):List EdgeR:=fs.flatMap (rowJ labs ts)
theorem joinP_step {labs:List UInt8} {fs ts:List Int} {i k:Nat} (hk:k<ts.length):joinP labs fs ts i (k+1)=joinP labs fs ts i k++[⟨iAt fs i,nAt labs (iAt ts k-1).toNat,iAt ts k⟩]:=by
 unfold joinP
 rw[List.take_succ_eq_append_getElem (by simpa [rowJ]using hk), ← List.append_assoc]
 simp[rowJ,iAt,List.getD,List.getElem?_eq_getElem hk]
theorem joinP_next {labs:List UInt8} {fs ts:List Int} {i:Nat} (hi:i<fs.length):joinP labs fs ts i ts.length=joinP labs fs ts (i+1) 0:=by
 unfold joinP
 have e:iAt fs i=fs[i]:=by simp[iAt,List.getD,List.getElem?_eq_getElem hi]
 have e2:List.take ts.length (rowJ labs ts fs[i])=rowJ labs ts fs[i]:=List.take_of_length_le (by simp[rowJ])
 rw[e,e2,List.take_succ_eq_append_getElem hi,List.flatMap_append]
 simp
theorem joinP_all (labs:List UInt8) (fs ts:List Int):joinP labs fs ts fs.length 0=joinL labs fs ts:=by unfold joinP joinL;simp
theorem joinP_mem {labs:List UInt8} {fs ts:List Int} {i k:Nat} (hi:i≤fs.length) {x:EdgeR} (h:x∈joinP labs fs ts i k) (hk:i=fs.length→k=0):x.f0∈fs∧x.f2∈ts:=by
 unfold joinP at h
 rw[List.mem_append]at h
 rcases h with h|h
 · rw[List.mem_flatMap]at h
   obtain⟨f,hf,hx⟩:=h
   obtain⟨t,ht,rfl⟩:=List.mem_map.1 hx
   exact⟨List.mem_of_mem_take hf,ht⟩
 · rcases Nat.lt_or_ge i fs.length with hlt|hge
   · have:=List.mem_of_mem_take h
     obtain⟨t,ht,rfl⟩:=List.mem_map.1 this
     refine⟨?_,ht⟩
     simp only[iAt,List.getD,List.getElem?_eq_getElem hlt,Option.getD_some]
     exact List.getElem_mem hlt
   · rw[hk (by omega)]at h
     simp at h
theorem putsE_snoc (xs fs:List EdgeR) (f:EdgeR):putsE xs (fs++[f])=putE (putsE xs fs) f:=by unfold putsE;rw[List.foldl_append];rfl
def Bnd (x:EdgeR):Prop:=0≤x.f0∧x.f0<32∧0≤x.f2∧x.f2<32
theorem puts_len {labs:List UInt8} {fs ts:List Int} {xs:List EdgeR} (hs:Srt xs) (hb: ∀ x∈xs,Bnd x) (hf: ∀ f∈fs,0≤f∧f<32) (ht: ∀ t∈ts,0≤t∧t<32) {i k:Nat} (hi:i≤fs.length) (hk:i=fs.length→k=0):(putsE xs (joinP labs fs ts i k)).length≤262144:=
 srt_len (srt_putsE hs) fun x hx=>by
  rcases mem_putsE.1 hx with h|h
  · exact hb x h
  · obtain⟨h1,h2⟩:=joinP_mem hi h hk
    have:=hf _ h1
    have:=ht _ h2
    omega
theorem iAt_mem {l:List Int} {k:Nat} (h:k<l.length):iAt l k∈l:=by
 simp only[iAt,List.getD,List.getElem?_eq_getElem h,Option.getD_some]
 exact List.getElem_mem h
set_option maxHeartbeats 8000000 in
set_option maxRecDepth 100000 in
theorem join_arcs_any (b lo:Nat) (pv lv av vf vt:Value) (bad:Bool) (labs:List UInt8) (xs:List EdgeR) (fs ts:List Int) (w:World) (hM:MakSt w b lo pv lv av bad labs xs) (hF:IntsO w lo vf fs) (hT:IntsO w lo vt ts) (hfb:vf.ownBlock≠some b) (htb:vt.ownBlock≠some b) (hlw:lo≤w.heap.size)
  (hs:Srt xs) (hb: ∀ x∈xs,Bnd x) (hf: ∀ f∈fs,0≤f∧f<32) (ht: ∀ t∈ts,1≤t∧t≤(labs.length:Int)) (hl:labs.length≤24):
  Calls Tryz.prog 191 #[.pointer (some ⟨b,0,none⟩),vf,vt] w fun e w'=>e= .returned (.tuple #[])∧ ∃ av',MakSt w' b lo pv lv av' bad labs (putsE xs (joinL labs fs ts))∧Tch (· =b) w w'∧Mvd w.heap.size av av':=by
 have ht': ∀ t∈ts,0≤t∧t<32:=fun t h=>by have:=ht t h;omega
 have HPL:=Lib.hid (fun i k (hi:i≤fs.length) (hk:i=fs.length→k=0)=>puts_len (labs:=labs) hs hb hf ht' hi hk)
 have HTS:=Lib.hid ht
 obtain⟨afo,cf,rfl⟩: ∃ a c,vf= .slice a fs.length c:=owns_val hF
 obtain⟨ato,ct,rfl⟩: ∃ a c,vt= .slice a ts.length c:=owns_val hT
 have hfl:=(IntsO.rd hF).le
 have htl:=(IntsO.rd hT).le
 have HFB:=Lib.hid hfb;have HTB:=Lib.hid htb
 have HM:=Lib.hid hM
 have HF:=Lib.hid hF
 have HT:=Lib.hid hT
 clear hM hF hT hs hb hf ht ht' hfb htb
 go_enter Tryz.func191,Tryz.ntmps191
 go_wp2_with fail
 go_loopw [6] (fun i wr=> ∃ (i':Nat) (av':Value),i'≤fs.length∧i= .int .i64 i'∧Hid (MakSt wr b lo pv lv av' bad labs (putsE xs (joinP labs fs ts i' 0)))∧Hid (Tch (· =b) w wr)∧Hid (Mvd w.heap.size av av')) (fun i _=>fs.length-(intOf i).toNat)
 case atStart=>exact⟨0,av,Nat.zero_le _,rfl,Lib.hid (by simpa [joinP,putsE]using HM.out),Lib.hid (Tch.refl _ _),Lib.hid (.inl rfl)⟩
 case round=>
  obtain⟨i,av',hi,rfl,HA,HC,HV⟩:=hrel
  by_cases hlt:i<fs.length
  · go_wp2_with fail
    go_loopw [7] (fun j wr=> ∃ (k:Nat) (av':Value),k≤ts.length∧j= .int .i64 k∧Hid (MakSt wr b lo pv lv av' bad labs (putsE xs (joinP labs fs ts i k)))∧Hid (Tch (· =b) w wr)∧Hid (Mvd w.heap.size av av')) (fun j _=>ts.length-(intOf j).toNat)
    case atStart=>exact⟨0,av',Nat.zero_le _,rfl,HA,HC,HV⟩
    case round=>
     clear HA HC HV
     obtain⟨k,av2,hk,rfl,HA,HC,HV⟩:=hrel
     by_cases hkt:k<ts.length
     · have hpl:=HPL.out i k (by omega) (fun e=>by omega)
       have HST:=Lib.hid (joinP_step (labs:=labs) (fs:=fs) (i:=i) hkt)
       obtain⟨Y,hY⟩: ∃ Y,putsE xs (joinP labs fs ts i k)=Y:=⟨_,rfl⟩
       rw[hY]at hpl HA
       have HY:=Lib.hid hY
       clear hY
       obtain⟨ht1,ht2⟩:=HTS.out _ (iAt_mem hkt)
       obtain⟨tm,htm⟩: ∃ tm:Nat,iAt ts k=(tm:Int)+1:=⟨(iAt ts k-1).toNat,by omega⟩
       have htl2:tm<labs.length:=by omega
       obtain⟨a1,b1,o1,c1,hv,_,_,f1⟩:=(IntsO.rd (HC.out.owns HF.out (fun g e h=>HFB.out (by rw[e,h])))).one
       cases hv
       obtain⟨rfl,hb1,f1⟩:=f1 (by omega)
       obtain⟨a2,b2,o2,c2,hv,_,_,f2⟩:=(IntsO.rd (HC.out.owns HT.out (fun g e h=>HTB.out (by rw[e,h])))).one
       cases hv
       obtain⟨rfl,hb2,f2⟩:=f2 (by omega)
       obtain⟨bl,cl,rfl,hbl0,hbl,hcl⟩:=BytesO.one HA.out.labs (by omega)
       obtain⟨ay,cy,rfl⟩: ∃ a c,av2= .slice a Y.length c:=owns_val HA.out.arcs
       have e1:=f1 i hlt
       have e2:=f2 k hkt
       have e3:=hcl tm htl2
       rw[htm]at e2
       obtain⟨F,hF⟩: ∃ F,iAt fs i=F:=⟨_,rfl⟩
       rw[hF]at e1
       have hLb:=(nAt labs tm).toNat_lt
       have hw1:IntKind.i64.wrap ((tm:Int)+1-1)=(tm:Int):=by rw[show(tm:Int)+1-1=tm by omega];exact IntWalk.i64_in _ (by omega)
       have hw2:IntKind.i64.wrap (tm:Int)=(tm:Int):=IntWalk.i64_in _ (by omega)
       have zb:b<wr.heap.size:=HA.out.box.lt
       have FB:=HA.out.box.facts
       have CT:Hid (∀ w',Fr wr w'→Calls Tryz.prog 219 #[.slice ay Y.length cy,.agg #[.int .i64 F,.int .u8 ((nAt labs tm).toNat:Int),.int .i64 ((tm:Int)+1)]] w' fun e w''=> ∃ ao cap,e= .returned (.slice ao (putE Y ⟨F,nAt labs tm,(tm:Int)+1⟩).length cap)∧ArcsW w'' w'.heap.size w''.heap.size (.slice ao (putE Y ⟨F,nAt labs tm,(tm:Int)+1⟩).length cap) (putE Y ⟨F,nAt labs tm,(tm:Int)+1⟩)∧Fr w' w''):=Lib.hid fun w' hq=>l07Put_any _ Y ⟨F,nAt labs tm,(tm:Int)+1⟩ w' (RdS.of_owns (owns_fr HA.out.arcs hq)) (by omega)
       have HE:Hid (putE Y ⟨F,nAt labs tm,(tm:Int)+1⟩=putsE xs (joinP labs fs ts i (k+1))):=Lib.hid (by rw[HST.out,putsE_snoc,HY.out,htm,hF,show((tm:Int)+1-1).toNat=tm by omega])
       obtain⟨Z,hZ⟩: ∃ Z,putE Y ⟨F,nAt labs tm,(tm:Int)+1⟩=Z:=⟨_,rfl⟩
       rw[hZ]at CT HE
       have hH:=Lib.hid hF;have hHZ:=Lib.hid hZ
       clear hF hZ f1 f2 hcl htm
       have hnb1:b1≠b:=fun e=>HFB.out (by show some b1=some b;rw[e])
       have hnb2:b2≠b:=fun e=>HTB.out (by show some b2=some b;rw[e])
       have hnbl:bl≠b:=fun e=>HA.out.nl (by show some bl=some b;rw[e])
       have P1: ∀ w',Jq b wr w'→w'.cell? _=_:=fun w' h=>h.cell hb1 hnb1 e1
       have P2: ∀ w',Jq b wr w'→w'.cell? _=_:=fun w' h=>h.cell hb2 hnb2 e2
       have P3: ∀ w',Jq b wr w'→w'.cell? _=_:=fun w' h=>h.cell hbl hnbl e3
       have P4: ∀ w',Jq b wr w'→w'.cell? ⟨b,1,none⟩=some (.slice (some ⟨bl,0,none⟩) labs.length cl):=fun w' h=>h.c1.trans (HA.out.box.cell 1)
       clear hnb1 hnb2 hnbl
       go_wp2_with fail
       refine wp_region_held_drew (S:=fun w'=>Jq b wr w') (by kernel_rfl) (by refine Jq.of_fr zb ?_;repeat(first|(with_reducible exact Fr.refl _)|(with_reducible assumption)|(with_reducible refine Fr.drewN ?_ _)|(with_reducible refine Fr.drew ?_)|(with_reducible refine Fr.alloc ?_ _)|(with_reducible refine Fr.setCell ?_ (by exact Qz) _)|(with_reducible refine Fr.trans ?_ (by with_reducible assumption)))) (fun hHeld=>?_)
       refine wpAnyH_take (i:=0) (v:=?_) rfl (by kernel_rfl) (by kernel_rfl) (by kernel_rfl) (fun _ _ _ h=>h) (Or.inl ⟨by rfl,?_⟩) (by assumption) ?_
       rotate_left
       · intro w hSw;(try dsimp only at hSw);go_simp
         all_goals (try with_reducible rfl)
       (try simp only[Act.put,List.setIfInBounds_toArray,List.set_cons_zero,List.set_cons_succ])
       refine wpAnyH_take (i:=1) (v:=?_) rfl (by kernel_rfl) (by kernel_rfl) (by kernel_rfl) (fun _ _ _ h=>h) (Or.inl ⟨by rfl,?_⟩) (by assumption) ?_
       rotate_left
       · intro w hSw;(try dsimp only at hSw);go_simp
         all_goals (try with_reducible rfl)
       (try simp only[Act.put,List.setIfInBounds_toArray,List.set_cons_zero,List.set_cons_succ])
       refine wpAnyH_take (i:=2) (v:=?_) rfl (by kernel_rfl) (by kernel_rfl) (by kernel_rfl) (fun _ _ _ h=>h) (Or.inl ⟨by rfl,?_⟩) (by assumption) ?_
       rotate_left
       · intro w hSw;(try dsimp only at hSw);go_simp
         all_goals (try with_reducible rfl)
       (try simp only[Act.put,List.setIfInBounds_toArray,List.set_cons_zero,List.set_cons_succ])
       refine wpAnyH_take (i:=3) (v:=?_) rfl (by kernel_rfl) (by kernel_rfl) (by kernel_rfl) (fun _ _ _ h=>h) (Or.inl ⟨by rfl,?_⟩) (by assumption) ?_
       rotate_left
       · intro w hSw;(try dsimp only at hSw);go_simp
         all_goals (try with_reducible rfl)
       (try simp only[Act.put,List.setIfInBounds_toArray,List.set_cons_zero,List.set_cons_succ])
       refine wpAnyH_take (i:=5) (v:=?_) rfl (by kernel_rfl) (by kernel_rfl) (by kernel_rfl) (fun _ _ _ h=>h) (Or.inl ⟨by rfl,?_⟩) (by assumption) ?_
       rotate_left
       · intro w hSw;(try dsimp only at hSw);go_simp
         all_goals (try with_reducible rfl)
       (try simp only[Act.put,List.setIfInBounds_toArray,List.set_cons_zero,List.set_cons_succ])
       refine wpAnyH_take (i:=6) (v:=?_) rfl (by kernel_rfl) (by kernel_rfl) (by kernel_rfl) (fun _ _ _ h=>h) (Or.inl ⟨by rfl,?_⟩) (by assumption) ?_
       rotate_left
       · intro w hSw;(try dsimp only at hSw);go_simp
         all_goals (try with_reducible rfl)
       (try simp only[Act.put,List.setIfInBounds_toArray,List.set_cons_zero,List.set_cons_succ])
       refine wpAnyH_take (i:=7) (v:=?_) rfl (by kernel_rfl) (by kernel_rfl) (by kernel_rfl) (fun _ _ _ h=>h) (Or.inl ⟨by rfl,?_⟩) (by assumption) ?_
       rotate_left
       · intro w hSw;(try dsimp only at hSw);go_simp
         all_goals (try with_reducible rfl)
       (try simp only[Act.put,List.setIfInBounds_toArray,List.set_cons_zero,List.set_cons_succ])
       refine wpAnyH_take (i:=8) (v:=?_) rfl (by kernel_rfl) (by kernel_rfl) (by kernel_rfl) (fun _ _ _ h=>h) (Or.inl ⟨by rfl,?_⟩) (by assumption) ?_
       rotate_left
       · intro w hSw;(try dsimp only at hSw);go_simp
         all_goals (try with_reducible rfl)
       (try simp only[Act.put,List.setIfInBounds_toArray,List.set_cons_zero,List.set_cons_succ])
       refine wpAnyH_take (i:=9) (v:=?_) rfl (by kernel_rfl) (by kernel_rfl) (by kernel_rfl) (fun _ _ _ h=>h) (Or.inl ⟨by rfl,?_⟩) (by assumption) ?_
       rotate_left
       · intro w hSw;(try dsimp only at hSw);go_simp
         all_goals (try with_reducible rfl)
       (try simp only[Act.put,List.setIfInBounds_toArray,List.set_cons_zero,List.set_cons_succ])
       refine wpAnyH_take (i:=10) (v:=?_) rfl (by kernel_rfl) (by kernel_rfl) (by kernel_rfl) (fun _ _ _ h=>h) (Or.inl ⟨by rfl,?_⟩) (by assumption) ?_
       rotate_left
       · intro w hSw;(try dsimp only at hSw);go_simp
         all_goals (try with_reducible rfl)
       (try simp only[Act.put,List.setIfInBounds_toArray,List.set_cons_zero,List.set_cons_succ])
       refine wpAnyH_take (i:=11) (v:=?_) rfl (by kernel_rfl) (by kernel_rfl) (by kernel_rfl) (fun _ _ _ h=>h) (Or.inl ⟨by rfl,?_⟩) (by assumption) ?_
       rotate_left
       · intro w hSw;(try dsimp only at hSw);go_simp
         all_goals (try with_reducible rfl)
       (try simp only[Act.put,List.setIfInBounds_toArray,List.set_cons_zero,List.set_cons_succ])
       refine wpAnyH_take (i:=12) (v:=?_) rfl (by kernel_rfl) (by kernel_rfl) (by kernel_rfl) (fun _ _ _ h=>h) (Or.inl ⟨by rfl,?_⟩) (by assumption) ?_
       rotate_left
       · intro w hSw;(try dsimp only at hSw);go_simp
         all_goals (try with_reducible rfl)
       (try simp only[Act.put,List.setIfInBounds_toArray,List.set_cons_zero,List.set_cons_succ])
       refine wpAnyH_take (i:=13) (v:=?_) rfl (by kernel_rfl) (by kernel_rfl) (by kernel_rfl) (fun _ _ _ h=>h) (Or.inl ⟨by rfl,?_⟩) (by assumption) ?_
       rotate_left
       · intro w hSw;(try dsimp only at hSw);go_simp
         all_goals (try with_reducible rfl)
       (try simp only[Act.put,List.setIfInBounds_toArray,List.set_cons_zero,List.set_cons_succ])
       refine wpAnyH_take (i:=14) (v:=?_) rfl (by kernel_rfl) (by kernel_rfl) (by kernel_rfl) (fun _ _ _ h=>h) (Or.inl ⟨by rfl,?_⟩) (by assumption) ?_
       rotate_left
       · intro w hSw;(try dsimp only at hSw);go_simp
         all_goals (try with_reducible rfl)
       (try simp only[Act.put,List.setIfInBounds_toArray,List.set_cons_zero,List.set_cons_succ])
       refine wpAnyH_take (i:=15) (v:=?_) rfl (by kernel_rfl) (by kernel_rfl) (by kernel_rfl) (fun _ _ _ h=>h) (Or.inl ⟨by rfl,?_⟩) (by assumption) ?_
       rotate_left
       · intro w hSw;(try dsimp only at hSw);go_simp
         all_goals (try with_reducible rfl)
       (try simp only[Act.put,List.setIfInBounds_toArray,List.set_cons_zero,List.set_cons_succ])
       refine wpAnyH_take (i:=16) (v:=?_) rfl (by kernel_rfl) (by kernel_rfl) (by kernel_rfl) (fun _ _ _ h=>h) (Or.inl ⟨by rfl,?_⟩) (by assumption) ?_
       rotate_left
       · intro w hSw;(try dsimp only at hSw);go_simp
         all_goals (try with_reducible rfl)
       (try simp only[Act.put,List.setIfInBounds_toArray,List.set_cons_zero,List.set_cons_succ])
       refine wpAnyH_take (i:=17) (v:=?_) rfl (by kernel_rfl) (by kernel_rfl) (by kernel_rfl) (fun _ _ _ h=>h) (Or.inl ⟨by rfl,?_⟩) (by assumption) ?_
       rotate_left
       · intro w hSw;(try dsimp only at hSw);go_simp
         all_goals (try with_reducible rfl)
       (try simp only[Act.put,List.setIfInBounds_toArray,List.set_cons_zero,List.set_cons_succ])
       refine wpAnyH_take (i:=18) (v:=?_) rfl (by kernel_rfl) (by kernel_rfl) (by kernel_rfl) (fun _ _ _ h=>h) (Or.inl ⟨by rfl,?_⟩) (by assumption) ?_
       rotate_left
       · intro w hSw;(try dsimp only at hSw);go_simp
         all_goals (try with_reducible rfl)
       (try simp only[Act.put,List.setIfInBounds_toArray,List.set_cons_zero,List.set_cons_succ])
       refine wpAnyH_take (i:=19) (v:=?_) rfl (by kernel_rfl) (by kernel_rfl) (by kernel_rfl) (fun _ _ _ h=>h) (Or.inl ⟨by rfl,?_⟩) (by assumption) ?_
       rotate_left
       · intro w hSw;(try dsimp only at hSw);go_simp
         all_goals (try with_reducible rfl)
       (try simp only[Act.put,List.setIfInBounds_toArray,List.set_cons_zero,List.set_cons_succ])
       refine wpAnyH_take (i:=20) (v:=?_) rfl (by kernel_rfl) (by kernel_rfl) (by kernel_rfl) (fun _ _ _ h=>h) (Or.inl ⟨by rfl,?_⟩) (by assumption) ?_
       rotate_left
       · intro w hSw;(try dsimp only at hSw);go_simp
         all_goals (try with_reducible rfl)
       (try simp only[Act.put,List.setIfInBounds_toArray,List.set_cons_zero,List.set_cons_succ])
       refine wpAnyH_take (i:=21) (v:=?_) rfl (by kernel_rfl) (by kernel_rfl) (by kernel_rfl) (fun _ _ _ h=>h) (Or.inl ⟨by rfl,?_⟩) (by assumption) ?_
       rotate_left
       · intro w hSw;(try dsimp only at hSw);go_simp
         all_goals (try with_reducible rfl)
       (try simp only[Act.put,List.setIfInBounds_toArray,List.set_cons_zero,List.set_cons_succ])
       refine wpAnyH_take (i:=22) (v:=?_) rfl (by kernel_rfl) (by kernel_rfl) (by kernel_rfl) (fun _ _ _ h=>h) (Or.inl ⟨by rfl,?_⟩) (by assumption) ?_
       rotate_left
       · intro w hSw;(try dsimp only at hSw);go_simp
         all_goals (try with_reducible rfl)
       (try simp only[Act.put,List.setIfInBounds_toArray,List.set_cons_zero,List.set_cons_succ])
       refine wpAnyH_take (i:=23) (v:=?_) rfl (by kernel_rfl) (by kernel_rfl) (by kernel_rfl) (fun _ _ _ h=>h) (Or.inl ⟨by rfl,?_⟩) (by assumption) ?_
       rotate_left
       · intro w hSw;(try dsimp only at hSw);go_simp
         all_goals (try with_reducible rfl)
       (try simp only[Act.put,List.setIfInBounds_toArray,List.set_cons_zero,List.set_cons_succ])
       refine wpAnyH_take (i:=24) (v:=?_) rfl (by kernel_rfl) (by kernel_rfl) (by kernel_rfl) (fun _ _ _ h=>h) (Or.inl ⟨by rfl,?_⟩) (by assumption) ?_
       rotate_left
       · intro w hSw;(try dsimp only at hSw);go_simp
         all_goals (try with_reducible rfl)
       (try simp only[Act.put,List.setIfInBounds_toArray,List.set_cons_zero,List.set_cons_succ])
       refine wpAnyH_ready (rs:=[4]) (by kernel_rfl) (by simp) ?_
       refine AllReadyH.cons rfl (fun K hK=>?_) AllReadyH.nil
       go_simp
       refine hK.out _ _ (by first|(focus((refine Jq.of_fr zb ?_;repeat(first|(with_reducible exact Fr.refl _)|(with_reducible assumption)|(with_reducible refine Fr.drewN ?_ _)|(with_reducible refine Fr.drew ?_)|(with_reducible refine Fr.alloc ?_ _)|(with_reducible refine Fr.setCell ?_ (by exact Qz) _)|(with_reducible refine Fr.trans ?_ (by with_reducible assumption))));done))|(focus((refine Jq.store zb _ ?_;repeat(first|(with_reducible exact Fr.refl _)|(with_reducible assumption)|(with_reducible refine Fr.drewN ?_ _)|(with_reducible refine Fr.drew ?_)|(with_reducible refine Fr.alloc ?_ _)|(with_reducible refine Fr.setCell ?_ (by exact Qz) _)|(with_reducible refine Fr.trans ?_ (by with_reducible assumption))));done))) (fun hHeld2=>?_)
       clear hK K hHeld;have hHeld:=hHeld2;clear hHeld2
       (try simp only[Act.put,List.setIfInBounds_toArray,List.set_cons_zero,List.set_cons_succ])
       refine wpAnyH_ready (rs:=[25]) (by kernel_rfl) (by simp) ?_
       refine AllReadyH.cons rfl (fun K hK=>?_) AllReadyH.nil
       go_simp
       go_at_call 219
       refine(CT.out _ (by exact Qf)).mono ?_
       rintro e w9 ⟨a9,c9,rfl,ho9,hf9⟩
       have hB9:Box w9 b _ _:=Box.fr HA.out.box (by exact Qf)
       have F9:=hB9.facts
       have z9:=hf9.size
       (try simp only[World.size_alloc,World.size_drew,World.heap_drewN]at z9)
       go_wp2_with fail
       refine hK.out _ _ (by first|(focus((refine Jq.of_fr zb ?_;repeat(first|(with_reducible exact Fr.refl _)|(with_reducible assumption)|(with_reducible refine Fr.drewN ?_ _)|(with_reducible refine Fr.drew ?_)|(with_reducible refine Fr.alloc ?_ _)|(with_reducible refine Fr.setCell ?_ (by exact Qz) _)|(with_reducible refine Fr.trans ?_ (by with_reducible assumption))));done))|(focus((refine Jq.store zb _ ?_;repeat(first|(with_reducible exact Fr.refl _)|(with_reducible assumption)|(with_reducible refine Fr.drewN ?_ _)|(with_reducible refine Fr.drew ?_)|(with_reducible refine Fr.alloc ?_ _)|(with_reducible refine Fr.setCell ?_ (by exact Qz) _)|(with_reducible refine Fr.trans ?_ (by with_reducible assumption))));done))) (fun hHeld2=>?_)
       clear hK K hHeld;have hHeld:=hHeld2;clear hHeld2
       (try simp only[Act.put,List.setIfInBounds_toArray,List.set_cons_zero,List.set_cons_succ])
       refine wpAnyH_take (i:=26) (v:=?_) rfl (by kernel_rfl) (by kernel_rfl) (by kernel_rfl) (fun _ _ _ h=>h) (Or.inl ⟨by rfl,?_⟩) (by assumption) ?_
       rotate_left
       · intro w hSw;(try dsimp only at hSw);go_simp
         all_goals (try with_reducible rfl)
       (try simp only[Act.put,List.setIfInBounds_toArray,List.set_cons_zero,List.set_cons_succ])
       refine wpAnyH_take (i:=27) (v:=?_) rfl (by kernel_rfl) (by kernel_rfl) (by kernel_rfl) (fun _ _ _ h=>h) (Or.inl ⟨by rfl,?_⟩) (by assumption) ?_
       rotate_left
       · intro w hSw;(try dsimp only at hSw);go_simp
         all_goals (try with_reducible rfl)
       (try simp only[Act.put,List.setIfInBounds_toArray,List.set_cons_zero,List.set_cons_succ])
       refine wpAnyH_ready (rs:=[28]) (by kernel_rfl) (by simp) ?_
       refine AllReadyH.cons rfl (fun K hK=>?_) AllReadyH.nil
       go_simp
       refine hK.out _ _ (by first|(focus((refine Jq.of_fr zb ?_;repeat(first|(with_reducible exact Fr.refl _)|(with_reducible assumption)|(with_reducible refine Fr.drewN ?_ _)|(with_reducible refine Fr.drew ?_)|(with_reducible refine Fr.alloc ?_ _)|(with_reducible refine Fr.setCell ?_ (by exact Qz) _)|(with_reducible refine Fr.trans ?_ (by with_reducible assumption))));done))|(focus((refine Jq.store zb _ ?_;repeat(first|(with_reducible exact Fr.refl _)|(with_reducible assumption)|(with_reducible refine Fr.drewN ?_ _)|(with_reducible refine Fr.drew ?_)|(with_reducible refine Fr.alloc ?_ _)|(with_reducible refine Fr.setCell ?_ (by exact Qz) _)|(with_reducible refine Fr.trans ?_ (by with_reducible assumption))));done))) (fun hHeld2=>?_)
       clear hK K hHeld;have hHeld:=hHeld2;clear hHeld2
       (try simp only[Act.put,List.setIfInBounds_toArray,List.set_cons_zero,List.set_cons_succ])
       refine wpAnyH_done (by kernel_rfl) ?_ _
       have hY9:ArcsW w9 wr.heap.size w9.heap.size (.slice a9 Z.length c9) Z:=by
        have:=ho9;simpa using this
       have hyb:(Value.slice a9 Z.length c9).ownBlock≠some b:=fun e=>by have:=(World.ownsRow.lt ho9.1 b e).1;simp at this;omega
       have hya:Apart (.slice (some ⟨bl,0,none⟩) labs.length cl) (Value.slice a9 Z.length c9):=fun g h1 h2=>by
        have:=(World.ownsRow.lt ho9.1 g h2).1
        have:=owns_old HA.out.labs g h1
        simp at *; omega
       have hR:Hid (MakSt (w9.setCell ⟨b,2,none⟩ (.slice a9 Z.length c9)) b lo pv (.slice (some ⟨bl,0,none⟩) labs.length cl) (.slice a9 Z.length c9) bad labs (putsE xs (joinP labs fs ts i (k+1)))):=Lib.hid (by
        rw[← HE.out]
        refine⟨hB9.set_to (by simp),owns_far (owns_fr HA.out.labs (by exact Qf)) (p:=⟨b,2,none⟩) HA.out.nl _,owns_far (owns_lo ho9.1 (by have:=HC.out.size;simp;omega)) (p:=⟨b,2,none⟩) hyb _,hya,HA.out.nl,hyb⟩)
       have hT:Hid (Tch (· =b) w (w9.setCell ⟨b,2,none⟩ (.slice a9 Z.length c9))):=Lib.hid ((HC.out.fr (show Fr wr w9 by exact Qf)).set (B:=fun i=>i=b) (p:=⟨b,2,none⟩) (.inl rfl) _)
       have hM:Hid (Mvd w.heap.size av (.slice a9 Z.length c9)):=Lib.hid (by
        rcases owns_shape ho9.1 with⟨_,h0,_⟩|⟨g,cap,e,h1,_⟩
        · exfalso
          have hm:=mem_putE (xs:=Y) (f:=⟨F,nAt labs tm,(tm:Int)+1⟩) (x:=⟨F,nAt labs tm,(tm:Int)+1⟩)
          have:=hm.2 (.inr rfl)
          rw[hHZ.out]at this
          rw[List.eq_nil_of_length_eq_zero h0]at this
          simp at this
        · exact .inr ⟨g,by rw[e];rfl,by have:=HC.out.size;simp at *; omega⟩)
       go_wp2_with fail
       go_roundw
       case rel=>exact⟨k+1,.slice a9 Z.length c9,by omega,by go_num,hR,hT,hM⟩
       case measure=>(simp[intOf];omega)
     · obtain rfl:k=ts.length:=by omega
       have HN:=Lib.hid (joinP_next (labs:=labs) (ts:=ts) hlt)
       rw[HN.out]at HA
       go_wp2_with fail
       go_roundw
       case rel=>exact⟨i+1,av2,by omega,by go_num,HA,HC,HV⟩
       case measure=>(simp[intOf];omega)
  · obtain rfl:i=fs.length:=by omega
    have HN:=Lib.hid (joinP_all labs fs ts)
    rw[HN.out]at HA
    go_wp2_with fail
    go_end0
    exact⟨rfl,av',HA.out,HC.out,HV.out⟩
def InL (L:List Int) (p:Nat→Bool):Prop:= ∀ x:Int,x∈L↔ ∃ j:Nat,p j=true∧x=(j:Int)+1
theorem InL.nil:InL [] noB:=fun x=>by simp[noB]
theorem InL.one (n:Nat):InL [(n:Int)+1] (oneB n):=fun x=>by
 simp only[List.mem_singleton,oneB,decide_eq_true_eq]
 constructor
 · rintro rfl;exact⟨n,rfl,rfl⟩
 · rintro⟨j,rfl,rfl⟩;rfl
theorem InL.app {L M:List Int} {p q:Nat→Bool} (h:InL L p) (k:InL M q):InL (L++M) (orB p q):=fun x=>by
 rw[List.mem_append,h x,k x]
 constructor
 · rintro(⟨j,h1,h2⟩|⟨j,h1,h2⟩)
   · exact⟨j,orB_iff.2 (.inl h1),h2⟩
   · exact⟨j,orB_iff.2 (.inr h1),h2⟩
 · rintro⟨j,h1,h2⟩
   rcases orB_iff.1 h1 with h1|h1
   · exact .inl ⟨j,h1,h2⟩
   · exact .inr ⟨j,h1,h2⟩
theorem InL.as {L:List Int} {p q:Nat→Bool} (h:InL L p) (e:p=q):InL L q:=e▸h
def ArcS (s:StD) (xs:List EdgeR):Prop:=Srt xs∧ ∀ x,x∈xs↔ ∃ i j,s.fol i j=true∧x=arcE s.labs (i+1) j
theorem ArcS.nil:ArcS ⟨[],fun _ _=>false⟩ []:=⟨List.Pairwise.nil,fun x=>by simp⟩
theorem mem_joinL {labs:List UInt8} {fs ts:List Int} {x:EdgeR}:x∈joinL labs fs ts↔ ∃ f∈fs,∃ t∈ts,x=⟨f,nAt labs (t-1).toNat,t⟩:=by
 unfold joinL rowJ
 simp only[List.mem_flatMap,List.mem_map]
 constructor
 · rintro⟨f,hf,t,ht,rfl⟩;exact⟨f,hf,t,ht,rfl⟩
 · rintro⟨f,hf,t,ht,rfl⟩;exact⟨f,hf,t,ht,rfl⟩
theorem ArcS.join {s:StD} {xs:List EdgeR} {F T:List Int} {l f:Nat→Bool} (h:ArcS s xs) (hF:InL F l) (hT:InL T f):ArcS ⟨s.labs,folJ s.fol l f⟩ (putsE xs (joinL s.labs F T)):=by
 refine⟨srt_putsE h.1,fun x=>?_⟩
 rw[mem_putsE,h.2 x,mem_joinL]
 constructor
 · rintro(⟨i,j,h1,h2⟩|⟨a,ha,t,ht,rfl⟩)
   · exact⟨i,j,folJ_iff.2 (.inl h1),h2⟩
   · obtain⟨i,h1,rfl⟩:=(hF a).1 ha
     obtain⟨j,h2,rfl⟩:=(hT t).1 ht
     exact⟨i,j,folJ_iff.2 (.inr ⟨h1,h2⟩),by unfold arcE;simp⟩
 · rintro⟨i,j,h1,rfl⟩
   rcases folJ_iff.1 h1 with h1|⟨h1,h2⟩
   · exact .inl ⟨i,j,h1,rfl⟩
   · exact .inr ⟨(i:Int)+1,(hF _).2 ⟨i,h1,rfl⟩,(j:Int)+1,(hT _).2 ⟨j,h2,rfl⟩,by unfold arcE;simp⟩
theorem ArcS.more {s:StD} {xs:List EdgeR} (h:ArcS s xs) (hs:StOk s) (l:UInt8):ArcS ⟨s.labs++[l],s.fol⟩ xs:=by
 refine⟨h.1,fun x=>?_⟩
 rw[h.2 x]
 have e: ∀ i j,s.fol i j=true→arcE s.labs (i+1) j=arcE (s.labs++[l]) (i+1) j:=fun i j hij=>by
  unfold arcE
  rw[nAt_front _ _ (hs i j hij).2]
 constructor
 · rintro⟨i,j,h1,rfl⟩;exact⟨i,j,h1,e i j h1⟩
 · rintro⟨i,j,h1,rfl⟩;exact⟨i,j,h1,(e i j h1).symm⟩
theorem ArcS.bnd {s:StD} {xs:List EdgeR} (h:ArcS s xs) (hs:StOk s) (hn:s.labs.length≤24): ∀ x∈xs,Bnd x:=fun x hx=>by
 obtain⟨i,j,h1,rfl⟩:=(h.2 x).1 hx
 have:=hs i j h1
 unfold Bnd arcE
 simp only[]
 omega
theorem InL.bnd {L:List Int} {p:Nat→Bool} {n:Nat} (h:InL L p) (hp: ∀ j,p j=true→j<n): ∀ x∈L,1≤x∧x≤(n:Int):=fun x hx=>by
 obtain⟨j,h1,rfl⟩:=(h x).1 hx
 have:=hp j h1
 omega
theorem InL.bnd2 {L:List Int} {p:Nat→Bool} {n:Nat} (h:InL L p) (hp: ∀ j,p j=true→j<n) (hn:n≤24): ∀ x∈L,0≤x∧x<32:=fun x hx=>by have:=h.bnd hp x hx;omega
/-- What a call of look leaves behind. -/
def LB (b:Nat) (lv:Value) (i:Nat):Prop:=i=b∨lv.ownBlock=some i
def LokQ (b lo:Nat) (pv lv av:Value) (n:Nat) (r:StD×SpD) (w:World) (e:Ending) (w':World):Prop:=
 ∃ (v1 v2 lv' av':Value) (L1 L2:List Int) (xs':List EdgeR),e= .returned (.agg #[v1,v2,.bool r.2.null])∧MakSt w' b lo pv lv' av' false r.1.labs xs'∧ArcS r.1 xs'∧Tch (LB b lv) w w'∧Mvd w.heap.size lv lv'∧Mvd w.heap.size av av'∧
  IntsO w' w.heap.size v1 L1∧IntsO w' w.heap.size v2 L2∧InL L1 r.2.first∧InL L2 r.2.last∧L1.length≤n∧L2.length≤n∧Apart v1 v2∧Apart v1 lv'∧Apart v2 lv'
def LokC (ps:List PieceD) (w0:World) (pv:Value) (f:Nat):Prop:= ∀ (b p:Nat) (s:StD) (xs:List EdgeR) (lv av:Value) (w:World),Fr w0 w→w0.heap.size≤b→MakSt w b w0.heap.size pv lv av false s.labs xs→ArcS s xs→StOk s→p<f→p<ps.length→s.labs.length+occA ps p≤23→
 Calls Tryz.prog 190 #[.pointer (some ⟨b,0,none⟩),.int .i64 (p:Int)] w fun e w'=>LokQ b w0.heap.size pv lv av (occA ps p) (glu ps f p s) w e w'
theorem MakSt.set {w:World} {b lo:Nat} {pv lv av:Value} {bad:Bool} {labs:List UInt8} {xs:List EdgeR} (h:MakSt w b lo pv lv av bad labs xs) {p:Addr} (h1:b≠p.block) (h2:lv.ownBlock≠some p.block) (h3:av.ownBlock≠some p.block) (v:Value):MakSt (w.setCell p v) b lo pv lv av bad labs xs:=
 ⟨h.box.other h1 v,owns_far h.labs h2 v,owns_far h.arcs h3 v,h.ap,h.nl,h.na⟩
theorem MakSt.set3 {w:World} {b lo:Nat} {pv lv av:Value} {bad:Bool} {labs:List UInt8} {xs:List EdgeR} (h:MakSt w b lo pv lv av bad labs xs) {c:Nat} (h1:b≠c) (h2:lv.ownBlock≠some c) (h3:av.ownBlock≠some c) (u v x:Value):MakSt (((w.setCell ⟨c,0,none⟩ u).setCell ⟨c,1,none⟩ v).setCell ⟨c,2,none⟩ x) b lo pv lv av bad labs xs:=
 ((h.set (p:=⟨c,0,none⟩) h1 h2 h3 u).set (p:=⟨c,1,none⟩) h1 h2 h3 v).set (p:=⟨c,2,none⟩) h1 h2 h3 x
theorem LB.back {n b:Nat} {lv lv':Value} (h:Mvd n lv lv'): ∀ i,i<n→LB b lv' i→LB b lv i:=by
 rintro i hi (e|e)
 · exact .inl e
 · exact .inr (h.old e hi)
theorem MakSt.old {w:World} {b lo:Nat} {pv lv av:Value} {bad:Bool} {labs:List UInt8} {xs:List EdgeR} (h:MakSt w b lo pv lv av bad labs xs): ∀ i,LB b lv i→i<w.heap.size:=by
 rintro i (e|e)
 · have:=h.box.lt;omega
 · exact owns_old h.labs i e
theorem MakSt.lo_ {w:World} {b lo:Nat} {pv lv av:Value} {bad:Bool} {labs:List UInt8} {xs:List EdgeR} (h:MakSt w b lo pv lv av bad labs xs) (hb:lo≤b): ∀ i,i<lo→ ¬ LB b lv i:=by
 rintro i hi (e|e)
 · omega
 · have:=(World.ownsRow.lt h.labs i e).1;omega
theorem no_orB (a:Nat→Bool):orB noB a=a:=by funext j;simp[orB,noB]
theorem ifB_yes (b:Nat→Bool):ifB true b=b:=by funext j;simp[ifB]
theorem own_len (a:Option Addr) (n m c:Nat):(Value.slice a n c).ownBlock=(Value.slice a m c).ownBlock:=by cases a<;>rfl
/-- Rows of two types lie apart. -/
theorem owns_types {w:World} {lo lo':Nat} {e e':TypeId} {sz sz':Nat} {v v':Value} {n n':Nat} {xs xs':List Value} (h:w.ownsRow lo e sz v n xs) (k:w.ownsRow lo' e' sz' v' n' xs') (hne:e≠e'):Apart v v':=by
 intro g h1 h2
 rcases h.2 with⟨rfl,_⟩|⟨g1,c1,u1,rfl,_,hh,_⟩
 · simp[Value.ownBlock]at h1
 · rcases k.2 with⟨rfl,_⟩|⟨g2,c2,u2,rfl,_,kk,_⟩
   · simp[Value.ownBlock]at h2
   · simp only[Value.ownBlock,Option.some.injEq]at h1 h2
     subst h1
     subst h2
     rw[hh]at kk
     cases kk
     exact hne rfl
theorem owns_box {w:World} {lo:Nat} {e T:TypeId} {sz:Nat} {v:Value} {n g:Nat} {xs:List Value} {X:Array Value} (h:w.ownsRow lo e sz v n xs) (k:Box w g X T) (hne:e≠T):v.ownBlock≠some g:=by
 intro h1
 rcases h.2 with⟨rfl,_⟩|⟨g1,c1,u1,rfl,_,hh,_⟩
 · simp[Value.ownBlock]at h1
 · simp only[Value.ownBlock,Option.some.injEq]at h1
   subst h1
   rw[show w.heap[g1]? =_ from k]at hh
   cases hh
   exact hne rfl
structure LCo (w:World) (b lo:Nat) (pv lv av:Value) (X:Array Value) (s:StD) (wr:World) (lv' av':Value) (xs:List EdgeR):Prop where
 st:MakSt wr b lo pv lv' av' false s.labs xs
 arc:ArcS s xs
 res:Box wr w.heap.size #[.slice none 0 0,.slice none 0 0,.bool false] 237
 pc:Box wr (w.heap.size+1) X 255
 tch:Tch (LB b lv) w wr
 ml:Mvd (w.heap.size+3) lv lv'
 ma:Mvd w.heap.size av av'
theorem LCo.new {w:World} {b lo:Nat} {pv lv av:Value} {X:Array Value} {s:StD} {wr:World} {lv' av':Value} {xs xs0:List EdgeR} {labs0:List UInt8} (h:LCo w b lo pv lv av X s wr lv' av' xs) (h0:MakSt w b lo pv lv av false labs0 xs0): ∀ i,w.heap.size≤i→i<w.heap.size+3→ ¬ LB b lv' i:=by
 rintro i h1 h2 (e|e)
 · have:=h0.box.lt;omega
 · have:=owns_old h0.labs i (h.ml.old e h2);omega
theorem LCo.fr {w:World} {b lo:Nat} {pv lv av:Value} {X:Array Value} {s:StD} {wr w2:World} {lv' av':Value} {xs:List EdgeR} (h:LCo w b lo pv lv av X s wr lv' av' xs) (hf:Fr wr w2):LCo w b lo pv lv av X s w2 lv' av' xs:=
 ⟨h.st.fr hf,h.arc,h.res.fr hf,h.pc.fr hf,h.tch.fr hf,h.ml,h.ma⟩
/-- Behind a call that may have turned the maker alone. -/
theorem LCo.call {w:World} {b lo:Nat} {pv lv av:Value} {X:Array Value} {s s2:StD} {wr w2:World} {lv' av' lv2 av2:Value} {xs xs2 xs0:List EdgeR} {labs0:List UInt8} (h:LCo w b lo pv lv av X s wr lv' av' xs) (h0:MakSt w b lo pv lv av false labs0 xs0) (hz:w.heap.size+3≤wr.heap.size)
  (q:MakSt w2 b lo pv lv2 av2 false s2.labs xs2) (qa:ArcS s2 xs2) (t:Tch (LB b lv') wr w2) (m1:Mvd wr.heap.size lv' lv2) (m2:Mvd wr.heap.size av' av2):LCo w b lo pv lv av X s2 w2 lv2 av2 xs2:=
 ⟨q,qa,t.box h.res (h.new h0 _ (Nat.le_refl _) (by omega)),t.box h.pc (h.new h0 _ (by omega) (by omega)),h.tch.then t (LB.back (h.ml.mono (by omega))),h.ml.trans m1 hz,h.ma.trans m2 h.tch.size⟩
/-- A row of ints stays behind such a call. -/
theorem LCo.row {w:World} {b lo:Nat} {pv lv av:Value} {X:Array Value} {s:StD} {wr w2:World} {lv' av' v:Value} {xs:List EdgeR} {L:List Int} {lo2:Nat} (h:LCo w b lo pv lv av X s wr lv' av' xs) (hv:IntsO wr lo2 v L) (t:Tch (LB b lv') wr w2):IntsO w2 lo2 v L:=
 t.owns hv fun g hg e=>by
  rcases e with e|e
  · exact owns_box hv h.st.box (by decide) (by rw[hg,e])
  · exact owns_types hv h.st.labs (by decide) g hg e
theorem LCo.grow {w:World} {b lo:Nat} {pv lv av:Value} {X:Array Value} {s:StD} {wr w2:World} {lv' av' v:Value} {L:List Int} {xs:List EdgeR} {lo2:Nat} (h:LCo w b lo pv lv av X s wr lv' av' xs)
  (hv:IntsO wr lo2 v L) (hn: ∀ i,v.ownBlock=some i→w.heap.size≤i) (hg:wr.grownBy w2 v.ownBlock):LCo w b lo pv lv av X s w2 lv' av' xs:=
 ⟨⟨h.st.box.gr hg (owns_box hv h.st.box (by decide)),World.ownsRow.kept h.st.labs hg (Apart.ne (owns_types h.st.labs hv (by decide))),World.ownsRow.kept h.st.arcs hg (Apart.ne (owns_types h.st.arcs hv (by decide))),h.st.ap,h.st.nl,h.st.na⟩,h.arc,h.res.gr hg (owns_box hv h.res (by decide)),h.pc.gr hg (owns_box hv h.pc (by decide)),h.tch.then (Tch.of_gr (B:=fun i=>v.ownBlock=some i) hg (fun i e=>e)) (fun i hi e=>by have:=hn i e;omega),h.ml,h.ma⟩
/-- A store into the loop's own look. -/
theorem LCo.set {w:World} {b lo:Nat} {pv lv av:Value} {X Z:Array Value} {s:StD} {wr:World} {lv' av':Value} {xs:List EdgeR} (h:LCo w b lo pv lv av X s wr lv' av' xs) (k:Box wr (w.heap.size+1+1) Z 237) (hb:b<w.heap.size) (i:Nat) (v:Value):LCo w b lo pv lv av X s (wr.setCell ⟨w.heap.size+1+1,i,none⟩ v) lv' av' xs:=
 ⟨h.st.set (p:=⟨w.heap.size+1+1,i,none⟩) (by show b≠w.heap.size+1+1;omega) (owns_box h.st.labs k (by decide)) (owns_box h.st.arcs k (by decide)) v,h.arc,h.res.other (p:=⟨w.heap.size+1+1,i,none⟩) (by show w.heap.size≠w.heap.size+1+1;omega) v,h.pc.other (p:=⟨w.heap.size+1+1,i,none⟩) (by show w.heap.size+1≠w.heap.size+1+1;omega) v,h.tch.set (p:=⟨w.heap.size+1+1,i,none⟩) (.inr (by show w.heap.size≤w.heap.size+1+1;omega)) v,h.ml,h.ma⟩
/-- The state of the loop at a head. -/
structure LLp (w:World) (b lo:Nat) (pv lv av:Value) (X:Array Value) (n:Nat) (s:StD) (o:SpD) (wr:World) (lv' av' o1 o2:Value) (O1 O2:List Int) (xs:List EdgeR):Prop where
 co:LCo w b lo pv lv av X s wr lv' av' xs
 out:Box wr (w.heap.size+1+1) #[o1,o2,.bool o.null] 237
 r1:IntsO wr (w.heap.size+3) o1 O1
 r2:IntsO wr (w.heap.size+3) o2 O2
 i1:InL O1 o.first
 i2:InL O2 o.last
 l1:O1.length≤n
 l2:O2.length≤n
 ap:Apart o1 o2
theorem IntsO.setb {w:World} {lo g i:Nat} {v:Value} {L:List Int} {X:Array Value} {T:TypeId} (h:IntsO w lo v L) (k:Box w g X T) (hT:3≠T) (u:Value):IntsO (w.setCell ⟨g,i,none⟩ u) lo v L:=owns_far h (p:=⟨g,i,none⟩) (owns_box h k hT) u
theorem IntsO.set3 {w:World} {lo lo' g:Nat} {v:Value} {L:List Int} {X:Array Value} {T:TypeId} (h:IntsO w lo v L) (k:Box w g X T) (hT:3≠T) (hl:lo'≤lo) (u x y:Value):IntsO (((w.setCell ⟨g,0,none⟩ u).setCell ⟨g,1,none⟩ x).setCell ⟨g,2,none⟩ y) lo' v L:=
 owns_lo (((h.setb (i:=0) k hT u).setb (i:=1) (k.set 0 u) hT x).setb (i:=2) ((k.set 0 u).set 1 x) hT y) hl
/-- In the midst of a round: the call's own look lies in a box, both looks' rows are at hand. -/
structure LPh (w:World) (b lo:Nat) (pv lv av:Value) (X:Array Value) (s:StD) (W:World) (lv' av':Value) (xs:List EdgeR) (Z:Array Value) (kb:Nat) (Y:Array Value) (o1 o2 y1 y2:Value) (O1 O2 L1 L2:List Int):Prop where
 co:LCo w b lo pv lv av X s W lv' av' xs
 out:Box W (w.heap.size+1+1) Z 237
 yb:Box W kb Y 237
 r1:IntsO W (w.heap.size+3) o1 O1
 r2:IntsO W (w.heap.size+3) o2 O2
 r3:IntsO W (w.heap.size+3) y1 L1
 r4:IntsO W (w.heap.size+3) y2 L2
 hk:kb≠w.heap.size+1+1
theorem LPh.set {w:World} {b lo:Nat} {pv lv av:Value} {X:Array Value} {s:StD} {W:World} {lv' av':Value} {xs:List EdgeR} {Z:Array Value} {kb:Nat} {Y:Array Value} {o1 o2 y1 y2:Value} {O1 O2 L1 L2:List Int} (h:LPh w b lo pv lv av X s W lv' av' xs Z kb Y o1 o2 y1 y2 O1 O2 L1 L2) (hb:b<w.heap.size) (i:Nat) (v:Value):
  LPh w b lo pv lv av X s (W.setCell ⟨w.heap.size+1+1,i,none⟩ v) lv' av' xs (Z.setIfInBounds i v) kb Y o1 o2 y1 y2 O1 O2 L1 L2:=
 ⟨h.co.set h.out hb i v,h.out.set i v,h.yb.other (p:=⟨w.heap.size+1+1,i,none⟩) h.hk v,h.r1.setb h.out (by decide) v,h.r2.setb h.out (by decide) v,h.r3.setb h.out (by decide) v,h.r4.setb h.out (by decide) v,h.hk⟩
theorem LPh.as {w:World} {b lo:Nat} {pv lv av:Value} {X:Array Value} {s:StD} {W:World} {lv' av':Value} {xs:List EdgeR} {Z Z':Array Value} {kb:Nat} {Y:Array Value} {o1 o2 y1 y2:Value} {O1 O2 L1 L2:List Int} (h:LPh w b lo pv lv av X s W lv' av' xs Z kb Y o1 o2 y1 y2 O1 O2 L1 L2) (e:Z=Z'):LPh w b lo pv lv av X s W lv' av' xs Z' kb Y o1 o2 y1 y2 O1 O2 L1 L2:=e▸h
theorem LPh.fr {w:World} {b lo:Nat} {pv lv av:Value} {X:Array Value} {s:StD} {W W':World} {lv' av':Value} {xs:List EdgeR} {Z:Array Value} {kb:Nat} {Y:Array Value} {o1 o2 y1 y2:Value} {O1 O2 L1 L2:List Int} (h:LPh w b lo pv lv av X s W lv' av' xs Z kb Y o1 o2 y1 y2 O1 O2 L1 L2) (hf:Fr W W'):LPh w b lo pv lv av X s W' lv' av' xs Z kb Y o1 o2 y1 y2 O1 O2 L1 L2:=
 ⟨h.co.fr hf,h.out.fr hf,h.yb.fr hf,h.r1.fr hf,h.r2.fr hf,h.r3.fr hf,h.r4.fr hf,h.hk⟩
/-- An append to the first row. -/
theorem LPh.grow1 {w:World} {b lo:Nat} {pv lv av:Value} {X:Array Value} {s:StD} {W W':World} {lv' av':Value} {xs:List EdgeR} {Z:Array Value} {kb:Nat} {Y:Array Value} {o1 o1' o2 y1 y2:Value} {O1 O1' O2 L1 L2:List Int} (h:LPh w b lo pv lv av X s W lv' av' xs Z kb Y o1 o2 y1 y2 O1 O2 L1 L2)
  (hg:W.grownBy W' o1.ownBlock) (hn:IntsO W' (w.heap.size+3) o1' O1') (a2:Apart o1 o2) (a3:Apart o1 y1) (a4:Apart o1 y2):LPh w b lo pv lv av X s W' lv' av' xs Z kb Y o1' o2 y1 y2 O1' O2 L1 L2:=
 ⟨h.co.grow h.r1 (fun i e=>by have:=(World.ownsRow.lt h.r1 i e).1;omega) hg,h.out.gr hg (owns_box h.r1 h.out (by decide)),h.yb.gr hg (owns_box h.r1 h.yb (by decide)),hn,World.ownsRow.kept h.r2 hg (Apart.ne (Apart.symm' a2)),World.ownsRow.kept h.r3 hg (Apart.ne (Apart.symm' a3)),World.ownsRow.kept h.r4 hg (Apart.ne (Apart.symm' a4)),h.hk⟩
theorem LPh.grow2 {w:World} {b lo:Nat} {pv lv av:Value} {X:Array Value} {s:StD} {W W':World} {lv' av':Value} {xs:List EdgeR} {Z:Array Value} {kb:Nat} {Y:Array Value} {o1 o2 o2' y1 y2:Value} {O1 O2 O2' L1 L2:List Int} (h:LPh w b lo pv lv av X s W lv' av' xs Z kb Y o1 o2 y1 y2 O1 O2 L1 L2)
  (hg:W.grownBy W' o2.ownBlock) (hn:IntsO W' (w.heap.size+3) o2' O2') (a1:Apart o2 o1) (a3:Apart o2 y1) (a4:Apart o2 y2):LPh w b lo pv lv av X s W' lv' av' xs Z kb Y o1 o2' y1 y2 O1 O2' L1 L2:=
 ⟨h.co.grow h.r2 (fun i e=>by have:=(World.ownsRow.lt h.r2 i e).1;omega) hg,h.out.gr hg (owns_box h.r2 h.out (by decide)),h.yb.gr hg (owns_box h.r2 h.yb (by decide)),World.ownsRow.kept h.r1 hg (Apart.ne (Apart.symm' a1)),hn,World.ownsRow.kept h.r3 hg (Apart.ne (Apart.symm' a3)),World.ownsRow.kept h.r4 hg (Apart.ne (Apart.symm' a4)),h.hk⟩
theorem apart_lt {w:World} {lo n:Nat} {e e':TypeId} {sz sz':Nat} {v v':Value} {m m':Nat} {xs xs':List Value} {w':World} (h:w.ownsRow lo e sz v m xs) (k:w'.ownsRow n e' sz' v' m' xs') (hn:w.heap.size≤n):Apart v v':=fun g h1 h2=>by
 have:=(World.ownsRow.lt h g h1).2
 have:=(World.ownsRow.lt k g h2).1
 omega
end Go.Proofs.YtjnahjgncmcmdaaGreat