/- A roaming copied by the reference (l21Copy). Condition: the size. -/
import Derived.Test.YtmdgdnkllclpcaaGreatCpr
import Derived.Test.YtmdgdnkllclpcaaGreatWe
namespace Go.Proofs.YtmdgdnkllclpcaaGreat
open Go.RowKit
set_option linter.unusedVariables false
set_option linter.unusedSimpArgs false
/-- Nothing old has turned but one box and one row (under a name of its own, for a drawn region). -/
def So (o:Nat) (v:Value) (a w:World):Prop:=Tch (fun g=>g=o∨v.ownBlock=some g) a w
theorem So.of {o:Nat} {v:Value} {a w:World} (h:Fr a w):So o v a w:=Tch.of_fr h
theorem So.gr {o:Nat} {v:Value} {a w w':World} (h:Fr a w) (hg:w.grownBy w' v.ownBlock):So o v a w':=(Tch.of_fr h).trans (Tch.of_gr hg fun i hi=> .inr hi)
theorem So.set {o:Nat} {v:Value} {a w:World} (h:So o v a w) (i:Nat) (u:Value):So o v a (w.setCell ⟨o,i,none⟩ u):=Tch.set h (p:=⟨o,i,none⟩) (.inl (.inl rfl)) u
theorem So.box {o:Nat} {v:Value} {a w:World} {b:Nat} {X:Array Value} {T:TypeId} (h:So o v a w) (k:Box a b X T) (h1:b≠o) (h2:v.ownBlock≠some b) (j:Nat):w.cell? ⟨b,j,none⟩=X[j]? :=(Tch.box h k (fun e=>by rcases e with e|e;exact h1 e;exact h2 e)).cell j
theorem So.cell {o:Nat} {v:Value} {a w:World} {b j:Nat} {u:Value} (h:So o v a w) (hb:b<a.heap.size) (h1:b≠o) (h2:v.ownBlock≠some b) (k:a.cell? ⟨b,j,none⟩=some u):w.cell? ⟨b,j,none⟩=some u:=by
 have:=h.block b hb (fun e=>by rcases e with e|e;exact h1 e;exact h2 e)
 rw[← k]
 simp[World.cell?,this]
theorem step_append_fst {P:Program} {w:World} {ops:Array Oper} {o:Oper} {a:Act} {K:Act→World→Prop} {Q:Exit→Act→World→Prop} {E:Prop} (hgd:o.guard=none) (s x:Operand) (t:TypeId)
  (ho:o.op= .call {callee:= .builtin .append,args:= #[s,x],argTypes:= #[t,t]})
  (base:Nat) (e:TypeId) (i:TypeInfo) (z:Value) (size bytes:Nat) (ht:P.underlying t=some (.slice e)) (hi:P.info? e=some i) (hz:i.zero=some z)
  (hsize:i.size=size) (hby:i.bytes=bytes) (hzs:z.cells.size=size) (hsz:0<size)
  (v:Value) (hs:a.eval s=v) (hown:w.ownsRow base e size v 0 [])
  (vx:Value) (m:Nat) (news:List Value) (hx:a.eval x=vx) (hr:RdS w size vx m news) (h1: ∀ u∈news,u.oneCell'=true)
  (h63:m≤maxLen) (hbytes:m*bytes≤140737488355328) (hbase:base≤w.heap.size)
  (h: ∀ ao cap w',w'.ownsRow base e size (.slice ao m cap) m news→w.grownBy w' v.ownBlock→((Value.slice ao m cap).ownBlock=v.ownBlock∨(Value.slice ao m cap).ownBlock=some w.heap.size)→K (a.put o.dst (.slice ao m cap)) w'):
  if Region.wanted o (yielded ops a.tmps)=true then Oper.wp P o a w K Q else E:=by
 refine step_append_rd hgd s x t ho base e i z size bytes ht hi hz hsize hby hzs hsz v 0 [] hs hown vx m news hx hr h1 (by omega) (by rw[Nat.zero_add];exact hbytes) hbase fun ao cap w' q1 q2 q3=>?_
 simp only[Nat.zero_add,List.nil_append]at q1 q3 ⊢
 exact h ao cap w' q1 q2 q3
set_option maxHeartbeats 16000000 in
set_option maxRecDepth 100000 in
theorem l21Copy_any (v:Value) (d:RoamD) (w:World) (hv:RoamRd w v d) (hn:RoamFew d):
  Calls Tryz.prog 112 #[v] w fun e w'=>CpPost w d e w':=by
 obtain⟨i0,hi,hz0,hz1,hz2⟩:=info_parts info_WalkS
 obtain⟨j0,hj,hy0,hy1,hy2⟩:=info_parts info_Parcel
 obtain⟨m0,hm,hx0,hx1,hx2⟩:=info_parts info_Walk
 obtain⟨u1,u2,rfl,r1,r2⟩:=hv
 obtain⟨aa,ba,oa,ca,rfl,hca,hma,fa⟩:=r1.one
 obtain⟨ab,bb,ob,cb,rfl,hcb,hmb,fb⟩:=r2.one
 have FA:=Lib.hid fa
 have FB:=Lib.hid fb
 have HR0:Hid (∀ k,k<d.f0.length→(nAt d.f0 k).length≤1048576):=Lib.hid fun k hk=>roam_row0 hn hk
 have HR1:Hid (∀ k,k<d.f1.length→(nAt d.f1 k).f1.length≤1048576):=Lib.hid fun k hk=>roam_row1 hn hk
 obtain⟨hl0,hl1⟩:=roam_lens hn
 clear r1 r2 fa fb hn
 go_enter Tryz.func112,Tryz.ntmps112
 go_wp2_with fail
 have BI0:Box (((w.alloc (.cells #[.slice aa d.f0.length ca,.slice ab d.f1.length cb] 72)).alloc (.cells #[.slice none 0 0,.slice none 0 0] 72)).alloc (.cells #[.slice none 0 0,.slice none 0 0] 72)) w.heap.size #[.slice aa d.f0.length ca,.slice ab d.f1.length cb] 72:=Box.alloc (Box.alloc (Box.new _ _ _) _) _
 have BR0:Box (((w.alloc (.cells #[.slice aa d.f0.length ca,.slice ab d.f1.length cb] 72)).alloc (.cells #[.slice none 0 0,.slice none 0 0] 72)).alloc (.cells #[.slice none 0 0,.slice none 0 0] 72)) (w.heap.size+1) #[.slice none 0 0,.slice none 0 0] 72:=Box.alloc (Box.new' (by simp)) _
 have BO0:Box (((w.alloc (.cells #[.slice aa d.f0.length ca,.slice ab d.f1.length cb] 72)).alloc (.cells #[.slice none 0 0,.slice none 0 0] 72)).alloc (.cells #[.slice none 0 0,.slice none 0 0] 72)) (w.heap.size+1+1) #[.slice none 0 0,.slice none 0 0] 72:=Box.new' (by simp)
 go_loopw [4] (fun i wr=> ∃ (k:Nat) (a1:Option Addr) (c1:Nat) (L1:List (Itm (List WalkR))),k≤d.f0.length∧i= .int .i64 k∧L1.length≤k∧Hid (L1.map Itm.x=d.f0.take k)∧Hid (RoamV wr (w.heap.size+3) wr.heap.size (.slice a1 L1.length c1) (.slice none 0 0) L1 [])∧Box wr w.heap.size #[.slice aa d.f0.length ca,.slice ab d.f1.length cb] 72∧Box wr (w.heap.size+1) #[.slice none 0 0,.slice none 0 0] 72∧Box wr (w.heap.size+1+1) #[.slice a1 L1.length c1,.slice none 0 0] 72∧Fr w wr) (fun i _=>d.f0.length-(intOf i).toNat)
 case atStart=>exact⟨0,none,0,[],Nat.zero_le _,rfl,Nat.le_refl _,Lib.hid rfl,Lib.hid (RoamV.nil _ _ _),BI0,BR0,BO0,by exact Qf⟩
 case round=>
  clear BI0 BR0 BO0
  obtain⟨k,a1,c1,L1,hk,rfl,hlk,HL,HV,BI,BR,BO,hfr⟩:=hrel
  have FI:=BI.facts
  have FO:=BO.facts
  have zr:=hfr.size
  have zo:=BO.lt
  by_cases hlt:k<d.f0.length
  · obtain⟨rfl,hba,fa⟩:=FA.out (by omega)
    obtain⟨ar,ra,ga⟩:=fa k hlt
    have hxl:=HR0.out k hlt
    have HMX:Hid (∀ (x:List WalkR) (i:Itm (List WalkR)),nAt d.f0 k=x→i.x=x→(L1++[i]).map Itm.x=d.f0.take (k+1)):=Lib.hid fun x i e1 e2=>mapx_next HL.out hlt (by rw[e1];exact e2)
    obtain⟨x,hx⟩: ∃ x,nAt d.f0 k=x:=⟨_,rfl⟩
    rw[hx]at ra hxl
    have HX:=Lib.hid hx
    obtain⟨ax,cx,rfl,_⟩:=RdS.val ra
    have q0:=(hfr.cell (p:=⟨ba,_,none⟩) hba).trans ga
    have hbar:=Nat.lt_of_lt_of_le hba hfr.size
    have HRA:=Lib.hid (RdS.fr ra hfr)
    clear fa ga ra hx
    go_wp2_with fail
    have RI: ∀ w',So wr.heap.size (.slice a1 L1.length c1) wr w'→ ∀ o,w'.cell? ⟨w.heap.size,o,none⟩=_:=fun w' h o=>So.box h BI (by omega) (fun e=>by have:=HV.out.in1 _ e;omega) o
    have RO: ∀ w',So wr.heap.size (.slice a1 L1.length c1) wr w'→ ∀ o,w'.cell? ⟨w.heap.size+1+1,o,none⟩=_:=fun w' h o=>So.box h BO (by omega) (fun e=>by have:=HV.out.in1 _ e;omega) o
    have RC: ∀ w',So wr.heap.size (.slice a1 L1.length c1) wr w'→w'.cell? ⟨ba,oa+k,none⟩=some (.slice ax x.length cx):=fun w' h=>So.cell h hbar (by omega) (fun e=>by have:=HV.out.in1 _ e;omega) q0
    clear FI FO q0
    refine wp_region_last_drew (fun w'=>So wr.heap.size (.slice a1 L1.length c1) wr w') 12 (by kernel_rfl) (by first|assumption|(refine So.of ?_;repeat(first|(with_reducible exact Fr.refl _)|(with_reducible assumption)|(with_reducible refine Fr.drewN ?_ _)|(with_reducible refine Fr.drew ?_)|(with_reducible refine Fr.alloc ?_ _)|(with_reducible refine Fr.setCell ?_ (by exact Qz) _)|(with_reducible refine Fr.trans ?_ (by with_reducible assumption))))) (fun hHeld=>?_)
    refine wpAnyE_take (i:=0) (r:=[1,10,12]) (v:=?_) rfl (by kernel_rfl) (by kernel_rfl) (by kernel_rfl) (by kernel_rfl) (fun _ _ _ h=>h) (Or.inl ⟨by rfl,?_⟩) (by assumption) ?_;rotate_left;(focus(intro w hSw;(try dsimp only at hSw);go_simp;all_goals (try with_reducible rfl)));(try simp only[Act.put,List.setIfInBounds_toArray,List.set_cons_zero,List.set_cons_succ])
    refine wpAnyE_take (i:=1) (r:=[10,12]) (v:=?_) rfl (by kernel_rfl) (by kernel_rfl) (by kernel_rfl) (by kernel_rfl) (fun _ _ _ h=>h) (Or.inl ⟨by rfl,?_⟩) (by assumption) ?_;rotate_left;(focus(intro w hSw;(try dsimp only at hSw);go_simp;all_goals (try with_reducible rfl)));(try simp only[Act.put,List.setIfInBounds_toArray,List.set_cons_zero,List.set_cons_succ])
    refine wpAnyE_take (i:=3) (r:=[4,6,7,8,9,10,12]) (v:=?_) rfl (by kernel_rfl) (by kernel_rfl) (by kernel_rfl) (by kernel_rfl) (fun _ _ _ h=>h) (Or.inl ⟨by rfl,?_⟩) (by assumption) ?_;rotate_left;(focus(intro w hSw;(try dsimp only at hSw);go_simp;all_goals (try with_reducible rfl)));(try simp only[Act.put,List.setIfInBounds_toArray,List.set_cons_zero,List.set_cons_succ])
    refine wpAnyE_take (i:=4) (r:=[6,7,8,9,10,12]) (v:=?_) rfl (by kernel_rfl) (by kernel_rfl) (by kernel_rfl) (by kernel_rfl) (fun _ _ _ h=>h) (Or.inl ⟨by rfl,?_⟩) (by assumption) ?_;rotate_left;(focus(intro w hSw;(try dsimp only at hSw);go_simp;all_goals (try with_reducible rfl)));(try simp only[Act.put,List.setIfInBounds_toArray,List.set_cons_zero,List.set_cons_succ])
    refine wpAnyE_take (i:=5) (r:=[6,7,8,9,10,12]) (v:=?_) rfl (by kernel_rfl) (by kernel_rfl) (by kernel_rfl) (by kernel_rfl) (fun _ _ _ h=>h) (Or.inl ⟨by rfl,?_⟩) (by assumption) ?_;rotate_left;(focus(intro w hSw;(try dsimp only at hSw);go_simp;all_goals (try with_reducible rfl)));(try simp only[Act.put,List.setIfInBounds_toArray,List.set_cons_zero,List.set_cons_succ])
    refine wpAnyE_take (i:=6) (r:=[7,8,9,10,12]) (v:=?_) rfl (by kernel_rfl) (by kernel_rfl) (by kernel_rfl) (by kernel_rfl) (fun _ _ _ h=>h) (Or.inl ⟨by rfl,?_⟩) (by assumption) ?_;rotate_left;(focus(intro w hSw;(try dsimp only at hSw);go_simp;all_goals (try with_reducible rfl)));(try simp only[Act.put,List.setIfInBounds_toArray,List.set_cons_zero,List.set_cons_succ])
    refine wpAnyE_take (i:=7) (r:=[8,9,10,12]) (v:=?_) rfl (by kernel_rfl) (by kernel_rfl) (by kernel_rfl) (by kernel_rfl) (fun _ _ _ h=>h) (Or.inl ⟨by rfl,?_⟩) (by assumption) ?_;rotate_left;(focus(intro w hSw;(try dsimp only at hSw);go_simp;all_goals (try with_reducible rfl)));(try simp only[Act.put,List.setIfInBounds_toArray,List.set_cons_zero,List.set_cons_succ])
    refine wpAnyE_ready (rs:=[2]) (by kernel_rfl) (by simp) ?_;refine AllReadyE.cons rfl (fun K hK=>?_) AllReadyE.nil
    go_simp
    refine hK.out _ _ (by first|assumption|(refine So.of ?_;repeat(first|(with_reducible exact Fr.refl _)|(with_reducible assumption)|(with_reducible refine Fr.drewN ?_ _)|(with_reducible refine Fr.drew ?_)|(with_reducible refine Fr.alloc ?_ _)|(with_reducible refine Fr.setCell ?_ (by exact Qz) _)|(with_reducible refine Fr.trans ?_ (by with_reducible assumption))))) (fun hHeld2=>?_);clear hK K hHeld;have hHeld:=hHeld2;clear hHeld2;(try simp only[Act.put,List.setIfInBounds_toArray,List.set_cons_zero,List.set_cons_succ])
    refine wpAnyE_ready (rs:=[8]) (by kernel_rfl) (by simp) ?_;refine AllReadyE.cons rfl (fun K hK=>?_) AllReadyE.nil
    refine step_append_fst (by rfl) _ _ 37 (by rfl) wr.heap.size 57 m0 (.agg #[.int .i64 0,.int .i64 0,.int .i64 0,.int .i64 0]) 4 32 Tryz.underlying37 hm hx0 hx1 hx2 rfl (by decide) (.slice (some ⟨wr.heap.size,0,none⟩) 0 0) (by rfl) (made_empty (by first|rfl|(simp;done)) (Nat.le_refl _)) _ x.length (x.flatMap WalkR.cells) (by rfl) (HRA.out.fr (by exact Qf)) (walk_oneCells _) (by unfold maxLen;omega) (by omega) (by exact Qz) ?_;intro ac cc w5 hown5 hgrow5 hat5;have hf5:Fr wr w5:=Fr.app (by exact Qf) hgrow5 (RowIn.one (lo:=wr.heap.size) (hi:=wr.heap.size+1) (Nat.le_refl _) (by omega)) (Nat.le_refl _);have z5:=hf5.size;have HC5:=Lib.hid (OwW.of_owns hown5);have BO5:=BO.fr hf5;have FO5:=BO5.facts
    refine hK.out _ _ (by first|assumption|(refine So.of ?_;repeat(first|(with_reducible exact Fr.refl _)|(with_reducible assumption)|(with_reducible refine Fr.drewN ?_ _)|(with_reducible refine Fr.drew ?_)|(with_reducible refine Fr.alloc ?_ _)|(with_reducible refine Fr.setCell ?_ (by exact Qz) _)|(with_reducible refine Fr.trans ?_ (by with_reducible assumption))))) (fun hHeld2=>?_);clear hK K hHeld;have hHeld:=hHeld2;clear hHeld2;(try simp only[Act.put,List.setIfInBounds_toArray,List.set_cons_zero,List.set_cons_succ])
    refine wpAnyE_ready (rs:=[9]) (by kernel_rfl) (by simp) ?_;refine AllReadyE.cons rfl (fun K hK=>?_) AllReadyE.nil
    go_simp
    refine hK.out _ _ (by first|assumption|(refine So.of ?_;repeat(first|(with_reducible exact Fr.refl _)|(with_reducible assumption)|(with_reducible refine Fr.drewN ?_ _)|(with_reducible refine Fr.drew ?_)|(with_reducible refine Fr.alloc ?_ _)|(with_reducible refine Fr.setCell ?_ (by exact Qz) _)|(with_reducible refine Fr.trans ?_ (by with_reducible assumption))))) (fun hHeld2=>?_);clear hK K hHeld;have hHeld:=hHeld2;clear hHeld2;(try simp only[Act.put,List.setIfInBounds_toArray,List.set_cons_zero,List.set_cons_succ])
    refine wpAnyE_ready (rs:=[10]) (by kernel_rfl) (by simp) ?_;refine AllReadyE.cons rfl (fun K hK=>?_) AllReadyE.nil
    refine step_append_rd (by rfl) _ _ 69 (by rfl) 0 37 i0 (.slice none 0 0) 1 24 Tryz.underlying69 hi hz0 hz1 hz2 rfl (by decide) (.slice a1 L1.length c1) L1.length (L1.map Itm.u).flatten (by rfl) ((HV.out.fr (by exact Qf)).own1) _ 1 [.slice ac x.length cc] (by rfl) (RdS.new (by first|rfl|(simp;done)) rfl) (by simp[Value.oneCell']) (by unfold maxLen;omega) (by omega) (by exact Qz) ?_;intro a6 c6 w6 hown hgrow hat;have BO6:Box w6 (w.heap.size+1+1) _ _:=Box.row (BO5.fr (by exact Qf)) hgrow HV.out.in1 (.inl (by omega));have FO6:=BO6.facts;have T6:So wr.heap.size (.slice a1 L1.length c1) wr w6:=So.gr (by exact Qf) hgrow
    refine hK.out _ _ (by first|assumption|(refine So.of ?_;repeat(first|(with_reducible exact Fr.refl _)|(with_reducible assumption)|(with_reducible refine Fr.drewN ?_ _)|(with_reducible refine Fr.drew ?_)|(with_reducible refine Fr.alloc ?_ _)|(with_reducible refine Fr.setCell ?_ (by exact Qz) _)|(with_reducible refine Fr.trans ?_ (by with_reducible assumption))))) (fun hHeld2=>?_);clear hK K hHeld;have hHeld:=hHeld2;clear hHeld2;(try simp only[Act.put,List.setIfInBounds_toArray,List.set_cons_zero,List.set_cons_succ])
    refine wpAnyE_take (i:=11) (r:=[12]) (v:=?_) rfl (by kernel_rfl) (by kernel_rfl) (by kernel_rfl) (by kernel_rfl) (fun _ _ _ h=>h) (Or.inl ⟨by rfl,?_⟩) (by assumption) ?_;rotate_left;(focus(intro w hSw;(try dsimp only at hSw);go_simp;all_goals (try with_reducible rfl)));(try simp only[Act.put,List.setIfInBounds_toArray,List.set_cons_zero,List.set_cons_succ])
    refine wpAnyE_ready (rs:=[12]) (by kernel_rfl) (by simp) ?_;refine AllReadyE.last rfl rfl (fun K hK=>?_);go_simp;refine hK.out _ _ ?_;clear hK K hHeld;(try simp only[Act.put,List.setIfInBounds_toArray,List.set_cons_zero,List.set_cons_succ]);refine wpAnyE_done (by kernel_rfl) ?_ _
    all_goals
     have BI6:Box w6 w.heap.size _ _:=Box.row (BI.fr (by exact Qf)) hgrow HV.out.in1 (.inl (by omega))
     have BR6:Box w6 (w.heap.size+1) _ _:=Box.row (BR.fr (by exact Qf)) hgrow HV.out.in1 (.inl (by omega))
     have hfw6:Fr w w6:=Fr.app (a:=w) (by exact Qf) hgrow HV.out.in1 (by omega)
     have hV6:=RoamV.add1 (hg:=hgrow) (hown:=hown) (hat:=hat) (h:=HV.out.fr (by exact Qf)) (i:=⟨[.slice ac x.length cc],wr.heap.size,w5.heap.size,x⟩) rfl (walk_rowC (HC5.out.fr (by exact Qf))) (Nat.le_refl _) z5 (by exact Qz) (by omega)
     have HLN:=Lib.hid (show(L1++[(⟨[.slice ac x.length cc],wr.heap.size,w5.heap.size,x⟩:Itm (List WalkR))]).length=L1.length+1 by simp)
     have HX1:=Lib.hid (HMX.out x ⟨[.slice ac x.length cc],wr.heap.size,w5.heap.size,x⟩ HX.out rfl)
     have HV6:=Lib.hid hV6
     clear hV6 hown hgrow hat HV HMX HC5 HRA HL
     go_wp2_with fail
     go_roundw
     case rel=>exact⟨k+1,a6,c6,_,by omega,by go_num,by rw[HLN.out];omega,HX1,Lib.hid (by rw[HLN.out];exact(HV6.out.set (p:=⟨w.heap.size+1+1,0,none⟩) (.inl (by show w.heap.size+1+1<w.heap.size+3;omega)) _).mono (Nat.le_refl _) (by simp)),BI6.far' (by omega) _,BR6.far' (by omega) _,by rw[HLN.out];exact BO6.set_to rfl,Fr.setCell hfw6 (by show w.heap.size≤w.heap.size+1+1;omega) _⟩
     case measure=>(simp[intOf];omega)
  · obtain rfl:k=d.f0.length:=by omega
    have HLX:Hid (L1.map Itm.x=d.f0):=Lib.hid (by rw[HL.out,List.take_length])
    clear HL FA HR0
    obtain⟨w0,hw0⟩: ∃ w_:World,w_=wr:=⟨_,rfl⟩
    subst hw0
    go_wp2_with fail
    clear FI FO
    go_loopw [5] (fun i wr=> ∃ (k:Nat) (a2:Option Addr) (c2:Nat) (L2:List (Itm ParcelD)),k≤d.f1.length∧i= .int .i64 k∧L2.length≤k∧Hid (L2.map Itm.x=d.f1.take k)∧Hid (RoamV wr (w.heap.size+3) wr.heap.size (.slice a1 L1.length c1) (.slice a2 L2.length c2) L1 L2)∧Box wr w.heap.size #[.slice aa d.f0.length ca,.slice ab d.f1.length cb] 72∧Box wr (w.heap.size+1) #[.slice none 0 0,.slice none 0 0] 72∧Box wr (w.heap.size+1+1) #[.slice a1 L1.length c1,.slice a2 L2.length c2] 72∧Fr w wr) (fun i _=>d.f1.length-(intOf i).toNat)
    case atStart=>exact⟨0,none,0,[],Nat.zero_le _,rfl,Nat.le_refl _,Lib.hid rfl,HV,BI,BR,BO,hfr⟩
    case round=>
     clear HV BI BR BO hfr zr zo
     obtain⟨k,a2,c2,L2,hk2,rfl,hlk2,HL,HV,BI,BR,BO,hfr⟩:=hrel
     have FO:=BO.facts
     have FR:=BR.facts
     have FI:=BI.facts
     have zr:=hfr.size
     have zo:=BO.lt
     by_cases hlt:k<d.f1.length
     · obtain⟨rfl,hbb,fb⟩:=FB.out (by omega)
       obtain⟨ar,ra,g0,g1⟩:=fb k hlt
       have hxl:=HR1.out k hlt
       have HMX:Hid (∀ (x:ParcelD) (i:Itm ParcelD),nAt d.f1 k=x→i.x=x→(L2++[i]).map Itm.x=d.f1.take (k+1)):=Lib.hid fun x i e1 e2=>mapx_next HL.out hlt (by rw[e1];exact e2)
       obtain⟨x,hx⟩: ∃ x,nAt d.f1 k=x:=⟨_,rfl⟩
       rw[hx]at ra hxl g0
       have HX:=Lib.hid hx
       obtain⟨ax,cx,rfl,_⟩:=RdS.val ra
       obtain⟨x0,x1⟩:=x
       simp only[]at ra hxl g0 g1
       have q0:=(hfr.cell (p:=⟨bb,_,none⟩) hbb).trans g0
       have hbbr:=Nat.lt_of_lt_of_le hbb hfr.size
       have q1:=(hfr.cell (p:=⟨bb,_,none⟩) hbb).trans g1
       have HRA:=Lib.hid (RdS.fr ra hfr)
       clear fb g0 g1 ra hx
       go_wp2_with fail
       have RI: ∀ w',So wr.heap.size (.slice a2 L2.length c2) wr w'→ ∀ o,w'.cell? ⟨w.heap.size,o,none⟩=_:=fun w' h o=>So.box h BI (by omega) (fun e=>by have:=HV.out.in2 _ e;omega) o
       have RO: ∀ w',So wr.heap.size (.slice a2 L2.length c2) wr w'→ ∀ o,w'.cell? ⟨w.heap.size+1+1,o,none⟩=_:=fun w' h o=>So.box h BO (by omega) (fun e=>by have:=HV.out.in2 _ e;omega) o
       have RC0: ∀ w',So wr.heap.size (.slice a2 L2.length c2) wr w'→w'.cell? ⟨bb,ob+k*2,none⟩=some (.int .i64 x0):=fun w' h=>So.cell h hbbr (by omega) (fun e=>by have:=HV.out.in2 _ e;omega) q0
       have RC1: ∀ w',So wr.heap.size (.slice a2 L2.length c2) wr w'→w'.cell? ⟨bb,ob+k*2+1,none⟩=some (.slice ax x1.length cx):=fun w' h=>So.cell h hbbr (by omega) (fun e=>by have:=HV.out.in2 _ e;omega) q1
       clear FI FO q0 q1
       refine wp_region_last_drew (fun w'=>So wr.heap.size (.slice a2 L2.length c2) wr w') 20 (by kernel_rfl) (by first|assumption|(refine So.of ?_;repeat(first|(with_reducible exact Fr.refl _)|(with_reducible assumption)|(with_reducible refine Fr.drewN ?_ _)|(with_reducible refine Fr.drew ?_)|(with_reducible refine Fr.alloc ?_ _)|(with_reducible refine Fr.setCell ?_ (by exact Qz) _)|(with_reducible refine Fr.trans ?_ (by with_reducible assumption))))) (fun hHeld=>?_)
       refine wpAnyE_take (i:=0) (r:=[1,18,20]) (v:=?_) rfl (by kernel_rfl) (by kernel_rfl) (by kernel_rfl) (by kernel_rfl) (fun _ _ _ h=>h) (Or.inl ⟨by rfl,?_⟩) (by assumption) ?_;rotate_left;(focus(intro w hSw;(try dsimp only at hSw);go_simp;all_goals (try with_reducible rfl)));(try simp only[Act.put,List.setIfInBounds_toArray,List.set_cons_zero,List.set_cons_succ])
       refine wpAnyE_take (i:=1) (r:=[18,20]) (v:=?_) rfl (by kernel_rfl) (by kernel_rfl) (by kernel_rfl) (by kernel_rfl) (fun _ _ _ h=>h) (Or.inl ⟨by rfl,?_⟩) (by assumption) ?_;rotate_left;(focus(intro w hSw;(try dsimp only at hSw);go_simp;all_goals (try with_reducible rfl)));(try simp only[Act.put,List.setIfInBounds_toArray,List.set_cons_zero,List.set_cons_succ])
       refine wpAnyE_take (i:=2) (r:=[3,5,6,7,16,17,18,20]) (v:=?_) rfl (by kernel_rfl) (by kernel_rfl) (by kernel_rfl) (by kernel_rfl) (fun _ _ _ h=>h) (Or.inl ⟨by rfl,?_⟩) (by assumption) ?_;rotate_left;(focus(intro w hSw;(try dsimp only at hSw);go_simp;all_goals (try with_reducible rfl)));(try simp only[Act.put,List.setIfInBounds_toArray,List.set_cons_zero,List.set_cons_succ])
       refine wpAnyE_take (i:=3) (r:=[5,6,7,16,17,18,20]) (v:=?_) rfl (by kernel_rfl) (by kernel_rfl) (by kernel_rfl) (by kernel_rfl) (fun _ _ _ h=>h) (Or.inl ⟨by rfl,?_⟩) (by assumption) ?_;rotate_left;(focus(intro w hSw;(try dsimp only at hSw);go_simp;all_goals (try with_reducible rfl)));(try simp only[Act.put,List.setIfInBounds_toArray,List.set_cons_zero,List.set_cons_succ])
       refine wpAnyE_take (i:=4) (r:=[5,6,7,16,17,18,20]) (v:=?_) rfl (by kernel_rfl) (by kernel_rfl) (by kernel_rfl) (by kernel_rfl) (fun _ _ _ h=>h) (Or.inl ⟨by rfl,?_⟩) (by assumption) ?_;rotate_left;(focus(intro w hSw;(try dsimp only at hSw);go_simp;all_goals (try with_reducible rfl)));(try simp only[Act.put,List.setIfInBounds_toArray,List.set_cons_zero,List.set_cons_succ])
       refine wpAnyE_take (i:=5) (r:=[6,7,16,17,18,20]) (v:=?_) rfl (by kernel_rfl) (by kernel_rfl) (by kernel_rfl) (by kernel_rfl) (fun _ _ _ h=>h) (Or.inl ⟨by rfl,?_⟩) (by assumption) ?_;rotate_left;(focus(intro w hSw;(try dsimp only at hSw);go_simp;all_goals (try with_reducible rfl)));(try simp only[Act.put,List.setIfInBounds_toArray,List.set_cons_zero,List.set_cons_succ])
       refine wpAnyE_take (i:=6) (r:=[7,16,17,18,20]) (v:=?_) rfl (by kernel_rfl) (by kernel_rfl) (by kernel_rfl) (by kernel_rfl) (fun _ _ _ h=>h) (Or.inl ⟨by rfl,?_⟩) (by assumption) ?_;rotate_left;(focus(intro w hSw;(try dsimp only at hSw);go_simp;all_goals (try with_reducible rfl)));(try simp only[Act.put,List.setIfInBounds_toArray,List.set_cons_zero,List.set_cons_succ])
       refine wpAnyE_take (i:=7) (r:=[16,17,18,20]) (v:=?_) rfl (by kernel_rfl) (by kernel_rfl) (by kernel_rfl) (by kernel_rfl) (fun _ _ _ h=>h) (Or.inl ⟨by rfl,?_⟩) (by assumption) ?_;rotate_left;(focus(intro w hSw;(try dsimp only at hSw);go_simp;all_goals (try with_reducible rfl)));(try simp only[Act.put,List.setIfInBounds_toArray,List.set_cons_zero,List.set_cons_succ])
       refine wpAnyE_take (i:=9) (r:=[10,12,13,14,15,16,17,18,20]) (v:=?_) rfl (by kernel_rfl) (by kernel_rfl) (by kernel_rfl) (by kernel_rfl) (fun _ _ _ h=>h) (Or.inl ⟨by rfl,?_⟩) (by assumption) ?_;rotate_left;(focus(intro w hSw;(try dsimp only at hSw);go_simp;all_goals (try with_reducible rfl)));(try simp only[Act.put,List.setIfInBounds_toArray,List.set_cons_zero,List.set_cons_succ])
       refine wpAnyE_take (i:=10) (r:=[12,13,14,15,16,17,18,20]) (v:=?_) rfl (by kernel_rfl) (by kernel_rfl) (by kernel_rfl) (by kernel_rfl) (fun _ _ _ h=>h) (Or.inl ⟨by rfl,?_⟩) (by assumption) ?_;rotate_left;(focus(intro w hSw;(try dsimp only at hSw);go_simp;all_goals (try with_reducible rfl)));(try simp only[Act.put,List.setIfInBounds_toArray,List.set_cons_zero,List.set_cons_succ])
       refine wpAnyE_take (i:=11) (r:=[12,13,14,15,16,17,18,20]) (v:=?_) rfl (by kernel_rfl) (by kernel_rfl) (by kernel_rfl) (by kernel_rfl) (fun _ _ _ h=>h) (Or.inl ⟨by rfl,?_⟩) (by assumption) ?_;rotate_left;(focus(intro w hSw;(try dsimp only at hSw);go_simp;all_goals (try with_reducible rfl)));(try simp only[Act.put,List.setIfInBounds_toArray,List.set_cons_zero,List.set_cons_succ])
       refine wpAnyE_take (i:=12) (r:=[13,14,15,16,17,18,20]) (v:=?_) rfl (by kernel_rfl) (by kernel_rfl) (by kernel_rfl) (by kernel_rfl) (fun _ _ _ h=>h) (Or.inl ⟨by rfl,?_⟩) (by assumption) ?_;rotate_left;(focus(intro w hSw;(try dsimp only at hSw);go_simp;all_goals (try with_reducible rfl)));(try simp only[Act.put,List.setIfInBounds_toArray,List.set_cons_zero,List.set_cons_succ])
       refine wpAnyE_take (i:=13) (r:=[14,15,16,17,18,20]) (v:=?_) rfl (by kernel_rfl) (by kernel_rfl) (by kernel_rfl) (by kernel_rfl) (fun _ _ _ h=>h) (Or.inl ⟨by rfl,?_⟩) (by assumption) ?_;rotate_left;(focus(intro w hSw;(try dsimp only at hSw);go_simp;all_goals (try with_reducible rfl)));(try simp only[Act.put,List.setIfInBounds_toArray,List.set_cons_zero,List.set_cons_succ])
       refine wpAnyE_take (i:=14) (r:=[15,16,17,18,20]) (v:=?_) rfl (by kernel_rfl) (by kernel_rfl) (by kernel_rfl) (by kernel_rfl) (fun _ _ _ h=>h) (Or.inl ⟨by rfl,?_⟩) (by assumption) ?_;rotate_left;(focus(intro w hSw;(try dsimp only at hSw);go_simp;all_goals (try with_reducible rfl)));(try simp only[Act.put,List.setIfInBounds_toArray,List.set_cons_zero,List.set_cons_succ])
       refine wpAnyE_ready (rs:=[8]) (by kernel_rfl) (by simp) ?_;refine AllReadyE.cons rfl (fun K hK=>?_) AllReadyE.nil
       go_simp
       refine hK.out _ _ (by first|assumption|(refine So.of ?_;repeat(first|(with_reducible exact Fr.refl _)|(with_reducible assumption)|(with_reducible refine Fr.drewN ?_ _)|(with_reducible refine Fr.drew ?_)|(with_reducible refine Fr.alloc ?_ _)|(with_reducible refine Fr.setCell ?_ (by exact Qz) _)|(with_reducible refine Fr.trans ?_ (by with_reducible assumption))))) (fun hHeld2=>?_);clear hK K hHeld;have hHeld:=hHeld2;clear hHeld2;(try simp only[Act.put,List.setIfInBounds_toArray,List.set_cons_zero,List.set_cons_succ])
       refine wpAnyE_ready (rs:=[15]) (by kernel_rfl) (by simp) ?_;refine AllReadyE.cons rfl (fun K hK=>?_) AllReadyE.nil
       refine step_append_fst (by rfl) _ _ 37 (by rfl) wr.heap.size 57 m0 (.agg #[.int .i64 0,.int .i64 0,.int .i64 0,.int .i64 0]) 4 32 Tryz.underlying37 hm hx0 hx1 hx2 rfl (by decide) (.slice (some ⟨wr.heap.size,0,none⟩) 0 0) (by rfl) (made_empty (by first|rfl|(simp;done)) (Nat.le_refl _)) _ x1.length (x1.flatMap WalkR.cells) (by rfl) (HRA.out.fr (by exact Qf)) (walk_oneCells _) (by unfold maxLen;omega) (by omega) (by exact Qz) ?_;intro ac cc w5 hown5 hgrow5 hat5;have hf5:Fr wr w5:=Fr.app (by exact Qf) hgrow5 (RowIn.one (lo:=wr.heap.size) (hi:=wr.heap.size+1) (Nat.le_refl _) (by omega)) (Nat.le_refl _);have z5:=hf5.size;have HC5:=Lib.hid (OwW.of_owns hown5);have BO5:=BO.fr hf5;have FO5:=BO5.facts
       refine hK.out _ _ (by first|assumption|(refine So.of ?_;repeat(first|(with_reducible exact Fr.refl _)|(with_reducible assumption)|(with_reducible refine Fr.drewN ?_ _)|(with_reducible refine Fr.drew ?_)|(with_reducible refine Fr.alloc ?_ _)|(with_reducible refine Fr.setCell ?_ (by exact Qz) _)|(with_reducible refine Fr.trans ?_ (by with_reducible assumption))))) (fun hHeld2=>?_);clear hK K hHeld;have hHeld:=hHeld2;clear hHeld2;(try simp only[Act.put,List.setIfInBounds_toArray,List.set_cons_zero,List.set_cons_succ])
       refine wpAnyE_take (i:=16) (r:=[17,18,20]) (v:=?_) rfl (by kernel_rfl) (by kernel_rfl) (by kernel_rfl) (by kernel_rfl) (fun _ _ _ h=>h) (Or.inl ⟨by rfl,?_⟩) (by assumption) ?_;rotate_left;(focus(intro w hSw;(try dsimp only at hSw);go_simp;all_goals (try with_reducible rfl)));(try simp only[Act.put,List.setIfInBounds_toArray,List.set_cons_zero,List.set_cons_succ])
       refine wpAnyE_ready (rs:=[17]) (by kernel_rfl) (by simp) ?_;refine AllReadyE.cons rfl (fun K hK=>?_) AllReadyE.nil
       go_simp
       refine hK.out _ _ (by first|assumption|(refine So.of ?_;repeat(first|(with_reducible exact Fr.refl _)|(with_reducible assumption)|(with_reducible refine Fr.drewN ?_ _)|(with_reducible refine Fr.drew ?_)|(with_reducible refine Fr.alloc ?_ _)|(with_reducible refine Fr.setCell ?_ (by exact Qz) _)|(with_reducible refine Fr.trans ?_ (by with_reducible assumption))))) (fun hHeld2=>?_);clear hK K hHeld;have hHeld:=hHeld2;clear hHeld2;(try simp only[Act.put,List.setIfInBounds_toArray,List.set_cons_zero,List.set_cons_succ])
       refine wpAnyE_ready (rs:=[18]) (by kernel_rfl) (by simp) ?_;refine AllReadyE.cons rfl (fun K hK=>?_) AllReadyE.nil
       refine step_append_rd (by rfl) _ _ 70 (by rfl) 0 155 j0 (.agg #[.int .i64 0,.slice none 0 0]) 2 32 Tryz.underlying70 hj hy0 hy1 hy2 rfl (by decide) (.slice a2 L2.length c2) L2.length (L2.map Itm.u).flatten (by rfl) ((HV.out.fr (by exact Qf)).own2) _ 1 [.int .i64 x0,.slice ac x1.length cc] (by rfl) (RdS.new (by first|rfl|(simp;done)) rfl) (by simp[Value.oneCell']) (by unfold maxLen;omega) (by omega) (by exact Qz) ?_;intro a6 c6 w6 hown hgrow hat;have BO6:Box w6 (w.heap.size+1+1) _ _:=Box.row (BO5.fr (by exact Qf)) hgrow HV.out.in2 (.inl (by omega));have FO6:=BO6.facts;have T6:So wr.heap.size (.slice a2 L2.length c2) wr w6:=So.gr (by exact Qf) hgrow
       refine hK.out _ _ (by first|assumption|(refine So.of ?_;repeat(first|(with_reducible exact Fr.refl _)|(with_reducible assumption)|(with_reducible refine Fr.drewN ?_ _)|(with_reducible refine Fr.drew ?_)|(with_reducible refine Fr.alloc ?_ _)|(with_reducible refine Fr.setCell ?_ (by exact Qz) _)|(with_reducible refine Fr.trans ?_ (by with_reducible assumption))))) (fun hHeld2=>?_);clear hK K hHeld;have hHeld:=hHeld2;clear hHeld2;(try simp only[Act.put,List.setIfInBounds_toArray,List.set_cons_zero,List.set_cons_succ])
       refine wpAnyE_take (i:=19) (r:=[20]) (v:=?_) rfl (by kernel_rfl) (by kernel_rfl) (by kernel_rfl) (by kernel_rfl) (fun _ _ _ h=>h) (Or.inl ⟨by rfl,?_⟩) (by assumption) ?_;rotate_left;(focus(intro w hSw;(try dsimp only at hSw);go_simp;all_goals (try with_reducible rfl)));(try simp only[Act.put,List.setIfInBounds_toArray,List.set_cons_zero,List.set_cons_succ])
       refine wpAnyE_ready (rs:=[20]) (by kernel_rfl) (by simp) ?_;refine AllReadyE.last rfl rfl (fun K hK=>?_);go_simp;refine hK.out _ _ ?_;clear hK K hHeld;(try simp only[Act.put,List.setIfInBounds_toArray,List.set_cons_zero,List.set_cons_succ]);refine wpAnyE_done (by kernel_rfl) ?_ _
       all_goals
        have BI6:Box w6 w.heap.size _ _:=Box.row (BI.fr (by exact Qf)) hgrow HV.out.in2 (.inl (by omega))
        have BR6:Box w6 (w.heap.size+1) _ _:=Box.row (BR.fr (by exact Qf)) hgrow HV.out.in2 (.inl (by omega))
        have hfw6:Fr w w6:=Fr.app (a:=w) (by exact Qf) hgrow HV.out.in2 (by omega)
        have hV6:=RoamV.add2 (M:=[⟨[.int .i64 x0,.slice ac x1.length cc],wr.heap.size,w5.heap.size,⟨x0,x1⟩⟩]) (hg:=hgrow) (hown:=by simpa using hown) (hat:=hat) (h:=HV.out.fr (by exact Qf)) (ElsV.one rfl ⟨ac,cc,rfl,HC5.out.fr (by exact Qf)⟩ (by show wr.heap.size≤w5.heap.size;omega)) (Nat.le_refl _) (by exact Qz) (by omega) (by exact Qz)
        have HLN:=Lib.hid (show(L2++[(⟨[.int .i64 x0,.slice ac x1.length cc],wr.heap.size,w5.heap.size,⟨x0,x1⟩⟩:Itm ParcelD)]).length=L2.length+1 by simp)
        have HX1:=Lib.hid (HMX.out ⟨x0,x1⟩ ⟨[.int .i64 x0,.slice ac x1.length cc],wr.heap.size,w5.heap.size,⟨x0,x1⟩⟩ HX.out rfl)
        have HV6:=Lib.hid hV6
        clear hV6 hown hgrow hat HV HMX HC5 HRA HL
        go_wp2_with fail
        go_roundw
        case rel=>exact⟨k+1,a6,c6,_,by omega,by go_num,by rw[HLN.out];omega,HX1,Lib.hid (by rw[HLN.out];exact(HV6.out.set (p:=⟨w.heap.size+1+1,1,none⟩) (.inl (by show w.heap.size+1+1<w.heap.size+3;omega)) _).mono (Nat.le_refl _) (by simp)),BI6.far' (by omega) _,BR6.far' (by omega) _,by rw[HLN.out];exact BO6.set_to rfl,Fr.setCell hfw6 (by show w.heap.size≤w.heap.size+1+1;omega) _⟩
        case measure=>(simp[intOf];omega)
     · obtain rfl:k=d.f1.length:=by omega
       have HLY:Hid (L2.map Itm.x=d.f1):=Lib.hid (by rw[HL.out,List.take_length])
       have HVE:=Lib.hid ((HV.out.set (p:=⟨w.heap.size+1,0,none⟩) (.inl (by show w.heap.size+1<w.heap.size+3;omega)) (.slice a1 L1.length c1)).set (p:=⟨w.heap.size+1,1,none⟩) (.inl (by show w.heap.size+1<w.heap.size+3;omega)) (.slice a2 L2.length c2))
       clear HL HV FB HR1
       go_wp2_with fail
       refine bodyPost_ret (v:= .agg #[.slice a1 L1.length c1,.slice a2 L2.length c2]) (by simp[results,Tryz.results112,go_sem, *]) rfl ?_
       exact⟨a1,c1,a2,c2,L1,L2,rfl,HLX.out,HLY.out,HVE.out.mono (by omega) (by simp),by exact Qf⟩
end Go.Proofs.YtmdgdnkllclpcaaGreat
