/- A drawn query, right or not (spec.l08Any). No condition but the reading of the cursor. -/
import Derived.Test.YtjnahjgncmcmdaaGreatDwr
namespace Go.Proofs.YtjnahjgncmcmdaaGreat
open Go.RowKit
set_option linter.unusedVariables false
set_option linter.unusedSimpArgs false
theorem ZRow.own {w:World} {lo:Nat} {e:TypeId} {sz n:Nat} {v:Value} {xs:List Value} (h:ZRow w lo e sz v n xs) (hn:0<n):w.ownsRow lo e sz v n xs:=by
 rcases h with⟨h,_⟩|h
 · omega
 · exact h
theorem ZRow.rd {w w':World} {lo:Nat} {e:TypeId} {sz n:Nat} {v:Value} {xs:List Value} (h:ZRow w lo e sz v n xs) (hx:xs.length=n*sz) (k:Ab lo w w'):RdS w' sz v n xs:=by
 rcases h with⟨rfl,a,rfl⟩|h
 · exact⟨hx,a,0,rfl,Nat.le_refl _,by unfold maxLen;omega,fun h=>absurd h (by omega)⟩
 · exact RdS.of_owns (owns_ab h k)
theorem ZRow.fr {w w':World} {lo:Nat} {e:TypeId} {sz n:Nat} {v:Value} {xs:List Value} (h:ZRow w lo e sz v n xs) (k:Fr w w'):ZRow w' lo e sz v n xs:=h.imp (fun h=>h) fun h=>owns_fr h k
theorem ZRow.lo {w:World} {lo lo':Nat} {e:TypeId} {sz n:Nat} {v:Value} {xs:List Value} (h:ZRow w lo e sz v n xs) (k:lo'≤lo):ZRow w lo' e sz v n xs:=h.imp (fun h=>h) fun h=>owns_lo h k
theorem ZRow.tch {B:Nat→Prop} {w w':World} {lo:Nat} {e:TypeId} {sz n:Nat} {v:Value} {xs:List Value} (h:ZRow w lo e sz v n xs) (t:Tch B w w') (hb: ∀ g,lo≤g→g<w.heap.size→v.ownBlock=some g→ ¬ B g):ZRow w' lo e sz v n xs:=h.imp (fun h=>h) fun h=>t.owns h fun g hg=>hb g (h.lt g hg).1 (h.lt g hg).2 hg
/-- append onto a row that is owned, or none. -/
theorem wpList_append_zr {P:Program} {w:World} {ops:Array Oper} {rest:List Oper} {o:Oper} {a:Act} {Q:Exit→Act→World→Prop} (hgd:o.guard=none) (s x:Operand) (t:TypeId)
  (ho:o.op= .call {callee:= .builtin .append,args:= #[s,x],argTypes:= #[t,t]})
  (base:Nat) (e:TypeId) (i:TypeInfo) (z:Value) (size bytes:Nat) (ht:P.underlying t=some (.slice e)) (hi:P.info? e=some i) (hz:i.zero=some z)
  (hsize:i.size=size) (hby:i.bytes=bytes) (hzs:z.cells.size=size) (hsz:0<size)
  (v:Value) (n:Nat) (xs:List Value) (hs:a.eval s=v) (hx0:xs.length=n*size) (hown:ZRow w base e size v n xs)
  (vx:Value) (m:Nat) (news:List Value) (hx:a.eval x=vx) (hr:RdS w size vx m news) (h1: ∀ u∈news,u.oneCell'=true)
  (h63:n+m≤maxLen) (hbytes:(n+m)*bytes≤140737488355328) (hbase:base≤w.heap.size) (hm:0<m)
  (h: ∀ ao cap w',w'.ownsRow base e size (.slice ao (n+m) cap) (n+m) (xs++news)→(w.grownBy w' v.ownBlock∧w.ownsRow base e size v n xs)∨Fr w w'→(∀ g,(Value.slice ao (n+m) cap).ownBlock=some g→v.ownBlock=some g∧base≤g∧g<w.heap.size∨w.heap.size≤g)→wpList P ops Q rest (a.put o.dst (.slice ao (n+m) cap)) w'):wpList P ops Q (o::rest) a w:=by
 rcases hown with⟨rfl,a0,rfl⟩|hown
 · cases a0 with
   |none=>
    have hxs:xs=[]:=List.eq_nil_of_length_eq_zero (by simpa using hx0)
    subst hxs
    refine wpList_append_rd hgd s x t ho base e i z size bytes ht hi hz hsize hby hzs hsz _ 0 [] hs (World.ownsRow_nil _ _ _ _) vx m news hx hr h1 h63 hbytes hbase fun ao cap w' k1 k2 k3=>h ao cap w' k1 (.inr (Fr.grown (Fr.refl _) k2 (fun k e=>by cases e))) fun g hg=>?_
    rcases k3 with k3|k3
    · rw[k3]at hg;cases hg
    · rw[k3]at hg;cases hg;exact .inr (Nat.le_refl _)
   |some a0=>
    have hxs:xs=[]:=List.eq_nil_of_length_eq_zero (by simpa using hx0)
    subst hxs
    refine wpList_plain hgd fun K hK=>?_
    simp only[Nat.zero_add]at h63 hbytes h
    obtain⟨ao,cap,w',hrun,h2,h3⟩:=run_append_z (P:=P) w t o.type e i z size bytes ht hi hz hsize hby hzs a0 vx m news hr h63 hbytes
    unfold Oper.wp execOp
    simp only[ho,resolve,invoke,builtin,Sem.run_bind,Sem.run_pure,Result.andThen_ok,List.map_toArray,List.map_cons,List.map_nil,hs,hx,hrun]
    have h2:=h2.resolve_left (by omega)
    exact hK _ _ (h ao cap w' (by simpa using owns_lo h2 hbase) (.inr h3) fun g hg=> .inr (h2.lt g hg).1)
 · exact wpList_append_rd hgd s x t ho base e i z size bytes ht hi hz hsize hby hzs hsz v n xs hs hown vx m news hx hr h1 h63 hbytes hbase fun ao cap w' k1 k2 k3=>h ao cap w' k1 (.inl ⟨k2,hown⟩) fun g hg=>by
    rcases k3 with k3|k3
    · rw[k3]at hg;exact .inl ⟨hg,(hown.lt g hg).1,(hown.lt g hg).2⟩
    · rw[k3]at hg;cases hg;exact .inr (Nat.le_refl _)
theorem qry_out1 {q:QueryD} (h:qryD q=true):1≤q.f1.length:=by
 unfold qryD qryB at h
 simp only[Bool.and_eq_true,decide_eq_true_eq]at h
 exact h.2.2.1.2.1
theorem ZRow.gr {w w':World} {lo lo':Nat} {e e':TypeId} {sz sz' n n':Nat} {v v':Value} {xs xs':List Value} (h:ZRow w lo e sz v n xs) (hg:(w.grownBy w' v'.ownBlock∧w.ownsRow lo' e' sz' v' n' xs')∨Fr w w') (he:e≠e'):ZRow w' lo e sz v n xs:=by
 rcases hg with⟨hg,h'⟩|hg
 · rcases h with h|h
   · exact .inl h
   · refine .inr (h.kept hg ?_)
     cases hv:v.ownBlock with
     |none=>exact .inl rfl
     |some g=>exact .inr fun e=>owns_apart h h' he g hv e.symm
 · exact h.fr hg
/-- What an append of this kind keeps. -/
theorem gr_or {w w':World} {lo:Nat} {e:TypeId} {sz n:Nat} {v:Value} {xs:List Value} (hg:(w.grownBy w' v.ownBlock∧w.ownsRow lo e sz v n xs)∨Fr w w'): ∃ row,w.grownBy w' row∧ ∀ g,row=some g→lo≤g∧v.ownBlock=some g∧w.ownsRow lo e sz v n xs:=by
 rcases hg with⟨hg,h'⟩|hg
 · exact⟨_,hg,fun g e=>⟨(h'.lt g e).1,e,h'⟩⟩
 · exact⟨none,hg.gr _,fun g e=>by cases e⟩
theorem gr_box {w w':World} {lo b:Nat} {e T:TypeId} {sz n:Nat} {v:Value} {xs:List Value} {X:Array Value} (hg:(w.grownBy w' v.ownBlock∧w.ownsRow lo e sz v n xs)∨Fr w w') (k:Box w b X T) (hb:e≠T):Box w' b X T:=by
 obtain⟨row,h1,h2⟩:=gr_or hg
 exact k.gr h1 fun e'=>by obtain⟨_,h4,h5⟩:=h2 _ e';exact owns_box h5 k hb h4
theorem gr_cu {w w' V:World} {lo b:Nat} {e:TypeId} {sz n:Nat} {v:Value} {xs:List Value} (hg:(V.grownBy w' v.ownBlock∧V.ownsRow lo e sz v n xs)∨Fr V w') (hc:Cu V b) (hs:Span b (b+1) w V) (hb:b<lo) (hlo:w.heap.size≤lo):Cu w' b∧Span b (b+1) w w':=by
 rcases hg with⟨hg,h'⟩|hg
 · exact⟨hc.gr hg (fun g e=>by have:=(h'.lt g e).1;omega),hs.above hg fun g e=>by have:=(h'.lt g e).1;omega⟩
 · exact⟨hc.fr hg,hs.then_fr hg⟩
theorem ZRow.setb {w:World} {lo g i:Nat} {e T:TypeId} {sz n:Nat} {v:Value} {xs:List Value} {X:Array Value} (h:ZRow w lo e sz v n xs) (k:Box w g X T) (hne:e≠T) (u:Value):ZRow (w.setCell ⟨g,i,none⟩ u) lo e sz v n xs:=h.imp (fun h=>h) fun h=>owns_far h (p:=⟨g,i,none⟩) (owns_box h k hne) u
/-- The end of a drawn query: its result's box is filled. -/
theorem l8_fin {w V:World} {b lo:Nat} {q:QueryD} {a1 a2 a3:Option Addr} {c1 c2 c3:Nat} (v0 v1 v2 v3:Value) (hb:b<w.heap.size) (hlo:w.heap.size<lo) (hc:Cu V b) (hs:Span b (b+1) w V)
  (p1:ZRow V lo 9 1 (.slice a1 q.f1.length c1) q.f1.length (q.f1.map Value.string)) (p2:ZRow V lo 144 3 (.slice a2 q.f2.length c2) q.f2.length (q.f2.flatMap AtomR.cells)) (p3:ZRow V lo 187 4 (.slice a3 q.f3.length c3) q.f3.length (q.f3.flatMap FilterR.cells)) (hq:q.bulk≤5000):
  ∃ (q':QueryD) (v:Value),Ending.returned (.agg #[.bool q.f0,.slice a1 q.f1.length c1,.slice a2 q.f2.length c2,.slice a3 q.f3.length c3])= .returned v∧(∀ w'',Ab w.heap.size ((((V.setCell ⟨w.heap.size,0,none⟩ v0).setCell ⟨w.heap.size,1,none⟩ v1).setCell ⟨w.heap.size,2,none⟩ v2).setCell ⟨w.heap.size,3,none⟩ v3) w''→QueryRd w'' v q')∧q'.bulk≤5000∧Cu ((((V.setCell ⟨w.heap.size,0,none⟩ v0).setCell ⟨w.heap.size,1,none⟩ v1).setCell ⟨w.heap.size,2,none⟩ v2).setCell ⟨w.heap.size,3,none⟩ v3) b∧Span b (b+1) w ((((V.setCell ⟨w.heap.size,0,none⟩ v0).setCell ⟨w.heap.size,1,none⟩ v1).setCell ⟨w.heap.size,2,none⟩ v2).setCell ⟨w.heap.size,3,none⟩ v3):=by
 have ha:Ab lo V ((((V.setCell ⟨w.heap.size,0,none⟩ v0).setCell ⟨w.heap.size,1,none⟩ v1).setCell ⟨w.heap.size,2,none⟩ v2).setCell ⟨w.heap.size,3,none⟩ v3):=
  ((((Ab.refl lo V).setCell (p:=⟨w.heap.size,0,none⟩) hlo v0).setCell (p:=⟨w.heap.size,1,none⟩) hlo v1).setCell (p:=⟨w.heap.size,2,none⟩) hlo v2).setCell (p:=⟨w.heap.size,3,none⟩) hlo v3
 refine⟨q,_,rfl,fun w'' h=>?_,hq,?_,?_⟩
 · have h2:=ha.trans (h.mono' (show w.heap.size≤lo by omega))
   exact⟨_,_,_,rfl,p1.rd (by simp) h2,p2.rd ((by have:=flat_len q.f2 AtomR.cells 3 AtomR.cells_length q.f2.length (Nat.le_refl _);rwa [List.take_length]at this)) h2,p3.rd ((by have:=flat_len q.f3 FilterR.cells 4 FilterR.cells_length q.f3.length (Nat.le_refl _);rwa [List.take_length]at this)) h2⟩
 · exact(((hc.span (Span.set2 (b:=w.heap.size)) hb).span (Span.set2 (b:=w.heap.size)) hb).span (Span.set2 (b:=w.heap.size)) hb).span (Span.set2 (b:=w.heap.size)) hb
 · exact(((hs.setn (Nat.le_refl _)).setn (Nat.le_refl _)).setn (Nat.le_refl _)).setn (Nat.le_refl _)
theorem strs_bulk (l:List ByteArray):strsBulk l=l.length+(l.map ByteArray.size).sum:=by unfold strsBulk sumLen;rw[List.take_length]
theorem atoms_bulk (l:List AtomR):AtomsBulk l=l.length+(l.map AtomR.bulk).sum:=by unfold AtomsBulk sumAtom;rw[List.take_length]
theorem filters_bulk (l:List FilterR):FiltersBulk l=l.length+(l.map FilterR.bulk).sum:=by unfold FiltersBulk sumFilter;rw[List.take_length]
theorem atoms_bulk_set (x y:AtomR) (l:List AtomR) (h:y.bulk≤x.bulk+100):AtomsBulk (y::l)≤AtomsBulk (x::l)+100:=by
 rw[atoms_bulk,atoms_bulk]
 simp only[List.length_cons,List.map_cons,List.sum_cons]
 omega
set_option maxHeartbeats 8000000 in
set_option maxRecDepth 100000 in
theorem l08Any_any (b:Nat) (w:World) (hc:Cu w b):
  Calls Tryz.prog 143 #[.pointer (some ⟨b,0,none⟩)] w fun e w'=> ∃ (q:QueryD) (v:Value),e= .returned v∧(∀ w'',Ab w.heap.size w' w''→QueryRd w'' v q)∧q.bulk≤5000∧Cu w' b∧Span b (b+1) w w':=by
 obtain⟨i0,hi,hz0,hz1,hz2⟩:=info_parts info_Filter
 obtain⟨s0,hs,hs0,hs1,hs2⟩:=info_parts info_string
 have hbl:=hc.lt
 go_enter Tryz.func143,Tryz.ntmps143
 go_wp2_with fail
 refine(l01Below_any b 14 _ (hc.fr (by exact Qf)) (by omega)).mono ?_
 rintro e w1 ⟨k,hk,_,rfl,hc1,sp1⟩
 have hk:=hk (by omega)
 have z1:=sp1.size;(try simp only[World.size_alloc]at z1)
 have BR1:Box w1 w.heap.size #[.bool false,.slice none 0 0,.slice none 0 0,.slice none 0 0] 31:=Box.span (Box.new' rfl) sp1 (.inr (by omega))
 have hsp1:Span b (b+1) w w1:=((Span.refl b (b+1) w).alloc' _).trans sp1
 clear sp1
 go_wp2_with fail
 refine(l01Below_any b 60 _ hc1 (by omega)).mono ?_
 rintro e w2 ⟨n,hn,_,rfl,hc2,sp2⟩
 have hn:=hn (by omega)
 have z2:=sp2.size
 have BR2:=BR1.span sp2 (.inr (by omega))
 have hsp2:=hsp1.trans sp2
 clear sp2 BR1 hsp1 hc1
 go_wp2_with fail
 refine(l08Query_any b _ hc2).mono ?_
 rintro e w3 ⟨q,v,rfl,hq,hrd,hc3,sp3⟩
 have z3:=sp3.size
 have BR3:=BR2.span sp3 (.inr (by omega))
 have hsp3:=hsp2.trans sp3
 clear sp3 BR2 hsp2 hc2
 have hfew:=hq.few
 have hlen:q.f1.length≤1000∧q.f2.length≤1000∧q.f3.length≤1000:=by have h:=hfew;unfold QueryD.bulk strsBulk AtomsBulk FiltersBulk at h;omega
 go_wp2_with fail
 refine(l08Copy_any v q _ (hrd _ (Ab.refl _ _)) (by omega)).mono ?_
 rintro e w4 ⟨a1,c1,a2,c2,a3,c3,rfl,p1,p2,p3,hf4⟩
 have z4:=hf4.size
 have BR4:=BR3.fr hf4
 have hc4:=hc3.fr hf4
 have hsp4:Span b (b+1) w w4:=hsp3.trans (Span.of_fr hf4)
 have P1:=Lib.hid p1;have P2:=Lib.hid p2;have P3:=Lib.hid p3
 have HQ:=Lib.hid hq
 have HF:=Lib.hid hfew;have HL:=Lib.hid hlen
 clear p1 p2 p3 hf4 BR3 hc3 hsp3 hrd hq hfew hlen
 have BQ4:Box (w4.alloc (.cells #[.bool q.f0,.slice a1 q.f1.length c1,.slice a2 q.f2.length c2,.slice a3 q.f3.length c3] 31)) w4.heap.size #[.bool q.f0,.slice a1 q.f1.length c1,.slice a2 q.f2.length c2,.slice a3 q.f3.length c3] 31:=Box.new _ _ _
 have BR5:=BR4.alloc (.cells #[.bool q.f0,.slice a1 q.f1.length c1,.slice a2 q.f2.length c2,.slice a3 q.f3.length c3] 31)
 have FQ4:=BQ4.facts
 have FR5:=BR5.facts
 have hc5:Cu (w4.alloc (.cells #[.bool q.f0,.slice a1 q.f1.length c1,.slice a2 q.f2.length c2,.slice a3 q.f3.length c3] 31)) b:=hc4.fr (by exact Qf)
 have hsp5:Span b (b+1) w (w4.alloc (.cells #[.bool q.f0,.slice a1 q.f1.length c1,.slice a2 q.f2.length c2,.slice a3 q.f3.length c3] 31)):=hsp4.alloc' _
 have hlo:w.heap.size<w3.heap.size:=by omega
 have hne1:w4.heap.size≠w.heap.size:=by omega
 have hne2:w.heap.size≠w4.heap.size:=by omega
 have hcase:k=0∨k=1∨k=2∨k=3∨k=4∨k=5∨6≤k:=by omega
 rcases hcase with hk|hk|hk|hk|hk|hk|hk
 · subst hk
   have hm:n%3=0∨n%3=1∨n%3=2:=by omega
   have K0: ∀ (s:ByteArray) (B:Nat) (V:World),Fr w4 V→s.size≤10→Box V B #[.string s] 9→w4.heap.size≤B→ZRow V w3.heap.size 9 1 (.slice (some ⟨B,0,none⟩) 1 1) 1 ([s].map Value.string)∧QueryD.bulk ⟨q.f0,[s],q.f2,q.f3⟩≤5000:=by
    intro s B V hV hs hB hb
    refine⟨.inr ⟨by simp,.inr ⟨B,1, #[.string s],rfl,by omega,hB,Nat.le_refl _,by unfold maxLen;omega,by simp,by simp⟩⟩,?_⟩
    have h:=HF.out
    unfold QueryD.bulk at h ⊢
    rw[strs_bulk]
    simp
    omega
   rcases hm with hm|hm|hm
   · have hmi:(n:Int)%3=0:=by omega
     clear hm
     obtain⟨V,hV⟩: ∃ V,V=(((w4.alloc (.cells #[.bool q.f0,.slice (some ⟨w4.heap.size+1+1,0,none⟩) 1 1,.slice a2 q.f2.length c2,.slice a3 q.f3.length c3] 31)).alloc (.cells #[.string ⟨#[119]⟩,.string ⟨#[]⟩,.string ⟨#[120]⟩] 9)).alloc (.cells #[.string ⟨#[119]⟩] 9)):=⟨_,rfl⟩
     have hfV:Fr w4 V:=by rw[hV];repeat(first|(with_reducible exact Fr.refl _)|(with_reducible assumption)|(with_reducible refine Fr.drewN ?_ _)|(with_reducible refine Fr.drew ?_)|(with_reducible refine Fr.alloc ?_ _)|(with_reducible refine Fr.setCell ?_ (by exact Qz) _)|(with_reducible refine Fr.trans ?_ (by with_reducible assumption)))
     have hBV:Box V (w4.heap.size+1+1) #[.string ⟨#[119]⟩] 9:=by rw[hV];exact Box.new' (by simp)
     have FRV:=(BR4.fr hfV).facts
     rw[hV]at FRV
     obtain⟨v3,v6⟩:=K0 ⟨#[119]⟩ _ V hfV (by decide) hBV (by omega)
     go_wp2_with fail
     (refine bodyPost_ret (v:= .agg #[.bool q.f0,.slice (some ⟨w4.heap.size+1+1,0,none⟩) 1 1,.slice a2 q.f2.length c2,.slice a3 q.f3.length c3]) (by simp[results,Tryz.results143,go_sem, *]) rfl ?_)
     (try rw[← hV])
     exact l8_fin (q:=⟨q.f0,[⟨#[119]⟩],q.f2,q.f3⟩) _ _ _ _ hbl hlo (hc4.fr hfV) (hsp4.then_fr hfV) v3 (P2.out.fr hfV) (P3.out.fr hfV) v6
   · have hmi:(n:Int)%3=1:=by omega
     clear hm
     obtain⟨V,hV⟩: ∃ V,V=(((w4.alloc (.cells #[.bool q.f0,.slice (some ⟨w4.heap.size+1+1,0,none⟩) 1 1,.slice a2 q.f2.length c2,.slice a3 q.f3.length c3] 31)).alloc (.cells #[.string ⟨#[119]⟩,.string ⟨#[]⟩,.string ⟨#[120]⟩] 9)).alloc (.cells #[.string ⟨#[]⟩] 9)):=⟨_,rfl⟩
     have hfV:Fr w4 V:=by rw[hV];repeat(first|(with_reducible exact Fr.refl _)|(with_reducible assumption)|(with_reducible refine Fr.drewN ?_ _)|(with_reducible refine Fr.drew ?_)|(with_reducible refine Fr.alloc ?_ _)|(with_reducible refine Fr.setCell ?_ (by exact Qz) _)|(with_reducible refine Fr.trans ?_ (by with_reducible assumption)))
     have hBV:Box V (w4.heap.size+1+1) #[.string ⟨#[]⟩] 9:=by rw[hV];exact Box.new' (by simp)
     have FRV:=(BR4.fr hfV).facts
     rw[hV]at FRV
     obtain⟨v3,v6⟩:=K0 ⟨#[]⟩ _ V hfV (by decide) hBV (by omega)
     go_wp2_with fail
     (refine bodyPost_ret (v:= .agg #[.bool q.f0,.slice (some ⟨w4.heap.size+1+1,0,none⟩) 1 1,.slice a2 q.f2.length c2,.slice a3 q.f3.length c3]) (by simp[results,Tryz.results143,go_sem, *]) rfl ?_)
     (try rw[← hV])
     exact l8_fin (q:=⟨q.f0,[⟨#[]⟩],q.f2,q.f3⟩) _ _ _ _ hbl hlo (hc4.fr hfV) (hsp4.then_fr hfV) v3 (P2.out.fr hfV) (P3.out.fr hfV) v6
   · have hmi:(n:Int)%3=2:=by omega
     clear hm
     obtain⟨V,hV⟩: ∃ V,V=(((w4.alloc (.cells #[.bool q.f0,.slice (some ⟨w4.heap.size+1+1,0,none⟩) 1 1,.slice a2 q.f2.length c2,.slice a3 q.f3.length c3] 31)).alloc (.cells #[.string ⟨#[119]⟩,.string ⟨#[]⟩,.string ⟨#[120]⟩] 9)).alloc (.cells #[.string ⟨#[120]⟩] 9)):=⟨_,rfl⟩
     have hfV:Fr w4 V:=by rw[hV];repeat(first|(with_reducible exact Fr.refl _)|(with_reducible assumption)|(with_reducible refine Fr.drewN ?_ _)|(with_reducible refine Fr.drew ?_)|(with_reducible refine Fr.alloc ?_ _)|(with_reducible refine Fr.setCell ?_ (by exact Qz) _)|(with_reducible refine Fr.trans ?_ (by with_reducible assumption)))
     have hBV:Box V (w4.heap.size+1+1) #[.string ⟨#[120]⟩] 9:=by rw[hV];exact Box.new' (by simp)
     have FRV:=(BR4.fr hfV).facts
     rw[hV]at FRV
     obtain⟨v3,v6⟩:=K0 ⟨#[120]⟩ _ V hfV (by decide) hBV (by omega)
     go_wp2_with fail
     (refine bodyPost_ret (v:= .agg #[.bool q.f0,.slice (some ⟨w4.heap.size+1+1,0,none⟩) 1 1,.slice a2 q.f2.length c2,.slice a3 q.f3.length c3]) (by simp[results,Tryz.results143,go_sem, *]) rfl ?_)
     (try rw[← hV])
     exact l8_fin (q:=⟨q.f0,[⟨#[120]⟩],q.f2,q.f3⟩) _ _ _ _ hbl hlo (hc4.fr hfV) (hsp4.then_fr hfV) v3 (P2.out.fr hfV) (P3.out.fr hfV) v6
 · subst hk
   have hP2W:=(P2.out.fr (show Fr w4 (w4.alloc (.cells #[.bool q.f0,.slice a1 q.f1.length c1,.slice a2 q.f2.length c2,.slice a3 q.f3.length c3] 31)) by exact Qf)).own (by have:=HQ.out.n;omega)
   obtain⟨x0,xs,hxs⟩: ∃ x xs,q.f2=x::xs:=by
    cases h:q.f2 with
    |nil=>have:=HQ.out.n;rw[h]at this;simp at this
    |cons x xs=>exact⟨x,xs,rfl⟩
   obtain⟨g,hg,hg1,hg2⟩: ∃ g,a2=some ⟨g,0,none⟩∧w3.heap.size≤g∧g<w4.heap.size:=by
    have h:=P2.out.own (by have:=HQ.out.n;omega)
    rcases owns_shape h with⟨e,h0,_⟩|⟨g,cap,e,h1,h2,_⟩
    · have:=HQ.out.n;omega
    · cases e;exact⟨g,rfl,h1,h2⟩
   subst hg
   have HP2W:=Lib.hid hP2W
   have hlen2:0<q.f2.length:=by have:=HQ.out.n;omega
   have hlen2':(0:Int)<(q.f2.length:Int):=by omega
   have HXS:=Lib.hid hxs
   have hgne:g≠w4.heap.size:=by omega
   have hgne2:g≠w.heap.size:=by omega
   have K1: ∀ (s:ByteArray) (X:Array Value) (U V:World),s.size≤10→U=w4.setCell ⟨g,1,none⟩ (.string s)→Fr U V→ZRow V w3.heap.size 144 3 (.slice (some ⟨g,0,none⟩) q.f2.length c2) q.f2.length ((⟨x0.f0,s,x0.f2⟩::xs).flatMap AtomR.cells)∧ZRow V w3.heap.size 9 1 (.slice a1 q.f1.length c1) q.f1.length (q.f1.map Value.string)∧ZRow V w3.heap.size 187 4 (.slice a3 q.f3.length c3) q.f3.length (q.f3.flatMap FilterR.cells)∧Cu V b∧Span b (b+1) w V∧QueryD.bulk ⟨q.f0,q.f1,⟨x0.f0,s,x0.f2⟩::xs,q.f3⟩≤5000∧Box V w.heap.size #[.bool false,.slice none 0 0,.slice none 0 0,.slice none 0 0] 31:=by
    intro s X U V hs hU hV
    subst hU
    have P2O:=P2.out.own hlen2
    refine⟨ZRow.fr (.inr ?_) hV,ZRow.fr ?_ hV,ZRow.fr ?_ hV,(hc4.span (Span.set2 (b:=g)) (by omega)).fr hV,(hsp4.setn (by omega)).then_fr hV,?_,(BR4.far' (by omega) _).fr hV⟩
    · have h:=(P2O.stored 1 (.string s)).1
      rw[HXS.out]at h ⊢
      exact h
    · rcases P1.out with h|h
      · exact .inl h
      · exact .inr (owns_far h (p:=⟨g,1,none⟩) (fun e=>owns_apart h P2O (by decide) _ e rfl) _)
    · rcases P3.out with h|h
      · exact .inl h
      · exact .inr (owns_far h (p:=⟨g,1,none⟩) (fun e=>owns_apart h P2O (by decide) _ e rfl) _)
    · have h:=HF.out
      unfold QueryD.bulk at h ⊢
      rw[HXS.out]at h
      have:=atoms_bulk_set x0 ⟨x0.f0,s,x0.f2⟩ xs (by simp only[AtomR.bulk];omega)
      simp only[]at h ⊢
      omega
   obtain⟨cv,hcv⟩: ∃ u,(w4.alloc (.cells #[.bool q.f0,.slice a1 q.f1.length c1,.slice (some ⟨g,0,none⟩) q.f2.length c2,.slice a3 q.f3.length c3] 31)).cell? ⟨g,1,none⟩=some u:=owns_cell HP2W.out 1 (by omega)
   have hcf:=World.ownsRow.frozenAt HP2W.out 1
   clear hP2W hxs
   obtain⟨m,hm4,hmi,hmt⟩: ∃ m:Nat,m<4∧(n:Int)%4=(m:Int)∧(n:Int).tmod 4=(m:Int):=⟨n%4,by omega,by omega,by rw[Int.tmod_eq_emod_of_nonneg (by omega)];omega⟩
   obtain⟨s,hsz,hlit⟩: ∃ s:ByteArray,s.size≤10∧(#[.string ⟨#[]⟩,.string ⟨#[101]⟩,.string ⟨#[97,124]⟩,.string ⟨#[97]⟩]:Array Value)[m]? =some (.string s):=by
    match m,hm4 with
    |0,_=>exact⟨_,by decide,rfl⟩
    |1,_=>exact⟨_,by decide,rfl⟩
    |2,_=>exact⟨_,by decide,rfl⟩
    |3,_=>exact⟨_,by decide,rfl⟩
   have hm4':(m:Int)<4:=by omega
   obtain⟨V,hV⟩: ∃ V,V=(((w4.setCell ⟨g,1,none⟩ (.string s)).alloc (.cells #[.bool q.f0,.slice a1 q.f1.length c1,.slice (some ⟨g,0,none⟩) q.f2.length c2,.slice a3 q.f3.length c3] 31)).alloc (.cells #[.string ⟨#[]⟩,.string ⟨#[101]⟩,.string ⟨#[97,124]⟩,.string ⟨#[97]⟩] 9)).drew:=⟨_,rfl⟩
   obtain⟨k1,k2,k3,k4,k5,k6,k7⟩:=K1 s #[] _ V hsz rfl (by rw[hV];repeat(first|(with_reducible exact Fr.refl _)|(with_reducible assumption)|(with_reducible refine Fr.drewN ?_ _)|(with_reducible refine Fr.drew ?_)|(with_reducible refine Fr.alloc ?_ _)|(with_reducible refine Fr.setCell ?_ (by exact Qz) _)|(with_reducible refine Fr.trans ?_ (by with_reducible assumption))))
   have BQV:Box V w4.heap.size #[.bool q.f0,.slice a1 q.f1.length c1,.slice (some ⟨g,0,none⟩) q.f2.length c2,.slice a3 q.f3.length c3] 31:=by rw[hV];exact(Box.alloc (Box.new' (by simp)) _).drew
   have FQV:=BQV.facts
   have FRV:=k7.facts
   have FQ5:=(BQ4.alloc (.cells #[.string ⟨#[]⟩,.string ⟨#[101]⟩,.string ⟨#[97,124]⟩,.string ⟨#[97]⟩] 9)).facts
   have FR6:=(BR5.alloc (.cells #[.string ⟨#[]⟩,.string ⟨#[101]⟩,.string ⟨#[97,124]⟩,.string ⟨#[97]⟩] 9)).facts
   have hcv5:=((Fr.refl (w4.alloc (.cells #[.bool q.f0,.slice a1 q.f1.length c1,.slice (some ⟨g,0,none⟩) q.f2.length c2,.slice a3 q.f3.length c3] 31))).alloc (.cells #[.string ⟨#[]⟩,.string ⟨#[101]⟩,.string ⟨#[97,124]⟩,.string ⟨#[97]⟩] 9)).cell (p:=⟨g,1,none⟩) (by simp;omega) |>.trans hcv
   have hcf5:=((Fr.refl (w4.alloc (.cells #[.bool q.f0,.slice a1 q.f1.length c1,.slice (some ⟨g,0,none⟩) q.f2.length c2,.slice a3 q.f3.length c3] 31))).alloc (.cells #[.string ⟨#[]⟩,.string ⟨#[101]⟩,.string ⟨#[97,124]⟩,.string ⟨#[97]⟩] 9)).frozen (p:=⟨g,1,none⟩) (by simp;omega) |>.trans hcf
   have hl5:((w4.alloc (.cells #[.bool q.f0,.slice a1 q.f1.length c1,.slice (some ⟨g,0,none⟩) q.f2.length c2,.slice a3 q.f3.length c3] 31)).alloc (.cells #[.string ⟨#[]⟩,.string ⟨#[101]⟩,.string ⟨#[97,124]⟩,.string ⟨#[97]⟩] 9)).cell? ⟨w4.heap.size+1,m,none⟩=some (.string s):=((Box.new' (w:=(w4.alloc (.cells #[.bool q.f0,.slice a1 q.f1.length c1,.slice (some ⟨g,0,none⟩) q.f2.length c2,.slice a3 q.f3.length c3] 31))) (X:= #[.string ⟨#[]⟩,.string ⟨#[101]⟩,.string ⟨#[97,124]⟩,.string ⟨#[97]⟩]) (T:=9) (b:=w4.heap.size+1) (by simp)).cell m).trans hlit
   go_wp2_with fail
   go_region_law fail
   all_goals
    (try rw[← hV])
    clear hV FQ5 FR6 hcv5 hcf5 hl5 FQ4 FR5 hcv hcf
    go_wp2_with fail
    (refine bodyPost_ret (v:= .agg #[.bool q.f0,.slice a1 q.f1.length c1,.slice (some ⟨g,0,none⟩) q.f2.length c2,.slice a3 q.f3.length c3]) (by simp[results,Tryz.results143,go_sem, *]) rfl ?_)
    rw[show q.f2.length=((⟨x0.f0,s,x0.f2⟩:AtomR)::xs).length by rw[HXS.out];rfl]at k1 ⊢
    exact l8_fin (V:=V) (q:=⟨q.f0,q.f1,(⟨x0.f0,s,x0.f2⟩:AtomR)::xs,q.f3⟩) _ _ _ _ hbl hlo k4 k5 k2 k1 k3 k6
 · subst hk
   have hP2W:=(P2.out.fr (show Fr w4 (w4.alloc (.cells #[.bool q.f0,.slice a1 q.f1.length c1,.slice a2 q.f2.length c2,.slice a3 q.f3.length c3] 31)) by exact Qf)).own (by have:=HQ.out.n;omega)
   obtain⟨x0,xs,hxs⟩: ∃ x xs,q.f2=x::xs:=by
    cases h:q.f2 with
    |nil=>have:=HQ.out.n;rw[h]at this;simp at this
    |cons x xs=>exact⟨x,xs,rfl⟩
   obtain⟨g,hg,hg1,hg2⟩: ∃ g,a2=some ⟨g,0,none⟩∧w3.heap.size≤g∧g<w4.heap.size:=by
    have h:=P2.out.own (by have:=HQ.out.n;omega)
    rcases owns_shape h with⟨e,h0,_⟩|⟨g,cap,e,h1,h2,_⟩
    · have:=HQ.out.n;omega
    · cases e;exact⟨g,rfl,h1,h2⟩
   subst hg
   have HP2W:=Lib.hid hP2W
   have hlen2:0<q.f2.length:=by have:=HQ.out.n;omega
   have hlen2':(0:Int)<(q.f2.length:Int):=by omega
   have HXS:=Lib.hid hxs
   have hgne:g≠w4.heap.size:=by omega
   have hgne2:g≠w.heap.size:=by omega
   have K1: ∀ (s:ByteArray) (X:Array Value) (U V:World),s.size≤10→U=w4.setCell ⟨g,0,none⟩ (.string s)→Fr U V→ZRow V w3.heap.size 144 3 (.slice (some ⟨g,0,none⟩) q.f2.length c2) q.f2.length ((⟨s,x0.f1,x0.f2⟩::xs).flatMap AtomR.cells)∧ZRow V w3.heap.size 9 1 (.slice a1 q.f1.length c1) q.f1.length (q.f1.map Value.string)∧ZRow V w3.heap.size 187 4 (.slice a3 q.f3.length c3) q.f3.length (q.f3.flatMap FilterR.cells)∧Cu V b∧Span b (b+1) w V∧QueryD.bulk ⟨q.f0,q.f1,⟨s,x0.f1,x0.f2⟩::xs,q.f3⟩≤5000∧Box V w.heap.size #[.bool false,.slice none 0 0,.slice none 0 0,.slice none 0 0] 31:=by
    intro s X U V hs hU hV
    subst hU
    have P2O:=P2.out.own hlen2
    refine⟨ZRow.fr (.inr ?_) hV,ZRow.fr ?_ hV,ZRow.fr ?_ hV,(hc4.span (Span.set2 (b:=g)) (by omega)).fr hV,(hsp4.setn (by omega)).then_fr hV,?_,(BR4.far' (by omega) _).fr hV⟩
    · have h:=(P2O.stored 0 (.string s)).1
      rw[HXS.out]at h ⊢
      exact h
    · rcases P1.out with h|h
      · exact .inl h
      · exact .inr (owns_far h (p:=⟨g,0,none⟩) (fun e=>owns_apart h P2O (by decide) _ e rfl) _)
    · rcases P3.out with h|h
      · exact .inl h
      · exact .inr (owns_far h (p:=⟨g,0,none⟩) (fun e=>owns_apart h P2O (by decide) _ e rfl) _)
    · have h:=HF.out
      unfold QueryD.bulk at h ⊢
      rw[HXS.out]at h
      have:=atoms_bulk_set x0 ⟨s,x0.f1,x0.f2⟩ xs (by simp only[AtomR.bulk];omega)
      simp only[]at h ⊢
      omega
   obtain⟨cv,hcv⟩: ∃ u,(w4.alloc (.cells #[.bool q.f0,.slice a1 q.f1.length c1,.slice (some ⟨g,0,none⟩) q.f2.length c2,.slice a3 q.f3.length c3] 31)).cell? ⟨g,0,none⟩=some u:=owns_cell HP2W.out 0 (by omega)
   have hcf:=World.ownsRow.frozenAt HP2W.out 0
   clear hP2W hxs
   obtain⟨m,hm4,hmi,hmt⟩: ∃ m:Nat,m<4∧(n:Int)%4=(m:Int)∧(n:Int).tmod 4=(m:Int):=⟨n%4,by omega,by omega,by rw[Int.tmod_eq_emod_of_nonneg (by omega)];omega⟩
   obtain⟨s,hsz,hlit⟩: ∃ s:ByteArray,s.size≤10∧(#[.string ⟨#[]⟩,.string ⟨#[101,97,99,104]⟩,.string ⟨#[116,111,111,108,111,110,103]⟩,.string ⟨#[118]⟩]:Array Value)[m]? =some (.string s):=by
    match m,hm4 with
    |0,_=>exact⟨_,by decide,rfl⟩
    |1,_=>exact⟨_,by decide,rfl⟩
    |2,_=>exact⟨_,by decide,rfl⟩
    |3,_=>exact⟨_,by decide,rfl⟩
   have hm4':(m:Int)<4:=by omega
   obtain⟨V,hV⟩: ∃ V,V=(((w4.setCell ⟨g,0,none⟩ (.string s)).alloc (.cells #[.bool q.f0,.slice a1 q.f1.length c1,.slice (some ⟨g,0,none⟩) q.f2.length c2,.slice a3 q.f3.length c3] 31)).alloc (.cells #[.string ⟨#[]⟩,.string ⟨#[101,97,99,104]⟩,.string ⟨#[116,111,111,108,111,110,103]⟩,.string ⟨#[118]⟩] 9)).drew:=⟨_,rfl⟩
   obtain⟨k1,k2,k3,k4,k5,k6,k7⟩:=K1 s #[] _ V hsz rfl (by rw[hV];repeat(first|(with_reducible exact Fr.refl _)|(with_reducible assumption)|(with_reducible refine Fr.drewN ?_ _)|(with_reducible refine Fr.drew ?_)|(with_reducible refine Fr.alloc ?_ _)|(with_reducible refine Fr.setCell ?_ (by exact Qz) _)|(with_reducible refine Fr.trans ?_ (by with_reducible assumption))))
   have BQV:Box V w4.heap.size #[.bool q.f0,.slice a1 q.f1.length c1,.slice (some ⟨g,0,none⟩) q.f2.length c2,.slice a3 q.f3.length c3] 31:=by rw[hV];exact(Box.alloc (Box.new' (by simp)) _).drew
   have FQV:=BQV.facts
   have FRV:=k7.facts
   have FQ5:=(BQ4.alloc (.cells #[.string ⟨#[]⟩,.string ⟨#[101,97,99,104]⟩,.string ⟨#[116,111,111,108,111,110,103]⟩,.string ⟨#[118]⟩] 9)).facts
   have FR6:=(BR5.alloc (.cells #[.string ⟨#[]⟩,.string ⟨#[101,97,99,104]⟩,.string ⟨#[116,111,111,108,111,110,103]⟩,.string ⟨#[118]⟩] 9)).facts
   have hcv5:=((Fr.refl (w4.alloc (.cells #[.bool q.f0,.slice a1 q.f1.length c1,.slice (some ⟨g,0,none⟩) q.f2.length c2,.slice a3 q.f3.length c3] 31))).alloc (.cells #[.string ⟨#[]⟩,.string ⟨#[101,97,99,104]⟩,.string ⟨#[116,111,111,108,111,110,103]⟩,.string ⟨#[118]⟩] 9)).cell (p:=⟨g,0,none⟩) (by simp;omega) |>.trans hcv
   have hcf5:=((Fr.refl (w4.alloc (.cells #[.bool q.f0,.slice a1 q.f1.length c1,.slice (some ⟨g,0,none⟩) q.f2.length c2,.slice a3 q.f3.length c3] 31))).alloc (.cells #[.string ⟨#[]⟩,.string ⟨#[101,97,99,104]⟩,.string ⟨#[116,111,111,108,111,110,103]⟩,.string ⟨#[118]⟩] 9)).frozen (p:=⟨g,0,none⟩) (by simp;omega) |>.trans hcf
   have hl5:((w4.alloc (.cells #[.bool q.f0,.slice a1 q.f1.length c1,.slice (some ⟨g,0,none⟩) q.f2.length c2,.slice a3 q.f3.length c3] 31)).alloc (.cells #[.string ⟨#[]⟩,.string ⟨#[101,97,99,104]⟩,.string ⟨#[116,111,111,108,111,110,103]⟩,.string ⟨#[118]⟩] 9)).cell? ⟨w4.heap.size+1,m,none⟩=some (.string s):=((Box.new' (w:=(w4.alloc (.cells #[.bool q.f0,.slice a1 q.f1.length c1,.slice (some ⟨g,0,none⟩) q.f2.length c2,.slice a3 q.f3.length c3] 31))) (X:= #[.string ⟨#[]⟩,.string ⟨#[101,97,99,104]⟩,.string ⟨#[116,111,111,108,111,110,103]⟩,.string ⟨#[118]⟩]) (T:=9) (b:=w4.heap.size+1) (by simp)).cell m).trans hlit
   go_wp2_with fail
   go_region_law fail
   all_goals
    (try rw[← hV])
    clear hV FQ5 FR6 hcv5 hcf5 hl5 FQ4 FR5 hcv hcf
    go_wp2_with fail
    (refine bodyPost_ret (v:= .agg #[.bool q.f0,.slice a1 q.f1.length c1,.slice (some ⟨g,0,none⟩) q.f2.length c2,.slice a3 q.f3.length c3]) (by simp[results,Tryz.results143,go_sem, *]) rfl ?_)
    rw[show q.f2.length=((⟨s,x0.f1,x0.f2⟩:AtomR)::xs).length by rw[HXS.out];rfl]at k1 ⊢
    exact l8_fin (V:=V) (q:=⟨q.f0,q.f1,(⟨s,x0.f1,x0.f2⟩:AtomR)::xs,q.f3⟩) _ _ _ _ hbl hlo k4 k5 k2 k1 k3 k6
 · subst hk
   have BQW:=BQ4.alloc (.cells #[.string ⟨#[120]⟩,.int .i64 ((n:Int)%4),.string ⟨#[]⟩,.int .i64 ((n:Int)*2-10)] 187)
   have BRW:=BR5.alloc (.cells #[.string ⟨#[120]⟩,.int .i64 ((n:Int)%4),.string ⟨#[]⟩,.int .i64 ((n:Int)*2-10)] 187)
   clear FR5
   have P3W:=P3.out.fr (show Fr w4 (w4.alloc (.cells #[.bool q.f0,.slice a1 q.f1.length c1,.slice a2 q.f2.length c2,.slice a3 q.f3.length c3] 31)) by exact Qf)
   have HP3W:=Lib.hid P3W
   have hl3:q.f3.length≤1000:=HL.out.2.2
   have hm1:IntKind.i64.wrap ((n:Int)*2)=(n:Int)*2:=IntWalk.i64_in _ (by omega)
   have hm2:IntKind.i64.wrap ((n:Int)*2-10)=(n:Int)*2-10:=IntWalk.i64_in _ (by omega)
   clear P3W
   go_wp2_with(at_builtin;refine wpList_append_zr rfl _ _ 29 rfl w3.heap.size 187 i0 (.agg #[.string ⟨#[]⟩,.int .i64 0,.string ⟨#[]⟩,.int .i64 0]) 4 48 Tryz.underlying29 hi hz0 hz1 hz2 rfl (by decide) (.slice a3 q.f3.length c3) q.f3.length (q.f3.flatMap FilterR.cells) rfl (by have:=flat_len q.f3 FilterR.cells 4 FilterR.cells_length q.f3.length (Nat.le_refl _);rwa [List.take_length]at this) (HP3W.out.fr (by exact Qf)) _ 1 [.string ⟨#[120]⟩,.int .i64 ((n:Int)%4),.string ⟨#[]⟩,.int .i64 ((n:Int)*2-10)] rfl (RdS.new (by first|rfl|(simp;done)) rfl) (by simp[Value.oneCell']) (by unfold maxLen;omega) (by omega) (by exact Qz) (by decide) ?_;intro a5 c5 w5 hown hgr hat;have BQ5:Box w5 w4.heap.size _ _:=gr_box hgr BQW (by decide);have BR5:Box w5 w.heap.size _ _:=gr_box hgr BRW (by decide);have F5:=BQ5.facts;have G5:=(BR5.far' (q:=w4.heap.size) (i:=3) (by omega) (.slice a5 (q.f3.length+1) c5)).facts;have H5:=(BQ5.set 3 (.slice a5 (q.f3.length+1) c5)).facts)
   (refine bodyPost_ret (v:= .agg #[.bool q.f0,.slice a1 q.f1.length c1,.slice a2 q.f2.length c2,.slice a5 (q.f3.length+1) c5]) (by simp[results,Tryz.results143,go_sem, *]) rfl ?_)
   obtain⟨hc6,hs6⟩:=gr_cu (w:=w) hgr (hc5.fr (by exact Qf)) (hsp5.alloc' _) (by omega) (by omega)
   rw[show q.f3.length+1=(q.f3++[(⟨⟨#[120]⟩,(n:Int)%4,⟨#[]⟩,(n:Int)*2-10⟩:FilterR)]).length by simp]at hown ⊢
   refine l8_fin (V:=w5.setCell ⟨w4.heap.size,3,none⟩ (.slice a5 (q.f3++[(⟨⟨#[120]⟩,(n:Int)%4,⟨#[]⟩,(n:Int)*2-10⟩:FilterR)]).length c5)) (q:=⟨q.f0,q.f1,q.f2,q.f3++[⟨⟨#[120]⟩,(n:Int)%4,⟨#[]⟩,(n:Int)*2-10⟩]⟩) _ _ _ _ hbl hlo (hc6.span (Span.set2 (b:=w4.heap.size)) (by omega)) (hs6.setn (by omega)) (((P1.out.fr (by exact Qf)).gr hgr (by decide)).setb BQ5 (by decide) _) (((P2.out.fr (by exact Qf)).gr hgr (by decide)).setb BQ5 (by decide) _) (by rw[List.flatMap_append];exact ZRow.setb (.inr hown) BQ5 (by decide) _) ?_
   have h:=HF.out
   unfold QueryD.bulk at h ⊢
   simp only[filters_bulk,List.length_append,List.map_append,List.sum_append,List.map_cons,List.map_nil,List.sum_cons,List.sum_nil,List.length_cons,List.length_nil,FilterR.bulk]at h ⊢
   have e1:(⟨#[120]⟩:ByteArray).size=1:=rfl
   have e2:(⟨#[]⟩:ByteArray).size=0:=rfl
   omega
 · subst hk
   have FRV:=(BR4.alloc (.cells #[.bool q.f0,.slice a1 q.f1.length c1,.slice a2 0 c2,.slice a3 q.f3.length c3] 31)).facts
   go_wp2_with fail
   (refine bodyPost_ret (v:= .agg #[.bool q.f0,.slice a1 q.f1.length c1,.slice a2 0 c2,.slice a3 q.f3.length c3]) (by simp[results,Tryz.results143,go_sem, *]) rfl ?_)
   have hfV:Fr w4 (w4.alloc (.cells #[.bool q.f0,.slice a1 q.f1.length c1,.slice a2 0 c2,.slice a3 q.f3.length c3] 31)):=by exact Qf
   refine l8_fin (q:=⟨q.f0,q.f1,[],q.f3⟩) _ _ _ _ hbl hlo (hc4.fr hfV) (hsp4.then_fr hfV) (P1.out.fr hfV) ?_ (P3.out.fr hfV) ?_
   · have h:=(P2.out.fr hfV).own (by have:=HQ.out.n;omega)
     rcases h.2 with⟨h',h0⟩|⟨g,cap,cur,h',h1,h2,h3,h4,h5,_⟩
     · have:=HQ.out.n;omega
     · cases h'
       exact .inr ⟨by simp,.inr ⟨g,_,cur,rfl,h1,h2,Nat.zero_le _,h4,h5,by simp⟩⟩
   · have h:=HF.out
     unfold QueryD.bulk at h ⊢
     simp only[atoms_bulk,List.length_nil,List.map_nil,List.sum_nil]
     omega
 · subst hk
   have BQW:=BQ4
   have BRW:=BR5
   clear FQ4 FR5
   have FQ4:=BQ4.facts
   have P1W:=(P1.out.fr (show Fr w4 (w4.alloc (.cells #[.bool q.f0,.slice a1 q.f1.length c1,.slice a2 q.f2.length c2,.slice a3 q.f3.length c3] 31)) by exact Qf)).own (by have:=qry_out1 HQ.out.ok;omega)
   have HP1W:=Lib.hid P1W
   have hl1:q.f1.length≤1000:=HL.out.1
   clear P1W
   go_wp2_with(at_builtin;refine wpList_append_zr rfl _ _ 27 rfl w3.heap.size 9 s0 (.string ⟨#[]⟩) 1 16 Tryz.underlying27 hs hs0 hs1 hs2 rfl (by decide) (.slice a1 q.f1.length c1) q.f1.length (q.f1.map Value.string) rfl (by simp) (.inr HP1W.out) _ q.f1.length (q.f1.map Value.string) rfl (RdS.of_owns HP1W.out) (fun u hu=>by obtain⟨x,_,rfl⟩:=List.mem_map.1 hu;rfl) (by unfold maxLen;omega) (by omega) (by exact Qz) (by have:=qry_out1 HQ.out.ok;omega) ?_;intro a5 c5 w5 hown hgr hat;have BQ5:Box w5 w4.heap.size _ _:=gr_box hgr BQW (by decide);have BR5:Box w5 w.heap.size _ _:=gr_box hgr BRW (by decide);have F5:=BQ5.facts;have G5:=(BR5.far' (q:=w4.heap.size) (i:=1) (by omega) (.slice a5 (q.f1.length+q.f1.length) c5)).facts;have H5:=(BQ5.set 1 (.slice a5 (q.f1.length+q.f1.length) c5)).facts)
   (refine bodyPost_ret (v:= .agg #[.bool q.f0,.slice a5 (q.f1.length+q.f1.length) c5,.slice a2 q.f2.length c2,.slice a3 q.f3.length c3]) (by simp[results,Tryz.results143,go_sem, *]) rfl ?_)
   obtain⟨hc6,hs6⟩:=gr_cu (w:=w) hgr hc5 hsp5 (by omega) (by omega)
   rw[show q.f1.length+q.f1.length=(q.f1++q.f1).length by simp]at hown ⊢
   refine l8_fin (V:=w5.setCell ⟨w4.heap.size,1,none⟩ (.slice a5 (q.f1++q.f1).length c5)) (q:=⟨q.f0,q.f1++q.f1,q.f2,q.f3⟩) _ _ _ _ hbl hlo (hc6.span (Span.set2 (b:=w4.heap.size)) (by omega)) (hs6.setn (by omega)) (by rw[List.map_append];exact ZRow.setb (.inr hown) BQ5 (by decide) _) (((P2.out.fr (by exact Qf)).gr hgr (by decide)).setb BQ5 (by decide) _) (((P3.out.fr (by exact Qf)).gr hgr (by decide)).setb BQ5 (by decide) _) ?_
   have h:=HF.out
   unfold QueryD.bulk at h ⊢
   simp only[strs_bulk,List.length_append,List.map_append,List.sum_append]at h ⊢
   omega
 · have e0: ¬ (k:Int)=0:=by omega
   have e1: ¬ (k:Int)=1:=by omega
   have e2: ¬ (k:Int)=2:=by omega
   have e3: ¬ (k:Int)=3:=by omega
   have e4: ¬ (k:Int)=4:=by omega
   have e5: ¬ (k:Int)=5:=by omega
   go_wp2_with fail
   (refine bodyPost_ret (v:= .agg #[.bool q.f0,.slice a1 q.f1.length c1,.slice a2 q.f2.length c2,.slice a3 q.f3.length c3]) (by simp[results,Tryz.results143,go_sem, *]) rfl ?_)
   exact l8_fin _ _ _ _ hbl hlo hc5 hsp5 (P1.out.fr (by exact Qf)) (P2.out.fr (by exact Qf)) (P3.out.fr (by exact Qf)) (by have:=HF.out;omega)
end Go.Proofs.YtjnahjgncmcmdaaGreat
