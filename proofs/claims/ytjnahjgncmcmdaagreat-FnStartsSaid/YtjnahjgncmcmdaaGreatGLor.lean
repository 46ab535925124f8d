/- Texts in one: Sra, Lok, Lor. -/
import Derived.Test.YtjnahjgncmcmdaaGreatGShg
import Derived.Test.YtjnahjgncmcmdaaGreatGLol
import Derived.Deep.RegionLaw
namespace Go.Proofs.YtjnahjgncmcmdaaGreat
open Go.RowKit Go.Shelf Go.Sort
set_option linter.unusedVariables false
set_option linter.unusedSimpArgs false
def arc3 (x:EdgeR):List Int:=[x.f0,(x.f1.toNat:Int),x.f2]
def arcCm (x y:EdgeR):Int:=cmpL (arc3 x) (arc3 y)
theorem arcCm_lt (x y:EdgeR):ltOf arcCm x y=edgeLt x y:=by
 unfold ltOf arcCm arc3
 rw[Bool.eq_iff_iff,decide_eq_true_eq,edgeLt_iff]
 simp only[cmpL]
 constructor
 · intro h
   repeat' split at h
   all_goals first|omega|(left;omega)|(right;refine⟨by omega,?_⟩;first|(left;omega)|(right;exact⟨UInt8.toNat_inj.1 (by omega),by omega⟩))
 · rintro(h|⟨h0,h|⟨h1,h⟩⟩)
   · repeat' split
     all_goals omega
   · repeat' split
     all_goals omega
   · rw[h1]
     repeat' split
     all_goals omega
theorem arcSWO:SWO (ltOf arcCm) where
 irrefl x:=by rw[arcCm_lt];exact edgeLt_irr x
 trans x y z h1 h2:=by rw[arcCm_lt]at *; exact edgeLt_trans h1 h2
 ntrans x y z h1 h2:=by
  rw[arcCm_lt]at*
  cases h:edgeLt x z
  · rfl
  · rcases edgeLt_tri x y with k|k|k
    · rw[k]at h1;cases h1
    · subst k;rw[h]at h2;cases h2
    · have:=edgeLt_trans k h;rw[this]at h2;cases h2
theorem ints3 {w:World} {b:Nat} {x y z:Int} {T:TypeId} (h:Box w b #[.int .i64 x,.int .i64 y,.int .i64 z] T):IntsR w (.slice (some ⟨b,0,none⟩) 3 3) [x,y,z]:=by
 refine⟨rfl,_,_,rfl,Nat.le_refl _,by unfold maxLen;omega,fun _=>⟨b,0,rfl,h.lt,fun j hj=>?_⟩⟩
 rw[Nat.zero_add,h.cell]
 match j,hj with
 |0,_=>rfl
 |1,_=>rfl
 |2,_=>rfl
theorem compareArcs_any (x y:EdgeR) (W:World):
  Calls Tryz.prog 225 #[.agg #[.int .i64 x.f0,.int .u8 (x.f1.toNat:Int),.int .i64 x.f2],.agg #[.int .i64 y.f0,.int .u8 (y.f1.toNat:Int),.int .i64 y.f2]] W fun e w'=>e= .returned (.int .i64 (arcCm x y))∧ ∃ q os',w'=grow (W.drewN q) os':=by
 have hl:=x.f1.toNat_lt
 have hm:=y.f1.toNat_lt
 obtain⟨p,hp⟩: ∃ p,arcCm x y=p:=⟨_,rfl⟩
 have HP:=Lib.hid hp
 rw[hp]
 clear hp
 go_enter Tryz.func225,Tryz.ntmps225
 go_wp2_with fail
 refine(slicesCompare_any _ _ (arc3 x) (arc3 y) _ (ints3 (Box.alloc (Box.new' (by simp)) _)) (ints3 (Box.new' (by simp)))).mono ?_
 rintro e w1 ⟨rfl,rfl⟩
 go_wp2_with fail
 go_ret
 exact⟨ret_int HP.out,0,_,by rw[alloc_eq_grow,alloc_eq_grow,alloc_eq_grow,alloc_eq_grow,grow_grow,grow_grow,grow_grow];rfl⟩
theorem flat_get (ys:List EdgeR) {t:Nat} (ht:t<ys.length*3):(ys.flatMap EdgeR.cells)[t]? =some ((edgeAt ys (t/3)).cells[t%3]!):=by
 have hl:(ys.flatMap EdgeR.cells).length=ys.length*3:=by
  have:=flat_len ys EdgeR.cells 3 EdgeR.cells_length ys.length (Nat.le_refl _)
  rwa [List.take_length]at this
 have h:=edge_flat ys (t/3) (t%3) (by omega) (by omega) undef
 rw[show t/3*3+t%3=t by omega]at h
 rw[List.getD_eq_getElem?_getD,List.getElem?_eq_getElem (by omega)]at h
 rw[List.getElem?_eq_getElem (by omega)]
 simp only[Option.getD_some]at h
 rw[h]
 have h3:t%3<(edgeAt ys (t/3)).cells.length:=by rw[EdgeR.cells_length];omega
 rw[List.getD_eq_getElem?_getD,List.getElem?_eq_getElem h3,getElem!_pos (edgeAt ys (t/3)).cells (t%3) h3]
 rfl
theorem arr_edge (ys:List EdgeR) (k:Nat):(ys.toArray)[k]! =edgeAt ys k:=by
 unfold edgeAt
 rw[List.getD_eq_getElem?_getD]
 simp[getElem!_def]
 cases ys[k]? <;>rfl
theorem holds_arcs {w:World} {lo B cap:Nat} {xs:List EdgeR} (h:w.ownsRow lo 195 3 (.slice (some ⟨B,0,none⟩) xs.length cap) xs.length (xs.flatMap EdgeR.cells)):HoldsK EdgeR.cells 3 w B 0 xs.toArray:=by
 intro j hj
 rw[size_flatK]at hj
 simp only[List.size_toArray]at hj
 rw[Nat.zero_add,get_flatK _ _ _ _ (by simpa using hj),arr_edge]
 exact⟨(h.cellAt j hj).trans (flat_get xs hj),h.frozenAt j⟩
theorem owns_sortW {w:World} {lo B cap m:Nat} {xs ys:List EdgeR} {os:Array Obj} (h:w.ownsRow lo 195 3 (.slice (some ⟨B,0,none⟩) xs.length cap) xs.length (xs.flatMap EdgeR.cells)) (hl:ys.length=xs.length):
  (sortWorldK EdgeR.cells 3 w B 0 m ys.toArray os).ownsRow lo 195 3 (.slice (some ⟨B,0,none⟩) xs.length cap) xs.length (ys.flatMap EdgeR.cells)∧w.grownBy (sortWorldK EdgeR.cells 3 w B 0 m ys.toArray os) (some B):=by
 obtain⟨h1,⟨h2,_⟩|⟨g,cp,cur,hv,hg,hh,hn,hc,hs,ht⟩⟩:=h
 · cases h2
 · cases hv
   have hB:B<w.heap.size:=(Array.getElem?_eq_some_iff.1 hh).1
   have hfl:(ys.flatMap EdgeR.cells).length=ys.length*3:=by
    have:=flat_len ys EdgeR.cells 3 EdgeR.cells_length ys.length (Nat.le_refl _)
    rwa [List.take_length]at this
   have hsz:(flatK EdgeR.cells 3 ys.toArray).size=ys.length*3:=by simp
   refine⟨⟨by rw[hfl,hl],.inr ⟨B,cap,putCells id 0 (flatK EdgeR.cells 3 ys.toArray) cur,rfl,hg,?_,hn,hc,by simp[putCells,hs],?_⟩⟩,⟨rfl,rfl,rfl,by simp[sortWorldK,grow,putRowK,putRow,mapBlock,ahead],?_⟩⟩
   · simp only[sortWorldK,grow,putRowK,putRow,mapBlock,show(Sort.ahead w m).heap=w.heap from rfl]
     rw[Array.getElem?_append_left (by simpa using hB),Array.getElem?_modify,if_pos rfl,hh]
     rfl
   · refine List.ext_getElem? fun t=>?_
     rw[List.getElem?_take]
     by_cases htl:t<xs.length*3
     · rw[if_pos htl,flat_get ys (by omega)]
       have hc2:xs.length*3≤cap*3:=Nat.mul_le_mul_right _ hn
       have htc:t<cur.size:=by omega
       unfold putCells
       rw[Array.getElem?_toList,Array.getElem?_mapIdx,Array.getElem?_eq_getElem htc]
       simp only[Option.map_some,id_eq,Nat.sub_zero]
       rw[if_pos ⟨Nat.zero_le _,by rw[hsz];omega⟩,get_flatK _ _ _ _ (by simpa using (show t<ys.length*3 by omega)),arr_edge]
     · rw[if_neg htl,List.getElem?_eq_none (by rw[hfl];omega)]
   · intro k hk hkb
     simp only[sortWorldK,grow,putRowK,putRow,mapBlock,show(Sort.ahead w m).heap=w.heap from rfl]
     rw[Array.getElem?_append_left (by simpa using hk),Array.getElem?_modify,if_neg (fun e=>hkb (by rw[e]))]
theorem sortArcs_any (lo B cap:Nat) (xs:List EdgeR) (w:World) (h:w.ownsRow lo 195 3 (.slice (some ⟨B,0,none⟩) xs.length cap) xs.length (xs.flatMap EdgeR.cells)) (hn:xs.length≤1000000) (hd:xs.Nodup):
  Calls Tryz.prog 224 #[.slice (some ⟨B,0,none⟩) xs.length cap,.func (.func 225) #[] #[]] w fun e w'=>e= .returned (.tuple #[])∧ ∃ ys:List EdgeR,Srt ys∧(∀ x,x∈ys↔x∈xs)∧ys.length=xs.length∧w'.ownsRow lo 195 3 (.slice (some ⟨B,0,none⟩) xs.length cap) xs.length (ys.flatMap EdgeR.cells)∧w.grownBy w' (some B):=by
 have hB:B<w.heap.size:=owns_old h B rfl
 have eg: ∀ args w,(callFunc 225 args).run Tryz.prog w= .ok (.enter 225 args) w:=enters_of Tryz.func225 (by kernel_rfl) rfl
 have hcon:=AnyQ.slices_SortFunc sh_sortArc 3 Tryz.isAgg195 Tryz.sizeOf195 EdgeR.cells EdgeR.cells_length (fun x v hv=>by simp[EdgeR.cells]at hv;rcases hv with rfl|rfl|rfl<;>rfl) arcCm arcSWO 225 #[] B 0 cap xs.toArray w eg (fun _ _ _ _ x y=>compareArcs_any x y _) (holds_arcs h) hB (by simp;omega)
 refine hcon.mono fun e w' ⟨he,d',m,os,hp,hs,hw⟩=>⟨he,d'.toList,?_⟩
 have hsz:d'.size=xs.length:=by simpa using hp.1
 have hperm:d'.toList.Perm xs:=by
  have:=hp.2.2
  simp only[Array.toList_extract,List.extract_eq_take_drop,List.drop_zero,Nat.sub_zero,List.size_toArray,Nat.zero_add]at this
  rw[List.take_of_length_le (l:=d'.toList) (by simp[hsz]),List.take_of_length_le (l:=xs) (by omega)]at this
  exact this
 have hnd:d'.toList.Nodup:=hperm.nodup_iff.2 hd
 have ho:=owns_sortW (m:=m) (os:=os) (ys:=d'.toList) h (by simpa using hsz)
 refine⟨?_,fun x=>hperm.mem_iff,by simpa using hsz,?_,?_⟩
 · refine List.pairwise_iff_getElem.2 fun i j hi hj hij=>?_
   have hl:=hs i j (Nat.zero_le _) hij (by simpa [hsz]using hj)
   rw[arcCm_lt]at hl
   have hi':i<d'.size:=by simpa using hi
   have hj':j<d'.size:=by simpa using hj
   rw[getElem!_pos d' j hj',getElem!_pos d' i hi']at hl
   have hne:d'.toList[i]≠d'.toList[j]:=fun e=>by
    have:=(List.getElem_inj hnd).1 e
    omega
   simp only[Array.getElem_toList]at hne ⊢
   rcases edgeLt_tri d'[i] d'[j]with k|k|k
   · exact k
   · exact absurd k hne
   · rw[k]at hl;cases hl
 · rw[hw];simpa using ho.1
 · rw[hw];simpa using ho.2
theorem row1_own (W:World) (lo n:Nat) (k:Int) (hn:n=W.heap.size) (hl:lo≤n):IntsO (W.alloc (.cells #[.int .i64 k] 3)) lo (.slice (some ⟨n,0,none⟩) 1 1) [k]:=by
 subst hn
 exact⟨by simp,.inr ⟨W.heap.size,1, #[.int .i64 k],rfl,hl,heap_alloc_new W _,by simp,by unfold maxLen;omega,by simp,by simp⟩⟩
set_option maxHeartbeats 8000000 in
set_option maxRecDepth 100000 in
theorem lok_step {ps:List PieceD} (hp:pathB ps=true) {w0:World} {pv:Value} (hv:PiecesR w0 pv ps) (f b p:Nat) (s:StD) (xs:List EdgeR) (lv av:Value) (w:World) (hf0:Fr w0 w) (h:MakSt w b w0.heap.size pv lv av false s.labs xs) (ha:ArcS s xs) (hok:StOk s) (hl:p<ps.length) (hn:s.labs.length≤22) (h1:(nAt ps p).f0=1):
  Calls Tryz.prog 190 #[.pointer (some ⟨b,0,none⟩),.int .i64 (p:Int)] w fun e w'=>LokQ b w0.heap.size pv lv av 1 (glu ps (f+1) p s) w e w':=by
 have hx:=(pathB_out hp).2 p hl
 have hps:=(pathB_out hp).1
 have hx2:=pieceB_step hx h1
 obtain⟨bq,oq,cq,a,ba,oa,ca,rfl,hcq,hcm,hbq,c0,c1,c2,hca,hcam,HK⟩:=piece_cells hv hf0 hl
 have HG:Hid (glu ps (f+1) p s=(⟨s.labs++[(nAt ps p).f1],s.fol⟩,⟨oneB s.labs.length,oneB s.labs.length,false⟩)):=Lib.hid (by rw[glu];simp only[];rw[if_pos h1])
 rw[HG.out]
 obtain⟨x,hxx⟩: ∃ x,nAt ps p=x:=⟨_,rfl⟩
 rw[hxx]at h1 hx2 c0 c1 c2 hca HK ⊢
 clear hxx hx HG
 obtain⟨x0,x1,x2⟩:=x
 simp only[]at h1 hx2 c0 c1 c2 hca HK ⊢
 subst h1 hx2
 have hxl:=x1.toNat_lt
 have HAM:=Lib.hid (ha.more hok x1)
 obtain⟨al,cl,rfl⟩: ∃ al cl,lv= .slice al s.labs.length cl:=owns_val h.labs
 obtain⟨af,cf,rfl⟩: ∃ al cl,av= .slice al xs.length cl:=owns_val h.arcs
 have HP:=Lib.hid h
 have zb:=h.box.lt
 have hb1:b≠w.heap.size:=by omega
 have hb2:b≠w.heap.size+1:=by omega
 have hb3:w.heap.size≠b:=by omega
 have hb4:b≠w.heap.size+1+1:=by omega
 have hb5:b<w.heap.size+1:=by omega
 have hb6:b<w.heap.size+1+1:=by omega
 have hb7:b≠w.heap.size+1+1+1:=by omega
 have hb8:b<w.heap.size+1+1+1:=by omega
 have zf0:=hf0.size
 have hbqw:bq<w.heap.size:=by omega
 have F:=h.box.facts
 have HLB:Hid (w.ownsRow w0.heap.size 5 1 (.slice al s.labs.length cl) s.labs.length ((nums s.labs).map (Value.int .u8))):=Lib.hid h.labs
 have HR0:Hid (Box (w.alloc (.cells #[.slice none 0 0,.slice none 0 0,.bool false] 237)) w.heap.size #[.slice none 0 0,.slice none 0 0,.bool false] 237):=Lib.hid (Box.new _ _ _)
 clear h hok ha
 obtain⟨i0,hi,hz0,hz1,hz2⟩:=info_parts info_u8
 go_enter Tryz.func190,Tryz.ntmps190
 go_wp2_with fail
 go_region_law((refine step_append_rd (by rfl) _ _ 22 (by rfl) w0.heap.size 5 i0 (.int .u8 0) 1 1 Tryz.underlying22 hi hz0 hz1 hz2 rfl (by decide) (.slice al s.labs.length cl) s.labs.length ((nums s.labs).map (Value.int .u8)) (by rfl) (by exact owns_lo (owns_ab HLB.out (by exact Qa)) (by exact Qz)) _ 1 [.int .u8 (x1.toNat:Int)] (by rfl) (RdS.drew (RdS.new (by first|rfl|(simp;done)) rfl)) (by simp[Value.oneCell']) (by unfold maxLen;omega) (by omega) (by exact Qz) ?_;intro ay cy w9 hown hgrow hat;have hB9:Box w9 b _ _:=Box.gr (Box.fr HP.out.box (by exact Qf)) hgrow (fun e=>HP.out.nl e);have hR9:Box w9 w.heap.size _ _:=Box.gr (Box.fr HR0.out (by exact Qf)) hgrow (fun e=>by have:=owns_old HLB.out _ e;omega);have T9:Hid (Tch (LB b (.slice al s.labs.length cl)) w w9):=Lib.hid (Tch.trans (Tch.of_fr (by exact Qf)) (Tch.of_gr hgrow (fun i e=> .inr e)));have m1:=Mvd.of_app (n:=w.heap.size+1+1) hat (by exact Qz);have M1:=Lib.hid m1;have F9:=hB9.facts;have G9:=hR9.facts;have z9:=hgrow.size;(try simp only[World.size_alloc,World.size_drew]at z9)))
 all_goals
  have hbz9:b<w9.heap.size:=hB9.lt
  have hyb:(Value.slice ay (s.labs.length+1) cy).ownBlock≠some b:=M1.out.ne HP.out.nl (by omega)
  have hya:Apart (Value.slice ay (s.labs.length+1) cy) (Value.slice af xs.length cf):=M1.out.apart HP.out.ap (fun g e=>by have:=owns_old HP.out.arcs g e;omega)
  have hyr:(Value.slice ay (s.labs.length+1) cy).ownBlock≠some w.heap.size:=M1.out.ne (fun e=>by have:=owns_old HLB.out _ e;omega) (by omega)
  have HA9:Hid (w9.ownsRow w0.heap.size 195 3 (.slice af xs.length cf) xs.length (xs.flatMap EdgeR.cells)):=Lib.hid (World.ownsRow.kept (owns_fr HP.out.arcs (by exact Qf)) hgrow (Apart.ne (Apart.symm' HP.out.ap)))
  have HY9:Hid (BytesO w9 w0.heap.size (.slice ay (s.labs++[x1]).length cy) (s.labs++[x1])):=Lib.hid (by have:=BytesO.snoc (b:=x1) hown rfl;simpa using this)
  have HM10:Hid (MakSt (w9.setCell ⟨b,1,none⟩ (.slice ay (s.labs.length+1) cy)) b w0.heap.size (.slice (some ⟨bq,oq,none⟩) ps.length cq) (.slice ay (s.labs++[x1]).length cy) (.slice af xs.length cf) false (s.labs++[x1]) xs):=Lib.hid
   ⟨by simpa using hB9.set_to (i:=1) (v:= .slice ay (s.labs.length+1) cy) rfl,owns_far HY9.out (p:=⟨b,1,none⟩) (by simpa using hyb) _,owns_far HA9.out (p:=⟨b,1,none⟩) HP.out.na _,by simpa using hya,by simpa using hyb,HP.out.na⟩
  have T10:=Lib.hid (T9.out.set (p:=⟨b,1,none⟩) (.inl (.inl rfl)) (.slice ay (s.labs.length+1) cy))
  clear hown hgrow hat m1
  go_wp2_with fail
  have hfl: ∀ W:World,Fr (((W.setCell ⟨w.heap.size,0,none⟩ (.slice (some ⟨w9.heap.size,0,none⟩) 1 1)).setCell ⟨w.heap.size,1,none⟩ (.slice (some ⟨w9.heap.size+1,0,none⟩) 1 1)).setCell ⟨w.heap.size,2,none⟩ (.bool false)) (((((W.setCell ⟨w.heap.size,0,none⟩ (.slice (some ⟨w9.heap.size,0,none⟩) 1 1)).setCell ⟨w.heap.size,1,none⟩ (.slice (some ⟨w9.heap.size+1,0,none⟩) 1 1)).setCell ⟨w.heap.size,2,none⟩ (.bool false)).alloc (.cells #[.int .i64 ((s.labs.length:Int)+1)] 3)).alloc (.cells #[.int .i64 ((s.labs.length:Int)+1)] 3)):=fun W=>((Fr.refl _).alloc _).alloc _
  refine bodyPost_ret (v:= .agg #[.slice (some ⟨w9.heap.size,0,none⟩) 1 1,.slice (some ⟨w9.heap.size+1,0,none⟩) 1 1,.bool false]) (by simp[results,Tryz.results190,go_sem, *]) rfl ?_
  refine⟨.slice (some ⟨w9.heap.size,0,none⟩) 1 1,.slice (some ⟨w9.heap.size+1,0,none⟩) 1 1,_,_,[(s.labs.length:Int)+1],[(s.labs.length:Int)+1],xs,rfl,(HM10.out.set3 hb1 (by simpa using hyr) (fun e=>by have:=owns_old HP.out.arcs _ e;omega) _ _ _).fr (hfl _),HAM.out,(T10.out.set3 (.inr (Nat.le_refl _)) _ _ _).fr (hfl _),?_,.inl rfl,?_,?_,InL.one _,InL.one _,Nat.le_refl _,Nat.le_refl _,?_,?_,?_⟩
  · have:=M1.out.mono (m:=w.heap.size) (by omega);simpa using this
  · exact IntsO.fr (row1_own _ w.heap.size _ _ (by simp) (by omega)) ((Fr.refl _).alloc _)
  · exact row1_own _ w.heap.size _ _ (by simp) (by omega)
  · intro g h1 h2;simp only[Value.ownBlock,Option.some.injEq]at h1 h2;omega
  · intro g h1 h2;have:=owns_old HY9.out g h2;simp only[Value.ownBlock,Option.some.injEq]at h1;omega
  · intro g h1 h2;have:=owns_old HY9.out g h2;simp only[Value.ownBlock,Option.some.injEq]at h1;omega
set_option maxHeartbeats 8000000 in
set_option maxRecDepth 100000 in
theorem lok_row {ps:List PieceD} (hp:pathB ps=true) {w0:World} {pv:Value} (hv:PiecesR w0 pv ps) (f:Nat) (IH:LokC ps w0 pv f) (b p:Nat) (s:StD) (xs:List EdgeR) (lv av:Value) (w:World) (hf0:Fr w0 w) (hlo:w0.heap.size≤b) (h:MakSt w b w0.heap.size pv lv av false s.labs xs) (hA:ArcS s xs) (hok:StOk s) (hpf:p<f+1) (hl:p<ps.length) (hn:s.labs.length+occA ps p≤23) (h2:(nAt ps p).f0=2):
  Calls Tryz.prog 190 #[.pointer (some ⟨b,0,none⟩),.int .i64 (p:Int)] w fun e w'=>LokQ b w0.heap.size pv lv av (occA ps p) (glu ps (f+1) p s) w e w':=by
 have hps:=(pathB_out hp).1
 obtain⟨bq,oq,cq,a,ba,oa,ca,rfl,hcq,hcm,hbq,c0,c1,c2,hca,hcam,HK⟩:=piece_cells hv hf0 hl
 have HG:Hid (glu ps (f+1) p s=rowS (glu ps f) (nAt ps p).f2 s (nAt ps p).f2.length):=Lib.hid (by rw[glu];simp only[];rw[if_neg (by omega),if_pos h2])
 have KF:=Lib.hid (fun k (hk:k<(nAt ps p).f2.length)=>kid_facts hp hpf hl hok hn hk (rowS (glu ps f) (nAt ps p).f2 s) (rowR_ok hp hpf hl s))
 have OC:Hid (occA ps p=occK (occL ps p) (nAt ps p).f2 (nAt ps p).f2.length):=Lib.hid (by unfold occA;rw[occL_at ps hl,occS,if_neg (by omega),Nat.zero_add])
 have OA:Hid (∀ m,m<p→occA ps m=nAt (occL ps p) m):=Lib.hid fun m hm=>occL_same ps (by omega) hm
 rw[HG.out]
 obtain⟨N,hNN⟩: ∃ N,occA ps p=N:=⟨_,rfl⟩
 rw[hNN]at hn OC ⊢
 obtain⟨x,hxx⟩: ∃ x,nAt ps p=x:=⟨_,rfl⟩
 rw[hxx]at h2 c0 c1 c2 hca HK KF OC ⊢
 clear hxx HG hNN
 obtain⟨x0,x1,x2⟩:=x
 simp only[]at h2 c0 c1 c2 hca HK KF OC ⊢
 subst h2
 have hxl:=x1.toNat_lt
 have HP:=Lib.hid h
 have zb:=h.box.lt
 have hb1:b≠w.heap.size:=by omega
 have hb3:w.heap.size≠b:=by omega
 have zf0:=hf0.size
 have hbqw:bq<w.heap.size:=by omega
 have F:=h.box.facts
 have HI:=Lib.hid IH
 have HA:=Lib.hid hA
 have hN23:N≤23:=by omega
 have OK:Hid (∀ k,k≤x2.length→occK (occL ps p) x2 k≤N):=Lib.hid fun k hk=>by rw[OC.out];exact occK_le _ _ hk
 clear h IH hok hn hA
 obtain⟨i0,hi,hz0,hz1,hz2⟩:=info_parts info_int
 go_enter Tryz.func190,Tryz.ntmps190
 go_wp2_with fail
 have X0:Box (((w.alloc (.cells #[.slice none 0 0,.slice none 0 0,.bool false] 237)).alloc (.cells #[.int .i64 2,.int .u8 (x1.toNat:Int),.slice a x2.length ca] 255)).alloc (.cells #[.slice none 0 0,.slice none 0 0,.bool true] 237)) (w.heap.size+1) #[.int .i64 2,.int .u8 (x1.toNat:Int),.slice a x2.length ca] 255:=Box.alloc (Box.new' (by simp)) _
 have L0:Hid (LLp w b w0.heap.size (.slice (some ⟨bq,oq,none⟩) ps.length cq) lv av #[.int .i64 2,.int .u8 (x1.toNat:Int),.slice a x2.length ca] (occK (occL ps p) x2 0) (rowS (glu ps f) x2 s 0).1 (rowS (glu ps f) x2 s 0).2 (((w.alloc (.cells #[.slice none 0 0,.slice none 0 0,.bool false] 237)).alloc (.cells #[.int .i64 2,.int .u8 (x1.toNat:Int),.slice a x2.length ca] 255)).alloc (.cells #[.slice none 0 0,.slice none 0 0,.bool true] 237)) lv av (.slice none 0 0) (.slice none 0 0) [] [] xs):=Lib.hid
  ⟨⟨HP.out.fr (by exact Qf),HA.out,((Box.new _ _ _).alloc _).alloc _,X0,Tch.of_fr (by exact Qf),.inl rfl,.inl rfl⟩,Box.new' (by simp),World.ownsRow_nil _ _ _ _,World.ownsRow_nil _ _ _ _,InL.nil,InL.nil,Nat.zero_le _,Nat.zero_le _,fun g h=>by simp[Value.ownBlock]at h⟩
 clear X0
 go_loopw [8] (fun i wr=> ∃ (k:Nat) (lv' av' o1 o2:Value) (O1 O2:List Int) (xs':List EdgeR),k≤x2.length∧i= .int .i64 k∧Hid (LLp w b w0.heap.size (.slice (some ⟨bq,oq,none⟩) ps.length cq) lv av #[.int .i64 2,.int .u8 (x1.toNat:Int),.slice a x2.length ca] (occK (occL ps p) x2 k) (rowS (glu ps f) x2 s k).1 (rowS (glu ps f) x2 s k).2 wr lv' av' o1 o2 O1 O2 xs')) (fun i _=>x2.length-(intOf i).toNat)
 case atStart=>exact⟨0,lv,av,_,_,_,_,xs,Nat.zero_le _,rfl,L0⟩
 case round=>
  clear L0 c0 c1 c2 F
  obtain⟨k,lv',av',o1,o2,O1,O2,xs',hk,rfl,HL⟩:=hrel
  have zr:w.heap.size+1+1<wr.heap.size:=HL.out.out.lt
  obtain⟨oa1,oc1,rfl⟩: ∃ a c,o1= .slice a O1.length c:=owns_val HL.out.r1
  obtain⟨oa2,oc2,rfl⟩: ∃ a c,o2= .slice a O2.length c:=owns_val HL.out.r2
  have FX:=HL.out.co.pc.facts
  have FM:=HL.out.co.st.box.facts
  have FO:=HL.out.out.facts
  by_cases hlt:k<x2.length
  · obtain⟨m,hm,hkm,hmp,hml,hokm,hlast,hglu⟩:=KF.out k hlt
    have hN2:=OK.out (k+1) hlt
    rw[occK,hkm, ← OA.out m hmp]at hN2
    have HN:=Lib.hid (show occK (occL ps p) x2 (k+1)=occK (occL ps p) x2 k+occA ps m by rw[occK,hkm, ← OA.out m hmp])
    have HS:rowS (glu ps f) x2 s (k+1)=(⟨(glu ps f m (rowS (glu ps f) x2 s k).1).1.labs,folJ (glu ps f m (rowS (glu ps f) x2 s k).1).1.fol (rowS (glu ps f) x2 s k).2.last (glu ps f m (rowS (glu ps f) x2 s k).1).2.first⟩,spRow (rowS (glu ps f) x2 s k).2 (glu ps f m (rowS (glu ps f) x2 s k).1).2):=by rw[rowS,hkm]
    obtain⟨S,hS⟩: ∃ S,rowS (glu ps f) x2 s k=S:=⟨_,rfl⟩
    obtain⟨n1,hn1⟩: ∃ n1,occK (occL ps p) x2 k=n1:=⟨_,rfl⟩
    rw[hS]at HS hml hokm hlast hglu HL FO
    rw[hn1]at HL hN2 HN
    obtain⟨S1,⟨of,ol,on⟩⟩:=S
    obtain⟨R,hR⟩: ∃ R,glu ps f m S1=R:=⟨_,rfl⟩
    simp only[]at HS hml hokm hlast hglu HL FO
    rw[hR]at HS hglu
    have hfr:=HL.out.co.tch.old hf0 (HP.out.lo_ hlo)
    have CT:Calls Tryz.prog 190 #[.pointer (some ⟨b,0,none⟩),.int .i64 (m:Int)] wr fun e w'=>LokQ b w0.heap.size (.slice (some ⟨bq,oq,none⟩) ps.length cq) lv' av' (occA ps m) R wr e w':=by
     have:=HI.out b m S1 xs' lv' av' wr hfr hlo HL.out.co.st HL.out.co.arc hokm (by omega) (by omega) hml
     rw[hR]at this
     exact this
    have hg1:=hglu.len
    have HRO:=Lib.hid (hokm.glu hglu)
    have HG2:=Lib.hid hglu.first
    have CT:=Lib.hid CT
    obtain⟨⟨R1,R2⟩,⟨yf,yl,yn⟩⟩:=R
    simp only[]at hg1 HRO HG2
    have HS:=Lib.hid HS
    have HLA:=Lib.hid hlast
    obtain⟨rfl,hba,fa⟩:=HK.out (by omega)
    have ck:=(hfr.cell (p:=⟨ba,_,none⟩) hba).trans (fa k hlt)
    rw[hm]at ck
    obtain⟨M,hM⟩: ∃ M,occA ps m=M:=⟨_,rfl⟩
    rw[hM]at CT hml hg1 hN2 HN
    clear hm hkm hS hR hlast hglu fa hokm hn1 hM
    go_wp2_with fail
    refine CT.out.mono ?_
    rintro e w2 ⟨y1,y2,lv2,av2,L1,L2,xs2,rfl,q1,q2,q3,q4,q5,q6,q7,q8,q9,q10,q11,q12,_,_⟩
    obtain⟨ya,yc,rfl⟩: ∃ a c,y1= .slice a L1.length c:=owns_val q6
    obtain⟨yb,yd,rfl⟩: ∃ a c,y2= .slice a L2.length c:=owns_val q7
    have z2:=q3.size
    have C2:=Lib.hid (HL.out.co.call HP.out (by omega) q1 q2 q3 q4 q5)
    have O2b:=q3.box HL.out.out (HL.out.co.new HP.out _ (by omega) (by omega))
    have HR1:=Lib.hid HL.out.r1;have HR2:=Lib.hid HL.out.r2
    have R1o:=Lib.hid (HL.out.co.row HL.out.r1 q3)
    have R2o:=Lib.hid (HL.out.co.row HL.out.r2 q3)
    have Y1:=Lib.hid q6
    have Y2:=Lib.hid q7
    have HE:=Lib.hid (And.intro q8 (And.intro q9 q12))
    have FX2:=C2.out.pc.facts
    have FO2:=O2b.facts
    have HO:=Lib.hid (And.intro HL.out.i1 (And.intro HL.out.i2 HL.out.ap))
    have hl1:=HL.out.l1;have hl2:=HL.out.l2
    have HX2:=Lib.hid O2b
    have hne2:w.heap.size+1+1≠w2.heap.size:=by omega
    have hne3:w.heap.size+1≠w2.heap.size:=by omega
    clear q1 q2 q3 q4 q5 q6 q7 q8 q9 q12 HL CT FX FM FO O2b
    have HSZ:=Lib.hid (show w.heap.size+3≤wr.heap.size by omega)
    have A13:Hid (Apart (.slice oa1 O1.length oc1) (.slice ya L1.length yc)∧Apart (.slice oa1 O1.length oc1) (.slice yb L2.length yd)∧Apart (.slice oa2 O2.length oc2) (.slice ya L1.length yc)∧Apart (.slice oa2 O2.length oc2) (.slice yb L2.length yd)):=Lib.hid ⟨apart_lt HR1.out Y1.out (Nat.le_refl _),apart_lt HR1.out Y2.out (Nat.le_refl _),apart_lt HR2.out Y1.out (Nat.le_refl _),apart_lt HR2.out Y2.out (Nat.le_refl _)⟩
    go_wp2_with fail
    refine(join_arcs_any b w0.heap.size _ lv2 av2 _ _ false R1 xs2 O2 L1 _ (C2.out.st.fr (by exact Qf)) (owns_fr (owns_lo R2o.out (by omega)) (by exact Qf)) (owns_fr (owns_lo Y1.out (by omega)) (by exact Qf)) (owns_box R2o.out C2.out.st.box (by decide)) (owns_box Y1.out C2.out.st.box (by decide)) (by exact Qz) C2.out.arc.1 (C2.out.arc.bnd HRO.out (by show R1.length≤24;omega)) (HO.out.2.1.bnd2 (fun j hj=>HLA.out j hj) (by omega)) (HE.out.1.bnd (fun j hj=>(HG2.out j hj).2)) (by omega)).mono ?_
    rintro e w3 ⟨rfl,av3,j1,j2,j3⟩
    have C3:=(C2.out.fr (w2:=w2.alloc (.cells #[.slice ya L1.length yc,.slice yb L2.length yd,.bool yn] 237)) (by exact Qf)).call (s2:=⟨R1,folJ R2 ol yf⟩) HP.out (by simp;omega) j1 (C2.out.arc.join HO.out.2.1 HE.out.1) (j2.sub (fun i _ e=> .inl e)) (.inl rfl) j3
    have t3:Tch (LB b lv2) _ w3:=j2.sub (fun i _ e=> .inl e)
    have C2':=C2.out.fr (w2:=w2.alloc (.cells #[.slice ya L1.length yc,.slice yb L2.length yd,.bool yn] 237)) (by exact Qf)
    have P3:Hid (LPh w b w0.heap.size (.slice (some ⟨bq,oq,none⟩) ps.length cq) lv av #[.int .i64 2,.int .u8 (x1.toNat:Int),.slice (some ⟨ba,oa,none⟩) x2.length ca] ⟨R1,folJ R2 ol yf⟩ w3 lv2 av3 (putsE xs2 (joinL R1 O2 L1)) #[.slice oa1 O1.length oc1,.slice oa2 O2.length oc2,.bool on] w2.heap.size #[.slice ya L1.length yc,.slice yb L2.length yd,.bool yn] (.slice oa1 O1.length oc1) (.slice oa2 O2.length oc2) (.slice ya L1.length yc) (.slice yb L2.length yd) O1 O2 L1 L2):=Lib.hid
     ⟨C3,j2.box (HX2.out.alloc _) (by omega),j2.box (Box.new' rfl) (by have:=C2.out.st.box.lt;omega),C2'.row (owns_fr R1o.out (by exact Qf)) t3,C2'.row (owns_fr R2o.out (by exact Qf)) t3,C2'.row (owns_fr (owns_lo Y1.out HSZ.out) (by exact Qf)) t3,C2'.row (owns_fr (owns_lo Y2.out HSZ.out) (by exact Qf)) t3,by omega⟩
    have z3:=j2.size
    simp only[World.size_alloc]at z3
    have FO3:=P3.out.out.facts
    have FK3:=P3.out.yb.facts
    have FX3:=P3.out.co.pc.facts
    clear j1 j2 j3 C3 t3 C2' FX2 FO2 C2 R1o R2o Y1 Y2 HX2 HR1 HR2
    cases on<;>cases yn
    · go_wp2_with fail
      have Q:=Lib.hid (LPh.as ((P3.out.set zb 1 (.slice yb L2.length yd)).set zb 2 (.bool false)) (Z':= #[.slice oa1 O1.length oc1,.slice yb L2.length yd,.bool false]) (by simp))
      go_roundw
      case rel=>
       refine⟨k+1,lv2,av3,.slice oa1 O1.length oc1,.slice yb L2.length yd,O1,L2,putsE xs2 (joinL R1 O2 L1),by omega,by go_num,Lib.hid ?_⟩
       rw[HS.out,HN.out]
       exact⟨Q.out.co,Q.out.out,Q.out.r1,Q.out.r4,HO.out.1.as (by simp[spRow,ifB_no,orB_no]),HE.out.2.1.as (by simp[spRow,ifB_no,no_orB]),by omega,by omega,A13.out.2.1⟩
      case measure=>(simp[intOf];omega)
    · go_wp2_with fail
      go_region_law(first|(refine step_append_rd (by rfl) _ _ 34 (by rfl) (w.heap.size+3) 3 i0 (.int .i64 0) 1 8 Tryz.underlying34 hi hz0 hz1 hz2 rfl (by decide) (.slice (some ⟨w3.heap.size,0,none⟩) 0 0) 0 [] (by rfl) (by first|exact made_empty (by simp) (by exact Qz)|exact World.ownsRow.drew (made_empty (by simp) (by exact Qz))) _ O2.length (O2.map (Value.int .i64)) (by rfl) (RdS.fr (IntsO.rd P3.out.r2) (by exact Qf)) (oneCells_int _ _) (by unfold maxLen;omega) (by omega) (by exact Qz) ?_;intro a5 c5 w5 hown5 hgrow5 hat5;simp only[Nat.zero_add,List.nil_append]at hown5 hat5;have hm5: ∀ g,(Value.slice a5 O2.length c5).ownBlock=some g→w3.heap.size≤g:=(fun g hg=>by rcases hat5 with h5|h5<;>(rw[h5]at hg;simp only[Value.ownBlock,Option.some.injEq,World.size_alloc,World.size_drew,World.size_setCell]at hg;omega));have hf5:Fr w3 w5:=Fr.grown (show Fr w3 _ by exact Qf) hgrow5 (fun k hk=>by simp only[Value.ownBlock,Option.some.injEq]at hk;(try simp only[World.size_setCell]);omega);have P5:=P3.out.fr hf5;have z5:=hf5.size;(try simp only[World.size_setCell]at z5);have FO5:=P5.out.facts;have FK5:=P5.yb.facts)|(refine step_append_rd (by rfl) _ _ 34 (by rfl) (w.heap.size+3) 3 i0 (.int .i64 0) 1 8 Tryz.underlying34 hi hz0 hz1 hz2 rfl (by decide) (.slice a5 O2.length c5) O2.length (O2.map (Value.int .i64)) (by rfl) (by first|exact hown5|exact World.ownsRow.drew hown5) _ L2.length (L2.map (Value.int .i64)) (by rfl) (RdS.fr (IntsO.rd P3.out.r4) (by exact Qf)) (oneCells_int _ _) (by unfold maxLen;omega) (by omega) (by exact Qz) ?_;intro a6 c6 w6 hown6 hgrow6 hat6;have hm6: ∀ g,(Value.slice a6 (O2.length+L2.length) c6).ownBlock=some g→w3.heap.size≤g:=(fun g hg=>by rcases hat6 with h6|h6;(rw[h6]at hg;exact hm5 g hg);(rw[h6]at hg;simp only[Option.some.injEq,World.size_alloc,World.size_drew,World.size_setCell]at hg;omega));have hf6:Fr w3 w6:=Fr.grown (show Fr w3 _ by exact Qf) hgrow6 (fun k hk=>by have:=hm5 k hk;(try simp only[World.size_setCell]);omega);have P6:=P3.out.fr hf6;have z6:=hf6.size;(try simp only[World.size_setCell]at z6);have FO6:=P6.out.facts;have FK6:=P6.yb.facts))
      all_goals
       have hlen6:(O2++L2).length=O2.length+L2.length:=by simp
       have R6:IntsO w6 (w.heap.size+3) (.slice a6 (O2++L2).length c6) (O2++L2):=by rw[IntsO,hlen6,List.map_append];exact hown6
       have Q:=(P6.set zb 1 (.slice a6 (O2.length+L2.length) c6)).set zb 2 (.bool false)
       have Q2:=Lib.hid ((R6.setb P6.out (by decide) (i:=1) (.slice a6 (O2.length+L2.length) c6)).setb (P6.set zb 1 (.slice a6 (O2.length+L2.length) c6)).out (by decide) (i:=2) (.bool false))
       have Q:=Lib.hid (LPh.as Q (Z':= #[.slice oa1 O1.length oc1,.slice a6 (O2++L2).length c6,.bool false]) (by simp))
       have A6:Hid (Apart (.slice oa1 O1.length oc1) (.slice a6 (O2++L2).length c6)):=Lib.hid (fun g h1 h2=>by have:=owns_old P3.out.r1 g h1;have:=hm6 g ((own_len a6 _ _ c6).trans h2);omega)
       go_wp2_with fail
       go_roundw
       case rel=>
        refine⟨k+1,lv2,av3,.slice oa1 O1.length oc1,.slice a6 (O2++L2).length c6,O1,O2++L2,putsE xs2 (joinL R1 O2 L1),by omega,by go_num,Lib.hid ?_⟩
        rw[HS.out,HN.out]
        exact⟨Q.out.co,Q.out.out,Q.out.r1,Q2.out,HO.out.1.as (by simp[spRow,ifB_no,orB_no]),(HO.out.2.1.app HE.out.2.1).as (by simp[spRow,ifB_yes]),by omega,by rw[hlen6];omega,A6.out⟩
       case measure=>(simp[intOf];omega)
    · go_wp2_with(at_builtin;refine wpList_append_rd rfl _ _ 34 rfl (w.heap.size+3) 3 i0 (.int .i64 0) 1 8 Tryz.underlying34 hi hz0 hz1 hz2 rfl (by decide) (.slice oa1 O1.length oc1) O1.length (O1.map (Value.int .i64)) rfl P3.out.r1 _ L1.length (L1.map (Value.int .i64)) rfl (IntsO.rd P3.out.r3) (oneCells_int _ _) (by unfold maxLen;omega) (by omega) (by exact Qz) ?_;intro a4 c4 w4 hown4 hgrow4 hat4;have P4:=P3.out.grow1 (o1':= .slice a4 (O1++L1).length c4) (O1':=O1++L1) hgrow4 (by simpa [IntsO]using hown4) HO.out.2.2 A13.out.1 A13.out.2.1;have FO4:=P4.out.facts;have FK4:=P4.yb.facts;have FX4:=P4.co.pc.facts)
      have hat4':=Lib.hid hat4
      have P4:=Lib.hid (LPh.as (P4.set zb 0 (.slice a4 (O1.length+L1.length) c4)) (Z':= #[.slice a4 (O1++L1).length c4,.slice oa2 O2.length oc2,.bool true]) (by simp))
      have hlen4:(O1++L1).length=O1.length+L1.length:=List.length_append
      have z4:=hgrow4.size
      have H4:=Lib.hid (And.intro (Mvd.of_app (n:=w.heap.size+3) hat4 (by omega)) (Mvd.of_app (n:=w3.heap.size) hat4 (Nat.le_refl _)))
      clear hown4 hgrow4 hat4
      go_wp2_with fail
      have Q:=Lib.hid (LPh.as ((P4.out.set zb 1 (.slice yb L2.length yd)).set zb 2 (.bool false)) (Z':= #[.slice a4 (O1++L1).length c4,.slice yb L2.length yd,.bool false]) (by simp))
      go_roundw
      case rel=>
       refine⟨k+1,lv2,av3,.slice a4 (O1++L1).length c4,.slice yb L2.length yd,O1++L1,L2,putsE xs2 (joinL R1 O2 L1),by omega,by go_num,Lib.hid ?_⟩
       rw[HS.out,HN.out]
       exact⟨Q.out.co,Q.out.out,Q.out.r1,Q.out.r4,(HO.out.1.app HE.out.1).as (by simp[spRow,ifB_yes]),HE.out.2.1.as (by simp[spRow,ifB_no,no_orB]),by rw[hlen4];omega,by omega,fun g h1 h2=>H4.out.2.apart A13.out.2.1 (owns_old P3.out.r4) g ((own_len a4 _ _ c4).trans h1) h2⟩
      case measure=>(simp[intOf];omega)
    · go_wp2_with(at_builtin;refine wpList_append_rd rfl _ _ 34 rfl (w.heap.size+3) 3 i0 (.int .i64 0) 1 8 Tryz.underlying34 hi hz0 hz1 hz2 rfl (by decide) (.slice oa1 O1.length oc1) O1.length (O1.map (Value.int .i64)) rfl P3.out.r1 _ L1.length (L1.map (Value.int .i64)) rfl (IntsO.rd P3.out.r3) (oneCells_int _ _) (by unfold maxLen;omega) (by omega) (by exact Qz) ?_;intro a4 c4 w4 hown4 hgrow4 hat4;have P4:=P3.out.grow1 (o1':= .slice a4 (O1++L1).length c4) (O1':=O1++L1) hgrow4 (by simpa [IntsO]using hown4) HO.out.2.2 A13.out.1 A13.out.2.1;have FO4:=P4.out.facts;have FK4:=P4.yb.facts;have FX4:=P4.co.pc.facts)
      have hat4':=Lib.hid hat4
      have P4:=Lib.hid (LPh.as (P4.set zb 0 (.slice a4 (O1.length+L1.length) c4)) (Z':= #[.slice a4 (O1++L1).length c4,.slice oa2 O2.length oc2,.bool true]) (by simp))
      have hlen4:(O1++L1).length=O1.length+L1.length:=List.length_append
      have z4:=hgrow4.size
      have H4:=Lib.hid (And.intro (Mvd.of_app (n:=w.heap.size+3) hat4 (by omega)) (Mvd.of_app (n:=w3.heap.size) hat4 (Nat.le_refl _)))
      clear hown4 hgrow4 hat4
      go_wp2_with fail
      go_region_law(first|(refine step_append_rd (by rfl) _ _ 34 (by rfl) (w.heap.size+3) 3 i0 (.int .i64 0) 1 8 Tryz.underlying34 hi hz0 hz1 hz2 rfl (by decide) (.slice (some ⟨w4.heap.size,0,none⟩) 0 0) 0 [] (by rfl) (by first|exact made_empty (by simp) (by exact Qz)|exact World.ownsRow.drew (made_empty (by simp) (by exact Qz))) _ O2.length (O2.map (Value.int .i64)) (by rfl) (RdS.fr (IntsO.rd P4.out.r2) (by exact Qf)) (oneCells_int _ _) (by unfold maxLen;omega) (by omega) (by exact Qz) ?_;intro a5 c5 w5 hown5 hgrow5 hat5;simp only[Nat.zero_add,List.nil_append]at hown5 hat5;have hm5: ∀ g,(Value.slice a5 O2.length c5).ownBlock=some g→w4.heap.size≤g:=(fun g hg=>by rcases hat5 with h5|h5<;>(rw[h5]at hg;simp only[Value.ownBlock,Option.some.injEq,World.size_alloc,World.size_drew,World.size_setCell]at hg;omega));have hf5:Fr (w4.setCell ⟨w.heap.size+1+1,0,none⟩ (.slice a4 (O1.length+L1.length) c4)) w5:=Fr.grown (show Fr (w4.setCell ⟨w.heap.size+1+1,0,none⟩ (.slice a4 (O1.length+L1.length) c4)) _ by exact Qf) hgrow5 (fun k hk=>by simp only[Value.ownBlock,Option.some.injEq]at hk;(try simp only[World.size_setCell]);omega);have P5:=P4.out.fr hf5;have z5:=hf5.size;(try simp only[World.size_setCell]at z5);have FO5:=P5.out.facts;have FK5:=P5.yb.facts)|(refine step_append_rd (by rfl) _ _ 34 (by rfl) (w.heap.size+3) 3 i0 (.int .i64 0) 1 8 Tryz.underlying34 hi hz0 hz1 hz2 rfl (by decide) (.slice a5 O2.length c5) O2.length (O2.map (Value.int .i64)) (by rfl) (by first|exact hown5|exact World.ownsRow.drew hown5) _ L2.length (L2.map (Value.int .i64)) (by rfl) (RdS.fr (IntsO.rd P4.out.r4) (by exact Qf)) (oneCells_int _ _) (by unfold maxLen;omega) (by omega) (by exact Qz) ?_;intro a6 c6 w6 hown6 hgrow6 hat6;have hm6: ∀ g,(Value.slice a6 (O2.length+L2.length) c6).ownBlock=some g→w4.heap.size≤g:=(fun g hg=>by rcases hat6 with h6|h6;(rw[h6]at hg;exact hm5 g hg);(rw[h6]at hg;simp only[Option.some.injEq,World.size_alloc,World.size_drew,World.size_setCell]at hg;omega));have hf6:Fr (w4.setCell ⟨w.heap.size+1+1,0,none⟩ (.slice a4 (O1.length+L1.length) c4)) w6:=Fr.grown (show Fr (w4.setCell ⟨w.heap.size+1+1,0,none⟩ (.slice a4 (O1.length+L1.length) c4)) _ by exact Qf) hgrow6 (fun k hk=>by have:=hm5 k hk;(try simp only[World.size_setCell]);omega);have P6:=P4.out.fr hf6;have z6:=hf6.size;(try simp only[World.size_setCell]at z6);have FO6:=P6.out.facts;have FK6:=P6.yb.facts))
      all_goals
       have hlen6:(O2++L2).length=O2.length+L2.length:=by simp
       have R6:IntsO w6 (w.heap.size+3) (.slice a6 (O2++L2).length c6) (O2++L2):=by rw[IntsO,hlen6,List.map_append];exact hown6
       have Q:=(P6.set zb 1 (.slice a6 (O2.length+L2.length) c6)).set zb 2 (.bool true)
       have Q2:=Lib.hid ((R6.setb P6.out (by decide) (i:=1) (.slice a6 (O2.length+L2.length) c6)).setb (P6.set zb 1 (.slice a6 (O2.length+L2.length) c6)).out (by decide) (i:=2) (.bool true))
       have Q:=Lib.hid (LPh.as Q (Z':= #[.slice a4 (O1++L1).length c4,.slice a6 (O2++L2).length c6,.bool true]) (by simp))
       have A6:Hid (Apart (.slice a4 (O1++L1).length c4) (.slice a6 (O2++L2).length c6)):=Lib.hid (fun g h1 h2=>by have:=owns_old P4.out.r1 g h1;have:=hm6 g ((own_len a6 _ _ c6).trans h2);simp at *; omega)
       go_wp2_with fail
       go_roundw
       case rel=>
        refine⟨k+1,lv2,av3,.slice a4 (O1++L1).length c4,.slice a6 (O2++L2).length c6,O1++L1,O2++L2,putsE xs2 (joinL R1 O2 L1),by omega,by go_num,Lib.hid ?_⟩
        rw[HS.out,HN.out]
        exact⟨Q.out.co,Q.out.out,Q.out.r1,Q2.out,(HO.out.1.app HE.out.1).as (by simp[spRow,ifB_yes]),(HO.out.2.1.app HE.out.2.1).as (by simp[spRow,ifB_yes]),by rw[hlen4];omega,by rw[hlen6];omega,A6.out⟩
       case measure=>(simp[intOf];omega)
  · obtain rfl:k=x2.length:=by omega
    obtain⟨S,hS⟩: ∃ S,rowS (glu ps f) x2 s x2.length=S:=⟨_,rfl⟩
    rw[hS]at HL FO
    obtain⟨S1,⟨of,ol,on⟩⟩:=S
    have HS:=Lib.hid hS
    clear hS KF HI HK OK
    have FR3:=HL.out.co.res.facts
    have hNN:=HL.out.co.new HP.out w.heap.size (Nat.le_refl _) (by omega)
    go_wp2_with fail
    refine bodyPost_ret (v:= .agg #[.slice oa1 O1.length oc1,.slice oa2 O2.length oc2,.bool on]) (by simp[results,Tryz.results190,go_sem, *]) rfl ?_
    have st3:=HL.out.co.st.set3 (c:=w.heap.size) hb1 (fun e=>hNN (.inr e)) (owns_box HL.out.co.st.arcs HL.out.co.res (by decide)) (.slice oa1 O1.length oc1) (.slice oa2 O2.length oc2) (.bool on)
    refine⟨_,_,lv',av',O1,O2,xs',by rw[HS.out],?_,?_,HL.out.co.tch.set3 (.inr (Nat.le_refl _)) _ _ _,HL.out.co.ml.mono (by omega),HL.out.co.ma,HL.out.r1.set3 HL.out.co.res (by decide) (by omega) _ _ _,HL.out.r2.set3 HL.out.co.res (by decide) (by omega) _ _ _,by rw[HS.out];exact HL.out.i1,by rw[HS.out];exact HL.out.i2,?_,?_,HL.out.ap,?_,?_⟩
    · rw[HS.out];exact st3
    · rw[HS.out];exact HL.out.co.arc
    · have:=HL.out.l1;rw[OC.out];exact this
    · have:=HL.out.l2;rw[OC.out];exact this
    · exact owns_types HL.out.r1 HL.out.co.st.labs (by decide)
    · exact owns_types HL.out.r2 HL.out.co.st.labs (by decide)
end Go.Proofs.YtjnahjgncmcmdaaGreat