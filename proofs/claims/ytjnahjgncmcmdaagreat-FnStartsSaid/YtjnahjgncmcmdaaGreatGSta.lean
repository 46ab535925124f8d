/- Texts in one: Met, Isa, Tkm, Aut, Nmq, Qos, Sta. -/
import Derived.Test.YtjnahjgncmcmdaaGreatGTks
import Derived.ChangeMaps5
import Derived.MapKept
import Derived.Laws.StructEq
import Derived.WideKeyEntry
import Derived.Test.YtjnahjgncmcmdaaGreatGNfl
import Derived.BigQuiet
import Derived.Test.YtjnahjgncmcmdaaGreatGTch
namespace Go.Proofs.YtjnahjgncmcmdaaGreat
open Go.RowKit
set_option linter.unusedVariables false
set_option linter.unusedSimpArgs false
def wkv (x:WalkR):Value:= .agg #[.int .i64 x.f0,.int .i64 x.f1,.int .i64 x.f2,.int .i64 x.f3]
theorem run_eqWalk (w:World) (x y:WalkR):(Op.equal 48 (wkv x) (wkv y)).run Tryz.prog w= .ok (eqW x y) w:=by
 unfold wkv eqW
 simp[Op.equal,Op.maxDepth,go_sem]
 repeat' split
 all_goals simp[*]
theorem check_int (em:Bool) (n:Nat) (a:Int) (w:World):(Instr.checkKey em (n+1) 3 (.int .i64 a)).run Tryz.prog w= .ok () w:=by
 unfold Instr.checkKey
 simp[go_sem,run_underlying Tryz.underlying3]
set_option maxRecDepth 4000 in
theorem run_checkWalk (em:Bool) (n:Nat) (w:World) (x:WalkR):(Instr.checkKey em (n+1+1) 48 (wkv x)).run Tryz.prog w= .ok () w:=by
 unfold wkv
 unfold Instr.checkKey
 simp only[Sem.run_bind,run_underlying Tryz.underlying48,Result.andThen_ok]
 rw[← Array.forIn_toList]
 simp[go_sem,check_int]
theorem run_check (em:Bool) (w:World) (x:WalkR):(Instr.checkKey em 10000 48 (wkv x)).run Tryz.prog w= .ok () w:=run_checkWalk em 9998 w x
theorem same_walk (x:WalkR):Instr.sameBits 10000 (wkv x) (wkv x)=true:=by
 unfold wkv
 show Instr.sameBits (9998+1+1) _ _=true
 simp[Instr.sameBits]
theorem run_stayWalk (w:World) (x:WalkR):(Instr.keyThatStays (wkv x) (wkv x)).run Tryz.prog w= .ok (wkv x) w:=by
 unfold Instr.keyThatStays
 rw[same_walk]
 rfl
def mkE (e:WalkR×Nat×Nat):MapEntry:=⟨wkv e.1,.int .i64 e.2.1,e.2.2⟩
def mpO (L:List (WalkR×Nat×Nat)) (k:Nat):Obj:= .map (L.map mkE).toArray k
def fdE (x:WalkR):List (WalkR×Nat×Nat)→Nat→Option (Nat×Value)
 |[],_=>none
 |e::es,i=>if eqW x e.1=true then some (i,.int .i64 e.2.1)else fdE x es (i+1)
theorem run_asking (x:WalkR) (w:World): ∀ (L:List (WalkR×Nat×Nat)) (i:Nat),(Instr.findAsking 48 (wkv x) (L.map mkE) i).run Tryz.prog w= .ok (fdE x L i) w
 |[],i=>by simp[Instr.findAsking,fdE]
 |e::L,i=>by
  rw[List.map_cons,Instr.findAsking]
  simp only[Sem.run_bind,mkE,run_eqWalk,Result.andThen_ok,fdE]
  cases h:eqW x e.1
  · simpa using run_asking x w L (i+1)
  · simp
theorem run_find (x:WalkR) (w:World) (L:List (WalkR×Nat×Nat)):(Instr.findKey 48 (wkv x) (L.map mkE)).run Tryz.prog w= .ok (fdE x L 0) w:=by
 unfold Instr.findKey
 simp only[Sem.run_bind,run_underlying Tryz.underlying48,Result.andThen_ok]
 cases L with
 |nil=>simp[Instr.findNow,fdE]
 |cons e L=>
  have h: ∀ fs,Instr.findNow (.struct fs) (wkv x) ((e::L).map mkE) 0=none:=fun fs=>by simp[Instr.findNow,Instr.sameNow]
  rw[h]
  exact run_asking x w (e::L) 0
/-- The map's entries in order. -/
structure MapI (L:List (WalkR×Nat×Nat)) (k N:Nat):Prop where
 keys:(L.map (·.1)).Nodup
 born:(L.map (·.2.2)).Nodup
 clk: ∀ e∈L,e.2.2<k
 cnt: ∀ e∈L,1≤e.2.1∧e.2.1≤N
theorem fdE_no {x:WalkR}: ∀ {L:List (WalkR×Nat×Nat)} {i:Nat},(∀ e∈L,¬ e.1=x)→fdE x L i=none
 |[],_,_=>rfl
 |e::L,i,h=>by
  rw[fdE,if_neg (fun q=>h e (by simp) (eqW_iff.1 q).symm)]
  exact fdE_no fun y hy=>h y (by simp[hy])
theorem fdE_yes {x:WalkR} {n st:Nat}: ∀ {L:List (WalkR×Nat×Nat)} {i j:Nat},(L.map (·.1)).Nodup→L[j]? =some (x,n,st)→fdE x L i=some (i+j,.int .i64 n)
 |[],_,_,_,h=>by simp at h
 |e::L,i,0,_,h=>by
  simp only[List.getElem?_cons_zero,Option.some.injEq]at h
  subst h
  rw[fdE,if_pos (eqW_iff.2 rfl)];rfl
 |e::L,i,j+1,hn,h=>by
  simp only[List.getElem?_cons_succ]at h
  rw[List.map_cons,List.nodup_cons]at hn
  have hm:x∈L.map (·.1):=List.mem_map.2 ⟨_,List.mem_of_getElem? h,rfl⟩
  rw[fdE,if_neg (fun q=>hn.1 (by rw[← eqW_iff.1 q];exact hm)),fdE_yes hn.2 h,Nat.add_right_comm]
  simp[Nat.add_assoc]
def MapS (w:World) (b:Nat) (S:List WalkR) (N:Nat):Prop:= ∃ L k,w.heap[b]? =some (mpO L k)∧MapI L k N∧ ∀ x,x∈S↔ ∃ e∈L,e.1=x
theorem MapS.new (w:World):MapS (w.alloc (.map #[] 0)) w.heap.size [] 0:=⟨[],0,heap_alloc_new w _,⟨by simp,by simp,by simp,by simp⟩,by simp⟩
theorem MapS.of {w w':World} {b N:Nat} {S:List WalkR} (h:MapS w b S N) (hb:w'.heap[b]? =w.heap[b]?):MapS w' b S N:=by
 obtain⟨L,k,h1,h2,h3⟩:=h
 exact⟨L,k,hb.trans h1,h2,h3⟩
theorem MapS.lt {w:World} {b N:Nat} {S:List WalkR} (h:MapS w b S N):b<w.heap.size:=by
 obtain⟨L,k,h1,_⟩:=h
 exact(Array.getElem?_eq_some_iff.1 h1).1
theorem MapS.fr {w w':World} {b N:Nat} {S:List WalkR} (h:MapS w b S N) (hf:Fr w w'):MapS w' b S N:=h.of (hf.out.block b h.lt)
theorem MapS.tch {B:Nat→Prop} {w w':World} {b N:Nat} {S:List WalkR} (h:MapS w b S N) (hf:Tch B w w') (hb: ¬ B b):MapS w' b S N:=h.of (hf.block b h.lt hb)
theorem MapS.mono {w:World} {b N N':Nat} {S:List WalkR} (h:MapS w b S N) (hn:N≤N'):MapS w b S N':=by
 obtain⟨L,k,h1,h2,h3⟩:=h
 exact⟨L,k,h1,⟨h2.keys,h2.born,h2.clk,fun e he=>by have:=h2.cnt e he;omega⟩,h3⟩
theorem run_get {w:World} {b:Nat} {L:List (WalkR×Nat×Nat)} {k:Nat} (hb:w.heap[b]? =some (mpO L k)):(getObj b).run Tryz.prog w= .ok (.map (L.map mkE).toArray k) w:=MapKept.run_getObj_map hb
theorem run_set {w:World} {b:Nat} {L:List (WalkR×Nat×Nat)} {k:Nat} (hb:w.heap[b]? =some (mpO L k)) (o:Obj):(setObj b o).run Tryz.prog w= .ok () (ChangeMaps.setBlock w b o):=MapKept.run_setObj_map o hb
theorem zero_int (w:World):(zeroValue 3).run Tryz.prog w= .ok (.int .i64 0) w:=by kernel_rfl
/-- What a find brings. -/
def fdV (f:Option (Nat×Value)):Value:=match f with|some (_,v)=>v|none=> .int .i64 0
theorem run_look {w:World} {b:Nat} {L:List (WalkR×Nat×Nat)} {k:Nat} (hb:w.heap[b]? =some (mpO L k)) (x:WalkR):(Instr.lookup 126 (.map (some b)) (wkv x) false).run Tryz.prog w= .ok (fdV (fdE x L 0)) w:=by
 unfold Instr.lookup
 simp only[Sem.run_bind,run_underlying Tryz.underlying126,Result.andThen_ok,run_get hb,Sem.run_pure,run_check,run_find]
 cases fdE x L 0 with
 |none=>simp[zero_int,fdV]
 |some p=>obtain⟨i,v⟩:=p;simp[fdV]
theorem mk_push (L:List (WalkR×Nat×Nat)) (x:WalkR) (n k:Nat):(L.map mkE).toArray.push ⟨wkv x,.int .i64 n,k⟩=((L++[(x,n,k)]).map mkE).toArray:=by simp[mkE]
theorem tch_block {w:World} {b:Nat} {L:List (WalkR×Nat×Nat)} {k:Nat} (hb:w.heap[b]? =some (mpO L k)) (o:Obj):Tch (fun i=>i=b) w (ChangeMaps.setBlock w b o):=
 ⟨rfl,rfl,rfl,by simp[ChangeMaps.setBlock],fun i _ hi=>ChangeMaps.heap_setBlock_other (es:=(L.map mkE).toArray) (clock:=k) hb o hi⟩
theorem block_same {w:World} {b:Nat} {L:List (WalkR×Nat×Nat)} {k:Nat} (hb:w.heap[b]? =some (mpO L k)) (o:Obj):(ChangeMaps.setBlock w b o).heap[b]? =some o:=ChangeMaps.heap_setBlock_same (es:=(L.map mkE).toArray) (clock:=k) hb o
theorem run_entry_new {w:World} {b:Nat} {L:List (WalkR×Nat×Nat)} {k:Nat} (hb:w.heap[b]? =some (mpO L k)) (x:WalkR) (h:fdE x L 0=none):(Instr.mapEntry 126 (.map (some b)) (wkv x)).run Tryz.prog w= .ok (.tuple #[.int .i64 0,goInt k]) (ChangeMaps.setBlock w b (mpO (L++[(x,0,k)]) (k+1))):=by
 unfold Instr.mapEntry
 simp only[Sem.run_bind,run_underlying Tryz.underlying126,Result.andThen_ok,run_get hb,Sem.run_pure,run_check,run_find,h,zero_int,run_set hb]
 rw[show(Value.int .i64 0)= .int .i64 ((0:Nat):Int)from rfl,mk_push]
 rfl
theorem run_entry_old {w:World} {b:Nat} {L:List (WalkR×Nat×Nat)} {k:Nat} (hb:w.heap[b]? =some (mpO L k)) (x:WalkR) {j n st:Nat} (hj:L[j]? =some (x,n,st)) (h:fdE x L 0=some (j,.int .i64 n)):(Instr.mapEntry 126 (.map (some b)) (wkv x)).run Tryz.prog w= .ok (.tuple #[.int .i64 n,goInt st]) (ChangeMaps.setBlock w b (mpO L k)):=by
 have hk:(L.map mkE).toArray[j]? =some (mkE (x,n,st)):=by simp[hj]
 have hs:(L.map mkE).toArray.modify j (fun e=> {e with key:=wkv x})=(L.map mkE).toArray:=by
  apply Array.ext'
  rw[Array.toList_modify,ChangeMaps.modify_eq_set _ _ _ (mkE (x,n,st)) (by simp[hj])]
  exact WideElems.set_self _ _ _ (by simp[hj,mkE])
 unfold Instr.mapEntry
 simp only[Sem.run_bind,run_underlying Tryz.underlying126,Result.andThen_ok,run_get hb,Sem.run_pure,run_check,run_find,h,run_set hb,hk,Option.map_some,Option.getD_some]
 rw[show(mkE (x,n,st)).key=wkv x from rfl,run_stayWalk]
 simp only[Result.andThen_ok,run_set hb,hs]
 rfl
theorem run_store {w:World} {b:Nat} {L:List (WalkR×Nat×Nat)} {k:Nat} (hb:w.heap[b]? =some (mpO L k)) (x:WalkR) {j n st:Nat} (hj:L[j]? =some (x,n,st)) (hn:(L.map (·.2.2)).Nodup) (m:Nat):(Instr.entryStore 126 (.map (some b)) (goInt st) (.int .i64 m)).run Tryz.prog w= .ok () (ChangeMaps.setBlock w b (mpO (L.set j (x,m,st)) k)):=by
 have hidx:(L.map mkE).toArray.findIdx? (fun e=>((e.born:Nat):Int)==((st:Nat):Int))=some j:=by
  rw[WideElems.findIdx_arr]
  exact WideElems.findIdx_born (l:=L.map mkE) (e0:=mkE (x,n,st)) (by rw[List.map_map];exact hn) (by simp[hj])
 have hmod:(L.map mkE).toArray.modify j (fun e=> {e with val:= .int .i64 m})=((L.set j (x,m,st)).map mkE).toArray:=by
  apply Array.ext'
  rw[Array.toList_modify,ChangeMaps.modify_eq_set _ _ _ (mkE (x,n,st)) (by simp[hj])]
  simp[List.map_set,mkE]
 unfold Instr.entryStore
 simp[run_get hb,asInt,asIntOf,goInt,hidx,hmod,run_set hb,Result.andThen,mpO]
theorem fst_set {L:List (WalkR×Nat×Nat)} {j n st m:Nat} {x:WalkR} (hj:L[j]? =some (x,n,st)):(L.set j (x,m,st)).map (·.1)=L.map (·.1)∧(L.set j (x,m,st)).map (·.2.2)=L.map (·.2.2):=by
 rw[List.map_set,List.map_set]
 exact⟨WideElems.set_self _ _ _ (by simp[hj]),WideElems.set_self _ _ _ (by simp[hj])⟩
theorem mem_fst {L:List (WalkR×Nat×Nat)} {y:WalkR}:(∃ e∈L,e.1=y)↔y∈L.map (·.1):=by
 rw[List.mem_map]
theorem meet_runs {w:World} {b N:Nat} {S:List WalkR} (h:MapS w b S N) (x:WalkR): ∃ (c st:Nat) (w1 w2:World),
  (Instr.lookup 126 (.map (some b)) (wkv x) false).run Tryz.prog w= .ok (.int .i64 c) w∧
  (Instr.mapEntry 126 (.map (some b)) (wkv x)).run Tryz.prog w= .ok (.tuple #[.int .i64 c,goInt st]) w1∧
  (Instr.lookup 126 (.map (some b)) (wkv x) false).run Tryz.prog w1= .ok (.int .i64 c) w1∧
  (Instr.entryStore 126 (.map (some b)) (goInt st) (.int .i64 ((c:Int)+1))).run Tryz.prog w1= .ok () w2∧
  (Instr.lookup 126 (.map (some b)) (wkv x) false).run Tryz.prog w2= .ok (.int .i64 ((c:Int)+1)) w2∧
  Tch (fun i=>i=b) w w1∧Tch (fun i=>i=b) w1 w2∧c≤N∧(c=0↔ ¬ x∈S)∧MapS w2 b (x::S) (N+1):=by
 obtain⟨L,k,hb,hI,hS⟩:=h
 by_cases hx: ∃ e∈L,e.1=x
 · obtain⟨⟨x',n,st⟩,he,rfl⟩:=hx
   obtain⟨j,hj',hj⟩:=List.getElem_of_mem he
   have hj:L[j]? =some (x',n,st):=by rw[List.getElem?_eq_getElem hj',hj]
   have hf:=fdE_yes (i:=0) hI.keys hj
   rw[Nat.zero_add]at hf
   have hc:=hI.cnt _ he
   simp only[]at hc ⊢
   have b1:=block_same hb (mpO L k)
   obtain⟨q1,q2⟩:=fst_set (m:=n+1) hj
   have hj2:(L.set j (x',n+1,st))[j]? =some (x',n+1,st):=by rw[List.getElem?_set_self hj']
   have hf2:=fdE_yes (i:=0) (by rw[q1];exact hI.keys) hj2
   rw[Nat.zero_add]at hf2
   have b2:=block_same b1 (mpO (L.set j (x',n+1,st)) k)
   refine⟨n,st,_,_,?_,run_entry_old hb x' hj hf,?_,run_store b1 x' hj hI.born (n+1),?_,tch_block hb _,tch_block b1 _,hc.2,?_,⟨_,k,b2,⟨by rw[q1];exact hI.keys,by rw[q2];exact hI.born,fun e he2=>?_,fun e he2=>?_⟩,fun y=>?_⟩⟩
   · rw[run_look hb,hf];rfl
   · rw[run_look b1,hf];rfl
   · rw[run_look b2,hf2];rfl
   · constructor
     · intro h0;omega
     · intro hn;exact absurd ((hS x').2 ⟨_,he,rfl⟩) hn
   · rcases List.mem_or_eq_of_mem_set he2 with h2|h2
     · exact hI.clk e h2
     · have h3:=hI.clk _ he;rw[h2];exact h3
   · rcases List.mem_or_eq_of_mem_set he2 with h2|h2
     · have:=hI.cnt e h2;omega
     · rw[h2];simp only[];omega
   · rw[mem_fst,q1, ← mem_fst, ← hS,List.mem_cons]
     constructor
     · rintro(rfl|h2)
       · exact(hS _).2 ⟨_,he,rfl⟩
       · exact h2
     · exact .inr
 · have hx': ∀ e∈L,¬ e.1=x:=fun e he h2=>hx ⟨e,he,h2⟩
   have hf:=fdE_no (i:=0) hx'
   have b1:=block_same hb (mpO (L++[(x,0,k)]) (k+1))
   have hj:(L++[(x,0,k)])[L.length]? =some (x,0,k):=by simp
   have hset:(L++[(x,0,k)]).set L.length (x,1,k)=L++[(x,1,k)]:=by simp
   have hkeys: ∀ n:Nat,((L++[(x,n,k)]).map (·.1)).Nodup:=fun n=>by
    rw[List.map_append,List.nodup_append]
    refine⟨hI.keys,by simp,fun a ha c hc=>?_⟩
    simp only[List.map_cons,List.map_nil,List.mem_singleton]at hc
    rintro rfl
    obtain⟨e,he,h2⟩:=List.mem_map.1 ha
    exact hx' e he (h2.trans hc)
   have hborn: ∀ n:Nat,((L++[(x,n,k)]).map (·.2.2)).Nodup:=fun n=>by
    rw[List.map_append,List.nodup_append]
    refine⟨hI.born,by simp,fun a ha c hc=>?_⟩
    simp only[List.map_cons,List.map_nil,List.mem_singleton]at hc
    rintro rfl
    obtain⟨e,he,h2⟩:=List.mem_map.1 ha
    have:=hI.clk e he
    omega
   have hf1:=fdE_yes (i:=0) (hkeys 0) hj
   have hj2:(L++[(x,1,k)])[L.length]? =some (x,1,k):=by simp
   have hf2:=fdE_yes (i:=0) (hkeys 1) hj2
   have hst:=run_store b1 x hj (hborn 0) 1
   have b2:=block_same b1 (mpO ((L++[(x,0,k)]).set L.length (x,1,k)) (k+1))
   rw[hset]at b2
   rw[hset]at hst
   refine⟨0,k,_,_,?_,run_entry_new hb x hf,?_,hst,?_,tch_block hb _,tch_block b1 _,Nat.zero_le _,?_,⟨_,k+1,b2,⟨hkeys 1,hborn 1,fun e he=>?_,fun e he=>?_⟩,fun y=>?_⟩⟩
   · rw[run_look hb,hf];rfl
   · rw[run_look b1,hf1];rfl
   · rw[run_look b2,hf2];rfl
   · simp only[true_iff]
     rw[hS]
     exact hx
   · rw[List.mem_append,List.mem_singleton]at he
     rcases he with he|rfl
     · have:=hI.clk e he;omega
     · exact Nat.lt_succ_self _
   · rw[List.mem_append,List.mem_singleton]at he
     rcases he with he|rfl
     · have:=hI.cnt e he;omega
     · simp only[];omega
   · rw[List.mem_cons,hS]
     constructor
     · rintro(rfl|⟨e,he,h2⟩)
       · exact⟨_,List.mem_append.2 (.inr (List.mem_singleton.2 rfl)),rfl⟩
       · exact⟨e,List.mem_append.2 (.inl he),h2⟩
     · rintro⟨e,he,h2⟩
       rw[List.mem_append,List.mem_singleton]at he
       rcases he with he|rfl
       · exact .inr ⟨e,he,h2⟩
       · exact .inl h2.symm
set_option maxHeartbeats 4000000 in
theorem meet_any (b:Nat) (S:List WalkR) (N:Nat) (x0 x1 x2 x3:Int) (w:World) (h:MapS w b S N) (hN:N<4611686018427387904):
  Calls Tryz.prog 89 #[.map (some b),.agg #[.int .i64 x0,.int .i64 x1,.int .i64 x2,.int .i64 x3]] w fun e w'=>e= .returned (.bool (!inW S ⟨x0,x1,x2,x3⟩))∧MapS w' b (⟨x0,x1,x2,x3⟩::S) (N+1)∧Tch (fun i=>i=b) w w':=by
 have hbw:=h.lt
 obtain⟨c,st,w1,w2,r1,r2,r3,r4,r5,t1,t2,hcN,hc0,hM⟩:=meet_runs (w:=(w.alloc (.cells #[.int .i64 x0,.int .i64 x1,.int .i64 x2,.int .i64 x3] 48)).drew) (h.fr (by exact Qf)) ⟨x0,x1,x2,x3⟩
 have B1:=Tch.box t1 (show Box (w.alloc (.cells #[.int .i64 x0,.int .i64 x1,.int .i64 x2,.int .i64 x3] 48)).drew w.heap.size #[.int .i64 x0,.int .i64 x1,.int .i64 x2,.int .i64 x3] 48 from(Box.new _ _ _).drew) (by omega)
 have B2:=Tch.box t2 B1 (by omega)
 have F1:=B1.facts
 have F2:=B2.facts
 have HM:=Lib.hid hM;have HT1:=Lib.hid t1;have HT2:=Lib.hid t2;have HC0:=Lib.hid hc0
 unfold wkv at r1 r2 r3 r5
 simp only[goInt]at r2 r4
 clear hM t1 t2 hc0 h
 go_enter Tryz.func89,Tryz.ntmps89
 go_wp2_with fail
 go_region
 go_wp2_with fail
 go_ret
 refine⟨ret_bool ?_,HM.out,((Tch.of_fr (show Fr w (w.alloc (.cells #[.int .i64 x0,.int .i64 x1,.int .i64 x2,.int .i64 x3] 48)).drew by exact Qf)).trans HT1.out).trans HT2.out⟩
 cases hi:inW S ⟨x0,x1,x2,x3⟩
 · have:=HC0.out.2 (inW_no hi)
   subst this
   rfl
 · have h0: ¬ c=0:=fun h=>HC0.out.1 h (inW_iff.1 hi)
   have h1: ¬ ((c:Int)+1=1):=by omega
   simpa using h1
theorem isAtom_any (q:Bool) (vo vf:Value) (ax:Option Addr) (n c:Nat) (k:Int) (w:World) (hvo: ∃ a n c,vo= .slice a n c) (hvf: ∃ a n c,vf= .slice a n c):
  Calls Tryz.prog 90 #[.agg #[.bool q,vo,.slice ax n c,vf],.int .i64 k] w fun e w'=>e= .returned (.bool (decide (0≤k∧k<(n:Int))))∧Fr w w':=by
 obtain⟨ao,no,co,rfl⟩:=hvo
 obtain⟨af,nf,cf,rfl⟩:=hvf
 by_cases h:0≤k
 · have g1:decide (0≤k)=true:=by simpa using h
   go_enter Tryz.func90,Tryz.ntmps90
   go_wp2_with fail
   all_goals go_ret
   all_goals exact⟨ret_bool (by first|(rw[Bool.eq_iff_iff];(simp<;>omega))|(simp[h]<;>omega)|simp_all),by exact Qf⟩
 · have g1:decide (0≤k)=false:=by simpa using h
   go_enter Tryz.func90,Tryz.ntmps90
   go_wp2_with fail
   go_ret
   exact⟨ret_bool (by first|(rw[Bool.eq_iff_iff];(simp<;>omega))|(simp[h]<;>omega)|simp_all),by exact Qf⟩
theorem Ab.tch {lo:Nat} {a w w':World} {B:Nat→Prop} (h:Ab lo a w) (ht:Tch B w w') (hb: ∀ i,lo≤i→i<a.heap.size→ ¬ B i):Ab lo a w':=
 ⟨Nat.le_trans h.1 ht.size,fun k hk hs=>(ht.block k (Nat.lt_of_lt_of_le hs h.1) (hb k hk hs)).trans (h.2 k hk hs)⟩
theorem Row3.tch {lo:Nat} {w w1:World} {T O U:List WalkR} {vt vo vu:Value} {b:Nat} (h:Row3 lo w T O U vt vo vu) (ht:Tch (fun i=>i=b) w w1) (h1:vt.ownBlock≠some b) (h2:vo.ownBlock≠some b) (h3:vu.ownBlock≠some b):Row3 lo w1 T O U vt vo vu:=
 ⟨ht.owns h.rt (fun g e q=>h1 (q▸e)),ht.owns h.ro (fun g e q=>h2 (q▸e)),ht.owns h.ru (fun g e q=>h3 (q▸e)),h.ato,h.atu,h.aou⟩
/-- A set kept in the map of block b. -/
def SetIn (w:World) (b N:Nat) (K:List WalkR):Prop:= ∃ S,MapS w b S N∧ ∀ x,x∈S↔x∈K
theorem SetIn.of {w w':World} {b N:Nat} {K:List WalkR} (h:SetIn w b N K) (hb:w'.heap[b]? =w.heap[b]?):SetIn w' b N K:=by
 obtain⟨S,h1,h2⟩:=h
 exact⟨S,h1.of hb,h2⟩
theorem SetIn.lt {w:World} {b N:Nat} {K:List WalkR} (h:SetIn w b N K):b<w.heap.size:=by obtain⟨S,h1,_⟩:=h;exact h1.lt
theorem SetIn.fr {w w':World} {b N:Nat} {K:List WalkR} (h:SetIn w b N K) (hf:Fr w w'):SetIn w' b N K:=h.of (hf.out.block b h.lt)
theorem SetIn.tch {B:Nat→Prop} {w w':World} {b N:Nat} {K:List WalkR} (h:SetIn w b N K) (hf:Tch B w w') (hb: ¬ B b):SetIn w' b N K:=h.of (hf.block b h.lt hb)
theorem SetIn.gr {w w':World} {b N:Nat} {K:List WalkR} {v:Value} (h:SetIn w b N K) (hg:w.grownBy w' v.ownBlock) (hb:v.ownBlock≠some b):SetIn w' b N K:=h.of (hg.block b h.lt (fun e=>hb e.symm))
theorem SetIn.mono {w:World} {b N N':Nat} {K:List WalkR} (h:SetIn w b N K) (hn:N≤N'):SetIn w b N' K:=by
 obtain⟨S,h1,h2⟩:=h
 exact⟨S,h1.mono hn,h2⟩
theorem SetIn.cong {w:World} {b N:Nat} {K K':List WalkR} (h:SetIn w b N K) (hk: ∀ x,x∈K↔x∈K'):SetIn w b N K':=by
 obtain⟨S,h1,h2⟩:=h
 exact⟨S,h1,fun x=>(h2 x).trans (hk x)⟩
theorem inW_cong {S K:List WalkR} (h: ∀ x,x∈S↔x∈K) (x:WalkR):inW S x=inW K x:=by
 rw[Bool.eq_iff_iff,inW_iff,inW_iff]
 exact h x
/-- The state of the taking. wa: where the automata stood; H1: where they begin; the two maps lie behind them. -/
structure TkM (w wa wr:World) (H1 N:Nat) (GX QX:Array Value) (TG TQ:TypeId) (K T O U:List WalkR) (vt vo vu:Value):Prop where
 row:Row3 (w.heap.size+1+1) wr T O U vt vo vu
 ot:Off H1 (wa.heap.size+1+1) vt
 oo:Off H1 (wa.heap.size+1+1) vo
 ou:Off H1 (wa.heap.size+1+1) vu
 ab:Ab H1 wa wr
 kn:SetIn wr wa.heap.size N K
 ma:SetIn wr (wa.heap.size+1) N U
 bg:Box wr w.heap.size GX TG
 bq:Box wr (w.heap.size+1) QX TQ
 fr:Fr w wr
 h1:w.heap.size+1+1≤H1
 ha:H1≤wa.heap.size
section
variable {w wa wr w1 w2:World} {H1 N:Nat} {GX QX:Array Value} {TG TQ:TypeId} {K T O U R:List WalkR} {vt vo vu v':Value}
theorem off_ne {lo hi b:Nat} {v:Value} (h:Off lo hi v) (h1:lo≤b) (h2:b<hi):v.ownBlock≠some b:=fun e=>by have:=h b e;omega
theorem TkM.frs (h:TkM w wa wr H1 N GX QX TG TQ K T O U vt vo vu) (hf:Fr wr w1):TkM w wa w1 H1 N GX QX TG TQ K T O U vt vo vu:=
 ⟨h.row.fr hf,h.ot,h.oo,h.ou,h.ab.fr hf,h.kn.fr hf,h.ma.fr hf,h.bg.fr hf,h.bq.fr hf,h.fr.trans hf,h.h1,h.ha⟩
theorem TkM.mono (h:TkM w wa wr H1 N GX QX TG TQ K T O U vt vo vu) {N':Nat} (hn:N≤N'):TkM w wa wr H1 N' GX QX TG TQ K T O U vt vo vu:=
 ⟨h.row,h.ot,h.oo,h.ou,h.ab,h.kn.mono hn,h.ma.mono hn,h.bg,h.bq,h.fr,h.h1,h.ha⟩
theorem TkM.size (h:TkM w wa wr H1 N GX QX TG TQ K T O U vt vo vu):wa.heap.size+1+1≤wr.heap.size:=h.ma.lt
/-- A walk is met in the first map. -/
theorem TkM.meetK (h:TkM w wa wr H1 N GX QX TG TQ K T O U vt vo vu) (ht:Tch (fun i=>i=wa.heap.size) wr w1) (K':List WalkR) (hm:SetIn w1 wa.heap.size (N+1) K'):TkM w wa w1 H1 (N+1) GX QX TG TQ K' T O U vt vo vu:=by
 have:=h.ha
 have:=h.h1
 exact⟨h.row.tch ht (off_ne h.ot (by omega) (by omega)) (off_ne h.oo (by omega) (by omega)) (off_ne h.ou (by omega) (by omega)),h.ot,h.oo,h.ou,h.ab.tch ht (fun i _ hi e=>by omega),hm,(h.ma.tch ht (by omega)).mono (Nat.le_succ _),ht.box h.bg (by omega),ht.box h.bq (by omega),ht.old h.fr (fun i hi e=>by omega),h.h1,h.ha⟩
/-- .. in the second. -/
theorem TkM.meetA (h:TkM w wa wr H1 N GX QX TG TQ K T O U vt vo vu) (ht:Tch (fun i=>i=wa.heap.size+1) wr w1):Row3 (w.heap.size+1+1) w1 T O U vt vo vu∧Ab H1 wa w1∧SetIn w1 wa.heap.size N K∧Box w1 w.heap.size GX TG∧Box w1 (w.heap.size+1) QX TQ∧Fr w w1:=by
 have:=h.ha
 have:=h.h1
 exact⟨h.row.tch ht (off_ne h.ot (by omega) (by omega)) (off_ne h.oo (by omega) (by omega)) (off_ne h.ou (by omega) (by omega)),h.ab.tch ht (fun i _ hi e=>by omega),h.kn.tch ht (by omega),ht.box h.bg (by omega),ht.box h.bq (by omega),ht.old h.fr (fun i hi e=>by omega)⟩
theorem row_box {b lo:Nat} {X:Array Value} {t:TypeId} {e:TypeId} {sz n:Nat} {xs:List Value} {v:Value} (hb:Box wr b X t) (hv:wr.ownsRow lo e sz v n xs) (hg:wr.grownBy w1 v.ownBlock) (hl:b<lo):Box w1 b X t:=hb.gr hg fun e=>by have:=(hv.lt _ e).1;omega
theorem TkM.addT (h:TkM w wa wr H1 N GX QX TG TQ K T O U vt vo vu) (ho:WalksO w1 (w.heap.size+1+1) v' (T++R)) (hg:wr.grownBy w1 vt.ownBlock) (hat:v'.ownBlock=vt.ownBlock∨v'.ownBlock=some wr.heap.size):TkM w wa w1 H1 N GX QX TG TQ K (T++R) O U v' vo vu:=by
 have:=h.ha
 have:=h.h1
 have hz:=h.size
 exact⟨h.row.addT (Fr.refl _) ho hg hat,h.ot.app hat hz,h.oo,h.ou,h.ab.gr2 hg (fun g hg=>by have:=h.ot g hg;omega),h.kn.gr hg (off_ne h.ot (by omega) (by omega)),h.ma.gr hg (off_ne h.ot (by omega) (by omega)),row_box h.bg h.row.rt hg (by omega),row_box h.bq h.row.rt hg (by omega),Fr.app h.fr hg (RowIn.of_owns h.row.rt) (by omega),h.h1,h.ha⟩
theorem TkM.addO (h:TkM w wa wr H1 N GX QX TG TQ K T O U vt vo vu) (ho:WalksO w1 (w.heap.size+1+1) v' (O++R)) (hg:wr.grownBy w1 vo.ownBlock) (hat:v'.ownBlock=vo.ownBlock∨v'.ownBlock=some wr.heap.size):TkM w wa w1 H1 N GX QX TG TQ K T (O++R) U vt v' vu:=by
 have:=h.ha
 have:=h.h1
 have hz:=h.size
 exact⟨h.row.addO (Fr.refl _) ho hg hat,h.ot,h.oo.app hat hz,h.ou,h.ab.gr2 hg (fun g hg=>by have:=h.oo g hg;omega),h.kn.gr hg (off_ne h.oo (by omega) (by omega)),h.ma.gr hg (off_ne h.oo (by omega) (by omega)),row_box h.bg h.row.ro hg (by omega),row_box h.bq h.row.ro hg (by omega),Fr.app h.fr hg (RowIn.of_owns h.row.ro) (by omega),h.h1,h.ha⟩
/-- What is told: the second map has met it before. -/
theorem TkM.addU (h:Row3 (w.heap.size+1+1) wr T O U vt vo vu∧Ab H1 wa wr∧SetIn wr wa.heap.size N K∧Box wr w.heap.size GX TG∧Box wr (w.heap.size+1) QX TQ∧Fr w wr) (o1:Off H1 (wa.heap.size+1+1) vt) (o2:Off H1 (wa.heap.size+1+1) vo) (o3:Off H1 (wa.heap.size+1+1) vu) (k1:w.heap.size+1+1≤H1) (k2:H1≤wa.heap.size)
  (hm:SetIn wr (wa.heap.size+1) (N+1) (U++R)) (ho:WalksO w1 (w.heap.size+1+1) v' (U++R)) (hg:wr.grownBy w1 vu.ownBlock) (hat:v'.ownBlock=vu.ownBlock∨v'.ownBlock=some wr.heap.size):TkM w wa w1 H1 (N+1) GX QX TG TQ K T O (U++R) vt vo v':=by
 obtain⟨hr,hab,hk,hbg,hbq,hfr⟩:=h
 have hz:wa.heap.size+1+1≤wr.heap.size:=hm.lt
 exact⟨hr.addU (Fr.refl _) ho hg hat,o1,o2,o3.app hat hz,hab.gr2 hg (fun g hg=>by have:=o3 g hg;omega),(hk.gr hg (off_ne o3 (by omega) (by omega))).mono (Nat.le_succ _),hm.gr hg (off_ne o3 (by omega) (by omega)),row_box hbg hr.ru hg (by omega),row_box hbq hr.ru hg (by omega),Fr.app hfr hg (RowIn.of_owns hr.ru) (by omega),k1,k2⟩
/-- .. met before. -/
theorem TkM.farA (h:TkM w wa wr H1 N GX QX TG TQ K T O U vt vo vu) (ht:Tch (fun i=>i=wa.heap.size+1) wr w1) (hm:SetIn w1 (wa.heap.size+1) (N+1) U):TkM w wa w1 H1 (N+1) GX QX TG TQ K T O U vt vo vu:=by
 obtain⟨hr,hab,hk,hbg,hbq,hfr⟩:=h.meetA ht
 exact⟨hr,h.ot,h.oo,h.ou,hab,hk.mono (Nat.le_succ _),hm,hbg,hbq,hfr,h.h1,h.ha⟩
theorem TkM.setT {L:List WalkR} (h:TkM w wa wr H1 N GX QX TG TQ K T O U vt vo vu) (hf:Fr wr w1) (ho:WalksW w1 wr.heap.size w1.heap.size v' L):TkM w wa w1 H1 N GX QX TG TQ K L O U v' vo vu:=by
 have k:=h.frs hf
 have hz:=h.size
 have h2:=h.h1
 have h3:=h.ha
 refine⟨⟨owns_lo ho.1 (by omega),k.row.ro,k.row.ru,fun g e q=>?_,fun g e q=>?_,k.row.aou⟩,Off.above ho.2 (by omega),k.oo,k.ou,k.ab,k.kn,k.ma,k.bg,k.bq,k.fr,k.h1,k.ha⟩
 · have:=(ho.2 g e).1;have:=(h.row.ro.lt g q).2;omega
 · have:=(ho.2 g e).1;have:=(h.row.ru.lt g q).2;omega
end
theorem meetS_any (b N:Nat) (K:List WalkR) (x:WalkR) (w:World) (h:SetIn w b N K) (hN:N<4611686018427387904):
  Calls Tryz.prog 89 #[.map (some b),.agg #[.int .i64 x.f0,.int .i64 x.f1,.int .i64 x.f2,.int .i64 x.f3]] w fun e w'=>e= .returned (.bool (!inW K x))∧SetIn w' b (N+1) (x::K)∧Tch (fun i=>i=b) w w':=by
 obtain⟨S,h1,h2⟩:=h
 refine(meet_any b S N x.f0 x.f1 x.f2 x.f3 w h1 hN).mono fun e w' q=>⟨?_,⟨_,q.2.1,fun y=>?_⟩,q.2.2⟩
 · rw[q.1,inW_cong h2]
 · rw[List.mem_cons,List.mem_cons,h2]
set_option maxHeartbeats 4000000 in
set_option maxRecDepth 100000 in
theorem automataOf_any (q:Bool) (vo va vf:Value) (xs:List AtomR) (w:World) (hvo: ∃ a n c,vo= .slice a n c) (hvf: ∃ a n c,vf= .slice a n c) (hv:AtomsR w va xs) (hn:xs.length≤1000) (hsz: ∀ k,k<xs.length→(atomAt xs k).f1.size≤1048576):
  Calls Tryz.prog 88 #[.agg #[.bool q,vo,va,vf]] w fun e w'=> ∃ ao cap,e= .returned (.slice ao (autK xs xs.length).length cap)∧NfasW w' w.heap.size w'.heap.size (.slice ao (autK xs xs.length).length cap) (autK xs xs.length)∧Fr w w':=by
 obtain⟨ao,no,co,rfl⟩:=hvo
 obtain⟨af,nf,cf,rfl⟩:=hvf
 obtain⟨ax,bx,ox,cx,rfl,hcx,hmx,hfx⟩:=hv.one
 have HF:=Lib.hid hfx
 have HSZ:=Lib.hid hsz
 obtain⟨i0,hi,hz0,hz1,hz2⟩:=info_parts info_Nfa
 clear hv hfx hsz
 go_enter Tryz.func88,Tryz.ntmps88
 go_wp2_with fail
 go_loopw [3,11] (fun o i wr=> ∃ (k c:Nat) (a:Option Addr) (l:List NfaD),k≤xs.length∧i= .int .i64 k∧o= .slice a l.length c∧Hid (l=autK xs k)∧Hid (NfasW wr (w.heap.size+1) wr.heap.size (.slice a l.length c) l)∧Fr w wr) (fun _ i _=>xs.length-(intOf i).toNat)
 case atStart=>exact⟨0,0,none,[],Nat.zero_le _,rfl,rfl,Lib.hid rfl,Lib.hid (NfasW.nil _ _ _),by exact Qf⟩
 case round=>
  obtain⟨k,c,a,l,hk,rfl,rfl,HE,HO,hfr⟩:=hrel
  have zr:=hfr.size
  have hll:l.length=k:=by rw[HE.out,autK_len]
  have HLL:=Lib.hid hll
  have hll':l.length≤1000:=by omega
  clear hll
  by_cases hlt:k<xs.length
  · obtain⟨rfl,hb,hf⟩:=HF.out (by omega)
    obtain⟨g0,g1,g2⟩:=hf k hlt
    have hs1:=HSZ.out k hlt
    obtain⟨x,hx⟩: ∃ x,atomAt xs k=x:=⟨_,rfl⟩
    rw[hx]at g0 g1 g2 hs1
    obtain⟨x0,x1,x2⟩:=x
    simp only[]at g0 g1 g2 hs1
    have q0:=(hfr.cell (p:=⟨bx,_,none⟩) hb).trans g0
    have q1:=(hfr.cell (p:=⟨bx,_,none⟩) hb).trans g1
    have q2:=(hfr.cell (p:=⟨bx,_,none⟩) hb).trans g2
    obtain⟨d,hd⟩: ∃ d,nfaT x1=d:=⟨_,rfl⟩
    have HS:Hid (l++[d]=autK xs (k+1)):=Lib.hid (by rw[autK,HE.out,hx, ← hd])
    have HLN:=Lib.hid (show(l++[d]).length=l.length+1 by simp)
    have CN:=nfaOfText_any x1
    rw[hd]at CN
    have CN:=Lib.hid (fun w'=>CN w' hs1)
    clear hf g0 g1 g2 hx hd
    go_wp2_with fail
    refine(CN.out _).mono ?_
    rintro e w1 ⟨v1,rfl,hN1,hf1⟩
    have z1:=hf1.size
    (try simp only[World.size_alloc]at z1)
    obtain⟨d0,d1,d2⟩:=d
    obtain⟨va,ve,rfl,h1,h2⟩:=hN1
    obtain⟨a1,c1,rfl⟩: ∃ a c,va= .slice a d1.length c:=owns_val h1
    obtain⟨a2,c2,rfl⟩: ∃ a c,ve= .slice a d2.length c:=owns_val h2
    have HR1:=Lib.hid (OwW.of_owns h1)
    have HR2:=Lib.hid (OwW.of_owns h2)
    have HO1:=Lib.hid (NfasW.fr HO.out (show Fr wr w1 by exact Qf))
    obtain⟨cells,hOw,happ⟩:=NestW.app (E:=NfaEW) (fun a b c=>NfaEW.span a b c) HO1.out
    have HOW:=Lib.hid hOw
    have HAPP:=Lib.hid happ
    simp only[]at HR1 HR2 ⊢
    have hf01:Fr w w1:=by exact Qf
    clear h1 h2 hOw happ HO HO1
    go_wp2_with(at_builtin;refine wpList_append_rd rfl _ _ 119 rfl (w.heap.size+1) 133 i0 (.agg #[.int .i64 0,.slice none 0 0,.slice none 0 0]) 3 56 Tryz.underlying119 hi hz0 hz1 hz2 rfl (by decide) (.slice a l.length c) l.length cells rfl (World.ownsRow.alloc (HOW.out.1.alloc _) _) _ 1 [.int .i64 d0,.slice a1 d1.length c1,.slice a2 d2.length c2] rfl (RdS.new (by first|rfl|(simp;done)) rfl) (by simp[Value.oneCell']) (by unfold maxLen;omega) (by omega) (by exact Qz) ?_;intro a3 c3 w3 hown hgrow hat)
    have hN3:=NfasW.snoc (d:=⟨d0,d1,d2⟩) (l1:=wr.heap.size+1) (h1:=w1.heap.size) HAPP.out (show Fr w1 _ by exact Qf) (by simpa using hown) hgrow hat rfl ⟨_,_,rfl,OwW.alloc (OwW.alloc (OwW.mono HR1.out (by simp) (Nat.le_refl _)) _) _,OwW.alloc (OwW.alloc (OwW.mono HR2.out (by simp) (Nat.le_refl _)) _) _⟩ (by simp;omega) (by omega) (by omega) (by omega)
    have hf3:Fr w w3:=Fr.app (by exact Qf) hgrow HOW.out.2 (by omega)
    rw[← HLN.out]at hN3
    have HN3:=Lib.hid hN3
    clear hN3
    rw[← HLN.out]
    go_roundw
    case rel=>exact⟨k+1,c3,a3,l++[⟨d0,d1,d2⟩],by omega,by go_num,rfl,HS,HN3,hf3⟩
    case measure=>(simp[intOf];omega)
  · obtain rfl:k=xs.length:=by omega
    go_wp2_with fail
    go_ret
    refine⟨_,_,by rw[← HE.out];try rfl,?_,hfr⟩
    rw[← HE.out]
    exact NfasW.mono HO.out (by omega) (Nat.le_refl _)
set_option maxHeartbeats 4000000 in
set_option maxRecDepth 100000 in
theorem l20Nfas_any (q:Bool) (vo va vf:Value) (xs:List AtomR) (w:World) (hvo: ∃ a n c,vo= .slice a n c) (hvf: ∃ a n c,vf= .slice a n c) (hv:AtomsR w va xs) (hn:xs.length≤1000) (hsz: ∀ k,k<xs.length→(atomAt xs k).f1.size≤1048576) (hok: ∀ k,k<xs.length→(rpM (atomAt xs k).f1).2=true):
  Calls Tryz.prog 83 #[.agg #[.bool q,vo,va,vf]] w fun e w'=> ∃ ao cap,e= .returned (.slice ao (autK xs xs.length).length cap)∧NfasW w' w.heap.size w'.heap.size (.slice ao (autK xs xs.length).length cap) (autK xs xs.length)∧Fr w w':=by
 obtain⟨ao,no,co,rfl⟩:=hvo
 obtain⟨af,nf,cf,rfl⟩:=hvf
 obtain⟨ax,bx,ox,cx,rfl,hcx,hmx,hfx⟩:=hv.one
 have HF:=Lib.hid hfx
 have HSZ:=Lib.hid hsz
 have HOK:=Lib.hid hok
 obtain⟨i0,hi,hz0,hz1,hz2⟩:=info_parts info_Nfa
 clear hv hfx hsz hok
 go_enter Tryz.func83,Tryz.ntmps83
 go_wp2_with fail
 go_loopw [3,4] (fun o i wr=> ∃ (k c:Nat) (a:Option Addr) (l:List NfaD),k≤xs.length∧i= .int .i64 k∧o= .slice a l.length c∧Hid (l=autK xs k)∧Hid (NfasW wr (w.heap.size+1) wr.heap.size (.slice a l.length c) l)∧Box wr w.heap.size #[.bool q,.slice ao no co,.slice ax xs.length cx,.slice af nf cf] 31∧Fr w wr) (fun _ i _=>xs.length-(intOf i).toNat)
 case atStart=>exact⟨0,0,_,[],Nat.zero_le _,rfl,rfl,Lib.hid rfl,Lib.hid (NestP.none_yet (OwW.of_owns (made_empty (by simp) (Nat.le_refl _)))),(Box.new _ _ _).alloc _,by exact Qf⟩
 case round=>
  obtain⟨k,c,a,l,hk,rfl,rfl,HE,HO,hB,hfr⟩:=hrel
  have FB:=hB.facts
  have zr:=hfr.size
  have hll:l.length=k:=by rw[HE.out,autK_len]
  have HLL:=Lib.hid hll
  have hll':l.length≤1000:=by omega
  clear hll
  by_cases hlt:k<xs.length
  · obtain⟨rfl,hb,hf⟩:=HF.out (by omega)
    obtain⟨g0,g1,g2⟩:=hf k hlt
    have hs1:=HSZ.out k hlt
    have ho1:=HOK.out k hlt
    obtain⟨x,hx⟩: ∃ x,atomAt xs k=x:=⟨_,rfl⟩
    rw[hx]at g0 g1 g2 hs1 ho1
    obtain⟨x0,x1,x2⟩:=x
    simp only[]at g0 g1 g2 hs1 ho1
    have q1:=(hfr.cell (p:=⟨bx,_,none⟩) hb).trans g1
    obtain⟨d,hd⟩: ∃ d,nfaT x1=d:=⟨_,rfl⟩
    have HS:Hid (l++[d]=autK xs (k+1)):=Lib.hid (by rw[autK,HE.out,hx, ← hd])
    have HLN:=Lib.hid (show(l++[d]).length=l.length+1 by simp)
    have CR:=fun w'=>specReadPath_any x1 w' (by omega)
    obtain⟨ps,hps⟩: ∃ ps,rpM x1=(ps,true):=⟨_,Prod.ext rfl ho1⟩
    have hdn:d=nfaM ps:=by rw[← hd];unfold nfaT;rw[hps];rfl
    have HRR:=Lib.hid (rpM_occ hps)
    rw[hps]at CR
    have CR:=Lib.hid CR
    clear hf g0 g1 g2 hx hd ho1 hps
    go_wp2_with fail
    refine(CR.out _).mono ?_
    rintro e w1 ⟨v,rfl,hv1,hf1⟩
    have z1:=hf1.size
    have B1:=hB.fr hf1
    have HV1:=Lib.hid hv1
    obtain⟨av,bv,ov,cv,rfl,hcv,hmv,hvv⟩:=hv1.one
    clear hvv hv1
    have CN:=specNfaOf_any (.slice av ps.length cv) ps
    rw[← hdn]at CN
    have CN:=Lib.hid (fun w' hv=>CN w' HRR.out.1 HRR.out.2 hv)
    clear hdn
    go_wp2_with fail
    refine(CN.out _ (HV1.out.fr (by exact Qf))).mono ?_
    rintro e w2 ⟨v2,rfl,hN1,hf2⟩
    have z2:=hf2.size
    (try simp only[World.size_alloc]at z2)
    have B2:=(B1.alloc (.cells #[.slice av ps.length cv] 140)).fr hf2
    obtain⟨d0,d1,d2⟩:=d
    obtain⟨va,ve,rfl,h1,h2⟩:=hN1
    obtain⟨a1,c1,rfl⟩: ∃ a c,va= .slice a d1.length c:=owns_val h1
    obtain⟨a2,c2,rfl⟩: ∃ a c,ve= .slice a d2.length c:=owns_val h2
    have HR1:=Lib.hid (OwW.of_owns h1)
    have HR2:=Lib.hid (OwW.of_owns h2)
    have HO1:=Lib.hid (NfasW.fr HO.out (show Fr wr w2 by exact Qf))
    obtain⟨cells,hOw,happ⟩:=NestW.app (E:=NfaEW) (fun a b c=>NfaEW.span a b c) HO1.out
    have HOW:=Lib.hid hOw
    have HAPP:=Lib.hid happ
    simp only[]at HR1 HR2 ⊢
    have hf02:Fr w w2:=by exact Qf
    clear h1 h2 hOw happ HO HO1
    go_wp2_with(at_builtin;refine wpList_append_rd rfl _ _ 119 rfl (w.heap.size+1) 133 i0 (.agg #[.int .i64 0,.slice none 0 0,.slice none 0 0]) 3 56 Tryz.underlying119 hi hz0 hz1 hz2 rfl (by decide) (.slice a l.length c) l.length cells rfl (World.ownsRow.alloc (HOW.out.1.alloc _) _) _ 1 [.int .i64 d0,.slice a1 d1.length c1,.slice a2 d2.length c2] rfl (RdS.new (by first|rfl|(simp;done)) rfl) (by simp[Value.oneCell']) (by unfold maxLen;omega) (by omega) (by exact Qz) ?_;intro a3 c3 w3 hown hgrow hat)
    have hN3:=NfasW.snoc (d:=⟨d0,d1,d2⟩) (l1:=w1.heap.size+1) (h1:=w2.heap.size) HAPP.out (show Fr w2 _ by exact Qf) (by simpa using hown) hgrow hat rfl ⟨_,_,rfl,OwW.alloc (OwW.alloc (OwW.mono HR1.out (by simp) (Nat.le_refl _)) _) _,OwW.alloc (OwW.alloc (OwW.mono HR2.out (by simp) (Nat.le_refl _)) _) _⟩ (by simp;omega) (by omega) (by omega) (by omega)
    have hf3:Fr w w3:=Fr.app (by exact Qf) hgrow HOW.out.2 (by omega)
    have B3:=Box.gr ((B2.alloc _).alloc _) hgrow (fun e=>by have:=HOW.out.2 _ e;omega)
    rw[← HLN.out]at hN3
    have HN3:=Lib.hid hN3
    clear hN3
    rw[← HLN.out]
    go_roundw
    case rel=>exact⟨k+1,c3,a3,l++[⟨d0,d1,d2⟩],by omega,by go_num,rfl,HS,HN3,B3,hf3⟩
    case measure=>(simp[intOf];omega)
  · obtain rfl:k=xs.length:=by omega
    go_wp2_with fail
    go_ret
    refine⟨_,_,by rw[← HE.out];try rfl,?_,hfr⟩
    rw[← HE.out]
    exact NfasW.mono HO.out (by omega) (Nat.le_refl _)
set_option maxHeartbeats 2000000 in
theorem l08In_same (v:Value) (l:List ByteArray) (s:ByteArray) (w:World) (hv:StrsR w v l):
  Calls Tryz.prog 147 #[v,.string s] w fun e w'=>e= .returned (.bool (inB l s))∧w'=w:=by
 obtain⟨ao,b,o,cap,rfl,hc,hm,hf⟩:=hv.one
 have HF:=Lib.hid hf
 clear hf hv
 go_enter Tryz.func147,Tryz.ntmps147
 go_wp2_with fail
 go_loopw [5] (fun i wr=> ∃ k:Nat,k≤l.length∧i= .int .i64 k∧Hid (inB (l.take k) s=false)∧wr=w) (fun i _=>l.length-(intOf i).toNat)
 case atStart=>exact⟨0,Nat.zero_le _,rfl,Lib.hid rfl,rfl⟩
 case round=>
  obtain⟨k,hk,rfl,HL,rfl⟩:=hrel
  by_cases hlt:k<l.length
  · obtain⟨rfl,hb,hf⟩:=HF.out (by omega)
    have hcell:=hf k hlt
    obtain⟨x,hx⟩: ∃ x,sAt l k=x:=⟨_,rfl⟩
    rw[hx]at hcell
    clear hf
    cases hp:(x.toList==s.toList)
    · have HS:=Lib.hid (inB_step hlt (by rw[hx];exact hp) HL.out)
      clear hx
      go_wp2_with fail
      go_roundw
      case rel=>exact⟨k+1,by omega,by go_num,HS,by first|rfl|trivial⟩
      case measure=>(simp[intOf];omega)
    · have HS:=Lib.hid (inB_yes hlt (by rw[hx];exact hp))
      clear hx
      go_wp2_with fail
      go_ret
      exact⟨ret_bool (by rw[HS.out]),rfl⟩
  · obtain rfl:k=l.length:=by omega
    have HN:Hid (inB l s=false):=Lib.hid (by have:=HL.out;rwa [List.take_length]at this)
    go_wp2_with fail
    go_ret
    exact⟨ret_bool (by rw[HN.out]),rfl⟩
set_option maxHeartbeats 4000000 in
theorem specQueryOk_any (q:Bool) (vo va vf:Value) (out:List ByteArray) (xs:List AtomR) (fs:List FilterR) (w:World) (ho:StrsR w vo out) (ha:AtomsR w va xs) (hf:FiltersR w vf fs) (hsz: ∀ k,k<xs.length→(atomAt xs k).f0.size≤1048576∧(atomAt xs k).f1.size≤1048576∧(atomAt xs k).f2.size≤1048576):
  Calls Tryz.prog 68 #[.agg #[.bool q,vo,va,vf]] w fun e w'=>e= .returned (.bool (qryB out xs fs))∧Fr w w':=by
 obtain⟨ao,bo,oo,co,rfl,hco,hmo,ko⟩:=ho.one
 obtain⟨ax,bx,ox,cx,rfl,hcx,hmx,kx⟩:=ha.one
 obtain⟨af,bf,of,cf,rfl,hcf,hmf,kf⟩:=hf.one
 have KO:=Lib.hid ko;have KX:=Lib.hid kx;have KF:=Lib.hid kf;have HO:=Lib.hid ho;have HA:=Lib.hid ha;have HF:=Lib.hid hf;have HSZ:=Lib.hid hsz
 clear ko kx kf ho ha hf hsz
 by_cases h1:(1≤xs.length∧xs.length≤4)∧fs.length≤3∧(1≤out.length∧out.length≤4)
 · obtain⟨⟨h1a,h1b⟩,h2,h3a,h3b⟩:=h1
   have HQ:Hid (qryB out xs fs=(atK xs xs.length&&(decide ((nmK xs xs.length).length≤4)&&((dstK out out.length&&allIn (nmK xs xs.length) out)&&fiK (nmK xs xs.length) fs fs.length)))):=Lib.hid (by unfold qryB;rw[decide_eq_true (⟨h1a,h1b⟩:1≤xs.length∧xs.length≤4),decide_eq_true h2,decide_eq_true (⟨h3a,h3b⟩:1≤out.length∧out.length≤4),Bool.true_and,Bool.true_and,Bool.and_true])
   have g1:decide ((1:Int)≤(xs.length:Int)∧(xs.length:Int)≤4)=true:=by simp;omega
   have g2:decide ((1:Int)≤(out.length:Int)∧(out.length:Int)≤4)=true:=by simp;omega
   have g3:decide ((fs.length:Int)>3)=false:=by simp;omega
   have i1:(1:Int)≤(xs.length:Int):=by omega
   have i2:(xs.length:Int)≤4:=by omega
   have i3:(1:Int)≤(out.length:Int):=by omega
   have i4:(out.length:Int)≤4:=by omega
   have i5: ¬ (3:Int)<(fs.length:Int):=by omega
   go_enter Tryz.func68,Tryz.ntmps68
   go_wp2_with(go_at_call 69;refine(l01In_any _ _ _ _).mono ?_;rintro e w1 ⟨rfl,rfl⟩)
   go_loopw [3] (fun i wr=> ∃ k:Nat,k≤xs.length∧i= .int .i64 k∧Hid (atK xs k=true)∧Box wr w.heap.size #[.bool q,.slice ao out.length co,.slice ax xs.length cx,.slice af fs.length cf] 31∧Fr w wr) (fun i _=>xs.length-(intOf i).toNat)
   case atStart=>exact⟨0,Nat.zero_le _,rfl,Lib.hid rfl,Box.new _ _ _,by exact Qf⟩
   case round=>
    obtain⟨k,hk,rfl,HL,hB,hfr⟩:=hrel
    have FB:=hB.facts
    by_cases hlt:k<xs.length
    · obtain⟨rfl,hb,hf⟩:=KX.out (by omega)
      obtain⟨g0,g1,g2⟩:=hf k hlt
      have hs3:=HSZ.out k hlt
      obtain⟨x,hx⟩: ∃ x,atomAt xs k=x:=⟨_,rfl⟩
      rw[hx]at g0 g1 g2 hs3
      obtain⟨x0,x1,x2⟩:=x
      simp only[]at g0 g1 g2 hs3
      have q0:=(hfr.cell (p:=⟨bx,_,none⟩) hb).trans g0
      have q1:=(hfr.cell (p:=⟨bx,_,none⟩) hb).trans g1
      have q2:=(hfr.cell (p:=⟨bx,_,none⟩) hb).trans g2
      have HX:=Lib.hid hx
      have zr:=hfr.size
      obtain⟨s0,s1,s2⟩:=hs3
      clear hf g0 g1 g2 hx
      go_wp2_with fail
      refine(specAtomOk_any x0 x1 x2 _ s0 s1 s2).mono ?_
      rintro e w1 ⟨rfl,hf1⟩
      cases h3:atomB x0 x1 x2
      · have HN:Hid (qryB out xs fs=false):=Lib.hid (by rw[HQ.out,show atK xs xs.length=false from all_no hlt (by rw[HX.out];exact h3)];rfl)
        clear h3
        go_wp2_with fail
        go_ret
        exact⟨ret_bool (by rw[HN.out]),by exact Qf⟩
      · have HS:Hid (atK xs (k+1)=true):=Lib.hid (all_step (by rw[HX.out];exact h3) HL.out)
        clear h3
        go_wp2_with fail
        go_roundw
        case rel=>exact⟨k+1,by omega,by go_num,HS,hB.fr hf1,by exact Qf⟩
        case measure=>(simp[intOf];omega)
    · obtain rfl:k=xs.length:=by omega
      go_wp2_with fail
      refine(specNamesOf_any q ao af out.length co fs.length cf _ xs _ (HA.out.fr hfr) (by omega)).mono ?_
      rintro e w1 ⟨v,rfl,hN,hf1⟩
      obtain⟨an,cn,rfl⟩:=hN.val
      have B1:=hB.fr hf1
      have F1:=B1.facts
      have HQ2:Hid (qryB out xs fs=(decide ((nmK xs xs.length).length≤4)&&((dstK out out.length&&allIn (nmK xs xs.length) out)&&fiK (nmK xs xs.length) fs fs.length))):=Lib.hid (by rw[HQ.out,HL.out,Bool.true_and])
      obtain⟨ns,hns⟩: ∃ ns,nmK xs xs.length=ns:=⟨_,rfl⟩
      have hnl:=nmK_len xs xs.length
      rw[hns]at hN HQ2 hnl
      rw[hns]
      have HNS:=Lib.hid (StrsO.rd hN)
      clear hns hN
      go_wp2_with fail
      go_loopw [5] (fun i w'=> ∃ k:Nat,k≤out.length∧i= .int .i64 k∧Hid (dstK out k=true)∧Hid (allIn ns (out.take k)=true)∧Fr w1 w') (fun i _=>out.length-(intOf i).toNat)
      case atStart=>exact⟨0,Nat.zero_le _,rfl,Lib.hid rfl,Lib.hid rfl,Fr.refl _⟩
      case round=>
       obtain⟨j,hj,rfl,HD,HI,hfr2⟩:=hrel
       have B2:=B1.fr hfr2
       have F2:=B2.facts
       by_cases hltj:j<out.length
       · obtain⟨rfl,hb,hf⟩:=KO.out (by omega)
         obtain⟨x,hx⟩: ∃ x,sAt out j=x:=⟨_,rfl⟩
         have g0:=hf j hltj
         rw[hx]at g0
         have fr2:Fr w wr:=(hfr.trans hf1).trans hfr2
         have q0:=(fr2.cell (p:=⟨bo,_,none⟩) hb).trans g0
         have HX:=Lib.hid hx
         have C1:=Lib.hid (fun w' (h:Fr wr w')=>l08In_same _ ns x w' (HNS.out.fr (hfr2.trans h)))
         have C2:=Lib.hid (fun w' (h:Fr wr w')=>l08In_same _ (out.take j) x w' ((HO.out.fr (fr2.trans h)).pre hj))
         have hjc:j≤co:=by omega
         clear hf g0 hx
         cases h1:inB ns x
         · have HN:Hid (qryB out xs fs=false):=Lib.hid (by rw[HQ2.out,show allIn ns out=false from allIn_no hltj (by rw[HX.out];exact h1)];simp)
           rw[h1]at C1
           clear h1
           go_wp2_with fail
           go_quiet (first|(go_at_call 147;with_reducible exact Calls.quiet_of_same ((C1.out _ (by exact Qf)).mono fun _ _ h=>⟨h.1,h.2⟩))|(go_at_call 147;with_reducible exact Calls.quiet_of_same ((C2.out _ (by exact Qf)).mono fun _ _ h=>⟨h.1,h.2⟩)))
           go_wp2_with fail
           go_ret
           exact⟨ret_bool (by rw[HN.out]),by exact Qf⟩
         · have HI2:=Lib.hid (allIn_step hltj (by rw[HX.out];exact h1) HI.out)
           rw[h1]at C1
           clear h1
           cases h2:inB (out.take j) x
           · have HD2:=Lib.hid (dstK_step (by rw[HX.out];exact h2) HD.out)
             rw[h2]at C2
             clear h2
             go_wp2_with fail
             go_quiet (first|(go_at_call 147;with_reducible exact Calls.quiet_of_same ((C1.out _ (by exact Qf)).mono fun _ _ h=>⟨h.1,h.2⟩))|(go_at_call 147;with_reducible exact Calls.quiet_of_same ((C2.out _ (by exact Qf)).mono fun _ _ h=>⟨h.1,h.2⟩)))
             go_wp2_with fail
             go_roundw
             case rel=>exact⟨j+1,by omega,by go_num,HD2,HI2,by exact Qf⟩
             case measure=>(simp[intOf];omega)
           · have HN:Hid (qryB out xs fs=false):=Lib.hid (by rw[HQ2.out,show dstK out out.length=false from dstK_no hltj (by rw[HX.out];exact h2)];simp)
             rw[h2]at C2
             clear h2
             go_wp2_with fail
             go_quiet (first|(go_at_call 147;with_reducible exact Calls.quiet_of_same ((C1.out _ (by exact Qf)).mono fun _ _ h=>⟨h.1,h.2⟩))|(go_at_call 147;with_reducible exact Calls.quiet_of_same ((C2.out _ (by exact Qf)).mono fun _ _ h=>⟨h.1,h.2⟩)))
             go_wp2_with fail
             go_ret
             exact⟨ret_bool (by rw[HN.out]),by exact Qf⟩
       · obtain rfl:j=out.length:=by omega
         have HI3:Hid (allIn ns out=true):=Lib.hid (by have:=HI.out;rwa [List.take_length]at this)
         have HQ3:Hid (qryB out xs fs=(decide (ns.length≤4)&&fiK ns fs fs.length)):=Lib.hid (by rw[HQ2.out,HD.out,HI3.out];rfl)
         have fr2:Fr w wr:=(hfr.trans hf1).trans hfr2
         have HN2:=Lib.hid (HNS.out.fr hfr2)
         go_wp2_with fail
         go_loopw [6] (fun i w'=> ∃ k:Nat,k≤fs.length∧i= .int .i64 k∧Hid (fiK ns fs k=true)∧Fr wr w') (fun i _=>fs.length-(intOf i).toNat)
         case atStart=>exact⟨0,Nat.zero_le _,rfl,Lib.hid rfl,Fr.refl _⟩
         case round=>
          obtain⟨k,hk,rfl,HL4,hfr4⟩:=hrel
          have B3:=B2.fr hfr4
          have F3:=B3.facts
          by_cases hlt4:k<fs.length
          · obtain⟨rfl,hb,hf⟩:=KF.out (by omega)
            obtain⟨g0,g1,g2,g3⟩:=hf k hlt4
            obtain⟨x,hx⟩: ∃ x,filterAt fs k=x:=⟨_,rfl⟩
            rw[hx]at g0 g1 g2 g3
            obtain⟨x0,x1,x2,x3⟩:=x
            simp only[]at g0 g1 g2 g3
            have fr4:Fr w wr:=fr2.trans hfr4
            have q0:=(fr4.cell (p:=⟨bf,_,none⟩) hb).trans g0
            have q1:=(fr4.cell (p:=⟨bf,_,none⟩) hb).trans g1
            have q2:=(fr4.cell (p:=⟨bf,_,none⟩) hb).trans g2
            have q3:=(fr4.cell (p:=⟨bf,_,none⟩) hb).trans g3
            have HX:=Lib.hid hx
            have zr4:=fr4.size
            have HN3:=Lib.hid (HN2.out.fr hfr4)
            clear hf g0 g1 g2 g3 hx
            obtain⟨be,hbe⟩: ∃ be,(x2.toList==[])=be:=⟨_,rfl⟩
            have HFB:Hid (filB ns x0 x1 x2 x3=(inB ns x0&&(decide (x1=1∨x1=2)&&if be=true then decide (0≤x3∧x3≤99)else decide (x3=0)&&inB ns x2))):=Lib.hid (by unfold filB;rw[hbe])
            have HNO:Hid (filB ns x0 x1 x2 x3=false→qryB out xs fs=false):=Lib.hid fun h=>by rw[HQ3.out,show fiK ns fs fs.length=false from all_no hlt4 (by rw[HX.out];exact h)];simp
            have HYE:Hid (filB ns x0 x1 x2 x3=true→fiK ns fs (k+1)=true):=Lib.hid fun h=>all_step (by rw[HX.out];exact h) HL4.out
            go_wp2_with fail
            refine(l08In_same _ ns x0 _ (HN3.out.fr (by exact Qf))).mono ?_
            rintro e w5 ⟨rfl,rfl⟩
            cases h8:inB ns x0
            · have HN:=Lib.hid (HNO.out (by rw[HFB.out,h8];rfl))
              clear h8
              go_wp2_with fail
              go_ret
              exact⟨ret_bool (by rw[HN.out]),by exact Qf⟩
            · have H8:=Lib.hid h8
              clear h8
              go_wp2_with fail
              refine(l01In_any _ _ _ _).mono ?_
              rintro e w6 ⟨rfl,rfl⟩
              obtain⟨oo,hoo⟩: ∃ oo,decide (1≤x1∧x1≤2)=oo:=⟨_,rfl⟩
              rw[hoo]
              have HOO:Hid (decide (x1=1∨x1=2)=oo):=Lib.hid (by rw[← hoo,Bool.eq_iff_iff];simp;omega)
              clear hoo
              cases oo
              · have HN:=Lib.hid (HNO.out (by rw[HFB.out,HOO.out];simp))
                go_wp2_with fail
                go_ret
                exact⟨ret_bool (by rw[HN.out]),by exact Qf⟩
              · cases be
                · go_wp2_with fail
                  refine(l08In_same _ ns x2 _ (HN3.out.fr (by exact Qf))).mono ?_
                  rintro e w7 ⟨rfl,rfl⟩
                  cases h9:inB ns x2
                  · have HN:=Lib.hid (HNO.out (by rw[HFB.out,h9];simp))
                    clear h9
                    go_wp2_with fail
                    go_ret
                    exact⟨ret_bool (by rw[HN.out]),by exact Qf⟩
                  · have H9:=Lib.hid h9
                    clear h9
                    by_cases h0:x3=0
                    · subst h0
                      have HY:=Lib.hid (HYE.out (by rw[HFB.out,H8.out,H9.out,HOO.out];rfl))
                      go_wp2_with fail
                      refine(l01In_any _ _ _ _).mono ?_
                      rintro e w8 ⟨rfl,rfl⟩
                      go_wp2_with fail
                      go_roundw
                      case rel=>exact⟨k+1,by omega,by go_num,HY,by exact Qf⟩
                      case measure=>(simp[intOf];omega)
                    · have g1:(x3 !=0)=true:=by simp[h0]
                      have HN:=Lib.hid (HNO.out (by rw[HFB.out,decide_eq_false h0];simp))
                      clear h0
                      go_wp2_with fail
                      go_ret
                      exact⟨ret_bool (by rw[HN.out]),by exact Qf⟩
                · go_wp2_with fail
                  refine(l01In_any _ _ _ _).mono ?_
                  rintro e w7 ⟨rfl,rfl⟩
                  obtain⟨o3,ho3⟩: ∃ o3,decide (0≤x3∧x3≤99)=o3:=⟨_,rfl⟩
                  rw[ho3]
                  have HO3:=Lib.hid ho3
                  clear ho3
                  cases o3
                  · have HN:=Lib.hid (HNO.out (by rw[HFB.out,HO3.out];simp))
                    go_wp2_with fail
                    go_ret
                    exact⟨ret_bool (by rw[HN.out]),by exact Qf⟩
                  · have HY:=Lib.hid (HYE.out (by rw[HFB.out,H8.out,HOO.out,HO3.out];rfl))
                    go_wp2_with fail
                    go_roundw
                    case rel=>exact⟨k+1,by omega,by go_num,HY,by exact Qf⟩
                    case measure=>(simp[intOf];omega)
          · obtain rfl:k=fs.length:=by omega
            go_wp2_with fail
            go_ret
            exact⟨ret_bool (by rw[HQ3.out,HL4.out];simp<;>omega),by exact Qf⟩
 · have HN:Hid (qryB out xs fs=false):=Lib.hid (by
    unfold qryB
    by_cases a1:1≤xs.length∧xs.length≤4
    · by_cases a2:fs.length≤3
      · rw[decide_eq_false (fun a3:1≤out.length∧out.length≤4=>h1 ⟨a1,a2,a3⟩)];simp
      · rw[decide_eq_false a2];simp
    · rw[decide_eq_false a1];simp)
   go_enter Tryz.func68,Tryz.ntmps68
   go_wp2_with(go_at_call 69;refine(l01In_any _ _ _ _).mono ?_;rintro e w1 ⟨rfl,rfl⟩)
   all_goals first|(exfalso;simp at *; omega)|(go_ret;exact⟨ret_bool (by rw[HN.out]),by exact Qf⟩)
theorem atoms_sz {d:QueryD} (hn:d.bulk≤1048576): ∀ k,k<d.f2.length→(atomAt d.f2 k).f0.size≤1048576∧(atomAt d.f2 k).f1.size≤1048576∧(atomAt d.f2 k).f2.size≤1048576:=fun k hk=>by
 have h1:=sumAtom_succ d.f2 k hk
 have h2:=sumAtom_le d.f2 (k+1)
 unfold QueryD.bulk AtomsBulk at hn
 unfold AtomR.bulk at h1
 omega
theorem specQueryOk_d (v:Value) (d:QueryD) (w:World) (hv:QueryRd w v d) (hn:d.bulk≤1048576):
  Calls Tryz.prog 68 #[v] w fun e w'=>e= .returned (.bool (qryD d))∧Fr w w':=by
 obtain⟨u1,u2,u3,rfl,r1,r2,r3⟩:=hv
 exact specQueryOk_any d.f0 u1 u2 u3 d.f1 d.f2 d.f3 w r1 r2 r3 (atoms_sz hn)
theorem implQueryOk_d (v:Value) (d:QueryD) (w:World) (hv:QueryRd w v d) (hn:d.bulk≤1048576):
  Calls Tryz.prog 63 #[v] w fun e w'=>e= .returned (.bool (qryD d))∧Fr w w':=by
 obtain⟨u1,u2,u3,rfl,r1,r2,r3⟩:=hv
 exact implQueryOk_any d.f0 u1 u2 u3 d.f1 d.f2 d.f3 w r1 r2 r3 (atoms_sz hn)
set_option maxHeartbeats 8000000 in
set_option maxRecDepth 100000 in
theorem specStartWalks_any (gv qv:Value) (g:GraphD) (q:QueryD) (k n:Int) (w:World) (hg:GraphRd w gv g) (hq:QueryRd w qv q) (hn:q.bulk≤1048576):
  Calls Tryz.prog 20 #[gv,qv,.int .i64 k,.int .i64 n] w fun e w'=> ∃ ao cap,e= .returned (.slice ao (staL g q k n).length cap)∧WalksW w' w.heap.size w'.heap.size (.slice ao (staL g q k n).length cap) (staL g q k n)∧Fr w w':=by
 obtain⟨gb,hgb⟩: ∃ gb,graphB g=gb:=⟨_,rfl⟩;obtain⟨qb,hqb⟩: ∃ qb,qryD q=qb:=⟨_,rfl⟩;have HG:=Lib.hid hg;have HQ:=Lib.hid hq;obtain⟨i0,hi,hz0,hz1,hz2⟩:=info_parts info_Walk
 have CG:Hid (∀ w',Fr w w'→Calls Tryz.prog 67 #[gv] w' fun e w''=>e= .returned (.bool gb)∧Fr w' w''):=Lib.hid fun w' h=>by obtain⟨u,rfl,he⟩:=HG.out;rw[← hgb];exact specGraphOk_any u g.f0 g.f1 w' (he.fr h)
 have CQ:Hid (∀ w',Fr w w'→Calls Tryz.prog 68 #[qv] w' fun e w''=>e= .returned (.bool qb)∧Fr w' w''):=Lib.hid fun w' h=>by rw[← hqb];exact specQueryOk_d qv q w' (HQ.out.fr h) hn
 have CO:Hid (∀ w',Fr w w'→Calls Tryz.prog 76 #[gv,.int .i64 k,.int .i64 n] w' fun e w''=> ∃ v,e= .returned v∧IntsO w'' w'.heap.size v (ownL g k n)∧Fr w' w''):=Lib.hid fun w' h=>by obtain⟨u,rfl,he⟩:=HG.out;exact specOwned_any g u k n w' (he.fr h)
 obtain⟨ue,rfl,he⟩:=hg;obtain⟨ae,be,oe,ce,rfl,hce,hme,fe⟩:=he.one;obtain⟨u1,u2,u3,rfl,r1,r2,r3⟩:=hq;obtain⟨ao,bo,oo,co,rfl,hco,hmo,ko⟩:=r1.one;obtain⟨ax,bx,ox,cx,rfl,hcx,hmx,kx⟩:=r2.one;obtain⟨af,bf,of,cf,rfl,hcf,hmf,kf⟩:=r3.one;clear he fe r1 r2 r3 ko kx kf
 clear HG HQ hn
 have HME:Hid (WalksW ((((w.alloc (.cells #[.int .i64 g.f0,.slice ae g.f1.length ce] 26)).alloc (.cells #[.bool q.f0,.slice ao q.f1.length co,.slice ax q.f2.length cx,.slice af q.f3.length cf] 31)).alloc (.cells #[] 48))) (w.heap.size+1+1) (w.heap.size+1+1+1) (.slice (some ⟨w.heap.size+1+1,0,none⟩) 0 0) []):=Lib.hid ⟨made_empty (by simp) (Nat.le_refl _),RowIn.one (Nat.le_refl _) (by omega)⟩
 cases gb
 · have HL:Hid (staL g q k n=[]):=Lib.hid (by unfold staL;rw[if_neg];rintro⟨h,_⟩;rw[hgb]at h;cases h)
   clear hgb hqb
   go_enter Tryz.func20,Tryz.ntmps20
   go_wp2_with fail
   refine(CG.out _ (by exact Qf)).mono ?_
   rintro e w1 ⟨rfl,hf1⟩
   have z1:=hf1.size
   (try simp only[World.size_alloc]at z1)
   go_wp2_with fail
   go_ret
   refine⟨_,_,by rw[HL.out];try rfl,?_,by exact Qf⟩
   rw[HL.out]
   exact OwW.mono (OwW.fr HME.out hf1) (by omega) (by omega)
 cases qb
 · have HL:Hid (staL g q k n=[]):=Lib.hid (by unfold staL;rw[if_neg];rintro⟨_,h⟩;rw[hqb]at h;cases h)
   clear hgb hqb
   go_enter Tryz.func20,Tryz.ntmps20
   go_wp2_with fail
   refine(CG.out _ (by exact Qf)).mono ?_
   rintro e w1 ⟨rfl,hf1⟩
   have B1:Box w1 (w.heap.size+1) #[.bool q.f0,.slice ao q.f1.length co,.slice ax q.f2.length cx,.slice af q.f3.length cf] 31:=Box.fr (Box.alloc (Box.new' (by simp)) _) hf1
   have F1:=B1.facts
   have z1:=hf1.size
   (try simp only[World.size_alloc]at z1)
   go_wp2_with fail
   refine(CQ.out _ (by exact Qf)).mono ?_
   rintro e w2 ⟨rfl,hf2⟩
   have z2:=hf2.size
   go_wp2_with fail
   go_ret
   refine⟨_,_,by rw[HL.out];try rfl,?_,by exact Qf⟩
   rw[HL.out]
   exact OwW.mono (OwW.fr (OwW.fr HME.out hf1) hf2) (by omega) (by omega)
 obtain⟨ow,how⟩: ∃ ow,ownL g k n=ow:=⟨_,rfl⟩
 have hol:ow.length≤12:=by rw[← how];exact ownL_len
 have HL:Hid (staL g q k n=staK ow q.f2.length):=Lib.hid (by unfold staL;rw[if_pos ⟨hgb,hqb⟩,how])
 have hx4:q.f2.length≤4:=(qryB_atoms hqb).1.2
 rw[how]at CO
 clear hgb hqb how
 go_enter Tryz.func20,Tryz.ntmps20
 go_wp2_with fail
 refine(CG.out _ (by exact Qf)).mono ?_
 rintro e w1 ⟨rfl,hf1⟩
 have A1:Box w1 w.heap.size #[.int .i64 g.f0,.slice ae g.f1.length ce] 26:=Box.fr (Box.alloc (Box.alloc (Box.new _ _ _) _) _) hf1
 have B1:Box w1 (w.heap.size+1) #[.bool q.f0,.slice ao q.f1.length co,.slice ax q.f2.length cx,.slice af q.f3.length cf] 31:=Box.fr (Box.alloc (Box.new' (by simp)) _) hf1
 have F1:=B1.facts
 have G1:=A1.facts
 have HM1:=Lib.hid (WalksW.fr HME.out hf1)
 have z1:=hf1.size
 (try simp only[World.size_alloc]at z1)
 go_wp2_with fail
 refine(CQ.out _ (by exact Qf)).mono ?_
 rintro e w2 ⟨rfl,hf2⟩
 have A2:=A1.fr hf2
 have B2:=B1.fr hf2
 have F2:=B2.facts
 have G2:=A2.facts
 have HM2:=Lib.hid (WalksW.fr HM1.out hf2)
 have z2:=hf2.size
 go_wp2_with fail
 refine(CO.out _ (by exact Qf)).mono ?_
 rintro e w3 ⟨v3,rfl,hO,hf3⟩
 obtain⟨a3,c3,rfl⟩:=hO.val
 have B3:=B2.fr hf3
 have HM3:=Lib.hid (WalksW.fr HM2.out hf3)
 have z3:=hf3.size
 have hf03:Fr w w3:=by exact Qf
 have HO:=Lib.hid hO
 clear hO F1 F2 G1 G2 A1 A2 B1 B2 HME HM1 HM2 CG CQ CO
 have F3:=B3.facts
 go_wp2_with fail
 go_loopw [9,11] (fun o i wr=> ∃ (j c:Nat) (a:Option Addr) (l:List WalkR),j≤q.f2.length∧i= .int .i64 j∧o= .slice a l.length c∧Hid (l=staK ow j)∧Hid (WalksW wr (w.heap.size+1+1) wr.heap.size (.slice a l.length c) l)∧Hid (Off w2.heap.size w3.heap.size (.slice a l.length c))∧Hid (Ab w2.heap.size w3 wr)∧Box wr (w.heap.size+1) #[.bool q.f0,.slice ao q.f1.length co,.slice ax q.f2.length cx,.slice af q.f3.length cf] 31∧Fr w wr) (fun _ i _=>q.f2.length-(intOf i).toNat)
 case atStart=>exact⟨0,0,_,[],Nat.zero_le _,rfl,rfl,Lib.hid rfl,Lib.hid (OwW.mono HM3.out (Nat.le_refl _) (by omega)),Lib.hid (Off.below (l:=0) (RowIn.mono HM3.out.2 (by omega) (by omega))),Lib.hid (Ab.refl _ _),B3,hf03⟩
 case round=>
  clear HM3 B3 F3
  obtain⟨j,c,a,l,hj,rfl,rfl,HE,HW,HF,HA,hB,hfr⟩:=hrel
  have FB:=hB.facts
  have zr:=hfr.size
  have hz3:=HA.out.1
  by_cases hlt:j<q.f2.length
  · go_wp2_with fail
    obtain⟨wo,rfl⟩: ∃ wo:World,wo=wr:=⟨_,rfl⟩
    go_loopw [9,12] (fun o i wr=> ∃ (p c:Nat) (a:Option Addr) (l:List WalkR),p≤ow.length∧i= .int .i64 p∧o= .slice a l.length c∧Hid (l=staTo ow j p)∧Hid (WalksW wr (w.heap.size+1+1) wr.heap.size (.slice a l.length c) l)∧Hid (Off w2.heap.size w3.heap.size (.slice a l.length c))∧Hid (Ab w2.heap.size w3 wr)∧Box wr (w.heap.size+1) #[.bool q.f0,.slice ao q.f1.length co,.slice ax q.f2.length cx,.slice af q.f3.length cf] 31∧Fr w wr) (fun _ i _=>ow.length-(intOf i).toNat)
    case atStart=>exact⟨0,c,a,l,Nat.zero_le _,rfl,rfl,Lib.hid (by rw[staTo_0];exact HE.out),HW,HF,HA,hB,hfr⟩
    case round=>
     clear HE HW HF HA hB FB zr hz3 hfr
     obtain⟨p,c,a,l,hp,rfl,rfl,HE,HW,HF,HA,hB,hfr⟩:=hrel
     have FB:=hB.facts
     have zr:=hfr.size
     have hz3:=HA.out.1
     by_cases hltp:p<ow.length
     · obtain⟨bb,hbb⟩:=IntsO.get (IntsO.ab HO.out HA.out)
       obtain⟨rfl,hb1,hb2,hb3⟩:=hbb (by omega)
       have c0:=hb3 p hltp
       obtain⟨x,hx⟩: ∃ x,iAt ow p=x:=⟨_,rfl⟩
       rw[hx]at c0
       have HS:Hid (l++[⟨(j:Int),x,x,0⟩]=staTo ow j (p+1)):=Lib.hid (by rw[HE.out,staTo_step hltp,hx])
       have HLN:=Lib.hid (show(l++[(⟨(j:Int),x,x,0⟩:WalkR)]).length=l.length+1 by simp)
       have hll:l.length≤60:=by
        rw[HE.out]
        have:=staTo_len (ow:=ow) (m:=j) (k:=p)
        have h2:(j+1)*ow.length≤4*12:=Nat.mul_le_mul (by omega) hol
        omega
       have HCA:=Lib.hid (wlk_snoc l ⟨(j:Int),x,x,0⟩)
       clear hb3 hx hbb
       go_wp2_with fail
       go_region_law((refine step_append_rd (by rfl) _ _ 43 (by rfl) (w.heap.size+1+1) 48 i0 (.agg #[.int .i64 0,.int .i64 0,.int .i64 0,.int .i64 0]) 4 32 Tryz.underlying43 hi hz0 hz1 hz2 rfl (by decide) (.slice a l.length c) l.length (l.flatMap WalkR.cells) (by rfl) ((OwW.alloc (OwW.drew HW.out) _).1) _ 1 [.int .i64 (j:Int),.int .i64 x,.int .i64 x,.int .i64 0] (by rfl) (RdS.new (by first|rfl|(simp;done)) rfl) (by simp[Value.oneCell']) (by unfold maxLen;omega) (by omega) (by exact Qz) ?_;intro a6 c6 w6 hown hgrow hat))
       all_goals
        have z6:=hgrow.size
        (try simp only[World.size_alloc,World.size_drew]at z6)
        have hB6:=Box.gr (Box.alloc hB.drew _) hgrow (fun e=>by have:=HW.out.2 _ e;omega)
        have hf6:Fr w w6:=Fr.app (by exact Qf) hgrow HW.out.2 (by omega)
        have HA6:=Lib.hid (Ab.gr2 (show Ab w2.heap.size w3 _ from(HA.out.drew).alloc _) hgrow HF.out)
        have HF6:=Lib.hid (Off.app HF.out hat (by simp;omega))
        have HW6:Hid (WalksW w6 (w.heap.size+1+1) w6.heap.size (.slice a6 (l++[(⟨(j:Int),x,x,0⟩:WalkR)]).length c6) (l++[⟨(j:Int),x,x,0⟩])):=Lib.hid (by
         have:=OwW.of_owns hown
         rw[← HCA.out, ← HLN.out]at this
         exact this)
        go_wp2_with fail
        go_roundw
        case rel=>exact⟨p+1,c6,a6,l++[⟨(j:Int),x,x,0⟩],by omega,by go_num,by rw[HLN.out],HS,HW6,by rw[HLN.out];exact HF6,HA6,hB6,hf6⟩
        case measure=>(simp[intOf];omega)
     · obtain rfl:p=ow.length:=by omega
       go_wp2_with fail
       go_roundw
       case rel=>exact⟨j+1,c,a,l,by omega,by go_num,rfl,Lib.hid (by rw[HE.out,staTo_all]),HW,HF,HA,hB,hfr⟩
       case measure=>(simp[intOf];omega)
  · obtain rfl:j=q.f2.length:=by omega
    go_wp2_with fail
    go_ret
    refine⟨_,_,by rw[HL.out, ← HE.out];try rfl,?_,hfr⟩
    rw[HL.out, ← HE.out]
    exact OwW.mono HW.out (by omega) (Nat.le_refl _)
end Go.Proofs.YtjnahjgncmcmdaaGreat