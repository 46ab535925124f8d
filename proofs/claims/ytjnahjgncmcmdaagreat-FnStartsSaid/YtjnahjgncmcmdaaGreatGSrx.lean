/- Texts in one: Prr, Srd, Srw, Srx. -/
import Derived.Test.YtjnahjgncmcmdaaGreatGPri
import Derived.Test.YtjnahjgncmcmdaaGreatGPrx
namespace Go.Proofs.YtjnahjgncmcmdaaGreat
open Go.RowKit
set_option linter.unusedVariables false
set_option linter.unusedSimpArgs false
def zipP:List PieceD→List Value→List (List Value)
 |d::ps,u::us=>[.int .i64 d.f0,.int .u8 (d.f1.toNat:Int),u]::zipP ps us
 |_,_=>[]
theorem zipP_flat: ∀ (ps:List PieceD) (us:List Value),(zipP ps us).flatten=pcells ps us
 |[],[]=>rfl
 |[],_::_=>rfl
 |_::_,[]=>rfl
 |d::ps,u::us=>by
  rw[zipP,pcells,List.flatten_cons,zipP_flat ps us]
  rfl
theorem zipP_len: ∀ (ps:List PieceD) (us:List Value),us.length=ps.length→(zipP ps us).length=ps.length
 |[],[],_=>rfl
 |[],_::_,h=>by simp at h
 |_::_,[],h=>by simp at h
 |d::ps,u::us,h=>by
  rw[zipP,List.length_cons,List.length_cons,zipP_len ps us (by simpa using h)]
theorem zipP_at: ∀ (ps:List PieceD) (us:List Value) (k:Nat) (c:List Value) (x:PieceD),us.length=ps.length→(zipP ps us)[k]? =some c→ps[k]? =some x→c=[.int .i64 x.f0,.int .u8 (x.f1.toNat:Int),nAt us k]
 |[],_,k,c,x,_,_,h=>by simp at h
 |_::_,[],_,_,_,h,_,_=>by simp at h
 |d::ps,u::us,0,c,x,_,h1,h2=>by
  simp[zipP]at h1 h2
  subst h2
  rw[← h1]
  rfl
 |d::ps,u::us,k+1,c,x,h,h1,h2=>by
  simp[zipP]at h1 h2
  have:=zipP_at ps us k c x (by simpa using h) h1 h2
  rw[this]
  congr 1
theorem Prd.rd {w:World} {lo:Nat} {v:Value} {ps:List PieceD} {us:List Value} (h:Prd w lo v ps us):PiecesR w v ps:=by
 refine⟨zipP ps us,zipP_len _ _ h.len,?_,fun k c x hc hx=>?_⟩
 · rw[zipP_flat]
   exact RdS.of_owns h.own
 · have e:=zipP_at ps us k c x h.len hc hx
   have hk:k<ps.length:=(List.getElem?_eq_some_iff.1 hx).1
   have ex:nAt ps k=x:=by
    have:=nAt_get hk
    rw[hx]at this
    exact(Option.some.inj this).symm
   refine⟨by rw[e];rfl,nAt us k,e,?_⟩
   rw[← ex]
   exact IntsO.rd (h.kid k hk).1
theorem PiecesR.nil (w:World):PiecesR w (.slice none 0 0) []:=(Prd.none w 0).rd
theorem Two.fr_new {w w1 w2:World} {b:Nat} (h1:Fr w w1) (hb:w.heap.size≤b) (h:Two b none w1 w2):Fr w w2:=
 ⟨h.os.trans h1.out.os,h.tape.trans h1.out.tape,h.output.trans h1.out.output,Nat.le_trans h1.size h.size,fun i hi=>by
  rw[h.block i (Nat.lt_of_lt_of_le hi h1.size) (by omega) (fun e=>by cases e)]
  exact h1.out.block i hi⟩
set_option maxHeartbeats 8000000 in
set_option maxRecDepth 100000 in
theorem implReadPath_any (t:ByteArray) (w:World) (ht:t.size≤9223372036854775807):
  Calls Tryz.prog 99 #[.string t] w fun e w'=> ∃ v,e= .returned (.tuple #[.agg #[v],.bool (rpM t).2])∧PiecesR w' v (rpM t).1∧Fr w w':=by
 by_cases hs:20<t.size
 · have HM:Hid (rpM t=([],false)):=Lib.hid (by unfold rpM;rw[if_pos hs])
   have q:decide (20<(t.size:Int))=true:=decide_eq_true (by omega)
   clear hs
   go_enter Tryz.func99,Tryz.ntmps99
   go_wp2_with fail
   refine bodyPost_ret (v:= .tuple #[.agg #[.slice none 0 0],.bool false]) (by simp[results,Tryz.results99,go_sem, *]) rfl ?_
   rw[HM.out]
   exact⟨_,rfl,PiecesR.nil _,by exact Qf⟩
 · have q:decide (20<(t.size:Int))=false:=decide_eq_false (by omega)
   have hs2:t.size≤20:=by omega
   obtain⟨F,hFF⟩: ∃ F:Nat,F=100:=⟨_,rfl⟩
   have hM:rpM t=rpG t (prs t F (.expr []) 0 []):=by unfold rpM;rw[if_neg hs,hFF]
   obtain⟨R,hR⟩: ∃ R,prs t F (.expr []) 0 []=R:=⟨_,rfl⟩
   have HM:Hid (rpM t=rpG t R):=Lib.hid (by rw[hM,hR])
   clear hM
   have CE:Hid (∀ w',Box w' (w.heap.size+1) #[.string t,.int .i64 0,.slice none 0 0] 199→Calls Tryz.prog 158 #[.pointer (some ⟨w.heap.size+1,0,none⟩)] w' (RPost (w.heap.size+1) (w.heap.size+2) t (.slice none 0 0) [] w' R)):=Lib.hid fun w' h=>by
    have:=(reader_any t (by omega) F).2.2 (w.heap.size+1) (w.heap.size+2) 0 (.slice none 0 0) [] [] w' h (by omega) (by have:=h.lt;omega) (Prd.none _ _) (by omega) (by omega) (by simp;omega)
    rw[hR]at this
    exact this
   clear hs hR hFF
   cases R with
   |none=>
    go_enter Tryz.func99,Tryz.ntmps99
    go_wp2_with fail
    refine(CE.out _ (Box.new' (by simp))).mono ?_
    rintro e w1 ⟨rfl,ht1⟩
    have HF:Fr w w1:=Two.fr_new (b:=w.heap.size+1) (by exact Qf) (by omega) ht1
    have B0:Box w1 w.heap.size #[.slice none 0 0] 140:=ht1.box ((Box.new _ _ _).alloc _) (by omega) (by simp[Value.ownBlock])
    have F0:=B0.facts
    clear ht1
    go_wp2_with fail
    refine bodyPost_ret (v:= .tuple #[.agg #[.slice none 0 0],.bool false]) (by simp[results,Tryz.results99,go_sem, *]) rfl ?_
    rw[HM.out]
    exact⟨_,rfl,PiecesR.nil _,by exact Qf⟩
   |some r=>
    obtain⟨k,a,ps⟩:=r
    have HM2:Hid (rpM t=if a=t.size∧pathB ps=true then(ps,true)else([],false)):=HM
    clear HM
    go_enter Tryz.func99,Tryz.ntmps99
    go_wp2_with fail
    refine(CE.out _ (Box.new' (by simp))).mono ?_
    rintro e w1 ⟨rfl,v',us',hb1,hp1,hg1,_⟩
    have HF:Fr w w1:=Two.fr_new (b:=w.heap.size+1) (by exact Qf) (by omega) hg1.two
    have HP:=Lib.hid hp1.rd
    have HPr:=Lib.hid hp1
    have hlen:ps.length≤9223372036854775807:=NestR.le HP.out
    have F1:=hb1.facts
    have B0:Box w1 w.heap.size #[.slice none 0 0] 140:=hg1.two.box ((Box.new _ _ _).alloc _) (by omega) (by simp[Value.ownBlock])
    have F0:=B0.facts
    obtain⟨av,cv,rfl⟩:=hp1.val
    clear hg1 hp1 hb1
    by_cases ha:a=t.size
    · subst ha
      have CP:Hid (∀ w',Fr w1 w'→Calls Tryz.prog 159 #[.agg #[.slice av ps.length cv]] w' fun e w''=>e= .returned (.bool (pathB ps))∧Fr w' w''):=Lib.hid fun w' h=>implPathOk_any _ ps w' (HP.out.fr h)
      obtain⟨pb,hpb⟩: ∃ pb,pathB ps=pb:=⟨_,rfl⟩
      rw[hpb]at CP HM2
      clear hpb
      cases pb
      · go_wp2_with fail
        refine(CP.out _ (by exact Qf)).mono ?_
        rintro e w2 ⟨rfl,hf2⟩
        have F02:=(B0.fr hf2).facts
        go_wp2_with fail
        refine bodyPost_ret (v:= .tuple #[.agg #[.slice none 0 0],.bool false]) (by simp[results,Tryz.results99,go_sem, *]) rfl ?_
        rw[HM2.out,if_neg (by simp)]
        exact⟨_,rfl,PiecesR.nil _,by exact Qf⟩
      · go_wp2_with fail
        refine(CP.out _ (by exact Qf)).mono ?_
        rintro e w2 ⟨rfl,hf2⟩
        have F02:=(B0.fr hf2).facts
        have k2:=hf2.blk (w.heap.size+1) (by exact Qz)
        go_wp2_with fail
        refine bodyPost_ret (v:= .tuple #[.agg #[.slice av ps.length cv],.bool true]) (by simp[results,Tryz.results99,go_sem, *]) rfl ?_
        rw[HM2.out,if_pos (by simp)]
        exact⟨_,rfl,(Prd.set (HPr.out.fr hf2) (by show w.heap.size<w.heap.size+2;omega) _).rd,by exact Qf⟩
    · have q2:((a:Int) !=(t.size:Int))=true:=by rw[bne_iff_ne];omega
      have HM3:Hid (rpM t=([],false)):=Lib.hid (by rw[HM2.out,if_neg (fun h=>ha h.1)])
      clear ha
      go_wp2_with fail
      refine bodyPost_ret (v:= .tuple #[.agg #[.slice none 0 0],.bool false]) (by simp[results,Tryz.results99,go_sem, *]) rfl ?_
      rw[HM3.out]
      exact⟨_,rfl,PiecesR.nil _,by exact Qf⟩
/-- The reference's reader: as prs, but a row ends only at the end, at a bar, at a closing bracket. -/
def srs (t:ByteArray):Nat→Job→Nat→List PieceD→Option (Int×Nat×List PieceD)
 |0,_,_,_=>none
 |f+1,.item,a,ps=>
  if nx t a=40 then
   match srs t f (.expr []) (a+1) ps with
   |none=>none
   |some (k,a1,ps1)=>if nx t a1=41 then srs t f (.post k) (a1+1) ps1 else none
  else srs t f (.post (ps.length:Int)) (a+1) (ps++[⟨1,UInt8.ofNat (nx t a),[]⟩])
 |f+1,.post k,a,ps=>
  if nx t a=42 then srs t f (.post (ps.length:Int)) (a+1) (ps++[⟨4,0,[k]⟩])
  else if nx t a=43 then srs t f (.post (ps.length:Int)) (a+1) (ps++[⟨5,0,[k]⟩])
  else if nx t a=63 then srs t f (.post (ps.length:Int)) (a+1) (ps++[⟨6,0,[k]⟩])
  else some (k,a,ps)
 |f+1,.alt ks,a,ps=>
  if isLab (nx t a)=true∨nx t a=40 then
   match srs t f .item a ps with
   |none=>none
   |some (k,a1,ps1)=>srs t f (.alt (ks++[k])) a1 ps1
  else if ks.length=0 then none else if t.size≤a∨nx t a=124∨nx t a=41 then some ((grp 2 ks ps).1,a,(grp 2 ks ps).2)else none
 |f+1,.expr ks,a,ps=>
  match srs t f (.alt []) a ps with
  |none=>none
  |some (k,a1,ps1)=>
   if nx t a1=124 then srs t f (.expr (ks++[k])) (a1+1) ps1
   else some ((grp 3 (ks++[k]) ps1).1,a1,(grp 3 (ks++[k]) ps1).2)
theorem srs_prs (t:ByteArray): ∀ (f:Nat) (j:Job) (a:Nat) (ps:List PieceD) (r:Int×Nat×List PieceD),srs t f j a ps=some r→prs t f j a ps=some r:=by
 intro f
 induction f with
 |zero=>intro j a ps r h;rw[srs]at h;cases h
 |succ f ih=>
  intro j a ps r h
  cases j with
  |item=>
   rw[srs]at h
   rw[prs]
   split at h
   · rename_i h40
     rw[if_pos h40]
     cases hE:srs t f (.expr []) (a+1) ps with
     |none=>rw[hE]at h;cases h
     |some q=>
      obtain⟨k2,a2,ps2⟩:=q
      rw[hE]at h
      rw[ih _ _ _ _ hE]
      simp only[]at h ⊢
      split at h
      · rename_i h41
        rw[if_pos h41]
        exact ih _ _ _ _ h
      · cases h
   · rename_i h40
     rw[if_neg h40]
     exact ih _ _ _ _ h
  |post k0=>
   rw[srs]at h
   rw[prs]
   split at h
   · rename_i e
     rw[if_pos e]
     exact ih _ _ _ _ h
   · rename_i e
     rw[if_neg e]
     split at h
     · rename_i e
       rw[if_pos e]
       exact ih _ _ _ _ h
     · rename_i e
       rw[if_neg e]
       split at h
       · rename_i e
         rw[if_pos e]
         exact ih _ _ _ _ h
       · rename_i e
         rw[if_neg e]
         exact h
  |alt ks=>
   rw[srs]at h
   rw[prs]
   split at h
   · rename_i hc
     rw[if_pos hc]
     cases hE:srs t f .item a ps with
     |none=>rw[hE]at h;cases h
     |some q=>
      obtain⟨k2,a2,ps2⟩:=q
      rw[hE]at h
      rw[ih _ _ _ _ hE]
      simp only[]at h ⊢
      exact ih _ _ _ _ h
   · rename_i hc
     rw[if_neg hc]
     split at h
     · cases h
     · rename_i hk
       rw[if_neg hk]
       split at h
       · exact h
       · cases h
  |expr ks=>
   rw[srs]at h
   rw[prs]
   cases hE:srs t f (.alt []) a ps with
   |none=>rw[hE]at h;cases h
   |some q=>
    obtain⟨k2,a2,ps2⟩:=q
    rw[hE]at h
    rw[ih _ _ _ _ hE]
    simp only[]at h ⊢
    split at h
    · rename_i e
      rw[if_pos e]
      exact ih _ _ _ _ h
    · rename_i e
      rw[if_neg e]
      exact h
/-- Where a job may end so that the reference's reader ends there too. -/
def Job.endsAt (t:ByteArray) (a:Nat):Job→Prop
 | .item=>True
 | .post _=>True
 | .alt _=>t.size≤a∨nx t a=124∨nx t a=41
 | .expr _=>t.size≤a∨nx t a=41
theorem prs_srs (t:ByteArray): ∀ (f:Nat) (j:Job) (a:Nat) (ps:List PieceD) (k:Int) (a1:Nat) (ps1:List PieceD),prs t f j a ps=some (k,a1,ps1)→j.endsAt t a1→srs t f j a ps=some (k,a1,ps1):=by
 intro f
 induction f with
 |zero=>intro j a ps k a1 ps1 h;rw[prs]at h;cases h
 |succ f ih=>
  intro j a ps k a1 ps1 h he
  cases j with
  |item=>
   rw[prs]at h
   rw[srs]
   split at h
   · rename_i h40
     rw[if_pos h40]
     cases hE:prs t f (.expr []) (a+1) ps with
     |none=>rw[hE]at h;cases h
     |some q=>
      obtain⟨k2,a2,ps2⟩:=q
      rw[hE]at h
      simp only[]at h
      split at h
      · rename_i h41
        rw[ih _ _ _ _ _ _ hE (.inr h41)]
        simp only[]
        rw[if_pos h41]
        exact ih _ _ _ _ _ _ h trivial
      · cases h
   · rename_i h40
     rw[if_neg h40]
     exact ih _ _ _ _ _ _ h trivial
  |post k0=>
   rw[prs]at h
   rw[srs]
   split at h
   · rename_i e
     rw[if_pos e]
     exact ih _ _ _ _ _ _ h trivial
   · rename_i e
     rw[if_neg e]
     split at h
     · rename_i e
       rw[if_pos e]
       exact ih _ _ _ _ _ _ h trivial
     · rename_i e
       rw[if_neg e]
       split at h
       · rename_i e
         rw[if_pos e]
         exact ih _ _ _ _ _ _ h trivial
       · rename_i e
         rw[if_neg e]
         exact h
  |alt ks=>
   rw[prs]at h
   rw[srs]
   split at h
   · rename_i hc
     rw[if_pos hc]
     cases hE:prs t f .item a ps with
     |none=>rw[hE]at h;cases h
     |some q=>
      obtain⟨k2,a2,ps2⟩:=q
      rw[hE]at h
      rw[ih _ _ _ _ _ _ hE trivial]
      simp only[]at h ⊢
      exact ih _ _ _ _ _ _ h he
   · rename_i hc
     rw[if_neg hc]
     split at h
     · cases h
     · rename_i hk
       rw[if_neg hk]
       cases h
       exact if_pos he
  |expr ks=>
   rw[prs]at h
   rw[srs]
   cases hE:prs t f (.alt []) a ps with
   |none=>rw[hE]at h;cases h
   |some q=>
    obtain⟨k2,a2,ps2⟩:=q
    rw[hE]at h
    simp only[]at h
    split at h
    · rename_i e
      rw[ih _ _ _ _ _ _ hE (.inr (.inl e))]
      simp only[]
      rw[if_pos e]
      exact ih _ _ _ _ _ _ h he
    · rename_i e
      cases h
      rw[ih _ _ _ _ _ _ hE (he.imp id .inr)]
      simp only[]
      rw[if_neg e]
/-- On the whole both read alike. -/
theorem rpG_srs (t:ByteArray) (f:Nat):rpG t (srs t f (.expr []) 0 [])=rpG t (prs t f (.expr []) 0 []):=by
 cases hS:srs t f (.expr []) 0 []with
 |some r=>rw[srs_prs _ _ _ _ _ _ hS]
 |none=>
  cases hP:prs t f (.expr []) 0 []with
  |none=>rfl
  |some r=>
   obtain⟨k,a,ps⟩:=r
   unfold rpG
   simp only[]
   by_cases ha:a=t.size
   · have:=prs_srs t f _ _ _ _ _ _ hP (.inl (by omega))
     rw[hS]at this
     cases this
   · rw[if_neg (fun h=>ha h.1)]
/-- The reader's state behind a call: z is a row that the call was handed. -/
def SrSt (b lo a:Nat) (bd:Bool) (t:ByteArray) (v z:Value) (us:List Value) (ps:List PieceD) (w w':World):Prop:= ∃ v' us',Box w' b #[.string t,.int .i64 (a:Int),.bool bd,v'] 210∧Prd w' lo v' ps us'∧PGo b v v' w w'∧ ∀ y,Old w y→Apt v us y→Apart y z→Apt v' us' y
/-- A loop of the reader: z is its own row of kids. -/
structure Ls (b lo a:Nat) (bd:Bool) (t:ByteArray) (v0:Value) (us0:List Value) (w:World) (z:Value) (ks:List Int) (v:Value) (us:List Value) (ps:List PieceD) (wr:World):Prop where
 box:Box wr b #[.string t,.int .i64 (a:Int),.bool bd,v] 210
 prd:Prd wr lo v ps us
 go:PGo b v0 v w wr
 row:IntsO wr lo z ks
 apt:Apt v us z
 new: ∀ g,z.ownBlock=some g→w.heap.size≤g
 old: ∀ y,Old w y→Apt v0 us0 y→Apt v us y
theorem Ls.start {b lo a:Nat} {bd:Bool} {t:ByteArray} {v:Value} {us:List Value} {ps:List PieceD} {w:World} (hb:Box w b #[.string t,.int .i64 (a:Int),.bool bd,v] 210) (hp:Prd w lo v ps us):Ls b lo a bd t v us w (.slice none 0 0) [] v us ps w:=
 ⟨hb,hp,PGo.of_fr (Fr.refl w),World.ownsRow_nil _ _ _ _,Apt.none _ _,fun g h=>by simp[Value.ownBlock]at h,fun y _ h=>h⟩
theorem Ls.fr {b lo a:Nat} {bd:Bool} {t:ByteArray} {v0 z v:Value} {us0 us:List Value} {ks:List Int} {ps:List PieceD} {w wr w1:World} (h:Ls b lo a bd t v0 us0 w z ks v us ps wr) (hf:Fr wr w1):Ls b lo a bd t v0 us0 w z ks v us ps w1:=
 ⟨h.box.fr hf,h.prd.fr hf,h.go.trans (PGo.of_fr hf),owns_fr h.row hf,h.apt,h.new,h.old⟩
theorem Ls.call {b lo a a1:Nat} {bd bd1:Bool} {t:ByteArray} {v0 z v:Value} {us0 us:List Value} {ks:List Int} {ps ps1:List PieceD} {w wr w1:World} (h:Ls b lo a bd t v0 us0 w z ks v us ps wr) (hlo:b<lo) (hr:SrSt b lo a1 bd1 t v (.slice none 0 0) us ps1 wr w1): ∃ v' us',Ls b lo a1 bd1 t v0 us0 w z ks v' us' ps1 w1:=by
 obtain⟨v',us',h1,h2,h3,h4⟩:=hr
 have hk:=h3.kids h.row h.apt.1 hlo
 have hN: ∀ y:Value,Apart y (.slice none 0 0):=fun y g _ e=>by simp[Value.ownBlock]at e
 exact⟨v',us',h1,h2,h.go.trans h3,hk.1,h4 z (fun g e=>(World.ownsRow.lt h.row g e).2) h.apt (hN z),h.new,fun y hy ha=>h4 y (hy.on h.go.size) (h.old y hy ha) (hN y)⟩
theorem Ls.app {b lo a:Nat} {bd:Bool} {t:ByteArray} {v0 z z' v:Value} {us0 us:List Value} {ks:List Int} {k:Int} {ps:List PieceD} {w wr w1:World} (h:Ls b lo a bd t v0 us0 w z ks v us ps wr) (hlo:b<lo) (hg:wr.grownBy w1 z.ownBlock) (ho:IntsO w1 lo z' (ks++[k])) (hat:z'.ownBlock=z.ownBlock∨ ∃ g,z'.ownBlock=some g∧wr.heap.size≤g):Ls b lo a bd t v0 us0 w z' (ks++[k]) v us ps w1:=by
 have hsz:=h.go.size
 have hmem: ∀ k,k<ps.length→nAt us k∈us:=fun k hk=>by
  have hk':k<us.length:=by rw[h.prd.len];exact hk
  have:nAt us k=us[k]:=by unfold nAt;simp[List.getD,hk']
  rw[this]
  exact List.getElem_mem hk'
 have sym: ∀ {x y:Value},Apart x y→Apart y x:=fun q g h1 h2=>q g h2 h1
 refine⟨h.box.gr hg (fun e=>by have:=(World.ownsRow.lt h.row b e).1;omega),⟨h.prd.len,World.ownsRow.kept h.prd.own hg (Apart.ne (sym h.apt.1)),fun j hj=>⟨World.ownsRow.kept (h.prd.kid j hj).1 hg (Apart.ne (sym (h.apt.2 _ (hmem j hj)))),(h.prd.kid j hj).2⟩⟩,⟨?_,h.go.row⟩,ho,?_,?_,h.old⟩
 · have ht:=h.go.two
   refine⟨hg.os.trans ht.os,hg.tape.trans ht.tape,hg.output.trans ht.output,Nat.le_trans ht.size hg.size,fun i hi h1 h2=>?_⟩
   rw[hg.block i (by omega) (fun e=>by have:=h.new i (by first|exact e|exact e.symm);omega)]
   exact ht.block i hi h1 h2
 · refine⟨fun g h1 h2=>?_,fun u hu g h1 h2=>?_⟩
   · rcases hat with r|⟨g',r,hg'⟩
     · exact h.apt.1 g (r▸h1) h2
     · rw[r]at h1
       cases h1
       have:=(World.ownsRow.lt h.prd.own g h2).2
       omega
   · rcases hat with r|⟨g',r,hg'⟩
     · exact h.apt.2 u hu g (r▸h1) h2
     · rw[r]at h1
       cases h1
       obtain⟨j,hj,rfl⟩:=List.getElem_of_mem hu
       have e1:nAt us j=us[j]:=by unfold nAt;simp[List.getD,hj]
       have:=(World.ownsRow.lt (h.prd.kid j (by rw[← h.prd.len];exact hj)).1 g (by rw[e1];exact h2)).2
       omega
 · intro g e
   rcases hat with r|⟨g',r,hg'⟩
   · exact h.new g (r▸e)
   · rw[r]at e
     cases e
     omega
theorem Ls.at_ {b lo a a1:Nat} {bd bd1:Bool} {t:ByteArray} {v0 z v:Value} {us0 us:List Value} {ks:List Int} {ps:List PieceD} {w wr:World} (h:Ls b lo a bd t v0 us0 w z ks v us ps wr) (hlo:b<lo) {i:Nat} {u:Value} (hb:Box (wr.setCell ⟨b,i,none⟩ u) b #[.string t,.int .i64 (a1:Int),.bool bd1,v] 210):Ls b lo a1 bd1 t v0 us0 w z ks v us ps (wr.setCell ⟨b,i,none⟩ u):=
 ⟨hb,h.prd.set (by show b<lo;exact hlo) _,⟨h.go.two.set i _,h.go.row⟩,owns_set h.row (by show b<lo;exact hlo) _,h.apt,h.new,h.old⟩
theorem Ls.piece {b lo a:Nat} {bd:Bool} {t:ByteArray} {v0 v v' u:Value} {us0 us:List Value} {ps:List PieceD} {x:PieceD} {w wr w1:World} (h:Ls b lo a bd t v0 us0 w (.slice none 0 0) [] v us ps wr) (hu: ∀ g,u.ownBlock=some g→w.heap.size≤g)
  (h1:Box w1 b #[.string t,.int .i64 (a:Int),.bool bd,v'] 210) (h2:Prd w1 lo v' (ps++[x]) (us++[u])) (h3:Two b v.ownBlock wr w1) (h4:v'.ownBlock=v.ownBlock∨ ∃ g,v'.ownBlock=some g∧wr.heap.size≤g):Ls b lo a bd t v0 us0 w (.slice none 0 0) [] v' (us++[u]) (ps++[x]) w1:=
 ⟨h1,h2,h.go.trans ⟨h3,h4⟩,World.ownsRow_nil _ _ _ _,Apt.none _ _,fun g h=>by simp[Value.ownBlock]at h,fun y hy ha=>(h.old y hy ha).snoc (hy.on h.go.size) (fun g e1 e2=>by have:=hy g e1;have:=hu g e2;omega) h4⟩
theorem Ls.done {b lo a a1:Nat} {bd bd1:Bool} {t:ByteArray} {v0 z v:Value} {us0 us:List Value} {ks:List Int} {ps ps1:List PieceD} {w wr w1:World} (h:Ls b lo a bd t v0 us0 w z ks v us ps wr) (hr:SrSt b lo a1 bd1 t v z us ps1 wr w1):SrSt b lo a1 bd1 t v0 (.slice none 0 0) us0 ps1 w w1:=by
 obtain⟨v',us',h1,h2,h3,h4⟩:=hr
 exact⟨v',us',h1,h2,h.go.trans h3,fun y hy ha _=>h4 y (hy.on h.go.size) (h.old y hy ha) fun g e1 e2=>by have:=hy g e1;have:=h.new g e2;omega⟩
/-- The row of kids begins: one kid in a block of its own. -/
theorem Ls.row1 {b lo a:Nat} {bd:Bool} {t:ByteArray} {v0 v:Value} {us0 us:List Value} {ps:List PieceD} {w wr:World} (h:Ls b lo a bd t v0 us0 w (.slice none 0 0) [] v us ps wr) (hlw:lo≤w.heap.size) (k:Int):
  Ls b lo a bd t v0 us0 w (.slice (some ⟨wr.heap.size,0,none⟩) 1 1) [k] v us ps (wr.alloc (.cells #[.int .i64 k] 3)):=by
 have hsz:=h.go.size
 have hf:Fr wr (wr.alloc (.cells #[.int .i64 k] 3)):=(Fr.refl _).alloc _
 have h1:=h.fr hf
 refine⟨h1.box,h1.prd,h1.go,⟨by simp,.inr ⟨wr.heap.size,1, #[.int .i64 k],rfl,by omega,heap_alloc_new wr _,by simp,by unfold maxLen;omega,by simp,by simp⟩⟩,⟨fun g e1 e2=>?_,fun u hu g e1 e2=>?_⟩,fun g e=>?_,h.old⟩
 · cases e1
   exact absurd (World.ownsRow.lt h.prd.own _ e2).2 (Nat.lt_irrefl _)
 · cases e1
   obtain⟨j,hj,rfl⟩:=List.getElem_of_mem hu
   have e3:nAt us j=us[j]:=by unfold nAt;simp[List.getD,hj]
   exact absurd (World.ownsRow.lt (h.prd.kid j (by rw[← h.prd.len];exact hj)).1 _ (by rw[e3];exact e2)).2 (Nat.lt_irrefl _)
 · cases e
   omega
set_option maxHeartbeats 8000000 in
set_option maxRecDepth 100000 in
theorem put_any (b lo a:Nat) (bd:Bool) (t:ByteArray) (v u:Value) (ps:List PieceD) (us:List Value) (x:PieceD) (w:World) (hb:Box w b #[.string t,.int .i64 (a:Int),.bool bd,v] 210) (hlo:b<lo) (hlw:lo≤w.heap.size)
  (hp:Prd w lo v ps us) (hu:IntsO w lo u x.f2) (hau:Apart u v) (hn:ps.length≤1000):
  Calls Tryz.prog 213 #[.pointer (some ⟨b,0,none⟩),.agg #[.int .i64 x.f0,.int .u8 (x.f1.toNat:Int),u]] w fun e w'=> ∃ v',e= .returned (.int .i64 (ps.length:Int))∧Box w' b #[.string t,.int .i64 (a:Int),.bool bd,v'] 210∧Prd w' lo v' (ps++[x]) (us++[u])∧Two b v.ownBlock w w'∧(v'.ownBlock=v.ownBlock∨ ∃ g,v'.ownBlock=some g∧w.heap.size≤g):=by
 obtain⟨i0,hi,hz0,hz1,hz2⟩:=info_parts info_Piece
 obtain⟨ao,cap,rfl⟩:=hp.val
 obtain⟨au,cu,rfl⟩:=owns_val hu
 have hxl:=x.f1.toNat_lt
 have hbl:=hb.lt
 have HP:=Lib.hid hp
 have HU:=Lib.hid hu
 have HO:Hid (w.ownsRow lo 255 3 (.slice ao ps.length cap) ps.length (pcells ps us)):=Lib.hid hp.own
 have hwl:IntKind.i64.wrap ((ps.length:Int)+1-1)=(ps.length:Int):=by rw[show(ps.length:Int)+1-1=ps.length by omega];exact IntWalk.i64_in _ (by omega)
 clear hp hu
 have F:=hb.facts
 have hne1:b≠w.heap.size:=by omega
 have hne2:w.heap.size≠b:=by omega
 go_enter Tryz.func213,Tryz.ntmps213
 go_wp2_with fail
 go_region_law((refine step_append_rd (by rfl) _ _ 138 (by rfl) lo 255 i0 (.agg #[.int .i64 0,.int .u8 0,.slice none 0 0]) 3 40 Tryz.underlying138 hi hz0 hz1 hz2 rfl (by decide) (.slice ao ps.length cap) ps.length (pcells ps us) (by rfl) (by exact owns_lo (owns_ab HO.out (by exact Qa)) (by exact Qz)) _ 1 [.int .i64 x.f0,.int .u8 (x.f1.toNat:Int),.slice au x.f2.length cu] (by rfl) (RdS.drew (RdS.new (by first|rfl|(simp;done)) rfl)) (by simp[Value.oneCell']) (by unfold maxLen;omega) (by omega) (by exact Qz) ?_;intro ay cy w9 hown hgrow hat;have hB9:Box w9 b _ _:=Box.gr (Box.fr hb (by exact Qf)) hgrow (fun e=>by have:=(World.ownsRow.lt HO.out b e).1;omega);have F9:=hB9.facts;have z9:=hgrow.size;(try simp only[World.size_alloc,World.size_drew]at z9)))
 all_goals
  go_wp2_with fail
  go_ret
  have hat2:(Value.slice ay (ps.length+1) cy).ownBlock=(Value.slice ao ps.length cap).ownBlock∨ ∃ g,(Value.slice ay (ps.length+1) cy).ownBlock=some g∧w.heap.size≤g:=by
   rcases hat with h|h
   · exact .inl h
   · exact .inr ⟨_,h,by simp;try omega⟩
  have hP9:=Prd.more HP.out HU.out hau rfl hown (fun z ks hz haz=>World.ownsRow.kept (owns_fr hz (by exact Qf)) hgrow (haz.symm.symm |> fun q=>(Apart.ne q))) hat2
  refine⟨.slice ay (ps.length+1) cy,by first|rfl|(congr 1),?_,?_,?_,hat2⟩
  · first|exact hB9.set_to (by simp)|exact(hB9.set_to (by simp)).drew
  · exact Prd.set hP9 (by show b<lo;omega) _
  · exact Two.set (Two.trans (Two.of_fr (by exact Qf)) (Two.of_gr hgrow)) 3 _
/-- What the reader's item comes to, wherever it is called. -/
def one1 (t:ByteArray) (f a:Nat) (ps:List PieceD):Option (Int×Nat×List PieceD):=if isLab (nx t a)=true∨nx t a=40 then srs t f .item a ps else none
def goA (t:ByteArray) (f:Nat) (ks:List Int) (r:Option (Int×Nat×List PieceD)):Option (Int×Nat×List PieceD):=
 match r with
 |none=>none
 |some (k,a1,ps1)=>srs t f (.alt (ks++[k])) a1 ps1
def goE (t:ByteArray) (f:Nat) (ks:List Int) (r:Option (Int×Nat×List PieceD)):Option (Int×Nat×List PieceD):=
 match r with
 |none=>none
 |some (k,a1,ps1)=>if nx t a1=124 then srs t f (.expr (ks++[k])) (a1+1) ps1 else some ((grp 3 (ks++[k]) ps1).1,a1,(grp 3 (ks++[k]) ps1).2)
theorem srs_expr (t:ByteArray) (f a:Nat) (ks:List Int) (ps:List PieceD):srs t (f+1) (.expr ks) a ps=goE t f ks (srs t f (.alt []) a ps):=by
 rw[srs]
 unfold goE
 cases srs t f (.alt []) a ps with
 |none=>rfl
 |some r=>rfl
theorem srs_alt (t:ByteArray) (f a:Nat) (ks:List Int) (ps:List PieceD) (h:ks.length=0∨ ¬ (t.size≤a∨nx t a=124∨nx t a=41)):srs t (f+1) (.alt ks) a ps=goA t f ks (one1 t f a ps):=by
 rw[srs]
 unfold goA one1
 by_cases hc:isLab (nx t a)=true∨nx t a=40
 · rw[if_pos hc,if_pos hc]
   all_goals (cases srs t f .item a ps<;>rfl)
 · rw[if_neg hc,if_neg hc]
   rcases h with h|h
   · rw[if_pos h]
   · rw[if_neg h]
     split<;>rfl
theorem stop_no {t:ByteArray} {a:Nat} (h:t.size≤a∨nx t a=124∨nx t a=41): ¬ (isLab (nx t a)=true∨nx t a=40):=by
 have e:nx t a=0∨nx t a=124∨nx t a=41:=h.imp nx_end id
 rintro(hc|hc)
 · unfold isLab at hc
   rw[decide_eq_true_eq]at hc
   omega
 · omega
theorem srs_stop (t:ByteArray) (f a:Nat) (ks:List Int) (ps:List PieceD) (hk:ks.length≠0) (h:t.size≤a∨nx t a=124∨nx t a=41):srs t (f+1) (.alt ks) a ps=some ((grp 2 ks ps).1,a,(grp 2 ks ps).2):=by
 rw[srs,if_neg (stop_no h),if_neg hk,if_pos h]
/-- What a call of the reader leaves behind; a, ps are what it began with, c what it may lay besides. -/
def SPost (b lo a c:Nat) (t:ByteArray) (v:Value) (us:List Value) (ps:List PieceD) (w:World) (R:Option (Int×Nat×List PieceD)) (e:Ending) (w':World):Prop:=
 ∃ (k:Int) (a1:Nat) (ps1:List PieceD) (bd:Bool),e= .returned (.int .i64 k)∧SrSt b lo a1 bd t v (.slice none 0 0) us ps1 w w'∧a≤a1∧a1≤t.size∧ps1.length+2*a≤ps.length+2*a1+c∧
  ((bd=false∧R=some (k,a1,ps1))∨(bd=true∧R=none))
def OneC (t:ByteArray) (f:Nat):Prop:= ∀ (b lo a:Nat) (v:Value) (us:List Value) (ps:List PieceD) (w:World),Box w b #[.string t,.int .i64 (a:Int),.bool false,v] 210→b<lo→lo≤w.heap.size→Prd w lo v ps us→a≤t.size→3*(t.size-a)≤f→ps.length+2*(t.size-a)≤900→
 Calls Tryz.prog 237 #[.pointer (some ⟨b,0,none⟩)] w (SPost b lo a 0 t v us ps w (one1 t f a ps))
def RowC (t:ByteArray) (f:Nat):Prop:= ∀ (b lo a:Nat) (v:Value) (us:List Value) (ps:List PieceD) (w:World),Box w b #[.string t,.int .i64 (a:Int),.bool false,v] 210→b<lo→lo≤w.heap.size→Prd w lo v ps us→a≤t.size→3*(t.size-a)+1≤f→ps.length+2*(t.size-a)≤900→
 Calls Tryz.prog 212 #[.pointer (some ⟨b,0,none⟩)] w (SPost b lo a 1 t v us ps w (srs t f (.alt []) a ps))
def AltsC (t:ByteArray) (f:Nat):Prop:= ∀ (b lo a:Nat) (v:Value) (us:List Value) (ps:List PieceD) (w:World),Box w b #[.string t,.int .i64 (a:Int),.bool false,v] 210→b<lo→lo≤w.heap.size→Prd w lo v ps us→a≤t.size→3*(t.size-a)+2≤f→ps.length+2*(t.size-a)≤900→
 Calls Tryz.prog 164 #[.pointer (some ⟨b,0,none⟩)] w (SPost b lo a 2 t v us ps w (srs t f (.expr []) a ps))
/-- The end of a row of kids, more than one: they are laid as a piece. -/
theorem putKids_any {b lo a:Nat} {bd:Bool} {t:ByteArray} {v0 v z:Value} {us0 us:List Value} {ks:List Int} {ps:List PieceD} {w wr:World} (h:Ls b lo a bd t v0 us0 w z ks v us ps wr) (hlo:b<lo) (hlw:lo≤w.heap.size) (op:Int) (hn:ps.length≤1000):
  Calls Tryz.prog 213 #[.pointer (some ⟨b,0,none⟩),.agg #[.int .i64 op,.int .u8 0,z]] wr fun e w'=>e= .returned (.int .i64 (ps.length:Int))∧SrSt b lo a bd t v0 (.slice none 0 0) us0 (ps++[⟨op,0,ks⟩]) w w':=by
 have q:=put_any b lo a bd t v z ps us ⟨op,0,ks⟩ wr h.box hlo (by have:=h.go.size;omega) h.prd h.row h.apt.1 hn
 refine q.mono fun e w' ⟨v',e1,e2,e3,e4,e5⟩=>⟨e1,?_⟩
 exact h.done ⟨v',_,e2,e3,⟨e4,e5⟩,fun y hy ha hz=>ha.snoc hy hz e5⟩
theorem Ls.none_done {b lo a:Nat} {bd:Bool} {t:ByteArray} {v0 v z:Value} {us0 us:List Value} {ks:List Int} {ps:List PieceD} {w wr:World} (h:Ls b lo a bd t v0 us0 w z ks v us ps wr):SrSt b lo a bd t v0 (.slice none 0 0) us0 ps w wr:=
 h.done ⟨v,us,h.box,h.prd,PGo.of_fr (Fr.refl _),fun y _ ha _=>ha⟩
def lenK:Value→Nat
 | .slice _ n _=>n
 |_=>0
theorem grp_one (op:Int) {ks:List Int} (ps:List PieceD) {k:Int} (h:ks=[k]):grp op ks ps=(k,ps):=by rw[h];rfl
theorem grp_more (op:Int) {ks:List Int} (ps:List PieceD) (h:ks.length≠1):grp op ks ps=((ps.length:Int),ps++[⟨op,0,ks⟩]):=by
 unfold grp
 split
 · simp at h
 · rfl
theorem one_kid {ks:List Int} (h:ks.length=1): ∃ k,ks=[k]:=by
 match ks,h with
 |[k],_=>exact⟨k,rfl⟩
theorem nx_get {t:ByteArray} {a:Nat} (h:a<t.size):nx t a=(t[a]).toNat:=dif_pos h
/-- The end of a row or of its alternatives, whatever ended it. -/
theorem kids_end {b lo a c a':Nat} {t:ByteArray} {v v':Value} {us us':List Value} {ps ps':List PieceD} {ks:List Int} {bd:Bool} {az:Option Addr} {cz:Nat} {w wr:World} {op:Int} {R:Option (Int×Nat×List PieceD)} (hlo:b<lo) (hlw:lo≤w.heap.size) (hn:ps'.length≤1000)
  (L:Ls b lo a' bd t v us w (.slice az ks.length cz) ks v' us' ps' wr) (ha1:a≤a') (ha2:a'≤t.size) (hps:ps'.length+2*a≤ps.length+2*a'+c) (hres:(bd=false∧R=some ((grp op ks ps').1,a',(grp op ks ps').2))∨(bd=true∧R=none)):
  (ks.length=1→ ∃ k,(∀ q,Fr wr q→SPost b lo a (c+1) t v us ps w R (.returned (.int .i64 k)) q)∧ ∃ bz oz,az=some ⟨bz,oz,none⟩∧wr.cell? ⟨bz,oz,none⟩=some (.int .i64 k)∧bz<wr.heap.size)∧
  (ks.length≠1→ ∀ wp,Fr wr wp→Calls Tryz.prog 213 #[.pointer (some ⟨b,0,none⟩),.agg #[.int .i64 op,.int .u8 0,.slice az ks.length cz]] wp fun e w'=> ∃ k,e= .returned (.int .i64 k)∧ ∀ q,Fr w' q→SPost b lo a (c+1) t v us ps w R (.returned (.int .i64 k)) q):=by
 refine⟨fun h1=>?_,fun h1 wp hp=>?_⟩
 · obtain⟨k,rfl⟩:=one_kid h1
   refine⟨k,fun q hq2=>⟨k,a',ps',bd,rfl,(L.fr hq2).none_done,ha1,ha2,by omega,hres⟩,?_⟩
   obtain⟨az',bz,oz,cz',hv,hcz,hmz,fz⟩:=(IntsO.rd L.row).one
   cases hv
   obtain⟨rfl,hbz,fz⟩:=fz (by simp)
   exact⟨bz,oz,rfl,fz 0 (by simp),hbz⟩
 · rw[grp_more op ps' h1]at hres
   refine(putKids_any (L.fr hp) hlo hlw op hn).mono fun e w' ⟨e1,st⟩=>⟨_,e1,fun q hq2=>⟨_,a',_,bd,rfl,?_,ha1,ha2,by simp;omega,hres⟩⟩
   obtain⟨v2,us2,s1,s2,s3,s4⟩:=st
   exact⟨v2,us2,s1.fr hq2,s2.fr hq2,s3.trans (PGo.of_fr hq2),s4⟩
set_option maxHeartbeats 16000000 in
set_option maxRecDepth 100000 in
theorem row_any (t:ByteArray) (ht:t.size≤100) (F:Nat) (IH: ∀ f,f<F→OneC t f):RowC t F:=by
 intro b lo a v us ps w hb hlo hlw hp ha hf hn
 obtain⟨i0,hi,hz0,hz1,hz2⟩:=info_parts info_int
 obtain⟨g,rfl⟩: ∃ g,F=g+1:=⟨F-1,by omega⟩
 have HI:=Lib.hid IH
 obtain⟨R,hR⟩: ∃ R,srs t (g+1) (.alt []) a ps=R:=⟨_,rfl⟩
 rw[hR]
 rw[srs_alt t g a [] ps (.inl rfl)]at hR
 have HR:=Lib.hid hR
 have L0:=Lib.hid (Ls.start hb hp)
 have C0:Hid (∀ w',Fr w w'→Calls Tryz.prog 237 #[.pointer (some ⟨b,0,none⟩)] w' fun e w''=> ∃ (k0:Int) (a0:Nat) (ps0:List PieceD) (bd0:Bool) (v1:Value) (us1:List Value),e= .returned (.int .i64 k0)∧Ls b lo a0 bd0 t v us w (.slice none 0 0) [] v1 us1 ps0 w''∧a≤a0∧a0≤t.size∧ps0.length+2*a≤ps.length+2*a0∧((bd0=false∧a+1≤a0∧srs t g (.alt [k0]) a0 ps0=R)∨(bd0=true∧R=none))):=Lib.hid fun w' h=>(IH g (by omega) b lo a v us ps w' (hb.fr h) hlo (by have:=h.size;omega) (hp.fr h) ha (by omega) (by omega)).mono fun e w'' ⟨k0,a0,ps0,bd0,e1,hst,hb1,hb2,hb3,hres⟩=>by
  obtain⟨v1,us1,l1⟩:=(L0.out.fr h).call hlo hst
  refine⟨k0,a0,ps0,bd0,v1,us1,e1,l1,hb1,hb2,hb3,?_⟩
  rcases hres with⟨e1,e2⟩|⟨e1,e2⟩
  · refine .inl ⟨e1,?_,by have:=HR.out;rw[e2]at this;exact this⟩
    unfold one1 at e2
    split at e2
    · exact(prs_on t g .item a ps k0 a0 ps0 (srs_prs _ _ _ _ _ _ e2)).2.2 rfl
    · cases e2
  · exact .inr ⟨e1,by have:=HR.out;rw[e2]at this;exact this.symm⟩
 clear hb hp IH hR HR
 go_enter Tryz.func212,Tryz.ntmps212
 go_wp2_with fail
 refine(C0.out _ (by exact Qf)).mono ?_
 rintro e w1 ⟨k0,a0,ps0,bd0,v1,us1,rfl,l1,hb1,hb2,hb3,hres⟩
 have LR1:=Lib.hid (Ls.row1 l1 hlw k0)
 have HRES:=Lib.hid hres
 clear l1 hres C0
 go_wp2_with fail
 go_loopw [3] (fun z wr=> ∃ (ks:List Int) (a' f':Nat) (v':Value) (us':List Value) (ps':List PieceD) (bd:Bool) (az:Option Addr) (cz:Nat),z= .slice az ks.length cz∧Hid (Ls b lo a' bd t v us w (.slice az ks.length cz) ks v' us' ps' wr)∧1≤ks.length∧a≤a'∧a'≤t.size∧ps'.length+2*a≤ps.length+2*a'∧ks.length≤a'-a+1∧
  Hid ((bd=false∧ks.length≤a'-a∧srs t f' (.alt ks) a' ps'=R∧f'≤g∧3*(t.size-a')+1≤f')∨(bd=true∧R=none))) (fun z _=>1000-lenK z)
 case atStart=>exact⟨[k0],a0,g,v1,us1,ps0,bd0,_,1,rfl,LR1,by simp,hb1,hb2,by omega,by simp,Lib.hid (HRES.out.imp (fun h=>⟨h.1,by have:=h.2.1;simp;omega,h.2.2,Nat.le_refl _,by have:=h.2.1;omega⟩) id)⟩
 case round=>
  clear LR1 HRES hb1 hb2 hb3 L0
  obtain⟨ks,a',f',v',us',ps',bd,az,cz,rfl,L1,hk0,ha1,ha2,hps,hk2,H1⟩:=hrel
  have hsz:=L1.out.go.size
  have BX:=L1.out.box
  have FX:=BX.facts
  have hN:ps'.length≤1000:=by omega
  have EXIT:Hid (((bd=false∧R=some ((grp 2 ks ps').1,a',(grp 2 ks ps').2))∨(bd=true∧R=none))→_):=Lib.hid (kids_end (c:=0) (op:=2) hlo hlw hN L1.out ha1 ha2 (by omega))
  clear BX
  rcases H1.out with⟨rfl,hk3,hs,hf1,hf2⟩|⟨rfl,rfl⟩
  · obtain⟨g',rfl⟩: ∃ g',f'=g'+1:=⟨f'-1,by omega⟩
    have HS:=Lib.hid hs
    clear hs H1
    by_cases hlt:a'<t.size
    · have hnx:=nx_get hlt
      have HNX:=Lib.hid hnx
      clear hnx
      by_cases h124:nx t a'=124
      · have hb0:(t[a']'hlt).toNat=124:=by rw[← HNX.out];exact h124
        have hX:(false=false∧R=some ((grp 2 ks ps').1,a',(grp 2 ks ps').2))∨(false=true∧R=none):= .inl ⟨rfl,by rw[← HS.out];exact srs_stop t g' a' ks ps' (by omega) (.inr (.inl h124))⟩
        clear h124
        have HX:=Lib.hid hX;by_cases h1:ks.length=1;(· obtain⟨k,hfin,bz,oz,rfl,c0,hbz⟩:=(EXIT.out HX.out).1 h1;have q1:((ks.length:Int)==1)=true:=(by rw[beq_iff_eq];omega);have HF:=Lib.hid hfin;clear hfin h1 EXIT HX;(go_wp2_with fail;go_quiet (fail);go_wp2_with fail);go_ret;exact HF.out _ (by exact Qf));(· have CP:=Lib.hid ((EXIT.out HX.out).2 h1);have q1:((ks.length:Int)==1)=false:=(by rw[beq_eq_false_iff_ne];omega);clear h1 EXIT HX;(go_wp2_with fail;go_quiet (fail);go_wp2_with fail);refine(CP.out _ (by exact Qf)).mono ?_;rintro e w6 ⟨k,rfl,hfin⟩;have HF:=Lib.hid hfin;clear hfin;go_wp2_with fail;go_ret;exact HF.out _ (by exact Qf))
      · by_cases h41:nx t a'=41
        · have hb0:(t[a']'hlt).toNat=41:=by rw[← HNX.out];exact h41
          have hX:(false=false∧R=some ((grp 2 ks ps').1,a',(grp 2 ks ps').2))∨(false=true∧R=none):= .inl ⟨rfl,by rw[← HS.out];exact srs_stop t g' a' ks ps' (by omega) (.inr (.inr h41))⟩
          clear h124 h41
          have HX:=Lib.hid hX;by_cases h1:ks.length=1;(· obtain⟨k,hfin,bz,oz,rfl,c0,hbz⟩:=(EXIT.out HX.out).1 h1;have q1:((ks.length:Int)==1)=true:=(by rw[beq_iff_eq];omega);have HF:=Lib.hid hfin;clear hfin h1 EXIT HX;(go_wp2_with fail;go_quiet (fail);go_wp2_with fail);go_ret;exact HF.out _ (by exact Qf));(· have CP:=Lib.hid ((EXIT.out HX.out).2 h1);have q1:((ks.length:Int)==1)=false:=(by rw[beq_eq_false_iff_ne];omega);clear h1 EXIT HX;(go_wp2_with fail;go_quiet (fail);go_wp2_with fail);refine(CP.out _ (by exact Qf)).mono ?_;rintro e w6 ⟨k,rfl,hfin⟩;have HF:=Lib.hid hfin;clear hfin;go_wp2_with fail;go_ret;exact HF.out _ (by exact Qf))
        · have q1:(((t[a']'hlt).toNat:Int) !=124)=true:=by rw[bne_iff_ne, ← HNX.out];omega
          have q2:(((t[a']'hlt).toNat:Int) !=41)=true:=by rw[bne_iff_ne, ← HNX.out];omega
          have hs2:goA t g' ks (one1 t g' a' ps')=R:=by rw[← srs_alt t g' a' ks ps' (.inr (by omega))];exact HS.out
          have CT:Hid (∀ w',Fr wr w'→Calls Tryz.prog 237 #[.pointer (some ⟨b,0,none⟩)] w' fun e w''=> ∃ (k2:Int) (a2:Nat) (ps2:List PieceD) (bd2:Bool) (v2:Value) (us2:List Value),e= .returned (.int .i64 k2)∧Ls b lo a2 bd2 t v us w (.slice az ks.length cz) ks v2 us2 ps2 w''∧a'≤a2∧a2≤t.size∧ps2.length+2*a'≤ps'.length+2*a2∧((bd2=false∧a'+1≤a2∧srs t g' (.alt (ks++[k2])) a2 ps2=R)∨(bd2=true∧R=none))):=Lib.hid fun w' h=>(HI.out g' (by omega) b lo a' v' us' ps' w' (L1.out.box.fr h) hlo (by have:=h.size;omega) (L1.out.prd.fr h) ha2 (by omega) (by omega)).mono fun e w'' ⟨k0,a0,ps0,bd0,e1,hst,hb1,hb2,hb3,hres⟩=>by
           obtain⟨v1,us1,l1⟩:=(L1.out.fr h).call hlo hst
           refine⟨k0,a0,ps0,bd0,v1,us1,e1,l1,hb1,hb2,hb3,?_⟩
           rcases hres with⟨e1,e2⟩|⟨e1,e2⟩
           · refine .inl ⟨e1,?_,by rw[e2]at hs2;exact hs2⟩
             unfold one1 at e2
             split at e2
             · exact(prs_on t g' .item a' ps' k0 a0 ps0 (srs_prs _ _ _ _ _ _ e2)).2.2 rfl
             · cases e2
           · exact .inr ⟨e1,by rw[e2]at hs2;exact hs2.symm⟩
          clear hs2 h124 h41 EXIT
          go_wp2_with fail;go_quiet (fail);go_wp2_with fail
          refine(CT.out _ (by exact Qf)).mono ?_
          rintro e w3 ⟨k2,a2,ps2,bd2,v2,us2,rfl,l2,hc1,hc2,hc3,hc4⟩
          have L2:=Lib.hid l2
          have HC4:=Lib.hid hc4
          clear l2 hc4 CT
          have hs2:=L2.out.go.size
          go_wp2_with(at_builtin;(refine wpList_append_rd rfl _ _ 34 rfl lo 3 i0 (.int .i64 0) 1 8 Tryz.underlying34 hi hz0 hz1 hz2 rfl (by decide) (.slice az ks.length cz) ks.length (ks.map (Value.int .i64)) rfl (World.ownsRow.alloc L2.out.row _) _ 1 [.int .i64 k2] rfl (RdS.new (by first|rfl|(simp;done)) rfl) (by simp[Value.oneCell']) (by unfold maxLen;omega) (by omega) (by exact Qz) ?_;intro az' cz' w4 hown hgrow hat))
          have L3:Hid (Ls b lo a2 bd2 t v us w (.slice az' (ks.length+1) cz') (ks++[k2]) v2 us2 ps2 w4):=Lib.hid (Ls.app (L2.out.fr (by exact Qf)) hlo hgrow (by simpa [IntsO]using hown) (hat.imp id fun h=>⟨_,h,by simp⟩))
          go_roundw
          case rel=>
           refine⟨ks++[k2],a2,g',v2,us2,ps2,bd2,az',cz',by first|(simp;done)|(simp;omega),?_,by simp,by omega,hc2,by omega,by simp;omega,Lib.hid (HC4.out.imp (fun h=>⟨h.1,by have:=h.2.1;simp;omega,h.2.2,by omega,by have:=h.2.1;omega⟩) id)⟩
           simp only[List.length_append,List.length_singleton]
           exact L3
          case measure=>
           simp only[lenK]
           omega
    · have hX:(false=false∧R=some ((grp 2 ks ps').1,a',(grp 2 ks ps').2))∨(false=true∧R=none):= .inl ⟨rfl,by rw[← HS.out];exact srs_stop t g' a' ks ps' (by omega) (.inl (by omega))⟩
      have HX:=Lib.hid hX;by_cases h1:ks.length=1;(· obtain⟨k,hfin,bz,oz,rfl,c0,hbz⟩:=(EXIT.out HX.out).1 h1;have q1:((ks.length:Int)==1)=true:=(by rw[beq_iff_eq];omega);have HF:=Lib.hid hfin;clear hfin h1 EXIT HX;(go_wp2_with fail;go_quiet (fail);go_wp2_with fail);go_ret;exact HF.out _ (by exact Qf));(· have CP:=Lib.hid ((EXIT.out HX.out).2 h1);have q1:((ks.length:Int)==1)=false:=(by rw[beq_eq_false_iff_ne];omega);clear h1 EXIT HX;(go_wp2_with fail;go_quiet (fail);go_wp2_with fail);refine(CP.out _ (by exact Qf)).mono ?_;rintro e w6 ⟨k,rfl,hfin⟩;have HF:=Lib.hid hfin;clear hfin;go_wp2_with fail;go_ret;exact HF.out _ (by exact Qf))
  · clear H1
    have hX:(true=false∧(none:Option (Int×Nat×List PieceD))=some ((grp 2 ks ps').1,a',(grp 2 ks ps').2))∨(true=true∧(none:Option (Int×Nat×List PieceD))=none):= .inr ⟨rfl,rfl⟩
    have HX:=Lib.hid hX;by_cases h1:ks.length=1;(· obtain⟨k,hfin,bz,oz,rfl,c0,hbz⟩:=(EXIT.out HX.out).1 h1;have q1:((ks.length:Int)==1)=true:=(by rw[beq_iff_eq];omega);have HF:=Lib.hid hfin;clear hfin h1 EXIT HX;(go_wp2_with fail;go_quiet (fail);go_wp2_with fail);go_ret;exact HF.out _ (by exact Qf));(· have CP:=Lib.hid ((EXIT.out HX.out).2 h1);have q1:((ks.length:Int)==1)=false:=(by rw[beq_eq_false_iff_ne];omega);clear h1 EXIT HX;(go_wp2_with fail;go_quiet (fail);go_wp2_with fail);refine(CP.out _ (by exact Qf)).mono ?_;rintro e w6 ⟨k,rfl,hfin⟩;have HF:=Lib.hid hfin;clear hfin;go_wp2_with fail;go_ret;exact HF.out _ (by exact Qf))
set_option maxHeartbeats 16000000 in
set_option maxRecDepth 100000 in
theorem alts_any (t:ByteArray) (ht:t.size≤100) (F:Nat) (IH: ∀ f,f<F→RowC t f):AltsC t F:=by
 intro b lo a v us ps w hb hlo hlw hp ha hf hn
 obtain⟨i0,hi,hz0,hz1,hz2⟩:=info_parts info_int
 obtain⟨g,rfl⟩: ∃ g,F=g+1:=⟨F-1,by omega⟩
 have HI:=Lib.hid IH
 obtain⟨R,hR⟩: ∃ R,srs t (g+1) (.expr []) a ps=R:=⟨_,rfl⟩
 rw[hR]
 rw[srs_expr]at hR
 have HR:=Lib.hid hR
 have L0:=Lib.hid (Ls.start hb hp)
 have C0:Hid (∀ w',Fr w w'→Calls Tryz.prog 212 #[.pointer (some ⟨b,0,none⟩)] w' fun e w''=> ∃ (k0:Int) (a0:Nat) (ps0:List PieceD) (bd0:Bool) (v1:Value) (us1:List Value),e= .returned (.int .i64 k0)∧Ls b lo a0 bd0 t v us w (.slice none 0 0) [] v1 us1 ps0 w''∧a≤a0∧a0≤t.size∧ps0.length+2*a≤ps.length+2*a0+1∧((bd0=false∧goE t g [] (some (k0,a0,ps0))=R)∨(bd0=true∧R=none))):=Lib.hid fun w' h=>(IH g (by omega) b lo a v us ps w' (hb.fr h) hlo (by have:=h.size;omega) (hp.fr h) ha (by omega) (by omega)).mono fun e w'' ⟨k0,a0,ps0,bd0,e1,hst,hb1,hb2,hb3,hres⟩=>by
  obtain⟨v1,us1,l1⟩:=(L0.out.fr h).call hlo hst
  refine⟨k0,a0,ps0,bd0,v1,us1,e1,l1,hb1,hb2,hb3,?_⟩
  rcases hres with⟨e1,e2⟩|⟨e1,e2⟩
  · exact .inl ⟨e1,by have:=HR.out;rw[e2]at this;exact this⟩
  · exact .inr ⟨e1,by have:=HR.out;rw[e2]at this;exact this.symm⟩
 clear hb hp IH hR HR
 go_enter Tryz.func164,Tryz.ntmps164
 go_wp2_with fail
 refine(C0.out _ (by exact Qf)).mono ?_
 rintro e w1 ⟨k0,a0,ps0,bd0,v1,us1,rfl,l1,hb1,hb2,hb3,hres⟩
 have LR1:=Lib.hid (Ls.row1 l1 hlw k0)
 have HRES:=Lib.hid hres
 clear l1 hres C0
 go_wp2_with fail
 go_loopw [3] (fun z wr=> ∃ (ks:List Int) (k1:Int) (a' f':Nat) (v':Value) (us':List Value) (ps':List PieceD) (bd:Bool) (az:Option Addr) (cz:Nat),z= .slice az (ks++[k1]).length cz∧Hid (Ls b lo a' bd t v us w (.slice az (ks++[k1]).length cz) (ks++[k1]) v' us' ps' wr)∧a≤a'∧a'≤t.size∧ps'.length+2*a≤ps.length+2*a'+1∧ks.length≤a'-a∧
  Hid ((bd=false∧goE t f' ks (some (k1,a',ps'))=R∧f'≤g∧3*(t.size-a')+1≤f')∨(bd=true∧R=none))) (fun z _=>1000-lenK z)
 case atStart=>exact⟨[],k0,a0,g,v1,us1,ps0,bd0,_,1,rfl,LR1,hb1,hb2,by omega,by simp,Lib.hid (HRES.out.imp (fun h=>⟨h.1,h.2,Nat.le_refl _,by omega⟩) id)⟩
 case round=>
  clear LR1 HRES hb1 hb2 hb3 L0
  obtain⟨ks0,k1,a',f',v',us',ps',bd,az,cz,rfl,L1,ha1,ha2,hps,hk2,H1⟩:=hrel
  have hkl:(ks0++[k1]).length≤ks0.length+1:=by simp
  have hkl0:1≤(ks0++[k1]).length:=by simp
  obtain⟨ks,hks⟩: ∃ ks,ks0++[k1]=ks:=⟨_,rfl⟩
  rw[hks]at L1 hkl hkl0
  rw[hks]
  have HKS:=Lib.hid hks
  clear hks
  have hsz:=L1.out.go.size
  have BX:=L1.out.box
  have FX:=BX.facts
  have hN:ps'.length≤1000:=by omega
  have EXIT:Hid (((bd=false∧R=some ((grp 3 ks ps').1,a',(grp 3 ks ps').2))∨(bd=true∧R=none))→_):=Lib.hid (kids_end (c:=1) (op:=3) hlo hlw hN L1.out ha1 ha2 (by omega))
  clear BX
  rcases H1.out with⟨rfl,hs,hf1,hf2⟩|⟨rfl,rfl⟩
  · have HS:=Lib.hid hs
    clear hs H1
    by_cases hlt:a'<t.size
    · have hnx:=nx_get hlt
      have HNX:=Lib.hid hnx
      clear hnx
      by_cases h124:nx t a'=124
      · have hb0:(t[a']'hlt).toNat=124:=by rw[← HNX.out];exact h124
        have hs2:srs t f' (.expr ks) (a'+1) ps'=R:=by rw[← HKS.out, ← HS.out];unfold goE;simp only[];rw[if_pos h124]
        obtain⟨g',rfl⟩: ∃ g',f'=g'+1:=⟨f'-1,by omega⟩
        rw[srs_expr]at hs2
        have hw2:IntKind.i64.wrap ((a':Int)+1)=((a'+1:Nat):Int):=by rw[show(a':Int)+1=((a'+1:Nat):Int) by omega];exact IntWalk.i64_in _ (by omega)
        have CT:Hid (∀ w',Ls b lo (a'+1) false t v us w (.slice az ks.length cz) ks v' us' ps' w'→Calls Tryz.prog 212 #[.pointer (some ⟨b,0,none⟩)] w' fun e w''=> ∃ (k2:Int) (a2:Nat) (ps2:List PieceD) (bd2:Bool) (v2:Value) (us2:List Value),e= .returned (.int .i64 k2)∧Ls b lo a2 bd2 t v us w (.slice az ks.length cz) ks v2 us2 ps2 w''∧a'+1≤a2∧a2≤t.size∧ps2.length+2*(a'+1)≤ps'.length+2*a2+1∧((bd2=false∧goE t g' ks (some (k2,a2,ps2))=R)∨(bd2=true∧R=none))):=Lib.hid fun w' h=>(HI.out g' (by omega) b lo (a'+1) v' us' ps' w' h.box hlo (by have:=h.go.size;omega) h.prd (by omega) (by omega) (by omega)).mono fun e w'' ⟨k0,a0,ps0,bd0,e1,hst,hb1,hb2,hb3,hres⟩=>by
         obtain⟨v1,us1,l1⟩:=h.call hlo hst
         refine⟨k0,a0,ps0,bd0,v1,us1,e1,l1,hb1,hb2,hb3,?_⟩
         rcases hres with⟨e1,e2⟩|⟨e1,e2⟩
         · exact .inl ⟨e1,by rw[e2]at hs2;exact hs2⟩
         · exact .inr ⟨e1,by rw[e2]at hs2;exact hs2.symm⟩
        have LE: ∀ wq,Fr wr wq→Ls b lo (a'+1) false t v us w (.slice az ks.length cz) ks v' us' ps' (wq.setCell ⟨b,1,none⟩ (.int .i64 ((a':Int)+1))):=fun wq hq=>Ls.at_ (a1:=a'+1) (L1.out.fr hq) hlo ((L1.out.fr hq).box.set_to (by simp))
        have HLE:=Lib.hid LE
        clear hs2 h124 EXIT HS LE
        go_wp2_with fail;go_quiet (fail);go_wp2_with fail
        refine(CT.out _ (HLE.out _ (by exact Qf))).mono ?_
        rintro e w3 ⟨k2,a2,ps2,bd2,v2,us2,rfl,l2,hc1,hc2,hc3,hc4⟩
        have L2:=Lib.hid l2
        have HC4:=Lib.hid hc4
        clear l2 hc4 CT HLE
        have hs2:=L2.out.go.size
        go_wp2_with(at_builtin;(refine wpList_append_rd rfl _ _ 34 rfl lo 3 i0 (.int .i64 0) 1 8 Tryz.underlying34 hi hz0 hz1 hz2 rfl (by decide) (.slice az ks.length cz) ks.length (ks.map (Value.int .i64)) rfl (World.ownsRow.alloc L2.out.row _) _ 1 [.int .i64 k2] rfl (RdS.new (by first|rfl|(simp;done)) rfl) (by simp[Value.oneCell']) (by unfold maxLen;omega) (by omega) (by exact Qz) ?_;intro az' cz' w4 hown hgrow hat))
        have L3:Hid (Ls b lo a2 bd2 t v us w (.slice az' (ks.length+1) cz') (ks++[k2]) v2 us2 ps2 w4):=Lib.hid (Ls.app (L2.out.fr (by exact Qf)) hlo hgrow (by simpa [IntsO]using hown) (hat.imp id fun h=>⟨_,h,by simp⟩))
        go_roundw
        case rel=>
         refine⟨ks,k2,a2,g',v2,us2,ps2,bd2,az',cz',by first|(simp;done)|(simp;omega),?_,by omega,hc2,by omega,by omega,Lib.hid (HC4.out.imp (fun h=>⟨h.1,h.2,by omega,by omega⟩) id)⟩
         simp only[List.length_append,List.length_singleton]
         exact L3
        case measure=>
         simp only[lenK]
         omega
      · have q1:(((t[a']'hlt).toNat:Int)==124)=false:=by rw[beq_eq_false_iff_ne, ← HNX.out];omega
        have hX:(false=false∧R=some ((grp 3 ks ps').1,a',(grp 3 ks ps').2))∨(false=true∧R=none):= .inl ⟨rfl,by rw[← HS.out, ← HKS.out];unfold goE;simp only[];rw[if_neg h124]⟩
        clear h124
        have HX:=Lib.hid hX;by_cases h1:ks.length=1;(· obtain⟨k,hfin,bz,oz,rfl,c0,hbz⟩:=(EXIT.out HX.out).1 h1;have q1:((ks.length:Int)==1)=true:=(by rw[beq_iff_eq];omega);have HF:=Lib.hid hfin;clear hfin h1 EXIT HX;(go_wp2_with fail;go_quiet (fail);go_wp2_with fail);go_ret;exact HF.out _ (by exact Qf));(· have CP:=Lib.hid ((EXIT.out HX.out).2 h1);have q1:((ks.length:Int)==1)=false:=(by rw[beq_eq_false_iff_ne];omega);clear h1 EXIT HX;(go_wp2_with fail;go_quiet (fail);go_wp2_with fail);refine(CP.out _ (by exact Qf)).mono ?_;rintro e w6 ⟨k,rfl,hfin⟩;have HF:=Lib.hid hfin;clear hfin;go_wp2_with fail;go_ret;exact HF.out _ (by exact Qf))
    · have hX:(false=false∧R=some ((grp 3 ks ps').1,a',(grp 3 ks ps').2))∨(false=true∧R=none):= .inl ⟨rfl,by rw[← HS.out, ← HKS.out];unfold goE;simp only[];rw[if_neg (by rw[nx_end (by omega)];omega)]⟩
      have HX:=Lib.hid hX;by_cases h1:ks.length=1;(· obtain⟨k,hfin,bz,oz,rfl,c0,hbz⟩:=(EXIT.out HX.out).1 h1;have q1:((ks.length:Int)==1)=true:=(by rw[beq_iff_eq];omega);have HF:=Lib.hid hfin;clear hfin h1 EXIT HX;(go_wp2_with fail;go_quiet (fail);go_wp2_with fail);go_ret;exact HF.out _ (by exact Qf));(· have CP:=Lib.hid ((EXIT.out HX.out).2 h1);have q1:((ks.length:Int)==1)=false:=(by rw[beq_eq_false_iff_ne];omega);clear h1 EXIT HX;(go_wp2_with fail;go_quiet (fail);go_wp2_with fail);refine(CP.out _ (by exact Qf)).mono ?_;rintro e w6 ⟨k,rfl,hfin⟩;have HF:=Lib.hid hfin;clear hfin;go_wp2_with fail;go_ret;exact HF.out _ (by exact Qf))
  · clear H1
    have hX:(true=false∧(none:Option (Int×Nat×List PieceD))=some ((grp 3 ks ps').1,a',(grp 3 ks ps').2))∨(true=true∧(none:Option (Int×Nat×List PieceD))=none):= .inr ⟨rfl,rfl⟩
    have HX:=Lib.hid hX;by_cases h1:ks.length=1;(· obtain⟨k,hfin,bz,oz,rfl,c0,hbz⟩:=(EXIT.out HX.out).1 h1;have q1:((ks.length:Int)==1)=true:=(by rw[beq_iff_eq];omega);have HF:=Lib.hid hfin;clear hfin h1 EXIT HX;(go_wp2_with fail;go_quiet (fail);go_wp2_with fail);go_ret;exact HF.out _ (by exact Qf));(· have CP:=Lib.hid ((EXIT.out HX.out).2 h1);have q1:((ks.length:Int)==1)=false:=(by rw[beq_eq_false_iff_ne];omega);clear h1 EXIT HX;(go_wp2_with fail;go_quiet (fail);go_wp2_with fail);refine(CP.out _ (by exact Qf)).mono ?_;rintro e w6 ⟨k,rfl,hfin⟩;have HF:=Lib.hid hfin;clear hfin;go_wp2_with fail;go_ret;exact HF.out _ (by exact Qf))
end Go.Proofs.YtjnahjgncmcmdaaGreat