/- Texts in one: Scan, Sml, Cmp, SEdge. -/
import Derived.Test.YtjnahjgncmcmdaaGreatGUnf
import Derived.Test.YtjnahjgncmcmdaaGreatGSWalk
import Derived.Deep.QuietTactic
import Derived.BigQuiet
import Derived.Deep.RegionHeld3
import Derived.Test.YtjnahjgncmcmdaaGreatGStr
namespace Go.Proofs.YtjnahjgncmcmdaaGreat
open Go.RowKit
set_option linter.unusedVariables false
set_option linter.unusedSimpArgs false
structure Sc where
 a:Nat
 bad:Bool
def scVar (s:ByteArray) (c:Sc):Int×Sc:=if c.bad=true∨(rv s c.a).ok=false then(0,⟨c.a,true⟩)else((rv s c.a).n,⟨(rv s c.a).e.toNat,false⟩)
def scByte (s:ByteArray) (c:Sc):Int×Sc:=if h:c.bad=true∨s.size≤c.a then(0,⟨c.a,true⟩)else(((s[c.a]'(by omega)).toNat:Int),⟨c.a+1,false⟩)
theorem scVar_no {s:ByteArray} {c:Sc} (h:c.bad=true∨(rv s c.a).ok=false):scVar s c=(0,⟨c.a,true⟩):=if_pos h
theorem scVar_ok {s:ByteArray} {c:Sc} (h: ¬ (c.bad=true∨(rv s c.a).ok=false)):scVar s c=((rv s c.a).n,⟨(rv s c.a).e.toNat,false⟩):=if_neg h
theorem scByte_no {s:ByteArray} {c:Sc} (h:c.bad=true∨s.size≤c.a):scByte s c=(0,⟨c.a,true⟩):=dif_pos h
theorem scByte_ok {s:ByteArray} {c:Sc} (h: ¬ (c.bad=true∨s.size≤c.a)):scByte s c=(((s[c.a]'(by omega)).toNat:Int),⟨c.a+1,false⟩):=dif_neg h
theorem scVar_le {s:ByteArray} {c:Sc} (hc:c.a≤s.size):(scVar s c).2.a≤s.size:=by
 by_cases h:c.bad=true∨(rv s c.a).ok=false
 · rw[scVar_no h];exact hc
 · rw[scVar_ok h]
   obtain⟨n,j,h1,h2,h3,_⟩:=rv_ok hc (by cases hh:(rv s c.a).ok<;>simp_all)
   rw[h2]
   show((c.a+j+1:Nat):Int).toNat≤_
   rw[Int.toNat_natCast]
   exact h3
theorem scByte_le {s:ByteArray} {c:Sc} (hc:c.a≤s.size):(scByte s c).2.a≤s.size:=by
 by_cases h:c.bad=true∨s.size≤c.a
 · rw[scByte_no h];exact hc
 · rw[scByte_ok h];show c.a+1≤s.size;omega
/-- A number that was read and not refused. -/
theorem scVar_read {s:ByteArray} {c:Sc} (hc:c.a≤s.size) (h:(scVar s c).2.bad=false):c.bad=false∧ ∃ (n j:Nat),scVar s c=((n:Int),⟨c.a+j+1,false⟩)∧c.a+j+1≤s.size∧n≤1000000000∧varL n=bytesAt s c.a (j+1):=by
 by_cases hh:c.bad=true∨(rv s c.a).ok=false
 · rw[scVar_no hh]at h;cases h
 · obtain⟨n,j,h1,h2,h3,h4,h5⟩:=rv_ok hc (by cases hk:(rv s c.a).ok<;>simp_all)
   refine⟨by cases hb:c.bad<;>simp_all,n,j,?_,h3,h4,h5⟩
   rw[scVar_ok hh,h1,h2,Int.toNat_natCast]
theorem scByte_read {s:ByteArray} {c:Sc} (h:(scByte s c).2.bad=false):c.bad=false∧ ∃ (hlt:c.a<s.size),scByte s c=(((s[c.a]).toNat:Int),⟨c.a+1,false⟩):=by
 by_cases hh:c.bad=true∨s.size≤c.a
 · rw[scByte_no hh]at h;cases h
 · exact⟨by cases hb:c.bad<;>simp_all,by omega,scByte_ok hh⟩
theorem scVar_nat (s:ByteArray) (c:Sc) (hc:c.a≤s.size):0≤(scVar s c).1∧(scVar s c).1≤1000000000:=by
 by_cases hh:c.bad=true∨(rv s c.a).ok=false
 · rw[scVar_no hh];exact⟨Int.le_refl _,by show(0:Int)≤_;omega⟩
 · obtain⟨n,j,h1,h2,h3,h4,h5⟩:=rv_ok hc (by cases hk:(rv s c.a).ok<;>simp_all)
   rw[scVar_ok hh,h1]
   exact⟨by show(0:Int)≤_;omega,by show(_:Int)≤_;omega⟩
theorem scByte_nat (s:ByteArray) (c:Sc):0≤(scByte s c).1∧(scByte s c).1≤255:=by
 by_cases hh:c.bad=true∨s.size≤c.a
 · rw[scByte_no hh];exact⟨Int.le_refl _,by show(0:Int)≤_;omega⟩
 · rw[scByte_ok hh]
   have:=(s[c.a]'(by omega)).toNat_lt
   exact⟨by show(0:Int)≤_;omega,by show(_:Int)≤_;omega⟩
theorem wrap_byte (x:UInt8):wrap64 (x.toNat:Int)=(x.toNat:Int):=by rw[← IntWalk.i64_left];exact IntWalk.i64_in _ (by have:=x.toNat_lt;omega)
theorem ret_u8 {a b:Int} (h:a=b):Ending.returned (.int .u8 a)= .returned (.int .u8 b):=by rw[h]
theorem Span.set1 {b i:Nat} {w:World} {v:Value}:Span b (b+1) w (w.setCell ⟨b,i,none⟩ v):=by
 refine⟨rfl,rfl,rfl,by simp,fun k hk ho=>?_⟩
 exact heap_setCell_other w ⟨b,i,none⟩ k v (by show k≠b;omega)
theorem Box.far {w:World} {b q i:Nat} {X:Array Value} {T:TypeId} (h:Box w b X T) (hp:b≠q) (v:Value):Box (w.setCell ⟨q,i,none⟩ v) b X T:=h.other (p:=⟨q,i,none⟩) hp v
theorem str1 (x:Int):(strOfNums [x]).data.toList=[UInt8.ofNat x.toNat]:=by simp[strOfNums]
theorem byte_of {s:ByteArray} {l:List UInt8} (h:s.data.toList=l):s=⟨l.toArray⟩:=by
 apply WideShapes.bytes_inj;rw[h]
theorem conv_lit' (xs:List Int) (w:World) (n B:Nat) (hn:xs.length=n) (hB:B=w.heap.size):
  (convert 22 9 (.slice (some ⟨B,0,none⟩) n n)).run Tryz.prog (w.alloc (.cells (xs.map (Value.int .u8)).toArray 5))= .ok (.string (strOfNums xs)) (w.alloc (.cells (xs.map (Value.int .u8)).toArray 5)):=by
 subst hB;exact conv_lit xs w n hn
theorem conv_at1 (x:Int) (b:Nat) (w:World) (h0:w.cell? ⟨b,0,none⟩=some (.int .u8 x)):
  (convert 22 9 (.slice (some ⟨b,0,none⟩) 1 1)).run Tryz.prog w= .ok (.string (strOfNums [x])) w:=by
 refine run_convert_bytes_arg _ 22 5 Tryz.underlying22 Tryz.underlying5 b 0 1 1 [x] rfl (fun i hi=>?_) 9 Tryz.underlying9
 match i,hi with
 |0,_=>simpa using h0
def cmpL:List Int→List Int→Int
 |[],[]=>0
 |[],_::_=> -1
 |_::_,[]=>1
 |a::l,b::m=>if a<b then-1 else if b<a then 1 else cmpL l m
def rowLt (a b:List Int):Bool:=decide (cmpL a b<0)
theorem cmpL_range (a b:List Int):cmpL a b= -1∨cmpL a b=0∨cmpL a b=1:=by
 induction a generalizing b with
 |nil=>cases b<;>simp[cmpL]
 |cons x l ih=>
  cases b with
  |nil=>simp[cmpL]
  |cons y m=>
   rw[cmpL]
   split
   · simp
   · split
     · simp
     · exact ih m
theorem cmpL_eq (a b:List Int):cmpL a b=0↔a=b:=by
 induction a generalizing b with
 |nil=>cases b<;>simp[cmpL]
 |cons x l ih=>
  cases b with
  |nil=>simp[cmpL]
  |cons y m=>
   rw[cmpL]
   split
   · simp;omega
   · split
     · simp;omega
     · have:x=y:=by omega
       subst this
       simp[ih]
theorem cmpL_step {a b:List Int} {k:Nat} (ha:k<a.length) (hb:k<b.length) {x y:Int} (hx:iAt a k=x) (hy:iAt b k=y):cmpL (a.drop k) (b.drop k)=if x<y then-1 else if y<x then 1 else cmpL (a.drop (k+1)) (b.drop (k+1)):=by
 subst hx hy
 rw[List.drop_eq_getElem_cons ha,List.drop_eq_getElem_cons hb,cmpL]
 simp[iAt,List.getD,List.getElem?_eq_getElem ha,List.getElem?_eq_getElem hb]
theorem cmpL_endA {a b:List Int} {k:Nat} (ha:a.length≤k) (hb:k<b.length):cmpL (a.drop k) (b.drop k)= -1:=by
 rw[List.drop_of_length_le ha,List.drop_eq_getElem_cons hb,cmpL]
theorem cmpL_endB {a b:List Int} {k:Nat} (ha:k<a.length) (hb:b.length≤k):cmpL (a.drop k) (b.drop k)=1:=by
 rw[List.drop_of_length_le hb,List.drop_eq_getElem_cons ha,cmpL]
theorem cmpL_end {a b:List Int} {k:Nat} (ha:a.length≤k) (hb:b.length≤k):cmpL (a.drop k) (b.drop k)=0:=by
 rw[List.drop_of_length_le hb,List.drop_of_length_le ha,cmpL]
theorem rng_all {n:Nat} {p:Nat→Bool} (h: ∀ j,j<n→p j=true):(List.range n).all p=true:=by
 rw[List.all_eq_true];intro x hx;exact h x (by simpa using hx)
theorem rng_not_all {n:Nat} {p:Nat→Bool} {j:Nat} (hj:j<n) (h:p j=false):(List.range n).all p=false:=by
 rw[List.all_eq_false];exact⟨j,by simpa using hj,by simpa using h⟩
/-- A quiet call in a second quiet region. -/
theorem quiet2_same {P:Program} {f:FuncId} {args:Array Value} {w:World} {a n:Nat} {v:Value} (h:Calls P f args (w.drewN (a+n)) fun e w'=>e= .returned v∧w'=w.drewN (a+n)):
  Calls P f args (w.drewN (a+n)) fun e w''=>e= .returned v∧ ∃ m,w''=w.drewN (a+m):=h.mono fun _ _ ⟨he,hm⟩=>⟨he,n,hm⟩
theorem quiet2 {P:Program} {f:FuncId} {args:Array Value} {w:World} {a n:Nat} {v:Value} (h:Calls P f args (w.drewN (a+n)) fun e w'=>e= .returned v∧ ∃ m,w'=(w.drewN (a+n)).drewN m):
  Calls P f args (w.drewN (a+n)) fun e w''=>e= .returned v∧ ∃ m,w''=w.drewN (a+m):=h.mono fun _ _ ⟨he,m,hm⟩=>⟨he,n+m,by rw[hm,World.drewN_drewN,Nat.add_assoc]⟩
theorem scVar_bad {s:ByteArray} {c:Sc} (h:c.bad=true):(scVar s c).2.bad=true:=by rw[scVar_no (.inl h)]
theorem drop_bytes {s:ByteArray} {a k:Nat} (h:a+k≤s.size):s.data.toList.drop a=bytesAt s a k++s.data.toList.drop (a+k):=by
 unfold bytesAt
 rw[← List.drop_drop,List.take_append_drop]
/-- What was read and not refused are the bytes of what came out. -/
theorem scVar_text {s:ByteArray} {c:Sc} (hc:c.a≤s.size) (h:(scVar s c).2.bad=false):c.bad=false∧ ∃ n:Nat,(scVar s c).1=(n:Int)∧n≤1000000000∧(scVar s c).2.a≤s.size∧s.data.toList.drop c.a=varL n++s.data.toList.drop (scVar s c).2.a:=by
 obtain⟨h1,n,j,h2,h3,h4,h5⟩:=scVar_read hc h
 rw[h2]
 refine⟨h1,n,rfl,h4,h3,?_⟩
 rw[h5]
 exact drop_bytes (k:=j+1) h3
theorem scVar_good {s:ByteArray} {c:Sc} (h:(scVar s c).2.bad=false):c.bad=false:=by
 cases hb:c.bad
 · rfl
 · rw[scVar_bad hb]at h;cases h
theorem bytes_append (s t:ByteArray):(s++t).data.toList=s.data.toList++t.data.toList:=by simp
theorem vText_list (n:Int):(vText n).data.toList=varL n.toNat:=by simp[vText]
theorem vText_sz {n:Int} (h:n<1099511627776):(vText n).size≤6:=by rw[vText_size];exact varL_len40 _ (by omega)
theorem app_size (s t:ByteArray):(s++t).size=s.size+t.size:=by simp
def cmp1 (x y:Int):Int:=if x<y then-1 else if y<x then 1 else 0
theorem isNaN_any (x:Int) (w:World):
  Calls Tryz.prog 205 #[.int .i64 x] w fun e w'=>e= .returned (.bool false)∧w'=w:=by
 have h:(x !=x)=false:=by simp
 go_enter Tryz.func205,Tryz.ntmps205
 go_wp2
 go_ret
 exact⟨by simp,rfl⟩
theorem cmpCompare_any (x y:Int) (w:World):
  Calls Tryz.prog 157 #[.int .i64 x,.int .i64 y] w fun e w'=>e= .returned (.int .i64 (cmp1 x y))∧w'=w:=by
 by_cases h1:x<y
 · have HC:Hid (cmp1 x y= -1):=Lib.hid (if_pos h1)
   go_enter Tryz.func157,Tryz.ntmps157
   go_wp2_with(go_at_call 205;refine(isNaN_any _ _).mono ?_;rintro e w1 ⟨rfl,rfl⟩)
   go_ret
   exact⟨ret_int HC.out.symm,rfl⟩
 · by_cases h2:y<x
   · have HC:Hid (cmp1 x y=1):=Lib.hid (by unfold cmp1;rw[if_neg h1,if_pos h2])
     go_enter Tryz.func157,Tryz.ntmps157
     go_wp2_with(go_at_call 205;refine(isNaN_any _ _).mono ?_;rintro e w1 ⟨rfl,rfl⟩)
     go_ret
     exact⟨ret_int HC.out.symm,rfl⟩
   · have HC:Hid (cmp1 x y=0):=Lib.hid (by unfold cmp1;rw[if_neg h1,if_neg h2])
     go_enter Tryz.func157,Tryz.ntmps157
     go_wp2_with(go_at_call 205;refine(isNaN_any _ _).mono ?_;rintro e w1 ⟨rfl,rfl⟩)
     go_ret
     exact⟨ret_int HC.out.symm,rfl⟩
theorem slicesCompare_any (va vb:Value) (a b:List Int) (w:World) (ha:IntsR w va a) (hb:IntsR w vb b):
  Calls Tryz.prog 94 #[va,vb] w fun e w'=>e= .returned (.int .i64 (cmpL a b))∧w'=w:=by
 obtain⟨ao,ba,oa,ca,rfl,hca,hma,fa⟩:=ha.one
 obtain⟨bo,bb,ob,cb,rfl,hcb,hmb,fb⟩:=hb.one
 have FA:=Lib.hid fa
 have FB:=Lib.hid fb
 clear ha hb fa fb
 obtain⟨R,hR⟩: ∃ R,cmpL a b=R:=⟨_,rfl⟩
 have HR:=Lib.hid hR
 go_enter Tryz.func94,Tryz.ntmps94
 go_wp2
 go_loop [5,6,7,8,11] (fun _ _ _ _ i=> ∃ k:Nat,k≤a.length∧k≤b.length∧i= .int .i64 k∧Hid (cmpL (a.drop k) (b.drop k)=R)) (fun _ _ _ _ i=>a.length-(intOf i).toNat)
 case atStart=>exact⟨0,Nat.zero_le _,Nat.zero_le _,rfl,Lib.hid (by simpa using hR)⟩
 case round=>
  clear hR
  obtain⟨k,hk1,hk2,rfl,hj⟩:=hrel
  by_cases hlt1:k<a.length
  · obtain⟨rfl,hba,fa⟩:=FA.out (by omega)
    have c1:=fa k hlt1
    obtain⟨x,hx⟩: ∃ x,iAt a k=x:=⟨_,rfl⟩
    rw[hx]at c1
    by_cases hlt2:k<b.length
    · obtain⟨rfl,hbb,fb⟩:=FB.out (by omega)
      obtain⟨y,hy⟩: ∃ y,iAt b k=y:=⟨_,rfl⟩
      have c2:=fb k hlt2
      rw[hy]at c2
      have hst:=Lib.hid (cmpL_step hlt1 hlt2 hx hy)
      clear fa fb hx hy
      rcases Int.lt_trichotomy x y with he|he|he
      · have hc:cmp1 x y= -1:=if_pos he
        have hj2:Hid (R= -1):=Lib.hid (by have:=hst.out;rw[hj.out,if_pos he]at this;exact this)
        have CT:Hid (∀ w',Calls Tryz.prog 157 #[.int .i64 x,.int .i64 y] w' fun e w''=>e= .returned (.int .i64 (-1))∧w''=w'):=fun w'=>by have:=cmpCompare_any x y w';rw[hc]at this;exact this
        clear hc
        go_wp2_with(go_at_call 157;refine(CT.out _).mono ?_;rintro e w1 ⟨rfl,rfl⟩)
        go_ret
        exact⟨ret_int (by rw[HR.out,hj2.out]),rfl⟩
      · have hc:cmp1 x y=0:=by unfold cmp1;rw[if_neg (by omega),if_neg (by omega)]
        have hj2:Hid (cmpL (a.drop (k+1)) (b.drop (k+1))=R):=Lib.hid (by have:=hst.out;rw[hj.out,if_neg (by omega),if_neg (by omega)]at this;exact this.symm)
        have CT:Hid (∀ w',Calls Tryz.prog 157 #[.int .i64 x,.int .i64 y] w' fun e w''=>e= .returned (.int .i64 0)∧w''=w'):=fun w'=>by have:=cmpCompare_any x y w';rw[hc]at this;exact this
        clear hc he
        go_wp2_with(go_at_call 157;refine(CT.out _).mono ?_;rintro e w1 ⟨rfl,rfl⟩)
        go_round
        case rel=>exact⟨k+1,by omega,by omega,by go_num,hj2⟩
        case measure=>(simp[intOf];omega)
      · have hc:cmp1 x y=1:=by unfold cmp1;rw[if_neg (by omega),if_pos he]
        have hj2:Hid (R=1):=Lib.hid (by have:=hst.out;rw[hj.out,if_neg (by omega),if_pos he]at this;exact this)
        have CT:Hid (∀ w',Calls Tryz.prog 157 #[.int .i64 x,.int .i64 y] w' fun e w''=>e= .returned (.int .i64 1)∧w''=w'):=fun w'=>by have:=cmpCompare_any x y w';rw[hc]at this;exact this
        clear hc
        go_wp2_with(go_at_call 157;refine(CT.out _).mono ?_;rintro e w1 ⟨rfl,rfl⟩)
        go_ret
        exact⟨ret_int (by rw[HR.out,hj2.out]),rfl⟩
    · have hj2:Hid (R=1):=Lib.hid (by rw[← hj.out,cmpL_endB hlt1 (by omega)])
      clear fa hx
      go_wp2
      go_ret
      exact⟨ret_int (by rw[HR.out,hj2.out]),rfl⟩
  · by_cases h:a.length<b.length
    · have hj2:Hid (R= -1):=Lib.hid (by rw[← hj.out,cmpL_endA (by omega) (by omega)])
      go_wp2
      go_ret
      exact⟨ret_int (by rw[HR.out,hj2.out]),rfl⟩
    · have hj2:Hid (R=0):=Lib.hid (by rw[← hj.out,cmpL_end (by omega) (by omega)])
      go_wp2
      go_ret
      exact⟨ret_int (by rw[HR.out,hj2.out]),rfl⟩
structure EdgeR where
 f0:Int
 f1:UInt8
 f2:Int
instance:Inhabited EdgeR:=⟨⟨default,default,default⟩⟩
def EdgeR.cells (x:EdgeR):List Value:=[.int .i64 x.f0,.int .u8 (x.f1.toNat:Int),.int .i64 x.f2]
theorem EdgeR.cells_length (x:EdgeR):x.cells.length=3:=rfl
def edgeAt (l:List EdgeR) (k:Nat):EdgeR:=l.getD k default
theorem EdgeR.ext' {x y:EdgeR} (h0:x.f0=y.f0) (h1:x.f1=y.f1) (h2:x.f2=y.f2):x=y:=by cases x;cases y;simp_all
def EdgesR (w:World) (v:Value) (xs:List EdgeR):Prop:=RdS w 3 v xs.length (xs.flatMap EdgeR.cells)
theorem EdgesR.fr {w w':World} {v:Value} {xs:List EdgeR} (h:EdgesR w v xs) (hf:Fr w w'):EdgesR w' v xs:=RdS.fr h hf
theorem EdgesR.le {w:World} {v:Value} {xs:List EdgeR} (h:EdgesR w v xs):xs.length≤9223372036854775807:=RdS.le h
theorem edge_flat (xs:List EdgeR) (k j:Nat) (hk:k<xs.length) (hj:j<3) (d:Value):(xs.flatMap EdgeR.cells).getD (k*3+j) d=(edgeAt xs k).cells.getD j d:=by
 induction xs generalizing k with
 |nil=>simp at hk
 |cons x xs ih=>
  rw[List.flatMap_cons]
  cases k with
  |zero=>simp[List.getD,List.getElem?_append_left (show j<x.cells.length by rw[EdgeR.cells_length];exact hj),edgeAt]
  |succ k=>
   have:=ih k (by simpa using hk)
   simp only[List.getD]at this ⊢
   rw[List.getElem?_append_right (by rw[EdgeR.cells_length];omega),show(k+1)*3+j-x.cells.length=k*3+j by rw[EdgeR.cells_length];omega,this]
   simp[edgeAt]
theorem EdgesR.one {w:World} {v:Value} {xs:List EdgeR} (h:EdgesR w v xs):
  ∃ ao b o cap,v= .slice ao xs.length cap∧xs.length≤cap∧cap≤9223372036854775807∧(0<xs.length→ao=some ⟨b,o,none⟩∧b<w.heap.size∧ ∀ k,k<xs.length→w.cell? ⟨b,o+k*3,none⟩=some (.int .i64 (edgeAt xs k).f0)∧w.cell? ⟨b,o+k*3+1,none⟩=some (.int .u8 ((edgeAt xs k).f1.toNat:Int))∧w.cell? ⟨b,o+k*3+2,none⟩=some (.int .i64 (edgeAt xs k).f2)):=by
 obtain⟨ao,b,o,cap,h1,h2,h3,h4⟩:=RdS.one h undef
 refine⟨ao,b,o,cap,h1,h2,h3,fun hn=>⟨(h4 hn).1,(h4 hn).2.1,fun k hk=>?_⟩⟩
 have hc:=(h4 hn).2.2
 exact⟨by have:=hc (k*3+0) (by omega);rw[edge_flat xs k 0 hk (by omega)]at this;exact this,by have:=hc (k*3+1) (by omega);rw[edge_flat xs k 1 hk (by omega)]at this;exact this,by have:=hc (k*3+2) (by omega);rw[edge_flat xs k 2 hk (by omega)]at this;exact this⟩
theorem toEdge_any (x:EdgeR) (w:World):
  Calls Tryz.prog 169 #[.agg #[.int .i64 x.f0,.int .u8 (x.f1.toNat:Int),.int .i64 x.f2]] w fun e w'=>e= .returned (.agg #[.int .i64 x.f0,.int .u8 (x.f1.toNat:Int),.int .i64 x.f2])∧Fr w w':=by
 go_enter Tryz.func169,Tryz.ntmps169
 go_wp2
 exact bodyPost_ret (v:= .agg #[.int .i64 x.f0,.int .u8 (x.f1.toNat:Int),.int .i64 x.f2]) (by simp[results,Tryz.results169,go_sem]) rfl ⟨rfl,by exact Qf⟩
theorem eqEdge_same (x:EdgeR) (w:World):
  Calls Tryz.prog 174 #[.agg #[.int .i64 x.f0,.int .u8 (x.f1.toNat:Int),.int .i64 x.f2],.agg #[.int .i64 x.f0,.int .u8 (x.f1.toNat:Int),.int .i64 x.f2]] w fun e w'=>e= .returned (.bool true)∧Fr w w':=by
 go_enter Tryz.func174,Tryz.ntmps174
 go_wp2
 go_ret
 exact⟨rfl,by exact Qf⟩
def EdgeR.bulk (x:EdgeR):Nat:=0
def EdgeR.okSize (x:EdgeR):Prop:=True
theorem info_Edge:(Tryz.prog.info? 79).map (fun i=>(i.zero,i.size,i.bytes))=some (some (.agg #[.int .i64 0,.int .u8 0,.int .i64 0]),3,24):=by kernel_rfl
def EdgesO (w:World) (lo:Nat) (v:Value) (xs:List EdgeR):Prop:=w.ownsRow lo 79 3 v xs.length (xs.flatMap EdgeR.cells)
theorem EdgesO.rd {w:World} {lo:Nat} {v:Value} {xs:List EdgeR} (h:EdgesO w lo v xs):EdgesR w v xs:=RdS.of_owns h
theorem EdgesO.val {w:World} {lo:Nat} {v:Value} {xs:List EdgeR} (h:EdgesO w lo v xs): ∃ ao cap,v= .slice ao xs.length cap:=owns_val h
theorem EdgesO.fr {w w':World} {lo:Nat} {v:Value} {xs:List EdgeR} (h:EdgesO w lo v xs) (hf:Fr w w'):EdgesO w' lo v xs:=owns_fr h hf
def sumEdge (xs:List EdgeR) (k:Nat):Nat:=((xs.take k).map EdgeR.bulk).sum
theorem sumEdge_succ (xs:List EdgeR) (k:Nat) (h:k<xs.length):sumEdge xs (k+1)=sumEdge xs k+(edgeAt xs k).bulk:=by
 unfold sumEdge edgeAt
 rw[List.take_succ_eq_append_getElem h,List.map_append,List.sum_append]
 simp[List.getD,List.getElem?_eq_getElem h]
theorem sumEdge_le (xs:List EdgeR) (k:Nat):sumEdge xs k≤sumEdge xs xs.length:=by
 unfold sumEdge
 rw[List.take_length]
 conv=>rhs;rw[← List.take_append_drop k xs]
 rw[List.map_append,List.sum_append]
 omega
def EdgesBulk (xs:List EdgeR):Nat:=xs.length+sumEdge xs xs.length
theorem edge_mem {xs:List EdgeR} {p:EdgeR→Prop} (h: ∀ x∈xs,p x) (k:Nat) (hk:k<xs.length):p (edgeAt xs k):=by
 have:=h xs[k] (List.getElem_mem hk)
 simpa [edgeAt,List.getD,List.getElem?_eq_getElem hk]using this
theorem szEdgeS_any (a:Value) (xs:List EdgeR) (left:Int) (w:World) (ha:EdgesR w a xs) (h0:0≤left) (h1:left≤1048576):
  Calls Tryz.prog 108 #[a,.int .i64 left] w fun e w'=>e= .returned (.int .i64 (szR left xs.length))∧w=w':=by
 obtain⟨ao,ba,oa,ca,rfl,hca,hma,fa⟩:=ha.one
 clear ha fa
 by_cases hl:(xs.length:Int)≤left
 · have hr:=szR_ok hl
   go_enter Tryz.func108,Tryz.ntmps108
   go_wp2
   go_ret
   exact⟨ret_int (by first|rfl|exact hr.symm),rfl⟩
 · have hr:=szR_no hl
   go_enter Tryz.func108,Tryz.ntmps108
   go_wp2
   go_ret
   exact⟨ret_int (by first|rfl|exact hr.symm),rfl⟩
theorem edge_fill (xs:List EdgeR) (k:Nat) (hk:k<xs.length):((((fillR xs EdgeR.cells [.int .i64 0,.int .u8 0,.int .i64 0] k).set (k*3) (Value.int .i64 (edgeAt xs k).f0)).set (k*3+1) (Value.int .u8 ((edgeAt xs k).f1.toNat:Int))).set (k*3+2) (Value.int .i64 (edgeAt xs k).f2))=fillR xs EdgeR.cells [.int .i64 0,.int .u8 0,.int .i64 0] (k+1):=by
 rw[fillR_split xs EdgeR.cells [.int .i64 0,.int .u8 0,.int .i64 0] k hk]
 have ha:((xs.take k).flatMap EdgeR.cells).length=k*3:=flat_len xs EdgeR.cells 3 EdgeR.cells_length k (Nat.le_of_lt hk)
 rw[set_mid _ _ _ 0 _ (by rw[ha];rfl) (by simp)]
 rw[set_mid _ _ _ 1 _ (by rw[ha]) (by simp)]
 rw[set_mid _ _ _ 2 _ (by rw[ha]) (by simp)]
 rw[fillR_next xs EdgeR.cells [.int .i64 0,.int .u8 0,.int .i64 0] k hk]
 rfl
set_option maxHeartbeats 400000 in
theorem toEdgeS_any (a:Value) (xs:List EdgeR) (w:World) (ha:EdgesR w a xs) (hn:xs.length≤1048576):
  Calls Tryz.prog 113 #[a] w fun e w'=> ∃ v,e= .returned v∧EdgesO w' w.heap.size v xs∧Fr w w':=by
 obtain⟨ao,ba,oa,ca,rfl,hca,hma,fa⟩:=ha.one
 clear ha
 obtain⟨i0,hi,hz0,hz1,hz2⟩:=info_parts info_Edge
 go_enter Tryz.func113,Tryz.ntmps113
 go_wp2_with(at_make;refine wpList_make_full _ rfl _ _ 24 rfl w.heap.size 79 i0 (.agg #[.int .i64 0,.int .u8 0,.int .i64 0]) 3 Tryz.underlying24 hi hz0 hz1 _ _ _ _ xs.length rfl rfl rfl rfl (by rw[hz2];omega) (by unfold maxLen;omega) (by omega) ?_;intro w1 hown hgrow)
 rw[show(madeCells (Value.cells (.agg #[.int .i64 0,.int .u8 0,.int .i64 0])) (xs.length*3)).toList=fillR xs EdgeR.cells [.int .i64 0,.int .u8 0,.int .i64 0] 0 from made_fill xs EdgeR.cells [.int .i64 0,.int .u8 0,.int .i64 0] 3 rfl (by omega)]at hown
 go_loopw [4] (fun i wr=> ∃ k:Nat,k≤xs.length∧i= .int .i64 k∧wr.ownsRow w.heap.size 79 3 (.slice (some ⟨w.heap.size,0,none⟩) xs.length xs.length) xs.length (fillR xs EdgeR.cells [.int .i64 0,.int .u8 0,.int .i64 0] k)∧Fr w wr) (fun i _=>xs.length-(intOf i).toNat)
 case atStart=>exact⟨0,Nat.zero_le _,rfl,hown,(Fr.refl w).grown hgrow (by simp)⟩
 case round=>
  clear hown hgrow
  obtain⟨k,hk,rfl,ho,hfr⟩:=hrel
  by_cases hlt:k<xs.length
  · obtain⟨rfl,hba,fa⟩:=fa (by omega)
    obtain⟨x,hx⟩: ∃ x,edgeAt xs k=x:=⟨_,rfl⟩
    have c0:wr.cell? ⟨ba,oa+k*3,none⟩=some (.int .i64 x.f0):=(hfr.cell (p:=⟨ba,_,none⟩) hba).trans (hx▸(fa k hlt).1)
    have c1:wr.cell? ⟨ba,oa+k*3+1,none⟩=some (.int .u8 (x.f1.toNat:Int)):=(hfr.cell (p:=⟨ba,_,none⟩) hba).trans (hx▸(fa k hlt).2.1)
    have c2:wr.cell? ⟨ba,oa+k*3+2,none⟩=some (.int .i64 x.f2):=(hfr.cell (p:=⟨ba,_,none⟩) hba).trans (hx▸(fa k hlt).2.2)
    have hfl:=Lib.hid (edge_fill xs k hlt)
    rw[hx]at hfl
    have hgs:w.heap.size<wr.heap.size:=(ho.lt _ rfl).2
    clear fa hx
    go_wp2_with(go_at_call 169;refine(toEdge_any x _).mono ?_;rintro e w2 ⟨rfl,hf1⟩;have ho2:=owns_fr ho hf1;have g0:=ho2.frozenAt (k*3);obtain⟨u0,d0⟩:=owns_cell ho2 (k*3) (by omega);have g1:=ho2.frozenAt (k*3+1);obtain⟨u1,d1⟩:=owns_cell ho2 (k*3+1) (by omega);have g2:=ho2.frozenAt (k*3+2);obtain⟨u2,d2⟩:=owns_cell ho2 (k*3+2) (by omega))
    have ho2:=owns_fr ho hf1
    have s0:=ho2.stored (k*3) (.int .i64 x.f0)
    have s1:=s0.1.stored (k*3+1) (.int .u8 (x.f1.toNat:Int))
    have s2:=s1.1.stored (k*3+2) (.int .i64 x.f2)
    go_roundw
    case rel=>exact⟨k+1,by omega,by go_num,hfl.out▸s2.1,by exact Qf⟩
    case measure=>(simp[intOf];omega)
  · clear fa
    obtain rfl:k=xs.length:=by omega
    rw[fillR_all]at ho
    go_wp2
    go_ret
    exact⟨_,rfl,ho,hfr⟩
theorem eqEdgeS_same (a b:Value) (xs:List EdgeR) (w:World) (ha:EdgesR w a xs) (hb:EdgesR w b xs):
  Calls Tryz.prog 119 #[a,b] w fun e w'=>e= .returned (.bool true)∧Fr w w':=by
 obtain⟨ao,ba,oa,ca,rfl,hca,hma,fa⟩:=ha.one
 obtain⟨bo,bb,ob,cb,rfl,hcb,hmb,fb⟩:=hb.one
 clear ha hb
 go_enter Tryz.func119,Tryz.ntmps119
 go_wp2
 go_loopw [5] (fun i wr=> ∃ k:Nat,k≤xs.length∧i= .int .i64 k∧Fr w wr) (fun i _=>xs.length-(intOf i).toNat)
 case atStart=>exact⟨0,Nat.zero_le _,rfl,Fr.refl _⟩
 case round=>
  obtain⟨k,hk,rfl,hfr⟩:=hrel
  by_cases hlt:k<xs.length
  · obtain⟨rfl,hba,fa⟩:=fa (by omega)
    obtain⟨rfl,hbb,fb⟩:=fb (by omega)
    obtain⟨x,hx⟩: ∃ x,edgeAt xs k=x:=⟨_,rfl⟩
    have c0: ∀ w',Fr wr w'→w'.cell? ⟨ba,oa+k*3,none⟩=some (.int .i64 x.f0):=fun w' hf=>((hfr.trans hf).cell (p:=⟨ba,_,none⟩) hba).trans (hx▸(fa k hlt).1)
    have c1: ∀ w',Fr wr w'→w'.cell? ⟨ba,oa+k*3+1,none⟩=some (.int .u8 (x.f1.toNat:Int)):=fun w' hf=>((hfr.trans hf).cell (p:=⟨ba,_,none⟩) hba).trans (hx▸(fa k hlt).2.1)
    have c2: ∀ w',Fr wr w'→w'.cell? ⟨ba,oa+k*3+2,none⟩=some (.int .i64 x.f2):=fun w' hf=>((hfr.trans hf).cell (p:=⟨ba,_,none⟩) hba).trans (hx▸(fa k hlt).2.2)
    have e0: ∀ w',Fr wr w'→w'.cell? ⟨bb,ob+k*3,none⟩=some (.int .i64 x.f0):=fun w' hf=>((hfr.trans hf).cell (p:=⟨bb,_,none⟩) hbb).trans (hx▸(fb k hlt).1)
    have e1: ∀ w',Fr wr w'→w'.cell? ⟨bb,ob+k*3+1,none⟩=some (.int .u8 (x.f1.toNat:Int)):=fun w' hf=>((hfr.trans hf).cell (p:=⟨bb,_,none⟩) hbb).trans (hx▸(fb k hlt).2.1)
    have e2: ∀ w',Fr wr w'→w'.cell? ⟨bb,ob+k*3+2,none⟩=some (.int .i64 x.f2):=fun w' hf=>((hfr.trans hf).cell (p:=⟨bb,_,none⟩) hbb).trans (hx▸(fb k hlt).2.2)
    clear fa fb hx
    go_wp2_with fail
    go_region_held3 (fun w'=>Fr wr w') (repeat(first|(with_reducible exact Fr.refl _)|(with_reducible assumption)|(with_reducible refine Fr.drewN ?_ _)|(with_reducible refine Fr.drew ?_)|(with_reducible refine Fr.alloc ?_ _)|(with_reducible refine Fr.setCell ?_ (by exact Qz) _)|(with_reducible refine Fr.trans ?_ (by with_reducible assumption)))) (first|(go_at_call 174;refine(eqEdge_same x _).mono ?_;rintro e w2 ⟨rfl,hf1⟩))
    go_wp2_with fail
    go_roundw
    case rel=>exact⟨k+1,by omega,by go_num,by exact Qf⟩
    case measure=>(simp[intOf];omega)
  · clear fa fb
    go_wp2
    go_ret
    exact⟨rfl,hfr⟩
end Go.Proofs.YtjnahjgncmcmdaaGreat