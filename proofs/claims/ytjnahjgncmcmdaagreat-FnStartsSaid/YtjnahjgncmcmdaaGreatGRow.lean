/- Texts in one: Flat, Num, Row. -/
import Derived.Test.YtjnahjgncmcmdaaGreatGStr
import Derived.Deep.AppendLies
namespace Go.Proofs.YtjnahjgncmcmdaaGreat
open Go.RowKit
set_option linter.unusedVariables false
set_option linter.unusedSimpArgs false
theorem info_int:(Tryz.prog.info? 3).map (fun i=>(i.zero,i.size,i.bytes))=some (some (.int .i64 0),1,8):=by kernel_rfl
/-- A slice of the call's own, made from block lo on. -/
def IntsO (w:World) (lo:Nat) (v:Value) (ss:List Int):Prop:=w.ownsRow lo 3 1 v ss.length (ss.map (Value.int .i64))
theorem IntsO.rd {w:World} {lo:Nat} {v:Value} {ss:List Int} (h:IntsO w lo v ss):IntsR w v ss:=RdS.of_owns h
theorem IntsO.val {w:World} {lo:Nat} {v:Value} {ss:List Int} (h:IntsO w lo v ss): ∃ ao cap,v= .slice ao ss.length cap:=owns_val h
theorem IntsO.fr {w w':World} {lo:Nat} {v:Value} {ss:List Int} (h:IntsO w lo v ss) (hf:Fr w w'):IntsO w' lo v ss:=owns_fr h hf
theorem eqIntS_any (a b:Value) (ss ts:List Int) (w:World) (ha:IntsR w a ss) (hb:IntsR w b ts):
  Calls Tryz.prog 51 #[a,b] w fun e w'=>e= .returned (.bool (decide (ss=ts)))∧Fr w w':=by
 obtain⟨ao,ba,oa,ca,rfl,hca,hma,fa⟩:=ha.one
 obtain⟨bo,bb,ob,cb,rfl,hcb,hmb,fb⟩:=hb.one
 clear ha hb
 by_cases hl:ss.length=ts.length
 · have HL:Hid (ss.length=ts.length):=hl
   rw[← hl]at fb hcb ⊢
   clear hl
   go_enter Tryz.func51,Tryz.ntmps51
   go_wp2
   go_loopw [5] (fun i wr=> ∃ k:Nat,k≤ss.length∧i= .int .i64 k∧Fr w wr∧Hid (∀ j,j<k→iAt ss j=iAt ts j)) (fun i _=>ss.length-(intOf i).toNat)
   case atStart=>exact⟨0,Nat.zero_le _,rfl,Fr.refl _,fun j hj=>absurd hj (by omega)⟩
   case round=>
    obtain⟨k,hk,rfl,hfr,hj⟩:=hrel
    by_cases hlt:k<ss.length
    · obtain⟨rfl,hba,fa⟩:=fa (by omega)
      obtain⟨rfl,hbb,fb⟩:=fb (by omega)
      obtain⟨x,hx⟩: ∃ x,x=iAt ss k:=⟨_,rfl⟩
      obtain⟨y,hy⟩: ∃ y,y=iAt ts k:=⟨_,rfl⟩
      have c1:wr.cell? ⟨ba,oa+k,none⟩=some (.int .i64 x):=(hfr.cell (p:=⟨ba,_,none⟩) hba).trans (by rw[hx];exact fa k hlt)
      have c2:wr.cell? ⟨bb,ob+k,none⟩=some (.int .i64 y):=(hfr.cell (p:=⟨bb,_,none⟩) hbb).trans (by rw[hy];exact fb k hlt)
      have HX:=Lib.hid hx
      have HY:=Lib.hid hy
      clear fa fb hx hy
      by_cases he:x=y
      · have he':(x==y)=true:=by simpa using he
        have he'':(x !=y)=false:=by simpa using he
        have HE:Hid (iAt ss k=iAt ts k):=by rw[← HX.out, ← HY.out];exact he
        clear he
        go_wp2
        go_quiet (fail)
        go_wp2
        go_roundw
        case rel=>exact⟨k+1,by omega,by go_num,by exact Qf,fun j h=>by rcases Nat.lt_succ_iff_lt_or_eq.1 h with h|rfl;exact hj.out j h;exact HE.out⟩
        case measure=>(simp[intOf];omega)
      · have he':(x==y)=false:=by simpa using he
        have he'':(x !=y)=true:=by simpa using he
        go_wp2
        go_quiet (fail)
        go_wp2
        go_ret
        exact⟨ret_bool (by symm;rw[decide_eq_false_iff_not];rintro rfl;exact he (HX.out.trans HY.out.symm)),by exact Qf⟩
    · clear fa fb
      go_wp2
      go_ret
      exact⟨ret_bool (by symm;rw[decide_eq_true_eq];exact ext_getD 0 HL.out (fun j h=>hj.out j (by omega))),by exact Qf⟩
 · go_enter Tryz.func51,Tryz.ntmps51
   go_wp2
   go_ret
   exact⟨ret_bool (by symm;rw[decide_eq_false_iff_not];rintro rfl;exact hl rfl),by exact Qf⟩
theorem toIntS_any (a:Value) (ss:List Int) (w:World) (ha:IntsR w a ss) (hn:ss.length≤1048576):
  Calls Tryz.prog 47 #[a] w fun e w'=> ∃ v,e= .returned v∧IntsO w' w.heap.size v ss∧Fr w w':=by
 obtain⟨ao,ba,oa,ca,rfl,hca,hma,fa⟩:=ha.one
 clear ha
 obtain⟨i0,hi,hz0,hz1,hz2⟩:=info_parts info_int
 go_enter Tryz.func47,Tryz.ntmps47
 go_wp2_with(at_make;refine wpList_make_full _ rfl _ _ 34 rfl w.heap.size 3 i0 (.int .i64 0) 1 Tryz.underlying34 hi hz0 hz1 _ _ _ _ ss.length rfl rfl rfl rfl (by rw[hz2];omega) (by unfold maxLen;omega) (by omega) ?_;intro w1 hown hgrow)
 rw[show(madeCells (Value.cells (.int .i64 0)) (ss.length*1)).toList=fill (ss.map (Value.int .i64)) (.int .i64 0) ss.length 0 from by rw[fill_zero,Nat.mul_one];exact toList_madeCells_one _ _]at hown
 go_loopw [4] (fun i wr=> ∃ k:Nat,k≤ss.length∧i= .int .i64 k∧wr.ownsRow w.heap.size 3 1 (.slice (some ⟨w.heap.size,0,none⟩) ss.length ss.length) ss.length (fill (ss.map (Value.int .i64)) (.int .i64 0) ss.length k)∧Fr w wr) (fun i _=>ss.length-(intOf i).toNat)
 case atStart=>exact⟨0,Nat.zero_le _,rfl,hown,(Fr.refl w).grown hgrow (by simp)⟩
 case round=>
  clear hown hgrow
  obtain⟨k,hk,rfl,ho,hfr⟩:=hrel
  by_cases hlt:k<ss.length
  · obtain⟨rfl,hba,fa⟩:=fa (by omega)
    have c1:wr.cell? ⟨ba,oa+k,none⟩=some (.int .i64 (iAt ss k)):=(hfr.cell (p:=⟨ba,_,none⟩) hba).trans (fa k hlt)
    have f2:=ho.frozenAt k
    obtain⟨u,c2⟩:=owns_cell ho k (by omega)
    have hst:=ho.stored k (.int .i64 (iAt ss k))
    rw[fill_set _ _ _ _ _ hlt (by simp) (by simp[iAt,List.getElem?_eq_getElem hlt])]at hst
    clear fa ho
    go_wp2
    go_roundw
    case rel=>exact⟨k+1,by omega,by go_num,hst.1,hfr.setCell (Nat.le_refl _) _⟩
    case measure=>(simp[intOf];omega)
  · clear fa
    obtain rfl:k=ss.length:=by omega
    rw[fill_all _ _ _ (by simp)]at ho
    go_wp2
    go_ret
    exact⟨_,rfl,ho,hfr⟩
/-- The marks that a slice of n elements bears, the first of them k. -/
def marksInt (k:Int) (n:Nat):List Int:=(List.range n).map fun i:Nat=>k+i
theorem marksInt_length (k:Int) (n:Nat):(marksInt k n).length=n:=by simp[marksInt]
theorem marksInt_at (k:Int) (n j:Nat) (h:j<n):iAt (marksInt k n) j=(fun i:Nat=>k+i) j:=by simp[marksInt,iAt,List.getD,h]
theorem markIntS_any (g n cap:Nat) (ss:List Int) (k:Int) (lo:Nat) (w:World) (ha:w.ownsRow lo 3 1 (.slice (some ⟨g,0,none⟩) n cap) n (ss.map (Value.int .i64))) (h0:0<k) (h1:k≤1073741824) (h2:n≤1073741824):
  Calls Tryz.prog 54 #[.slice (some ⟨g,0,none⟩) n cap,.int .i64 k] w fun e w'=>e= .returned (.int .i64 (k+n))∧w'.ownsRow lo 3 1 (.slice (some ⟨g,0,none⟩) n cap) n ((marksInt k n).map (Value.int .i64))∧w.grownBy w' (some g):=by
 have hsl:(ss.map (Value.int .i64)).length=n:=by have:=ha.1;simpa using this
 have hg0:g<w.heap.size:=(ha.lt g rfl).2
 go_enter Tryz.func54,Tryz.ntmps54
 go_wp2
 go_loopw [1,5] (fun l i wr=> ∃ m:Nat,m≤n∧i= .int .i64 m∧l= .int .i64 (k+m)∧wr.ownsRow lo 3 1 (.slice (some ⟨g,0,none⟩) n cap) n (part ((marksInt k n).map (Value.int .i64)) (ss.map (Value.int .i64)) m)∧w.grownBy wr (some g)) (fun _ i _=>n-(intOf i).toNat)
 case atStart=>exact⟨0,Nat.zero_le _,rfl,by simp,by rw[part_zero];exact ha,World.grownBy.refl _ _⟩
 case round=>
  clear ha
  obtain⟨m,hm,rfl,rfl,ho,hfr⟩:=hrel
  by_cases hlt:m<n
  · have f2:=ho.frozenAt m
    obtain⟨u,c2⟩:=owns_cell ho m (by omega)
    have hst:=ho.stored m (.int .i64 (k+m))
    rw[part_set _ _ _ n _ hlt (by simp[marksInt]) hsl (by simp[marksInt,hlt])]at hst
    clear ho
    go_wp2
    go_roundw
    case rel=>exact⟨m+1,by omega,by go_num,by go_num,hst.1,gr_trans hfr hst.2⟩
    case measure=>(simp[intOf];omega)
  · obtain rfl:m=n:=by omega
    rw[part_all _ _ m (by simp[marksInt]) hsl]at ho
    go_wp2
    go_ret
    exact⟨rfl,ho,hfr⟩
theorem info_bool:(Tryz.prog.info? 4).map (fun i=>(i.zero,i.size,i.bytes))=some (some (.bool false),1,1):=by kernel_rfl
/-- A slice of the call's own, made from block lo on. -/
def BoolsO (w:World) (lo:Nat) (v:Value) (ss:List Bool):Prop:=w.ownsRow lo 4 1 v ss.length (ss.map (Value.bool))
theorem BoolsO.rd {w:World} {lo:Nat} {v:Value} {ss:List Bool} (h:BoolsO w lo v ss):BoolsR w v ss:=RdS.of_owns h
theorem BoolsO.val {w:World} {lo:Nat} {v:Value} {ss:List Bool} (h:BoolsO w lo v ss): ∃ ao cap,v= .slice ao ss.length cap:=owns_val h
theorem BoolsO.fr {w w':World} {lo:Nat} {v:Value} {ss:List Bool} (h:BoolsO w lo v ss) (hf:Fr w w'):BoolsO w' lo v ss:=owns_fr h hf
/-- The bytes of a number, low ones first. -/
def varL (n:Nat):List UInt8:=if h:n≤127 then [UInt8.ofNat n]else UInt8.ofNat (128+n%128)::varL (n/128)
theorem varL_small {n:Nat} (h:n≤127):varL n=[UInt8.ofNat n]:=by rw[varL,dif_pos h]
theorem varL_big {n:Nat} (h:127<n):varL n=UInt8.ofNat (128+n%128)::varL (n/128):=by rw[varL,dif_neg (by omega)]
theorem varL_len (n:Nat):(varL n).length≤n+1:=by
 induction n using Nat.strongRecOn with
 |ind n ih=>
  by_cases h:n≤127
  · rw[varL_small h];simp
  · rw[varL_big (by omega),List.length_cons]
    have:=ih (n/128) (by omega)
    omega
theorem varL_pos (n:Nat):0<(varL n).length:=by
 by_cases h:n≤127
 · rw[varL_small h];simp
 · rw[varL_big (by omega)];simp
theorem varL_len40 (n:Nat) (h:n<1099511627776):(varL n).length≤6:=by
 have step: ∀ m k,(∀ n,n<m→(varL n).length≤k)→ ∀ n,n<m*128→(varL n).length≤k+1:=by
  intro m k hk n hn
  by_cases h:n≤127
  · rw[varL_small h];simp
  · rw[varL_big (by omega),List.length_cons]
    have:=hk (n/128) (by omega)
    omega
 have h1: ∀ n,n<128→(varL n).length≤1:=fun n hn=>by rw[varL_small (by omega)];simp
 have h6:=step _ _ (step _ _ (step _ _ (step _ _ (step _ _ h1))))
 exact h6 n (by omega)
def vText (n:Int):ByteArray:=⟨(varL n.toNat).toArray⟩
theorem vText_size (n:Int):(vText n).size=(varL n.toNat).length:=by simp[vText,ByteArray.size]
theorem info_byte:(Tryz.prog.info? 5).map (fun i=>(i.zero,i.size,i.bytes))=some (some (.int .u8 0),1,1):=by kernel_rfl
/-- 'string(b)' of bytes that the call itself laid. -/
theorem conv_own {w:World} {lo:Nat} {v:Value} {n:Nat} {xs:List Int} (h:w.ownsRow lo 5 1 v n (xs.map (Value.int .u8))):
  (convert 22 9 v).run Tryz.prog w= .ok (.string (strOfNums xs)) w:=by
 have h0:=h
 obtain⟨h1,⟨rfl,rfl⟩|⟨g,cap,cur,rfl,_⟩⟩:=h
 · have:xs=[]:=by simpa using h1
   subst this
   exact run_convert_bytes_nil _ 22 5 Tryz.underlying22 Tryz.underlying5 0 0 9 Tryz.underlying9
 · have hn:xs.length=n:=by simpa using h1
   refine run_convert_bytes_arg _ 22 5 Tryz.underlying22 Tryz.underlying5 g 0 n cap xs hn (fun i hi=>?_) 9 Tryz.underlying9
   rw[Nat.zero_add,h0.cellAt i (by omega)]
   have:i<xs.length:=by omega
   simp[List.getD,List.getElem?_eq_getElem this]
/-- The bytes l as numbers. -/
def nums (l:List UInt8):List Int:=l.map fun b=>(b.toNat:Int)
theorem nums_append (l m:List UInt8):nums (l++m)=nums l++nums m:=by simp[nums]
theorem nums_length (l:List UInt8):(nums l).length=l.length:=by simp[nums]
theorem str_nums (l:List UInt8):strOfNums (nums l)=⟨l.toArray⟩:=by
 apply WideShapes.bytes_inj
 rw[strOfNums_data,nums,List.map_map]
 show l.map _=l
 conv=>rhs;rw[← List.map_id l]
 apply List.map_congr_left
 intro b _
 simp
theorem num_byte (m:Nat) (h:m<256):((UInt8.ofNat m).toNat:Int)=m:=by
 have:(UInt8.ofNat m).toNat=m:=by simp;omega
 omega
def BytesO (w:World) (lo:Nat) (v:Value) (l:List UInt8):Prop:=w.ownsRow lo 5 1 v l.length ((nums l).map (Value.int .u8))
theorem BytesO.snoc {w:World} {lo:Nat} {v:Value} {l:List UInt8} {x:Int} {b:UInt8} (h:w.ownsRow lo 5 1 v (l.length+1) ((nums l).map (Value.int .u8)++[.int .u8 x])) (hx:x=(b.toNat:Int)):BytesO w lo v (l++[b]):=by
 subst hx
 unfold BytesO
 rw[nums_append,List.map_append,List.length_append]
 exact h
theorem BytesO.conv {w:World} {lo:Nat} {v:Value} {l:List UInt8} (h:BytesO w lo v l):(convert 22 9 v).run Tryz.prog w= .ok (.string ⟨l.toArray⟩) w:=by
 rw[← str_nums]
 exact conv_own h
/-- Behind an append of the call's own: nothing old has turned. -/
theorem append_fr {w wr w1:World} {o:Obj} {e:TypeId} {sz:Nat} {v:Value} {n:Nat} {xs:List Value} (hfr:Fr w wr) (ho:wr.ownsRow w.heap.size e sz v n xs) (hg:(wr.alloc o).grownBy w1 v.ownBlock):Fr w w1:=
 (hfr.alloc o).grown hg (fun k hk=>(ho.lt k hk).1)
set_option maxRecDepth 100000 in
theorem varText_nat (k:Nat) (w:World) (h1:k≤1099511627775):
  Calls Tryz.prog 153 #[.int .i64 k] w fun e w'=>e= .returned (.string (vText k))∧Fr w w':=by
 obtain⟨i0,hi,hz0,hz1,hz2⟩:=info_parts info_byte
 have hlen:=varL_len40 k (by omega)
 go_enter Tryz.func153,Tryz.ntmps153
 go_wp2
 go_loopw [0,3] (fun i v wr=> ∃ (m:Nat) (l:List UInt8),i= .int .i64 m∧BytesO wr w.heap.size v l∧m≤k∧Hid (l++varL m=varL k)∧Fr w wr) (fun i _ _=>(intOf i).toNat)
 case atStart=>exact⟨k,[],rfl,World.ownsRow_nil _ _ _ _,Nat.le_refl _,by simp[Hid],Fr.refl _⟩
 case round=>
  obtain⟨m,l,rfl,ho,hm,hd,hfr⟩:=hrel
  have hll:l.length≤6:=by
   have:=congrArg List.length hd.out
   simp only[List.length_append]at this
   omega
  clear hlen
  by_cases hlt:127<m
  · go_wp2_with(at_builtin;refine wpList_append_own _ rfl _ _ 22 rfl w.heap.size 5 i0 (.int .u8 0) 1 1 Tryz.underlying22 hi hz0 hz1 hz2 rfl (by decide) _ _ _ rfl (World.ownsRow.alloc ho _) ⟨wr.heap.size,0,none⟩ 1 1 [.int .u8 (128+(m:Int)%128)] rfl rfl (cell_one_new _ _ _) (by simp[Value.oneCell']) (by unfold maxLen;omega) (by omega) (by have:=hfr.size;simp;omega) ?_;intro v' w1 hown' hgrow _)
    have hf1:=append_fr hfr ho hgrow
    have ho1:=BytesO.snoc (b:=UInt8.ofNat (128+m%128)) hown' (by rw[num_byte _ (by omega)];omega)
    have hd1:Hid ((l++[UInt8.ofNat (128+m%128)])++varL (m/128)=varL k):=by have:=hd.out;rw[varL_big hlt]at this;rw[List.append_assoc];exact this
    clear hown' hgrow
    go_roundw
    case rel=>exact⟨m/128,_,rfl,ho1,by omega,hd1,hf1⟩
    case measure=>(simp[intOf];omega)
  · go_wp2_with(at_builtin;refine wpList_append_own _ rfl _ _ 22 rfl w.heap.size 5 i0 (.int .u8 0) 1 1 Tryz.underlying22 hi hz0 hz1 hz2 rfl (by decide) _ _ _ rfl (World.ownsRow.alloc ho _) ⟨wr.heap.size,0,none⟩ 1 1 [.int .u8 (m:Int)] rfl rfl (cell_one_new _ _ _) (by simp[Value.oneCell']) (by unfold maxLen;omega) (by omega) (by have:=hfr.size;simp;omega) ?_;intro v' w1 hown' hgrow _;have hf1:=append_fr hfr ho hgrow;have ho1:=BytesO.snoc (b:=UInt8.ofNat m) hown' (by rw[num_byte _ (by omega)]);have hcv:=ho1.conv)
    go_ret
    exact⟨ret_str (by have:=hd.out;rw[varL_small (by omega)]at this;unfold vText;rw[Int.toNat_natCast, ← this]),hf1⟩
theorem varText_any (k:Int) (w:World) (h0:0≤k) (h1:k≤1099511627775):
  Calls Tryz.prog 153 #[.int .i64 k] w fun e w'=>e= .returned (.string (vText k))∧Fr w w':=by
 obtain⟨n,rfl⟩:=Int.eq_ofNat_of_zero_le h0
 exact varText_nat n w (by omega)
set_option maxRecDepth 100000 in
theorem l01Var_nat (k:Nat) (w:World) (h1:k≤1099511627775):
  Calls Tryz.prog 73 #[.int .i64 k] w fun e w'=>e= .returned (.string (vText k))∧Fr w w':=by
 obtain⟨i0,hi,hz0,hz1,hz2⟩:=info_parts info_byte
 have hlen:=varL_len40 k (by omega)
 go_enter Tryz.func73,Tryz.ntmps73
 go_wp2
 go_loopw [0,3] (fun i v wr=> ∃ (m:Nat) (l:List UInt8),i= .int .i64 m∧BytesO wr w.heap.size v l∧m≤k∧Hid (l++varL m=varL k)∧Fr w wr) (fun i _ _=>(intOf i).toNat)
 case atStart=>exact⟨k,[],rfl,World.ownsRow_lit w #[] 0 (Nat.le_refl _) (by simp[maxLen]) rfl,Nat.le_refl _,by simp[Hid],(Fr.refl _).alloc _⟩
 case round=>
  obtain⟨m,l,rfl,ho,hm,hd,hfr⟩:=hrel
  have hll:l.length≤6:=by
   have:=congrArg List.length hd.out
   simp only[List.length_append]at this
   omega
  clear hlen
  by_cases hlt:127<m
  · go_wp2_with(at_builtin;refine wpList_append_own _ rfl _ _ 22 rfl w.heap.size 5 i0 (.int .u8 0) 1 1 Tryz.underlying22 hi hz0 hz1 hz2 rfl (by decide) _ _ _ rfl (World.ownsRow.alloc ho _) ⟨wr.heap.size,0,none⟩ 1 1 [.int .u8 ((m:Int)%128+128)] rfl rfl (cell_one_new _ _ _) (by simp[Value.oneCell']) (by unfold maxLen;omega) (by omega) (by have:=hfr.size;simp;omega) ?_;intro v' w1 hown' hgrow _)
    have hf1:=append_fr hfr ho hgrow
    have ho1:=BytesO.snoc (b:=UInt8.ofNat (128+m%128)) hown' (by rw[num_byte _ (by omega)];omega)
    have hd1:Hid ((l++[UInt8.ofNat (128+m%128)])++varL (m/128)=varL k):=by have:=hd.out;rw[varL_big hlt]at this;rw[List.append_assoc];exact this
    clear hown' hgrow
    go_roundw
    case rel=>exact⟨m/128,_,rfl,ho1,by omega,hd1,hf1⟩
    case measure=>(simp[intOf];omega)
  · go_wp2_with(at_builtin;refine wpList_append_own _ rfl _ _ 22 rfl w.heap.size 5 i0 (.int .u8 0) 1 1 Tryz.underlying22 hi hz0 hz1 hz2 rfl (by decide) _ _ _ rfl (World.ownsRow.alloc ho _) ⟨wr.heap.size,0,none⟩ 1 1 [.int .u8 (m:Int)] rfl rfl (cell_one_new _ _ _) (by simp[Value.oneCell']) (by unfold maxLen;omega) (by omega) (by have:=hfr.size;simp;omega) ?_;intro v' w1 hown' hgrow _;have hf1:=append_fr hfr ho hgrow;have ho1:=BytesO.snoc (b:=UInt8.ofNat m) hown' (by rw[num_byte _ (by omega)]);have hcv:=ho1.conv)
    go_ret
    exact⟨ret_str (by have:=hd.out;rw[varL_small (by omega)]at this;unfold vText;rw[Int.toNat_natCast, ← this]),hf1⟩
theorem l01Var_any (k:Int) (w:World) (h0:0≤k) (h1:k≤1099511627775):
  Calls Tryz.prog 73 #[.int .i64 k] w fun e w'=>e= .returned (.string (vText k))∧Fr w w':=by
 obtain⟨n,rfl⟩:=Int.eq_ofNat_of_zero_le h0
 exact l01Var_nat n w (by omega)
/-- From w to w' only blocks in [lo, hi) have turned. -/
structure Span (lo hi:Nat) (w w':World):Prop where
 os:w'.os=w.os
 tape:w'.tape=w.tape
 output:w'.output=w.output
 size:w.heap.size≤w'.heap.size
 block: ∀ k,k<w.heap.size→(k<lo∨hi≤k)→w'.heap[k]? =w.heap[k]?
theorem Span.refl (lo hi:Nat) (w:World):Span lo hi w w:=⟨rfl,rfl,rfl,Nat.le_refl _,fun _ _ _=>rfl⟩
theorem Span.trans {lo hi:Nat} {a b c:World} (h:Span lo hi a b) (k:Span lo hi b c):Span lo hi a c:=
 ⟨k.os.trans h.os,k.tape.trans h.tape,k.output.trans h.output,Nat.le_trans h.size k.size,fun i hi ho=>(k.block i (Nat.lt_of_lt_of_le hi h.size) ho).trans (h.block i hi ho)⟩
theorem Span.of_fr {lo hi:Nat} {w w':World} (h:Fr w w'):Span lo hi w w':=⟨h.out.os,h.out.tape,h.out.output,h.size,fun k hk _=>h.out.block k hk⟩
theorem Span.then_fr {lo hi:Nat} {a w w':World} (h:Span lo hi a w) (hf:Fr w w'):Span lo hi a w':=h.trans (Span.of_fr hf)
theorem Span.of_gr {lo hi:Nat} {w w':World} {row:Option Nat} (h:w.grownBy w' row) (hr: ∀ k,row=some k→lo≤k∧k<hi):Span lo hi w w':=
 ⟨h.os,h.tape,h.output,h.size,fun k hk ho=>h.block k hk (fun e=>by have:=hr k e.symm;omega)⟩
theorem Span.mono {lo hi lo' hi':Nat} {w w':World} (h:Span lo hi w w') (h1:lo'≤lo) (h2:hi≤hi'):Span lo' hi' w w':=
 ⟨h.os,h.tape,h.output,h.size,fun k hk ho=>h.block k hk (by omega)⟩
theorem Span.fr {lo hi:Nat} {a w w':World} (h:Fr a w) (k:Span lo hi w w') (hl:a.heap.size≤lo):Fr a w':=
 ⟨k.os.trans h.out.os,k.tape.trans h.out.tape,k.output.trans h.out.output,Nat.le_trans h.size k.size,fun i hi=>(k.block i (Nat.lt_of_lt_of_le hi h.size) (.inl (Nat.lt_of_lt_of_le hi hl))).trans (h.out.block i hi)⟩
theorem Span.owns {lo hi:Nat} {w w':World} {b:Nat} {e:TypeId} {sz:Nat} {v:Value} {n:Nat} {xs:List Value} (k:Span lo hi w w') (h:w.ownsRow b e sz v n xs) (hv: ∀ g,v.ownBlock=some g→g<lo∨hi≤g):w'.ownsRow b e sz v n xs:=by
 obtain⟨h1,h2|⟨g,cap,cur,hv',hg,hh,hr⟩⟩:=h
 · exact⟨h1,.inl h2⟩
 · exact⟨h1,.inr ⟨g,cap,cur,hv',hg,(k.block g (Array.getElem?_eq_some_iff.1 hh).1 (hv g (by rw[hv'];rfl))).trans hh,hr⟩⟩
theorem Span.blk {lo hi:Nat} {w w':World} (k:Span lo hi w w') (b:Nat) (hb:b<w.heap.size) (ho:b<lo∨hi≤b):(∀ o,w'.cell? ⟨b,o,none⟩=w.cell? ⟨b,o,none⟩)∧(∀ o,w'.frozen? ⟨b,o,none⟩=w.frozen? ⟨b,o,none⟩):=
 ⟨fun o=>World.cell?_of_block (k.block b hb ho),fun o=>World.frozen?_of_block (k.block b hb ho)⟩
/-- What a slice reads as stays where nothing of the span is its block. -/
theorem Span.rd {lo hi:Nat} {w w':World} {sz n:Nat} {v:Value} {xs:List Value} (k:Span lo hi w w') (h:RdS w sz v n xs) (hv: ∀ g,v.ownBlock=some g→g<lo∨hi≤g) (ho: ∀ a m c,v= .slice (some a) m c→a.off=0):RdS w' sz v n xs:=by
 obtain⟨h1,ao,cap,rfl,h2,h3,h4⟩:=h
 refine⟨h1,ao,cap,rfl,h2,h3,fun hn=>?_⟩
 obtain⟨b,o,rfl,hb,hc⟩:=h4 hn
 have h0:o=0:=ho ⟨b,o,none⟩ n cap rfl
 subst h0
 exact⟨b,0,rfl,Nat.lt_of_lt_of_le hb k.size,fun j hj=>((k.blk b hb (hv b rfl)).1 _).trans (hc j hj)⟩
/-- The row of v lies in [lo, hi). -/
def RowIn (lo hi:Nat) (v:Value):Prop:= ∀ g,v.ownBlock=some g→lo≤g∧g<hi
theorem RowIn.of_owns {w:World} {b:Nat} {e:TypeId} {sz:Nat} {v:Value} {n:Nat} {xs:List Value} (h:w.ownsRow b e sz v n xs):RowIn b w.heap.size v:=h.lt
theorem RowIn.mono {lo hi lo' hi':Nat} {v:Value} (h:RowIn lo hi v) (h1:lo'≤lo) (h2:hi≤hi'):RowIn lo' hi' v:=fun g hg=>by have:=h g hg;omega
def Apart (u v:Value):Prop:= ∀ g,u.ownBlock=some g→v.ownBlock=some g→False
theorem Apart.symm {u v:Value} (h:Apart u v):Apart v u:=fun g a b=>h g b a
theorem Apart.of_in {lo hi lo' hi':Nat} {u v:Value} (h:RowIn lo hi u) (k:RowIn lo' hi' v) (hh:hi≤lo'∨hi'≤lo):Apart u v:=fun g a b=>by have:=h g a;have:=k g b;omega
theorem Apart.ne {u v:Value} (h:Apart u v):u.ownBlock=none∨u.ownBlock≠v.ownBlock:=by
 cases hu:u.ownBlock with
 |none=>exact .inl rfl
 |some g=>exact .inr fun e=>h g hu e.symm
theorem owns_zero {w:World} {b:Nat} {e:TypeId} {sz:Nat} {v:Value} {n:Nat} {xs:List Value} (h:w.ownsRow b e sz v n xs): ∀ a m c,v= .slice (some a) m c→a.off=0:=by
 intro a m c hv
 obtain⟨h1,⟨h2,_⟩|⟨g,cap,cur,h2,_⟩⟩:=h
 · rw[h2]at hv;cases hv
 · rw[h2]at hv;cases hv;rfl
/-- Block b is a box of these cells, none frozen. -/
def Box (w:World) (b:Nat) (X:Array Value) (T:TypeId):Prop:=w.heap[b]? =some (.cells X T (0,0))
theorem Box.lt {w:World} {b:Nat} {X:Array Value} {T:TypeId} (h:Box w b X T):b<w.heap.size:=(Array.getElem?_eq_some_iff.1 h).1
theorem Box.new (w:World) (X:Array Value) (T:TypeId):Box (w.alloc (.cells X T)) w.heap.size X T:=by unfold Box World.alloc;simp
theorem Box.new' {w:World} {X:Array Value} {T:TypeId} {b:Nat} (hb:b=w.heap.size):Box (w.alloc (.cells X T)) b X T:=hb▸Box.new w X T
theorem Box.cell {w:World} {b:Nat} {X:Array Value} {T:TypeId} (h:Box w b X T) (o:Nat):w.cell? ⟨b,o,none⟩=X[o]? :=by simp[World.cell?,show w.heap[b]? =_ from h]
theorem Box.frozen {w:World} {b:Nat} {X:Array Value} {T:TypeId} (h:Box w b X T) (o:Nat):w.frozen? ⟨b,o,none⟩=false:=by simp[World.frozen?,show w.heap[b]? =_ from h]
theorem Box.facts {w:World} {b:Nat} {X:Array Value} {T:TypeId} (h:Box w b X T):(∀ o,w.cell? ⟨b,o,none⟩=X[o]?)∧(∀ o,w.frozen? ⟨b,o,none⟩=false)∧b<w.heap.size:=⟨h.cell,h.frozen,h.lt⟩
theorem Box.fr {w w':World} {b:Nat} {X:Array Value} {T:TypeId} (h:Box w b X T) (hf:Fr w w'):Box w' b X T:=(hf.out.block b h.lt).trans h
theorem Box.alloc {w:World} {b:Nat} {X:Array Value} {T:TypeId} (h:Box w b X T) (o:Obj):Box (w.alloc o) b X T:=h.fr ((Fr.refl _).alloc o)
theorem Box.drew {w:World} {b:Nat} {X:Array Value} {T:TypeId} (h:Box w b X T):Box w.drew b X T:=h
theorem Box.drewN {w:World} {b:Nat} {X:Array Value} {T:TypeId} (h:Box w b X T) (n:Nat):Box (w.drewN n) b X T:=h.fr ((Fr.refl _).drewN n)
theorem Box.gr {w w':World} {b:Nat} {X:Array Value} {T:TypeId} {row:Option Nat} (h:Box w b X T) (hg:w.grownBy w' row) (hr:row≠some b):Box w' b X T:=(hg.block b h.lt (fun e=>hr e.symm)).trans h
theorem Box.row {w w':World} {b lo hi:Nat} {X:Array Value} {T:TypeId} {v:Value} (h:Box w b X T) (hg:w.grownBy w' v.ownBlock) (hr:RowIn lo hi v) (hb:b<lo∨hi≤b):Box w' b X T:=h.gr hg (fun e=>by have:=hr b e;omega)
theorem Box.span {w w':World} {b lo hi:Nat} {X:Array Value} {T:TypeId} (h:Box w b X T) (hs:Span lo hi w w') (hb:b<lo∨hi≤b):Box w' b X T:=(hs.block b h.lt hb).trans h
theorem Box.set {w:World} {b:Nat} {X:Array Value} {T:TypeId} (h:Box w b X T) (i:Nat) (v:Value):Box (w.setCell ⟨b,i,none⟩ v) b (X.setIfInBounds i v) T:=heap_setCell_same w b i X T v h
theorem Box.set_to {w:World} {b:Nat} {X Y:Array Value} {T:TypeId} {i:Nat} {v:Value} (h:Box w b Y T) (e:Y.setIfInBounds i v=X):Box (w.setCell ⟨b,i,none⟩ v) b X T:=e▸h.set i v
theorem Box.other {w:World} {b:Nat} {X:Array Value} {T:TypeId} (h:Box w b X T) {p:Addr} (hp:b≠p.block) (v:Value):Box (w.setCell p v) b X T:=(heap_setCell_other w p b v hp).trans h
/-- Behind an append: where the new row lies. -/
theorem RowIn.app {lo g n c:Nat} {v:Value} {H hi:Nat} (hat:v.ownBlock=some g∨g=H) (hr:RowIn lo H v) (hl:lo≤H) (hg:g<hi):RowIn lo hi (.slice (some ⟨g,0,none⟩) n c):=by
 intro k hk
 have hk':g=k:=by simpa [Value.ownBlock]using hk
 subst hk'
 rcases hat with h|h
 · exact⟨(hr g h).1,hg⟩
 · omega
theorem Apart.app {lo g n c:Nat} {u v:Value} {H:Nat} (h:Apart v u) (hat:v.ownBlock=some g∨g=H) (hu:RowIn lo H u):Apart (.slice (some ⟨g,0,none⟩) n c) u:=by
 intro k hk hk2
 have hk':g=k:=by simpa [Value.ownBlock]using hk
 subst hk'
 rcases hat with e|e
 · exact h g e hk2
 · have:=hu g hk2;omega
theorem Apart.none (u:Value) (n c:Nat):Apart (.slice none n c) u:=fun _ h=>by simp[Value.ownBlock]at h
theorem cell_new {w:World} {u:Value} {T:TypeId} {b:Nat} (hb:b=w.heap.size): ∀ (j:Nat) (v:Value),[u][j]? =some v→(w.alloc (.cells #[u] T)).cell? ((⟨b,0,none⟩:Addr).add j)=some v:=hb▸cell_one_new w u T
theorem made_list (z:Value) (n:Nat):(madeCells #[z] n).toList=List.replicate n z:=by simpa [fillR,List.flatten_replicate_singleton]using made_fill (List.replicate n ()) (fun _=>[z]) [z] 1 rfl (by omega)
theorem made_new {w:World} {lo b n:Nat} {e:TypeId} {z:Value} (hb:b=w.heap.size) (hl:lo≤b) (hn:n≤1048576):(w.alloc (.cells (madeCells #[z] n) e)).ownsRow lo e 1 (.slice (some ⟨b,0,none⟩) n n) n (List.replicate n z):=by
 subst hb
 rw[← made_list]
 exact World.ownsRow_lit w _ n hl (by unfold maxLen;omega) (by rw[← Array.length_toList,made_list];simp)
theorem owns_set {w:World} {lo:Nat} {e:TypeId} {sz:Nat} {v:Value} {n:Nat} {xs:List Value} (h:w.ownsRow lo e sz v n xs) {p:Addr} (hp:p.block<lo) (u:Value):(w.setCell p u).ownsRow lo e sz v n xs:=
 owns_ab h ((Ab.refl lo w).setCell hp u)
theorem markStrings_any (v:Value) (ss:List ByteArray) (k:Int) (lo:Nat) (w:World) (ha:StrsO w lo v ss) (h0:0<k) (h1:k≤1073741824) (h2:ss.length≤1073741824):
  Calls Tryz.prog 124 #[v,.int .i64 k] w fun e w'=>e= .returned (.int .i64 (k+ss.length))∧StrsO w' lo v (marksS k ss.length)∧w.grownBy w' v.ownBlock:=by
 rcases owns_shape ha with⟨rfl,hn,hx⟩|⟨g,cap,rfl,_⟩
 · have h3:ss=[]:=List.eq_nil_of_length_eq_zero hn
   subst h3
   clear ha hn hx
   go_enter Tryz.func124,Tryz.ntmps124
   go_wp2
   go_loopw [1,5] (fun l i wr=>i= .int .i64 0∧l= .int .i64 k∧wr=w) (fun _ i _=>0)
   case atStart=>exact⟨rfl,rfl,rfl⟩
   case round=>
    obtain⟨rfl,rfl,rfl⟩:=hrel
    go_wp2
    go_ret
    exact⟨by simp,⟨by simp[marksS],.inl ⟨by simp[marksS],rfl⟩⟩,World.grownBy.refl _ _⟩
 · refine(markStringS_any g ss.length cap ss k lo w ha h0 h1 h2).mono fun e w' h=>⟨h.1,?_,h.2.2⟩
   unfold StrsO
   rw[marksS_length]
   exact h.2.1
theorem markInts_any (v:Value) (ss:List Int) (k:Int) (lo:Nat) (w:World) (ha:IntsO w lo v ss) (h0:0<k) (h1:k≤1073741824) (h2:ss.length≤1073741824):
  Calls Tryz.prog 54 #[v,.int .i64 k] w fun e w'=>e= .returned (.int .i64 (k+ss.length))∧IntsO w' lo v (marksInt k ss.length)∧w.grownBy w' v.ownBlock:=by
 rcases owns_shape ha with⟨rfl,hn,hx⟩|⟨g,cap,rfl,_⟩
 · have h3:ss=[]:=List.eq_nil_of_length_eq_zero hn
   subst h3
   clear ha hn hx
   go_enter Tryz.func54,Tryz.ntmps54
   go_wp2
   go_loopw [1,5] (fun l i wr=>i= .int .i64 0∧l= .int .i64 k∧wr=w) (fun _ i _=>0)
   case atStart=>exact⟨rfl,rfl,rfl⟩
   case round=>
    obtain⟨rfl,rfl,rfl⟩:=hrel
    go_wp2
    go_ret
    exact⟨by simp,⟨by simp[marksInt],.inl ⟨by simp[marksInt],rfl⟩⟩,World.grownBy.refl _ _⟩
 · refine(markIntS_any g ss.length cap ss k lo w ha h0 h1 h2).mono fun e w' h=>⟨h.1,?_,h.2.2⟩
   unfold IntsO
   rw[marksInt_length]
   exact h.2.1
end Go.Proofs.YtjnahjgncmcmdaaGreat