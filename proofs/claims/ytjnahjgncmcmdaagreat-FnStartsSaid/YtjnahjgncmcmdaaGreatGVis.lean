/- Texts in one: Qnm, Bit, Rlo, Rlb, Pos, Vis. -/
import Derived.Test.YtjnahjgncmcmdaaGreatGPrw
import Derived.Test.YtjnahjgncmcmdaaGreatGNfp
import Derived.Laws.BitsAllLaws
import Derived.Test.YtjnahjgncmcmdaaGreatGSWalk
import Derived.BigQuiet
import Derived.BigRegion
import Derived.Test.YtjnahjgncmcmdaaGreatGPrt
import Derived.Test.YtjnahjgncmcmdaaGreatGTch
import Derived.Deep.RegionLaw
namespace Go.Proofs.YtjnahjgncmcmdaaGreat
open Go.RowKit
set_option linter.unusedVariables false
set_option linter.unusedSimpArgs false
def eachB (t:ByteArray):Bool:=t.toList==[101,97,99,104]
def lowAt (t:ByteArray) (i:Nat):Bool:=decide (97≤nx t i∧nx t i≤122)
def lowTo (t:ByteArray) (k:Nat):Bool:=(List.range k).all (lowAt t)
def qnB (t:ByteArray):Bool:=decide (1≤t.size∧t.size≤4)&&(!eachB t&&lowTo t t.size)
theorem lowTo_no {t:ByteArray} {k n:Nat} (h:lowAt t k=false) (hk:k<n):lowTo t n=false:=by
 unfold lowTo
 rw[List.all_eq_false]
 exact⟨k,List.mem_range.2 hk,by rw[h];simp⟩
theorem lowTo_step {t:ByteArray} {k:Nat} (h:lowTo t k=true) (h1:lowAt t k=true):lowTo t (k+1)=true:=by
 unfold lowTo at*
 rw[List.range_succ,List.all_append,h]
 simp[h1]
theorem qnB_no {t:ByteArray} (h:lowTo t t.size=false):qnB t=false:=by unfold qnB;rw[h];simp
set_option maxHeartbeats 2000000 in
theorem specQueryName_any (t:ByteArray) (w:World) (ht:t.size≤1048576):
  Calls Tryz.prog 188 #[.string t] w fun e w'=>e= .returned (.bool (qnB t))∧Fr w w':=by
 go_enter Tryz.func188,Tryz.ntmps188
 go_wp2_with fail
 go_loopw [3] (fun i wr=> ∃ k:Nat,k≤t.size∧i= .int .i64 k∧Hid (lowTo t k=true)∧Fr w wr) (fun i _=>t.size-(intOf i).toNat)
 case atStart=>exact⟨0,Nat.zero_le _,rfl,Lib.hid rfl,Fr.refl _⟩
 case round=>
  obtain⟨k,hk,rfl,HL,hfr⟩:=hrel
  by_cases hlt:k<t.size
  · have hx:nx t k=(t[k]).toNat:=dif_pos hlt
    have hb:=(t[k]).toNat_lt
    obtain⟨y,hy⟩: ∃ y,(t[k]).toNat=y:=⟨_,rfl⟩
    by_cases h1:lowAt t k=true
    · have h2:=h1
      unfold lowAt at h2
      rw[hx,hy,decide_eq_true_eq]at h2
      have HS:=Lib.hid (lowTo_step HL.out h1)
      obtain⟨h3,h4⟩:=h2
      have g1:decide ((y:Int)<97)=false:=by simp;omega
      have g2:decide ((y:Int)>122)=false:=by simp;omega
      clear hx h1
      go_wp2_with fail
      go_roundw
      case rel=>exact⟨k+1,by omega,by go_num,HS,by exact Qf⟩
      case measure=>(simp[intOf];omega)
    · have HN:Hid (qnB t=false):=Lib.hid (qnB_no (lowTo_no (by simpa using h1) hlt))
      unfold lowAt at h1
      rw[hx,hy,decide_eq_true_eq]at h1
      clear hx
      by_cases h3:y<97
      · go_wp2_with fail
        go_ret
        exact⟨ret_bool (by rw[HN.out]),by exact Qf⟩
      · have h4:122<y:=by omega
        clear h1
        go_wp2_with fail
        go_ret
        exact⟨ret_bool (by rw[HN.out]),by exact Qf⟩
  · obtain rfl:k=t.size:=by omega
    have HQ:Hid (qnB t=(decide (1≤t.size∧t.size≤4)&&!eachB t)):=Lib.hid (by unfold qnB;rw[HL.out,Bool.and_true])
    go_wp2_with(go_at_call 69;refine(l01In_any _ _ _ _).mono ?_;rintro e w1 ⟨rfl,rfl⟩)
    · rename_i hg
      go_ret
      exact⟨ret_bool (by rw[HQ.out];simp[eachB]at *; first|omega|(intro _;omega)|skip),by exact Qf⟩
    · rename_i hg
      go_ret
      exact⟨ret_bool (by rw[HQ.out];simp[eachB]at *; first|omega|(intro _;omega)|skip),by exact Qf⟩
set_option maxHeartbeats 2000000 in
theorem implQueryName_any (t:ByteArray) (w:World) (ht:t.size≤1048576):
  Calls Tryz.prog 184 #[.string t] w fun e w'=>e= .returned (.bool (qnB t))∧Fr w w':=by
 by_cases hs:1≤t.size∧t.size≤4
 · obtain⟨hs1,hs2⟩:=hs
   obtain⟨eb,heb⟩: ∃ b,(t.toList==[101,97,99,104])=b:=⟨_,rfl⟩
   have HQ0:Hid (qnB t=(!eb&&lowTo t t.size)):=Lib.hid (by unfold qnB eachB;rw[heb,decide_eq_true (⟨hs1,hs2⟩:1≤t.size∧t.size≤4),Bool.true_and])
   have g1:decide ((t.size:Int)<1)=false:=by simp;omega
   have g2:decide ((t.size:Int)>4)=false:=by simp;omega
   cases eb
   · go_enter Tryz.func184,Tryz.ntmps184
     go_wp2_with fail
     go_loopw [3] (fun i wr=> ∃ k:Nat,k≤t.size∧i= .int .i64 k∧Hid (lowTo t k=true)∧Fr w wr) (fun i _=>t.size-(intOf i).toNat)
     case atStart=>exact⟨0,Nat.zero_le _,rfl,Lib.hid rfl,Fr.refl _⟩
     case round=>
      obtain⟨k,hk,rfl,HL,hfr⟩:=hrel
      by_cases hlt:k<t.size
      · have hx:nx t k=(t[k]).toNat:=dif_pos hlt
        have hb:=(t[k]).toNat_lt
        obtain⟨y,hy⟩: ∃ y,(t[k]).toNat=y:=⟨_,rfl⟩
        by_cases h1:lowAt t k=true
        · have h2:=h1
          unfold lowAt at h2
          rw[hx,hy,decide_eq_true_eq]at h2
          have HS:=Lib.hid (lowTo_step HL.out h1)
          obtain⟨h3,h4⟩:=h2
          clear hx h1
          go_wp2_with fail
          go_roundw
          case rel=>exact⟨k+1,by omega,by go_num,HS,by exact Qf⟩
          case measure=>(simp[intOf];omega)
        · have HN:Hid (qnB t=false):=Lib.hid (qnB_no (lowTo_no (by simpa using h1) hlt))
          unfold lowAt at h1
          rw[hx,hy,decide_eq_true_eq]at h1
          clear hx
          by_cases h3:y<97
          · go_wp2_with fail
            go_ret
            exact⟨ret_bool (by rw[HN.out]),by exact Qf⟩
          · have h4:122<y:=by omega
            clear h1
            go_wp2_with fail
            go_ret
            exact⟨ret_bool (by rw[HN.out]),by exact Qf⟩
      · obtain rfl:k=t.size:=by omega
        go_wp2_with fail
        go_ret
        exact⟨ret_bool (by rw[HQ0.out,HL.out];rfl),by exact Qf⟩
   · go_enter Tryz.func184,Tryz.ntmps184
     go_wp2_with fail
     go_ret
     exact⟨ret_bool (by rw[HQ0.out];rfl),by exact Qf⟩
 · have HQ:Hid (qnB t=false):=Lib.hid (by unfold qnB;rw[decide_eq_false hs,Bool.false_and])
   go_enter Tryz.func184,Tryz.ntmps184
   go_wp2_with fail
   all_goals first|(exfalso;omega)|(go_ret;exact⟨ret_bool (by rw[HQ.out]),by exact Qf⟩)
def bitN (p:Nat→Bool):Nat→Nat
 |0=>0
 |m+1=>bitN p m+(if p m then 2 ^ m else 0)
theorem bitN_lt (p:Nat→Bool): ∀ m,bitN p m<2 ^ m
 |0=>by simp[bitN]
 |m+1=>by
  have:=bitN_lt p m
  rw[bitN,Nat.pow_succ]
  split<;>omega
theorem bitN_test (p:Nat→Bool): ∀ m j,(bitN p m).testBit j=(decide (j<m)&&p j)
 |0,j=>by simp[bitN]
 |m+1,j=>by
  have hl:=bitN_lt p m
  rw[bitN]
  cases hp:p m
  · simp only[Bool.false_eq_true,if_false,Nat.add_zero]
    rw[bitN_test p m j]
    by_cases e:j=m
    · subst e
      simp[hp]
    · congr 1
      rw[Bool.eq_iff_iff,decide_eq_true_eq,decide_eq_true_eq]
      omega
  · simp only[if_true]
    rw[Nat.add_comm]
    by_cases e:j=m
    · subst e
      rw[Nat.testBit_two_pow_add_eq,Nat.testBit_lt_two_pow hl]
      simp[hp]
    · rcases Nat.lt_or_ge j m with h|h
      · rw[Nat.testBit_two_pow_add_gt h,bitN_test p m j]
        congr 1
        rw[Bool.eq_iff_iff,decide_eq_true_eq,decide_eq_true_eq]
        omega
      · rw[Nat.testBit_lt_two_pow (Nat.lt_of_lt_of_le (show 2 ^ m+bitN p m<2 ^ (m+1) by rw[Nat.pow_succ];omega) (Nat.pow_le_pow_right (by omega) (by omega)))]
        rw[decide_eq_false (by omega),Bool.false_and]
/-- A set of places below 32 as a number. -/
def bN (p:Nat→Bool):Nat:=bitN p 32
theorem bN_lt (p:Nat→Bool):bN p<4294967296:=bitN_lt p 32
theorem bN_test (p:Nat→Bool) (j:Nat):(bN p).testBit j=(decide (j<32)&&p j):=bitN_test p 32 j
theorem bN_eq {x:Nat} {p:Nat→Bool} (hx:x<4294967296) (h: ∀ j,j<32→x.testBit j=p j):x=bN p:=by
 apply Nat.eq_of_testBit_eq
 intro i
 rw[bN_test]
 by_cases hi:i<32
 · rw[h i hi];simp[hi]
 · rw[Nat.testBit_lt_two_pow (Nat.lt_of_lt_of_le hx (by
    have:2 ^ 32≤2 ^ i:=Nat.pow_le_pow_right (by omega) (by omega)
    simpa using this))]
   simp[hi]
theorem bN_congr {p q:Nat→Bool} (h: ∀ j,j<32→p j=q j):bN p=bN q:=bN_eq (bN_lt p) fun j hj=>by rw[bN_test,h j hj];simp[hj]
theorem u32_small (x:Nat) (hx:x<4294967296):IntKind.u32.wrap (x:Int)=(x:Int):=by
 simp[IntKind.wrap,IntKind.bits,IntKind.signed]
 omega
theorem u32_bv (x:Nat) (hx:x<4294967296):(BitVec.ofInt 32 (x:Int)).toNat=x:=by
 rw[BitVec.toNat_ofInt]
 have:((x:Int)%((2 ^ 32:Nat):Int)).toNat=x:=by omega
 exact this
theorem bits_or32 (x y:Nat) (hx:x<4294967296) (hy:y<4294967296):bits .or .u32 (x:Int) (y:Int)=((x ||| y:Nat):Int):=by
 have hl:x ||| y<4294967296:=Nat.or_lt_two_pow (n:=32) hx hy
 show IntKind.u32.wrap ((BitVec.ofInt 32 (x:Int) ||| BitVec.ofInt 32 (y:Int)).toNat:Int)=_
 rw[BitVec.toNat_or,u32_bv x hx,u32_bv y hy]
 exact u32_small _ hl
theorem bits_and1 (x:Nat) (hx:x<4294967296):bits .and .u32 (x:Int) 1=((x%2:Nat):Int):=by
 show IntKind.u32.wrap ((BitVec.ofInt 32 (x:Int) &&& BitVec.ofInt 32 (1:Int)).toNat:Int)=_
 rw[BitVec.toNat_and,u32_bv x hx,show(BitVec.ofInt 32 (1:Int)).toNat=1 from rfl,Nat.and_one_is_mod]
 exact u32_small _ (by omega)
theorem bN_or (p q:Nat→Bool):bits .or .u32 (bN p:Int) (bN q:Int)=(bN (fun j=>p j||q j):Int):=by
 rw[bits_or32 _ _ (bN_lt p) (bN_lt q)]
 congr 1
 refine bN_eq (Nat.or_lt_two_pow (n:=32) (bN_lt p) (bN_lt q)) fun j hj=>?_
 rw[Nat.testBit_or,bN_test,bN_test]
 simp[hj]
theorem bN_bit (p:Nat→Bool) (j:Nat) (hj:j<32):bits .and .u32 ((bN p:Int)/2 ^ j) 1=if p j=true then 1 else 0:=by
 have e:((bN p:Int)/2 ^ j)=((bN p/2 ^ j:Nat):Int):=by simp
 rw[e,bits_and1 _ (Nat.lt_of_le_of_lt (Nat.div_le_self _ _) (bN_lt p))]
 have h:=bN_test p j
 rw[Nat.testBit_eq_decide_div_mod_eq]at h
 simp[hj]at h
 split
 · rename_i hp
   rw[hp]at h
   simp at h
   omega
 · rename_i hp
   rw[show p j=false by simpa using hp]at h
   simp at h
   omega
theorem bN_one (i:Nat) (hi:i<32):IntKind.u32.wrap (1*2 ^ i)=(bN (fun j=>decide (j=i)):Int):=by
 have hl:2 ^ i<4294967296:=Nat.pow_lt_pow_right (by omega) (show i<32 from hi)
 have e:(1*2 ^ i:Int)=((2 ^ i:Nat):Int):=by simp
 rw[e,u32_small _ hl]
 congr 1
 refine bN_eq hl fun j hj=>?_
 rw[Nat.testBit_two_pow]
 rw[Bool.eq_iff_iff,decide_eq_true_eq,decide_eq_true_eq]
 exact eq_comm
theorem bN_no:(bN (fun _=>false):Int)=0:=by
 have:bN (fun _=>false)=0:=(bN_eq (by omega) fun j hj=>by simp).symm
 rw[this]
 rfl
theorem info_u32:(Tryz.prog.info? 112).map (fun i=>(i.zero,i.size,i.bytes))=some (some (.int .u32 0),1,4):=by kernel_rfl
/-- The rows of a relation as cells. -/
def rCells (n:Nat) (R:(Nat→Nat→Bool)):List Value:=(List.range n).map fun i=> .int .u32 (bN (R i):Int)
theorem rCells_len (n:Nat) (R:(Nat→Nat→Bool)):(rCells n R).length=n:=by simp[rCells]
theorem rCells_at {n:Nat} {R:(Nat→Nat→Bool)} {i:Nat} (h:i<n):(rCells n R)[i]? =some (.int .u32 (bN (R i):Int)):=by simp[rCells,h]
theorem rCells_congr {n:Nat} {R S:(Nat→Nat→Bool)} (h: ∀ i,i<n→R i=S i):rCells n R=rCells n S:=by
 unfold rCells
 refine List.map_congr_left fun i hi=>?_
 rw[h i (List.mem_range.1 hi)]
theorem rCells_set (n:Nat) (R:(Nat→Nat→Bool)) (i:Nat) (p:Nat→Bool):(rCells n R).set i (.int .u32 (bN p:Int))=rCells n (fun x=>if x=i then p else R x):=by
 refine List.ext_getElem? fun k=>?_
 rw[List.getElem?_set]
 by_cases hk:k<n
 · rw[rCells_at hk,rCells_at hk,rCells_len]
   by_cases e:i=k
   · subst e
     simp[hk]
   · rw[if_neg e,if_neg (fun h=>e h.symm)]
 · rw[List.getElem?_eq_none (by rw[rCells_len];omega),List.getElem?_eq_none (by rw[rCells_len];omega),rCells_len]
   split
   · rw[if_neg (by omega)]
   · rfl
theorem rCells_no (n:Nat):rCells n rNo=List.replicate n (.int .u32 0):=by
 unfold rCells rNo
 rw[bN_no]
 exact List.map_const'▸by simp
theorem oneCells_rel (n:Nat) (R:(Nat→Nat→Bool)): ∀ u∈rCells n R,u.oneCell'=true:=fun u hu=>by obtain⟨x,_,rfl⟩:=List.mem_map.1 hu;rfl
/-- A slice of bits reads as a relation. -/
def RelR (w:World) (v:Value) (n:Nat) (R:(Nat→Nat→Bool)):Prop:=RdS w 1 v n (rCells n R)
def RelO (w:World) (lo:Nat) (v:Value) (n:Nat) (R:(Nat→Nat→Bool)):Prop:=w.ownsRow lo 112 1 v n (rCells n R)
theorem RelR.fr {w w':World} {v:Value} {n:Nat} {R:(Nat→Nat→Bool)} (h:RelR w v n R) (hf:Fr w w'):RelR w' v n R:=RdS.fr h hf
theorem RelO.fr {w w':World} {lo:Nat} {v:Value} {n:Nat} {R:(Nat→Nat→Bool)} (h:RelO w lo v n R) (hf:Fr w w'):RelO w' lo v n R:=owns_fr h hf
theorem RelO.rd {w:World} {lo:Nat} {v:Value} {n:Nat} {R:(Nat→Nat→Bool)} (h:RelO w lo v n R):RelR w v n R:=RdS.of_owns h
theorem RelO.val {w:World} {lo:Nat} {v:Value} {n:Nat} {R:(Nat→Nat→Bool)} (h:RelO w lo v n R): ∃ ao cap,v= .slice ao n cap:=owns_val h
theorem RelO.congr {w:World} {lo:Nat} {v:Value} {n:Nat} {R S:(Nat→Nat→Bool)} (h:RelO w lo v n R) (e: ∀ i,i<n→R i=S i):RelO w lo v n S:=by
 unfold RelO at h ⊢
 rw[← rCells_congr e]
 exact h
theorem RelR.congr {w:World} {v:Value} {n:Nat} {R S:(Nat→Nat→Bool)} (h:RelR w v n R) (e: ∀ i,i<n→R i=S i):RelR w v n S:=by
 unfold RelR at h ⊢
 rw[← rCells_congr e]
 exact h
theorem RelR.one {w:World} {v:Value} {n:Nat} {R:(Nat→Nat→Bool)} (h:RelR w v n R):
  ∃ ao b o cap,v= .slice ao n cap∧n≤cap∧cap≤9223372036854775807∧(0<n→ao=some ⟨b,o,none⟩∧b<w.heap.size∧ ∀ i,i<n→w.cell? ⟨b,o+i,none⟩=some (.int .u32 (bN (R i):Int))):=by
 obtain⟨h4,ao,cap,rfl,h5,h6,h7⟩:=h
 have hm:cap≤9223372036854775807:=by unfold maxLen at h6;omega
 rcases Nat.eq_zero_or_pos n with h0|h0
 · exact⟨ao,0,0,cap,rfl,h5,hm,fun h=>absurd h (by omega)⟩
 · obtain⟨b,o,rfl,hb,hc⟩:=h7 h0
   refine⟨_,b,o,cap,rfl,h5,hm,fun _=>⟨rfl,hb,fun i hi=>?_⟩⟩
   rw[hc i (by omega)]
   exact rCells_at hi
/-- An owned row of bits: its block. -/
theorem RelO.one {w:World} {lo:Nat} {v:Value} {n:Nat} {R:(Nat→Nat→Bool)} (h:RelO w lo v n R) (hn:0<n): ∃ g cap,v= .slice (some ⟨g,0,none⟩) n cap∧lo≤g∧g<w.heap.size∧(∀ i,i<n→w.cell? ⟨g,i,none⟩=some (.int .u32 (bN (R i):Int)))∧(∀ i,w.frozen? ⟨g,i,none⟩=false):=by
 rcases owns_shape h with⟨rfl,hn0,_⟩|⟨g,cap,rfl,h1,h2,_⟩
 · omega
 · exact⟨g,cap,rfl,h1,h2,fun i hi=>(h.cellAt i (by omega)).trans (rCells_at hi),fun i=>h.frozenAt i⟩
theorem RelO.set {w:World} {lo g cap:Nat} {n:Nat} {R:(Nat→Nat→Bool)} (h:RelO w lo (.slice (some ⟨g,0,none⟩) n cap) n R) (i:Nat) (p:Nat→Bool):RelO (w.setCell ⟨g,i,none⟩ (.int .u32 (bN p:Int))) lo (.slice (some ⟨g,0,none⟩) n cap) n (fun x=>if x=i then p else R x):=by
 have:=(World.ownsRow.stored h i (.int .u32 (bN p:Int))).1
 unfold RelO
 rw[← rCells_set]
 exact this
theorem rel_made {w:World} {lo b n:Nat} (hb:b=w.heap.size) (hl:lo≤b) (hn:n≤1048576):RelO (w.alloc (.cells (madeCells #[.int .u32 0] n) 112)) lo (.slice (some ⟨b,0,none⟩) n n) n rNo:=by
 unfold RelO
 rw[rCells_no]
 exact made_new hb hl hn
/-! ### a square of bools -/
def sqCells (n:Nat) (R:(Nat→Nat→Bool)):List Value:=(List.range (n*n)).map fun q=> .bool (R (q/n) (q%n))
theorem sqCells_len (n:Nat) (R:(Nat→Nat→Bool)):(sqCells n R).length=n*n:=by simp[sqCells]
theorem sqCells_at {n:Nat} {R:(Nat→Nat→Bool)} {q:Nat} (h:q<n*n):(sqCells n R)[q]? =some (.bool (R (q/n) (q%n))):=by simp[sqCells,h]
theorem sq_lt {n i j:Nat} (hi:i<n) (hj:j<n):i*n+j<n*n:=by
 have:=Nat.mul_le_mul_right n (show i+1≤n by omega)
 rw[Nat.add_mul]at this
 omega
theorem sq_div {n i j:Nat} (hj:j<n):(i*n+j)/n=i:=by
 rw[Nat.mul_comm,Nat.mul_add_div (by omega),Nat.div_eq_of_lt hj]
 omega
theorem sq_mod {n i j:Nat} (hj:j<n):(i*n+j)%n=j:=by
 rw[Nat.mul_comm,Nat.mul_add_mod,Nat.mod_eq_of_lt hj]
theorem sq_split {n q:Nat} (h:q<n*n):q/n<n∧q%n<n∧q=(q/n)*n+q%n:=by
 have hn:0<n:=by
  rcases Nat.eq_zero_or_pos n with h0|h0
  · subst h0;omega
  · exact h0
 refine⟨Nat.div_lt_of_lt_mul h,Nat.mod_lt _ hn,?_⟩
 rw[Nat.mul_comm]
 exact(Nat.div_add_mod q n).symm
theorem sqCells_congr {n:Nat} {R S:(Nat→Nat→Bool)} (h: ∀ i j,i<n→j<n→R i j=S i j):sqCells n R=sqCells n S:=by
 unfold sqCells
 refine List.map_congr_left fun q hq=>?_
 have:=sq_split (List.mem_range.1 hq)
 rw[h _ _ this.1 this.2.1]
theorem sqCells_set {n:Nat} (R:(Nat→Nat→Bool)) {i j:Nat} (hi:i<n) (hj:j<n) (c:Bool):(sqCells n R).set (i*n+j) (.bool c)=sqCells n (fun x y=>if x=i∧y=j then c else R x y):=by
 refine List.ext_getElem? fun q=>?_
 rw[List.getElem?_set]
 by_cases hq:q<n*n
 · rw[sqCells_at hq,sqCells_at hq,sqCells_len]
   have hs:=sq_split hq
   by_cases e:i*n+j=q
   · subst e
     rw[if_pos rfl,if_pos hq,sq_div hj,sq_mod hj]
     simp
   · rw[if_neg e,if_neg]
     rintro⟨h1,h2⟩
     apply e
     rw[← h1, ← h2]
     exact hs.2.2.symm
 · rw[List.getElem?_eq_none (by rw[sqCells_len];omega),List.getElem?_eq_none (by rw[sqCells_len];omega),sqCells_len]
   split
   · rw[if_neg (by omega)]
   · rfl
theorem sqCells_no (n:Nat):sqCells n rNo=List.replicate (n*n) (.bool false):=by
 unfold sqCells rNo
 exact List.map_const'▸by simp
theorem oneCells_sq (n:Nat) (R:(Nat→Nat→Bool)): ∀ u∈sqCells n R,u.oneCell'=true:=fun u hu=>by obtain⟨x,_,rfl⟩:=List.mem_map.1 hu;rfl
def SqR (w:World) (v:Value) (n:Nat) (R:(Nat→Nat→Bool)):Prop:=RdS w 1 v (n*n) (sqCells n R)
def SqO (w:World) (lo:Nat) (v:Value) (n:Nat) (R:(Nat→Nat→Bool)):Prop:=w.ownsRow lo 4 1 v (n*n) (sqCells n R)
theorem SqR.fr {w w':World} {v:Value} {n:Nat} {R:(Nat→Nat→Bool)} (h:SqR w v n R) (hf:Fr w w'):SqR w' v n R:=RdS.fr h hf
theorem SqO.fr {w w':World} {lo:Nat} {v:Value} {n:Nat} {R:(Nat→Nat→Bool)} (h:SqO w lo v n R) (hf:Fr w w'):SqO w' lo v n R:=owns_fr h hf
theorem SqO.rd {w:World} {lo:Nat} {v:Value} {n:Nat} {R:(Nat→Nat→Bool)} (h:SqO w lo v n R):SqR w v n R:=RdS.of_owns h
theorem SqO.val {w:World} {lo:Nat} {v:Value} {n:Nat} {R:(Nat→Nat→Bool)} (h:SqO w lo v n R): ∃ ao cap,v= .slice ao (n*n) cap:=owns_val h
theorem SqO.congr {w:World} {lo:Nat} {v:Value} {n:Nat} {R S:(Nat→Nat→Bool)} (h:SqO w lo v n R) (e: ∀ i j,i<n→j<n→R i j=S i j):SqO w lo v n S:=by
 unfold SqO at h ⊢
 rw[← sqCells_congr e]
 exact h
theorem SqR.congr {w:World} {v:Value} {n:Nat} {R S:(Nat→Nat→Bool)} (h:SqR w v n R) (e: ∀ i j,i<n→j<n→R i j=S i j):SqR w v n S:=by
 unfold SqR at h ⊢
 rw[← sqCells_congr e]
 exact h
theorem SqR.one {w:World} {v:Value} {n:Nat} {R:(Nat→Nat→Bool)} (h:SqR w v n R):
  ∃ ao b o cap,v= .slice ao (n*n) cap∧n*n≤cap∧cap≤9223372036854775807∧(0<n*n→ao=some ⟨b,o,none⟩∧b<w.heap.size∧(∀ q,q<n*n→w.cell? ⟨b,o+q,none⟩=some (.bool (R (q/n) (q%n))))∧ ∀ i j,i<n→j<n→w.cell? ⟨b,o+(i*n+j),none⟩=some (.bool (R i j))):=by
 obtain⟨h4,ao,cap,rfl,h5,h6,h7⟩:=h
 have hm:cap≤9223372036854775807:=by unfold maxLen at h6;omega
 rcases Nat.eq_zero_or_pos (n*n)with h0|h0
 · exact⟨ao,0,0,cap,rfl,h5,hm,fun h=>absurd h (by omega)⟩
 · obtain⟨b,o,rfl,hb,hc⟩:=h7 h0
   have hq: ∀ q,q<n*n→w.cell? ⟨b,o+q,none⟩=some (.bool (R (q/n) (q%n))):=fun q hq=>by
    rw[hc q (by omega)]
    exact sqCells_at hq
   refine⟨_,b,o,cap,rfl,h5,hm,fun _=>⟨rfl,hb,hq,fun i j hi hj=>?_⟩⟩
   rw[hq _ (sq_lt hi hj),sq_div hj,sq_mod hj]
theorem SqO.one {w:World} {lo:Nat} {v:Value} {n:Nat} {R:(Nat→Nat→Bool)} (h:SqO w lo v n R) (hn:0<n): ∃ g cap,v= .slice (some ⟨g,0,none⟩) (n*n) cap∧lo≤g∧g<w.heap.size∧(∀ q,q<n*n→w.cell? ⟨g,q,none⟩=some (.bool (R (q/n) (q%n))))∧(∀ i j,i<n→j<n→w.cell? ⟨g,i*n+j,none⟩=some (.bool (R i j)))∧(∀ i,w.frozen? ⟨g,i,none⟩=false):=by
 have hp:=Nat.mul_pos hn hn
 rcases owns_shape h with⟨rfl,hn0,_⟩|⟨g,cap,rfl,h1,h2,_⟩
 · omega
 · have hq: ∀ q,q<n*n→w.cell? ⟨g,q,none⟩=some (.bool (R (q/n) (q%n))):=fun q hq=>(h.cellAt q (by omega)).trans (sqCells_at hq)
   exact⟨g,cap,rfl,h1,h2,hq,fun i j hi hj=>by rw[hq _ (sq_lt hi hj),sq_div hj,sq_mod hj],fun i=>h.frozenAt i⟩
theorem SqO.set {w:World} {lo g cap:Nat} {n:Nat} {R:(Nat→Nat→Bool)} (h:SqO w lo (.slice (some ⟨g,0,none⟩) (n*n) cap) n R) {i j:Nat} (hi:i<n) (hj:j<n) (c:Bool):SqO (w.setCell ⟨g,i*n+j,none⟩ (.bool c)) lo (.slice (some ⟨g,0,none⟩) (n*n) cap) n (fun x y=>if x=i∧y=j then c else R x y):=by
 have:=(World.ownsRow.stored h (i*n+j) (.bool c)).1
 unfold SqO
 rw[← sqCells_set R hi hj]
 exact this
theorem sq_made {w:World} {lo b n:Nat} (hb:b=w.heap.size) (hl:lo≤b) (hn:n*n≤1048576):SqO (w.alloc (.cells (madeCells #[.bool false] (n*n)) 4)) lo (.slice (some ⟨b,0,none⟩) (n*n) (n*n)) n rNo:=by
 unfold SqO
 rw[sqCells_no]
 exact made_new hb hl hn
set_option maxHeartbeats 4000000 in
set_option maxRecDepth 100000 in
theorem bitsIn_any (p:Nat→Bool) (w:World):
  Calls Tryz.prog 161 #[.int .u32 (bN p:Int)] w fun e w'=> ∃ ao cap,e= .returned (.slice ao (reachL 32 p).length cap)∧IntsO w' w.heap.size (.slice ao (reachL 32 p).length cap) (reachL 32 p)∧Fr w w':=by
 obtain⟨i0,hi,hz0,hz1,hz2⟩:=info_parts info_int
 go_enter Tryz.func161,Tryz.ntmps161
 go_wp2_with fail
 go_loopw [3,4,5] (fun z _ i wr=> ∃ (k:Nat) (az:Option Addr) (cz:Nat),k≤32∧i= .int .i64 k∧z= .slice az (reachL k p).length cz∧Hid (IntsO wr w.heap.size (.slice az (reachL k p).length cz) (reachL k p))∧Fr w wr) (fun _ _ i _=>32-(intOf i).toNat)
 case atStart=>exact⟨0,none,0,Nat.zero_le _,rfl,rfl,Lib.hid (World.ownsRow_nil _ _ _ _),Fr.refl _⟩
 case round=>
  obtain⟨k,az,cz,hk,rfl,rfl,ho,hfr⟩:=hrel
  by_cases hlt:k<32
  · have hb:=bN_bit p k hlt
    have zr:=hfr.size
    have hl:=reachL_len k p
    have hs:=reachL_succ k p
    by_cases hp:p k=true
    · rw[if_pos hp]at hb hs
      have HS:=Lib.hid hs
      clear hp hs
      go_wp2_with(at_builtin;(refine wpList_append_rd rfl _ _ 34 rfl w.heap.size 3 i0 (.int .i64 0) 1 8 Tryz.underlying34 hi hz0 hz1 hz2 rfl (by decide) (.slice az (reachL k p).length cz) (reachL k p).length ((reachL k p).map (Value.int .i64)) rfl (World.ownsRow.alloc ho.out _) _ 1 [.int .i64 k] rfl (RdS.new (by first|rfl|(simp;done)) rfl) (by simp[Value.oneCell']) (by unfold maxLen;omega) (by omega) (by exact Qz) ?_;intro az' cz' w4 hown hgrow hat))
      have HO:Hid (IntsO w4 w.heap.size (.slice az' (reachL (k+1) p).length cz') (reachL (k+1) p)):=Lib.hid (by rw[HS.out];simpa [IntsO]using hown)
      have hl2:(reachL (k+1) p).length=(reachL k p).length+1:=by rw[HS.out];simp
      have hf4:Fr w w4:=append_fr hfr ho.out hgrow
      rw[← hl2]
      clear hl2 HS hown ho
      go_roundw
      case rel=>exact⟨k+1,az',cz',by omega,by go_num,rfl,HO,hf4⟩
      case measure=>(simp[intOf];omega)
    · rw[if_neg hp]at hb hs
      have HS:=Lib.hid hs
      clear hp hs
      go_wp2_with fail
      go_roundw
      case rel=>exact⟨k+1,az,cz,by omega,by go_num,by rw[HS.out],by rw[HS.out];exact ho,hfr⟩
      case measure=>(simp[intOf];omega)
  · obtain rfl:k=32:=by omega
    go_wp2_with fail
    go_ret
    exact⟨_,_,rfl,ho.out,hfr⟩
/-- What a call on the occurrences may turn: their box, their two rows. -/
def PB (b:Nat) (lv fv:Value) (i:Nat):Prop:=i=b∨lv.ownBlock=some i∨fv.ownBlock=some i
/-- What follows what lies among the occurrences met. -/
def StOk (s:StD):Prop:= ∀ i j,s.fol i j=true→i<s.labs.length∧j<s.labs.length
theorem StOk.glu {s:StD} {r:StD×SpD} {n:Nat} (h:StOk s) (k:GluOk s r n):StOk r.1:=fun i j hij=>by
 have:=k.len
 rcases k.fol i j hij with q|q
 · have:=h i j q;omega
 · omega
theorem rCells_more {n:Nat} {R:Nat→Nat→Bool} (h: ∀ j,R n j=false):rCells n R++[.int .u32 0]=rCells (n+1) R:=by
 unfold rCells
 rw[List.range_succ,List.map_append,List.map_singleton,show R n=(fun _=>false)from funext h,bN_no]
structure PosSt (w:World) (b lo:Nat) (pv lv fv:Value) (s:StD):Prop where
 box:Box w b #[pv,lv,fv] 270
 labs:BytesO w lo lv s.labs
 fol:RelO w lo fv s.labs.length s.fol
 ap:Apart lv fv
 nl:lv.ownBlock≠some b
 nf:fv.ownBlock≠some b
theorem PosSt.fr {w w':World} {b lo:Nat} {pv lv fv:Value} {s:StD} (h:PosSt w b lo pv lv fv s) (hf:Fr w w'):PosSt w' b lo pv lv fv s:=
 ⟨h.box.fr hf,owns_fr h.labs hf,h.fol.fr hf,h.ap,h.nl,h.nf⟩
theorem PosSt.congr {w:World} {b lo:Nat} {pv lv fv:Value} {s s':StD} (h:PosSt w b lo pv lv fv s) (h1:s.labs=s'.labs) (h2: ∀ i,i<s.labs.length→s.fol i=s'.fol i):PosSt w b lo pv lv fv s':=
 ⟨h.box,h1▸h.labs,h1▸(h.fol.congr h2),h.ap,h.nl,h.nf⟩
theorem PosSt.set {w:World} {b lo:Nat} {pv lv fv:Value} {s:StD} (h:PosSt w b lo pv lv fv s) {p:Addr} (h1:b≠p.block) (h2:lv.ownBlock≠some p.block) (h3:fv.ownBlock≠some p.block) (v:Value):PosSt (w.setCell p v) b lo pv lv fv s:=
 ⟨h.box.other h1 v,owns_far h.labs h2 v,owns_far h.fol h3 v,h.ap,h.nl,h.nf⟩
theorem PosSt.set3 {w:World} {b lo:Nat} {pv lv fv:Value} {s:StD} (h:PosSt w b lo pv lv fv s) {c:Nat} (h1:b≠c) (h2:lv.ownBlock≠some c) (h3:fv.ownBlock≠some c) (u v x:Value):PosSt (((w.setCell ⟨c,0,none⟩ u).setCell ⟨c,1,none⟩ v).setCell ⟨c,2,none⟩ x) b lo pv lv fv s:=
 ((h.set (p:=⟨c,0,none⟩) h1 h2 h3 u).set (p:=⟨c,1,none⟩) h1 h2 h3 v).set (p:=⟨c,2,none⟩) h1 h2 h3 x
theorem PB.back {n:Nat} {b:Nat} {lv fv lv' fv':Value} (h1:Mvd n lv lv') (h2:Mvd n fv fv'): ∀ i,i<n→PB b lv' fv' i→PB b lv fv i:=by
 rintro i hi (h|h|h)
 · exact .inl h
 · exact .inr (.inl (h1.old h hi))
 · exact .inr (.inr (h2.old h hi))
theorem PosSt.lo_ {w:World} {b lo:Nat} {pv lv fv:Value} {s:StD} (h:PosSt w b lo pv lv fv s) (hb:lo≤b): ∀ i,i<lo→ ¬ PB b lv fv i:=by
 rintro i hi (e|e|e)
 · omega
 · have:=(World.ownsRow.lt h.labs i e).1;omega
 · have:=(World.ownsRow.lt h.fol i e).1;omega
theorem PosSt.old {w:World} {b lo:Nat} {pv lv fv:Value} {s:StD} (h:PosSt w b lo pv lv fv s): ∀ i,PB b lv fv i→i<w.heap.size:=by
 rintro i (e|e|e)
 · have:=h.box.lt;omega
 · exact owns_old h.labs i e
 · exact owns_old h.fol i e
def folK (fol:Nat→Nat→Bool) (l f:Nat→Bool) (k:Nat):Nat→Nat→Bool:=fun i j=>fol i j||(decide ((i:Int)∈(reachL 32 l).take k)&&f j)
theorem folK_zero (fol:Nat→Nat→Bool) (l f:Nat→Bool):folK fol l f 0=fol:=by funext i j;simp[folK]
theorem folK_step {fol:Nat→Nat→Bool} {l f:Nat→Bool} {k m:Nat} (hk:k<(reachL 32 l).length) (hm:iAt (reachL 32 l) k=(m:Int)) (i:Nat):folK fol l f (k+1) i=if i=m then(fun j=>folK fol l f k m j||f j)else folK fol l f k i:=by
 have e:(reachL 32 l)[k]=(m:Int):=by rw[← hm];simp[iAt,List.getD,List.getElem?_eq_getElem hk]
 funext j
 unfold folK
 rw[List.take_succ_eq_append_getElem hk,e]
 by_cases hi:i=m
 · subst hi
   rw[if_pos rfl]
   simp only[List.mem_append,List.mem_singleton,or_true,decide_true,Bool.true_and]
   cases fol i j<;>cases f j<;>simp
 · rw[if_neg hi]
   simp only[List.mem_append,List.mem_singleton,Int.natCast_inj,hi,or_false]
theorem folK_all {fol:Nat→Nat→Bool} {l f:Nat→Bool} (hl: ∀ j,l j=true→j<32):folK fol l f (reachL 32 l).length=folJ fol l f:=by
 funext i j
 unfold folK folJ
 rw[List.take_length]
 congr 2
 rw[Bool.eq_iff_iff,decide_eq_true_eq,mem_reachL]
 constructor
 · rintro⟨k,h1,_,h2⟩
   obtain rfl:i=k:=by omega
   exact h2
 · intro h
   exact⟨i,rfl,hl i h,h⟩
theorem reachL_get {n:Nat} {l:Nat→Bool} {k:Nat} (hk:k<(reachL n l).length): ∃ m:Nat,iAt (reachL n l) k=(m:Int)∧m<n∧l m=true:=by
 have e:iAt (reachL n l) k=(reachL n l)[k]:=by simp[iAt,List.getD,List.getElem?_eq_getElem hk]
 obtain⟨m,h1,h2,h3⟩:=mem_reachL.1 (List.getElem_mem hk)
 exact⟨m,e.trans h1,h2,h3⟩
set_option maxHeartbeats 4000000 in
set_option maxRecDepth 100000 in
theorem connect_any (b lo:Nat) (pv lv fv:Value) (s:StD) (l f:Nat→Bool) (w:World) (h:PosSt w b lo pv lv fv s) (hl: ∀ j,l j=true→j<s.labs.length) (hn:s.labs.length≤24):
  Calls Tryz.prog 240 #[.pointer (some ⟨b,0,none⟩),.int .u32 (bN l:Int),.int .u32 (bN f:Int)] w fun e w'=>e= .returned (.tuple #[])∧PosSt w' b lo pv lv fv ⟨s.labs,folJ s.fol l f⟩∧Tch (PB b lv fv) w w':=by
 have HL:=Lib.hid hl
 have HS:=Lib.hid h
 clear hl h
 go_enter Tryz.func240,Tryz.ntmps240
 go_wp2_with(go_at_call 161;refine(bitsIn_any l _).mono ?_;rintro e w1 ⟨az,cz,rfl,ho,hf1⟩)
 have hrl:=reachL_len 32 l
 have HO:=Lib.hid (IntsO.fr ho (Fr.refl w1))
 have S1:=Lib.hid ((HS.out.fr hf1).congr (s':=⟨s.labs,folK s.fol l f 0⟩) rfl (fun i _=>by rw[folK_zero]))
 have zw:=hf1.size
 clear ho
 go_loopw [7,11] (fun _ i wr=> ∃ k:Nat,k≤(reachL 32 l).length∧i= .int .i64 k∧Hid (IntsO wr w.heap.size (.slice az (reachL 32 l).length cz) (reachL 32 l))∧Hid (PosSt wr b lo pv lv fv ⟨s.labs,folK s.fol l f k⟩)∧Tch (PB b lv fv) w wr) (fun _ i _=>(reachL 32 l).length-(intOf i).toNat)
 case atStart=>exact⟨0,Nat.zero_le _,rfl,HO,S1,Tch.of_fr hf1⟩
 case round=>
  clear HO S1 hf1 zw
  obtain⟨k,hk,rfl,HO,HP,ht⟩:=hrel
  have zr:=ht.size
  by_cases hlt:k<(reachL 32 l).length
  · obtain⟨m,hm,hm32,hlm⟩:=reachL_get hlt
    have hmn:=HL.out m hlm
    obtain⟨az',bz,oz,cz',hv,hcz,hmz,fz⟩:=(IntsO.rd HO.out).one
    cases hv
    obtain⟨rfl,hbz,fz⟩:=fz (by omega)
    have c0:=fz k hlt
    rw[hm]at c0
    obtain⟨g,cap,hv,hg1,hg2,hc,hz⟩:=HP.out.fol.one (by show 0<s.labs.length;omega)
    have hgw:g<w.heap.size:=owns_old HS.out.fol g (by rw[hv];rfl)
    have hgb:g≠b:=fun e=>HP.out.nf (by rw[hv,e];rfl)
    have hzg:bz≠g:=by have:=(World.ownsRow.lt HO.out bz rfl).1;omega
    subst hv
    have c1:=hc m hmn
    have z1:=hz m
    have hor:=bN_or (folK s.fol l f k m) f
    have FB:=HP.out.box.facts
    have HP2:Hid (PosSt (wr.setCell ⟨g,m,none⟩ (.int .u32 (bN (fun j=>folK s.fol l f k m j||f j):Int))) b lo pv lv (.slice (some ⟨g,0,none⟩) s.labs.length cap) ⟨s.labs,folK s.fol l f (k+1)⟩):=Lib.hid
     ⟨HP.out.box.other (by show b≠g;omega) _,owns_far HP.out.labs (fun e=>HP.out.ap g e rfl) _,(RelO.set HP.out.fol m _).congr fun i hi=>(folK_step hlt hm i).symm,HP.out.ap,HP.out.nl,HP.out.nf⟩
    have HO2:Hid (IntsO (wr.setCell ⟨g,m,none⟩ (.int .u32 (bN (fun j=>folK s.fol l f k m j||f j):Int))) w.heap.size (.slice (some ⟨bz,oz,none⟩) (reachL 32 l).length cz) (reachL 32 l)):=Lib.hid (owns_set HO.out hgw _)
    have ht2:Tch (PB b lv (.slice (some ⟨g,0,none⟩) s.labs.length cap)) w (wr.setCell ⟨g,m,none⟩ (.int .u32 (bN (fun j=>folK s.fol l f k m j||f j):Int))):=ht.set (p:=⟨g,m,none⟩) (.inl (.inr (.inr rfl))) _
    have HT2:=Lib.hid ht2
    clear hc hz HO HP hm hlm ht ht2 fz
    go_wp2_with fail
    go_roundw
    case rel=>exact⟨k+1,by omega,by go_num,HO2,HP2,HT2.out⟩
    case measure=>(simp[intOf];omega)
  · obtain rfl:k=(reachL 32 l).length:=by omega
    go_wp2_with fail
    go_end0
    exact⟨rfl,HP.out.congr rfl (fun i _=>by rw[folK_all (fun j hj=>by have:=HL.out j hj;omega)]),ht⟩
def spV (y:SpD):Value:= .agg #[.int .u32 (bN y.first:Int),.int .u32 (bN y.last:Int),.bool y.null]
/-- What a call of visit leaves behind. -/
def VisQ (b lo:Nat) (pv lv fv:Value) (r:StD×SpD) (w:World) (e:Ending) (w':World):Prop:=
 e= .returned (.agg #[.int .u32 (bN r.2.first:Int),.int .u32 (bN r.2.last:Int),.bool r.2.null])∧ ∃ lv' fv',PosSt w' b lo pv lv' fv' r.1∧Tch (PB b lv fv) w w'∧Mvd w.heap.size lv lv'∧Mvd w.heap.size fv fv'
def VisC (ps:List PieceD) (w0:World) (pv:Value) (f:Nat):Prop:= ∀ (b p:Nat) (s:StD) (lv fv:Value) (w:World),Fr w0 w→w0.heap.size≤b→PosSt w b w0.heap.size pv lv fv s→StOk s→p<f→p<ps.length→s.labs.length+occA ps p≤23→
 Calls Tryz.prog 222 #[.pointer (some ⟨b,0,none⟩),.int .i64 (p:Int)] w fun e w'=>VisQ b w0.heap.size pv lv fv (glu ps f p s) w e w'
theorem info_u8:(Tryz.prog.info? 5).map (fun i=>(i.zero,i.size,i.bytes))=some (some (.int .u8 0),1,1):=by kernel_rfl
/-- The cells of a piece that stood. -/
theorem piece_cells {ps:List PieceD} {w0 w:World} {pv:Value} {p:Nat} (hv:PiecesR w0 pv ps) (hf:Fr w0 w) (hp:p<ps.length):
  ∃ b o cap a ba oa ca,pv= .slice (some ⟨b,o,none⟩) ps.length cap∧ps.length≤cap∧cap≤9223372036854775807∧b<w0.heap.size∧w.cell? ⟨b,o+p*3,none⟩=some (.int .i64 (nAt ps p).f0)∧w.cell? ⟨b,o+p*3+1,none⟩=some (.int .u8 ((nAt ps p).f1.toNat:Int))∧w.cell? ⟨b,o+p*3+2,none⟩=some (.slice a (nAt ps p).f2.length ca)∧(nAt ps p).f2.length≤ca∧ca≤9223372036854775807∧
   Hid (0<(nAt ps p).f2.length→a=some ⟨ba,oa,none⟩∧ba<w0.heap.size∧ ∀ k,k<(nAt ps p).f2.length→w0.cell? ⟨ba,oa+k,none⟩=some (.int .i64 (iAt (nAt ps p).f2 k))):=by
 obtain⟨ao,b,o,cap,h1,h2,h3,h4⟩:=hv.one
 obtain⟨rfl,hb,h4⟩:=h4 (by omega)
 obtain⟨va,hva,g0,g1,g2⟩:=h4 p hp
 obtain⟨a,ba,oa,ca,rfl,e1,e2,e3⟩:=hva.one
 exact⟨b,o,cap,a,ba,oa,ca,h1,h2,h3,hb,(hf.cell (p:=⟨b,_,none⟩) hb).trans g0,(hf.cell (p:=⟨b,_,none⟩) hb).trans g1,(hf.cell (p:=⟨b,_,none⟩) hb).trans g2,e1,e2,Lib.hid e3⟩
set_option maxHeartbeats 8000000 in
set_option maxRecDepth 100000 in
theorem vis_step {ps:List PieceD} (hp:pathB ps=true) {w0:World} {pv:Value} (hv:PiecesR w0 pv ps) (f b p:Nat) (s:StD) (lv fv:Value) (w:World) (hf0:Fr w0 w) (h:PosSt w b w0.heap.size pv lv fv s) (hok:StOk s) (hl:p<ps.length) (hn:s.labs.length≤22) (h1:(nAt ps p).f0=1):
  Calls Tryz.prog 222 #[.pointer (some ⟨b,0,none⟩),.int .i64 (p:Int)] w fun e w'=>VisQ b w0.heap.size pv lv fv (glu ps (f+1) p s) w e w':=by
 have hx:=(pathB_out hp).2 p hl
 have hps:=(pathB_out hp).1
 have hx2:=pieceB_step hx h1
 obtain⟨bq,oq,cq,a,ba,oa,ca,rfl,hcq,hcm,hbq,c0,c1,c2,hca,hcam,HK⟩:=piece_cells hv hf0 hl
 have HG:Hid (glu ps (f+1) p s=(⟨s.labs++[(nAt ps p).f1],s.fol⟩,⟨oneB s.labs.length,oneB s.labs.length,false⟩)):=Lib.hid (by rw[glu];simp only[];rw[if_pos h1])
 rw[HG.out]
 obtain⟨x,hxx⟩: ∃ x,nAt ps p=x:=⟨_,rfl⟩
 rw[hxx]at h1 hx2 c0 c1 c2 hca HK ⊢
 clear hxx hx HG
 obtain⟨x0,x1,x2⟩:=x
 simp only[]at h1 hx2 c0 c1 c2 hca HK ⊢
 subst h1 hx2
 have hxl:=x1.toNat_lt
 obtain⟨al,cl,rfl⟩: ∃ al cl,lv= .slice al s.labs.length cl:=owns_val h.labs
 obtain⟨af,cf,rfl⟩:=RelO.val h.fol
 have HP:=Lib.hid h
 have zb:=h.box.lt
 have HRM:=Lib.hid (rCells_more (n:=s.labs.length) (R:=s.fol) fun j=>by
  cases hc:s.fol s.labs.length j
  · rfl
  · have:=hok _ _ hc;omega)
 clear hok
 have hb1:b≠w.heap.size:=by omega
 have hb2:b≠w.heap.size+1:=by omega
 have hb3:w.heap.size≠b:=by omega
 have hb4:b≠w.heap.size+1+1:=by omega
 have hb5:b<w.heap.size+1:=by omega
 have hb6:b<w.heap.size+1+1:=by omega
 have zf0:=hf0.size
 have hbqw:bq<w.heap.size:=by omega
 have F:=h.box.facts
 have HLB:Hid (w.ownsRow w0.heap.size 5 1 (.slice al s.labs.length cl) s.labs.length ((nums s.labs).map (Value.int .u8))):=Lib.hid h.labs
 have HFO:Hid (w.ownsRow w0.heap.size 112 1 (.slice af s.labs.length cf) s.labs.length (rCells s.labs.length s.fol)):=Lib.hid h.fol
 have HR0:Hid (Box (w.alloc (.cells #[.int .u32 0,.int .u32 0,.bool false] 272)) w.heap.size #[.int .u32 0,.int .u32 0,.bool false] 272):=Lib.hid (Box.new _ _ _)
 have hwl:IntKind.i64.wrap ((s.labs.length:Int)+1-1)=(s.labs.length:Int):=by rw[show(s.labs.length:Int)+1-1=s.labs.length by omega];exact IntWalk.i64_in _ (by omega)
 have hone:=bN_one s.labs.length (by omega)
 have hone2:IntKind.u32.wrap (2 ^ s.labs.length)=(bN (oneB s.labs.length):Int):=by rw[← Int.one_mul (2 ^ s.labs.length),hone];rfl
 clear h hone
 obtain⟨i0,hi,hz0,hz1,hz2⟩:=info_parts info_u8
 obtain⟨i4,hj,hy0,hy1,hy2⟩:=info_parts info_u32
 go_enter Tryz.func222,Tryz.ntmps222
 go_wp2_with fail
 go_region_law((refine step_append_rd (by rfl) _ _ 22 (by rfl) w0.heap.size 5 i0 (.int .u8 0) 1 1 Tryz.underlying22 hi hz0 hz1 hz2 rfl (by decide) (.slice al s.labs.length cl) s.labs.length ((nums s.labs).map (Value.int .u8)) (by rfl) (by exact owns_lo (owns_ab HLB.out (by exact Qa)) (by exact Qz)) _ 1 [.int .u8 (x1.toNat:Int)] (by rfl) (RdS.drew (RdS.new (by first|rfl|(simp;done)) rfl)) (by simp[Value.oneCell']) (by unfold maxLen;omega) (by omega) (by exact Qz) ?_;intro ay cy w9 hown hgrow hat;have hB9:Box w9 b _ _:=Box.gr (Box.fr HP.out.box (by exact Qf)) hgrow (fun e=>HP.out.nl e);have HF9:Hid (w9.ownsRow w0.heap.size 112 1 (.slice af s.labs.length cf) s.labs.length (rCells s.labs.length s.fol)):=Lib.hid (World.ownsRow.kept (owns_fr HFO.out (by exact Qf)) hgrow (Apart.ne (Apart.symm' HP.out.ap)));have hR9:Box w9 w.heap.size _ _:=Box.gr (Box.fr HR0.out (by exact Qf)) hgrow (fun e=>by have:=owns_old HLB.out _ e;omega);have T9:Hid (Tch (PB b (.slice al s.labs.length cl) (.slice af s.labs.length cf)) w w9):=Lib.hid (Tch.trans (Tch.of_fr (by exact Qf)) (Tch.of_gr hgrow (fun i e=> .inr (.inl e))));have m1:=Mvd.of_app (n:=w.heap.size+1+1) hat (by exact Qz);have M1:=Lib.hid m1;have F9:=hB9.facts;have z9:=hgrow.size;(try simp only[World.size_alloc,World.size_drew]at z9)))
 all_goals
  have hbz9:b<w9.heap.size:=hB9.lt
  have hb9:b≠w9.heap.size:=by omega
  have hB10:Box (w9.setCell ⟨b,1,none⟩ (.slice ay (s.labs.length+1) cy)) b #[.slice (some ⟨bq,oq,none⟩) ps.length cq,.slice ay (s.labs.length+1) cy,.slice af s.labs.length cf] 270:=hB9.set_to (by simp)
  have HF10:Hid ((w9.setCell ⟨b,1,none⟩ (.slice ay (s.labs.length+1) cy)).ownsRow w0.heap.size 112 1 (.slice af s.labs.length cf) s.labs.length (rCells s.labs.length s.fol)):=Lib.hid (owns_far HF9.out (p:=⟨b,1,none⟩) HP.out.nf _)
  have hyb:(Value.slice ay (s.labs.length+1) cy).ownBlock≠some b:=M1.out.ne HP.out.nl (by omega)
  have hyf:Apart (Value.slice ay (s.labs.length+1) cy) (Value.slice af s.labs.length cf):=M1.out.apart HP.out.ap (fun g e=>by have:=owns_old HFO.out g e;omega)
  have HY9:Hid (BytesO w9 w0.heap.size (.slice ay (s.labs++[x1]).length cy) (s.labs++[x1])):=Lib.hid (by have:=BytesO.snoc (b:=x1) hown rfl;simpa using this)
  have HY10:Hid (BytesO (w9.setCell ⟨b,1,none⟩ (.slice ay (s.labs.length+1) cy)) w0.heap.size (.slice ay (s.labs++[x1]).length cy) (s.labs++[x1])):=Lib.hid (owns_far HY9.out (p:=⟨b,1,none⟩) (by simpa using hyb) _)
  have T10:Hid (Tch (PB b (.slice al s.labs.length cl) (.slice af s.labs.length cf)) w (w9.setCell ⟨b,1,none⟩ (.slice ay (s.labs.length+1) cy))):=Lib.hid (T9.out.set (p:=⟨b,1,none⟩) (.inl (.inl rfl)) _)
  have hR10:=hR9.other (p:=⟨b,1,none⟩) hb3 (.slice ay (s.labs.length+1) cy)
  clear hown hgrow hat m1
  go_wp2_with(at_builtin;refine wpList_append_rd rfl _ _ 203 rfl w0.heap.size 112 i4 (.int .u32 0) 1 4 Tryz.underlying203 hj hy0 hy1 hy2 rfl (by decide) (.slice af s.labs.length cf) s.labs.length (rCells s.labs.length s.fol) rfl (owns_fr HF10.out (by exact Qf)) _ 1 [.int .u32 0] rfl (RdS.new (by first|rfl|(simp;done)) rfl) (by simp[Value.oneCell']) (by unfold maxLen;omega) (by omega) (by exact Qz) ?_;intro az cz w8 hown8 hgrow8 hat8;have hB8:Box w8 b _ _:=Box.gr (Box.fr hB10 (by exact Qf)) hgrow8 (fun e=>HP.out.nf e);have hR8:Box w8 w.heap.size _ _:=Box.gr (Box.fr hR10 (by exact Qf)) hgrow8 (fun e=>by have:=owns_old HFO.out _ e;omega);have F8:=hB8.facts;have G8:=hR8.facts)
  have m2:Mvd w9.heap.size (.slice af s.labs.length cf) (.slice az (s.labs.length+1) cz):=Mvd.of_app hat8 (by exact Qz)
  have hzb:(Value.slice az (s.labs.length+1) cz).ownBlock≠some b:=m2.ne HP.out.nf hbz9
  have hyz:Apart (Value.slice ay (s.labs.length+1) cy) (Value.slice az (s.labs.length+1) cz):=Apart.symm' (m2.apart (Apart.symm' hyf) (fun g e=>owns_old HY9.out g (by simpa using e)))
  have hrz: ∀ i,i<w.heap.size+1+1→w.heap.size≤i→(Value.slice ay (s.labs.length+1) cy).ownBlock≠some i∧(Value.slice az (s.labs.length+1) cz).ownBlock≠some i:=fun i h1 h2=>⟨M1.out.ne (fun e=>by have:=owns_old HLB.out i e;omega) h1,m2.ne (fun e=>by have:=owns_old HFO.out i e;omega) (by omega)⟩
  have hk8:BytesO w8 w0.heap.size (.slice ay (s.labs++[x1]).length cy) (s.labs++[x1]):=World.ownsRow.kept (owns_fr HY10.out (by exact Qf)) hgrow8 (Apart.ne (by simpa using hyf))
  have T8:Tch (PB b (.slice al s.labs.length cl) (.slice af s.labs.length cf)) w w8:=(T10.out.fr (by exact Qf)).trans (Tch.of_gr hgrow8 (fun i e=> .inr (.inr e)))
  have P8:PosSt (w8.setCell ⟨b,2,none⟩ (.slice az (s.labs.length+1) cz)) b w0.heap.size (.slice (some ⟨bq,oq,none⟩) ps.length cq) (.slice ay (s.labs++[x1]).length cy) (.slice az (s.labs++[x1]).length cz) ⟨s.labs++[x1],s.fol⟩:=by
   refine⟨?_,owns_far hk8 (p:=⟨b,2,none⟩) (by simpa using hyb) _,?_,by simpa using hyz,by simpa using hyb,by simpa using hzb⟩
   · simpa using hB8.set_to (i:=2) (v:= .slice az (s.labs.length+1) cz) rfl
   · rw[HRM.out]at hown8
     have:=owns_far hown8 (p:=⟨b,2,none⟩) hzb (.slice az (s.labs.length+1) cz)
     simpa [RelO]using this
  have P8:=Lib.hid P8
  have T9':=Lib.hid (T8.set (p:=⟨b,2,none⟩) (.inl (.inl rfl)) (.slice az (s.labs.length+1) cz))
  have M2:=Lib.hid m2
  clear m2 hzb hyz hk8 T8 hown8 hgrow8 hat8 hyb hyf
  refine bodyPost_ret (v:= .agg #[.int .u32 (bN (oneB s.labs.length):Int),.int .u32 (bN (oneB s.labs.length):Int),.bool false]) (by simp[results,Tryz.results222,go_sem, *]) rfl ⟨rfl,.slice ay (s.labs++[x1]).length cy,.slice az (s.labs++[x1]).length cz,?_,?_,?_,?_⟩
  · exact P8.out.set3 hb1 (by simpa using (hrz w.heap.size (by omega) (Nat.le_refl _)).1) (by simpa using (hrz w.heap.size (by omega) (Nat.le_refl _)).2) _ _ _
  · exact T9'.out.set3 (.inr (Nat.le_refl _)) _ _ _
  · have:=M1.out.mono (m:=w.heap.size) (by omega);simpa using this
  · have:=M2.out.mono (m:=w.heap.size) (by omega);simpa using this
end Go.Proofs.YtjnahjgncmcmdaaGreat