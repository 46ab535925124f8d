/- Texts in one: Rv, Rv2, TFlat, Unf. -/
import Derived.Test.YtjnahjgncmcmdaaGreatGRow
import Derived.Test.YtjnahjgncmcmdaaGreatGSWalk
import Derived.Deep.RegionHeld3
import Derived.Deep.QuietTactic
import Derived.BigQuiet
import Derived.Test.YtjnahjgncmcmdaaGreatGParP
namespace Go.Proofs.YtjnahjgncmcmdaaGreat
open Go.RowKit
set_option linter.unusedVariables false
set_option linter.unusedSimpArgs false
/-- The number that bytes, low ones first, stand for. -/
def dec:List UInt8→Nat
 |[]=>0
 |b::l=>b.toNat%128+128*dec l
theorem dec_snoc (l:List UInt8) (b:UInt8):dec (l++[b])=dec l+b.toNat%128*128 ^ l.length:=by
 induction l with
 |nil=>simp[dec]
 |cons c l ih=>
  rw[List.cons_append]
  show c.toNat%128+128*dec (l++[b])=c.toNat%128+128*dec l+b.toNat%128*128 ^ (l.length+1)
  rw[ih,Nat.pow_succ,Nat.mul_add,Nat.mul_comm 128 (b.toNat%128*128 ^ l.length),Nat.mul_assoc (b.toNat%128),Nat.add_assoc]
theorem dec_pos (l:List UInt8) (b:UInt8) (hb:b.toNat<128) (h:b.toNat≠0):0<dec (l++[b]):=by
 rw[dec_snoc]
 have:0<128 ^ l.length:=Nat.pow_pos (by omega)
 have h2:0<b.toNat%128*128 ^ l.length:=Nat.mul_pos (by omega) this
 omega
theorem varL_dec: ∀ (l:List UInt8) (b:UInt8),(∀ x∈l,128≤x.toNat)→b.toNat<128→(varL (dec (l++[b]))=l++[b]↔(l=[]∨b.toNat≠0))
 |[],b,_,hb=>by
  have h1:dec ([]++[b])=b.toNat:=by simp[dec];omega
  rw[h1,varL_small (by omega)]
  simp
 |c::l,b,hl,hb=>by
  have hc:=hl c (by simp)
  have hcl:=c.toNat_lt
  have ih:=varL_dec l b (fun x hx=>hl x (by simp[hx])) hb
  have h1:dec ((c::l)++[b])=c.toNat%128+128*dec (l++[b]):=rfl
  by_cases hz:dec (l++[b])=0
  · rw[h1,hz,varL_small (by omega)]
    constructor
    · intro h
      have:=congrArg List.length h
      simp at this
    · rintro(h|h)
      · cases h
      · exact absurd hz (by have:=dec_pos l b hb h;omega)
  · rw[h1,varL_big (by omega)]
    have h2:(c.toNat%128+128*dec (l++[b]))/128=dec (l++[b]):=by omega
    have h3:UInt8.ofNat (128+(c.toNat%128+128*dec (l++[b]))%128)=c:=by
     apply UInt8.toNat.inj
     simp
     omega
    rw[h2,h3,List.cons_append]
    simp only[List.cons.injEq,true_and,reduceCtorEq,false_or]
    rw[ih]
    constructor
    · rintro(h|h)
      · subst h
        intro h0
        apply hz
        simp[dec,h0]
      · exact h
    · exact fun h=> .inr h
structure RvR where
 n:Int
 e:Int
 ok:Bool
def rvNo:RvR:=⟨0,0,false⟩
def rvGo (s:ByteArray) (a i n u:Nat):Nat→RvR
 |0=>rvNo
 |f+1=>if h:a+i<s.size then
   (if 128≤s[a+i].toNat then rvGo s a (i+1) (n+s[a+i].toNat%128*u) (u*128) f
    else if(s[a+i].toNat=0∧0<i)∨1000000000<n+s[a+i].toNat%128*u then rvNo else⟨(n+s[a+i].toNat%128*u:Nat),(a+i+1:Nat),true⟩)
  else rvNo
def rv (s:ByteArray) (at_:Int):RvR:=if 0≤at_∧at_≤s.size then rvGo s at_.toNat 0 0 1 5 else rvNo
theorem pow4 {i:Nat} (h:i≤4):128 ^ i≤268435456:=by
 have:=Nat.pow_le_pow_right (show 0<128 by omega) h
 exact this
/-- The bytes of s from a on, k of them. -/
def bytesAt (s:ByteArray) (a k:Nat):List UInt8:=(s.data.toList.drop a).take k
theorem bytesAt_length {s:ByteArray} {a k:Nat} (h:a+k≤s.size):(bytesAt s a k).length=k:=by
 have:s.data.toList.length=s.size:=by rw[Array.length_toList];rfl
 unfold bytesAt
 rw[List.length_take,List.length_drop]
 omega
theorem bytesAt_succ {s:ByteArray} {a k:Nat} (h:a+k<s.size):bytesAt s a (k+1)=bytesAt s a k++[s[a+k]]:=by
 have hl:s.data.toList.length=s.size:=by rw[Array.length_toList];rfl
 unfold bytesAt
 rw[List.take_succ_eq_append_getElem (by rw[List.length_drop];omega)]
 congr 1
 simp only[List.getElem_drop,Array.getElem_toList]
 rfl
theorem extract_bytes (s:ByteArray) (a k:Nat):(s.extract a (a+k)).data.toList=bytesAt s a k:=by
 unfold bytesAt
 rw[Lib.extract_data,Nat.add_sub_cancel_left]
def StrsW (w:World) (lo hi:Nat) (v:Value) (xs:List ByteArray):Prop:=OwW w lo hi 9 1 v xs.length (xs.map Value.string)
theorem StrsW.rd {w:World} {lo hi:Nat} {v:Value} {xs:List ByteArray} (h:StrsW w lo hi v xs):StrsR w v xs:=OwW.rd h
theorem StrsW.val {w:World} {lo hi:Nat} {v:Value} {xs:List ByteArray} (h:StrsW w lo hi v xs): ∃ ao cap,v= .slice ao xs.length cap:=OwW.val h
theorem StrsW.fr {w w':World} {lo hi:Nat} {v:Value} {xs:List ByteArray} (h:StrsW w lo hi v xs) (hf:Fr w w'):StrsW w' lo hi v xs:=OwW.fr h hf
theorem StrsW.span {w w':World} {lo hi:Nat} {v:Value} {xs:List ByteArray} (h:StrsW w lo hi v xs) {a b:Nat} (s:Span a b w w') (hd:hi≤a∨b≤lo):StrsW w' lo hi v xs:=OwW.span h s hd
theorem StrsW.nil (w:World) (lo hi:Nat):StrsW w lo hi (.slice none 0 0) []:=OwW.nil _ _ _ _ _
theorem toStringS_w (a:Value) (xs:List ByteArray) (w:World) (ha:StrsR w a xs) (hn:xs.length≤1048576):
  Calls Tryz.prog 114 #[a] w fun e w'=> ∃ ao cap,e= .returned (.slice ao xs.length cap)∧StrsW w' w.heap.size w'.heap.size (.slice ao xs.length cap) xs∧Fr w w':=
 (toStringS_any a xs w ha hn).mono fun e w' h=>by
  obtain⟨v,rfl,ho,hf⟩:=h
  obtain⟨ao,cap,rfl⟩:=ho.val
  exact⟨ao,cap,rfl,OwW.of_owns ho,hf⟩
theorem eqStringS_same (a b:Value) (xs:List ByteArray) (w:World) (ha:StrsR w a xs) (hb:StrsR w b xs):
  Calls Tryz.prog 120 #[a,b] w fun e w'=>e= .returned (.bool true)∧Fr w w':=
 (eqStringS_any a b xs xs w ha hb).mono fun e w' h=>⟨by rw[h.1,decide_eq_true rfl],h.2⟩
def mkStrs (k:Int) (n:Nat):List ByteArray:=marksS k n
theorem mkStrs_length (k:Int) (n:Nat):(mkStrs k n).length=n:=marksS_length k n
theorem markStringS_w (v:Value) (xs:List ByteArray) (k:Int) (lo hi:Nat) (w:World) (ha:StrsW w lo hi v xs) (h0:0<k) (h1:k+1*xs.length≤1073741824):
  Calls Tryz.prog 124 #[v,.int .i64 k] w fun e w'=>e= .returned (.int .i64 (k+1*xs.length))∧StrsW w' lo hi v (mkStrs k xs.length)∧Span lo hi w w':=
 (markStrings_any v xs k lo w ha.1 h0 (by omega) (by omega)).mono fun e w' h=>⟨by rw[Int.one_mul];exact h.1,⟨h.2.1,ha.2⟩,Span.of_gr h.2.2 ha.2⟩
def IntsW (w:World) (lo hi:Nat) (v:Value) (xs:List Int):Prop:=OwW w lo hi 3 1 v xs.length (xs.map (Value.int .i64))
theorem IntsW.rd {w:World} {lo hi:Nat} {v:Value} {xs:List Int} (h:IntsW w lo hi v xs):IntsR w v xs:=OwW.rd h
theorem IntsW.val {w:World} {lo hi:Nat} {v:Value} {xs:List Int} (h:IntsW w lo hi v xs): ∃ ao cap,v= .slice ao xs.length cap:=OwW.val h
theorem IntsW.fr {w w':World} {lo hi:Nat} {v:Value} {xs:List Int} (h:IntsW w lo hi v xs) (hf:Fr w w'):IntsW w' lo hi v xs:=OwW.fr h hf
theorem IntsW.span {w w':World} {lo hi:Nat} {v:Value} {xs:List Int} (h:IntsW w lo hi v xs) {a b:Nat} (s:Span a b w w') (hd:hi≤a∨b≤lo):IntsW w' lo hi v xs:=OwW.span h s hd
theorem IntsW.nil (w:World) (lo hi:Nat):IntsW w lo hi (.slice none 0 0) []:=OwW.nil _ _ _ _ _
theorem toIntS_w (a:Value) (xs:List Int) (w:World) (ha:IntsR w a xs) (hn:xs.length≤1048576):
  Calls Tryz.prog 47 #[a] w fun e w'=> ∃ ao cap,e= .returned (.slice ao xs.length cap)∧IntsW w' w.heap.size w'.heap.size (.slice ao xs.length cap) xs∧Fr w w':=
 (toIntS_any a xs w ha hn).mono fun e w' h=>by
  obtain⟨v,rfl,ho,hf⟩:=h
  obtain⟨ao,cap,rfl⟩:=ho.val
  exact⟨ao,cap,rfl,OwW.of_owns ho,hf⟩
theorem eqIntS_same (a b:Value) (xs:List Int) (w:World) (ha:IntsR w a xs) (hb:IntsR w b xs):
  Calls Tryz.prog 51 #[a,b] w fun e w'=>e= .returned (.bool true)∧Fr w w':=
 (eqIntS_any a b xs xs w ha hb).mono fun e w' h=>⟨by rw[h.1,decide_eq_true rfl],h.2⟩
def mkInts (k:Int) (n:Nat):List Int:=marksInt k n
theorem mkInts_length (k:Int) (n:Nat):(mkInts k n).length=n:=marksInt_length k n
theorem markIntS_w (v:Value) (xs:List Int) (k:Int) (lo hi:Nat) (w:World) (ha:IntsW w lo hi v xs) (h0:0<k) (h1:k+1*xs.length≤1073741824):
  Calls Tryz.prog 54 #[v,.int .i64 k] w fun e w'=>e= .returned (.int .i64 (k+1*xs.length))∧IntsW w' lo hi v (mkInts k xs.length)∧Span lo hi w w':=
 (markInts_any v xs k lo w ha.1 h0 (by omega) (by omega)).mono fun e w' h=>⟨by rw[Int.one_mul];exact h.1,⟨h.2.1,ha.2⟩,Span.of_gr h.2.2 ha.2⟩
def BoolsW (w:World) (lo hi:Nat) (v:Value) (xs:List Bool):Prop:=OwW w lo hi 4 1 v xs.length (xs.map Value.bool)
theorem BoolsW.rd {w:World} {lo hi:Nat} {v:Value} {xs:List Bool} (h:BoolsW w lo hi v xs):BoolsR w v xs:=OwW.rd h
theorem BoolsW.val {w:World} {lo hi:Nat} {v:Value} {xs:List Bool} (h:BoolsW w lo hi v xs): ∃ ao cap,v= .slice ao xs.length cap:=OwW.val h
theorem BoolsW.fr {w w':World} {lo hi:Nat} {v:Value} {xs:List Bool} (h:BoolsW w lo hi v xs) (hf:Fr w w'):BoolsW w' lo hi v xs:=OwW.fr h hf
theorem BoolsW.span {w w':World} {lo hi:Nat} {v:Value} {xs:List Bool} (h:BoolsW w lo hi v xs) {a b:Nat} (s:Span a b w w') (hd:hi≤a∨b≤lo):BoolsW w' lo hi v xs:=OwW.span h s hd
theorem BoolsW.nil (w:World) (lo hi:Nat):BoolsW w lo hi (.slice none 0 0) []:=OwW.nil _ _ _ _ _
theorem rvGo_ok (s:ByteArray) (a:Nat): ∀ (f k m v:Nat),v=128 ^ k→a+k≤s.size→m=dec (bytesAt s a k)→(∀ x∈bytesAt s a k,128≤x.toNat)→(rvGo s a k m v f).ok=true→
  ∃ j:Nat,(rvGo s a k m v f).n=((dec (bytesAt s a (j+1)):Nat):Int)∧(rvGo s a k m v f).e=((a+j+1:Nat):Int)∧a+j<s.size∧j<k+f∧varL (dec (bytesAt s a (j+1)))=bytesAt s a (j+1)∧dec (bytesAt s a (j+1))≤1000000000
 |0,k,m,v,_,_,_,_,h=>by simp[rvGo,rvNo]at h
 |f+1,k,m,v,hv,hk,hm,hall,h=>by
  rw[rvGo]at h ⊢
  by_cases hlt:a+k<s.size
  · rw[dif_pos hlt]at h ⊢
    have hdec:m+s[a+k].toNat%128*v=dec (bytesAt s a (k+1)):=by rw[bytesAt_succ hlt,dec_snoc,bytesAt_length hk, ← hv, ← hm]
    by_cases hb:128≤s[a+k].toNat
    · rw[if_pos hb]at h ⊢
      obtain⟨j,h1,h2,h3,h4,h5⟩:=rvGo_ok s a f (k+1) _ (v*128) (by rw[hv,Nat.pow_succ]) (by omega) hdec (fun x hx=>by
       rw[bytesAt_succ hlt]at hx
       rcases List.mem_append.1 hx with h|h
       · exact hall x h
       · simp at h;subst h;exact hb) h
      exact⟨j,h1,h2,h3,by omega,h5⟩
    · rw[if_neg hb]at h ⊢
      by_cases hz:(s[a+k].toNat=0∧0<k)∨1000000000<m+s[a+k].toNat%128*v
      · rw[if_pos hz]at h;simp[rvNo]at h
      · rw[if_neg hz]
        refine⟨k,by rw[hdec],rfl,hlt,by omega,?_,by rw[← hdec];omega⟩
        rw[bytesAt_succ hlt]
        refine(varL_dec _ _ hall (by omega)).2 ?_
        by_cases hk0:k=0
        · left;rw[hk0];simp[bytesAt]
        · right;intro h0;exact hz (.inl ⟨h0,by omega⟩)
  · rw[dif_neg hlt]at h;simp[rvNo]at h
/-- A number that was read: its bytes are those between the two places. -/
theorem rv_ok {s:ByteArray} {a:Nat} (ha:a≤s.size) (h:(rv s (a:Int)).ok=true):
  ∃ (n j:Nat),(rv s (a:Int)).n=(n:Int)∧(rv s (a:Int)).e=((a+j+1:Nat):Int)∧a+j+1≤s.size∧n≤1000000000∧varL n=bytesAt s a (j+1):=by
 have he:rv s (a:Int)=rvGo s a 0 0 1 5:=by unfold rv;rw[if_pos ⟨by omega,by omega⟩,Int.toNat_natCast]
 rw[he]at h ⊢
 obtain⟨j,h1,h2,h3,h4,h5,h6⟩:=rvGo_ok s a 5 0 0 1 rfl (by omega) (by simp[bytesAt,dec]) (fun x hx=>by simp[bytesAt]at hx) h
 exact⟨_,j,h1,h2,by omega,h6,h5⟩
structure FrR where
 t:ByteArray
 e:Int
 ok:Bool
def frNo:FrR:=⟨⟨#[]⟩,0,false⟩
def frAt (s:ByteArray) (a:Int):FrR:=
 if(rv s a).ok=true∧1≤(rv s a).n∧(rv s a).n≤9000∧(rv s a).n+4≤s.size-(rv s a).e∧
  s.extract (rv s a).e.toNat ((rv s a).e.toNat+4)=fourT (sumOf (s.extract ((rv s a).e.toNat+4) ((rv s a).e.toNat+4+(rv s a).n.toNat)))then
  ⟨s.extract ((rv s a).e.toNat+4) ((rv s a).e.toNat+4+(rv s a).n.toNat),(rv s a).e+4+(rv s a).n,true⟩else frNo
theorem extract_len {s:ByteArray} {i j:Nat} (h:j≤s.size):(s.extract i j).size=j-i:=by
 simp[ByteArray.size_extract];omega
theorem frAt_ok {s:ByteArray} {a:Nat} (ha:a≤s.size) (h:(frAt s (a:Int)).ok=true): ∃ e:Nat,(frAt s (a:Int)).e=(e:Int)∧a<e∧e≤s.size∧(frAt s (a:Int)).t.size≤9000:=by
 unfold frAt at h ⊢
 split at h
 · rename_i hc
   obtain⟨n,j,hn,he,hj,hn9,hbytes⟩:=rv_ok ha hc.1
   rw[if_pos hc]
   obtain⟨_,h1,h2,h3,h4⟩:=hc
   rw[hn]at h1 h2 h3
   rw[he]at h3
   refine⟨a+j+1+4+n,by rw[hn,he];push_cast;omega,by omega,by omega,?_⟩
   show(s.extract _ _).size≤9000
   rw[hn,he,ByteArray.size_extract]
   simp only[Int.toNat_natCast]
   omega
 · simp[frNo]at h
/-- All frames from a place on. -/
def unfGo (s:ByteArray):Nat→Nat→List ByteArray×Nat
 |0,a=>([],a)
 |f+1,a=>if(frAt s a).ok=true then((frAt s a).t::(unfGo s f (frAt s a).e.toNat).1,(unfGo s f (frAt s a).e.toNat).2)else([],a)
def unf (s:ByteArray):List ByteArray×Nat:=if s.size≤20000 then unfGo s (s.size+1) 0 else([],0)
theorem unfGo_len (s:ByteArray): ∀ (f a:Nat),a≤s.size→(unfGo s f a).1.length+a≤s.size
 |0,a,h=>by simpa [unfGo]using h
 |f+1,a,h=>by
  rw[unfGo]
  split
  · rename_i hok
    obtain⟨e,h1,h2,h3,_⟩:=frAt_ok h hok
    have:=unfGo_len s f e h3
    rw[h1]
    simp only[Int.toNat_natCast,List.length_cons]
    omega
  · simpa using h
theorem unf_len (s:ByteArray):(unf s).1.length≤20000:=by
 unfold unf
 split
 · have:=unfGo_len s (s.size+1) 0 (Nat.zero_le _);omega
 · simp
end Go.Proofs.YtjnahjgncmcmdaaGreat