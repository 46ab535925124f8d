/- Texts in one: Nms, Qdi, Qal, Qfl, Nmo, Nmi, Qok, Wlk, Nfl. -/
import Derived.Test.YtjnahjgncmcmdaaGreatGShc
import Derived.Test.YtjnahjgncmcmdaaGreatGSFilter
import Derived.Test.YtjnahjgncmcmdaaGreatGPrw
import Derived.Test.YtjnahjgncmcmdaaGreatGGrOk
import Derived.Test.YtjnahjgncmcmdaaGreatGParP
import Derived.Test.YtjnahjgncmcmdaaGreatGTch
namespace Go.Proofs.YtjnahjgncmcmdaaGreat
open Go.RowKit
set_option linter.unusedVariables false
set_option linter.unusedSimpArgs false
def inB (l:List ByteArray) (s:ByteArray):Bool:=l.any fun x=>x.toList==s.toList
theorem inB_yes {l:List ByteArray} {s:ByteArray} {k:Nat} (hk:k<l.length) (h:((sAt l k).toList==s.toList)=true):inB l s=true:=by
 unfold inB
 rw[List.any_eq_true]
 refine⟨l[k],List.getElem_mem hk,?_⟩
 rwa [show sAt l k=l[k] by simp[sAt,List.getD,List.getElem?_eq_getElem hk]]at h
theorem inB_step {l:List ByteArray} {s:ByteArray} {k:Nat} (hk:k<l.length) (h:((sAt l k).toList==s.toList)=false) (h0:inB (l.take k) s=false):inB (l.take (k+1)) s=false:=by
 unfold inB at*
 rw[List.take_succ_eq_append_getElem hk,List.any_append,h0]
 rw[show sAt l k=l[k] by simp[sAt,List.getD,List.getElem?_eq_getElem hk]]at h
 simp[h]
set_option maxHeartbeats 2000000 in
theorem l08In_any (v:Value) (l:List ByteArray) (s:ByteArray) (w:World) (hv:StrsR w v l):
  Calls Tryz.prog 147 #[v,.string s] w fun e w'=>e= .returned (.bool (inB l s))∧Fr w w':=by
 obtain⟨ao,b,o,cap,rfl,hc,hm,hf⟩:=hv.one
 have HF:=Lib.hid hf
 clear hf hv
 go_enter Tryz.func147,Tryz.ntmps147
 go_wp2_with fail
 go_loopw [5] (fun i wr=> ∃ k:Nat,k≤l.length∧i= .int .i64 k∧Hid (inB (l.take k) s=false)∧Fr w wr) (fun i _=>l.length-(intOf i).toNat)
 case atStart=>exact⟨0,Nat.zero_le _,rfl,Lib.hid rfl,Fr.refl _⟩
 case round=>
  obtain⟨k,hk,rfl,HL,hfr⟩:=hrel
  by_cases hlt:k<l.length
  · obtain⟨rfl,hb,hf⟩:=HF.out (by omega)
    have hcell:=(hfr.cell (p:=⟨b,_,none⟩) hb).trans (hf k hlt)
    obtain⟨x,hx⟩: ∃ x,sAt l k=x:=⟨_,rfl⟩
    rw[hx]at hcell
    clear hf
    cases hp:(x.toList==s.toList)
    · have HS:=Lib.hid (inB_step hlt (by rw[hx];exact hp) HL.out)
      clear hx
      go_wp2_with fail
      go_roundw
      case rel=>exact⟨k+1,by omega,by go_num,HS,by exact Qf⟩
      case measure=>(simp[intOf];omega)
    · have HS:=Lib.hid (inB_yes hlt (by rw[hx];exact hp))
      clear hx
      go_wp2_with fail
      go_ret
      exact⟨ret_bool (by rw[HS.out]),by exact Qf⟩
  · obtain rfl:k=l.length:=by omega
    have HN:Hid (inB l s=false):=Lib.hid (by have:=HL.out;rwa [List.take_length]at this)
    go_wp2_with fail
    go_ret
    exact⟨ret_bool (by rw[HN.out]),by exact Qf⟩
theorem contains_inB (l:List ByteArray) (x:ByteArray):Lib.containsS l x=inB l x:=by
 rw[Bool.eq_iff_iff,Lib.containsS_iff]
 unfold inB
 rw[List.any_eq_true]
 constructor
 · intro h;exact⟨x,h,by simp⟩
 · rintro⟨y,hy,h⟩
   have h2:y.toList=x.toList:=by simpa using h
   rw[Lib.toList_data,Lib.toList_data]at h2
   have:y=x:=by cases y;cases x;congr 1;exact Array.toList_inj.1 h2
   exact this▸hy
theorem contains_any (v:Value) (l:List ByteArray) (x:ByteArray) (w:World) (hv:StrsR w v l):
  Calls Tryz.prog 185 #[v,.string x] w fun e w'=>e= .returned (.bool (inB l x))∧Fr w w':=by
 obtain⟨ao,b,o,cap,rfl,hc,hm,hf⟩:=hv.one
 rcases Nat.eq_zero_or_pos l.length with h0|h0
 · have hl:l=[]:=List.eq_nil_of_length_eq_zero h0
   subst hl
   refine(sh_slices_Contains_string_empty ao cap x w).mono ?_
   rintro e w' ⟨rfl,rfl⟩
   exact⟨rfl,Fr.refl _⟩
 · obtain⟨rfl,hb,hf⟩:=hf h0
   refine(sh_slices_Contains_string b o l.length cap l x w (Nat.le_refl _) (by omega) hf).mono ?_
   rintro e w' ⟨rfl,rfl⟩
   exact⟨by rw[List.take_length,contains_inB],Fr.refl _⟩
def dstK (l:List ByteArray) (k:Nat):Bool:=(List.range k).all fun j=>!inB (l.take j) (sAt l j)
theorem dstK_no {l:List ByteArray} {k n:Nat} (hk:k<n) (h:inB (l.take k) (sAt l k)=true):dstK l n=false:=by
 unfold dstK
 rw[List.all_eq_false]
 exact⟨k,List.mem_range.2 hk,by rw[h];simp⟩
theorem dstK_step {l:List ByteArray} {k:Nat} (h:inB (l.take k) (sAt l k)=false) (h0:dstK l k=true):dstK l (k+1)=true:=by
 unfold dstK at*
 rw[List.range_succ,List.all_append,h0]
 simp[h]
theorem StrsR.pre {w:World} {b o cap k:Nat} {l:List ByteArray} (h:StrsR w (.slice (some ⟨b,o,none⟩) l.length cap) l) (hk:k≤l.length):StrsR w (.slice (some ⟨b,o,none⟩) k cap) (l.take k):=by
 have hl:(l.take k).length=k:=by simp;omega
 unfold StrsR at*
 rw[hl]
 obtain⟨h1,ao,c,hv,h2,h3,h4⟩:=h
 cases hv
 refine⟨by simp;omega,_,_,rfl,by omega,h3,fun hp=>?_⟩
 obtain⟨b',o',e,hb,hc⟩:=h4 (by omega)
 cases e
 refine⟨_,_,rfl,hb,fun j hj=>?_⟩
 rw[hc j (by omega),List.map_take,List.getElem?_take,if_pos (by omega)]
set_option maxHeartbeats 2000000 in
theorem areDistinct_any (u:Value) (s:List ByteArray) (w:World) (hu:StrsR w u s):
  Calls Tryz.prog 138 #[u] w fun e w'=>e= .returned (.bool (dstK s s.length))∧Fr w w':=by
 obtain⟨ao,b,o,cap,rfl,hc,hm,hf⟩:=hu.one
 have HF:=Lib.hid hf
 have HU:=Lib.hid hu
 clear hf hu
 go_enter Tryz.func138,Tryz.ntmps138
 go_wp2_with fail
 go_loopw [7] (fun i wr=> ∃ k:Nat,k≤s.length∧i= .int .i64 k∧Hid (dstK s k=true)∧Fr w wr) (fun i _=>s.length-(intOf i).toNat)
 case atStart=>exact⟨0,Nat.zero_le _,rfl,Lib.hid rfl,Fr.refl _⟩
 case round=>
  obtain⟨k,hk,rfl,HL,hfr⟩:=hrel
  by_cases hlt:k<s.length
  · obtain⟨rfl,hb,hf⟩:=HF.out (by omega)
    have hcell:=(hfr.cell (p:=⟨b,_,none⟩) hb).trans (hf k hlt)
    obtain⟨x,hx⟩: ∃ x,sAt s k=x:=⟨_,rfl⟩
    rw[hx]at hcell
    have HX:=Lib.hid hx
    have hkc:k≤cap:=by omega
    clear hf hx
    go_wp2_with fail
    refine(contains_any _ (s.take k) x _ ((HU.out.fr hfr).pre hk)).mono ?_
    rintro e w1 ⟨rfl,hf1⟩
    cases h1:inB (s.take k) x
    · have HS:=Lib.hid (dstK_step (by rw[HX.out];exact h1) HL.out)
      clear h1
      go_wp2_with fail
      go_roundw
      case rel=>exact⟨k+1,by omega,by go_num,HS,by exact Qf⟩
      case measure=>(simp[intOf];omega)
    · have HS:=Lib.hid (dstK_no hlt (by rw[HX.out];exact h1))
      clear h1
      go_wp2_with fail
      go_ret
      exact⟨ret_bool (by rw[HS.out]),by exact Qf⟩
  · obtain rfl:k=s.length:=by omega
    go_wp2_with fail
    go_ret
    exact⟨ret_bool (by rw[HL.out]),by exact Qf⟩
def allIn (l s:List ByteArray):Bool:=s.all (inB l)
theorem allIn_no {l s:List ByteArray} {k:Nat} (hk:k<s.length) (h:inB l (sAt s k)=false):allIn l s=false:=by
 unfold allIn
 rw[List.all_eq_false]
 refine⟨s[k],List.getElem_mem hk,?_⟩
 rw[show sAt s k=s[k] by simp[sAt,List.getD,List.getElem?_eq_getElem hk]]at h
 rw[h];simp
theorem allIn_step {l s:List ByteArray} {k:Nat} (hk:k<s.length) (h:inB l (sAt s k)=true) (h0:allIn l (s.take k)=true):allIn l (s.take (k+1))=true:=by
 unfold allIn at*
 rw[List.take_succ_eq_append_getElem hk,List.all_append,h0]
 rw[show sAt s k=s[k] by simp[sAt,List.getD,List.getElem?_eq_getElem hk]]at h
 simp[h]
set_option maxHeartbeats 2000000 in
theorem containsAll_any (v u:Value) (l s:List ByteArray) (w:World) (hv:StrsR w v l) (hu:StrsR w u s):
  Calls Tryz.prog 139 #[v,u] w fun e w'=>e= .returned (.bool (allIn l s))∧Fr w w':=by
 obtain⟨al,bl,ol,cl,rfl,_,_,_⟩:=hv.one
 obtain⟨ao,b,o,cap,rfl,hc,hm,hf⟩:=hu.one
 have HF:=Lib.hid hf
 have HV:=Lib.hid hv
 clear hf hu hv
 go_enter Tryz.func139,Tryz.ntmps139
 go_wp2_with fail
 go_loopw [9] (fun i wr=> ∃ k:Nat,k≤s.length∧i= .int .i64 k∧Hid (allIn l (s.take k)=true)∧Fr w wr) (fun i _=>s.length-(intOf i).toNat)
 case atStart=>exact⟨0,Nat.zero_le _,rfl,Lib.hid rfl,Fr.refl _⟩
 case round=>
  obtain⟨k,hk,rfl,HL,hfr⟩:=hrel
  by_cases hlt:k<s.length
  · obtain⟨rfl,hb,hf⟩:=HF.out (by omega)
    have hcell:=(hfr.cell (p:=⟨b,_,none⟩) hb).trans (hf k hlt)
    obtain⟨x,hx⟩: ∃ x,sAt s k=x:=⟨_,rfl⟩
    rw[hx]at hcell
    have HX:=Lib.hid hx
    clear hf hx
    go_wp2_with fail
    refine(contains_any _ l x _ (HV.out.fr hfr)).mono ?_
    rintro e w1 ⟨rfl,hf1⟩
    cases h1:inB l x
    · have HS:=Lib.hid (allIn_no hlt (by rw[HX.out];exact h1))
      clear h1
      go_wp2_with fail
      go_ret
      exact⟨ret_bool (by rw[HS.out]),by exact Qf⟩
    · have HS:=Lib.hid (allIn_step hlt (by rw[HX.out];exact h1) HL.out)
      clear h1
      go_wp2_with fail
      go_roundw
      case rel=>exact⟨k+1,by omega,by go_num,HS,by exact Qf⟩
      case measure=>(simp[intOf];omega)
  · obtain rfl:k=s.length:=by omega
    have HN:Hid (allIn l s=true):=Lib.hid (by have:=HL.out;rwa [List.take_length]at this)
    go_wp2_with fail
    go_ret
    exact⟨ret_bool (by rw[HN.out]),by exact Qf⟩
def filB (ns:List ByteArray) (a:ByteArray) (op:Int) (b:ByteArray) (n:Int):Bool:=inB ns a&&(decide (op=1∨op=2)&&if(b.toList==[])=true then decide (0≤n∧n≤99)else decide (n=0)&&inB ns b)
theorem isOp_any (op:Int) (w:World):
  Calls Tryz.prog 186 #[.int .i64 op] w fun e w'=>e= .returned (.bool (decide (op=1∨op=2)))∧Fr w w':=by
 go_enter Tryz.func186,Tryz.ntmps186
 go_wp2
 all_goals go_ret
 all_goals exact⟨ret_bool (by rw[Bool.eq_iff_iff];simp<;>omega),by exact Qf⟩
set_option maxHeartbeats 2000000 in
theorem filterOk_any (v:Value) (ns:List ByteArray) (a b:ByteArray) (op n:Int) (w:World) (hv:StrsR w v ns):
  Calls Tryz.prog 140 #[.agg #[.string a,.int .i64 op,.string b,.int .i64 n],v] w fun e w'=>e= .returned (.bool (filB ns a op b n))∧Fr w w':=by
 obtain⟨al,bl,ol,cl,rfl,hc1,hc2,hc3⟩:=hv.one
 have HV:=Lib.hid hv
 clear hv hc3
 obtain⟨be,hbe⟩: ∃ be,(b.toList==[])=be:=⟨_,rfl⟩
 have HQ:Hid (filB ns a op b n=(inB ns a&&(decide (op=1∨op=2)&&if be=true then decide (0≤n∧n≤99)else decide (n=0)&&inB ns b))):=Lib.hid (by unfold filB;rw[hbe])
 go_enter Tryz.func140,Tryz.ntmps140
 go_wp2_with fail
 refine(contains_any _ ns a _ (HV.out.fr (by exact Qf))).mono ?_
 rintro e w1 ⟨rfl,hf1⟩
 have B1:Box w1 w.heap.size #[.string a,.int .i64 op,.string b,.int .i64 n] 187:=Box.fr (Box.new _ _ _) hf1
 have F1:=B1.facts
 cases h1:inB ns a
 · have H1:=Lib.hid h1
   clear h1
   go_wp2_with fail
   go_ret
   exact⟨ret_bool (by rw[HQ.out,H1.out];rfl),by exact Qf⟩
 · have H1:=Lib.hid h1
   clear h1
   go_wp2_with fail
   refine(isOp_any op _).mono ?_
   rintro e w2 ⟨rfl,hf2⟩
   have B2:=B1.fr hf2
   have F2:=B2.facts
   obtain⟨oo,hoo⟩: ∃ oo,decide (op=1∨op=2)=oo:=⟨_,rfl⟩
   rw[hoo]
   have H2:=Lib.hid hoo
   clear hoo
   cases oo
   · go_wp2_with fail
     go_ret
     exact⟨ret_bool (by rw[HQ.out,H1.out,H2.out];rfl),by exact Qf⟩
   · cases be
     · by_cases h0:n=0
       · subst h0
         go_wp2_with fail
         refine(contains_any _ ns b _ (HV.out.fr (by exact Qf))).mono ?_
         rintro e w3 ⟨rfl,hf3⟩
         go_wp2_with fail
         go_ret
         exact⟨ret_bool (by rw[HQ.out,H1.out,H2.out];simp),by exact Qf⟩
       · have g0:decide (n=0)=false:=by simp[h0]
         have g1:(n==0)=false:=by simp[h0]
         go_wp2_with fail
         go_ret
         exact⟨ret_bool (by rw[HQ.out,H1.out,H2.out];simp[h0]),by exact Qf⟩
     · go_wp2_with fail
       all_goals go_ret
       all_goals exact⟨ret_bool (by rw[HQ.out,H1.out,H2.out,Bool.eq_iff_iff];simp<;>omega),by exact Qf⟩
def addN (l:List ByteArray) (s:ByteArray):List ByteArray:=if inB l s=true then l else l++[s]
def nmK (xs:List AtomR):Nat→List ByteArray
 |0=>[]
 |k+1=>addN (addN (nmK xs k) (atomAt xs k).f0) (atomAt xs k).f2
theorem addN_len (l:List ByteArray) (s:ByteArray):(addN l s).length≤l.length+1:=by unfold addN;split<;>simp
theorem nmK_len (xs:List AtomR): ∀ k,(nmK xs k).length≤2*k
 |0=>by simp[nmK]
 |k+1=>by
  rw[nmK]
  have:=nmK_len xs k
  have h1:=addN_len (nmK xs k) (atomAt xs k).f0
  have h2:=addN_len (addN (nmK xs k) (atomAt xs k).f0) (atomAt xs k).f2
  omega
theorem addN_yes {l:List ByteArray} {s:ByteArray} (h:inB l s=true):addN l s=l:=if_pos h
theorem addN_no {l:List ByteArray} {s:ByteArray} (h:inB l s=false):addN l s=l++[s]:=if_neg (by rw[h];simp)
set_option maxHeartbeats 2000000 in
theorem specNamesOf_any (q:Bool) (ao af:Option Addr) (no co nf cf:Nat) (va:Value) (xs:List AtomR) (w:World) (hv:AtomsR w va xs) (hn:xs.length≤1000):
  Calls Tryz.prog 146 #[.agg #[.bool q,.slice ao no co,va,.slice af nf cf]] w fun e w'=> ∃ v,e= .returned v∧StrsO w' w.heap.size v (nmK xs xs.length)∧Fr w w':=by
 obtain⟨ax,bx,ox,cx,rfl,hcx,hmx,hfx⟩:=hv.one
 have HF:=Lib.hid hfx
 obtain⟨i0,hi,hz0,hz1,hz2⟩:=info_parts info_string
 clear hv hfx
 go_enter Tryz.func146,Tryz.ntmps146
 go_wp2_with fail
 go_loopw [3,4] (fun o i wr=> ∃ (k c:Nat) (a:Option Addr) (l:List ByteArray),k≤xs.length∧i= .int .i64 k∧o= .slice a l.length c∧Hid (l=nmK xs k)∧Hid (StrsO wr (w.heap.size+1) (.slice a l.length c) l)∧Box wr w.heap.size #[.bool q,.slice ao no co,.slice ax xs.length cx,.slice af nf cf] 31∧Fr w wr) (fun _ i _=>xs.length-(intOf i).toNat)
 case atStart=>exact⟨0,0,some ⟨w.heap.size+1,0,none⟩,[],Nat.zero_le _,rfl,rfl,Lib.hid rfl,Lib.hid (made_empty (by simp) (Nat.le_refl _)),(Box.new _ _ _).alloc _,by exact Qf⟩
 case round=>
  obtain⟨k,c,a,l,hk,rfl,rfl,HE,HO,hB,hfr⟩:=hrel
  have FB:=hB.facts
  by_cases hlt:k<xs.length
  · obtain⟨rfl,hb,hf⟩:=HF.out (by omega)
    obtain⟨g0,g1,g2⟩:=hf k hlt
    obtain⟨x,hx⟩: ∃ x,atomAt xs k=x:=⟨_,rfl⟩
    rw[hx]at g0 g1 g2
    obtain⟨x0,x1,x2⟩:=x
    simp only[]at g0 g2
    have q0:=(hfr.cell (p:=⟨bx,_,none⟩) hb).trans g0
    have q2:=(hfr.cell (p:=⟨bx,_,none⟩) hb).trans g2
    have HX:=Lib.hid hx
    clear hf g1 hx
    have Q0:Hid (∀ W,Fr w W→W.cell? ⟨bx,ox+k*3,none⟩=some (.string x0)):=Lib.hid fun W h=>(h.cell (p:=⟨bx,_,none⟩) hb).trans g0
    have Q2:Hid (∀ W,Fr w W→W.cell? ⟨bx,ox+k*3+2,none⟩=some (.string x2)):=Lib.hid fun W h=>(h.cell (p:=⟨bx,_,none⟩) hb).trans g2
    have hll:=nmK_len xs k
    rw[← HE.out]at hll
    clear g0 g2
    go_wp2_with fail
    refine(l08In_any _ l x0 _ HO.out.rd).mono ?_
    rintro e w1 ⟨rfl,hf1⟩
    have B1:=hB.fr hf1
    have F1:=B1.facts
    have fr1:Fr w w1:=hfr.trans hf1
    have r0:=Q0.out _ fr1
    have r2:=Q2.out _ fr1
    have HO1:=Lib.hid (StrsO.fr HO.out hf1)
    cases h1:inB l x0
    · have HA:Hid (l++[x0]=addN (nmK xs k) x0):=Lib.hid (by rw[← HE.out,addN_no h1])
      clear h1
      go_wp2_with(at_builtin;refine wpList_append_rd rfl _ _ 27 rfl (w.heap.size+1) 9 i0 (.string ⟨#[]⟩) 1 16 Tryz.underlying27 hi hz0 hz1 hz2 rfl (by decide) (.slice a l.length c) l.length (l.map Value.string) rfl (World.ownsRow.alloc HO1.out _) _ 1 [.string x0] rfl (RdS.new (by first|rfl|(simp;done)) rfl) (by simp[Value.oneCell']) (by unfold maxLen;omega) (by omega) (by exact Qz) ?_;intro a2 c2 w2 hown hgrow hat;have B2:Box w2 w.heap.size #[.bool q,.slice ao no co,.slice (some ⟨bx,ox,none⟩) xs.length cx,.slice af nf cf] 31:=Box.gr (B1.alloc _) hgrow (fun e=>by have:=(World.ownsRow.lt HO1.out _ e).1;omega);have F2:=B2.facts;have fr2:Fr w w2:=append_fr fr1 (owns_lo HO1.out (by omega)) hgrow;have s0:=Q0.out _ fr2;have s2:=Q2.out _ fr2)
      obtain⟨M,hM⟩: ∃ M,l++[x0]=M:=⟨_,rfl⟩
      have hML:l.length+1=M.length:=by rw[← hM];simp
      have HO2:Hid (StrsO w2 (w.heap.size+1) (.slice a2 M.length c2) M):=Lib.hid (by unfold StrsO;rw[← hML, ← hM];simpa using hown)
      rw[hM]at HA
      rw[hML]
      have hml:M.length≤3000:=by omega
      have HML:=Lib.hid hML
      clear hML hM hown hgrow hat
      refine(l08In_any _ M x2 _ (HO2).out.rd).mono ?_
      rintro e w5 ⟨rfl,hf5⟩
      have B5:=(B2).fr hf5
      have F5:=B5.facts
      have fr5:Fr w w5:=(fr2).trans hf5
      have p0:=Q0.out _ fr5
      have p2:=Q2.out _ fr5
      have HO5:=Lib.hid (StrsO.fr (HO2).out hf5)
      cases h2:inB M x2
      · have HH:Hid (M++[x2]=nmK xs (k+1)):=Lib.hid (by rw[nmK,HX.out, ← (HA).out,addN_no h2])
        have HLN:=Lib.hid (show(M++[x2]).length=M.length+1 by simp)
        clear h2
        go_wp2_with(at_builtin;refine wpList_append_rd rfl _ _ 27 rfl (w.heap.size+1) 9 i0 (.string ⟨#[]⟩) 1 16 Tryz.underlying27 hi hz0 hz1 hz2 rfl (by decide) (.slice a2 M.length c2) M.length (M.map Value.string) rfl (World.ownsRow.alloc HO5.out _) _ 1 [.string x2] rfl (RdS.new (by first|rfl|(simp;done)) rfl) (by simp[Value.oneCell']) (by unfold maxLen;omega) (by omega) (by exact Qz) ?_;intro a6 c6 w6 hown6 hgrow6 hat6;have B6:Box w6 w.heap.size #[.bool q,.slice ao no co,.slice (some ⟨bx,ox,none⟩) xs.length cx,.slice af nf cf] 31:=Box.gr (B5.alloc _) hgrow6 (fun e=>by have:=(World.ownsRow.lt HO5.out _ e).1;omega);have fr6:Fr w w6:=append_fr fr5 (owns_lo HO5.out (by omega)) hgrow6)
        have HO6:Hid (StrsO w6 (w.heap.size+1) (.slice a6 (M++[x2]).length c6) (M++[x2])):=Lib.hid (by unfold StrsO;rw[HLN.out];simpa using hown6)
        rw[← HLN.out]
        go_roundw
        case rel=>exact⟨k+1,c6,a6,M++[x2],by omega,by go_num,rfl,HH,HO6,B6,fr6⟩
        case measure=>(simp[intOf];omega)
      · have HH:Hid (M=nmK xs (k+1)):=Lib.hid (by rw[nmK,HX.out, ← (HA).out,addN_yes h2])
        clear h2
        go_wp2_with fail
        go_roundw
        case rel=>exact⟨k+1,c2,a2,M,by omega,by go_num,rfl,HH,HO5,B5,fr5⟩
        case measure=>(simp[intOf];omega)
    · have HA:Hid (l=addN (nmK xs k) x0):=Lib.hid (by rw[← HE.out,addN_yes h1])
      clear h1
      go_wp2_with fail
      refine(l08In_any _ l x2 _ (HO1).out.rd).mono ?_
      rintro e w5 ⟨rfl,hf5⟩
      have B5:=(B1).fr hf5
      have F5:=B5.facts
      have fr5:Fr w w5:=(fr1).trans hf5
      have p0:=Q0.out _ fr5
      have p2:=Q2.out _ fr5
      have HO5:=Lib.hid (StrsO.fr (HO1).out hf5)
      cases h2:inB l x2
      · have HH:Hid (l++[x2]=nmK xs (k+1)):=Lib.hid (by rw[nmK,HX.out, ← (HA).out,addN_no h2])
        have HLN:=Lib.hid (show(l++[x2]).length=l.length+1 by simp)
        clear h2
        go_wp2_with(at_builtin;refine wpList_append_rd rfl _ _ 27 rfl (w.heap.size+1) 9 i0 (.string ⟨#[]⟩) 1 16 Tryz.underlying27 hi hz0 hz1 hz2 rfl (by decide) (.slice a l.length c) l.length (l.map Value.string) rfl (World.ownsRow.alloc HO5.out _) _ 1 [.string x2] rfl (RdS.new (by first|rfl|(simp;done)) rfl) (by simp[Value.oneCell']) (by unfold maxLen;omega) (by omega) (by exact Qz) ?_;intro a6 c6 w6 hown6 hgrow6 hat6;have B6:Box w6 w.heap.size #[.bool q,.slice ao no co,.slice (some ⟨bx,ox,none⟩) xs.length cx,.slice af nf cf] 31:=Box.gr (B5.alloc _) hgrow6 (fun e=>by have:=(World.ownsRow.lt HO5.out _ e).1;omega);have fr6:Fr w w6:=append_fr fr5 (owns_lo HO5.out (by omega)) hgrow6)
        have HO6:Hid (StrsO w6 (w.heap.size+1) (.slice a6 (l++[x2]).length c6) (l++[x2])):=Lib.hid (by unfold StrsO;rw[HLN.out];simpa using hown6)
        rw[← HLN.out]
        go_roundw
        case rel=>exact⟨k+1,c6,a6,l++[x2],by omega,by go_num,rfl,HH,HO6,B6,fr6⟩
        case measure=>(simp[intOf];omega)
      · have HH:Hid (l=nmK xs (k+1)):=Lib.hid (by rw[nmK,HX.out, ← (HA).out,addN_yes h2])
        clear h2
        go_wp2_with fail
        go_roundw
        case rel=>exact⟨k+1,c,a,l,by omega,by go_num,rfl,HH,HO5,B5,fr5⟩
        case measure=>(simp[intOf];omega)
  · obtain rfl:k=xs.length:=by omega
    go_wp2_with fail
    refine bodyPost_ret (v:= .slice a l.length c) (by simp[results,Tryz.results146,go_sem, *]) rfl ⟨_,rfl,?_,hfr⟩
    rw[← HE.out]
    exact owns_lo HO.out (by omega)
def nmI (l:List ByteArray) (x y:ByteArray):Nat→List ByteArray
 |0=>l
 |1=>addN l x
 |_+2=>addN (addN l x) y
theorem nmI_len (l:List ByteArray) (x y:ByteArray) (t:Nat):(nmI l x y t).length≤l.length+2:=by
 have h1:=addN_len l x
 have h2:=addN_len (addN l x) y
 unfold nmI
 split<;>omega
set_option maxHeartbeats 2000000 in
theorem implNamesOf_any (q:Bool) (ao af:Option Addr) (no co nf cf:Nat) (va:Value) (xs:List AtomR) (w:World) (hv:AtomsR w va xs) (hn:xs.length≤1000):
  Calls Tryz.prog 137 #[.agg #[.bool q,.slice ao no co,va,.slice af nf cf]] w fun e w'=> ∃ v,e= .returned v∧StrsO w' w.heap.size v (nmK xs xs.length)∧Fr w w':=by
 obtain⟨ax,bx,ox,cx,rfl,hcx,hmx,hfx⟩:=hv.one
 have HF:=Lib.hid hfx
 obtain⟨i0,hi,hz0,hz1,hz2⟩:=info_parts info_string
 clear hv hfx
 go_enter Tryz.func137,Tryz.ntmps137
 go_wp2_with fail
 go_loopw [3,11] (fun o i wr=> ∃ (k c:Nat) (a:Option Addr) (l:List ByteArray),k≤xs.length∧i= .int .i64 k∧o= .slice a l.length c∧Hid (l=nmK xs k)∧Hid (StrsO wr (w.heap.size+1) (.slice a l.length c) l)∧Box wr w.heap.size #[.bool q,.slice ao no co,.slice ax xs.length cx,.slice af nf cf] 31∧Fr w wr) (fun _ i _=>xs.length-(intOf i).toNat)
 case atStart=>exact⟨0,0,none,[],Nat.zero_le _,rfl,rfl,Lib.hid rfl,Lib.hid (World.ownsRow_nil _ _ _ _),Box.new _ _ _,by exact Qf⟩
 case round=>
  obtain⟨k,c,a,l,hk,rfl,rfl,HE,HO,hB,hfr⟩:=hrel
  have FB:=hB.facts
  by_cases hlt:k<xs.length
  · obtain⟨rfl,hb,hf⟩:=HF.out (by omega)
    obtain⟨g0,g1,g2⟩:=hf k hlt
    obtain⟨x,hx⟩: ∃ x,atomAt xs k=x:=⟨_,rfl⟩
    rw[hx]at g0 g1 g2
    obtain⟨x0,x1,x2⟩:=x
    simp only[]at g0 g1 g2
    have q0:=(hfr.cell (p:=⟨bx,_,none⟩) hb).trans g0
    have q1:=(hfr.cell (p:=⟨bx,_,none⟩) hb).trans g1
    have q2:=(hfr.cell (p:=⟨bx,_,none⟩) hb).trans g2
    have HX:=Lib.hid hx
    have hll:=nmK_len xs k
    have zr:=hfr.size
    have HNG0:Hid ((Value.slice a l.length c).ownBlock≠some (wr.heap.size+1)):=Lib.hid (fun e=>by have:=owns_old HO.out _ e;omega)
    clear hf g0 g1 g2 hx
    go_wp2_with fail
    go_loopw [3,21] (fun o i w'=> ∃ (t c:Nat) (a:Option Addr) (l:List ByteArray),t≤2∧i= .int .i64 t∧o= .slice a l.length c∧Hid (l=nmI (nmK xs k) x0 x2 t)∧Hid (StrsO w' (w.heap.size+1) (.slice a l.length c) l)∧Hid ((Value.slice a l.length c).ownBlock≠some (wr.heap.size+1))∧Box w' w.heap.size #[.bool q,.slice ao no co,.slice (some ⟨bx,ox,none⟩) xs.length cx,.slice af nf cf] 31∧Box w' (wr.heap.size+1) #[.string x0,.string x2] 9∧Fr w w') (fun _ i _=>2-(intOf i).toNat)
    case atStart=>exact⟨0,c,a,l,by omega,rfl,rfl,HE,Lib.hid (StrsO.fr HO.out (by exact Qf)),HNG0,(hB.alloc _).alloc _,Box.new' (by simp),by exact Qf⟩
    case round=>
     clear HE HO HNG0 hB FB
     obtain⟨t,c,a,l,ht,rfl,rfl,HE2,HO,HNG,hB,hG,hfr⟩:=hrel
     have FB:=hB.facts
     have FG:=hG.facts
     have hml:=nmI_len (nmK xs k) x0 x2 t
     rw[← HE2.out]at hml
     by_cases t0:t=0
     · subst t0
       go_wp2_with fail
       refine(contains_any _ l x0 _ (StrsO.fr HO.out (by exact Qf)).rd).mono ?_
       rintro e w5 ⟨rfl,hf5⟩
       have B5:=hB.fr hf5
       have G5:=hG.fr hf5
       have F5:=B5.facts
       have fr5:Fr w w5:=hfr.trans hf5
       have HO5:=Lib.hid (StrsO.fr HO.out hf5)
       cases h2:inB l x0
       · have HH:Hid (l++[x0]=nmI (nmK xs k) x0 x2 1):=Lib.hid (by rw[show nmI (nmK xs k) x0 x2 1=addN (nmI (nmK xs k) x0 x2 0) x0 from rfl, ← HE2.out,addN_no h2])
         have HLN:=Lib.hid (show(l++[x0]).length=l.length+1 by simp)
         clear h2
         go_wp2_with(at_builtin;refine wpList_append_rd rfl _ _ 27 rfl (w.heap.size+1) 9 i0 (.string ⟨#[]⟩) 1 16 Tryz.underlying27 hi hz0 hz1 hz2 rfl (by decide) (.slice a l.length c) l.length (l.map Value.string) rfl (World.ownsRow.alloc HO5.out _) _ 1 [.string x0] rfl (RdS.new (by first|rfl|(simp;done)) rfl) (by simp[Value.oneCell']) (by unfold maxLen;omega) (by omega) (by exact Qz) ?_;intro a6 c6 w6 hown6 hgrow6 hat6;have B6:Box w6 w.heap.size #[.bool q,.slice ao no co,.slice (some ⟨bx,ox,none⟩) xs.length cx,.slice af nf cf] 31:=Box.gr (B5.alloc _) hgrow6 (fun e=>by have:=(World.ownsRow.lt HO5.out _ e).1;omega);have fr6:Fr w w6:=append_fr fr5 (owns_lo HO5.out (by omega)) hgrow6;have G6:=Box.gr (G5.alloc _) hgrow6 (fun e=>HNG.out e))
         have HO6:Hid (StrsO w6 (w.heap.size+1) (.slice a6 (l++[x0]).length c6) (l++[x0])):=Lib.hid (by unfold StrsO;rw[HLN.out];simpa using hown6)
         have HN6:Hid ((Value.slice a6 (l++[x0]).length c6).ownBlock≠some _):=Lib.hid (by rw[HLN.out];exact(Mvd.of_app (n:=w5.heap.size) hat6 (by exact Qz)).ne (fun e=>HNG.out e) G5.lt)
         rw[← HLN.out]
         go_roundw
         case rel=>exact⟨1,c6,a6,l++[x0],by omega,by go_num,rfl,HH,HO6,HN6,B6,G6,fr6⟩
         case measure=>first|(simp[intOf];done)|((simp[intOf];omega))
       · have HH:Hid (l=nmI (nmK xs k) x0 x2 1):=Lib.hid (by rw[show nmI (nmK xs k) x0 x2 1=addN (nmI (nmK xs k) x0 x2 0) x0 from rfl, ← HE2.out,addN_yes h2])
         clear h2
         go_wp2_with fail
         go_roundw
         case rel=>exact⟨1,c,a,l,by omega,by go_num,rfl,HH,HO5,HNG,B5,G5,fr5⟩
         case measure=>first|(simp[intOf];done)|((simp[intOf];omega))
     · by_cases t1:t=1
       · subst t1
         go_wp2_with fail
         refine(contains_any _ l x2 _ (StrsO.fr HO.out (by exact Qf)).rd).mono ?_
         rintro e w5 ⟨rfl,hf5⟩
         have B5:=hB.fr hf5
         have G5:=hG.fr hf5
         have F5:=B5.facts
         have fr5:Fr w w5:=hfr.trans hf5
         have HO5:=Lib.hid (StrsO.fr HO.out hf5)
         cases h2:inB l x2
         · have HH:Hid (l++[x2]=nmI (nmK xs k) x0 x2 2):=Lib.hid (by rw[show nmI (nmK xs k) x0 x2 2=addN (nmI (nmK xs k) x0 x2 1) x2 from rfl, ← HE2.out,addN_no h2])
           have HLN:=Lib.hid (show(l++[x2]).length=l.length+1 by simp)
           clear h2
           go_wp2_with(at_builtin;refine wpList_append_rd rfl _ _ 27 rfl (w.heap.size+1) 9 i0 (.string ⟨#[]⟩) 1 16 Tryz.underlying27 hi hz0 hz1 hz2 rfl (by decide) (.slice a l.length c) l.length (l.map Value.string) rfl (World.ownsRow.alloc HO5.out _) _ 1 [.string x2] rfl (RdS.new (by first|rfl|(simp;done)) rfl) (by simp[Value.oneCell']) (by unfold maxLen;omega) (by omega) (by exact Qz) ?_;intro a6 c6 w6 hown6 hgrow6 hat6;have B6:Box w6 w.heap.size #[.bool q,.slice ao no co,.slice (some ⟨bx,ox,none⟩) xs.length cx,.slice af nf cf] 31:=Box.gr (B5.alloc _) hgrow6 (fun e=>by have:=(World.ownsRow.lt HO5.out _ e).1;omega);have fr6:Fr w w6:=append_fr fr5 (owns_lo HO5.out (by omega)) hgrow6;have G6:=Box.gr (G5.alloc _) hgrow6 (fun e=>HNG.out e))
           have HO6:Hid (StrsO w6 (w.heap.size+1) (.slice a6 (l++[x2]).length c6) (l++[x2])):=Lib.hid (by unfold StrsO;rw[HLN.out];simpa using hown6)
           have HN6:Hid ((Value.slice a6 (l++[x2]).length c6).ownBlock≠some _):=Lib.hid (by rw[HLN.out];exact(Mvd.of_app (n:=w5.heap.size) hat6 (by exact Qz)).ne (fun e=>HNG.out e) G5.lt)
           rw[← HLN.out]
           go_roundw
           case rel=>exact⟨2,c6,a6,l++[x2],by omega,by go_num,rfl,HH,HO6,HN6,B6,G6,fr6⟩
           case measure=>first|(simp[intOf];done)|((simp[intOf];omega))
         · have HH:Hid (l=nmI (nmK xs k) x0 x2 2):=Lib.hid (by rw[show nmI (nmK xs k) x0 x2 2=addN (nmI (nmK xs k) x0 x2 1) x2 from rfl, ← HE2.out,addN_yes h2])
           clear h2
           go_wp2_with fail
           go_roundw
           case rel=>exact⟨2,c,a,l,by omega,by go_num,rfl,HH,HO5,HNG,B5,G5,fr5⟩
           case measure=>first|(simp[intOf];done)|((simp[intOf];omega))
       · obtain rfl:t=2:=by omega
         have HE3:Hid (l=nmK xs (k+1)):=Lib.hid (by rw[HE2.out,nmK,HX.out];rfl)
         go_wp2_with fail
         go_roundw
         case rel=>exact⟨k+1,c,a,l,by omega,by go_num,rfl,HE3,HO,hB,hfr⟩
         case measure=>first|(simp[intOf];done)|((simp[intOf];omega))
  · obtain rfl:k=xs.length:=by omega
    go_wp2_with fail
    refine bodyPost_ret (v:= .slice a l.length c) (by simp[results,Tryz.results137,go_sem, *]) rfl ⟨_,rfl,?_,hfr⟩
    rw[← HE.out]
    exact owns_lo HO.out (by omega)
def atK (xs:List AtomR) (k:Nat):Bool:=(List.range k).all fun j=>atomB (atomAt xs j).f0 (atomAt xs j).f1 (atomAt xs j).f2
def fiK (ns:List ByteArray) (fs:List FilterR) (k:Nat):Bool:=(List.range k).all fun j=>filB ns (filterAt fs j).f0 (filterAt fs j).f1 (filterAt fs j).f2 (filterAt fs j).f3
def qryB (out:List ByteArray) (xs:List AtomR) (fs:List FilterR):Bool:=
 (decide (1≤xs.length∧xs.length≤4)&&decide (fs.length≤3))&&(atK xs xs.length&&((decide ((nmK xs xs.length).length≤4)&&decide (1≤out.length∧out.length≤4))&&((dstK out out.length&&allIn (nmK xs xs.length) out)&&fiK (nmK xs xs.length) fs fs.length)))
theorem all_no {p:Nat→Bool} {k n:Nat} (hk:k<n) (h:p k=false):(List.range n).all p=false:=by
 rw[List.all_eq_false]
 exact⟨k,List.mem_range.2 hk,by rw[h];simp⟩
theorem all_step {p:Nat→Bool} {k:Nat} (h:p k=true) (h0:(List.range k).all p=true):(List.range (k+1)).all p=true:=by
 rw[List.range_succ,List.all_append,h0]
 simp[h]
set_option maxHeartbeats 4000000 in
theorem implQueryOk_any (q:Bool) (vo va vf:Value) (out:List ByteArray) (xs:List AtomR) (fs:List FilterR) (w:World) (ho:StrsR w vo out) (ha:AtomsR w va xs) (hf:FiltersR w vf fs) (hsz: ∀ k,k<xs.length→(atomAt xs k).f0.size≤1048576∧(atomAt xs k).f1.size≤1048576∧(atomAt xs k).f2.size≤1048576):
  Calls Tryz.prog 63 #[.agg #[.bool q,vo,va,vf]] w fun e w'=>e= .returned (.bool (qryB out xs fs))∧Fr w w':=by
 obtain⟨ao,bo,oo,co,rfl,hco,hmo,ko⟩:=ho.one
 obtain⟨ax,bx,ox,cx,rfl,hcx,hmx,kx⟩:=ha.one
 obtain⟨af,bf,of,cf,rfl,hcf,hmf,kf⟩:=hf.one
 have KX:=Lib.hid kx;have KF:=Lib.hid kf;have HO:=Lib.hid ho;have HA:=Lib.hid ha;have HF:=Lib.hid hf;have HSZ:=Lib.hid hsz
 clear ko kx kf ho ha hf hsz
 by_cases h1:1≤xs.length∧xs.length≤4
 · obtain⟨h1a,h1b⟩:=h1
   by_cases h2:fs.length≤3
   · have HQ:Hid (qryB out xs fs=(atK xs xs.length&&((decide ((nmK xs xs.length).length≤4)&&decide (1≤out.length∧out.length≤4))&&((dstK out out.length&&allIn (nmK xs xs.length) out)&&fiK (nmK xs xs.length) fs fs.length)))):=Lib.hid (by unfold qryB;rw[decide_eq_true (⟨h1a,h1b⟩:1≤xs.length∧xs.length≤4),decide_eq_true h2,Bool.true_and,Bool.true_and])
     go_enter Tryz.func63,Tryz.ntmps63
     go_wp2_with fail
     go_loopw [27] (fun i wr=> ∃ k:Nat,k≤xs.length∧i= .int .i64 k∧Hid (atK xs k=true)∧Box wr w.heap.size #[.bool q,.slice ao out.length co,.slice ax xs.length cx,.slice af fs.length cf] 31∧Fr w wr) (fun i _=>xs.length-(intOf i).toNat)
     case atStart=>exact⟨0,Nat.zero_le _,rfl,Lib.hid rfl,Box.new _ _ _,by exact Qf⟩
     case round=>
      obtain⟨k,hk,rfl,HL,hB,hfr⟩:=hrel
      have FB:=hB.facts
      by_cases hlt:k<xs.length
      · obtain⟨rfl,hb,hf⟩:=KX.out (by omega)
        obtain⟨g0,g1,g2⟩:=hf k hlt
        have hs3:=HSZ.out k hlt
        obtain⟨x,hx⟩: ∃ x,atomAt xs k=x:=⟨_,rfl⟩
        rw[hx]at g0 g1 g2 hs3
        obtain⟨x0,x1,x2⟩:=x
        simp only[]at g0 g1 g2 hs3
        have q0:=(hfr.cell (p:=⟨bx,_,none⟩) hb).trans g0
        have q1:=(hfr.cell (p:=⟨bx,_,none⟩) hb).trans g1
        have q2:=(hfr.cell (p:=⟨bx,_,none⟩) hb).trans g2
        have HX:=Lib.hid hx
        have zr:=hfr.size
        obtain⟨s0,s1,s2⟩:=hs3
        clear hf g0 g1 g2 hx
        go_wp2_with fail
        refine(implAtomOk_any x0 x1 x2 _ s0 s1 s2).mono ?_
        rintro e w1 ⟨rfl,hf1⟩
        cases h3:atomB x0 x1 x2
        · have HN:Hid (qryB out xs fs=false):=Lib.hid (by rw[HQ.out,show atK xs xs.length=false from all_no hlt (by rw[HX.out];exact h3)];rfl)
          clear h3
          go_wp2_with fail
          go_ret
          exact⟨ret_bool (by rw[HN.out]),by exact Qf⟩
        · have HS:Hid (atK xs (k+1)=true):=Lib.hid (all_step (by rw[HX.out];exact h3) HL.out)
          clear h3
          go_wp2_with fail
          go_roundw
          case rel=>exact⟨k+1,by omega,by go_num,HS,(hB.alloc _).fr hf1,by exact Qf⟩
          case measure=>(simp[intOf];omega)
      · obtain rfl:k=xs.length:=by omega
        go_wp2_with fail
        refine(implNamesOf_any q ao af out.length co fs.length cf _ xs _ (HA.out.fr hfr) (by omega)).mono ?_
        rintro e w1 ⟨v,rfl,hN,hf1⟩
        obtain⟨an,cn,rfl⟩:=hN.val
        have B1:=hB.fr hf1
        have F1:=B1.facts
        have HQ2:Hid (qryB out xs fs=((decide ((nmK xs xs.length).length≤4)&&decide (1≤out.length∧out.length≤4))&&((dstK out out.length&&allIn (nmK xs xs.length) out)&&fiK (nmK xs xs.length) fs fs.length))):=Lib.hid (by rw[HQ.out,HL.out,Bool.true_and])
        obtain⟨ns,hns⟩: ∃ ns,nmK xs xs.length=ns:=⟨_,rfl⟩
        rw[hns]at hN HQ2
        rw[hns]
        have HNS:=Lib.hid (StrsO.rd hN)
        clear hns hN
        by_cases h5:ns.length≤4∧(1≤out.length∧out.length≤4)
        · have HQ3:Hid (qryB out xs fs=((dstK out out.length&&allIn ns out)&&fiK ns fs fs.length)):=Lib.hid (by rw[HQ2.out,decide_eq_true h5.1,decide_eq_true h5.2];rfl)
          obtain⟨h5a,h5b,h5c⟩:=h5
          go_wp2_with fail
          refine(areDistinct_any _ out _ (HO.out.fr (by exact Qf))).mono ?_
          rintro e w2 ⟨rfl,hf2⟩
          have B2:=B1.fr hf2
          have F2:=B2.facts
          cases h6:dstK out out.length
          · have HN:Hid (qryB out xs fs=false):=Lib.hid (by rw[HQ3.out,h6];rfl)
            clear h6
            go_wp2_with fail
            go_ret
            exact⟨ret_bool (by rw[HN.out]),by exact Qf⟩
          · have H6:=Lib.hid h6
            clear h6
            go_wp2_with fail
            refine(containsAll_any _ _ ns out _ (HNS.out.fr (by exact Qf)) (HO.out.fr (by exact Qf))).mono ?_
            rintro e w3 ⟨rfl,hf3⟩
            have B3:=B2.fr hf3
            have F3:=B3.facts
            cases h7:allIn ns out
            · have HN:Hid (qryB out xs fs=false):=Lib.hid (by rw[HQ3.out,H6.out,h7];rfl)
              clear h7
              go_wp2_with fail
              go_ret
              exact⟨ret_bool (by rw[HN.out]),by exact Qf⟩
            · have HQ4:Hid (qryB out xs fs=fiK ns fs fs.length):=Lib.hid (by rw[HQ3.out,H6.out,h7];rfl)
              have HN3:=Lib.hid (HNS.out.fr (show Fr w1 w3 by exact Qf))
              have fr3:Fr w w3:=by exact Qf
              clear h7
              go_wp2_with fail
              go_loopw [66] (fun i w'=> ∃ k:Nat,k≤fs.length∧i= .int .i64 k∧Hid (fiK ns fs k=true)∧Fr w3 w') (fun i _=>fs.length-(intOf i).toNat)
              case atStart=>exact⟨0,Nat.zero_le _,rfl,Lib.hid rfl,Fr.refl _⟩
              case round=>
               obtain⟨j,hj,rfl,HL4,hfr4⟩:=hrel
               by_cases hlt4:j<fs.length
               · obtain⟨rfl,hb,hf⟩:=KF.out (by omega)
                 obtain⟨g0,g1,g2,g3⟩:=hf j hlt4
                 obtain⟨x,hx⟩: ∃ x,filterAt fs j=x:=⟨_,rfl⟩
                 rw[hx]at g0 g1 g2 g3
                 obtain⟨x0,x1,x2,x3⟩:=x
                 simp only[]at g0 g1 g2 g3
                 have fr4:Fr w wr:=fr3.trans hfr4
                 have q0:=(fr4.cell (p:=⟨bf,_,none⟩) hb).trans g0
                 have q1:=(fr4.cell (p:=⟨bf,_,none⟩) hb).trans g1
                 have q2:=(fr4.cell (p:=⟨bf,_,none⟩) hb).trans g2
                 have q3:=(fr4.cell (p:=⟨bf,_,none⟩) hb).trans g3
                 have HX:=Lib.hid hx
                 clear hf g0 g1 g2 g3 hx
                 go_wp2_with fail
                 refine(filterOk_any _ ns x0 x2 x1 x3 _ (HN3.out.fr (by exact Qf))).mono ?_
                 rintro e w5 ⟨rfl,hf5⟩
                 cases h8:filB ns x0 x1 x2 x3
                 · have HN:Hid (qryB out xs fs=false):=Lib.hid (by rw[HQ4.out,show fiK ns fs fs.length=false from all_no hlt4 (by rw[HX.out];exact h8)])
                   clear h8
                   go_wp2_with fail
                   go_ret
                   exact⟨ret_bool (by rw[HN.out]),by exact Qf⟩
                 · have HS:Hid (fiK ns fs (j+1)=true):=Lib.hid (all_step (by rw[HX.out];exact h8) HL4.out)
                   clear h8
                   go_wp2_with fail
                   go_roundw
                   case rel=>exact⟨j+1,by omega,by go_num,HS,by exact Qf⟩
                   case measure=>(simp[intOf];omega)
               · obtain rfl:j=fs.length:=by omega
                 go_wp2_with fail
                 go_ret
                 exact⟨ret_bool (by rw[HQ4.out,HL4.out]),by exact Qf⟩
        · have HN:Hid (qryB out xs fs=false):=Lib.hid (by
           rw[HQ2.out]
           by_cases h6:ns.length≤4
           · rw[decide_eq_false (fun h=>h5 ⟨h6,h⟩)];simp
           · rw[decide_eq_false h6];rfl)
          go_wp2_with fail
          all_goals first|(exfalso;omega)|(go_ret;exact⟨ret_bool (by rw[HN.out]),by exact Qf⟩)
   · have HN:Hid (qryB out xs fs=false):=Lib.hid (by unfold qryB;rw[decide_eq_false h2];simp)
     go_enter Tryz.func63,Tryz.ntmps63
     go_wp2_with fail
     go_ret
     exact⟨ret_bool (by rw[HN.out]),by exact Qf⟩
 · have HN:Hid (qryB out xs fs=false):=Lib.hid (by unfold qryB;rw[decide_eq_false h1];simp)
   go_enter Tryz.func63,Tryz.ntmps63
   go_wp2_with fail
   all_goals first|(exfalso;omega)|(go_ret;exact⟨ret_bool (by rw[HN.out]),by exact Qf⟩)
/-! ### what a worker owns -/
def ownK (k n:Int):Nat→List Int
 |0=>[]
 |m+1=>if owR (m:Int) n=k then ownK k n m++[(m:Int)]else ownK k n m
def ownL (g:GraphD) (k n:Int):List Int:=if graphB g=true then ownK k n g.f0.toNat else []
theorem ownK_yes {k n:Int} {m:Nat} (h:owR (m:Int) n=k):ownK k n (m+1)=ownK k n m++[(m:Int)]:=if_pos h
theorem ownK_no {k n:Int} {m:Nat} (h: ¬ owR (m:Int) n=k):ownK k n (m+1)=ownK k n m:=if_neg h
theorem ownK_len (k n:Int): ∀ m,(ownK k n m).length≤m
 |0=>Nat.le_refl _
 |m+1=>by
  have:=ownK_len k n m
  by_cases h:owR (m:Int) n=k
  · rw[ownK_yes h,List.length_append,List.length_singleton];omega
  · rw[ownK_no h];omega
theorem mem_ownK {k n:Int} {v:Int}: ∀ {m:Nat},v∈ownK k n m↔ ∃ j:Nat,v=(j:Int)∧j<m∧owR (j:Int) n=k
 |0=>by simp[ownK]
 |m+1=>by
  by_cases h:owR (m:Int) n=k
  · rw[ownK_yes h,List.mem_append,mem_ownK (m:=m),List.mem_singleton]
    constructor
    · rintro(⟨j,h1,h2,h3⟩|rfl)
      · exact⟨j,h1,by omega,h3⟩
      · exact⟨m,rfl,by omega,h⟩
    · rintro⟨j,h1,h2,h3⟩
      by_cases e:j=m
      · subst e;exact .inr h1
      · exact .inl ⟨j,h1,by omega,h3⟩
  · rw[ownK_no h,mem_ownK (m:=m)]
    constructor
    · rintro⟨j,h1,h2,h3⟩;exact⟨j,h1,by omega,h3⟩
    · rintro⟨j,h1,h2,h3⟩
      by_cases e:j=m
      · subst e;exact absurd h3 h
      · exact⟨j,h1,by omega,h3⟩
theorem ownL_len {g:GraphD} {k n:Int}:(ownL g k n).length≤12:=by
 unfold ownL
 split
 · rename_i h
   have:=(graphB_out h).1
   have:=ownK_len k n g.f0.toNat
   omega
 · simp
/-! ### where walks begin -/
def qryD (q:QueryD):Bool:=qryB q.f1 q.f2 q.f3
theorem qryB_atoms {out:List ByteArray} {xs:List AtomR} {fs:List FilterR} (h:qryB out xs fs=true):(1≤xs.length∧xs.length≤4)∧atK xs xs.length=true:=by
 unfold qryB at h
 simp only[Bool.and_eq_true,decide_eq_true_eq]at h
 exact⟨h.1.1,h.2.1⟩
def staW (ow:List Int) (m:Nat):List WalkR:=ow.map fun v=>⟨(m:Int),v,v,0⟩
def staK (ow:List Int):Nat→List WalkR
 |0=>[]
 |m+1=>staK ow m++staW ow m
theorem staK_len (ow:List Int): ∀ m,(staK ow m).length=m*ow.length
 |0=>by simp[staK]
 |m+1=>by rw[staK,List.length_append,staK_len ow m,Nat.add_mul];simp[staW]
def staTo (ow:List Int) (m k:Nat):List WalkR:=staK ow m++staW (ow.take k) m
theorem staTo_0 (ow:List Int) (m:Nat):staTo ow m 0=staK ow m:=by simp[staTo,staW]
theorem staTo_all (ow:List Int) (m:Nat):staTo ow m ow.length=staK ow (m+1):=by simp[staTo,staK]
theorem staTo_step {ow:List Int} {m k:Nat} (h:k<ow.length):staTo ow m (k+1)=staTo ow m k++[⟨(m:Int),iAt ow k,iAt ow k,0⟩]:=by
 unfold staTo staW
 rw[List.take_succ_eq_append_getElem h,List.map_append, ← List.append_assoc]
 simp[iAt,List.getD,h]
theorem staTo_len {ow:List Int} {m k:Nat}:(staTo ow m k).length≤(m+1)*ow.length:=by
 unfold staTo staW
 rw[List.length_append,staK_len,List.length_map,List.length_take,Nat.add_mul]
 omega
def staL (g:GraphD) (q:QueryD) (k n:Int):List WalkR:=if graphB g=true∧qryD q=true then staK (ownL g k n) q.f2.length else []
theorem staL_len (g:GraphD) (q:QueryD) (k n:Int):(staL g q k n).length≤48:=by
 unfold staL
 split
 · rename_i h
   rw[staK_len]
   have h1:=(qryB_atoms h.2).1.2
   have h2:=ownL_len (g:=g) (k:=k) (n:=n)
   calc q.f2.length*(ownL g k n).length≤4*12:=Nat.mul_le_mul h1 h2
    _=48:=rfl
 · simp
theorem wlk_snoc (l:List WalkR) (x:WalkR):(l++[x]).flatMap WalkR.cells=l.flatMap WalkR.cells++[.int .i64 x.f0,.int .i64 x.f1,.int .i64 x.f2,.int .i64 x.f3]:=by simp[WalkR.cells]
/-! ### how a walk goes on -/
def arcOn (w:WalkR) (e c:EdgeR):List WalkR:=if c.f0=w.f3∧c.f1=e.f1 then [⟨w.f0,w.f1,e.f2,c.f2⟩]else []
def arcsOn (cs:List EdgeR) (w:WalkR) (e:EdgeR):List WalkR:=if e.f0=w.f2 then cs.flatMap (arcOn w e)else []
def onL (es cs:List EdgeR) (w:WalkR):List WalkR:=es.flatMap (arcsOn cs w)
def onTo (es cs:List EdgeR) (w:WalkR) (i k:Nat):List WalkR:=onL (es.take i) cs w++(cs.take k).flatMap (arcOn w (edgeAt es i))
theorem eTake {es:List EdgeR} {i:Nat} (h:i<es.length):es.take (i+1)=es.take i++[edgeAt es i]:=by
 rw[List.take_succ_eq_append_getElem h]
 simp[edgeAt,List.getD,h]
theorem onL_skip {es cs:List EdgeR} {w:WalkR} {i:Nat} (h:i<es.length) (hn: ¬ (edgeAt es i).f0=w.f2):onL (es.take (i+1)) cs w=onL (es.take i) cs w:=by
 unfold onL
 rw[eTake h,List.flatMap_append]
 simp[arcsOn,hn]
theorem onL_hit {es cs:List EdgeR} {w:WalkR} {i:Nat} (h:i<es.length) (hn:(edgeAt es i).f0=w.f2):onL (es.take (i+1)) cs w=onTo es cs w i cs.length:=by
 unfold onTo onL
 rw[eTake h,List.flatMap_append,List.take_length]
 simp[arcsOn,hn]
theorem onTo_0 (es cs:List EdgeR) (w:WalkR) (i:Nat):onTo es cs w i 0=onL (es.take i) cs w:=by simp[onTo]
theorem onTo_step {es cs:List EdgeR} {w:WalkR} {i k:Nat} (h:k<cs.length):onTo es cs w i (k+1)=onTo es cs w i k++arcOn w (edgeAt es i) (edgeAt cs k):=by
 unfold onTo
 rw[eTake h,List.flatMap_append, ← List.append_assoc]
 simp
theorem arcOn_len (w:WalkR) (e c:EdgeR):(arcOn w e c).length≤1:=by unfold arcOn;split<;>simp
theorem flat_le {α β:Type} (f:α→List β) (b:Nat): ∀ l:List α,(∀ x∈l,(f x).length≤b)→(l.flatMap f).length≤l.length*b
 |[],_=>by simp
 |x::l,h=>by
  rw[List.flatMap_cons,List.length_append,List.length_cons,Nat.add_mul]
  have:=h x (by simp)
  have:=flat_le f b l (fun y hy=>h y (by simp[hy]))
  omega
theorem onL_len (es cs:List EdgeR) (w:WalkR):(onL es cs w).length≤es.length*cs.length:=flat_le _ _ _ fun e _=>by
 unfold arcsOn
 split
 · have:=flat_le (arcOn w e) 1 cs (fun c _=>arcOn_len w e c);omega
 · simp
theorem onTo_len {es cs:List EdgeR} {w:WalkR} {i k:Nat} (hi:i<es.length):(onTo es cs w i k).length≤es.length*cs.length:=by
 unfold onTo
 rw[List.length_append]
 have h1:=onL_len (es.take i) cs w
 have h2:=flat_le (arcOn w (edgeAt es i)) 1 (cs.take k) (fun c _=>arcOn_len _ _ c)
 rw[List.length_take]at h1 h2
 have h3:min i es.length*cs.length≤i*cs.length:=Nat.mul_le_mul_right _ (Nat.min_le_left _ _)
 have h4:(i+1)*cs.length≤es.length*cs.length:=Nat.mul_le_mul_right _ hi
 rw[Nat.add_mul]at h4
 omega
instance:Inhabited NfaD:=⟨⟨0,[],[]⟩⟩
def NfaE (w:World) (u:List Value) (d:NfaD):Prop:= ∃ a e,u=[.int .i64 d.f0,a,e]∧EdgesR w a d.f1∧BoolsR w e d.f2
def NfaEW (w:World) (lo hi:Nat) (u:List Value) (d:NfaD):Prop:= ∃ a e,u=[.int .i64 d.f0,a,e]∧OwW w lo hi 195 3 a d.f1.length (d.f1.flatMap EdgeR.cells)∧OwW w lo hi 4 1 e d.f2.length (d.f2.map Value.bool)
theorem NfaE.fr {w w':World} {u:List Value} {d:NfaD} (h:NfaE w u d) (hf:Fr w w'):NfaE w' u d:=by obtain⟨a,e,h1,h2,h3⟩:=h;exact⟨a,e,h1,h2.fr hf,RdS.fr h3 hf⟩
theorem NfaEW.span {w w':World} {lo hi:Nat} {u:List Value} {d:NfaD} {a b:Nat} (h:NfaEW w lo hi u d) (s:Span a b w w') (hd:hi≤a∨b≤lo):NfaEW w' lo hi u d:=by obtain⟨x,y,h1,h2,h3⟩:=h;exact⟨x,y,h1,h2.span s hd,h3.span s hd⟩
theorem NfaEW.ab {w w':World} {lo hi:Nat} {u:List Value} {d:NfaD} (h:NfaEW w lo hi u d) (s:Ab lo w w'):NfaEW w' lo hi u d:=by obtain⟨x,y,h1,h2,h3⟩:=h;exact⟨x,y,h1,OwW.ab h2 s,OwW.ab h3 s⟩
theorem NfaEW.rd {w:World} {lo hi:Nat} {u:List Value} {d:NfaD} (h:NfaEW w lo hi u d):NfaE w u d:=by obtain⟨x,y,h1,h2,h3⟩:=h;exact⟨x,y,h1,OwW.rd h2,OwW.rd h3⟩
def NfasR (w:World) (v:Value) (xs:List NfaD):Prop:=NestR NfaE 3 w v xs
def NfasW (w:World) (lo hi:Nat) (v:Value) (xs:List NfaD):Prop:=NestW NfaEW 133 3 w lo hi v xs
theorem NfasR.fr {w w':World} {v:Value} {xs:List NfaD} (h:NfasR w v xs) (hf:Fr w w'):NfasR w' v xs:=NestR.fr (E:=NfaE) (fun a b=>NfaE.fr a b) h hf
theorem NfasW.fr {w w':World} {lo hi:Nat} {v:Value} {xs:List NfaD} (h:NfasW w lo hi v xs) (hf:Fr w w'):NfasW w' lo hi v xs:=NestP.fr (E:=NfaEW) (fun a b c=>NfaEW.span a b c) h hf
theorem NfasW.span {w w':World} {lo hi:Nat} {v:Value} {xs:List NfaD} (h:NfasW w lo hi v xs) {a b:Nat} (s:Span a b w w') (hd:hi≤a∨b≤lo):NfasW w' lo hi v xs:=NestP.span (E:=NfaEW) (fun a b c=>NfaEW.span a b c) h s hd
theorem NfasW.ab {w w':World} {lo hi:Nat} {v:Value} {xs:List NfaD} (h:NfasW w lo hi v xs) (s:Ab lo w w'):NfasW w' lo hi v xs:=NestP.ab (E:=NfaEW) (fun a b=>NfaEW.ab a b) h s
theorem NfasW.mono {w:World} {lo hi lo' hi':Nat} {v:Value} {xs:List NfaD} (h:NfasW w lo hi v xs) (hl:lo'≤lo) (hh:hi≤hi'):NfasW w lo' hi' v xs:=NestP.mono h hl hh
theorem NfasW.rd {w:World} {lo hi:Nat} {v:Value} {xs:List NfaD} (h:NfasW w lo hi v xs):NfasR w v xs:=NestP.rd (E:=NfaEW) (E':=NfaE) (fun a=>NfaEW.rd a) h
theorem NfasW.val {w:World} {lo hi:Nat} {v:Value} {xs:List NfaD} (h:NfasW w lo hi v xs): ∃ ao cap,v= .slice ao xs.length cap:=NestW.val h
theorem NfasW.nil (w:World) (lo hi:Nat):NfasW w lo hi (.slice none 0 0) []:=NestP.none_yet (OwW.nil _ _ _ _ _)
theorem NfasR.one {w:World} {v:Value} {xs:List NfaD} (h:NfasR w v xs):
  ∃ ao b o cap,v= .slice ao xs.length cap∧xs.length≤cap∧cap≤9223372036854775807∧(0<xs.length→ao=some ⟨b,o,none⟩∧b<w.heap.size∧ ∀ k,k<xs.length→ ∃ a e,EdgesR w a (nAt xs k).f1∧BoolsR w e (nAt xs k).f2∧w.cell? ⟨b,o+k*3,none⟩=some (.int .i64 (nAt xs k).f0)∧w.cell? ⟨b,o+k*3+1,none⟩=some a∧w.cell? ⟨b,o+k*3+2,none⟩=some e):=by
 obtain⟨ao,b,o,cap,h1,h2,h3,h4⟩:=NestR.one h
 refine⟨ao,b,o,cap,h1,h2,h3,fun hn=>⟨(h4 hn).1,(h4 hn).2.1,fun k hk=>?_⟩⟩
 obtain⟨u,_,⟨a,e,hu,ha,he⟩,hc⟩:=(h4 hn).2.2 k hk
 rw[hu]at hc
 exact⟨a,e,ha,he,by simpa using hc 0 _ (by omega) rfl,by simpa using hc 1 _ (by omega) rfl,by simpa using hc 2 _ (by omega) rfl⟩
theorem info_Nfa:(Tryz.prog.info? 133).map (fun i=>(i.zero,i.size,i.bytes))=some (some (.agg #[.int .i64 0,.slice none 0 0,.slice none 0 0]),3,56):=by kernel_rfl
/-! ### the automata of a query -/
def autK (xs:List AtomR):Nat→List NfaD
 |0=>[]
 |k+1=>autK xs k++[nfaT (atomAt xs k).f1]
theorem autK_len (xs:List AtomR): ∀ k,(autK xs k).length=k
 |0=>rfl
 |k+1=>by rw[autK,List.length_append,autK_len xs k];rfl
theorem autK_at (xs:List AtomR): ∀ {m k:Nat},k<m→nAt (autK xs m) k=nfaT (atomAt xs k).f1
 |0,k,h=>by omega
 |m+1,k,h=>by
  rw[autK]
  by_cases e:k<m
  · have:=autK_at xs e
    unfold nAt List.getD at this ⊢
    rw[List.getElem?_append_left (by rw[autK_len];exact e)]
    exact this
  · obtain rfl:k=m:=by omega
    unfold nAt List.getD
    rw[List.getElem?_append_right (by rw[autK_len];exact Nat.le_refl _),autK_len,Nat.sub_self]
    rfl
def autL (q:QueryD):List NfaD:=autK q.f2 q.f2.length
theorem autL_len (q:QueryD):(autL q).length=q.f2.length:=autK_len _ _
/-- A new automaton behind those that are there. -/
theorem NfasW.snoc {w0 w1 w2:World} {L H:Nat} {az az':Option Addr} {cz cz' k:Nat} {xs:List NfaD} {cells u:List Value} {d:NfaD} {l1 h1:Nat}
  (happ: ∀ (v':Value) (w' w'':World) (u:List Value) (x:NfaD) (l1 h1 hi' J:Nat),Fr w0 w'→w''.ownsRow L 133 3 v' (xs.length+1) (cells++u)→w'.grownBy w'' (Value.slice az k cz).ownBlock→(v'.ownBlock=(Value.slice az k cz).ownBlock∨v'.ownBlock=some J)→RowIn L hi' v'→h1≤J→h1≤hi'→u.length=3→NfaEW w' l1 h1 u x→L≤l1→H≤l1→l1≤h1→NestW NfaEW 133 3 w'' L hi' v' (xs++[x]))
  (hf:Fr w0 w1) (hown:w2.ownsRow L 133 3 (.slice az' (xs.length+1) cz') (xs.length+1) (cells++u)) (hg:w1.grownBy w2 (Value.slice az k cz).ownBlock) (hat:(Value.slice az' (xs.length+1) cz').ownBlock=(Value.slice az k cz).ownBlock∨(Value.slice az' (xs.length+1) cz').ownBlock=some w1.heap.size)
  (hu:u.length=3) (he:NfaEW w1 l1 h1 u d) (h1w:h1≤w1.heap.size) (hL:L≤l1) (hH:H≤l1) (hl:l1≤h1):NfasW w2 L w2.heap.size (.slice az' (xs.length+1) cz') (xs++[d]):=by
 have:=hg.size
 exact happ _ w1 w2 u d l1 h1 w2.heap.size w1.heap.size hf hown hg hat (RowIn.of_owns hown) h1w (by omega) hu he hL hH hl
end Go.Proofs.YtjnahjgncmcmdaaGreat