/- Texts in one: Draw, Draw2. -/
import Derived.Test.YtjnahjgncmcmdaaGreatGSWalk
import Derived.Test.YtjnahjgncmcmdaaGreatGRow
import Derived.Test.YtjnahjgncmcmdaaGreatGPrt
import Derived.Laws.Bits128
import Derived.Deep.QuietTactic
import Derived.BigQuiet
import Derived.Deep.RegionHeld3
import Derived.Test.YtjnahjgncmcmdaaGreatGUnf
namespace Go.Proofs.YtjnahjgncmcmdaaGreat
open Go.RowKit
set_option linter.unusedVariables false
set_option linter.unusedSimpArgs false
theorem and255 (n:Int):bits .and .i64 n 255=n%256:=by
 have h:(BitVec.ofInt 64 255).toNat=2 ^ 8-1:=by decide
 have key:(BitVec.ofInt 64 n &&& BitVec.ofInt 64 255).toNat=(n%((2 ^ 64:Nat):Int)).toNat%2 ^ 8:=by
  rw[BitVec.toNat_and,BitVec.toNat_ofInt,h,Nat.and_two_pow_sub_one_eq_mod]
 show IntKind.i64.wrap ((BitVec.ofInt 64 n &&& BitVec.ofInt 64 255).toNat:Nat)=n%256
 rw[key,IntKind.wrap_i64]
 omega
theorem and30 (n:Int):bits .and .i64 n 1073741823=n%1073741824:=by
 have h:(BitVec.ofInt 64 1073741823).toNat=2 ^ 30-1:=by decide
 have key:(BitVec.ofInt 64 n &&& BitVec.ofInt 64 1073741823).toNat=(n%((2 ^ 64:Nat):Int)).toNat%2 ^ 30:=by
  rw[BitVec.toNat_and,BitVec.toNat_ofInt,h,Nat.and_two_pow_sub_one_eq_mod]
 show IntKind.i64.wrap ((BitVec.ofInt 64 n &&& BitVec.ofInt 64 1073741823).toNat:Nat)=n%1073741824
 rw[key,IntKind.wrap_i64]
 omega
/-- A slice of bytes that lies below block hi. -/
def ByR (w:World) (hi:Nat) (ao:Option Addr) (n cap:Nat):Prop:=
 n≤cap∧cap≤9223372036854775807∧(0<n→ ∃ c o,ao=some ⟨c,o,none⟩∧c<hi∧c<w.heap.size∧ ∀ j,j<n→ ∃ x:Nat,x<256∧w.cell? ⟨c,o+j,none⟩=some (.int .u8 x))
theorem ByR.fr {w w':World} {hi:Nat} {ao:Option Addr} {n cap:Nat} (h:ByR w hi ao n cap) (hf:Fr w w'):ByR w' hi ao n cap:=by
 obtain⟨h1,h2,h3⟩:=h
 refine⟨h1,h2,fun hn=>?_⟩
 obtain⟨c,o,ha,hc,hs,hx⟩:=h3 hn
 refine⟨c,o,ha,hc,Nat.lt_of_lt_of_le hs hf.size,fun j hj=>?_⟩
 obtain⟨x,hx1,hx2⟩:=hx j hj
 exact⟨x,hx1,(hf.cell (p:=⟨c,_,none⟩) hs).trans hx2⟩
theorem ByR.span {w w':World} {hi a b:Nat} {ao:Option Addr} {n cap:Nat} (h:ByR w hi ao n cap) (s:Span a b w w') (ha:hi≤a):ByR w' hi ao n cap:=by
 obtain⟨h1,h2,h3⟩:=h
 refine⟨h1,h2,fun hn=>?_⟩
 obtain⟨c,o,hao,hc,hs,hx⟩:=h3 hn
 refine⟨c,o,hao,hc,Nat.lt_of_lt_of_le hs s.size,fun j hj=>?_⟩
 obtain⟨x,hx1,hx2⟩:=hx j hj
 exact⟨x,hx1,((s.blk c hs (.inl (by omega))).1 _).trans hx2⟩
/-- A cursor of the draws in block b. -/
def Cu (w:World) (b:Nat):Prop:= ∃ ao n cap i,∃ h:Int,Box w b #[.slice ao n cap,.int .i64 (i:Nat),.int .i64 h] 178∧ByR w b ao n cap∧i≤n
theorem Cu.fr {w w':World} {b:Nat} (h:Cu w b) (hf:Fr w w'):Cu w' b:=by
 obtain⟨ao,n,cap,i,x,h1,h2,h3⟩:=h
 exact⟨ao,n,cap,i,x,h1.fr hf,h2.fr hf,h3⟩
theorem Cu.lt {w:World} {b:Nat} (h:Cu w b):b<w.heap.size:=by obtain⟨ao,n,cap,i,x,h1,_⟩:=h;exact h1.lt
theorem Cu.span {w w':World} {b lo hi:Nat} (h:Cu w b) (s:Span lo hi w w') (hb:b<lo):Cu w' b:=by
 obtain⟨ao,n,cap,i,x,h1,h2,h3⟩:=h
 exact⟨ao,n,cap,i,x,h1.span s (.inl hb),h2.span s (by omega),h3⟩
theorem and255_nat (n:Int):bits .and .i64 n 255=(((n%256).toNat:Nat):Int):=by rw[and255];omega
theorem mod256_lt (n:Int):(n%256).toNat<256:=by omega
theorem Cu.mk' {w w':World} {b n cap i':Nat} {ao:Option Addr} {h':Int} (hy:ByR w b ao n cap) (s:Span b (b+1) w w') (hb:Box w' b #[.slice ao n cap,.int .i64 (i':Int),.int .i64 h'] 178) (hi:i'≤n):Cu w' b:=⟨ao,n,cap,i',h',hb,hy.span s (Nat.le_refl _),hi⟩
set_option maxHeartbeats 2000000 in
set_option maxRecDepth 100000 in
theorem l01Byte_any (b:Nat) (w:World) (hc:Cu w b):
  Calls Tryz.prog 59 #[.pointer (some ⟨b,0,none⟩)] w fun e w'=> ∃ x:Nat,x<256∧e= .returned (.int .i64 x)∧Cu w' b∧Span b (b+1) w w':=by
 obtain⟨ao,n,cap,i,h,hb,hy,hi⟩:=hc
 have HB:=Lib.hid hb
 have HY:=Lib.hid hy
 have F:=hb.facts
 have hcap:=hy.2.1
 have hn:=hy.1
 clear hb
 by_cases hlt:i<n
 · obtain⟨c,o,rfl,hcb,hcs,hx⟩:=hy.2.2 (by omega)
   obtain⟨x,hx1,hx2⟩:=hx i hlt
   clear hx hy
   go_enter Tryz.func59,Tryz.ntmps59
   go_wp2_with fail
   go_quiet (fail)
   go_wp2_with fail
   go_quiet (fail)
   go_wp2_with fail
   go_quiet (fail)
   go_wp2_with fail
   go_ret
   refine⟨_,mod256_lt _,ret_int (and255_nat _),Cu.mk' (i':=i+1) HY.out ?_ (((HB.out.set 2 _).drewN _).set_to (by simp;rfl)) (by omega),?_⟩
   · repeat(first|exact Span.refl _ _ _|apply Span.drewN'|apply Span.setc)
   · repeat(first|exact Span.refl _ _ _|apply Span.drewN'|apply Span.setc)
 · obtain rfl:i=n:=by omega
   go_enter Tryz.func59,Tryz.ntmps59
   go_wp2_with fail
   go_quiet (fail)
   go_wp2_with fail
   go_quiet (fail)
   go_wp2_with fail
   go_ret
   refine⟨_,mod256_lt _,ret_int (and255_nat _),Cu.mk' (i':=i) (h':=wrap64 (wrap64 (h*6364136223846793005)+1442695040888963407)) HY.out ?_ ?_ (by omega),?_⟩
   rotate_left
   · exact((HB.out.set 2 _).drewN _).drewN _
   · repeat(first|exact Span.refl _ _ _|apply Span.drewN'|apply Span.setc)
   · repeat(first|exact Span.refl _ _ _|apply Span.drewN'|apply Span.setc)
theorem rem_lt {x n:Int} (hn:0<n): ∃ y:Nat,x%n=(y:Int)∧(y:Int)<n:=by
 have h1:=Int.emod_nonneg x (show n≠0 by omega)
 have h2:=Int.emod_lt_of_pos x hn
 exact⟨(x%n).toNat,by omega,by omega⟩
set_option maxHeartbeats 2000000 in
set_option maxRecDepth 100000 in
theorem l01Below_any (b:Nat) (n:Int) (w:World) (hc:Cu w b) (hn:n≤9223372036854775807):
  Calls Tryz.prog 60 #[.pointer (some ⟨b,0,none⟩),.int .i64 n] w fun e w'=> ∃ x:Nat,(0<n→(x:Int)<n)∧(n≤0→x=0)∧e= .returned (.int .i64 x)∧Cu w' b∧Span b (b+1) w w':=by
 by_cases h0:n≤0
 · go_enter Tryz.func60,Tryz.ntmps60
   go_wp2_with fail
   go_ret
   exact⟨0,fun h=>by omega,fun _=>rfl,rfl,hc,Span.refl _ _ _⟩
 · by_cases h1:n≤256
   · go_enter Tryz.func60,Tryz.ntmps60
     go_wp2_with fail
     refine(l01Byte_any b _ hc).mono ?_
     rintro e w1 ⟨x,hx,rfl,hc1,sp1⟩
     obtain⟨y,hy1,hy2⟩:=rem_lt (x:=(x:Int)) (n:=n) (by omega)
     go_wp2_with fail
     go_ret
     exact⟨y,fun _=>hy2,fun h=>by omega,ret_int (by first|exact hy1|rfl),hc1,sp1⟩
   · go_enter Tryz.func60,Tryz.ntmps60
     go_wp2_with fail
     refine(l01Byte_any b _ hc).mono ?_
     rintro e w1 ⟨x1,hx1,rfl,hc1,sp1⟩
     go_wp2_with fail
     refine(l01Byte_any b _ hc1).mono ?_
     rintro e w2 ⟨x2,hx2,rfl,hc2,sp2⟩
     go_wp2_with fail
     refine(l01Byte_any b _ hc2).mono ?_
     rintro e w3 ⟨x3,hx3,rfl,hc3,sp3⟩
     go_wp2_with fail
     refine(l01Byte_any b _ hc3).mono ?_
     rintro e w4 ⟨x4,hx4,rfl,hc4,sp4⟩
     obtain⟨y,hy1,hy2⟩:=rem_lt (x:=(x1:Int)*16777216+x2*65536+x3*256+x4) (n:=n) (by omega)
     go_wp2_with fail
     go_ret
     exact⟨y,fun _=>hy2,fun h=>by omega,ret_int (by first|exact hy1|rfl),hc4,sp1.trans (sp2.trans (sp3.trans sp4))⟩
theorem l01Once_any (b:Nat) (n:Int) (w:World) (hc:Cu w b) (hn:n≤9223372036854775807):
  Calls Tryz.prog 85 #[.pointer (some ⟨b,0,none⟩),.int .i64 n] w fun e w'=> ∃ x:Bool,e= .returned (.bool x)∧Cu w' b∧Span b (b+1) w w':=by
 go_enter Tryz.func85,Tryz.ntmps85
 go_wp2_with fail
 refine(l01Below_any b n _ hc hn).mono ?_
 rintro e w1 ⟨x,_,_,rfl,hc1,sp1⟩
 go_wp2_with fail
 go_ret
 exact⟨_,rfl,hc1,sp1⟩
set_option maxHeartbeats 2000000 in
set_option maxRecDepth 100000 in
theorem l01New_any (ao:Option Addr) (n cap:Nat) (w:World) (hy:ByR w w.heap.size ao n cap):
  Calls Tryz.prog 58 #[.slice ao n cap] w fun e w'=> ∃ b,e= .returned (.pointer (some ⟨b,0,none⟩))∧w.heap.size≤b∧Cu w' b∧Fr w w':=by
 obtain⟨hn,hcap,fy⟩:=hy
 have HY:Hid (ByR w w.heap.size ao n cap):=⟨hn,hcap,fy⟩
 have FY:=Lib.hid fy
 clear fy
 go_enter Tryz.func58,Tryz.ntmps58
 go_wp2_with fail
 go_loopw [3,4] (fun h i wr=> ∃ (k:Nat) (x:Int),k≤n∧k≤4000∧i= .int .i64 k∧h= .int .i64 x∧wr=w) (fun _ i _=>4000-(intOf i).toNat)
 case atStart=>exact⟨0,_,Nat.zero_le _,Nat.zero_le _,rfl,rfl,by first|rfl|trivial⟩
 case round=>
  obtain⟨k,x,hk,hk2,rfl,rfl,rfl⟩:=hrel
  by_cases hlt:k<n
  · obtain⟨c,o,rfl,hc1,hc2,hx⟩:=FY.out (by omega)
    obtain⟨y,hy1,hy2⟩:=hx k hlt
    clear hx
    by_cases h4:k<4000
    · go_wp2_with fail
      go_roundw
      case rel=>exact⟨k+1,_,by omega,by omega,by go_num,rfl,by first|rfl|trivial⟩
      case measure=>(simp[intOf];omega)
    · go_wp2_with fail
      go_ret
      exact⟨_,rfl,Nat.le_refl _,⟨_,n,cap,0,_,Box.new _ _ _,HY.out.fr ((Fr.refl _).alloc _),Nat.zero_le _⟩,(Fr.refl _).alloc _⟩
  · go_wp2_with fail
    go_ret
    exact⟨_,rfl,Nat.le_refl _,⟨_,n,cap,0,_,Box.new _ _ _,HY.out.fr ((Fr.refl _).alloc _),Nat.zero_le _⟩,(Fr.refl _).alloc _⟩
theorem Cu.gr {w w':World} {b:Nat} {v:Value} (h:Cu w b) (hg:w.grownBy w' v.ownBlock) (hv: ∀ g,v.ownBlock=some g→b<g):Cu w' b:=by
 have s:Span (b+1) (w.heap.size+b+2+(v.ownBlock.getD 0)) w w':=Span.of_gr hg (fun k hk=>⟨hv k hk,by rw[hk];simp only[Option.getD_some];omega⟩)
 exact h.span s (by omega)
set_option maxHeartbeats 2000000 in
set_option maxRecDepth 100000 in
theorem DrawPlaces_any (ao:Option Addr) (n cap:Nat) (w:World) (hy:ByR w w.heap.size ao n cap):
  Calls Tryz.prog 11 #[.slice ao n cap] w fun e w'=> ∃ (ps:List Int) (ao':Option Addr) (cap':Nat),ps.length=12∧(∀ p∈ps,0≤p∧p<10000)∧e= .returned (.slice ao' 12 cap')∧IntsW w' w.heap.size w'.heap.size (.slice ao' 12 cap') ps∧Fr w w':=by
 obtain⟨i0,hi,hz0,hz1,hz2⟩:=info_parts info_int
 go_enter Tryz.func11,Tryz.ntmps11
 go_wp2_with fail
 refine(l01New_any ao n cap _ hy).mono ?_
 rintro e w1 ⟨b,rfl,hb,hc1,hf1⟩
 go_wp2_with fail
 refine(l01Byte_any b _ hc1).mono ?_
 rintro e w2 ⟨x,hx,rfl,hc2,sp2⟩
 have hf2:Fr w w2:=sp2.fr hf1 hb
 have hb2:=hc2.lt
 go_wp2_with fail
 go_loopw [4,5] (fun v i wr=> ∃ (ps:List Int),ps.length≤12∧(∀ p∈ps,0≤p∧p<10000)∧i= .int .i64 ps.length∧IntsO wr w2.heap.size v ps∧Cu wr b∧Fr w wr∧w2.heap.size≤wr.heap.size) (fun _ i _=>12-(intOf i).toNat)
 case atStart=>exact⟨[],by simp,by simp,rfl,World.ownsRow_made w2 #[] 0 (Nat.le_refl _) (Nat.zero_le _) rfl,hc2.fr ((Fr.refl _).alloc _),hf2.alloc _,by simp⟩
 case round=>
  obtain⟨ps,hk,hps,rfl,ho,hcu,hfr,hs0⟩:=hrel
  have HO:=Lib.hid ho
  have HPS:=Lib.hid hps
  clear hps
  obtain⟨ao1,cap1,rfl⟩:=owns_val ho
  by_cases hlt:ps.length<12
  · go_wp2_with fail
    refine(l01Below_any b _ _ hcu (by omega)).mono ?_
    rintro e w3 ⟨y,hy1,hy2,rfl,hc3,sp3⟩
    have hs1:=sp3.size
    have hy3:=hy1 (by omega)
    clear hy1 hy2
    have ho1:IntsO w3 w2.heap.size _ ps:=sp3.owns HO.out (fun g hg=> .inr (by have:=(HO.out).lt g hg;omega))
    have hf3:Fr w w3:=sp3.fr hfr hb
    go_wp2_with(at_builtin;refine wpList_append_rd rfl _ _ 34 rfl w2.heap.size 3 i0 (.int .i64 0) 1 8 Tryz.underlying34 hi hz0 hz1 hz2 rfl (by decide) _ ps.length (ps.map (Value.int .i64)) rfl (World.ownsRow.alloc ho1 _) _ 1 [.int .i64 (y:Int)] rfl (RdS.new (by first|rfl|simp) rfl) (by simp[Value.oneCell']) (by unfold maxLen;omega) (by omega) (by exact Qz) ?_;intro ao' cap' w4 hown hgrow hat)
    have hc4:Cu w4 b:=(hc3.fr ((Fr.refl _).alloc _)).gr hgrow (fun g hg=>by have:=World.ownsRow.lt ho1 g hg;omega)
    have hf4:Fr w w4:=(hf3.alloc _).grown hgrow (fun k hk=>by have:=World.ownsRow.lt ho1 k hk;have:=hf2.size;omega)
    have hs4:=hgrow.size
    simp only[World.size_alloc]at hs4
    go_roundw
    case rel=>exact⟨ps++[(y:Int)],by first|(simp;done)|(simp;omega),fun p hp=>by rcases List.mem_append.1 hp with h|h;exact HPS.out p h;(simp at h;subst h;omega),by first|(simp;done)|(simp;go_num),by simpa [IntsO]using hown,hc4,hf4,by omega⟩
    case measure=>(simp[intOf];omega)
  · have hl:ps.length=12:=by omega
    go_wp2_with fail
    go_ret
    rw[hl]
    exact⟨ps,ao1,cap1,hl,HPS.out,rfl,by rw[← hl];exact⟨owns_lo HO.out hf2.size,fun g hg=>by have:=(HO.out).lt g hg;have:=hf2.size;omega⟩,hfr⟩
theorem ByR.here {w w':World} {hi:Nat} {ao:Option Addr} {n cap:Nat} (h:ByR w hi ao n cap) (hf:Fr w w'):ByR w' w'.heap.size ao n cap:=by
 have h2:=h.fr hf
 exact⟨h2.1,h2.2.1,fun hn=>by obtain⟨c,o,a1,a2,a3,a4⟩:=h2.2.2 hn;exact⟨c,o,a1,a3,a3,a4⟩⟩
end Go.Proofs.YtjnahjgncmcmdaaGreat