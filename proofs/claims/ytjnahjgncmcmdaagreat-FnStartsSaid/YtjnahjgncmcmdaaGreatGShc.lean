/- Texts in one: Sry, Srr, Occ, Atm, Shc. -/
import Derived.Test.YtjnahjgncmcmdaaGreatGSrx
import Derived.Test.YtjnahjgncmcmdaaGreatGPth2
import Derived.Test.YtjnahjgncmcmdaaGreatGNfp
import Derived.Test.YtjnahjgncmcmdaaGreatGPrw
import Derived.Test.YtjnahjgncmcmdaaGreatGVis
import Derived.Test.YtjnahjgncmcmdaaGreatGPrx
import Derived.Test.YtjnahjgncmcmdaaGreatGStr
import Derived.Shelf.Slices.Turned
namespace Go.Proofs.YtjnahjgncmcmdaaGreat
open Go.RowKit
set_option linter.unusedVariables false
set_option linter.unusedSimpArgs false
theorem rowS1_any (W:World) (lo n:Nat) (k:Int) (hn:n=W.heap.size) (hl:lo≤n):IntsO (W.alloc (.cells #[.int .i64 k] 3)) lo (.slice (some ⟨n,0,none⟩) 1 1) [k]:=by
 subst hn
 exact⟨by simp,.inr ⟨W.heap.size,1, #[.int .i64 k],rfl,hl,heap_alloc_new W _,by simp,by unfold maxLen;omega,by simp,by simp⟩⟩
theorem puts1_any (b lo a n:Nat) (t:ByteArray) (v0 v:Value) (us0 us:List Value) (ps:List PieceD) (op k:Int) (w w':World) (hlo:b<lo) (hlw:lo≤w.heap.size) (h:Ls b lo a false t v0 us0 w (.slice none 0 0) [] v us ps w') (hr:IntsO w' lo (.slice (some ⟨n,0,none⟩) 1 1) [k]) (hN:w.heap.size≤n) (hap:Apart (.slice (some ⟨n,0,none⟩) 1 1) v) (hn:ps.length≤1000):
  Calls Tryz.prog 213 #[.pointer (some ⟨b,0,none⟩),.agg #[.int .i64 op,.int .u8 0,.slice (some ⟨n,0,none⟩) 1 1]] w' fun e w''=>e= .returned (.int .i64 (ps.length:Int))∧ ∃ v2 us2,Ls b lo a false t v0 us0 w (.slice none 0 0) [] v2 us2 (ps++[⟨op,0,[k]⟩]) w'':=by
 have q:=put_any b lo a false t v (.slice (some ⟨n,0,none⟩) 1 1) ps us ⟨op,0,[k]⟩ w' h.box hlo (by have:=h.go.size;omega) h.prd hr hap hn
 exact q.mono fun e w'' ⟨v2,e1,e2,e3,e4,e5⟩=>⟨e1,v2,_,h.piece (fun g e=>by simp[Value.ownBlock]at e;omega) e2 e3 e4 e5⟩
theorem putStep_any (b lo a:Nat) (t:ByteArray) (v0 v:Value) (us0 us:List Value) (ps:List PieceD) (c:UInt8) (w w':World) (hlo:b<lo) (hlw:lo≤w.heap.size) (h:Ls b lo a false t v0 us0 w (.slice none 0 0) [] v us ps w') (hn:ps.length≤1000):
  Calls Tryz.prog 213 #[.pointer (some ⟨b,0,none⟩),.agg #[.int .i64 1,.int .u8 (c.toNat:Int),.slice none 0 0]] w' fun e w''=>e= .returned (.int .i64 (ps.length:Int))∧ ∃ v2 us2,Ls b lo a false t v0 us0 w (.slice none 0 0) [] v2 us2 (ps++[⟨1,c,[]⟩]) w'':=by
 have q:=put_any b lo a false t v (.slice none 0 0) ps us ⟨1,c,[]⟩ w' h.box hlo (by have:=h.go.size;omega) h.prd (World.ownsRow_nil _ _ _ _) (fun g e _=>by simp[Value.ownBlock]at e) hn
 exact q.mono fun e w'' ⟨v2,e1,e2,e3,e4,e5⟩=>⟨e1,v2,_,h.piece (fun g e=>by simp[Value.ownBlock]at e) e2 e3 e4 e5⟩
/-- The reader gives up. -/
theorem bad_done {b lo a a1 c:Nat} {bd:Bool} {t:ByteArray} {v v':Value} {us us':List Value} {ps ps':List PieceD} {w wq:World} {R:Option (Int×Nat×List PieceD)} (k:Int) (hlo:b<lo) (h:Ls b lo a1 bd t v us w (.slice none 0 0) [] v' us' ps' wq) (h1:a≤a1) (h2:a1≤t.size) (h3:ps'.length+2*a≤ps.length+2*a1+c) (hR:R=none):
  SPost b lo a c t v us ps w R (.returned (.int .i64 k)) (wq.setCell ⟨b,2,none⟩ (.bool true)):=
 ⟨k,a1,ps',true,rfl,(Ls.at_ (a1:=a1) (bd1:=true) h hlo (h.box.set_to (by simp))).none_done,h1,h2,h3,.inr ⟨rfl,hR⟩⟩
theorem good_done {b lo a a1 c:Nat} {t:ByteArray} {v v':Value} {us us':List Value} {ps ps':List PieceD} {w wq:World} {R:Option (Int×Nat×List PieceD)} (k:Int) (h:Ls b lo a1 false t v us w (.slice none 0 0) [] v' us' ps' wq) (h1:a≤a1) (h2:a1≤t.size) (h3:ps'.length+2*a≤ps.length+2*a1+c) (hR:R=some (k,a1,ps')):
  SPost b lo a c t v us ps w R (.returned (.int .i64 k)) wq:=
 ⟨k,a1,ps',false,rfl,h.none_done,h1,h2,h3,.inl ⟨rfl,hR⟩⟩
theorem srs_item (t:ByteArray) (f a:Nat) (ps:List PieceD):srs t (f+1) .item a ps=if nx t a=40 then(match srs t f (.expr []) (a+1) ps with|none=>none|some (k,a1,ps1)=>if nx t a1=41 then srs t f (.post k) (a1+1) ps1 else none)else srs t f (.post (ps.length:Int)) (a+1) (ps++[⟨1,UInt8.ofNat (nx t a),[]⟩]):=by
 rw[srs]
 split
 · cases srs t f (.expr []) (a+1) ps with
   |none=>rfl
   |some r=>rfl
 · rfl
theorem srs_post (t:ByteArray) (f a:Nat) (k:Int) (ps:List PieceD):srs t (f+1) (.post k) a ps=if nx t a=42 then srs t f (.post (ps.length:Int)) (a+1) (ps++[⟨4,0,[k]⟩])else if nx t a=43 then srs t f (.post (ps.length:Int)) (a+1) (ps++[⟨5,0,[k]⟩])else if nx t a=63 then srs t f (.post (ps.length:Int)) (a+1) (ps++[⟨6,0,[k]⟩])else some (k,a,ps):=by
 rw[srs]
theorem post_sign {t:ByteArray} {f a s:Nat} {k op:Int} {ps:List PieceD} (h:nx t a=s) (hs:(s=42∧op=4)∨(s=43∧op=5)∨(s=63∧op=6)):srs t (f+1) (.post k) a ps=srs t f (.post (ps.length:Int)) (a+1) (ps++[⟨op,0,[k]⟩]):=by
 rw[srs_post,h]
 rcases hs with⟨rfl,rfl⟩|⟨rfl,rfl⟩|⟨rfl,rfl⟩
 · rw[if_pos rfl]
 · rw[if_neg (by decide),if_pos rfl]
 · rw[if_neg (by decide),if_neg (by decide),if_pos rfl]
theorem post_end {t:ByteArray} {f a:Nat} {k:Int} {ps:List PieceD} (h1:nx t a≠42) (h2:nx t a≠43) (h3:nx t a≠63):srs t (f+1) (.post k) a ps=some (k,a,ps):=by
 rw[srs_post,if_neg h1,if_neg h2,if_neg h3]
set_option maxHeartbeats 16000000 in
set_option maxRecDepth 100000 in
theorem one_any (t:ByteArray) (ht:t.size≤100) (F:Nat) (IH: ∀ f,f<F→AltsC t f):OneC t F:=by
 intro b lo a v us ps w hb hlo hlw hp ha hf hn
 obtain⟨i0,hi,hz0,hz1,hz2⟩:=info_parts info_int
 obtain⟨R,hR⟩: ∃ R,one1 t F a ps=R:=⟨_,rfl⟩
 rw[hR]
 unfold one1 at hR
 have L0:=Lib.hid (Ls.start hb hp)
 have F0:=hb.facts
 have hH:=hb
 by_cases hlt:a<t.size
 · obtain⟨g,rfl⟩: ∃ g,F=g+1:=⟨F-1,by omega⟩
   have hw:IntKind.i64.wrap ((a:Int)+1)=((a+1:Nat):Int):=by rw[show(a:Int)+1=((a+1:Nat):Int) by omega];exact IntWalk.i64_in _ (by omega)
   have L1:Hid (∀ wq,Fr w wq→Ls b lo (a+1) false t v us w (.slice none 0 0) [] v us ps (wq.setCell ⟨b,1,none⟩ (.int .i64 ((a:Int)+1)))):=Lib.hid fun wq hq=>Ls.at_ (a1:=a+1) (L0.out.fr hq) hlo ((L0.out.fr hq).box.set_to (by simp))
   have hnx:=nx_get hlt
   have HNX:=Lib.hid hnx
   clear hb hp hH hnx
   by_cases hl:97≤nx t a∧nx t a≤100
   · have hR2:srs t g (.post (ps.length:Int)) (a+1) (ps++[⟨1,t[a],[]⟩])=R:=by
      rw[if_pos (.inl (by unfold isLab;rw[decide_eq_true_eq];exact hl)),srs_item,if_neg (by omega)]at hR
      rw[← hR,HNX.out]
      simp
     have HR:=Lib.hid hR2
     have q1:decide (97≤((t[a]'hlt).toNat:Int))=true:=decide_eq_true (by rw[← HNX.out];omega)
     have q2:decide (((t[a]'hlt).toNat:Int)≤100)=true:=decide_eq_true (by rw[← HNX.out];omega)
     clear hR hR2 hl HNX IH
     go_enter Tryz.func237,Tryz.ntmps237
     go_wp2_with fail
     go_quiet (fail)
     go_wp2_with fail
     go_quiet (fail)
     go_wp2_with fail
     refine(putStep_any b lo (a+1) t v v us us ps (t[a]) w _ hlo hlw (L1.out _ (by exact Qf)) (by omega)).mono ?_
     rintro e w2 ⟨rfl,v2,us2,l3⟩
     have L3:=Lib.hid l3
     clear l3
     go_wp2_with fail
     go_loopw [4,5,119,121,123] (fun z _ _ _ _ wr=> ∃ (k:Int) (a' f':Nat) (v':Value) (us':List Value) (ps':List PieceD),z= .int .i64 k∧Hid (Ls b lo a' false t v us w (.slice none 0 0) [] v' us' ps' wr)∧Hid (srs t f' (.post k) a' ps'=R)∧a≤a'∧a'≤t.size∧t.size-a'+1≤f'∧ps'.length+2*a≤ps.length+2*a') (fun _ _ _ _ _ wr=>t.size+1-(intOf ((wr.cell? ⟨b,1,none⟩).getD (.int .i64 0))).toNat)
     case atStart=>exact⟨_,a+1,g,v2,us2,_,rfl,L3,HR,by omega,by omega,by omega,by simp;omega⟩
     case round=>
      clear L3 HR L1 L0 F0
      obtain⟨k,a',f',v',us',ps',rfl,L3,H1,ha0,ha1,hf2,hn1⟩:=hrel
      obtain⟨g',rfl⟩: ∃ g',f'=g'+1:=⟨f'-1,by omega⟩
      have hsz:=L3.out.go.size
      have BX:=L3.out.box
      have F3:=BX.facts
      have L5:Hid (∀ wq o,Fr wr wq→Ls b lo (a'+1) false t v us w (.slice none 0 0) [] v' us' ps' ((wq.setCell ⟨b,1,none⟩ (.int .i64 ((a':Int)+1))).alloc o)):=Lib.hid fun wq o hq=>(Ls.at_ (a1:=a'+1) (L3.out.fr hq) hlo ((L3.out.fr hq).box.set_to (by simp))).fr ((Fr.refl _).alloc _)
      clear BX
      by_cases hlt:a'<t.size
      · have hnx:=nx_get hlt
        have HNX:=Lib.hid hnx
        clear hnx
        by_cases h42:nx t a'=42
        · have hb1:(t[a']'hlt).toNat=42:=by rw[← HNX.out];exact h42
          have H3:Hid (srs t g' (.post (ps'.length:Int)) (a'+1) (ps'++[⟨4,0,[k]⟩])=R):=Lib.hid (by rw[← H1.out];exact(post_sign h42 (by decide)).symm)
          have hw2:IntKind.i64.wrap ((a':Int)+1)=((a'+1:Nat):Int):=by rw[show(a':Int)+1=((a'+1:Nat):Int) by omega];exact IntWalk.i64_in _ (by omega)
          clear h42 HNX H1
          go_wp2_with fail
          go_quiet (fail)
          go_wp2_with fail
          go_quiet (fail)
          go_wp2_with fail
          refine(puts1_any b lo (a'+1) wr.heap.size t v v' us us' ps' 4 k w _ hlo hlw (L5.out _ _ (by exact Qf)) (rowS1_any _ lo _ k (by simp) (by omega)) (by omega) (fun g e1 e2=>by have:=(World.ownsRow.lt L3.out.prd.own g e2).2;simp[Value.ownBlock]at e1;omega) (by omega)).mono ?_
          rintro e w6 ⟨rfl,v6,us6,l6⟩
          have L6:=Lib.hid l6
          have F6:=l6.box.facts
          clear l6
          go_wp2_with fail
          go_roundw
          case rel=>exact⟨_,a'+1,g',v6,us6,_,rfl,L6,H3,by omega,by omega,by omega,by simp;omega⟩
          case measure=>
           simp[intOf, *]
           omega
        · by_cases h43:nx t a'=43
          · have hb1:(t[a']'hlt).toNat=43:=by rw[← HNX.out];exact h43
            have H3:Hid (srs t g' (.post (ps'.length:Int)) (a'+1) (ps'++[⟨5,0,[k]⟩])=R):=Lib.hid (by rw[← H1.out];exact(post_sign h43 (by decide)).symm)
            have hw2:IntKind.i64.wrap ((a':Int)+1)=((a'+1:Nat):Int):=by rw[show(a':Int)+1=((a'+1:Nat):Int) by omega];exact IntWalk.i64_in _ (by omega)
            clear h42 h43 HNX H1
            go_wp2_with fail
            go_quiet (fail)
            go_wp2_with fail
            go_quiet (fail)
            go_wp2_with fail
            refine(puts1_any b lo (a'+1) wr.heap.size t v v' us us' ps' 5 k w _ hlo hlw (L5.out _ _ (by exact Qf)) (rowS1_any _ lo _ k (by simp) (by omega)) (by omega) (fun g e1 e2=>by have:=(World.ownsRow.lt L3.out.prd.own g e2).2;simp[Value.ownBlock]at e1;omega) (by omega)).mono ?_
            rintro e w6 ⟨rfl,v6,us6,l6⟩
            have L6:=Lib.hid l6
            have F6:=l6.box.facts
            clear l6
            go_wp2_with fail
            go_roundw
            case rel=>exact⟨_,a'+1,g',v6,us6,_,rfl,L6,H3,by omega,by omega,by omega,by simp;omega⟩
            case measure=>
             simp[intOf, *]
             omega
          · by_cases h63:nx t a'=63
            · have hb1:(t[a']'hlt).toNat=63:=by rw[← HNX.out];exact h63
              have H3:Hid (srs t g' (.post (ps'.length:Int)) (a'+1) (ps'++[⟨6,0,[k]⟩])=R):=Lib.hid (by rw[← H1.out];exact(post_sign h63 (by decide)).symm)
              have hw2:IntKind.i64.wrap ((a':Int)+1)=((a'+1:Nat):Int):=by rw[show(a':Int)+1=((a'+1:Nat):Int) by omega];exact IntWalk.i64_in _ (by omega)
              clear h42 h43 h63 HNX H1
              go_wp2_with fail
              go_quiet (fail)
              go_wp2_with fail
              go_quiet (fail)
              go_wp2_with fail
              refine(puts1_any b lo (a'+1) wr.heap.size t v v' us us' ps' 6 k w _ hlo hlw (L5.out _ _ (by exact Qf)) (rowS1_any _ lo _ k (by simp) (by omega)) (by omega) (fun g e1 e2=>by have:=(World.ownsRow.lt L3.out.prd.own g e2).2;simp[Value.ownBlock]at e1;omega) (by omega)).mono ?_
              rintro e w6 ⟨rfl,v6,us6,l6⟩
              have L6:=Lib.hid l6
              have F6:=l6.box.facts
              clear l6
              go_wp2_with fail
              go_roundw
              case rel=>exact⟨_,a'+1,g',v6,us6,_,rfl,L6,H3,by omega,by omega,by omega,by simp;omega⟩
              case measure=>
               simp[intOf, *]
               omega
            · have q1:(((t[a']'hlt).toNat:Int)==42)=false:=by rw[beq_eq_false_iff_ne, ← HNX.out];omega
              have q2:(((t[a']'hlt).toNat:Int)==43)=false:=by rw[beq_eq_false_iff_ne, ← HNX.out];omega
              have q3:(((t[a']'hlt).toNat:Int)==63)=false:=by rw[beq_eq_false_iff_ne, ← HNX.out];omega
              have HE:Hid (R=some (k,a',ps')):=Lib.hid (by rw[← H1.out];exact post_end h42 h43 h63)
              clear h42 h43 h63 HNX H1 L5
              go_wp2_with fail
              go_quiet (fail)
              go_wp2_with fail
              go_quiet (fail)
              go_wp2_with fail
              go_ret
              exact good_done k (L3.out.fr (by exact Qf)) ha0 ha1 (by omega) HE.out
      · have HE:Hid (R=some (k,a',ps')):=Lib.hid (by
         have e0:=nx_end (t:=t) (a:=a') (by omega)
         rw[← H1.out]
         exact post_end (by omega) (by omega) (by omega))
        clear H1 L5
        go_wp2_with fail
        go_quiet (fail)
        go_wp2_with fail
        go_ret
        exact good_done k (L3.out.fr (by exact Qf)) ha0 ha1 (by omega) HE.out
   · have q12:((decide (97≤((t[a]'hlt).toNat:Int)))&&(decide (((t[a]'hlt).toNat:Int)≤100)))=false:=by
      rw[← HNX.out,Bool.and_eq_false_iff,decide_eq_false_iff_not,decide_eq_false_iff_not]
      omega
     have q12':decide (97≤((t[a]'hlt).toNat:Int))=false∨(decide (97≤((t[a]'hlt).toNat:Int))=true∧decide (((t[a]'hlt).toNat:Int)≤100)=false):=by
      cases h1:decide (97≤((t[a]'hlt).toNat:Int))
      · exact .inl rfl
      · rw[h1,Bool.true_and]at q12
        exact .inr ⟨rfl,q12⟩
     clear q12
     by_cases h40:nx t a=40
     · have hb0:(t[a]'hlt).toNat=40:=by rw[← HNX.out];exact h40
       have hR2:(match srs t g (.expr []) (a+1) ps with|none=>none|some (k,a1,ps1)=>if nx t a1=41 then srs t g (.post k) (a1+1) ps1 else none)=R:=by
        rw[if_pos (.inr h40),srs_item,if_pos h40]at hR
        exact hR
       have CA:=IH g (by omega) b lo (a+1) v us ps
       obtain⟨RA,hRA⟩: ∃ RA,srs t g (.expr []) (a+1) ps=RA:=⟨_,rfl⟩
       rw[hRA]at hR2 CA
       have HR:=Lib.hid hR2
       have CT:Hid (∀ w',Ls b lo (a+1) false t v us w (.slice none 0 0) [] v us ps w'→Calls Tryz.prog 164 #[.pointer (some ⟨b,0,none⟩)] w' fun e w''=> ∃ (k1:Int) (a1:Nat) (ps1:List PieceD) (bd1:Bool) (v1:Value) (us1:List Value),e= .returned (.int .i64 k1)∧Ls b lo a1 bd1 t v us w (.slice none 0 0) [] v1 us1 ps1 w''∧a+1≤a1∧a1≤t.size∧ps1.length+2*a≤ps.length+2*a1∧((bd1=false∧RA=some (k1,a1,ps1))∨(bd1=true∧RA=none))):=Lib.hid fun w' h=>(CA w' h.box hlo (by have:=h.go.size;omega) h.prd (by omega) (by omega) (by omega)).mono fun e w'' ⟨k1,a1,ps1,bd1,e1,hst,hb1,hb2,hb3,hres⟩=>by
        obtain⟨v1,us1,l1⟩:=h.call hlo hst
        exact⟨k1,a1,ps1,bd1,v1,us1,e1,l1,hb1,hb2,by omega,hres⟩
       clear hR hR2 h40 HNX IH CA hRA q12'
       go_enter Tryz.func237,Tryz.ntmps237
       go_wp2_with fail
       go_quiet (fail)
       go_wp2_with fail
       go_quiet (fail)
       go_wp2_with fail
       refine(CT.out _ (L1.out _ (by exact Qf))).mono ?_
       rintro e w2 ⟨k1,a1,ps1,bd1,v1,us1,rfl,l3,hc1,hc2,hc3,hc4⟩
       have L3:=Lib.hid l3
       have B3:=l3.box
       have F3:=B3.facts
       clear l3 B3 CT
       rcases hc4 with⟨rfl,hc4⟩|⟨rfl,hc4⟩
       · subst hc4
         have HR2:Hid ((if nx t a1=41 then srs t g (.post k1) (a1+1) ps1 else none)=R):=HR
         clear HR
         by_cases hlt2:a1<t.size
         · have hnx:=nx_get hlt2
           have HNX:=Lib.hid hnx
           clear hnx
           by_cases h41:nx t a1=41
           · have hb1:(t[a1]'hlt2).toNat=41:=by rw[← HNX.out];exact h41
             have HR:Hid (srs t g (.post k1) (a1+1) ps1=R):=Lib.hid (by rw[← HR2.out,if_pos h41])
             have hw3:IntKind.i64.wrap ((a1:Int)+1)=((a1+1:Nat):Int):=by rw[show(a1:Int)+1=((a1+1:Nat):Int) by omega];exact IntWalk.i64_in _ (by omega)
             have L4:Hid (∀ wq,Fr w2 wq→Ls b lo (a1+1) false t v us w (.slice none 0 0) [] v1 us1 ps1 (wq.setCell ⟨b,1,none⟩ (.int .i64 ((a1:Int)+1)))):=Lib.hid fun wq hq=>Ls.at_ (a1:=a1+1) (L3.out.fr hq) hlo ((L3.out.fr hq).box.set_to (by simp))
             have hdec:decide (t.size≤a1)=false:=decide_eq_false (by omega)
             clear HR2 h41 HNX
             go_wp2_with fail
             go_quiet (fail)
             go_wp2_with fail
             try simp only[hdec]
             go_loopw [4,5,119,121,123] (fun z _ _ _ _ wr=> ∃ (k:Int) (a' f':Nat) (v':Value) (us':List Value) (ps':List PieceD),z= .int .i64 k∧Hid (Ls b lo a' false t v us w (.slice none 0 0) [] v' us' ps' wr)∧Hid (srs t f' (.post k) a' ps'=R)∧a≤a'∧a'≤t.size∧t.size-a'+1≤f'∧ps'.length+2*a≤ps.length+2*a') (fun _ _ _ _ _ wr=>t.size+1-(intOf ((wr.cell? ⟨b,1,none⟩).getD (.int .i64 0))).toNat)
             case atStart=>exact⟨_,a1+1,g,v1,us1,_,rfl,Lib.hid (L4.out _ (by exact Qf)),HR,by omega,by omega,by omega,by omega⟩
             case round=>
              clear L3 HR L4 L1 L0 F0 F3
              obtain⟨k,a',f',v',us',ps',rfl,L3,H1,ha0,ha1,hf2,hn1⟩:=hrel
              obtain⟨g',rfl⟩: ∃ g',f'=g'+1:=⟨f'-1,by omega⟩
              have hsz:=L3.out.go.size
              have BX:=L3.out.box
              have F3:=BX.facts
              have L5:Hid (∀ wq o,Fr wr wq→Ls b lo (a'+1) false t v us w (.slice none 0 0) [] v' us' ps' ((wq.setCell ⟨b,1,none⟩ (.int .i64 ((a':Int)+1))).alloc o)):=Lib.hid fun wq o hq=>(Ls.at_ (a1:=a'+1) (L3.out.fr hq) hlo ((L3.out.fr hq).box.set_to (by simp))).fr ((Fr.refl _).alloc _)
              clear BX
              by_cases hlt:a'<t.size
              · have hnx:=nx_get hlt
                have HNX:=Lib.hid hnx
                clear hnx
                by_cases h42:nx t a'=42
                · have hb1:(t[a']'hlt).toNat=42:=by rw[← HNX.out];exact h42
                  have H3:Hid (srs t g' (.post (ps'.length:Int)) (a'+1) (ps'++[⟨4,0,[k]⟩])=R):=Lib.hid (by rw[← H1.out];exact(post_sign h42 (by decide)).symm)
                  have hw2:IntKind.i64.wrap ((a':Int)+1)=((a'+1:Nat):Int):=by rw[show(a':Int)+1=((a'+1:Nat):Int) by omega];exact IntWalk.i64_in _ (by omega)
                  clear h42 HNX H1
                  go_wp2_with fail
                  go_quiet (fail)
                  go_wp2_with fail
                  go_quiet (fail)
                  go_wp2_with fail
                  refine(puts1_any b lo (a'+1) wr.heap.size t v v' us us' ps' 4 k w _ hlo hlw (L5.out _ _ (by exact Qf)) (rowS1_any _ lo _ k (by simp) (by omega)) (by omega) (fun g e1 e2=>by have:=(World.ownsRow.lt L3.out.prd.own g e2).2;simp[Value.ownBlock]at e1;omega) (by omega)).mono ?_
                  rintro e w6 ⟨rfl,v6,us6,l6⟩
                  have L6:=Lib.hid l6
                  have F6:=l6.box.facts
                  clear l6
                  go_wp2_with fail
                  go_roundw
                  case rel=>exact⟨_,a'+1,g',v6,us6,_,rfl,L6,H3,by omega,by omega,by omega,by simp;omega⟩
                  case measure=>
                   simp[intOf, *]
                   omega
                · by_cases h43:nx t a'=43
                  · have hb1:(t[a']'hlt).toNat=43:=by rw[← HNX.out];exact h43
                    have H3:Hid (srs t g' (.post (ps'.length:Int)) (a'+1) (ps'++[⟨5,0,[k]⟩])=R):=Lib.hid (by rw[← H1.out];exact(post_sign h43 (by decide)).symm)
                    have hw2:IntKind.i64.wrap ((a':Int)+1)=((a'+1:Nat):Int):=by rw[show(a':Int)+1=((a'+1:Nat):Int) by omega];exact IntWalk.i64_in _ (by omega)
                    clear h42 h43 HNX H1
                    go_wp2_with fail
                    go_quiet (fail)
                    go_wp2_with fail
                    go_quiet (fail)
                    go_wp2_with fail
                    refine(puts1_any b lo (a'+1) wr.heap.size t v v' us us' ps' 5 k w _ hlo hlw (L5.out _ _ (by exact Qf)) (rowS1_any _ lo _ k (by simp) (by omega)) (by omega) (fun g e1 e2=>by have:=(World.ownsRow.lt L3.out.prd.own g e2).2;simp[Value.ownBlock]at e1;omega) (by omega)).mono ?_
                    rintro e w6 ⟨rfl,v6,us6,l6⟩
                    have L6:=Lib.hid l6
                    have F6:=l6.box.facts
                    clear l6
                    go_wp2_with fail
                    go_roundw
                    case rel=>exact⟨_,a'+1,g',v6,us6,_,rfl,L6,H3,by omega,by omega,by omega,by simp;omega⟩
                    case measure=>
                     simp[intOf, *]
                     omega
                  · by_cases h63:nx t a'=63
                    · have hb1:(t[a']'hlt).toNat=63:=by rw[← HNX.out];exact h63
                      have H3:Hid (srs t g' (.post (ps'.length:Int)) (a'+1) (ps'++[⟨6,0,[k]⟩])=R):=Lib.hid (by rw[← H1.out];exact(post_sign h63 (by decide)).symm)
                      have hw2:IntKind.i64.wrap ((a':Int)+1)=((a'+1:Nat):Int):=by rw[show(a':Int)+1=((a'+1:Nat):Int) by omega];exact IntWalk.i64_in _ (by omega)
                      clear h42 h43 h63 HNX H1
                      go_wp2_with fail
                      go_quiet (fail)
                      go_wp2_with fail
                      go_quiet (fail)
                      go_wp2_with fail
                      refine(puts1_any b lo (a'+1) wr.heap.size t v v' us us' ps' 6 k w _ hlo hlw (L5.out _ _ (by exact Qf)) (rowS1_any _ lo _ k (by simp) (by omega)) (by omega) (fun g e1 e2=>by have:=(World.ownsRow.lt L3.out.prd.own g e2).2;simp[Value.ownBlock]at e1;omega) (by omega)).mono ?_
                      rintro e w6 ⟨rfl,v6,us6,l6⟩
                      have L6:=Lib.hid l6
                      have F6:=l6.box.facts
                      clear l6
                      go_wp2_with fail
                      go_roundw
                      case rel=>exact⟨_,a'+1,g',v6,us6,_,rfl,L6,H3,by omega,by omega,by omega,by simp;omega⟩
                      case measure=>
                       simp[intOf, *]
                       omega
                    · have q1:(((t[a']'hlt).toNat:Int)==42)=false:=by rw[beq_eq_false_iff_ne, ← HNX.out];omega
                      have q2:(((t[a']'hlt).toNat:Int)==43)=false:=by rw[beq_eq_false_iff_ne, ← HNX.out];omega
                      have q3:(((t[a']'hlt).toNat:Int)==63)=false:=by rw[beq_eq_false_iff_ne, ← HNX.out];omega
                      have HE:Hid (R=some (k,a',ps')):=Lib.hid (by rw[← H1.out];exact post_end h42 h43 h63)
                      clear h42 h43 h63 HNX H1 L5
                      go_wp2_with fail
                      go_quiet (fail)
                      go_wp2_with fail
                      go_quiet (fail)
                      go_wp2_with fail
                      go_ret
                      exact good_done k (L3.out.fr (by exact Qf)) ha0 ha1 (by omega) HE.out
              · have HE:Hid (R=some (k,a',ps')):=Lib.hid (by
                 have e0:=nx_end (t:=t) (a:=a') (by omega)
                 rw[← H1.out]
                 exact post_end (by omega) (by omega) (by omega))
                clear H1 L5
                go_wp2_with fail
                go_quiet (fail)
                go_wp2_with fail
                go_ret
                exact good_done k (L3.out.fr (by exact Qf)) ha0 ha1 (by omega) HE.out
           · have q5:(((t[a1]'hlt2).toNat:Int) !=41)=true:=by rw[bne_iff_ne, ← HNX.out];omega
             have HR:Hid (R=none):=Lib.hid (by rw[← HR2.out,if_neg h41])
             clear HR2 h41 HNX
             go_wp2_with fail
             go_quiet (fail)
             go_wp2_with fail
             go_ret
             exact bad_done 0 hlo (L3.out.fr (by exact Qf)) (by omega) hc2 (by omega) HR.out
         · have HR:Hid (R=none):=Lib.hid (by rw[← HR2.out,if_neg (by rw[nx_end (by omega)];omega)])
           clear HR2
           go_wp2_with fail
           go_quiet (fail)
           go_wp2_with fail
           go_ret
           exact bad_done 0 hlo (L3.out.fr (by exact Qf)) (by omega) hc2 (by omega) HR.out
       · subst hc4
         have HR2:Hid (R=none):=Lib.hid HR.out.symm
         clear HR
         go_wp2_with fail
         go_quiet (fail)
         go_wp2_with fail
         go_ret
         exact bad_done 0 hlo (L3.out.fr (by exact Qf)) (by omega) hc2 (by omega) HR2.out
     · have q40:(((t[a]'hlt).toNat:Int)==40)=false:=by rw[beq_eq_false_iff_ne, ← HNX.out];omega
       have HR:Hid (R=none):=Lib.hid (by
        rw[if_neg]at hR
        · exact hR.symm
        · rintro(h|h)
          · unfold isLab at h
            rw[decide_eq_true_eq]at h
            exact hl h
          · exact h40 h)
       clear hR hl h40 HNX IH
       rcases q12' with q1|⟨q1,q2⟩
       all_goals
        go_enter Tryz.func237,Tryz.ntmps237
        go_wp2_with fail
        go_quiet (fail)
        go_wp2_with fail
        go_quiet (fail)
        go_wp2_with fail
        go_ret
        exact bad_done 0 hlo (L1.out _ (by exact Qf)) (by omega) (by omega) (by omega) HR.out
 · have HR:Hid (R=none):=Lib.hid (by
    rw[if_neg]at hR
    · exact hR.symm
    · exact stop_no (.inl (by omega)))
   clear hR hb hp hH IH
   go_enter Tryz.func237,Tryz.ntmps237
   go_wp2_with fail
   go_quiet (fail)
   go_wp2_with fail
   go_ret
   exact bad_done 0 hlo (L0.out.fr (by exact Qf)) (Nat.le_refl _) ha (by omega) HR.out
theorem specReader_any (t:ByteArray) (ht:t.size≤100) (F:Nat):OneC t F∧RowC t F∧AltsC t F:=by
 induction F using Nat.strongRecOn with
 |ind F ih=>exact⟨one_any t ht F fun f h=>(ih f h).2.2,row_any t ht F fun f h=>(ih f h).1,alts_any t ht F fun f h=>(ih f h).2.1⟩
set_option maxHeartbeats 8000000 in
set_option maxRecDepth 100000 in
theorem specReadPath_any (t:ByteArray) (w:World) (ht:t.size≤9223372036854775807):
  Calls Tryz.prog 106 #[.string t] w fun e w'=> ∃ v,e= .returned (.tuple #[.agg #[v],.bool (rpM t).2])∧PiecesR w' v (rpM t).1∧Fr w w':=by
 by_cases hs:20<t.size
 · have HM:Hid (rpM t=([],false)):=Lib.hid (by unfold rpM;rw[if_pos hs])
   have q:decide (20<(t.size:Int))=true:=decide_eq_true (by omega)
   clear hs
   go_enter Tryz.func106,Tryz.ntmps106
   go_wp2_with fail
   refine bodyPost_ret (v:= .tuple #[.agg #[.slice none 0 0],.bool false]) (by simp[results,Tryz.results106,go_sem, *]) rfl ?_
   rw[HM.out]
   exact⟨_,rfl,PiecesR.nil _,by exact Qf⟩
 · have q:decide (20<(t.size:Int))=false:=decide_eq_false (by omega)
   have hs2:t.size≤20:=by omega
   obtain⟨F,hFF⟩: ∃ F:Nat,F=100:=⟨_,rfl⟩
   have hM:rpM t=rpG t (srs t F (.expr []) 0 []):=by rw[rpG_srs];unfold rpM;rw[if_neg hs,hFF]
   obtain⟨R,hR⟩: ∃ R,srs t F (.expr []) 0 []=R:=⟨_,rfl⟩
   have HM:Hid (rpM t=rpG t R):=Lib.hid (by rw[hM,hR])
   have CE:Hid (∀ w',Box w' (w.heap.size+1) #[.string t,.int .i64 0,.bool false,.slice none 0 0] 210→Calls Tryz.prog 164 #[.pointer (some ⟨w.heap.size+1,0,none⟩)] w' (SPost (w.heap.size+1) (w.heap.size+2) 0 2 t (.slice none 0 0) [] [] w' R)):=Lib.hid fun w' h=>by
    have:=(specReader_any t (by omega) F).2.2 (w.heap.size+1) (w.heap.size+2) 0 (.slice none 0 0) [] [] w' h (by omega) (by have:=h.lt;omega) (Prd.none _ _) (by omega) (by omega) (by simp;omega)
    rw[hR]at this
    exact this
   clear hs hR hFF hM
   go_enter Tryz.func106,Tryz.ntmps106
   go_wp2_with fail
   refine(CE.out _ (Box.new' (by simp))).mono ?_
   rintro e w1 ⟨k,a,ps,bd,rfl,⟨v',us',hb1,hp1,hg1,_⟩,ha1,ha2,hlen0,hres⟩
   have HF:Fr w w1:=Two.fr_new (b:=w.heap.size+1) (by exact Qf) (by omega) hg1.two
   have HP:=Lib.hid hp1.rd
   have HPr:=Lib.hid hp1
   have hlen:ps.length≤9223372036854775807:=NestR.le HP.out
   have F1:=hb1.facts
   have B0:Box w1 w.heap.size #[.slice none 0 0] 140:=hg1.two.box ((Box.new _ _ _).alloc _) (by omega) (by simp[Value.ownBlock])
   have F0:=B0.facts
   have hne0:=B0.lt
   have hne1:w.heap.size≠w1.heap.size:=by omega
   obtain⟨av,cv,rfl⟩:=hp1.val
   clear hg1 hp1 hb1 ha1 hlen0
   rcases hres with⟨rfl,rfl⟩|⟨rfl,rfl⟩
   · have HM2:Hid (rpM t=if a=t.size∧pathB ps=true then(ps,true)else([],false)):=HM
     clear HM
     by_cases ha:a=t.size
     · subst ha
       have CP:Hid (∀ w',Fr w1 w'→Calls Tryz.prog 165 #[.agg #[.slice av ps.length cv]] w' fun e w''=>e= .returned (.bool (pathB ps))∧Fr w' w''):=Lib.hid fun w' h=>specPathOk_any _ ps w' (HP.out.fr h)
       obtain⟨pb,hpb⟩: ∃ pb,pathB ps=pb:=⟨_,rfl⟩
       rw[hpb]at CP HM2
       clear hpb
       cases pb
       · go_wp2_with fail
         refine(CP.out _ (by exact Qf)).mono ?_
         rintro e w2 ⟨rfl,hf2⟩
         have F02:=(B0.fr (show Fr w1 w2 by exact Qf)).facts
         go_wp2_with fail
         refine bodyPost_ret (v:= .tuple #[.agg #[.slice none 0 0],.bool false]) (by simp[results,Tryz.results106,go_sem, *]) rfl ?_
         rw[HM2.out,if_neg (by simp)]
         exact⟨_,rfl,PiecesR.nil _,by exact Qf⟩
       · go_wp2_with fail
         refine(CP.out _ (by exact Qf)).mono ?_
         rintro e w2 ⟨rfl,hf2⟩
         have hf12:Fr w1 w2:=by exact Qf
         have F02:=(B0.fr hf12).facts
         have z1:=hf2.size
         (try simp only[World.size_alloc]at z1)
         have F03:=((Box.new w1 #[.slice av ps.length cv] 140).fr hf2).facts
         have hne:=B0.lt
         go_wp2_with fail
         refine bodyPost_ret (v:= .tuple #[.agg #[.slice av ps.length cv],.bool true]) (by simp[results,Tryz.results106,go_sem, *]) rfl ?_
         rw[HM2.out,if_pos (by simp)]
         exact⟨_,rfl,(Prd.set (HPr.out.fr hf12) (by show w.heap.size<w.heap.size+2;omega) _).rd,by exact Qf⟩
     · have q2:a<t.size:=by omega
       have HM3:Hid (rpM t=([],false)):=Lib.hid (by rw[HM2.out,if_neg (fun h=>ha h.1)])
       clear ha
       go_wp2_with fail
       refine bodyPost_ret (v:= .tuple #[.agg #[.slice none 0 0],.bool false]) (by simp[results,Tryz.results106,go_sem, *]) rfl ?_
       rw[HM3.out]
       exact⟨_,rfl,PiecesR.nil _,by exact Qf⟩
   · go_wp2_with fail
     refine bodyPost_ret (v:= .tuple #[.agg #[.slice none 0 0],.bool false]) (by simp[results,Tryz.results106,go_sem, *]) rfl ?_
     rw[HM.out]
     exact⟨_,rfl,PiecesR.nil _,by exact Qf⟩
def JobIn (ps:List PieceD):Job→Prop
 | .item=>True
 | .post k=>k.toNat+1=ps.length
 | .alt ks=>(∀ k∈ks,k.toNat<ps.length)∧(ks≠[]→(ks.getLastD 0).toNat+1=ps.length)
 | .expr ks=> ∀ k∈ks,k.toNat<ps.length
def jobOcc (ps:List PieceD):Job→Nat
 | .item=>0
 | .post k=>occA ps k.toNat
 | .alt ks=>occT ps ks
 | .expr ks=>occT ps ks
theorem grp_occ {op:Int} {ks:List Int} {ps:List PieceD} (hop:op≠1) (hl:ks≠[]→(ks.getLastD 0).toNat+1=ps.length):(grp op ks ps).1.toNat+1=(grp op ks ps).2.length∧occA (grp op ks ps).2 (grp op ks ps).1.toNat=occT ps ks:=by
 unfold grp
 split
 · rename_i k
   exact⟨by simpa using hl (by simp),by simp[occT]⟩
 · refine⟨by simp,?_⟩
   rw[Int.toNat_natCast]
   exact occA_piece ps ⟨op,0,ks⟩ hop
theorem prs_occ (t:ByteArray): ∀ (f:Nat) (j:Job) (a:Nat) (ps:List PieceD) (k:Int) (a1:Nat) (ps1:List PieceD),prs t f j a ps=some (k,a1,ps1)→JobIn ps j→k.toNat+1=ps1.length∧occA ps1 k.toNat+a≤jobOcc ps j+a1:=by
 intro f
 induction f with
 |zero=>intro j a ps k a1 ps1 h;rw[prs]at h;cases h
 |succ f ih=>
  intro j a ps k a1 ps1 h hj
  have post: ∀ (op:Int) (k0:Int),op≠1→k0.toNat+1=ps.length→ ∀ {k a1 ps1},prs t f (.post (ps.length:Int)) (a+1) (ps++[⟨op,0,[k0]⟩])=some (k,a1,ps1)→k.toNat+1=ps1.length∧occA ps1 k.toNat+a≤occA ps k0.toNat+a1:=by
   intro op k0 hop hk0 k a1 ps1 h
   obtain⟨c1,c2⟩:=ih _ _ _ _ _ _ h (by simp[JobIn])
   simp only[jobOcc,Int.toNat_natCast]at c2
   rw[occA_piece ps ⟨op,0,[k0]⟩ hop]at c2
   simp only[occT,List.map_cons,List.map_nil,List.sum_cons,List.sum_nil]at c2
   exact⟨c1,by omega⟩
  cases j with
  |item=>
   rw[prs]at h
   split at h
   · cases hE:prs t f (.expr []) (a+1) ps with
     |none=>rw[hE]at h;cases h
     |some r=>
      obtain⟨k2,a2,ps2⟩:=r
      rw[hE]at h
      simp only[]at h
      split at h
      · obtain⟨b1,b2⟩:=ih _ _ _ _ _ _ hE (by simp[JobIn])
        obtain⟨c1,c2⟩:=ih _ _ _ _ _ _ h b1
        simp only[jobOcc,occT,List.map_nil,List.sum_nil]at b2 c2 ⊢
        exact⟨c1,by omega⟩
      · cases h
   · obtain⟨c1,c2⟩:=ih _ _ _ _ _ _ h (by simp[JobIn])
     simp only[jobOcc,Int.toNat_natCast]at c2 ⊢
     rw[occA_step]at c2
     exact⟨c1,by omega⟩
  |post k0=>
   rw[prs]at h
   simp only[JobIn]at hj
   simp only[jobOcc]
   split at h
   · exact post 4 k0 (by omega) hj h
   · split at h
     · exact post 5 k0 (by omega) hj h
     · split at h
       · exact post 6 k0 (by omega) hj h
       · cases h
         exact⟨hj,by omega⟩
  |alt ks=>
   rw[prs]at h
   obtain⟨hj1,hj2⟩:=hj
   simp only[jobOcc]
   split at h
   · cases hE:prs t f .item a ps with
     |none=>rw[hE]at h;cases h
     |some r=>
      obtain⟨k2,a2,ps2⟩:=r
      rw[hE]at h
      simp only[]at h
      obtain⟨b1,b2⟩:=ih _ _ _ _ _ _ hE trivial
      obtain⟨_,⟨m1,rfl⟩,_⟩:=prs_on t _ _ _ _ _ _ _ hE
      obtain⟨c1,c2⟩:=ih _ _ _ _ _ _ h ⟨fun x hx=>by
       rw[List.mem_append,List.mem_singleton]at hx
       rcases hx with hx|rfl
       · have:=hj1 x hx;rw[List.length_append];omega
       · omega,fun _=>by simpa using b1⟩
      simp only[jobOcc]at b2 c2
      rw[occT_snoc,occT_app hj1]at c2
      exact⟨c1,by omega⟩
   · split at h
     · cases h
     · cases h
       obtain⟨c1,c2⟩:=grp_occ (op:=2) (ps:=ps) (by omega) hj2
       exact⟨c1,by omega⟩
  |expr ks=>
   rw[prs]at h
   simp only[JobIn]at hj
   simp only[jobOcc]
   cases hE:prs t f (.alt []) a ps with
   |none=>rw[hE]at h;cases h
   |some r=>
    obtain⟨k2,a2,ps2⟩:=r
    rw[hE]at h
    simp only[]at h
    obtain⟨b1,b2⟩:=ih _ _ _ _ _ _ hE ⟨by simp,by simp⟩
    obtain⟨_,⟨m1,rfl⟩,_⟩:=prs_on t _ _ _ _ _ _ _ hE
    simp only[jobOcc,occT,List.map_nil,List.sum_nil]at b2
    split at h
    · obtain⟨c1,c2⟩:=ih _ _ _ _ _ _ h (show JobIn _ (.expr _)from fun x hx=>by
       rw[List.mem_append,List.mem_singleton]at hx
       rcases hx with hx|rfl
       · have:=hj x hx;rw[List.length_append];omega
       · omega)
      simp only[jobOcc]at c2
      rw[occT_snoc,occT_app hj]at c2
      exact⟨c1,by omega⟩
    · cases h
      obtain⟨c1,c2⟩:=grp_occ (op:=3) (ks:=ks++[k2]) (ps:=ps++m1) (by omega) (fun _=>by simpa using b1)
      rw[occT_snoc,occT_app hj]at c2
      exact⟨c1,by omega⟩
/-- The root of a path that was read. -/
theorem rpM_occ {t:ByteArray} {ps:List PieceD} (h:rpM t=(ps,true)):pathB ps=true∧occA ps (ps.length-1)≤20:=by
 unfold rpM at h
 split at h
 · cases h
 · rename_i hz
   unfold rpG at h
   split at h
   · cases h
   · rename_i k a ps1 hE
     split at h
     · rename_i hc
       cases h
       obtain⟨c1,c2⟩:=prs_occ t _ _ _ _ _ _ _ hE (by simp[JobIn])
       simp only[jobOcc,occT,List.map_nil,List.sum_nil]at c2
       refine⟨hc.2,?_⟩
       rw[show ps.length-1=k.toNat by omega]
       omega
     · cases h
def atomB (f t o:ByteArray):Bool:=qnB f&&(qnB o&&(rpM t).2)
def nfaT (t:ByteArray):NfaD:=if(rpM t).2=true then nfaM (rpM t).1 else⟨0,[],[]⟩
theorem NfaOw.set {w:World} {lo:Nat} {v:Value} {d:NfaD} (h:NfaOw w lo v d) {p:Addr} (hp:p.block<lo) (u:Value):NfaOw (w.setCell p u) lo v d:=by obtain⟨a,b,h1,h2,h3⟩:=h;exact⟨a,b,h1,owns_set h2 hp u,owns_set h3 hp u⟩
set_option maxHeartbeats 2000000 in
theorem nfaOfText_any (t:ByteArray) (w:World) (ht:t.size≤1048576):
  Calls Tryz.prog 154 #[.string t] w fun e w'=> ∃ v,e= .returned (.tuple #[v,.bool (rpM t).2])∧NfaOw w' w.heap.size v (nfaT t)∧Fr w w':=by
 have CR:=fun w'=>implReadPath_any t w' (by omega)
 obtain⟨ps,ok,hr⟩: ∃ ps ok,rpM t=(ps,ok):=⟨_,_,rfl⟩
 unfold nfaT
 rw[hr]at CR ⊢
 have HR:=Lib.hid hr
 have CR:=Lib.hid CR
 clear hr
 go_enter Tryz.func154,Tryz.ntmps154
 go_wp2_with fail
 go_at_call 99
 refine(CR.out _).mono ?_
 rintro e w1 ⟨v,rfl,hv1,hf1⟩
 have BR1:Box w1 w.heap.size #[.int .i64 0,.slice none 0 0,.slice none 0 0] 133:=Box.fr (Box.new _ _ _) hf1
 have FR1:=BR1.facts
 have zw1:=hf1.size
 simp only[World.size_alloc]at zw1
 obtain⟨av,bv,ov,cv,rfl,hcv,hmv,_⟩:=hv1.one
 cases ok
 · go_wp2_with fail
   refine bodyPost_ret (v:= .tuple #[.agg #[.int .i64 0,.slice none 0 0,.slice none 0 0],.bool false]) (by simp[results,Tryz.results154,go_sem, *]) rfl ⟨_,rfl,NfaOw.nil _ _,?_⟩
   repeat(first|(with_reducible exact Fr.refl _)|(with_reducible assumption)|(with_reducible refine Fr.drewN ?_ _)|(with_reducible refine Fr.drew ?_)|(with_reducible refine Fr.alloc ?_ _)|(with_reducible refine Fr.setCell ?_ (by exact Qz) _)|(with_reducible refine Fr.trans ?_ (by with_reducible assumption)))
 · obtain⟨hp,hoc⟩:=rpM_occ HR.out
   have CN:=Lib.hid (fun w' hv=>implNfaOf_any (.slice av ps.length cv) ps w' hp hoc hv)
   have HV1:=Lib.hid hv1
   clear hp hoc hv1
   go_wp2_with fail
   go_at_call 194
   refine(CN.out _ (HV1.out.fr (by exact Qf))).mono ?_
   rintro e w2 ⟨v2,rfl,hN2,hf2⟩
   have HN2:=Lib.hid hN2
   obtain⟨va,ve,rfl,h1,h2⟩:=hN2
   obtain⟨aa,ca,rfl⟩: ∃ a c,va= .slice a (nfaM ps).f1.length c:=owns_val h1
   obtain⟨ae,ce,rfl⟩: ∃ a c,ve= .slice a (nfaM ps).f2.length c:=owns_val h2
   have BR2:=(BR1.alloc (.cells #[.slice av ps.length cv] 140)).fr hf2
   have FR2:=BR2.facts
   have hf12:Fr w w2:=by exact Qf
   have HN3:=Lib.hid (NfaOw.lo HN2.out (lo':=w1.heap.size) (by simp))
   clear h1 h2
   generalize (nfaM ps).f1.length=n1 at*
   generalize (nfaM ps).f2.length=n2 at*
   obtain⟨n0,hn0⟩: ∃ n0,(nfaM ps).f0=n0:=⟨_,rfl⟩
   rw[hn0]at HN3 ⊢
   have hh:w.heap.size<w1.heap.size:=by omega
   clear hn0 HN2
   go_wp2_with fail
   refine bodyPost_ret (v:= .tuple #[.agg #[.int .i64 n0,.slice aa n1 ca,.slice ae n2 ce],.bool true]) (by simp[results,Tryz.results154,go_sem, *]) rfl ⟨_,rfl,?_,?_⟩
   · exact NfaOw.lo (((HN3.out.set (p:=⟨w.heap.size,0,none⟩) hh _).set (p:=⟨w.heap.size,1,none⟩) hh _).set (p:=⟨w.heap.size,2,none⟩) hh _) (by omega)
   · exact((hf12.setCell (p:=⟨w.heap.size,0,none⟩) (Nat.le_refl _) _).setCell (p:=⟨w.heap.size,1,none⟩) (Nat.le_refl _) _).setCell (p:=⟨w.heap.size,2,none⟩) (Nat.le_refl _) _
set_option maxHeartbeats 2000000 in
theorem implAtomOk_any (f p o:ByteArray) (w:World) (hf:f.size≤1048576) (hp:p.size≤1048576) (ho:o.size≤1048576):
  Calls Tryz.prog 136 #[.agg #[.string f,.string p,.string o]] w fun e w'=>e= .returned (.bool (atomB f p o))∧Fr w w':=by
 have CF:=Lib.hid (fun w'=>implQueryName_any f w' hf)
 have CO:=Lib.hid (fun w'=>implQueryName_any o w' ho)
 have CN:=Lib.hid (fun w'=>nfaOfText_any p w' hp)
 unfold atomB
 generalize qnB f=a at CF ⊢
 generalize qnB o=b at CO ⊢
 generalize (rpM p).2=c at CN ⊢
 cases a
 · go_enter Tryz.func136,Tryz.ntmps136
   go_wp2_with(go_at_call 184;refine(CF.out _).mono ?_;rintro e w1 ⟨rfl,hf1⟩;have F1:=(Box.fr (Box.new _ _ _) hf1:Box w1 w.heap.size #[.string f,.string p,.string o] 144).facts)
   go_ret
   exact⟨rfl,by exact Qf⟩
 · cases b
   · go_enter Tryz.func136,Tryz.ntmps136
     go_wp2_with fail
     go_at_call 184
     refine(CF.out _).mono ?_;rintro e w1 ⟨rfl,hf1⟩;have B1:Box w1 w.heap.size #[.string f,.string p,.string o] 144:=Box.fr (Box.new _ _ _) hf1;have F1:=B1.facts
     go_wp2_with fail
     go_at_call 184
     refine(CO.out _).mono ?_;rintro e w2 ⟨rfl,hf2⟩;have F2:=(B1.fr hf2).facts
     go_wp2_with fail
     go_ret
     exact⟨rfl,by exact Qf⟩
   · go_enter Tryz.func136,Tryz.ntmps136
     go_wp2_with fail
     go_at_call 184
     refine(CF.out _).mono ?_;rintro e w1 ⟨rfl,hf1⟩;have B1:Box w1 w.heap.size #[.string f,.string p,.string o] 144:=Box.fr (Box.new _ _ _) hf1;have F1:=B1.facts
     go_wp2_with fail
     go_at_call 184
     refine(CO.out _).mono ?_;rintro e w2 ⟨rfl,hf2⟩;have F2:=(B1.fr hf2).facts
     go_wp2_with fail
     go_at_call 154
     refine(CN.out _).mono ?_;rintro e w3 ⟨v3,rfl,hN3,hf3⟩
     obtain⟨va,ve,rfl,h1,h2⟩:=hN3
     obtain⟨aa,ca,rfl⟩: ∃ a c,va= .slice a (nfaT p).f1.length c:=owns_val h1
     obtain⟨ae,ce,rfl⟩: ∃ a c,ve= .slice a (nfaT p).f2.length c:=owns_val h2
     clear h1 h2
     go_wp2_with fail
     go_ret
     exact⟨ret_bool rfl,by exact Qf⟩
set_option maxHeartbeats 2000000 in
theorem specAtomOk_any (f p o:ByteArray) (w:World) (hf:f.size≤1048576) (hp:p.size≤1048576) (ho:o.size≤1048576):
  Calls Tryz.prog 145 #[.agg #[.string f,.string p,.string o]] w fun e w'=>e= .returned (.bool (atomB f p o))∧Fr w w':=by
 have CF:=Lib.hid (fun w'=>specQueryName_any f w' hf)
 have CO:=Lib.hid (fun w'=>specQueryName_any o w' ho)
 have CR:=fun w'=>specReadPath_any p w' (by omega)
 obtain⟨ps,ok,hr⟩: ∃ ps ok,rpM p=(ps,ok):=⟨_,_,rfl⟩
 unfold atomB
 rw[hr]at CR ⊢
 have HR:=Lib.hid hr
 have CR:=Lib.hid CR
 clear hr
 generalize qnB f=a at CF ⊢
 generalize qnB o=b at CO ⊢
 go_enter Tryz.func145,Tryz.ntmps145
 go_wp2_with fail
 go_at_call 106
 refine(CR.out _).mono ?_
 rintro e w1 ⟨v,rfl,hv1,hf1⟩
 have B1:Box w1 w.heap.size #[.string f,.string p,.string o] 144:=Box.fr (Box.new _ _ _) hf1
 have F1:=B1.facts
 have HV1:=Lib.hid hv1
 obtain⟨av,bv,ov,cv,rfl,hcv,hmv,hvv⟩:=hv1.one
 clear hvv
 cases ok
 · go_wp2_with fail
   go_ret
   exact⟨ret_bool (by cases a<;>cases b<;>rfl),by exact Qf⟩
 · have HRR:=Lib.hid (rpM_occ HR.out)
   have CN:=Lib.hid (fun w' hv=>specNfaOf_any (.slice av ps.length cv) ps w' HRR.out.1 HRR.out.2 hv)
   cases a
   · go_wp2_with fail
     go_at_call 188
     refine(CF.out _).mono ?_;rintro e w2 ⟨rfl,hf2⟩
     go_wp2_with fail
     go_ret
     exact⟨rfl,by exact Qf⟩
   · cases b
     · go_wp2_with fail
       go_at_call 188
       refine(CF.out _).mono ?_;rintro e w2 ⟨rfl,hf2⟩
       have F2:=((B1.alloc (.cells #[.slice av ps.length cv] 140)).fr hf2).facts
       go_wp2_with fail
       go_at_call 188
       refine(CO.out _).mono ?_;rintro e w3 ⟨rfl,hf3⟩
       go_wp2_with fail
       go_ret
       exact⟨rfl,by exact Qf⟩
     · go_wp2_with fail
       go_at_call 188
       refine(CF.out _).mono ?_;rintro e w2 ⟨rfl,hf2⟩
       have B2:=(B1.alloc (.cells #[.slice av ps.length cv] 140)).fr hf2
       have F2:=B2.facts
       have P2:Box w2 w1.heap.size #[.slice av ps.length cv] 140:=Box.fr (Box.new _ _ _) hf2
       have G2:=P2.facts
       go_wp2_with fail
       go_at_call 188
       refine(CO.out _).mono ?_;rintro e w3 ⟨rfl,hf3⟩
       have F3:=(B2.fr hf3).facts;have G3:=(P2.fr hf3).facts
       have HV3:PiecesR w3 (.slice av ps.length cv) ps:=HV1.out.fr (by exact Qf)
       go_wp2_with fail
       go_at_call 151
       refine(CN.out _ HV3).mono ?_
       rintro e w4 ⟨v4,rfl,⟨va,ve,rfl,h1,h2⟩,hf4⟩
       obtain⟨aa,ca,rfl⟩: ∃ a c,va= .slice a (nfaM ps).f1.length c:=owns_val h1
       obtain⟨ae,ce,rfl⟩: ∃ a c,ve= .slice a (nfaM ps).f2.length c:=owns_val h2
       clear h1 h2
       go_wp2_with fail
       go_ret
       exact⟨ret_bool rfl,by exact Qf⟩
open Go.Shelf
def sh_lays110_ren:Go.Shelf.Ren:=⟨fun|110=>185|109=>218|n=>n,fun|31=>27|9=>9|4=>4|3=>3|0=>0|n=>n,fun|n=>n⟩
theorem sh_lays110:Go.Proofs.Lays.n110 Tryz.prog sh_lays110_ren:= {
 mixed:=by kernel_rfl
 f109:=Tryz.func218.trans (congrArg some (by kernel_rfl))
 f110:=Tryz.func185.trans (congrArg some (by kernel_rfl))
 t0:=Tryz.underlying0
 a0:=Tryz.isAgg0
 z0:=Tryz.sizeOf0
 v0:=Tryz.zeroValue0
 t3:=Tryz.underlying3
 a3:=Tryz.isAgg3
 z3:=Tryz.sizeOf3
 v3:=Tryz.zeroValue3
 t4:=Tryz.underlying4
 a4:=Tryz.isAgg4
 z4:=Tryz.sizeOf4
 v4:=Tryz.zeroValue4
 t9:=Tryz.underlying9
 a9:=Tryz.isAgg9
 z9:=Tryz.sizeOf9
 v9:=Tryz.zeroValue9
 t31:=Tryz.underlying27
 a31:=Tryz.isAgg27
 z31:=Tryz.sizeOf27
 v31:=Tryz.zeroValue27}
open Go.RowKit Go.Lib in
theorem sh_slices_Contains_string (b off n c:Nat) (zs:List ByteArray) (x:ByteArray) (w:World) (hz:n≤zs.length) (hbig:n≤9223372036854775807) (hc: ∀ j,j<zs.length→w.cell? ⟨b,off+j,none⟩=some (.string (zs.getD j ByteArray.empty))):
  Calls Tryz.prog 185 #[.slice (some ⟨b,off,none⟩) n c,.string x] w fun e w'=>e= .returned (.bool (Lib.containsS (zs.take n) x))∧w'=w:=Any.slices_Contains_string sh_lays110 b off n c zs x w hz hbig hc
open Go.RowKit Go.Lib in
theorem sh_slices_Contains_string_empty (a:Option Addr) (c:Nat) (x:ByteArray) (w:World):
  Calls Tryz.prog 185 #[.slice a 0 c,.string x] w fun e w'=>e= .returned (.bool false)∧w'=w:=Any.slices_Contains_string_empty sh_lays110 a c x w
end Go.Proofs.YtjnahjgncmcmdaaGreat