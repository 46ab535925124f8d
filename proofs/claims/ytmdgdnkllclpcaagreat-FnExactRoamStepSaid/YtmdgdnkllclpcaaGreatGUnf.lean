/- Texts in one: Rv, Rv2, TFlat, Unf. -/
import Derived.Test.YtmdgdnkllclpcaaGreatGRow
import Derived.Test.YtmdgdnkllclpcaaGreatGSWalk
import Derived.Deep.RegionHeld3
import Derived.Deep.QuietTactic
import Derived.BigQuiet
import Derived.Test.YtmdgdnkllclpcaaGreatGParP
namespace Go.Proofs.YtmdgdnkllclpcaaGreat
open Go.RowKit
set_option linter.unusedVariables false
set_option linter.unusedSimpArgs false
structure RvR where
 n:Int
 e:Int
 ok:Bool
def rvNo:RvR:=⟨0,0,false⟩
def rvGo (s:ByteArray) (a i n u:Nat):Nat→RvR
 |0=>rvNo
 |f+1=>if h:a+i<s.size then
   (if 128≤s[a+i].toNat then rvGo s a (i+1) (n+s[a+i].toNat%128*u) (u*128) f
    else if(s[a+i].toNat=0∧0<i)∨1000000000<n+s[a+i].toNat%128*u then rvNo else⟨(n+s[a+i].toNat%128*u:Nat),(a+i+1:Nat),true⟩)
  else rvNo
def rv (s:ByteArray) (at_:Int):RvR:=if 0≤at_∧at_≤s.size then rvGo s at_.toNat 0 0 1 5 else rvNo
def StrsW (w:World) (lo hi:Nat) (v:Value) (xs:List ByteArray):Prop:=OwW w lo hi 9 1 v xs.length (xs.map Value.string)
theorem StrsW.rd {w:World} {lo hi:Nat} {v:Value} {xs:List ByteArray} (h:StrsW w lo hi v xs):StrsR w v xs:=OwW.rd h
theorem StrsW.val {w:World} {lo hi:Nat} {v:Value} {xs:List ByteArray} (h:StrsW w lo hi v xs): ∃ ao cap,v= .slice ao xs.length cap:=OwW.val h
theorem StrsW.fr {w w':World} {lo hi:Nat} {v:Value} {xs:List ByteArray} (h:StrsW w lo hi v xs) (hf:Fr w w'):StrsW w' lo hi v xs:=OwW.fr h hf
theorem StrsW.span {w w':World} {lo hi:Nat} {v:Value} {xs:List ByteArray} (h:StrsW w lo hi v xs) {a b:Nat} (s:Span a b w w') (hd:hi≤a∨b≤lo):StrsW w' lo hi v xs:=OwW.span h s hd
theorem StrsW.nil (w:World) (lo hi:Nat):StrsW w lo hi (.slice none 0 0) []:=OwW.nil _ _ _ _ _
theorem toStringS_w (a:Value) (xs:List ByteArray) (w:World) (ha:StrsR w a xs) (hn:xs.length≤1048576):
  Calls Tryz.prog 59 #[a] w fun e w'=> ∃ ao cap,e= .returned (.slice ao xs.length cap)∧StrsW w' w.heap.size w'.heap.size (.slice ao xs.length cap) xs∧Fr w w':=
 (toStringS_any a xs w ha hn).mono fun e w' h=>by
  obtain⟨v,rfl,ho,hf⟩:=h
  obtain⟨ao,cap,rfl⟩:=ho.val
  exact⟨ao,cap,rfl,OwW.of_owns ho,hf⟩
theorem eqStringS_same (a b:Value) (xs:List ByteArray) (w:World) (ha:StrsR w a xs) (hb:StrsR w b xs):
  Calls Tryz.prog 72 #[a,b] w fun e w'=>e= .returned (.bool true)∧Fr w w':=
 (eqStringS_any a b xs xs w ha hb).mono fun e w' h=>⟨by rw[h.1,decide_eq_true rfl],h.2⟩
def mkStrs (k:Int) (n:Nat):List ByteArray:=marksS k n
theorem mkStrs_length (k:Int) (n:Nat):(mkStrs k n).length=n:=marksS_length k n
theorem markStringS_w (v:Value) (xs:List ByteArray) (k:Int) (lo hi:Nat) (w:World) (ha:StrsW w lo hi v xs) (h0:0<k) (h1:k+1*xs.length≤1073741824):
  Calls Tryz.prog 76 #[v,.int .i64 k] w fun e w'=>e= .returned (.int .i64 (k+1*xs.length))∧StrsW w' lo hi v (mkStrs k xs.length)∧Span lo hi w w':=
 (markStrings_any v xs k lo w ha.1 h0 (by omega) (by omega)).mono fun e w' h=>⟨by rw[Int.one_mul];exact h.1,⟨h.2.1,ha.2⟩,Span.of_gr h.2.2 ha.2⟩
def IntsW (w:World) (lo hi:Nat) (v:Value) (xs:List Int):Prop:=OwW w lo hi 3 1 v xs.length (xs.map (Value.int .i64))
theorem IntsW.rd {w:World} {lo hi:Nat} {v:Value} {xs:List Int} (h:IntsW w lo hi v xs):IntsR w v xs:=OwW.rd h
theorem IntsW.val {w:World} {lo hi:Nat} {v:Value} {xs:List Int} (h:IntsW w lo hi v xs): ∃ ao cap,v= .slice ao xs.length cap:=OwW.val h
theorem IntsW.fr {w w':World} {lo hi:Nat} {v:Value} {xs:List Int} (h:IntsW w lo hi v xs) (hf:Fr w w'):IntsW w' lo hi v xs:=OwW.fr h hf
theorem IntsW.span {w w':World} {lo hi:Nat} {v:Value} {xs:List Int} (h:IntsW w lo hi v xs) {a b:Nat} (s:Span a b w w') (hd:hi≤a∨b≤lo):IntsW w' lo hi v xs:=OwW.span h s hd
theorem IntsW.nil (w:World) (lo hi:Nat):IntsW w lo hi (.slice none 0 0) []:=OwW.nil _ _ _ _ _
def BoolsW (w:World) (lo hi:Nat) (v:Value) (xs:List Bool):Prop:=OwW w lo hi 4 1 v xs.length (xs.map Value.bool)
theorem BoolsW.rd {w:World} {lo hi:Nat} {v:Value} {xs:List Bool} (h:BoolsW w lo hi v xs):BoolsR w v xs:=OwW.rd h
theorem BoolsW.val {w:World} {lo hi:Nat} {v:Value} {xs:List Bool} (h:BoolsW w lo hi v xs): ∃ ao cap,v= .slice ao xs.length cap:=OwW.val h
theorem BoolsW.fr {w w':World} {lo hi:Nat} {v:Value} {xs:List Bool} (h:BoolsW w lo hi v xs) (hf:Fr w w'):BoolsW w' lo hi v xs:=OwW.fr h hf
theorem BoolsW.span {w w':World} {lo hi:Nat} {v:Value} {xs:List Bool} (h:BoolsW w lo hi v xs) {a b:Nat} (s:Span a b w w') (hd:hi≤a∨b≤lo):BoolsW w' lo hi v xs:=OwW.span h s hd
theorem BoolsW.nil (w:World) (lo hi:Nat):BoolsW w lo hi (.slice none 0 0) []:=OwW.nil _ _ _ _ _
structure FrR where
 t:ByteArray
 e:Int
 ok:Bool
end Go.Proofs.YtmdgdnkllclpcaaGreat