/- laws.sameWalks, laws.big at equal walks; laws.FnStarts's small calls. No condition but the reading. -/
import Derived.Test.YtjnahjgncmcmdaaGreatGSWalk
import Derived.BigQuiet
namespace Go.Proofs.YtjnahjgncmcmdaaGreat
open Go.RowKit
set_option linter.unusedVariables false
set_option linter.unusedSimpArgs false
theorem bigS_any (ao:Option Addr) (n cap:Nat) (w:World) (hn:n≤9223372036854775807):
  Calls Tryz.prog 9 #[.slice ao n cap] w fun e w'=>e= .returned (.bool (decide (1048576<(n:Int))))∧w=w':=by
 go_enter Tryz.func9,Tryz.ntmps9
 go_wp2
 go_ret
 exact⟨rfl,rfl⟩
theorem sameWalks_same (a b:Value) (xs:List WalkR) (w:World) (ha:WalksR w a xs) (hb:WalksR w b xs):
  Calls Tryz.prog 19 #[a,b] w fun e w'=>e= .returned (.bool true)∧Fr w w':=by
 obtain⟨ao,ba,oa,ca,rfl,hca,hma,fa⟩:=ha.one
 obtain⟨bo,bb,ob,cb,rfl,hcb,hmb,fb⟩:=hb.one
 have FA:=Lib.hid fa;have FB:=Lib.hid fb
 clear ha hb fa fb
 go_enter Tryz.func19,Tryz.ntmps19
 go_wp2
 go_loopw [5] (fun i wr=> ∃ k:Nat,k≤xs.length∧i= .int .i64 k∧Fr w wr) (fun i _=>xs.length-(intOf i).toNat)
 case atStart=>exact⟨0,Nat.zero_le _,rfl,Fr.refl _⟩
 case round=>
  obtain⟨k,hk,rfl,hfr⟩:=hrel
  by_cases hlt:k<xs.length
  · obtain⟨rfl,hba,fa⟩:=FA.out (by omega)
    obtain⟨rfl,hbb,fb⟩:=FB.out (by omega)
    obtain⟨x,hx⟩: ∃ x,walkAt xs k=x:=⟨_,rfl⟩
    obtain⟨c0,c1,c2,c3⟩:=fa k hlt
    obtain⟨d0,d1,d2,d3⟩:=fb k hlt
    rw[hx]at c0 c1 c2 c3 d0 d1 d2 d3
    have c0:=(hfr.cell (p:=⟨ba,_,none⟩) hba).trans c0
    have c1:=(hfr.cell (p:=⟨ba,_,none⟩) hba).trans c1
    have c2:=(hfr.cell (p:=⟨ba,_,none⟩) hba).trans c2
    have c3:=(hfr.cell (p:=⟨ba,_,none⟩) hba).trans c3
    have d0:=(hfr.cell (p:=⟨bb,_,none⟩) hbb).trans d0
    have d1:=(hfr.cell (p:=⟨bb,_,none⟩) hbb).trans d1
    have d2:=(hfr.cell (p:=⟨bb,_,none⟩) hbb).trans d2
    have d3:=(hfr.cell (p:=⟨bb,_,none⟩) hbb).trans d3
    obtain⟨x0,x1,x2,x3⟩:=x
    simp only[]at c0 c1 c2 c3 d0 d1 d2 d3
    clear fa fb hx FA FB
    go_wp2_with fail
    go_quiet (fail)
    go_wp2_with fail
    go_roundw
    case rel=>exact⟨k+1,by omega,by go_num,by exact Qf⟩
    case measure=>(simp[intOf];omega)
  · clear FA FB
    go_wp2
    go_ret
    exact⟨rfl,hfr⟩
end Go.Proofs.YtjnahjgncmcmdaaGreat
