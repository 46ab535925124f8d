/- RoamNew, RoamStep: what their ends say; isWorkers. No condition. -/
import Derived.Test.YtmdgdnkllclpcaaGreatGNWalkSS2
import Derived.Test.YtmdgdnkllclpcaaGreatGParP
namespace Go.Proofs.YtmdgdnkllclpcaaGreat
open Go.RowKit
set_option linter.unusedVariables false
set_option linter.unusedSimpArgs false
def RnPost (w:World) (r:RoamD) (ok:Bool) (e:Ending) (w':World):Prop:= ∃ a1 c1 a2 c2,e= .returned (.tuple #[.agg #[.slice a1 r.f0.length c1,.slice a2 r.f1.length c2],.bool ok])∧RoamW w' w.heap.size w'.heap.size (.agg #[.slice a1 r.f0.length c1,.slice a2 r.f1.length c2]) r∧Fr w w'
def PaPost (w:World) (ps:List ParcelD) (e:Ending) (w':World):Prop:= ∃ (M:List (Itm ParcelD)) (a:Option Addr) (c:Nat),e= .returned (.slice a M.length c)∧M.map Itm.x=ps∧RdS w' 2 (.slice a M.length c) M.length (M.map Itm.u).flatten∧(∀ u∈(M.map Itm.u).flatten,u.oneCell'=true)∧ElsV ParcelEW 2 w' (fun g=>w.heap.size≤g∧g<w'.heap.size) M∧Fr w w'
theorem PaPost.of {w w':World} {xs:List ParcelD} {ao:Option Addr} {cap:Nat} (h:ParcelSW w' w.heap.size w'.heap.size (.slice ao xs.length cap) xs) (hf:Fr w w'):PaPost w xs (.returned (.slice ao xs.length cap)) w':=by
 obtain⟨M,h1,h2,h3,h4,h5⟩:=h.parts
 exact⟨M,ao,cap,by rw[h2],h1,by rw[← h2]at h3;exact h3,h4,h5,hf⟩
theorem walk_row {w:World} {l0 h0:Nat} {a:Option Addr} {c:Nat} {xs:List WalkR} (h:WalksW w l0 h0 (.slice a xs.length c) xs):WalkssEW w l0 h0 [.slice a xs.length c] xs:=⟨a,c,rfl,h⟩
theorem isWorkers_any (n:Int) (w:World):
  Calls Tryz.prog 101 #[.int .i64 n] w fun e w'=>e= .returned (.bool (decide (1≤n∧n≤8)))∧Fr w w':=by
 by_cases h:1≤n
 · have g1:decide (1≤n)=true:=by simpa using h
   go_enter Tryz.func101,Tryz.ntmps101
   go_wp2_with fail
   all_goals go_ret
   all_goals exact⟨ret_bool (by first|(rw[Bool.eq_iff_iff];(simp<;>omega))|(simp[h]<;>omega)|simp_all),by exact Qf⟩
 · have g1:decide (1≤n)=false:=by simpa using h
   go_enter Tryz.func101,Tryz.ntmps101
   go_wp2_with fail
   go_ret
   exact⟨ret_bool (by first|(rw[Bool.eq_iff_iff];(simp<;>omega))|(simp[h]<;>omega)|simp_all),by exact Qf⟩
end Go.Proofs.YtmdgdnkllclpcaaGreat
