/- laws.FnExactRoamAll: for every input the law returns true and each argument reads as before. No condition. -/
import Derived.Test.YtmdgdnkllclpcaaGreatLRoamAll
import Derived.Test.YtmdgdnkllclpcaaGreatOSEdge
import Derived.Test.YtmdgdnkllclpcaaGreatOSAtom
import Derived.Test.YtmdgdnkllclpcaaGreatGOSWalk
import Derived.Lib.SmallJoins
namespace Go.Proofs.YtmdgdnkllclpcaaGreat.fnExactRoamAll
open Go.RowKit Go.ChangeShapes Go.WideShapes Go.ChangeAt Go.Joins
set_option linter.unusedVariables false
set_option linter.unusedSimpArgs false
theorem kSt0:Tryz.prog.cellsOf 48=2:=by kernel_rfl
theorem kSt1:Tryz.prog.cellsOf 26=4:=by kernel_rfl
theorem kStr:Tryz.prog.cellsOf 9=1:=by kernel_rfl
theorem kInt:Tryz.prog.cellsOf 3=1:=by kernel_rfl

set_option maxRecDepth 100000 in
theorem contract (H:Type) (enc:TypeId×Value→H) (W:World) (base:Nat) (args:Array Value) (ds gs:List (DataW H)) (before:List MemPlace)
  (hval: ∀ (j:Nat) t v,Tryz.f10.params[j]? =some t→args[j]? =some v→Value.okWide Tryz.prog W .any base t v)
  (hW:DataW.Whole enc Tryz.prog Tryz.f10.params.toList Rows.fnExactRoamAllSpec.vars false W args.toList ds gs before):
  Calls Tryz.prog 10 args W fun e W'=> ∃ v,e= .returned v∧Rows.fnExactRoamAllSpec.post enc Tryz.prog Tryz.f10 false true false false W args v W':=by
 have hW':=hW
 obtain⟨p,q,hA0,hV,rfl,hfz,hnd⟩:=hW
 have hA:DataW.TrodAll enc Tryz.prog W 0 (fun _=>true) true Tryz.f10.params.toList args.toList ds p:=hA0
 rw[Tryz.params10]at hA hval
 obtain⟨v0,vs0,d0,ds0,p0,q0,hargs,rfl,rfl,h0,r0⟩:=trodAll_cons hA
 obtain⟨v1,vs1,d1,ds1,p1,q1,rfl,rfl,rfl,h1,r1⟩:=trodAll_cons r0
 obtain⟨v2,vs2,d2,ds2,p2,q2,rfl,rfl,rfl,h2,r2⟩:=trodAll_cons r1
 obtain⟨v3,vs3,d3,ds3,p3,q3,rfl,rfl,rfl,h3,r3⟩:=trodAll_cons r2
 obtain⟨rfl,rfl,rfl⟩:=trodAll_nil r3
 obtain rfl:args= #[v0,v1,v2,v3]:=by cases args;simp_all
 obtain⟨rfl,rfl⟩:=trodVars_none hV
 obtain⟨cs0,rfl,hl0,m0,g0⟩:=open_struct Tryz.underlying48 (by kernel_rfl) kSt0 (hval 0 48 v0 rfl rfl) h0
 obtain⟨x0_0,x0_1,rfl⟩:=list2 hl0
 obtain⟨y0_0,g0_0⟩:=g0 0 _ rfl
 obtain⟨a0_0,e0_0,_,w0_0⟩:=DataW.trod_int Tryz.underlying3 g0_0
 obtain⟨y0_1,g0_1⟩:=g0 1 _ rfl
 obtain⟨l0_1,r0_1,w0_1⟩:=open_edgesR g0_1
 simp only[List.getD_cons_zero,List.getD_cons_succ,List.cons.injEq,and_true]at e0_0
 subst e0_0
 obtain⟨cs1,rfl,hl1,m1,g1⟩:=open_struct Tryz.underlying26 (by kernel_rfl) kSt1 (hval 1 26 v1 rfl rfl) h1
 obtain⟨x1_0,x1_1,x1_2,x1_3,rfl⟩:=list4 hl1
 obtain⟨y1_0,g1_0⟩:=g1 0 _ rfl
 obtain⟨a1_0,e1_0,_⟩:=DataW.trod_bool Tryz.underlying4 g1_0
 obtain⟨y1_1,g1_1⟩:=g1 1 _ rfl
 obtain⟨l1_1,r1_1,w1_1⟩:=open_strsR Tryz.underlying22 Tryz.underlying9 kStr g1_1
 obtain⟨y1_2,g1_2⟩:=g1 2 _ rfl
 obtain⟨l1_2,r1_2,w1_2⟩:=open_atomsR g1_2
 obtain⟨y1_3,g1_3⟩:=g1 3 _ rfl
 obtain⟨l1_3,r1_3,w1_3⟩:=open_filtersR g1_3
 simp only[List.getD_cons_zero,List.getD_cons_succ,List.cons.injEq,and_true]at e1_0
 subst e1_0
 obtain⟨a2,rfl,rfl,rfl,w2⟩:=Go.ChangeShapes.open_int Tryz.underlying3 (hval 2 3 v2 rfl rfl) h2
 obtain⟨sa3,sl3,sc3,rfl⟩:=okWide_slice Tryz.underlying86 (hval 3 86 v3 rfl rfl)
 obtain⟨fu3,hf3⟩:=h3
 obtain⟨l3,rd3,wd3⟩:=open_intsR Tryz.underlying86 Tryz.underlying3 kInt hf3
 refine(fnRoamAll_of _ ⟨a0_0,l0_1⟩ trivial _ ⟨a1_0,l1_1,l1_2,l1_3⟩ ⟨w1_1,fun x hx=>⟨(w1_2 x hx).1,(w1_2 x hx).2.1,(w1_2 x hx).2.2⟩,fun x hx=>⟨(w1_3 x hx).1,(w1_3 x hx).2.2.1⟩⟩ a2 _ l3 W ⟨_,rfl,r0_1⟩ ⟨_,_,_,rfl,r1_1,r1_2,r1_3⟩ rd3 (allD ⟨a0_0,l0_1⟩ ⟨a1_0,l1_1,l1_2,l1_3⟩ a2 l3) (fun _ _ _=>allD_cnt _ _ _ _) (allOk ⟨a0_0,l0_1⟩ ⟨a1_0,l1_1,l1_2,l1_3⟩ a2 l3) (fun _ hn hp v0 v1 v3 w hg hq hr=>specRoamAll_any v0 v1 v3 _ _ a2 _ w hg hq hr hn hp) (fun _ hn hp v0 v1 v3 w hg hq hr=>implRoamAll_any v0 v1 v3 _ _ a2 _ w hg hq hr hn hp)).mono fun e W' ⟨he,hb⟩=>⟨_,he,law_post Try_laidOut (by kernel_rfl) (by kernel_rfl) Tryz.underlying4 rfl rfl hW' hb⟩

set_option maxRecDepth 100000 in
theorem lifted (os:Os) (started:os.Started) (H:Type) (enc:TypeId×Value→H):
  ReturnsInHanded {} Tryz.checked os 10 .any (Rows.fnExactRoamAllSpec.pre6 enc Tryz.prog Tryz.f10 Rows.fnExactRoamAllRow.domain false) (Rows.fnExactRoamAllSpec.post enc Tryz.prog Tryz.f10 false true false false):=by
 refine returnsInHanded_of_change (C:=Tryz.checked) Try_own started (by kernel_rfl) Tryz.func10
  (ChangeSpec.witness6 (enc:=enc) (C:=Tryz.checked) false ⟨#[], #[.agg #[.int .i64 0,.slice none 0 0],.agg #[.bool false,.slice none 0 0,.slice none 0 0,.slice none 0 0],.int .i64 0,.slice none 0 0],[]⟩ 8 (by kernel_rfl) (by kernel_rfl) (by kernel_rfl) (by kernel_rfl)) ?_
 intro W base args ds gs before hval hW _ _
 exact contract H enc W base args ds gs before hval hW

theorem proved:Rows.FnExactRoamAllSaid:=
 OpenClaim.holds_of_wide 10 Tryz.f10 rfl rfl rfl rfl rfl rfl rfl ⟨rfl,rfl,rfl,rfl,rfl⟩ rfl rfl rfl rfl rfl (by kernel_rfl) Tryz.func10 (by kernel_rfl)
  (of_decide_eq_true (by kernel_rfl)) (by unfold Func.isWrapper;first|(rw[if_pos (by decide+kernel)];kernel_rfl)|(rw[if_neg (by decide+kernel)];exact⟨rfl,rfl⟩))
  (fun os started H enc _=>lifted os started H enc)
#print axioms proved
end Go.Proofs.YtmdgdnkllclpcaaGreat.fnExactRoamAll
