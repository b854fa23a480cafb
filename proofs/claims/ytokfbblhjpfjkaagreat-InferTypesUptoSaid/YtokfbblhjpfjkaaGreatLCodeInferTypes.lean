/- InferTypesUptoSaid: whatever comes in, within the bulk of its row, porismlaw17.I -/
import Derived.Test.YtokfbblhjpfjkaaGreatLITypes
import Derived.Test.YtokfbblhjpfjkaaGreatGG
set_option linter.unusedSimpArgs false
set_option linter.unusedVariables false
namespace Go.Proofs.YtokfbblhjpfjkaaGreat
open Go.Aw Go.RowKit Go.ChangeShapes Go.WideShapes
theorem own:ownKnob Tryz.prog.godebug=none:=by kernel_rfl
set_option maxRecDepth 100000 in
theorem zEW(H:Type)(enc:TypeId×Value→H)(W:World)(base:Nat)(args:Array Value)(ds gs:List (DataW H))(before:List MemPlace)
 (hval: ∀ (j:Nat) t v,Tryz.f13.params[j]? =some t→args[j]? =some v→Value.okWide Tryz.prog W .any base t v)
 (hW:DataW.Whole enc Tryz.prog Tryz.f13.params.toList Rows.inferTypesSpec.vars false W args.toList ds gs before) (hk:Rows.uptoSmall H (ds++gs)=true):
 Calls Tryz.prog 13 args W fun e W'=> ∃ v,e=.returned v∧Rows.inferTypesSpec.post enc Tryz.prog Tryz.f13 false true false false W args v W':=by
 have hW':=hW
 obtain⟨p,q,hA0,hV,rfl,hfz,hnd⟩:=hW
 have hA:DataW.TrodAll enc Tryz.prog W 0 (fun _=>true) true Tryz.f13.params.toList args.toList ds p:=hA0
 rw[Tryz.params13]at hA hval
 obtain⟨v0,vs0,d0,ds0,p0,q0,hargs,rfl,rfl,h0,r0⟩:=trodAll_cons hA
 obtain⟨v1,vs1,d1,ds1,p1,q1,rfl,rfl,rfl,h1,r1⟩:=trodAll_cons r0
 obtain⟨v2,vs2,d2,ds2,p2,q2,rfl,rfl,rfl,h2,r2⟩:=trodAll_cons r1
 obtain⟨v3,vs3,d3,ds3,p3,q3,rfl,rfl,rfl,h3,r3⟩:=trodAll_cons r2
 obtain⟨v4,vs4,d4,ds4,p4,q4,rfl,rfl,rfl,h4,r4⟩:=trodAll_cons r3
 obtain⟨rfl,rfl,rfl⟩:=trodAll_nil r4
 obtain rfl:args= #[v0,v1,v2,v3,v4]:=by cases args;simp_all
 obtain⟨rfl,rfl⟩:=trodVars_none hV
 obtain⟨n0,h0⟩:=h0
 obtain⟨_,_,_,rfl⟩:=okWide_slice Tryz.underlying22 (hval 0 _ _ rfl rfl)
 obtain⟨x0,k0,s0⟩:=zsk h0
 obtain⟨n1,h1⟩:=h1
 obtain⟨_,_,_,rfl⟩:=okWide_slice Tryz.underlying23 (hval 1 _ _ rfl rfl)
 obtain⟨x1,k1,s1⟩:=zjF h1
 obtain⟨n2,h2⟩:=h2
 obtain⟨c2,rfl⟩:=zqa Tryz.underlying25 (hval 2 _ _ rfl rfl)
 obtain⟨x2,k2,s2⟩:=zeK _ _ _ _ h2
 obtain⟨n3,h3⟩:=h3
 obtain⟨c3,rfl⟩:=zqa Tryz.underlying25 (hval 3 _ _ rfl rfl)
 obtain⟨x3,k3,s3⟩:=zeK _ _ _ _ h3
 obtain⟨n4,h4⟩:=h4
 obtain⟨x4,rfl⟩:=okWide_bool Tryz.underlying4 (hval 4 _ _ rfl rfl)
 have hk:Rows.uptoBulkAll [d0,d1,d2,d3,d4]≤1048576:=of_decide_eq_true hk
 simp only[Rows.uptoBulkAll]at hk
 have b0:=zdf d0
 have b1:=zdf d1
 have b2:=zdf d2
 have b3:=zdf d3
 have b4:=zdf d4
 refine zrc laid (zGs x0 x1 x2 x3 x4 (by first|omega|(simp only[sizes];omega))).pc hW' rfl (fun j hj=>?_) rfl (by decide) rfl rfl rfl (tb:=4) (by kernel_rfl) Tryz.underlying4
 match j,hj with
 |0,_=>exact zml k0
 |1,_=>exact zml k1
 |2,_=>exact ztR k2
 |3,_=>exact ztR k3
 |4,_=>exact .bool _
set_option maxRecDepth 100000 in
theorem zFY(os:Os)(started:os.Started)(H:Type)(enc:TypeId×Value→H)(F:Stop.Interp):
 ReturnsInHanded {} Tryz.checked os 13 .any ((Rows.OpenSpec.upto Rows.inferTypesSpec).pre6 enc Tryz.prog Tryz.f13 Rows.inferTypesUptoRow.domain false) (((Rows.OpenSpec.upto Rows.inferTypesSpec).at F).post enc Tryz.prog Tryz.f13 false true false false):=by
 refine returnsInHanded_of_cond (C:=Tryz.checked) (s:=Rows.OpenSpec.upto Rows.inferTypesSpec) (k:=Rows.uptoSmall) rfl own started (by kernel_rfl) Tryz.func13
  (OpenSpec.witness (enc:=enc) (C:=Tryz.checked) (s:=Rows.OpenSpec.upto Rows.inferTypesSpec) (k:=Rows.uptoSmall) rfl false
    ⟨#[], #[.slice none 0 0,.slice none 0 0,.agg #[.int .i64 0,.int .i64 0,.slice none 0 0],.agg #[.int .i64 0,.int .i64 0,.slice none 0 0],.bool false],[]⟩ 8 (by kernel_rfl) (by kernel_rfl) (by kernel_rfl)
    (x:=([.nil,.nil,.agg [.lit (.int .i64 0),.lit (.int .i64 0),.nil],.agg [.lit (.int .i64 0),.lit (.int .i64 0),.nil],.lit (.bool false)],[],[])) (by kernel_rfl) rfl (by kernel_rfl)) ?_
 intro W base args ds gs before hval hW _ hk _
 exact zEW H enc W base args ds gs before hval hW hk
theorem zGl:(Tryz.pinned).checked.prog.funcNamed Rows.inferTypesUptoRow.func=some 13:=by kernel_rfl
theorem zGj:joinedFacts (Tryz.pinned).checked.prog 13 Tryz.f13 (Rows.OpenSpec.upto Rows.inferTypesSpec).bare Rows.inferTypesUptoRow=true:=by kernel_rfl
theorem zGU:Tryz.f13.isInstance (Tryz.pinned).checked.prog Rows.inferTypesUptoRow.origin Rows.inferTypesUptoRow.targs:=of_decide_eq_true (by kernel_rfl)
theorem zGT:Tryz.f13.isWrapper (Tryz.pinned).checked.prog Rows.inferTypesUptoRow.wrapper Rows.inferTypesUptoRow.mainSum:=by unfold Func.isWrapper;first|(rw[if_pos (by decide+kernel)];kernel_rfl)|(rw[if_neg (by decide+kernel)];exact⟨rfl,rfl⟩)
theorem inferTypes_holds:Rows.InferTypesUptoSaid:=
 OpenClaim.holds_of_cond 13 Tryz.f13 rfl rfl rfl rfl rfl rfl rfl ⟨rfl,rfl,rfl,rfl,rfl⟩ rfl rfl rfl rfl rfl zGl Tryz.func13 zGj zGU zGT
  (fun os started H enc _ F=>zFY os started H enc F)
end Go.Proofs.YtokfbblhjpfjkaaGreat
#print axioms Go.Proofs.YtokfbblhjpfjkaaGreat.inferTypes_holds
