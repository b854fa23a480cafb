/- NormStepsUptoSaid: whatever comes in, within the bulk of its row, porismlaw16.No -/
import Derived.Test.YtokfbblhjpfjkaaGreatLNSteps
import Derived.Test.YtokfbblhjpfjkaaGreatGG
namespace Go.Proofs.YtokfbblhjpfjkaaGreat
set_option linter.unusedSimpArgs false
set_option linter.unusedVariables false
open Go.Aw Go.RowKit Go.ChangeShapes Go.WideShapes
theorem own:ownKnob Tryz.prog.godebug=none:=by kernel_rfl
set_option maxRecDepth 100000 in
theorem zzL(H:Type)(enc:TypeId×Value→H)(W:World)(base:Nat)(args:Array Value)(ds gs:List (DataW H))(before:List MemPlace)
 (hval: ∀ (j:Nat) t v,Tryz.f7.params[j]? =some t→args[j]? =some v→Value.okWide Tryz.prog W .any base t v)
 (hW:DataW.Whole enc Tryz.prog Tryz.f7.params.toList Rows.normStepsSpec.vars false W args.toList ds gs before) (hk:Rows.uptoSmall H (ds++gs)=true):
 Calls Tryz.prog 7 args W fun e W'=> ∃ v,e=.returned v∧Rows.normStepsSpec.post enc Tryz.prog Tryz.f7 false true false false W args v W':=by
 have hW':=hW
 obtain⟨p,q,hA0,hV,rfl,hfz,hnd⟩:=hW
 have hA:DataW.TrodAll enc Tryz.prog W 0 (fun _=>true) true Tryz.f7.params.toList args.toList ds p:=hA0
 rw[Tryz.params7]at hA hval
 obtain⟨v0,vs0,d0,ds0,p0,q0,hargs,rfl,rfl,h0,r0⟩:=trodAll_cons hA
 obtain⟨v1,vs1,d1,ds1,p1,q1,rfl,rfl,rfl,h1,r1⟩:=trodAll_cons r0
 obtain⟨v2,vs2,d2,ds2,p2,q2,rfl,rfl,rfl,h2,r2⟩:=trodAll_cons r1
 obtain⟨rfl,rfl,rfl⟩:=trodAll_nil r2
 obtain rfl:args= #[v0,v1,v2]:=by cases args;simp_all
 obtain⟨rfl,rfl⟩:=trodVars_none hV
 obtain⟨n0,h0⟩:=h0
 obtain⟨_,_,_,rfl⟩:=okWide_slice Tryz.underlying22 (hval 0 _ _ rfl rfl)
 obtain⟨x0,k0,s0⟩:=zsk h0
 obtain⟨n1,h1⟩:=h1
 obtain⟨c1,rfl⟩:=zqa Tryz.underlying25 (hval 1 _ _ rfl rfl)
 obtain⟨x1,k1,s1⟩:=zeK _ _ _ _ h1
 obtain⟨n2,h2⟩:=h2
 obtain⟨x2,rfl⟩:=okWide_int Tryz.underlying3 (hval 2 _ _ rfl rfl)
 have hk:Rows.uptoBulkAll [d0,d1,d2]≤1048576:=of_decide_eq_true hk
 simp only[Rows.uptoBulkAll]at hk
 have b0:=zdf d0
 have b1:=zdf d1
 have b2:=zdf d2
 refine zrc laid (zAL x0 x1 x2 (by first|omega|(simp only[sizes];omega))).pc hW' rfl (fun j hj=>?_) rfl (by decide) rfl rfl rfl (tb:=4) (by kernel_rfl) Tryz.underlying4
 match j,hj with
 |0,_=>exact zml k0
 |1,_=>exact ztR k1
 |2,_=>exact .int _ _
set_option maxRecDepth 100000 in
theorem zAd(os:Os)(started:os.Started)(H:Type)(enc:TypeId×Value→H)(F:Stop.Interp):
 ReturnsInHanded {} Tryz.checked os 7 .any ((Rows.OpenSpec.upto Rows.normStepsSpec).pre6 enc Tryz.prog Tryz.f7 Rows.normStepsUptoRow.domain false) (((Rows.OpenSpec.upto Rows.normStepsSpec).at F).post enc Tryz.prog Tryz.f7 false true false false):=by
 refine returnsInHanded_of_cond (C:=Tryz.checked) (s:=Rows.OpenSpec.upto Rows.normStepsSpec) (k:=Rows.uptoSmall) rfl own started (by kernel_rfl) Tryz.func7
  (OpenSpec.witness (enc:=enc) (C:=Tryz.checked) (s:=Rows.OpenSpec.upto Rows.normStepsSpec) (k:=Rows.uptoSmall) rfl false
    ⟨#[], #[.slice none 0 0,.agg #[.int .i64 0,.int .i64 0,.slice none 0 0],.int .i64 0],[]⟩ 8 (by kernel_rfl) (by kernel_rfl) (by kernel_rfl)
    (x:=([.nil,.agg [.lit (.int .i64 0),.lit (.int .i64 0),.nil],.lit (.int .i64 0)],[],[])) (by kernel_rfl) rfl (by kernel_rfl)) ?_
 intro W base args ds gs before hval hW _ hk _
 exact zzL H enc W base args ds gs before hval hW hk
theorem zAs:(Tryz.pinned).checked.prog.funcNamed Rows.normStepsUptoRow.func=some 7:=by kernel_rfl
theorem zAq:joinedFacts (Tryz.pinned).checked.prog 7 Tryz.f7 (Rows.OpenSpec.upto Rows.normStepsSpec).bare Rows.normStepsUptoRow=true:=by kernel_rfl
theorem zAI:Tryz.f7.isInstance (Tryz.pinned).checked.prog Rows.normStepsUptoRow.origin Rows.normStepsUptoRow.targs:=of_decide_eq_true (by kernel_rfl)
theorem zAR:Tryz.f7.isWrapper (Tryz.pinned).checked.prog Rows.normStepsUptoRow.wrapper Rows.normStepsUptoRow.mainSum:=by unfold Func.isWrapper;first|(rw[if_pos (by decide+kernel)];kernel_rfl)|(rw[if_neg (by decide+kernel)];exact⟨rfl,rfl⟩)
theorem normSteps_holds:Rows.NormStepsUptoSaid:=
 OpenClaim.holds_of_cond 7 Tryz.f7 rfl rfl rfl rfl rfl rfl rfl ⟨rfl,rfl,rfl,rfl,rfl⟩ rfl rfl rfl rfl rfl zAs Tryz.func7 zAq zAI zAR
  (fun os started H enc _ F=>zAd os started H enc F)
end Go.Proofs.YtokfbblhjpfjkaaGreat
#print axioms Go.Proofs.YtokfbblhjpfjkaaGreat.normSteps_holds
