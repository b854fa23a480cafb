/- NormDefsUptoSaid: whatever comes in, within the bulk of its row, porismlaw16.Nor -/
import Derived.Test.YtokfbblhjpfjkaaGreatLNDefs
import Derived.Test.YtokfbblhjpfjkaaGreatGG
namespace Go.Proofs.YtokfbblhjpfjkaaGreat
set_option linter.unusedSimpArgs false
set_option linter.unusedVariables false
open Go.Aw Go.RowKit Go.ChangeShapes Go.WideShapes
theorem own:ownKnob Tryz.prog.godebug=none:=by kernel_rfl
set_option maxRecDepth 100000 in
theorem zzY(H:Type)(enc:TypeId×Value→H)(W:World)(base:Nat)(args:Array Value)(ds gs:List (DataW H))(before:List MemPlace)
 (hval: ∀ (j:Nat) t v,Tryz.f4.params[j]? =some t→args[j]? =some v→Value.okWide Tryz.prog W .any base t v)
 (hW:DataW.Whole enc Tryz.prog Tryz.f4.params.toList Rows.normDefsSpec.vars false W args.toList ds gs before) (hk:Rows.uptoSmall H (ds++gs)=true):
 Calls Tryz.prog 4 args W fun e W'=> ∃ v,e=.returned v∧Rows.normDefsSpec.post enc Tryz.prog Tryz.f4 false true false false W args v W':=by
 have hW':=hW
 obtain⟨p,q,hA0,hV,rfl,hfz,hnd⟩:=hW
 have hA:DataW.TrodAll enc Tryz.prog W 0 (fun _=>true) true Tryz.f4.params.toList args.toList ds p:=hA0
 rw[Tryz.params4]at hA hval
 obtain⟨v0,vs0,d0,ds0,p0,q0,hargs,rfl,rfl,h0,r0⟩:=trodAll_cons hA
 obtain⟨v1,vs1,d1,ds1,p1,q1,rfl,rfl,rfl,h1,r1⟩:=trodAll_cons r0
 obtain⟨rfl,rfl,rfl⟩:=trodAll_nil r1
 obtain rfl:args= #[v0,v1]:=by cases args;simp_all
 obtain⟨rfl,rfl⟩:=trodVars_none hV
 obtain⟨n0,h0⟩:=h0
 obtain⟨_,_,_,rfl⟩:=okWide_slice Tryz.underlying22 (hval 0 _ _ rfl rfl)
 obtain⟨x0,k0,s0⟩:=zsk h0
 obtain⟨n1,h1⟩:=h1
 obtain⟨x1,rfl⟩:=okWide_int Tryz.underlying3 (hval 1 _ _ rfl rfl)
 have hk:Rows.uptoBulkAll [d0,d1]≤1048576:=of_decide_eq_true hk
 simp only[Rows.uptoBulkAll]at hk
 have b0:=zdf d0
 have b1:=zdf d1
 refine zrc laid (zA0 x0 x1 (by first|omega|(simp only[sizes];omega))).pc hW' rfl (fun j hj=>?_) rfl (by decide) rfl rfl rfl (tb:=4) (by kernel_rfl) Tryz.underlying4
 match j,hj with
 |0,_=>exact zml k0
 |1,_=>exact .int _ _
set_option maxRecDepth 100000 in
theorem zAt(os:Os)(started:os.Started)(H:Type)(enc:TypeId×Value→H)(F:Stop.Interp):
 ReturnsInHanded {} Tryz.checked os 4 .any ((Rows.OpenSpec.upto Rows.normDefsSpec).pre6 enc Tryz.prog Tryz.f4 Rows.normDefsUptoRow.domain false) (((Rows.OpenSpec.upto Rows.normDefsSpec).at F).post enc Tryz.prog Tryz.f4 false true false false):=by
 refine returnsInHanded_of_cond (C:=Tryz.checked) (s:=Rows.OpenSpec.upto Rows.normDefsSpec) (k:=Rows.uptoSmall) rfl own started (by kernel_rfl) Tryz.func4
  (OpenSpec.witness (enc:=enc) (C:=Tryz.checked) (s:=Rows.OpenSpec.upto Rows.normDefsSpec) (k:=Rows.uptoSmall) rfl false
    ⟨#[], #[.slice none 0 0,.int .i64 0],[]⟩ 8 (by kernel_rfl) (by kernel_rfl) (by kernel_rfl)
    (x:=([.nil,.lit (.int .i64 0)],[],[])) (by kernel_rfl) rfl (by kernel_rfl)) ?_
 intro W base args ds gs before hval hW _ hk _
 exact zzY H enc W base args ds gs before hval hW hk
theorem zAQ:(Tryz.pinned).checked.prog.funcNamed Rows.normDefsUptoRow.func=some 4:=by kernel_rfl
theorem zAP:joinedFacts (Tryz.pinned).checked.prog 4 Tryz.f4 (Rows.OpenSpec.upto Rows.normDefsSpec).bare Rows.normDefsUptoRow=true:=by kernel_rfl
theorem zAY:Tryz.f4.isInstance (Tryz.pinned).checked.prog Rows.normDefsUptoRow.origin Rows.normDefsUptoRow.targs:=of_decide_eq_true (by kernel_rfl)
theorem zBa:Tryz.f4.isWrapper (Tryz.pinned).checked.prog Rows.normDefsUptoRow.wrapper Rows.normDefsUptoRow.mainSum:=by unfold Func.isWrapper;first|(rw[if_pos (by decide+kernel)];kernel_rfl)|(rw[if_neg (by decide+kernel)];exact⟨rfl,rfl⟩)
theorem normDefs_holds:Rows.NormDefsUptoSaid:=
 OpenClaim.holds_of_cond 4 Tryz.f4 rfl rfl rfl rfl rfl rfl rfl ⟨rfl,rfl,rfl,rfl,rfl⟩ rfl rfl rfl rfl rfl zAQ Tryz.func4 zAP zAY zBa
  (fun os started H enc _ F=>zAt os started H enc F)
end Go.Proofs.YtokfbblhjpfjkaaGreat
#print axioms Go.Proofs.YtokfbblhjpfjkaaGreat.normDefs_holds
