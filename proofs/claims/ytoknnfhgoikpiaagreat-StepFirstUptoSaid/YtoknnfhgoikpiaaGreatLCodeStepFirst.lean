/- StepFirstUptoSaid: whatever comes in, within the bulk of its row, porismlaw15.St -/
import Derived.Test.YtoknnfhgoikpiaaGreatLFirst
import Derived.Test.YtoknnfhgoikpiaaGreatGG
namespace Go.Proofs.YtoknnfhgoikpiaaGreat
set_option linter.unusedSimpArgs false
set_option linter.unusedVariables false
open Go.Aw Go.RowKit Go.ChangeShapes Go.WideShapes
theorem own:ownKnob Tryz.prog.godebug=none:=by kernel_rfl
set_option maxRecDepth 100000 in
theorem zve(H:Type)(enc:TypeId×Value→H)(W:World)(base:Nat)(args:Array Value)(ds gs:List (DataW H))(before:List MemPlace)
 (hval: ∀ (j:Nat) t v,Tryz.f12.params[j]? =some t→args[j]? =some v→Value.okWide Tryz.prog W .any base t v)
 (hW:DataW.Whole enc Tryz.prog Tryz.f12.params.toList Rows.stepFirstSpec.vars false W args.toList ds gs before) (hk:Rows.uptoSmall H (ds++gs)=true):
 Calls Tryz.prog 12 args W fun e W'=> ∃ v,e=.returned v∧Rows.stepFirstSpec.post enc Tryz.prog Tryz.f12 false true false false W args v W':=by
 have hW':=hW
 obtain⟨p,q,hA0,hV,rfl,hfz,hnd⟩:=hW
 have hA:DataW.TrodAll enc Tryz.prog W 0 (fun _=>true) true Tryz.f12.params.toList args.toList ds p:=hA0
 rw[Tryz.params12]at hA hval
 obtain⟨v0,vs0,d0,ds0,p0,q0,hargs,rfl,rfl,h0,r0⟩:=trodAll_cons hA
 obtain⟨v1,vs1,d1,ds1,p1,q1,rfl,rfl,rfl,h1,r1⟩:=trodAll_cons r0
 obtain⟨rfl,rfl,rfl⟩:=trodAll_nil r1
 obtain rfl:args= #[v0,v1]:=by cases args;simp_all
 obtain⟨rfl,rfl⟩:=trodVars_none hV
 obtain⟨n0,h0⟩:=h0
 obtain⟨_,_,_,rfl⟩:=okWide_slice Tryz.underlying22 (hval 0 _ _ rfl rfl)
 obtain⟨x0,k0,s0⟩:=zsk h0
 obtain⟨n1,h1⟩:=h1
 obtain⟨c1,rfl⟩:=zqa Tryz.underlying25 (hval 1 _ _ rfl rfl)
 obtain⟨x1,k1,s1⟩:=zeK _ _ _ _ h1
 have hk:Rows.uptoBulkAll [d0,d1]≤1048576:=of_decide_eq_true hk
 simp only[Rows.uptoBulkAll]at hk
 have b0:=zdf d0
 have b1:=zdf d1
 refine zrc laid (zwp x0 x1 (by first|omega|(simp only[sizes];omega))).pc hW' rfl (fun j hj=>?_) rfl (by decide) rfl rfl rfl (tb:=4) (by kernel_rfl) Tryz.underlying4
 match j,hj with
 |0,_=>exact zml k0
 |1,_=>exact ztR k1
set_option maxRecDepth 100000 in
theorem zv4(os:Os)(started:os.Started)(H:Type)(enc:TypeId×Value→H)(F:Stop.Interp):
 ReturnsInHanded {} Tryz.checked os 12 .any ((Rows.OpenSpec.upto Rows.stepFirstSpec).pre6 enc Tryz.prog Tryz.f12 Rows.stepFirstUptoRow.domain false) (((Rows.OpenSpec.upto Rows.stepFirstSpec).at F).post enc Tryz.prog Tryz.f12 false true false false):=by
 refine returnsInHanded_of_cond (C:=Tryz.checked) (s:=Rows.OpenSpec.upto Rows.stepFirstSpec) (k:=Rows.uptoSmall) rfl own started (by kernel_rfl) Tryz.func12
  (OpenSpec.witness (enc:=enc) (C:=Tryz.checked) (s:=Rows.OpenSpec.upto Rows.stepFirstSpec) (k:=Rows.uptoSmall) rfl false
    ⟨#[], #[.slice none 0 0,.agg #[.int .i64 0,.int .i64 0,.slice none 0 0]],[]⟩ 8 (by kernel_rfl) (by kernel_rfl) (by kernel_rfl)
    (x:=([.nil,.agg [.lit (.int .i64 0),.lit (.int .i64 0),.nil]],[],[])) (by kernel_rfl) rfl (by kernel_rfl)) ?_
 intro W base args ds gs before hval hW _ hk _
 exact zve H enc W base args ds gs before hval hW hk
theorem zwi:(Tryz.pinned).checked.prog.funcNamed Rows.stepFirstUptoRow.func=some 12:=by kernel_rfl
theorem zwh:joinedFacts (Tryz.pinned).checked.prog 12 Tryz.f12 (Rows.OpenSpec.upto Rows.stepFirstSpec).bare Rows.stepFirstUptoRow=true:=by kernel_rfl
theorem zwo:Tryz.f12.isInstance (Tryz.pinned).checked.prog Rows.stepFirstUptoRow.origin Rows.stepFirstUptoRow.targs:=of_decide_eq_true (by kernel_rfl)
theorem zwq:Tryz.f12.isWrapper (Tryz.pinned).checked.prog Rows.stepFirstUptoRow.wrapper Rows.stepFirstUptoRow.mainSum:=by unfold Func.isWrapper;first|(rw[if_pos (by decide+kernel)];kernel_rfl)|(rw[if_neg (by decide+kernel)];exact⟨rfl,rfl⟩)
theorem stepFirst_holds:Rows.StepFirstUptoSaid:=
 OpenClaim.holds_of_cond 12 Tryz.f12 rfl rfl rfl rfl rfl rfl rfl ⟨rfl,rfl,rfl,rfl,rfl⟩ rfl rfl rfl rfl rfl zwi Tryz.func12 zwh zwo zwq
  (fun os started H enc _ F=>zv4 os started H enc F)
end Go.Proofs.YtoknnfhgoikpiaaGreat
#print axioms Go.Proofs.YtoknnfhgoikpiaaGreat.stepFirst_holds
