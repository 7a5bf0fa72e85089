/- SnapForm: the law returns true for every input, and each argument reads afterwards as it read before. Conditions: the listed package-level variables hold what the program's text lays there (tied by the card). -/
import Derived.Test.YtodfajmihkagnaaGreatDoorCards
import Derived.Test.YtodfajmihkagnaaGreatDoorTie
import Derived.WalkKit
import Derived.ProofKit
import Derived.OpenShut
import Derived.Lay
import Derived.SevenTiedAt
import Derived.Test.YtodfajmihkagnaaGreatDoorSnA
set_option maxRecDepth 100000
set_option linter.unusedVariables false
set_option linter.unusedSimpArgs false
namespace Go.Proofs.YtodfajmihkagnaaGreatDoor.snapForm
open Go.ChangeShapes Go.WideShapes Go.ChangeAt Go.RowKit Am
theorem own:ownKnob Tryz.prog.godebug=none:=zzw
theorem laidOut:laidOutB Tryz.prog=true:=zzw
theorem alX:(Rows.snapFormRow.laid.all λx=>x.2.handleName?.isNone)=true:=zzw
theorem lifted (os:Os)(started:os.Started)(H:Type)(enc:TypeId×Value -> H):
    ReturnsInHanded {} Tryz.checked os 8 .any (λw args=>(Rows.snapFormSpec.pre enc Tryz.prog Tryz.f8 [] false w args /\ laidMetH Tryz.prog Rows.snapFormRow.laid w) /\ sizedMet enc Tryz.prog Tryz.f8 (OpenSpec.ofChange Rows.snapFormSpec) false w args)
      (Rows.snapFormSpec.post enc Tryz.prog Tryz.f8 false true false false):=by
  refine Hand.handed (g:=7) zzw zzw (C:=Tryz.checked) (X:=λw _=>laidMetH Tryz.prog Rows.snapFormRow.laid w) (λ_ _ _ hh h=>h.of_heap hh) own started zzw Tryz.func8
    (ChangeSpec.witness_shaped (enc:=enc) (C:=Tryz.checked) (os:=os) (X:=λw _=>laidMetH Tryz.prog Rows.snapFormRow.laid w) false (World.laidAll Tryz.prog os Rows.snapFormRow.laid) #[.slice none 0 0] 8 (World.laidAll_os _ _ _)
      (World.shaped_of_ZipB zzw zzw) zzw zzw zzw
      (by rw[MakeChecks.laidMetH_plain _ _ _ alX];exact laidMet_laidAll _ zzw zzw)) ?_
  intro W base args ds gs before aCt abO hW _ BA hL _;have Ik:∀(j:Nat) t v,Tryz.f8.params[j]?=some t -> args[j]?=some v -> Value.okWide Tryz.prog W .any base t v:=abO;have hW':=hW;obtain⟨p,q,hA0,hV,rfl,_,_⟩:=hW;have hA:DataW.TrodAll enc Tryz.prog W 0 (λ_=>true) true Tryz.f8.params.toList args.toList ds p:=hA0;rw[Tryz.params8] at hA Ik;obtain⟨v0,vs0,d0,ds0,p0,q0,nz,rfl,rfl,h0,r0⟩:=trodAll_cons hA;obtain⟨rfl,rfl,rfl⟩:=trodAll_nil r0;obtain rfl:args=#[v0]:=by cases args;simp_all
  obtain⟨rfl,rfl⟩:=trodVars_none hV;rw[MakeChecks.laidMetH_plain _ _ _ alX] at hL;have k0:=h0;have lt0:∀x ∈ p0,x.block<W.heap.size:=by obtain⟨m,hm⟩:=k0;exact DataW.trod_lt m _ _ _ hm
  have Uj:=Ik 0 52 v0 rfl rfl;clear hA0 abO;have a0:K.VD enc Tryz.prog W 0 (λ_=>true) true (.slice 1 (.int .u8)) 52 v0:=by obtain⟨f,hf⟩:=h0;exact⟨(.slice Tryz.underlying52 zzw zzx (.int Tryz.underlying5)),⟨f,_,hf,λk hk=>of_decide_eq_true (aeh.1 BA k (K.WM (j:=0) zzw rfl hk))⟩,(λh=>by cases h),(λ_=>by obtain⟨x1,x2,x3,rfl⟩:=okWide_slice Tryz.underlying52 Uj;rfl)⟩
  refine (lR.ayo Tryz.func8 rfl bI.an bI.aEx hL aCt (λ_=>rfl) (.cons a0 .nil) λH as' ds h hT hn=>bI.asO h hT hn).mono λe W' ⟨he,bel⟩=>?_;subst he;exact⟨_,rfl,_,_,_,[],_,[],hW',trodAll_mk1 (shut_bool Tryz.underlying4 _),(trodAll_cons_mk (Below.trod laidOut zzw (of_decide_eq_true zzw) k0 bel lt0) trodAll_mk0),rfl,bel.frame _,λh=>by cases h⟩
theorem over:Rows.snapFormRow.holds Tryz.pinned (OpenSpec.ofChange Rows.snapFormSpec) :=
  OpenClaim.holds_of_wide 8 Tryz.f8 rfl rfl rfl rfl rfl rfl rfl ⟨rfl,rfl,rfl,rfl,rfl⟩ rfl rfl rfl rfl rfl zzw Tryz.func8 zzw
    (of_decide_eq_true zzw) (by unfold Func.isWrapper;first|(rw[zz2 (by decide +kernel)];kernel_rfl)|(rw[zz1 (by decide +kernel)];exact⟨rfl,rfl⟩))
    (λos started H enc _=>lifted os started H enc)
theorem aD3:∀(j:Nat) t,Tryz.f8.params[j]?=some t -> Tryz.prog.wantsStandIn t=false:=by
  intro j t ht;rw[Tryz.params8] at ht;cases j with
  |zero=>cases ht;kernel_rfl|succ j =>
    simp at ht
theorem proved:Rows.SnapFormCardSaid :=
  Claim7.holds_tied_plain_at .later [] [.data,.data,.data,.data,.sentinel,.sentinel,.pinned] true (true, "3823f31e3f89b1fae9cd26b98caba47efd1dd045aa008ac3ea43e2c3d45e2763") true over (λ_ h=>by cases h) zzw (λ_ h=>by cases h) snapForm_row_tie rfl ⟨rfl,rfl⟩ zzw rfl
    (λf fn hf Zo=>by obtain rfl:f=8:=ac0 ((show Tryz.prog.funcNamed "outrider/outriderlaw19.SnapForm" = some 8 by kernel_rfl).symm.trans hf) |>.symm;obtain rfl:fn=Tryz.f8:=(ac0 (Tryz.func8.symm.trans Zo)).symm;exact⟨zzw,aD3⟩)
    zzw
#print axioms proved
end Go.Proofs.YtodfajmihkagnaaGreatDoor.snapForm
