/- SnapGoes: the law returns true for every input, and each argument reads afterwards as it read before. Conditions: the listed package-level variables hold what the program's text lays there (tied by the card). -/
import Derived.Test.YtodfajmihkagnaaGreatDoorCards
import Derived.Test.YtodfajmihkagnaaGreatDoorTie
import Derived.WalkKit
import Derived.ProofKit
import Derived.OpenShut
import Derived.Lay
import Derived.SevenTiedAt
import Derived.Test.YtodfajmihkagnaaGreatDoorSnA
set_option maxRecDepth 100000
set_option linter.unusedVariables false
set_option linter.unusedSimpArgs false
namespace Go.Proofs.YtodfajmihkagnaaGreatDoor.snapGoes
open Go.ChangeShapes Go.WideShapes Go.ChangeAt Go.RowKit Am
theorem own:ownKnob Tryz.prog.godebug=none:=zzw
theorem laidOut:laidOutB Tryz.prog=true:=zzw
theorem OM:(Rows.snapGoesRow.laid.all λx=>x.2.handleName?.isNone)=true:=zzw
theorem lifted (os:Os)(started:os.Started)(H:Type)(enc:TypeId×Value->H):
  ReturnsInHanded {} Tryz.checked os 9 .any (λw args=>(Rows.snapGoesSpec.pre enc Tryz.prog Tryz.f9 [] false w args/\laidMetH Tryz.prog Rows.snapGoesRow.laid w)/\sizedMet enc Tryz.prog Tryz.f9 (OpenSpec.ofChange Rows.snapGoesSpec) false w args)
   (Rows.snapGoesSpec.post enc Tryz.prog Tryz.f9 false true false false):=by
 refine Hand.handed (g:=7) zzw zzw (C:=Tryz.checked) (X:=λw _=>laidMetH Tryz.prog Rows.snapGoesRow.laid w) (λ_ _ _ hh h=>h.of_heap hh) own started zzw Tryz.func9
  (ChangeSpec.witness_shaped (enc:=enc) (C:=Tryz.checked) (os:=os) (X:=fun w _=>laidMetH Tryz.prog Rows.snapGoesRow.laid w) false (World.laidAll Tryz.prog os Rows.snapGoesRow.laid) #[.slice none 0 0] 8 (World.laidAll_os _ _ _)
   (World.shaped_of_ZipB zzw zzw) zzw zzw zzw
   (by rw[MakeChecks.laidMetH_plain _ _ _ OM];exact laidMet_laidAll _ zzw zzw)) ?_
 intro W base args ds gs before abL K9 hW _ sw hL _;have uX:∀(j:Nat) t v,Tryz.f9.params[j]?=some t->args[j]?=some v->Value.okWide Tryz.prog W .any base t v:=K9;have hW':=hW;obtain⟨p,q,Li,hV,rfl,_,_⟩:=hW;have hA:DataW.TrodAll enc Tryz.prog W 0 (λ_=>true) true Tryz.f9.params.toList args.toList ds p:=Li;rw[Tryz.params9] at hA uX;obtain⟨v0,vs0,d0,ds0,p0,q0,nH,rfl,rfl,h0,r0⟩:=trodAll_cons hA;obtain⟨rfl,rfl,rfl⟩:=trodAll_nil r0;obtain rfl:args=#[v0]:=by cases args;simp_all
 obtain⟨rfl,rfl⟩:=trodVars_none hV;rw[MakeChecks.laidMetH_plain _ _ _ OM] at hL;have k0:=h0;have U5:∀x∈p0,x.block<W.heap.size:=by obtain⟨m,hm⟩:=k0;exact DataW.trod_lt m _ _ _ hm
 have Lz:=uX 0 22 v0 rfl rfl;clear Li K9;have a0:K.Cl enc Tryz.prog W 0 (λ_=>true) true (.slice 8 (.struct 8 [(0,1,(.int .i64)),(1,1,(.int .i64)),(2,1,(.int .i64)),(3,1,(.int .i64)),(4,1,(.int .i64)),(5,1,.str),(6,1,.str),(7,1,.str)])) 22 v0:=by obtain⟨f,hf⟩:=h0;exact⟨(.slice Tryz.underlying22 zzw zzx (.struct Tryz.underlying26 zzw rfl ⟨rfl,rfl,rfl,rfl,rfl,rfl,rfl,rfl,rfl⟩ (K.eU ⟨rfl,zzw⟩ (K.eU ⟨rfl,zzw⟩ (K.eU ⟨rfl,zzw⟩ (K.eU ⟨rfl,zzw⟩ (K.eU ⟨rfl,zzw⟩ (K.eU ⟨rfl,zzw⟩ (K.eU ⟨rfl,zzw⟩ (K.eU ⟨rfl,zzw⟩ K.Ji)))))))) (K.eU (.int Tryz.underlying3) (K.eU (.int Tryz.underlying3) (K.eU (.int Tryz.underlying3) (K.eU (.int Tryz.underlying3) (K.eU (.int Tryz.underlying2) (K.eU (.str Tryz.underlying9) (K.eU (.str Tryz.underlying9) (K.eU (.str Tryz.underlying9) K.Ji)))))))))),⟨f,_,hf,λk hk=>zz8 (acT.1 sw k (K.Cy (j:=0) zzw rfl hk))⟩,(λh=>by cases h),(λ_=>by obtain⟨x1,x2,x3,rfl⟩:=okWide_slice Tryz.underlying22 Lz;rfl)⟩
 refine (lD.akN Tryz.func9 rfl bD.an bD.apf hL abL (λ_=>rfl) (.cons a0 .nil) λH as' ds h hT hn=>bD.az0 h hT hn).mono λe W' ⟨he,Bq⟩=>?_;subst he;exact⟨_,rfl,_,_,_,[],_,[],hW',trodAll_mk1 (shut_bool Tryz.underlying4 _),(trodAll_cons_mk (Below.trod laidOut zzw (zz8 zzw) k0 Bq U5) trodAll_mk0),rfl,Bq.frame _,λh=>by cases h⟩
theorem over:Rows.snapGoesRow.holds Tryz.pinned (OpenSpec.ofChange Rows.snapGoesSpec):=
 OpenClaim.holds_of_wide 9 Tryz.f9 rfl rfl rfl rfl rfl rfl rfl ⟨rfl,rfl,rfl,rfl,rfl⟩ rfl rfl rfl rfl rfl zzw Tryz.func9 zzw
  (zz8 zzw) (by unfold Func.isWrapper;first|(rw[zz2 (by decide +kernel)];kernel_rfl)|(rw[zz1 (by decide +kernel)];exact⟨rfl,rfl⟩))
  (λos started H enc _=>lifted os started H enc)
theorem acu:∀(j:Nat) t,Tryz.f9.params[j]?=some t->Tryz.prog.wantsStandIn t=false:=by
 intro j t ht;rw[Tryz.params9] at ht;cases j with
 |zero=>cases ht;kernel_rfl|succ j=>
  simp at ht
theorem proved:Rows.SnapGoesCardSaid:=
 Claim7.holds_tied_plain_at .later [] [.data,.data,.data,.data,.sentinel,.sentinel,.pinned] true (true, "3823f31e3f89b1fae9cd26b98caba47efd1dd045aa008ac3ea43e2c3d45e2763") true over (λ_ h=>by cases h) zzw (λ_ h=>by cases h) snapGoes_row_tie rfl ⟨rfl,rfl⟩ zzw rfl
  (fun f fn hf Oq=>by
   obtain rfl:f=9:=acd ((show Tryz.prog.funcNamed "outrider/outriderlaw19.SnapGoes" = some 9 by kernel_rfl).symm.trans hf) |>.symm;obtain rfl:fn=Tryz.f9:=(acd (Tryz.func9.symm.trans Oq)).symm;exact⟨zzw,acu⟩)
  zzw
#print axioms proved
end Go.Proofs.YtodfajmihkagnaaGreatDoor.snapGoes
