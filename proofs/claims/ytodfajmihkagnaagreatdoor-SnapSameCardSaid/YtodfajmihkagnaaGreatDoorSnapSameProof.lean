/- SnapSame: the law returns true for every input, and each argument reads afterwards as it read before. Conditions: the listed package-level variables hold what the program's text lays there (tied by the card). -/
import Derived.Test.YtodfajmihkagnaaGreatDoorCards
import Derived.Test.YtodfajmihkagnaaGreatDoorTie
import Derived.WalkKit
import Derived.ProofKit
import Derived.OpenShut
import Derived.Lay
import Derived.SevenTiedAt
import Derived.Test.YtodfajmihkagnaaGreatDoorFlV
set_option linter.unusedVariables false
set_option linter.unusedSimpArgs false
set_option maxRecDepth 100000
namespace Go.Proofs.YtodfajmihkagnaaGreatDoor.snapSame
open Go.ChangeShapes Go.WideShapes Go.ChangeAt Go.RowKit Am
theorem own:ownKnob Tryz.prog.godebug=none:=zzw
theorem laidOut:laidOutB Tryz.prog=true:=zzw
theorem an1:(Rows.snapSameRow.laid.all λx=>x.2.handleName?.isNone)=true:=zzw
theorem lifted (os:Os)(started:os.Started)(H:Type)(enc:TypeId×Value -> H):
    ReturnsInHanded {} Tryz.checked os 10 .any (λw args=>(Rows.snapSameSpec.pre enc Tryz.prog Tryz.f10 [] false w args /\ laidMetH Tryz.prog Rows.snapSameRow.laid w) /\ sizedMet enc Tryz.prog Tryz.f10 (OpenSpec.ofChange Rows.snapSameSpec) false w args)
      (Rows.snapSameSpec.post enc Tryz.prog Tryz.f10 false true false false):=by
  refine Hand.handed (g:=7) zzw zzw (C:=Tryz.checked) (X:=λw _=>laidMetH Tryz.prog Rows.snapSameRow.laid w) (λ_ _ _ hh h=>h.of_heap hh) own started zzw Tryz.func10
    (ChangeSpec.witness_shaped (enc:=enc) (C:=Tryz.checked) (os:=os) (X:=λw _=>laidMetH Tryz.prog Rows.snapSameRow.laid w) false (World.laidAll Tryz.prog os Rows.snapSameRow.laid) #[.slice none 0 0,.slice none 0 0,.int .i64 0] 8 (World.laidAll_os _ _ _)
      (World.shaped_of_ZipB zzw zzw) zzw zzw zzw
      (by rw[MakeChecks.laidMetH_plain _ _ _ an1];exact laidMet_laidAll _ zzw zzw)) ?_
  intro W base args ds gs before aFb adz hW _ y8 hL _;have Ei:∀(j:Nat) t v,Tryz.f10.params[j]?=some t -> args[j]?=some v -> Value.okWide Tryz.prog W .any base t v:=adz;have hW':=hW;obtain⟨p,q,hA0,hV,rfl,_,_⟩:=hW;have hA:DataW.TrodAll enc Tryz.prog W 0 (λ_=>true) true Tryz.f10.params.toList args.toList ds p:=hA0;rw[Tryz.params10] at hA Ei;obtain⟨v0,vs0,d0,ds0,p0,q0,nX,rfl,rfl,h0,r0⟩:=trodAll_cons hA;obtain⟨v1,vs1,d1,ds1,p1,q1,rfl,rfl,rfl,h1,r1⟩:=trodAll_cons r0;obtain⟨v2,vs2,d2,ds2,p2,q2,rfl,rfl,rfl,h2,r2⟩:=trodAll_cons r1;obtain⟨rfl,rfl,rfl⟩:=trodAll_nil r2;obtain rfl:args=#[v0,v1,v2]:=by cases args;simp_all
  obtain⟨rfl,rfl⟩:=trodVars_none hV;rw[MakeChecks.laidMetH_plain _ _ _ an1] at hL;have k0:=h0;have lt0:∀x ∈ p0,x.block<W.heap.size:=by obtain⟨m,hm⟩:=k0;exact DataW.trod_lt m _ _ _ hm
  have k1:=h1;have lt1:∀x ∈ p1,x.block<W.heap.size:=by obtain⟨m,hm⟩:=k1;exact DataW.trod_lt m _ _ _ hm
  have k2:=h2;have lt2:∀x ∈ p2,x.block<W.heap.size:=by obtain⟨m,hm⟩:=k2;exact DataW.trod_lt m _ _ _ hm
  have VN:=Ei 0 22 v0 rfl rfl;have qZ:=Ei 1 22 v1 rfl rfl;have Cv:=Ei 2 2 v2 rfl rfl;clear hA0 adz;have a0:K.Me enc Tryz.prog W 0 (λ_=>true) true (.slice 8 (.struct 8 [(0,1,(.int .i64)),(1,1,(.int .i64)),(2,1,(.int .i64)),(3,1,(.int .i64)),(4,1,(.int .i64)),(5,1,.str),(6,1,.str),(7,1,.str)])) 22 v0:=by obtain⟨f,hf⟩:=h0;exact⟨(.slice Tryz.underlying22 zzw zzx (.struct Tryz.underlying26 zzw rfl ⟨rfl,rfl,rfl,rfl,rfl,rfl,rfl,rfl,rfl⟩ (K.ju ⟨rfl,zzw⟩ (K.ju ⟨rfl,zzw⟩ (K.ju ⟨rfl,zzw⟩ (K.ju ⟨rfl,zzw⟩ (K.ju ⟨rfl,zzw⟩ (K.ju ⟨rfl,zzw⟩ (K.ju ⟨rfl,zzw⟩ (K.ju ⟨rfl,zzw⟩ K.Re)))))))) (K.ju (.int Tryz.underlying3) (K.ju (.int Tryz.underlying3) (K.ju (.int Tryz.underlying3) (K.ju (.int Tryz.underlying3) (K.ju (.int Tryz.underlying2) (K.ju (.str Tryz.underlying9) (K.ju (.str Tryz.underlying9) (K.ju (.str Tryz.underlying9) K.Re)))))))))),⟨f,_,hf,λk hk=>zz9 (adP.1 y8 k (K.Mx (j:=0) zzw rfl hk))⟩,(λh=>by cases h),(λ_=>by obtain⟨x1,x2,x3,rfl⟩:=okWide_slice Tryz.underlying22 VN;rfl)⟩
  have a1:K.Me enc Tryz.prog W 0 (λ_=>true) true (.slice 8 (.struct 8 [(0,1,(.int .i64)),(1,1,(.int .i64)),(2,1,(.int .i64)),(3,1,(.int .i64)),(4,1,(.int .i64)),(5,1,.str),(6,1,.str),(7,1,.str)])) 22 v1:=by obtain⟨f,hf⟩:=h1;exact⟨(.slice Tryz.underlying22 zzw zzx (.struct Tryz.underlying26 zzw rfl ⟨rfl,rfl,rfl,rfl,rfl,rfl,rfl,rfl,rfl⟩ (K.ju ⟨rfl,zzw⟩ (K.ju ⟨rfl,zzw⟩ (K.ju ⟨rfl,zzw⟩ (K.ju ⟨rfl,zzw⟩ (K.ju ⟨rfl,zzw⟩ (K.ju ⟨rfl,zzw⟩ (K.ju ⟨rfl,zzw⟩ (K.ju ⟨rfl,zzw⟩ K.Re)))))))) (K.ju (.int Tryz.underlying3) (K.ju (.int Tryz.underlying3) (K.ju (.int Tryz.underlying3) (K.ju (.int Tryz.underlying3) (K.ju (.int Tryz.underlying2) (K.ju (.str Tryz.underlying9) (K.ju (.str Tryz.underlying9) (K.ju (.str Tryz.underlying9) K.Re)))))))))),⟨f,_,hf,λk hk=>zz9 (adP.1 y8 k (K.Mx (j:=1) zzw rfl hk))⟩,(λh=>by cases h),(λ_=>by obtain⟨x1,x2,x3,rfl⟩:=okWide_slice Tryz.underlying22 qZ;rfl)⟩
  have a2:K.Me enc Tryz.prog W 0 (λ_=>true) true (.int .i64) 2 v2:=by obtain⟨f,hf⟩:=h2;exact⟨(.int Tryz.underlying2),⟨f,_,hf,λk hk=>zz9 (adP.1 y8 k (K.Mx (j:=2) zzw rfl hk))⟩,(λh=>by cases h),(λ_=>by obtain⟨x1,rfl⟩:=okWide_int Tryz.underlying2 Cv;rfl)⟩
  refine (lq.aAZ Tryz.func10 rfl bq.an bq.aHr hL aFb (λ_=>rfl) (.cons a0 (.cons a1 (.cons a2 .nil))) λH as' ds h hT hn=>bq.aAt h hT hn).mono λe W' ⟨he,SX⟩=>?_;subst he;exact⟨_,rfl,_,_,_,[],_,[],hW',trodAll_mk1 (shut_bool Tryz.underlying4 _),(trodAll_cons_mk (Below.trod laidOut zzw (zz9 zzw) k0 SX lt0) (trodAll_cons_mk (Below.trod laidOut zzw (zz9 zzw) k1 SX lt1) (trodAll_cons_mk (Below.trod laidOut zzw (zz9 zzw) k2 SX lt2) trodAll_mk0))),rfl,SX.frame _,λh=>by cases h⟩
theorem over:Rows.snapSameRow.holds Tryz.pinned (OpenSpec.ofChange Rows.snapSameSpec) :=
  OpenClaim.holds_of_wide 10 Tryz.f10 rfl rfl rfl rfl rfl rfl rfl ⟨rfl,rfl,rfl,rfl,rfl⟩ rfl rfl rfl rfl rfl zzw Tryz.func10 zzw
    (zz9 zzw) (by unfold Func.isWrapper;first|(rw[zz2 (by decide +kernel)];kernel_rfl)|(rw[zz1 (by decide +kernel)];exact⟨rfl,rfl⟩))
    (λos started H enc _=>lifted os started H enc)
theorem aGW:∀(j:Nat) t,Tryz.f10.params[j]?=some t -> Tryz.prog.wantsStandIn t=false:=by
  intro j t ht;rw[Tryz.params10] at ht;cases j with
  |zero=>cases ht;kernel_rfl|succ j =>
    cases j with
    |zero=>cases ht;kernel_rfl|succ j =>
      cases j with
      |zero=>cases ht;kernel_rfl|succ j =>
        simp at ht
theorem proved:Rows.SnapSameCardSaid :=
  Claim7.holds_tied_plain_at .later [] [.data,.data,.data,.data,.sentinel,.sentinel,.pinned] true (true, "3823f31e3f89b1fae9cd26b98caba47efd1dd045aa008ac3ea43e2c3d45e2763") true over (λ_ h=>by cases h) zzw (λ_ h=>by cases h) snapSame_row_tie rfl ⟨rfl,rfl⟩ zzw rfl
    (λf fn hf Bp=>by obtain rfl:f=10:=ab0 ((show Tryz.prog.funcNamed "outrider/outriderlaw19.SnapSame" = some 10 by kernel_rfl).symm.trans hf) |>.symm;obtain rfl:fn=Tryz.f10:=(ab0 (Tryz.func10.symm.trans Bp)).symm;exact⟨zzw,aGW⟩)
    zzw
#print axioms proved
end Go.Proofs.YtodfajmihkagnaaGreatDoor.snapSame
