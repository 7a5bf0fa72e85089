/- SnapBack: the law returns true for every input, and each argument reads afterwards as it read before. Conditions: the listed package-level variables hold what the program's text lays there (tied by the card). -/
import Derived.Test.YtodfajmihkagnaaGreatDoorCards
import Derived.Test.YtodfajmihkagnaaGreatDoorTie
import Derived.WalkKit
import Derived.ProofKit
import Derived.OpenShut
import Derived.Lay
import Derived.SevenTiedAt
import Derived.Test.YtodfajmihkagnaaGreatDoorSnM
import Derived.Test.YtodfajmihkagnaaGreatDoorSnA
set_option maxRecDepth 100000
set_option linter.unusedVariables false
set_option linter.unusedSimpArgs false
namespace Go.Proofs.YtodfajmihkagnaaGreatDoor.snapBack
open Go.ChangeShapes Go.WideShapes Go.ChangeAt Go.RowKit Am
theorem own:ownKnob Tryz.prog.godebug=none:=zzw
theorem laidOut:laidOutB Tryz.prog=true:=zzw
theorem OM:(Rows.snapBackRow.laid.all λx=>x.2.handleName?.isNone)=true:=zzw
theorem lifted (os:Os)(started:os.Started)(H:Type)(enc:TypeId×Value->H):
  ReturnsInHanded {} Tryz.checked os 7 .any (λw args=>(Rows.snapBackSpec.pre enc Tryz.prog Tryz.f7 [] false w args/\laidMetH Tryz.prog Rows.snapBackRow.laid w)/\sizedMet enc Tryz.prog Tryz.f7 (OpenSpec.ofChange Rows.snapBackSpec) false w args)
   (Rows.snapBackSpec.post enc Tryz.prog Tryz.f7 false true false false):=by
 refine Hand.handed (g:=7) zzw zzw (C:=Tryz.checked) (X:=λw _=>laidMetH Tryz.prog Rows.snapBackRow.laid w) (λ_ _ _ hh h=>h.of_heap hh) own started zzw Tryz.func7
  (ChangeSpec.witness_shaped (enc:=enc) (C:=Tryz.checked) (os:=os) (X:=fun w _=>laidMetH Tryz.prog Rows.snapBackRow.laid w) false (World.laidAll Tryz.prog os Rows.snapBackRow.laid) #[.slice none 0 0,.slice none 0 0,.int .i64 0,.int .i64 0,.int .i64 0,.int .u8 0] 8 (World.laidAll_os _ _ _)
   (World.shaped_of_ZipB zzw zzw) zzw zzw zzw
   (by rw[MakeChecks.laidMetH_plain _ _ _ OM];exact laidMet_laidAll _ zzw zzw)) ?_
 intro W base args ds gs before abL K9 hW _ sw hL _;have uX:∀(j:Nat) t v,Tryz.f7.params[j]?=some t->args[j]?=some v->Value.okWide Tryz.prog W .any base t v:=K9;have hW':=hW;obtain⟨p,q,Li,hV,rfl,_,_⟩:=hW;have hA:DataW.TrodAll enc Tryz.prog W 0 (λ_=>true) true Tryz.f7.params.toList args.toList ds p:=Li;rw[Tryz.params7] at hA uX;obtain⟨v0,vs0,d0,ds0,p0,q0,nH,rfl,rfl,h0,r0⟩:=trodAll_cons hA;obtain⟨v1,vs1,d1,ds1,p1,q1,rfl,rfl,rfl,h1,r1⟩:=trodAll_cons r0;obtain⟨v2,vs2,d2,ds2,p2,q2,rfl,rfl,rfl,h2,r2⟩:=trodAll_cons r1;obtain⟨v3,vs3,d3,ds3,p3,q3,rfl,rfl,rfl,h3,r3⟩:=trodAll_cons r2;obtain⟨v4,vs4,d4,ds4,p4,q4,rfl,rfl,rfl,h4,r4⟩:=trodAll_cons r3;obtain⟨v5,vs5,d5,ds5,p5,q5,rfl,rfl,rfl,h5,r5⟩:=trodAll_cons r4;obtain⟨rfl,rfl,rfl⟩:=trodAll_nil r5;obtain rfl:args=#[v0,v1,v2,v3,v4,v5]:=by cases args;simp_all
 obtain⟨rfl,rfl⟩:=trodVars_none hV;rw[MakeChecks.laidMetH_plain _ _ _ OM] at hL;have k0:=h0;have U5:∀x∈p0,x.block<W.heap.size:=by obtain⟨m,hm⟩:=k0;exact DataW.trod_lt m _ _ _ hm
 have k1:=h1;have lt1:∀x∈p1,x.block<W.heap.size:=by obtain⟨m,hm⟩:=k1;exact DataW.trod_lt m _ _ _ hm
 have k2:=h2;have lt2:∀x∈p2,x.block<W.heap.size:=by obtain⟨m,hm⟩:=k2;exact DataW.trod_lt m _ _ _ hm
 have k3:=h3;have lt3:∀x∈p3,x.block<W.heap.size:=by obtain⟨m,hm⟩:=k3;exact DataW.trod_lt m _ _ _ hm
 have k4:=h4;have lt4:∀x∈p4,x.block<W.heap.size:=by obtain⟨m,hm⟩:=k4;exact DataW.trod_lt m _ _ _ hm
 have k5:=h5;have lt5:∀x∈p5,x.block<W.heap.size:=by obtain⟨m,hm⟩:=k5;exact DataW.trod_lt m _ _ _ hm
 have Lz:=uX 0 22 v0 rfl rfl;have Ca:=uX 1 22 v1 rfl rfl;have M3:=uX 2 2 v2 rfl rfl;have ok3:=uX 3 3 v3 rfl rfl;have ok4:=uX 4 3 v4 rfl rfl;have ok5:=uX 5 5 v5 rfl rfl;clear Li K9;have a0:K.Cl enc Tryz.prog W 0 (λ_=>true) true (.slice 8 (.struct 8 [(0,1,(.int .i64)),(1,1,(.int .i64)),(2,1,(.int .i64)),(3,1,(.int .i64)),(4,1,(.int .i64)),(5,1,.str),(6,1,.str),(7,1,.str)])) 22 v0:=by obtain⟨f,hf⟩:=h0;exact⟨(.slice Tryz.underlying22 zzw zzx (.struct Tryz.underlying26 zzw rfl ⟨rfl,rfl,rfl,rfl,rfl,rfl,rfl,rfl,rfl⟩ (K.eU ⟨rfl,zzw⟩ (K.eU ⟨rfl,zzw⟩ (K.eU ⟨rfl,zzw⟩ (K.eU ⟨rfl,zzw⟩ (K.eU ⟨rfl,zzw⟩ (K.eU ⟨rfl,zzw⟩ (K.eU ⟨rfl,zzw⟩ (K.eU ⟨rfl,zzw⟩ K.Ji)))))))) (K.eU (.int Tryz.underlying3) (K.eU (.int Tryz.underlying3) (K.eU (.int Tryz.underlying3) (K.eU (.int Tryz.underlying3) (K.eU (.int Tryz.underlying2) (K.eU (.str Tryz.underlying9) (K.eU (.str Tryz.underlying9) (K.eU (.str Tryz.underlying9) K.Ji)))))))))),⟨f,_,hf,λk hk=>zz8 (acT.1 sw k (K.Cy (j:=0) zzw rfl hk))⟩,(λh=>by cases h),(λ_=>by obtain⟨x1,x2,x3,rfl⟩:=okWide_slice Tryz.underlying22 Lz;rfl)⟩
 have a1:K.Cl enc Tryz.prog W 0 (λ_=>true) true (.slice 8 (.struct 8 [(0,1,(.int .i64)),(1,1,(.int .i64)),(2,1,(.int .i64)),(3,1,(.int .i64)),(4,1,(.int .i64)),(5,1,.str),(6,1,.str),(7,1,.str)])) 22 v1:=by obtain⟨f,hf⟩:=h1;exact⟨(.slice Tryz.underlying22 zzw zzx (.struct Tryz.underlying26 zzw rfl ⟨rfl,rfl,rfl,rfl,rfl,rfl,rfl,rfl,rfl⟩ (K.eU ⟨rfl,zzw⟩ (K.eU ⟨rfl,zzw⟩ (K.eU ⟨rfl,zzw⟩ (K.eU ⟨rfl,zzw⟩ (K.eU ⟨rfl,zzw⟩ (K.eU ⟨rfl,zzw⟩ (K.eU ⟨rfl,zzw⟩ (K.eU ⟨rfl,zzw⟩ K.Ji)))))))) (K.eU (.int Tryz.underlying3) (K.eU (.int Tryz.underlying3) (K.eU (.int Tryz.underlying3) (K.eU (.int Tryz.underlying3) (K.eU (.int Tryz.underlying2) (K.eU (.str Tryz.underlying9) (K.eU (.str Tryz.underlying9) (K.eU (.str Tryz.underlying9) K.Ji)))))))))),⟨f,_,hf,λk hk=>zz8 (acT.1 sw k (K.Cy (j:=1) zzw rfl hk))⟩,(λh=>by cases h),(λ_=>by obtain⟨x1,x2,x3,rfl⟩:=okWide_slice Tryz.underlying22 Ca;rfl)⟩
 have a2:K.Cl enc Tryz.prog W 0 (λ_=>true) true (.int .i64) 2 v2:=by obtain⟨f,hf⟩:=h2;exact⟨(.int Tryz.underlying2),⟨f,_,hf,λk hk=>zz8 (acT.1 sw k (K.Cy (j:=2) zzw rfl hk))⟩,(λh=>by cases h),(λ_=>by obtain⟨x1,rfl⟩:=okWide_int Tryz.underlying2 M3;rfl)⟩
 have a3:K.Cl enc Tryz.prog W 0 (λ_=>true) true (.int .i64) 3 v3:=by obtain⟨f,hf⟩:=h3;exact⟨(.int Tryz.underlying3),⟨f,_,hf,λk hk=>zz8 (acT.1 sw k (K.Cy (j:=3) zzw rfl hk))⟩,(λh=>by cases h),(λ_=>by obtain⟨x1,rfl⟩:=okWide_int Tryz.underlying3 ok3;rfl)⟩
 have a4:K.Cl enc Tryz.prog W 0 (λ_=>true) true (.int .i64) 3 v4:=by obtain⟨f,hf⟩:=h4;exact⟨(.int Tryz.underlying3),⟨f,_,hf,λk hk=>zz8 (acT.1 sw k (K.Cy (j:=4) zzw rfl hk))⟩,(λh=>by cases h),(λ_=>by obtain⟨x1,rfl⟩:=okWide_int Tryz.underlying3 ok4;rfl)⟩
 have a5:K.Cl enc Tryz.prog W 0 (λ_=>true) true (.int .u8) 5 v5:=by obtain⟨f,hf⟩:=h5;exact⟨(.int Tryz.underlying5),⟨f,_,hf,λk hk=>zz8 (acT.1 sw k (K.Cy (j:=5) zzw rfl hk))⟩,(λh=>by cases h),(λ_=>by obtain⟨x1,rfl⟩:=okWide_int Tryz.underlying5 ok5;rfl)⟩
 refine (lD.akN Tryz.func7 rfl bD.an bD.apf hL abL (λ_=>rfl) (.cons a0 (.cons a1 (.cons a2 (.cons a3 (.cons a4 (.cons a5 .nil)))))) λH as' ds h hT hn=>bD.asc h hT hn).mono λe W' ⟨he,Bq⟩=>?_;subst he;exact⟨_,rfl,_,_,_,[],_,[],hW',trodAll_mk1 (shut_bool Tryz.underlying4 _),(trodAll_cons_mk (Below.trod laidOut zzw (zz8 zzw) k0 Bq U5) (trodAll_cons_mk (Below.trod laidOut zzw (zz8 zzw) k1 Bq lt1) (trodAll_cons_mk (Below.trod laidOut zzw (zz8 zzw) k2 Bq lt2) (trodAll_cons_mk (Below.trod laidOut zzw (zz8 zzw) k3 Bq lt3) (trodAll_cons_mk (Below.trod laidOut zzw (zz8 zzw) k4 Bq lt4) (trodAll_cons_mk (Below.trod laidOut zzw (zz8 zzw) k5 Bq lt5) trodAll_mk0)))))),rfl,Bq.frame _,λh=>by cases h⟩
theorem over:Rows.snapBackRow.holds Tryz.pinned (OpenSpec.ofChange Rows.snapBackSpec):=
 OpenClaim.holds_of_wide 7 Tryz.f7 rfl rfl rfl rfl rfl rfl rfl ⟨rfl,rfl,rfl,rfl,rfl⟩ rfl rfl rfl rfl rfl zzw Tryz.func7 zzw
  (zz8 zzw) (by unfold Func.isWrapper;first|(rw[zz2 (by decide +kernel)];kernel_rfl)|(rw[zz1 (by decide +kernel)];exact⟨rfl,rfl⟩))
  (λos started H enc _=>lifted os started H enc)
theorem acu:∀(j:Nat) t,Tryz.f7.params[j]?=some t->Tryz.prog.wantsStandIn t=false:=by
 intro j t ht;rw[Tryz.params7] at ht;cases j with
 |zero=>cases ht;kernel_rfl|succ j=>
  cases j with
  |zero=>cases ht;kernel_rfl|succ j=>
   cases j with
   |zero=>cases ht;kernel_rfl|succ j=>
    cases j with
    |zero=>cases ht;kernel_rfl|succ j=>
     cases j with
     |zero=>cases ht;kernel_rfl|succ j=>
      cases j with
      |zero=>cases ht;kernel_rfl|succ j=>
       simp at ht
theorem proved:Rows.SnapBackCardSaid:=
 Claim7.holds_tied_plain_at .later [] [.data,.data,.data,.data,.sentinel,.sentinel,.pinned] true (true, "3823f31e3f89b1fae9cd26b98caba47efd1dd045aa008ac3ea43e2c3d45e2763") true over (λ_ h=>by cases h) zzw (λ_ h=>by cases h) snapBack_row_tie rfl ⟨rfl,rfl⟩ zzw rfl
  (fun f fn hf Oq=>by
   obtain rfl:f=7:=acd ((show Tryz.prog.funcNamed "outrider/outriderlaw19.SnapBack" = some 7 by kernel_rfl).symm.trans hf) |>.symm;obtain rfl:fn=Tryz.f7:=(acd (Tryz.func7.symm.trans Oq)).symm;exact⟨zzw,acu⟩)
  zzw
#print axioms proved
end Go.Proofs.YtodfajmihkagnaaGreatDoor.snapBack
