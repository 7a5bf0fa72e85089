/- Laws that the proof uses. -/
import Derived.Test.YtehhgkgeldinkaaGreatDoorCards
import Derived.Test.YtehhgkgeldinkaaGreatDoorTie
import Derived.WalkKit
import Derived.ProofKit
import Derived.OpenShut
import Derived.Lay
import Derived.SevenTiedAt
import Derived.Test.YtehhgkgeldinkaaGreatDoorTeR
import Derived.Test.YtehhgkgeldinkaaGreatDoorTaleRegisterFacts
set_option maxRecDepth 100000
set_option linter.unusedVariables false
set_option linter.unusedSimpArgs false
namespace Go.Proofs.YtehhgkgeldinkaaGreatDoor.taleRegister
open Go.ChangeShapes Go.WideShapes Go.ChangeAt Go.RowKit Am
theorem own:ownKnob Tryz.prog.godebug=none:=by kernel_rfl
theorem laidOut:laidOutB Tryz.prog=true:=Cl.laid
theorem abP:(Rows.taleRegisterRow.laid.all fun x=>x.2.handleName?.isNone)=true:=by kernel_rfl
theorem lifted (os:Os)(started:os.Started)(H:Type)(enc:TypeId × Value->H) :
  ReturnsInHanded {} Tryz.checked os 4 .any (fun w args=>(Rows.taleRegisterSpec.pre enc Tryz.prog Tryz.f4 [] false w args/\laidMetH Tryz.prog Rows.taleRegisterRow.laid w)/\sizedMet enc Tryz.prog Tryz.f4 (OpenSpec.ofChange Rows.taleRegisterSpec) false w args)
   (Rows.taleRegisterSpec.post enc Tryz.prog Tryz.f4 false true false false):=by
 refine Hand.handed (g:=7) (by kernel_rfl) (by kernel_rfl) (C:=Tryz.checked) (X:=fun w _=>laidMetH Tryz.prog Rows.taleRegisterRow.laid w) (fun _ _ _ hh h=>h.of_heap hh) own started (by kernel_rfl) Tryz.func4
  (ChangeSpec.witness_shaped (enc:=enc) (C:=Tryz.checked) (os:=os) (X:=fun w _=>laidMetH Tryz.prog Rows.taleRegisterRow.laid w) false (World.laidAll Tryz.prog os Rows.taleRegisterRow.laid) #[.slice none 0 0] 8 (World.laidAll_os _ _ _)
   (World.shaped_of_ZipB (by kernel_rfl) (by kernel_rfl)) (by kernel_rfl) (by kernel_rfl) (by kernel_rfl)
   (by rw[MakeChecks.laidMetH_plain _ _ _ abP];exact laidMet_laidAll _ (by kernel_rfl) (by kernel_rfl))) ?_
 intro W base args ds gs before LJ Vk hW _ xG hL _
 have rM:∀ (j:Nat) t v,Tryz.f4.params[j]? = some t->args[j]? = some v->Value.okWide Tryz.prog W .any base t v:=Vk
 have hW':=hW
 obtain⟨p,q,VF,hV,rfl,_,_⟩:=hW
 have hA:DataW.TrodAll enc Tryz.prog W 0 (fun _=>true) true Tryz.f4.params.toList args.toList ds p:=VF
 rw[Tryz.params4] at hA rM
 obtain⟨v0,vs0,d0,ds0,p0,q0,lx,rfl,rfl,h0,r0⟩:=trodAll_cons hA
 obtain⟨rfl,rfl,rfl⟩:=trodAll_nil r0
 obtain rfl:args = #[v0]:=by cases args;simp_all
 obtain⟨rfl,rfl⟩:=trodVars_none hV
 rw[MakeChecks.laidMetH_plain _ _ _ abP] at hL
 have k0:=h0
 have lt0:∀ x∈p0,x.block<W.heap.size:=by obtain⟨m,hm⟩:=k0;exact DataW.trod_lt m _ _ _ hm
 have Oi:=rM 0 28 v0 rfl rfl
 clear VF Vk
 have a0:K.PG enc Tryz.prog W 0 (fun _=>true) true (.slice 1 .bool) 28 v0:=by
  obtain⟨f,hf⟩:=h0
  exact⟨(.slice Tryz.underlying28 (by kernel_rfl) (by decide) (.bool Tryz.underlying4)),⟨f,_,hf,fun k hk=>of_decide_eq_true (ac6.1 xG k (K.QC (j:=0) (by kernel_rfl) rfl hk))⟩,(fun h=>by cases h),(fun _=>by obtain⟨x1,x2,x3,rfl⟩:=okWide_slice Tryz.underlying28 Oi;rfl)⟩
 refine (jn.al8 Tryz.func4 rfl dg.an dg.aro hL LJ (fun _=>rfl) (.cons a0 .nil) fun H ar ds h hT hn=>dg.aeo h hT hn).mono fun e W' ⟨he,bel⟩ => ?_
 subst he
 exact⟨_,rfl,_,_,_,[],_,[],hW',trodAll_mk1 (shut_bool Tryz.underlying4 _),(trodAll_cons_mk (Below.trod laidOut (by kernel_rfl) (of_decide_eq_true (by kernel_rfl)) k0 bel lt0) trodAll_mk0),rfl,bel.frame _,fun h=>by cases h⟩
theorem over:Rows.taleRegisterRow.holds Tryz.pinned (OpenSpec.ofChange Rows.taleRegisterSpec):=
 OpenClaim.holds_of_wide 4 Tryz.f4 rfl rfl rfl rfl rfl rfl rfl ⟨rfl,rfl,rfl,rfl,rfl⟩ rfl rfl rfl rfl rfl (by kernel_rfl) Tryz.func4 abi.closed
  (of_decide_eq_true (by kernel_rfl)) (by unfold Func.isWrapper;first | (rw[if_pos (by decide +kernel)];kernel_rfl) | (rw[if_neg (by decide +kernel)];exact⟨rfl,rfl⟩))
  (fun os started H enc _=>lifted os started H enc)
end Go.Proofs.YtehhgkgeldinkaaGreatDoor.taleRegister
