/- mustertop.TopEnds holds for every state (the given tied card). -/
import Derived.Test.YthfhilggbbobmaaGreatDoorKE1
import Derived.Test.YthfhilggbbobmaaGreatDoorKE2
import Derived.Test.YthfhilggbbobmaaGreatDoorKE3
import Derived.Test.YthfhilggbbobmaaGreatDoorKE4
import Derived.Test.YthfhilggbbobmaaGreatDoorKE5
import Derived.Test.YthfhilggbbobmaaGreatDoorCards
import Derived.Test.YthfhilggbbobmaaGreatDoorTie
import Derived.LaidMore
import Derived.SevenTiedAt
set_option linter.all false
set_option maxHeartbeats 20000000
namespace Go.Proofs.YthfhilggbbobmaaGreatDoor
end Go.Proofs.YthfhilggbbobmaaGreatDoor
section
namespace Go.Proofs.YthfhilggbbobmaaGreatDoor.topEnds
open Go.Proofs.Tryz
open Go renaming Value->Vl,TypeId->Ti
set_option maxRecDepth 100000
open Go.ChangeShapes Go.WideShapes Go.ChangeAt Go.RowKit
theorem own:ownKnob prog.godebug=none:=by kernel_rfl
theorem laidOut:laidOutB prog=true:=by kernel_rfl
theorem xN(os:Os)(args:Array Vl):laidMetH prog Rows.topEndsRow.laid ((World.doorLaid prog 400 os).forCall (fun _ _=>0) ⟨#[],args,[]⟩).memory:=
 laidMetH_of_parts3 (fuel:=8) (laidMet_of_run' 8 (by kernel_rfl) (by kernel_rfl)) (by kernel_rfl) (by kernel_rfl)
theorem lifted(os:Os)(u:os.Started)(H:Type)(enc:Ti×Vl->H):
 ReturnsInHanded {} checked os 3 .any (fun w args=>(Rows.topEndsSpec.pre enc prog f3 [] false w args/\laidMetH prog Rows.topEndsRow.laid w)/\sizedMet enc prog f3 (OpenSpec.ofChange Rows.topEndsSpec) false w args)
  (Rows.topEndsSpec.post enc prog f3 false true false false):=by
 refine returnsInHanded_of_change_and (C:=checked) (X:=fun w _=>laidMetH prog Rows.topEndsRow.laid w) (fun _ _ _ r h=>h.of_heap r) own u (by kernel_rfl) func3
  (ChangeSpec.witness_shaped (enc:=enc) (C:=checked) (os:=os) (X:=fun w _=>laidMetH prog Rows.topEndsRow.laid w) false (World.doorLaid prog 400 os) #[.agg #[(),.slice none 0 0,.slice none 0 0,.slice none 0 0,.slice none 0 0,.slice none 0 0,(),()]] 8 rfl (World.shaped_of_RefB (by kernel_rfl) (by kernel_rfl)) (by kernel_rfl) (by kernel_rfl) (by kernel_rfl) (xN os _)) ?_
 intro W base args l D G f b _ _ E _;have g:∀(j:Nat) t v,f3.params[j]?=some t->args[j]?=some v->Value.okWide prog W .any base t v:=f;have y:=b;obtain⟨p,q,i,n,rfl,M,J⟩:=b;have hA:DataW.TrodAll enc prog W 0 (fun _=>true) true f3.params.toList args.toList l p:=i;rw[params3]at hA g;obtain⟨d,K,B,L,p0,F,I,rfl,rfl,a,r0⟩:=trodAll_cons hA;obtain⟨rfl,rfl,rfl⟩:=trodAll_nil r0;obtain rfl:args= #[d]:=by cases args;simp_all
 obtain⟨rfl,rfl⟩:=trodVars_none n;have c:=a;have z:∀x∈p0,x.block<W:=by obtain⟨m,s⟩:=c;exact DataW.trod_lt m _ _ _ s
 obtain⟨x,rfl,hx⟩:=zi (g 0 28 d rfl rfl) a;clear i f;refine(FQ x W hx).mono fun e A ⟨o,k⟩=> ?_;subst o;exact⟨_,rfl,_,_,_,[],_,[],y,trodAll_mk1 (shut_bool underlying4 _),(trodAll_cons_mk (Below.trod laidOut (by kernel_rfl) (oI (by kernel_rfl)) c k z) trodAll_mk0),rfl,k.frame _,fun h=>by cases h⟩
theorem closed:joinedFacts prog 3 f3 Rows.topEndsSpec Rows.topEndsRow=true:=by
 unfold joinedFacts;rw[pa,km,mO,sM]
 kernel_rfl
theorem over:Rows.TopEndsSaid:=
 OpenClaim.holds_of_wide 3 f3 rfl rfl rfl rfl rfl rfl rfl ⟨rfl,rfl,rfl,rfl,rfl⟩ rfl rfl rfl rfl rfl (by kernel_rfl) func3 closed
  (oI (by kernel_rfl)) (by unfold Func.isWrapper;first|(rw[cK (by decide+kernel)];kernel_rfl)|(rw[cL (by decide+kernel)];exact⟨rfl,rfl⟩))
  (fun os a H enc _=>lifted os a H enc)
theorem xy(o:Option FuncId):o.any prog.goes=false:=by cases o<;>simp[vW O4]
theorem C6:false=Rows.topEndsRow.goesBy prog:=by
 unfold OpenClaim.goesBy Program.goesAt Program.goesFrom;rw[xy];rfl
theorem C1:prog.mainIs=some (true,("d98e4358a04c19b7526e3e2d62fa75e614bceaf15d73b82c9c8c2ae2db4efc22":String).toList):=by kernel_rfl
theorem ze:prog.funcNamed "muster/mustertop.TopEnds"=some 3:=by kernel_rfl
theorem qt:prog.wantsStandIn 28=false:=by kernel_rfl
theorem Cx:Rows.topEndsRow.wfByText (OpenSpec.ofChange Rows.topEndsSpec)=true:=by kernel_rfl
theorem yt:true=prog.looks []:=by kernel_rfl
theorem proved:Rows.TopEndsCardSaid:=
 Claim7.holds_tied_plain_at .later [] [.data,.data,.data,.sentinel,.sentinel] true (true,"d98e4358a04c19b7526e3e2d62fa75e614bceaf15d73b82c9c8c2ae2db4efc22") true
  over (fun _ h=>by cases h) Cx (fun _ h=>by cases h) topEnds_row_tie rfl ⟨rfl,rfl⟩ C1 rfl
  (fun f a b c=>by
    obtain rfl:f=3:=(oF (ze.symm.trans b)).symm;obtain rfl:a=f3:=(oF (func3.symm.trans c)).symm
    exact⟨yt,fun j t ht=>by
     rw[params3]at ht;rcases j with _|_|j
     ·simp at ht;subst ht;exact qt
     ·simp at ht
     ·simp at ht⟩)
  C6
end Go.Proofs.YthfhilggbbobmaaGreatDoor.topEnds
end
namespace Go.Proofs.YthfhilggbbobmaaGreatDoor
end Go.Proofs.YthfhilggbbobmaaGreatDoor
