/- mustertop.TopKilled holds for every state and any number of ticks (the given tied card). -/
import Derived.Test.YthfhilggbbobmaaGreatDoorKK1
import Derived.Test.YthfhilggbbobmaaGreatDoorKK2
import Derived.Test.YthfhilggbbobmaaGreatDoorKK3
import Derived.Test.YthfhilggbbobmaaGreatDoorKK4
import Derived.Test.YthfhilggbbobmaaGreatDoorKK5
import Derived.Test.YthfhilggbbobmaaGreatDoorCards
import Derived.Test.YthfhilggbbobmaaGreatDoorTie
import Derived.LaidMore
import Derived.SevenTiedAt
set_option linter.all false
set_option maxHeartbeats 20000000
namespace Go.Proofs.YthfhilggbbobmaaGreatDoor
end Go.Proofs.YthfhilggbbobmaaGreatDoor
section
namespace Go.Proofs.YthfhilggbbobmaaGreatDoor.topKilled
open Go.Proofs.Tryz
open Go renaming Value->Vl,TypeId->Ti
set_option maxRecDepth 100000
open Go.ChangeShapes Go.WideShapes Go.ChangeAt Go.RowKit
theorem own:ownKnob prog.godebug=none:=by kernel_rfl
theorem laidOut:laidOutB prog=true:=by kernel_rfl
theorem xN(os:Os)(args:Array Vl):laidMetH prog Rows.topKilledRow.laid ((World.doorLaid prog 400 os).forCall (fun _ _=>0) ⟨#[],args,[]⟩).memory:=
 laidMetH_of_parts3 (fuel:=8) (laidMet_of_run' 8 (by kernel_rfl) (by kernel_rfl)) (by kernel_rfl) (by kernel_rfl)
theorem lifted(os:Os)(B:os.Started)(H:Type)(enc:Ti×Vl->H):
 ReturnsInHanded {} checked os 4 .any (fun w args=>(Rows.topKilledSpec.pre enc prog f4 [] false w args/\laidMetH prog Rows.topKilledRow.laid w)/\sizedMet enc prog f4 (OpenSpec.ofChange Rows.topKilledSpec) false w args)
  (Rows.topKilledSpec.post enc prog f4 false true false false):=by
 refine returnsInHanded_of_change_and (C:=checked) (X:=fun w _=>laidMetH prog Rows.topKilledRow.laid w) (fun _ _ _ z h=>h.of_heap z) own B (by kernel_rfl) func4
  (ChangeSpec.witness_shaped (enc:=enc) (C:=checked) (os:=os) (X:=fun w _=>laidMetH prog Rows.topKilledRow.laid w) false (World.doorLaid prog 400 os) #[.agg #[(),.slice none 0 0,.slice none 0 0,.slice none 0 0,.slice none 0 0,.slice none 0 0,(),()],()] 8 rfl (World.shaped_of_RefB (by kernel_rfl) (by kernel_rfl)) (by kernel_rfl) (by kernel_rfl) (by kernel_rfl) (xN os _)) ?_
 intro W base args s K P n f _ _ L _;have b:∀(j:Nat) t v,f4.params[j]?=some t->args[j]?=some v->Value.okWide prog W .any base t v:=n;have D:=f;obtain⟨p,q,o,u,rfl,Z,S⟩:=f;have hA:DataW.TrodAll enc prog W 0 (fun _=>true) true f4.params.toList args.toList s p:=o;rw[params4]at hA b;obtain⟨k,T,I,U,p0,M,Q,rfl,rfl,d,r0⟩:=trodAll_cons hA;obtain⟨l,yS,J,V,p1,N,rfl,rfl,rfl,h1,A⟩:=trodAll_cons r0;obtain⟨rfl,rfl,rfl⟩:=trodAll_nil A;obtain rfl:args= #[k,l]:=by cases args;simp_all
 obtain⟨rfl,rfl⟩:=trodVars_none u;have g:=d;have F:∀x∈p0,x.block<W:=by obtain⟨m,a⟩:=g;exact DataW.trod_lt m _ _ _ a
 obtain⟨x,rfl,hx⟩:=zi (b 0 28 k rfl rfl) d;have i:=h1;have E:∀x∈p1,x.block<W:=by obtain⟨m,a⟩:=i;exact DataW.trod_lt m _ _ _ a
 obtain⟨r,rfl,R,Y,O⟩:=open_int underlying3 (b 1 3 l rfl rfl) h1;clear o n;refine(AI x r W hx).mono fun e G ⟨y,c⟩=> ?_;subst y;exact⟨_,rfl,_,_,_,[],_,[],D,trodAll_mk1 (shut_bool underlying4 _),(trodAll_cons_mk (Below.trod laidOut (by kernel_rfl) (oI (by kernel_rfl)) g c F) (trodAll_cons_mk (Below.trod laidOut (by kernel_rfl) (oI (by kernel_rfl)) i c E) trodAll_mk0)),rfl,c.frame _,fun h=>by cases h⟩
theorem closed:joinedFacts prog 4 f4 Rows.topKilledSpec Rows.topKilledRow=true:=by
 unfold joinedFacts;rw[pa,km,mO,sM]
 kernel_rfl
theorem over:Rows.TopKilledSaid:=
 OpenClaim.holds_of_wide 4 f4 rfl rfl rfl rfl rfl rfl rfl ⟨rfl,rfl,rfl,rfl,rfl⟩ rfl rfl rfl rfl rfl (by kernel_rfl) func4 closed
  (oI (by kernel_rfl)) (by unfold Func.isWrapper;first|(rw[cK (by decide+kernel)];kernel_rfl)|(rw[cL (by decide+kernel)];exact⟨rfl,rfl⟩))
  (fun os a H enc _=>lifted os a H enc)
theorem xy(o:Option FuncId):o.any prog.goes=false:=by cases o<;>simp[vW O4]
theorem C6:false=Rows.topKilledRow.goesBy prog:=by
 unfold OpenClaim.goesBy Program.goesAt Program.goesFrom;rw[xy];rfl
theorem C1:prog.mainIs=some (true,("d98e4358a04c19b7526e3e2d62fa75e614bceaf15d73b82c9c8c2ae2db4efc22":String).toList):=by kernel_rfl
theorem ze:prog.funcNamed "muster/mustertop.TopKilled"=some 4:=by kernel_rfl
theorem qt:prog.wantsStandIn 28=false:=by kernel_rfl
theorem LD:prog.wantsStandIn 3=false:=by kernel_rfl
theorem Cx:Rows.topKilledRow.wfByText (OpenSpec.ofChange Rows.topKilledSpec)=true:=by kernel_rfl
theorem yt:true=prog.looks []:=by kernel_rfl
theorem proved:Rows.TopKilledCardSaid:=
 Claim7.holds_tied_plain_at .later [] [.data,.data,.data,.sentinel,.sentinel] true (true,"d98e4358a04c19b7526e3e2d62fa75e614bceaf15d73b82c9c8c2ae2db4efc22") true
  over (fun _ h=>by cases h) Cx (fun _ h=>by cases h) topKilled_row_tie rfl ⟨rfl,rfl⟩ C1 rfl
  (fun f a b c=>by
    obtain rfl:f=4:=(oF (ze.symm.trans b)).symm;obtain rfl:a=f4:=(oF (func4.symm.trans c)).symm
    exact⟨yt,fun j t ht=>by
     rw[params4]at ht;rcases j with _|_|j
     ·simp at ht;subst ht;exact qt
     ·simp at ht;subst ht;exact LD
     ·simp at ht⟩)
  C6
end Go.Proofs.YthfhilggbbobmaaGreatDoor.topKilled
end
namespace Go.Proofs.YthfhilggbbobmaaGreatDoor
end Go.Proofs.YthfhilggbbobmaaGreatDoor
