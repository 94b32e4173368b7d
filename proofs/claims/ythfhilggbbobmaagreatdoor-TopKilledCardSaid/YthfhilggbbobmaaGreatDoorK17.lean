/- Parts of the proof. -/
import Derived.Test.YthfhilggbbobmaaGreatDoorK2
import Derived.RangeFuncNested
import Derived.RangeFuncBound
import Derived.Shelf.RegionOpen
import Derived.OwnWalkIn
import Derived.LoopNIn
import Derived.LoopIn
set_option linter.all false
set_option maxHeartbeats 20000000
namespace Go.Proofs.YthfhilggbbobmaaGreatDoor
open Go.Proofs.Tryz
open Go renaming World->Wd,Value->Vl,TypeId->Ti
open Go.RowKit Go.Shelf
attribute [local go_sem] Oper.semAt_some
abbrev mw(W:Wd)(row:Option Nat):Prop:=∀r,row=some r->∃o:Obj,W.heap[r]?=some o/\o.isCells=false
theorem eY.grown{W f:Wd}{row:Option Nat}{base size:Nat}{A:OA}{n c:Nat}{xs:List Vl}(h:eY W base size A n c xs)(b:W.grownBy f row)(e:mw W row):eY f base size A n c xs:=
 ⟨h.cb,h.le,h.max,fun k=>by
   obtain⟨g,hA,i,o,h1,h2⟩:=h.room k;refine⟨g,hA,i,cD o b.size,fun j d=> ?_,fun j d=> ?_⟩
   ·have hx:∃v,xs[j]?=some v:=⟨_,cE (by rw[h.cb];exact d)⟩;obtain⟨v,a⟩:=hx;rw[a];exact cell_kept ((h1 j d).trans a) b e
   ·obtain⟨l,m⟩:=h2 j d;obtain⟨v,a⟩:=l9.1 l;exact⟨by rw[cell_kept a b e];rfl,(frozen_kept a b e).trans m⟩,h.cz⟩
theorem ai.qb{W c:Wd}{row:Option Nat}{b:Nat}{t:Ti}{cs:Array Vl}(h:ai W b t cs)(f:W.grownBy c row)(g:mw W row):ai c b t cs:=by
 refine(f.block b h.lt fun e=> ?_).trans h;obtain⟨o,a,d⟩:=g b e.symm;rw[show W.heap[b]?=_ from h]at a;injection a with a
 subst a;cases d
end Go.Proofs.YthfhilggbbobmaaGreatDoor
