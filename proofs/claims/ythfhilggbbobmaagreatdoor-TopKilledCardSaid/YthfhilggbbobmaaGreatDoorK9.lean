/- Parts of the proof. -/
import Derived.Test.YthfhilggbbobmaaGreatDoorK2
import Derived.BigQuiet
set_option linter.all false
set_option maxHeartbeats 20000000
namespace Go.Proofs.YthfhilggbbobmaaGreatDoor
open Go.Proofs.Tryz
open Go renaming World->Wd,Value->Vl,Program->Pg,Calls->Cs
open Go.RowKit renaming Below->Bl
open Go.RowKit
section
variable {P : Program} {ops : Array Oper} {C : World -> Prop} {Q : Act -> Prop} {a : Act} {o : Oper} {rest : List Oper}
structure WQ(P:Pg)(ops:Array Oper)(C:Wd->Prop)(Q:Act->Prop)(l:List Oper)(a:Act):Prop where
 out:wpQuiet P ops C Q l a
theorem aw{id:Nat}{Q:Exit->Act->Wd->Prop}{a:Act}{w:Wd}{l:List Oper}(C:Wd->Prop)(d:P.follows .mixedOrders=true)(c:Region.lexB .any l.toArray=true)(hC:C w.drew)
 (h:WQ P l.toArray C (fun b=>∀w',C w'->Q .normal b w') l a):(Code.region id l.toArray true).wp P Q a w:=
 wp_region_quiet (C:=C) d c hC (by simpa using h.out)
theorem wq{id:Nat}{Q:Exit->Act->Wd->Prop}{a:Act}{w V:Wd}{l:List Oper}(hC:Bl V V w.drew)(d:P.follows .mixedOrders=true)(c:Region.lexB .any l.toArray=true)(h:WQ P l.toArray (fun w'=>Bl V V w') (fun b=>∀w',Bl V V w'->Q .normal b w') l a):(Code.region id l.toArray true).wp P Q a w:=aw _ d c hC h
theorem bM(h:Q a):WQ P ops C Q [] a:=⟨h⟩
theorem bF(hw:Region.wanted o (yielded ops a.tmps)=false)(h:WQ P ops C Q rest (a.put o.dst undef)):WQ P ops C Q (o::rest) a:=
 ⟨wpQuiet_step fun K b=>by rw[cL (by rw[hw];exact Bool.false_ne_true)];exact b _ h.out⟩
theorem GH(v:Vl)(hw:Region.wanted o (yielded ops a.tmps)=true)(c:∀w,C w->(execOp a.eval o).run P w=.ok (.value v) w)(h:WQ P ops C Q rest (a.put o.dst v)):WQ P ops C Q (o::rest) a:=
 ⟨wpQuiet_step fun K b=>by
   rw[cK hw];refine⟨v,fun w hC=> ?_,b _ h.out⟩;unfold Oper.quietAt;rw[c w hC];exact⟨rfl,rfl⟩⟩
theorem cw(hw:Region.wanted o (yielded ops a.tmps)=true)(b:∃v,(∀w,C w->(execOp a.eval o).run P w=.ok (.value v) w)/\WQ P ops C Q rest (a.put o.dst v)):WQ P ops C Q (o::rest) a:=
 let⟨v,h1,h2⟩:=b
 GH v hw h1 h2
theorem ee(f:FuncId)(args:Array Vl)(v:Vl)(hw:Region.wanted o (yielded ops a.tmps)=true)(d:∀w,(execOp a.eval o).run P w=.ok (.enter f args) w)(c:∀w,C w->Cs P f args w (fun e g=>e=.returned v/\C g))(h:WQ P ops C Q rest (a.put o.dst v)):WQ P ops C Q (o::rest) a:=
 ⟨wpQuiet_step fun K b=>by
   rw[cK hw];refine⟨v,fun w hC=> ?_,b _ h.out⟩;unfold Oper.quietAt;rw[d w];exact⟨rfl,c w hC⟩⟩
end
end Go.Proofs.YthfhilggbbobmaaGreatDoor
