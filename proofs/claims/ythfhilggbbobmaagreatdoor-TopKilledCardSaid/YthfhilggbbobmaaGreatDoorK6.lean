/- Parts of the proof. -/
import Derived.Test.YthfhilggbbobmaaGreatDoorK5
import Derived.RowKit
set_option linter.all false
set_option maxHeartbeats 20000000
namespace Go.Proofs.YthfhilggbbobmaaGreatDoor
open Go.Proofs.Tryz
open Go renaming World->Wd,Value->Vl,Program->Pg,Calls->Cs
open Go Go.RowKit
def listed(n:Nat)(r:List Nat):Array Bool:=Array.ofFn (n:=n) fun i=> !(r.contains i.1)
theorem ve(n:Nat)(r:List Nat)(i:Nat):(listed n r)[i]?=if i<n then some (!(r.contains i))else none:=by
 unfold listed;rw[Array.getElem?_ofFn];split<;>rfl
variable{n:Nat}
theorem pj{k:Nat}{r:List Nat}(h:r.contains k=false):(listed n (k::r)).setIfInBounds k true=listed n r:=by
 apply Array.ext_getElem?;intro i;rw[Array.getElem?_setIfInBounds,ve,ve];have hs:(listed n (k::r)).size=n:=by simp[listed]
 rw[hs];by_cases e:k=i
 ·subst e;by_cases a:k<n<;>simp[a];simpa using h
 ·rw[cL e]
  have:(k::r).contains i=r.contains i:=by
   rw[List.contains_cons];have:(i==k)=false:=by simpa using fun x=>e x.symm
   rw[this,sI]
  rw[this]
theorem we{r:List Nat}(h:(List.range n).all (fun i=>r.contains i)=true):listed n r=Array.replicate n false:=by
 apply Array.ext_getElem?;intro i;rw[ve,Array.getElem?_replicate];by_cases hi:i<n
 ·rw[cK hi,cK hi,dC.1 h i (fS.2 hi)];rfl
 ·rw[cL hi,cL hi]
def EQ(a:Array Oper)(T:Array Bool)(H:List Nat)(k:Nat)(r:List Nat):Bool:=
 if H.contains k then Region.ready .any a (listed a.size (k::r))==[k]else Region.free .any a (listed a.size (k::r)) k&&(Region.ready .any a (listed a.size (k::r))).contains k&& !(T.getD k false)
def BD(a:Array Oper)(T:Array Bool)(H:List Nat)(m:Nat):List Nat->Bool
 |[]=>true
 |k::r=>Nat.blt r.length m||(decide (k<a.size)&& !(r.contains k)&&EQ a T H k r&&clean T (listed a.size (k::r))&&BD a T H m r)
def CU(a:Array Oper)(T:Array Bool)(H:List Nat)(m:Nat)(l:List Nat):Bool:=
 l.length==a.size&&(List.range a.size).all (fun i=>l.contains i)&&BD a T H m l
section
variable {P : Program} {ops : Array Oper} {Q : Exit -> Act -> World -> Prop} {R S : World -> Prop} {T : Array Bool} {H : List Nat} {m k : Nat} {o : Oper} {r : List Nat} {a : Act} {w : World}
structure LQ(P:Pg)(ops:Array Oper)(Q:Exit->Act->Wd->Prop)(R S:Wd->Prop)(T:Array Bool)(H:List Nat)(m:Nat)(l:List Nat)(a:Act)(w:Wd):Prop where
 out:Region.noSelect ops=true->Region.ready .any ops (listed ops.size [])=[]->BD ops T H m l=true->R w->S w->qX P .any ops Q R (fun W=>R W/\S W) T l.length (listed ops.size l) a w
theorem bW{id:Nat}(R S:Wd->Prop)(T:Array Bool)(H:List Nat)(m:Nat)(l:List Nat)(d:P.follows .mixedOrders=true)(hs:(Region.noSelect ops&&(Region.ready .any ops (listed ops.size [])).isEmpty&&CU ops T H m l)=true)(hR:R w.drew)(c:S w.drew)(h:LQ P ops Q R S T H m l a w.drew):(Code.region id ops true).wp P Q a w:=by
 unfold CU at hs;simp only[cH,iC,List.isEmpty_iff]at hs;have b:=h.out hs.1.1 hs.1.2 hs.2.2 hR c;rw[we hs.2.1.2,hs.2.1.1]at b;exact wp_region_any d (xk _ _ _ _ b)
theorem lqb{id:Nat}(R:Wd->Prop)(H:List Nat)(l:List Nat)(b:P.follows .mixedOrders=true)(hs:(Region.noSelect ops&&(Region.ready .any ops (listed ops.size [])).isEmpty&&CU ops #[] H 0 l)=true)(hR:R w.drew)(h:LQ P ops Q R (fun _=>True) #[] H 0 l a w.drew):(Code.region id ops true).wp P Q a w:=bW R _ #[] H 0 l b hs hR trivial h
theorem ew(h:Q .normal a w):LQ P ops Q R S T H m [] a w:=⟨fun _ b _ _ _=>⟨b,h⟩⟩
theorem yr(h:BD ops T H m (k::r)=true)(a:Nat.ble m r.length=true):k<ops.size/\r.contains k=false/\EQ ops T H k r=true/\clean T (listed ops.size (k::r))=true/\BD ops T H m r=true:=by
 unfold BD at h
 have:Nat.blt r.length m=false:=by
  cases hb:Nat.blt r.length m
  ·rfl
  ·have h1:=Nat.le_of_ble_eq_true a;have h2:=Nat.le_of_ble_eq_true hb;omega
 rw[this,sI]at h;simp only[cH,dA,nD]at h;exact⟨h.1.1.1.1,h.1.1.1.2,h.1.1.2,h.1.2,h.2⟩
theorem C0(v:Vl)(z:Nat.ble m r.length=true)(j:ops[k]?=some o)(hw:Region.wanted o (yielded ops a.tmps)=true)(q:∀c a w,Q (.panic c) (a.put o.dst v) w->Q (.panic c) a w)(l:∀W,R W->(td .any ops T k=true->S W)->(execOp a.eval o).run P W=.ok (.value v) W)
 (h:LQ P ops Q R S T H m r (a.put o.dst v) w):LQ P ops Q R S T H m (k::r) a w:=⟨fun h1 t u hR f=>by
 obtain⟨y,x,b,n,B⟩:=yr u z;have i:=h.out h1 t B hR f;rw[<-pj x]at i;unfold EQ at b;by_cases p:H.contains k=true
 ·rw[cK p]at b;have A:Region.ready .any ops (listed ops.size (k::r))=[k]:=by simpa using b
  have g:YieldsIf P ops (fun W=>R W/\S W) o v a:=.inl ⟨hw,fun W d=>l W d.1 fun _=>d.2⟩;exact gR n A (g.wpOp j ⟨hR,f⟩ ⟨⟨hR,hR,f⟩,i⟩)
 ·rw[cL p]at b;simp only[cH,nD]at b;by_cases s:td .any ops T k=true
  ·have g:YieldsIf P ops (fun W=>R W/\S W) o v a:=.inl ⟨hw,fun W d=>l W d.1 fun _=>d.2⟩;exact U6 o.dst j rfl h1 b.1.1 b.1.2 b.2 [] s (by simp[wP,listed,y]) n q g hR ⟨hR,f⟩ i
  ·have g:YieldsIf P ops R o v a:=.inl ⟨hw,fun W d=>l W d fun e=>absurd e s⟩;exact jU o.dst j rfl h1 b.1.1 b.1.2 b.2 n q g hR ⟨hR,f⟩ i⟩
theorem cj(d:Nat.ble m r.length=true)(e:ops[k]?=some o)(hw:Region.wanted o (yielded ops a.tmps)=true)(b:∀c a w v,Q (.panic c) (a.put o.dst v) w->Q (.panic c) a w)(h:∃v,(∀W,R W->(td .any ops T k=true->S W)->(execOp a.eval o).run P W=.ok (.value v) W)/\LQ P ops Q R S T H m r (a.put o.dst v) w):LQ P ops Q R S T H m (k::r) a w:=by
 obtain⟨v,h1,h2⟩:=h;exact C0 v d e hw (fun c a w=>b c a w v) h1 h2
theorem lqe(e:(Nat.ble m r.length,ops[k]?,Region.wanted o (yielded ops a.tmps))=(true,some o,true))(b:∀c a w v,Q (.panic c) (a.put o.dst v) w->Q (.panic c) a w)(h:∃v,(∀W,R W->(td .any ops T k=true->S W)->(execOp a.eval o).run P W=.ok (.value v) W)/\LQ P ops Q R S T H m r (a.put o.dst v) w):LQ P ops Q R S T H m (k::r) a w:=by
 simp only[Prod.mk.injEq]at e;exact cj e.1 e.2.1 e.2.2 b h
theorem gN(j:Nat.ble m r.length=true)(f:H.contains k=true)(h:wpOp P ops Q k (fun d w'=>R w'/\S w'/\LQ P ops Q R S T H m r d w') a w):LQ P ops Q R S T H m (k::r) a w:=⟨fun h1 e g hR p=>by
 obtain⟨q,i,c,o,n⟩:=yr g j;unfold EQ at c;rw[cK f]at c;have l:Region.ready .any ops (listed ops.size (k::r))=[k]:=by simpa using c
 refine gR o l (wpOp_mono (fun d w' b=>⟨⟨b.1,b.1,b.2.1⟩,?_⟩) h);rw[pj i];exact b.2.2.out h1 e n b.1 b.2.1⟩
theorem el(f:FuncId)(args:Array Vl)(i:Nat.ble m r.length=true)(b:H.contains k=true)(d:Option Tmp)(g:ops[k]?=some o)(c:o.dst=d)(hw:Region.wanted o (yielded ops a.tmps)=true)(hx:(execOp a.eval o).run P w=.ok (.enter f args) w)
 (h:Cs P f args w fun e w'=>∃v,e=.returned v/\R w'/\S w'/\LQ P ops Q R S T H m r (a.put d v) w'):LQ P ops Q R S T H m (k::r) a w:=
 gN i b (ea f args d g c hw hx h)
theorem lqc(f:FuncId)(args:Array Vl)(d:Option Tmp)(e:(Nat.ble m r.length,H.contains k,ops[k]?,o.dst,Region.wanted o (yielded ops a.tmps))=(true,true,some o,d,true))(hx:(execOp a.eval o).run P w=.ok (.enter f args) w)(h:Calls P f args w fun e w'=>∃v,e=.returned v/\R w'/\S w'/\LQ P ops Q R S T H m r (a.put d v) w'):LQ P ops Q R S T H m (k::r) a w:=by
 simp only[Prod.mk.injEq]at e;exact el f args e.1 e.2.1 d e.2.2.1 e.2.2.2.1 e.2.2.2.2 hx h
theorem eS{i:Nat}{b:Oper}{K:Act->Wd->Prop}(v:Vl)(w':Wd)(d:Option Tmp)(hi:ops[i]?=some b)(c:b.dst=d)(hw:Region.wanted b (yielded ops a.tmps)=true)(hx:(execOp a.eval b).run P w=.ok (.value v) w')(h:∀W,W=w'->K (a.put d v) W):wpOp P ops Q i K a w:=by
 subst c;unfold wpOp;rw[hi];simp only[hw,oT,Oper.wp,hx,Oper.upon];exact .inl (h _ rfl)
theorem JB(v:Vl)(w':Wd)(f:Nat.ble m r.length=true)(b:H.contains k=true)(d:Option Tmp)(e:ops[k]?=some o)(c:o.dst=d)(hw:Region.wanted o (yielded ops a.tmps)=true)(hx:(execOp a.eval o).run P w=.ok (.value v) w')
 (h:∀W,W=w'->R W/\S W/\LQ P ops Q R S T H m r (a.put d v) W):LQ P ops Q R S T H m (k::r) a w:=
 gN f b (eS v w' d e c hw hx h)
theorem CZ(w':Wd)(e:Nat.ble m r.length=true)(b:H.contains k=true)(d:ops[k]?=some o)(c:o.dst=none)(hw:Region.wanted o (yielded ops a.tmps)=true)(hx:(execOp a.eval o).run P w=.ok .skip w')
 (h:∀W,W=w'->R W/\S W/\LQ P ops Q R S T H m r a W):LQ P ops Q R S T H m (k::r) a w:=
 gN e b (jY w' d c hw hx h)
theorem CY(w':Wd)(n:Nat.ble m 0=true)(f:H.contains k=true)(l:ops[k]?=some o)(i:clean T (listed ops.size [])=false)(j:o.dst=none)(hw:Region.wanted o (yielded ops a.tmps)=true)(hx:(execOp a.eval o).run P w=.ok .skip w')
 (h:∀W,W=w'->R W/\Q .normal a W):LQ P ops Q R S T H m [k] a w:=⟨fun h1 e g hR r=>by
 obtain⟨s,d,b,q,t⟩:=yr g n;unfold EQ at b;rw[cK f]at b;have p:Region.ready .any ops (listed ops.size [k])=[k]:=by simpa using b
 refine vC q p (by rw[pj d];exact i) (jY w' l j hw hx fun W c=>⟨(h W c).1,?_⟩);rw[pj d];exact wpAnyH_done e (h W c).2 _⟩
theorem Ag:∀(n:Nat) (g:Array Bool) (a:Act) (w:Wd),wpAnyH P .any ops Q R n g a w->R w->qX P .any ops Q R (fun W=>R W/\True) T n g a w
 |0,_,_,_,h,_=>h
 |n+1,g,a,w,h,hR=>by
  unfold qX;split
  ·exact h
  ·exact⟨h.1,fun i hi=>wpOp_mono (fun c w' b=>⟨⟨b.1,fun _=>⟨b.1,trivial⟩⟩,Ag n _ c w' b.2 b.1⟩) (h.2 i hi)⟩
theorem mP(n:Nat)(hn:r.length=n)(h:wpAnyH P .any ops Q R n (listed ops.size r) a w):LQ P ops Q R (fun _=>True) T H m r a w:=⟨fun _ _ _ hR _=>by rw[hn];exact Ag _ _ _ _ h hR⟩
theorem ht{i:Nat}{e:Oper}{v:Vl}{g:Array Bool}(d:Option Tmp)(hi:ops[i]?=some e)(j:e.dst=d)(b:(Region.noSelect ops&&Region.free .any ops g i&&(Region.ready .any ops g).contains i)=true)(hw:Region.wanted e (yielded ops a.tmps)=true)
 (f:∀c a w,Q (.panic c) (a.put d v) w->Q (.panic c) a w)(hR:R w)(k:∀W,R W->(execOp a.eval e).run P W=.ok (.value v) W)(h:wpAnyH P .any ops Q R n (g.setIfInBounds i true) (a.put d v) w):wpAnyH P .any ops Q R (n+1) g a w:=by
 simp only[cH]at b;exact lq d hi j b.1.1 b.1.2 b.2 f (.inl ⟨hw,k⟩) hR h
theorem cx{i:Nat}{b:Oper}{g:Array Bool}(d:Option Tmp)(hi:ops[i]?=some b)(j:b.dst=d)(f:(Region.noSelect ops&&Region.free .any ops g i&&(Region.ready .any ops g).contains i)=true)(hw:Region.wanted b (yielded ops a.tmps)=true)
 (e:∀c a w v,Q (.panic c) (a.put d v) w->Q (.panic c) a w)(hR:R w)(h:∃v,(∀W,R W->(execOp a.eval b).run P W=.ok (.value v) W)/\wpAnyH P .any ops Q R n (g.setIfInBounds i true) (a.put d v) w):wpAnyH P .any ops Q R (n+1) g a w:=
 let⟨v,h1,h2⟩:=h
 ht d hi j f hw (fun c a w=>e c a w v) hR h1 h2
end
end Go.Proofs.YthfhilggbbobmaaGreatDoor
