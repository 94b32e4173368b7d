/- Parts of the proof. -/
import Derived.Test.YthfhilggbbobmaaGreatDoorK1
import Derived.Deep.RegionHeld
set_option linter.all false
set_option maxHeartbeats 20000000
namespace Go.Proofs.YthfhilggbbobmaaGreatDoor
open Go.Proofs.Tryz
open Go renaming World->Wd,Value->Vl,Program->Pg,Calls->Cs
open Go
section
variable {P : Program} {ops : Array Oper} {Q : Exit -> Act -> World -> Prop} {md : Region.Mode} {R S : World -> Prop} {T : Array Bool}
def clean(T g:Array Bool):Bool:=(List.range T.size).all fun k=> !(T.getD k false&&g.getD k false)
def qX(P:Pg)(c:Region.Mode)(b:Array Oper)(Q:Exit->Act->Wd->Prop)(R S:Wd->Prop)(T:Array Bool):Nat->Array Bool->Act->Wd->Prop
 |0,g,a,w=>wpAnyH P c b Q R 0 g a w
 |n+1,g,a,w=>if clean T g=false then wpAnyH P c b Q R (n+1) g a w else
  (Region.ready c b g=[]->Q .normal a w)/\∀i∈Region.ready c b g,wpOp P b Q i (fun d w'=>(R w'/\(clean T (g.setIfInBounds i true)=true->S w'))/\qX P c b Q R S T n (g.setIfInBounds i true) d w') a w
theorem xk:∀(n:Nat) (g:Array Bool) (a:Act) (w:Wd),qX P md ops Q R S T n g a w->wpAny P md ops Q n g a w
 |0,_,_,_,h=>wpAny_of_held _ _ _ _ h
 |n+1,g,a,w,h=>by
  unfold qX at h;split at h
  ·exact wpAny_of_held _ _ _ _ h
  ·exact⟨h.1,fun i hi=>wpOp_mono (fun b w' c=>xk n _ b w' c.2) (h.2 i hi)⟩
variable{n:Nat}{g:Array Bool}{a:Act}{w:Wd}
theorem vB(b:clean T g=false):qX P md ops Q R S T n g a w↔wpAnyH P md ops Q R n g a w:=by
 cases n with
 |zero=>exact oU
 |succ n=>unfold qX;rw[cK b]
theorem D6(h:clean T g=true){k:Nat}(b:T.getD k false=true):g.getD k false=false:=by
 unfold clean at h;rw[dC]at h
 have c:k<T.size:=by
  rcases iE k T.size with a|a
  ·exact a
  ·simp[oL a]at b
 have:=h k (fS.2 c);rw[b]at this;simpa using this
variable{i:Nat}
theorem lg(h:clean T g=true)(hi:T.getD i false=false):clean T (g.setIfInBounds i true)=true:=by
 unfold clean;rw[dC];intro k _;cases hk:T.getD k false
 ·rfl
 ·have:=D6 h hk;have a:i≠k:=fun e=>by subst e;rw[hi]at hk;cases hk
  rw[getD_set_ne false a,this];rfl
def td(b:Region.Mode)(a:Array Oper)(T:Array Bool)(i:Nat):Bool:=(List.range a.size).all fun j=> !(T.getD j false)||(a[j]?.map fun o=>o.after.toList.any fun e=>Region.binds b e&&e.on==i).getD true
variable{o:Oper}
theorem IF{j:Nat}(h:td md ops T i=true)(a:ops[j]?=some o)(c:T.getD j false=true):∃e∈o.after,Region.binds md e=true/\e.on=i:=by
 unfold td at h;rw[dC]at h;obtain⟨d,-⟩:=fC.1 a;have:=h j (fS.2 d);rw[c,a,Bool.not_true,sI,fI,i8,iZ]at this;obtain⟨e,b,h1⟩:=this;rw[cH,iC]at h1;exact⟨e,Array.mem_toList_iff.1 b,h1.1,h1.2⟩
def Uv(a:Region.Mode)(b:Array Oper)(m i:Nat):Bool:=(b[m]?.map fun o=>o.after.toList.any fun e=>Region.binds a e&&e.on==i).getD false
theorem O1{m:Nat}(h:Uv md ops m i=true)(b:ops[m]?=some o):∃e∈o.after,Region.binds md e=true/\e.on=i:=by
 unfold Uv at h;rw[b,fI,i8,iZ]at h;obtain⟨e,a,h1⟩:=h;rw[cH,iC]at h1;exact⟨e,Array.mem_toList_iff.1 a,h1.1,h1.2⟩
def chainB(a:Region.Mode)(b:Array Oper)(T:Array Bool):List Nat->Bool
 |[]=>false
 |[m]=>td a b T m
 |m::k::r=>Uv a b k m&&chainB a b T (k::r)
def wP(l:List Nat)(g:Array Bool):Bool:=l.all fun m=> !(g.getD m true)
theorem Dg{l:List Nat}(h:wP l g=true){m:Nat}(a:m∈l):g.getD m true=false:=by
 unfold wP at h;rw[dC]at h;simpa using h m a
theorem zo{m:Nat}(h:g.getD m true=false)(b:g.getD m false=true):False:=by
 rcases iE m g.size with a|a
 ·simp[a]at h b;rw[b]at h;cases h
 ·simp[oL a]at h
theorem vO:∀{l:List Nat} {g:Array Bool},chainB md ops T l=true->wP l g=true->∀{j:Nat} {o:Oper},ops[j]?=some o->T.getD j false=true->(∀e∈o.after,Region.binds md e=true->g.getD e.on false=true)->False
 |[],_,h,_,_,_,_,_,_=>by cases h
 |[m],g,h,hp,j,o,ho,hj,hall=>by
  obtain⟨e,b,a,c⟩:=IF h ho hj;have:=hall e b a;rw[c]at this;exact zo (Dg hp (by simp)) this
 |m::k::r,g,h,hp,j,o,ho,hj,hall=>by
  unfold chainB at h;rw[cH]at h;refine vO (l:=k::r) h.2 ?_ ho hj hall;unfold wP at hp⊢;rw[List.all_cons,cH]at hp;exact hp.2
theorem AZ:∀{l:List Nat} {i:Nat} {g:Array Bool},chainB md ops T (i::l)=true->wP (i::l) g=true->∀{j:Nat} {o:Oper},j∈l->ops[j]?=some o->(∀e∈o.after,Region.binds md e=true->g.getD e.on false=true)->False
 |[],_,_,_,_,_,_,a,_,_=>by cases a
 |k::r,i,g,h,hp,j,o,a,ho,hall=>by
  unfold chainB at h;rw[cH]at h;rcases dK.1 a with rfl|a
  ·obtain⟨e,c,b,d⟩:=O1 h.1 ho;have:=hall e c b;rw[d]at this;exact zo (Dg hp (by simp)) this
  ·refine AZ (l:=r) (i:=k) h.2 ?_ a ho hall;unfold wP at hp⊢;rw[List.all_cons,cH]at hp;exact hp.2
variable{v:Vl}
theorem Mg{i:Nat}{p:Oper}(hi:ops[i]?=some p)(J:∀(j:Nat) (o:Oper) cs b,ops[j]?=some o->o.op≠.select cs b)
 (V:∀c a w,Q (.panic c) (a.put p.dst v) w->Q (.panic c) a w)(F:T.getD i false=false)(l:List Nat)(hw:chainB md ops T (i::l)=true):
 ∀(n:Nat) (g:Array Bool) (a:Act) (w:Wd),clean T g=true->wP (i::l) g=true->
  (∀j q,ops[j]?=some q->j≠i->g.getD j true=false->(∀e∈q.after,Region.binds md e=true->e.on≠i)->p.apart ops q=true)->
  i∈Region.ready md ops g->YieldsIf P ops S p v a->R w->S w->qX P md ops Q R S T n (g.setIfInBounds i true) (a.put p.dst v) w->qX P md ops Q R S T (n+1) g a w:=by
 have yO:∀g:Array Bool,i∈Region.ready md ops g->∀e,e=i->g.getD e false=true->False:=fun g d e C h1=>by
  subst C;have E:=(mem_ready.1 d).1;rcases iE e g.size with B|B
  ·simp[B]at E h1;rw[E]at h1;cases h1
  ·simp[oL B]at h1
 intro n
 induction n with
 |zero=>
  intro g a w s x _ d A hR t H;unfold qX;rw[cL (by simp[s])];refine⟨fun h=>(by rw[h]at d;cases d),fun j y=> ?_⟩;by_cases f:j=i
  ·subst f;exact A.wpOp hi t ⟨⟨hR,fun _=>t⟩,H⟩
  ·have:=ready_mono y f;have O:Region.ready md ops (g.setIfInBounds i true)=[]:=H.1;rw[O]at this;cases this
 |succ n ih=>
  intro g a w s x G d A hR t H;unfold qX;rw[cL (by simp[s])];refine⟨fun h=>(by rw[h]at d;cases d),fun j y=> ?_⟩;by_cases f:j=i
  ·subst f;exact A.wpOp hi t ⟨⟨hR,fun _=>t⟩,H⟩
  ·obtain⟨I,q,u,D⟩:=mem_ready.1 y;have yJ:∀e∈q.after,Region.binds md e=true->e.on≠i:=fun e C W yR=>yO g d _ yR (D e C W)
   have L:T.getD j false=false:=by
    cases hq:T.getD j false
    ·rfl
    ·exact(vO hw x u hq D).elim
   have yP:wP (i::l) (g.setIfInBounds j true)=true:=by
    unfold wP;rw[dC];intro m z;have Y:=Dg x z
    have yU:j≠m:=fun e=>by
     subst e;rcases dK.1 z with rfl|z
     ·exact f rfl
     ·exact AZ hw x z u D
    rw[getD_set_ne true yU,Y];rfl
   have M:=lg (lg s F) L;have yQ:=lg s L;unfold qX at H;rw[cL (by simp[lg s F])]at H;have h1:=H.2 j (ready_mono y f);have h2:=wpOp_putIf u (G j q u f I yJ) (fun cs b=>J i p cs b hi) (fun cs b=>J j q cs b u) V A h1
   have Z:∀k ok,ops[k]?=some ok->k≠i->(g.setIfInBounds j true).getD k true=false->
    (∀e∈ok.after,Region.binds md e=true->e.on≠i)->p.apart ops ok=true:=fun k ok X yS N yT=>by
    refine G k ok X yS ?_ yT;by_cases K:j=k
    ·subst K;exact I
    ·rw[getD_set_ne true K]at N;exact N
   refine wpOp_mono (fun U w' r=>⟨⟨r.2.1.1,fun _=>r.2.1.2 M⟩,ih (g.setIfInBounds j true) U w' yQ yP Z (ready_mono d (sC f)) r.1 r.2.1.1 (r.2.1.2 M) ?_⟩) h2;rw[Array.setIfInBounds_comm _ _ f];exact r.2.2
theorem IC{m:Oper}(hi:ops[i]?=some m)(B:∀(j:Nat) (o:Oper) cs b,ops[j]?=some o->o.op≠.select cs b)
 (D:∀c a w,Q (.panic c) (a.put m.dst v) w->Q (.panic c) a w)(z:T.getD i false=false):
 ∀(n:Nat) (g:Array Bool) (a:Act) (w:Wd),clean T g=true->
  (∀j p,ops[j]?=some p->j≠i->g.getD j true=false->(∀e∈p.after,Region.binds md e=true->e.on≠i)->m.apart ops p=true)->
  i∈Region.ready md ops g->YieldsIf P ops R m v a->R w->S w->qX P md ops Q R S T n (g.setIfInBounds i true) (a.put m.dst v) w->qX P md ops Q R S T (n+1) g a w:=by
 intro n
 induction n with
 |zero=>
  intro g a w u _ l t hR y H;unfold qX;rw[cL (by simp[u])];refine⟨fun h=>(by rw[h]at l;cases l),fun j s=> ?_⟩;by_cases f:j=i
  ·subst f;exact t.wpOp hi hR ⟨⟨hR,fun _=>y⟩,H⟩
  ·have:=ready_mono s f;have L:Region.ready md ops (g.setIfInBounds i true)=[]:=H.1;rw[L]at this;cases this
 |succ n ih=>
  intro g a w u F l t hR y H;unfold qX;rw[cL (by simp[u])];refine⟨fun h=>(by rw[h]at l;cases l),fun j s=> ?_⟩;by_cases f:j=i
  ·subst f;exact t.wpOp hi hR ⟨⟨hR,fun _=>y⟩,H⟩
  ·obtain⟨G,p,C,V⟩:=mem_ready.1 s
   have O:∀e∈p.after,Region.binds md e=true->e.on≠i:=fun e N M W=>by
    have h1:=V e N M;rw[W]at h1;exact zo (mem_ready.1 l).1 h1
   unfold qX at H;rw[cL (by simp[lg u z])]at H;have h1:=H.2 j (ready_mono s f);have h2:=wpOp_putIf C (F j p C f G O) (fun cs b=>B i m cs b hi) (fun cs b=>B j p cs b C) D t h1
   have E:∀k ok,ops[k]?=some ok->k≠i->(g.setIfInBounds j true).getD k true=false->
    (∀e∈ok.after,Region.binds md e=true->e.on≠i)->m.apart ops ok=true:=fun k ok q Y K Z=>by
    refine F k ok q Y ?_ Z;by_cases I:j=k
    ·subst I;exact G
    ·rw[getD_set_ne true I]at K;exact K
   have A:=Array.setIfInBounds_comm (xs:=g) true true f;by_cases r:clean T (g.setIfInBounds j true)=true
   ·have J:clean T ((g.setIfInBounds i true).setIfInBounds j true)=true:=by rw[<-A];exact lg r z
    refine wpOp_mono (fun x w' d=>⟨⟨d.2.1.1,fun _=>d.2.1.2 J⟩,ih (g.setIfInBounds j true) x w' r E (ready_mono l (sC f)) d.1 d.2.1.1 (d.2.1.2 J) ?_⟩) h2;rw[A];exact d.2.2
   ·have X:clean T (g.setIfInBounds j true)=false:=by simpa using r
    refine wpOp_mono (fun x w' d=>⟨⟨d.2.1.1,fun h=>absurd h r⟩,(vB X).2 (wpAnyH_first hi B D n (g.setIfInBounds j true) x w' E (ready_mono l (sC f)) d.1 d.2.1.1 ?_)⟩) h2
    have U:clean T ((g.setIfInBounds j true).setIfInBounds i true)=false:=by
     cases hq:clean T ((g.setIfInBounds j true).setIfInBounds i true)
     ·rfl
     ·exfalso;apply r;unfold clean;rw[dC];intro k _;cases q:T.getD k false
      ·rfl
      ·have yU:i≠k:=fun e=>by subst e;rw[z]at q;cases q
       have:=D6 hq q;rw[getD_set_ne false yU]at this;rw[this];rfl
    refine(vB (S:=S) U).1 ?_;rw[A];exact d.2.2
theorem jU{b:Oper}(d:Option Tmp)(hi:ops[i]?=some b)(k:b.dst=d)
 (hs:Region.noSelect ops=true)(l:Region.free md ops g i=true)(m:(Region.ready md ops g).contains i=true)(j:T.getD i false=false)(p:clean T g=true)
 (e:∀c a w,Q (.panic c) (a.put d v) w->Q (.panic c) a w)(o:YieldsIf P ops R b v a)(hR:R w)(f:S w)
 (h:qX P md ops Q R S T n (g.setIfInBounds i true) (a.put d v) w):qX P md ops Q R S T (n+1) g a w:=by
 subst k;exact IC hi (Region.noSelect_spec hs) e j n g a w p (Region.free_spec hi l) (by simpa using m) o hR f h
theorem U6{i:Nat}{b:Oper}(d:Option Tmp)(hi:ops[i]?=some b)(k:b.dst=d)
 (hs:Region.noSelect ops=true)(m:Region.free md ops g i=true)(p:(Region.ready md ops g).contains i=true)(j:T.getD i false=false)(l:List Nat)(hw:chainB md ops T (i::l)=true)(o:wP (i::l) g=true)(r:clean T g=true)
 (e:∀c a w,Q (.panic c) (a.put d v) w->Q (.panic c) a w)(q:YieldsIf P ops S b v a)(hR:R w)(f:S w)
 (h:qX P md ops Q R S T n (g.setIfInBounds i true) (a.put d v) w):qX P md ops Q R S T (n+1) g a w:=by
 subst k;exact Mg hi (Region.noSelect_spec hs) e j l hw n g a w r o (Region.free_spec hi m) (by simpa using p) q hR f h
theorem tR{e:Oper}(d:Option Tmp)(hi:ops[i]?=some e)(k:e.dst=d)(b:(Region.noSelect ops&&Region.free md ops g i&&(Region.ready md ops g).contains i&& !T.getD i false&&clean T g)=true)(f:∀c a w,Q (.panic c) (a.put d v) w->Q (.panic c) a w)(l:YieldsIf P ops R e v a)(hR:R w)(j:S w)(h:qX P md ops Q R S T n (g.setIfInBounds i true) (a.put d v) w):qX P md ops Q R S T (n+1) g a w:=by
 simp only[cH,nD]at b;exact jU d hi k b.1.1.1.1 b.1.1.1.2 b.1.1.2 b.1.2 b.2 f l hR j h
theorem tT{e:Oper}(d:Option Tmp)(hi:ops[i]?=some e)(k:e.dst=d)(b:(Region.noSelect ops&&Region.free md ops g i&&(Region.ready md ops g).contains i&& !T.getD i false&&chainB md ops T [i]&&wP [i] g&&clean T g)=true)(f:∀c a w,Q (.panic c) (a.put d v) w->Q (.panic c) a w)(l:YieldsIf P ops S e v a)(hR:R w)(j:S w)(h:qX P md ops Q R S T n (g.setIfInBounds i true) (a.put d v) w):qX P md ops Q R S T (n+1) g a w:=by
 simp only[cH,nD]at b;exact U6 d hi k b.1.1.1.1.1.1 b.1.1.1.1.1.2 b.1.1.1.1.2 b.1.1.1.2 [] b.1.1.2 b.1.2 b.2 f l hR j h
theorem gR(k:clean T g=true)(f:Region.ready md ops g=[i])
 (h:wpOp P ops Q i (fun c w'=>(R w'/\S w')/\qX P md ops Q R S T n (g.setIfInBounds i true) c w') a w):qX P md ops Q R S T (n+1) g a w:=by
 unfold qX;rw[cL (by simp[k])];refine⟨fun d=>(by rw[f]at d;cases d),fun j e=> ?_⟩;rw[f,lD]at e;subst e;exact wpOp_mono (fun c w' b=>⟨⟨b.1.1,fun _=>b.1.2⟩,b.2⟩) h
theorem vC{j:Nat}(l:clean T g=true)(h:Region.ready md ops g=[j])(e:clean T (g.setIfInBounds j true)=false)
 (h2:wpOp P ops Q j (fun b w'=>R w'/\wpAnyH P md ops Q R n (g.setIfInBounds j true) b w') a w):qX P md ops Q R S T (n+1) g a w:=by
 unfold qX;rw[cL (by simp[l])];refine⟨fun d=>(by rw[h]at d;cases d),fun k f=> ?_⟩;rw[h,lD]at f;subst f;exact wpOp_mono (fun b w' c=>⟨⟨c.1,fun i=>absurd i (by simp[e])⟩,(vB e).2 c.2⟩) h2
theorem vA{id:Nat}(R S:Wd->Prop)(T:Array Bool)(b:P.follows .mixedOrders=true)(h:qX P .any ops Q R S T ops.size (Array.replicate ops.size false) a w.drew):(Code.region id ops true).wp P Q a w:=
 wp_region_any b (xk _ _ _ _ h)
theorem dg(d:Region.ready md ops g=[i])(h:wpOp P ops Q i (fun c w'=>R w'/\wpAnyH P md ops Q R n (g.setIfInBounds i true) c w') a w):wpAnyH P md ops Q R (n+1) g a w:=
 wpAnyH_all d (by simp) fun j b=>by
  rw[lD]at b;subst b;exact h
theorem ea{K:Act->Wd->Prop}(f:FuncId)(args:Array Vl)(d:Option Tmp)(hi:ops[i]?=some o)(b:o.dst=d)(hw:Region.wanted o (yielded ops a.tmps)=true)
 (hx:(execOp a.eval o).run P w=.ok (.enter f args) w)(h:Cs P f args w fun e w'=>∃v,e=.returned v/\K (a.put d v) w'):wpOp P ops Q i K a w:=by
 subst b;unfold wpOp;rw[hi];simp only[hw,oT,Oper.wp,hx,Oper.upon];refine .inl (Calls.mono h ?_);rintro e w' ⟨v,rfl,h2⟩;exact h2
theorem jY{K:Act->Wd->Prop}(w':Wd)(hi:ops[i]?=some o)(b:o.dst=none)(hw:Region.wanted o (yielded ops a.tmps)=true)
 (hx:(execOp a.eval o).run P w=.ok .skip w')(h:∀W,W=w'->K a W):wpOp P ops Q i K a w:=by
 unfold wpOp;rw[hi];simp only[hw,oT,Oper.wp,hx,Oper.upon,b];exact .inl (h _ rfl)
theorem lq{b:Oper}(d:Option Tmp)(hi:ops[i]?=some b)(f:b.dst=d)
 (hs:Region.noSelect ops=true)(j:Region.free md ops g i=true)(k:(Region.ready md ops g).contains i=true)
 (e:∀c a w,Q (.panic c) (a.put d v) w->Q (.panic c) a w)(l:YieldsIf P ops R b v a)(hR:R w)
 (h:wpAnyH P md ops Q R n (g.setIfInBounds i true) (a.put d v) w):wpAnyH P md ops Q R (n+1) g a w:=by
 subst f;exact wpAnyH_take hi hs j k e l hR h
end
end Go.Proofs.YthfhilggbbobmaaGreatDoor
