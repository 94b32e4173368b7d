/- Parts of the proof. -/
import Derived.Test.YthfhilggbbobmaaGreatDoorK21
import Derived.Test.YthfhilggbbobmaaGreatDoorK4
set_option linter.all false
set_option maxHeartbeats 20000000
namespace Go.Proofs.YthfhilggbbobmaaGreatDoor
open Go.Proofs.Tryz
def gA(am:Int)(x:Nd):Bool:=(x.wt==1||x.wt==3||x.wt==5)&&decide (12<=am-x.si)
def ey(s:St):List Nat:=pw (gA s.am) s.ag s.ag.length
variable{n:Nat}
theorem pl{q:Nd->Bool}{l:List Nd}:n∈pw q l l.length↔∃x,l[n]?=some x/\q x=true:=by
 unfold pw;rw[fM,fS,gM];exact⟨fun h=>h.2,fun⟨x,h1,h2⟩=>⟨(cA.1 h1).1,x,h1,h2⟩⟩
def wg(s:St)(n:Nat):St:=
 match s.ag[n]? with
 |none=>s
 |some x=>if x.st=1 then(match eh s.aj x.jb with|none=>s|some j=>pA (gJ s j 7) n)else pA s n
def tM(s:St)(n:Nat):Int:=(rg s.ag (n:Int) 9 0 s.am).2
variable{am:Int}
theorem CT{x:Nd}(h:fb x=true)(e:gA am x=true):x.st=1\/x.st=3:=by
 have a:=ri h;unfold pW vX at a
 have hw:x.wt=1\/x.wt=3\/x.wt=5:=by
  simp[gA]at e;omega
 by_cases b:x.st=0
 ·simp[b]at a;omega
 by_cases h1:x.st=1
 ·exact .inl h1
 by_cases h2:x.st=2
 ·simp[h2]at a;omega
 by_cases c:x.st=3
 ·exact .inr c
 by_cases d:x.st=4
 ·simp[d]at a;omega
 ·simp[b,h1,h2,c,d]at a
variable{j:Jb}{why:Int}
theorem tE(h:fg j=true)(hs:j.st=2)(hw:pK why=true):kK j why=0:=by simp[kK,h,hs,hw]
theorem Eh(s:St)(j:Jb)(why:Int):(gJ s j why).am=s.am:=by unfold gJ;split<;>rfl
variable{s:St}
theorem lk(g:bt s)(hs:j.st=2)(n:Nat):
 (gJ s j why).ag[n]?=s.ag[n]?.map (fun x=>if x.jb=j.id/\(x.st=1\/x.st=2)then bH x 7 0 s.am else x):=by
 unfold gJ;rw[cK hs];obtain⟨e0,D⟩:=mH g j.id;have e:=mZ (Df g.ag j.id) D n;show(gH s j.id).1[n]?=_;rw[e];by_cases d:(zn s.ag j.id).testBit n=true
 ·rw[cK d];obtain⟨y,a,b,c⟩:=(rt g.ag).1 d;rw[a];unfold jz at c;simp[b,c]
 ·rw[cL d]
  cases hx:s.ag[n]? with
  |none=>rfl
  |some x=>
   have:¬(x.jb=j.id/\(x.st=1\/x.st=2)):=fun h=>d ((rt g.ag).2 ⟨x,hx,h.1,h.2⟩);simp[this]
structure Lost(s t:St)(n:Nat):Prop where
 kq:bt t
 am:t.am=s.am
 bx:t.bx.Sublist s.bx
 run:∀j∈t.aj,j.st=2->j∈s.aj
 at_:∃x y,s.ag[n]?=some x/\t.ag[n]?=some y/\y.st=4/\y.wt=0/\y.ep=x.ep+1
 other:∀(i:Nat) (y:Nd),i≠n->t.ag[i]?=some y->∃x,s.ag[i]?=some x/\y.ep=x.ep/\(y=x\/(y.st=3/\y.si=s.am/\y.wt=5/\x.st≠0))
 cb:t.ag.length=s.ag.length
theorem wZ{l:List Nd}{x:Nd}{act bD:Int}(a:aO l=true)(hx:l[n]?=some x)(ht:bZ am=true)(b:jx x act bD=true):rg l (n:Int) act bD am=(l.set n (bH x act bD am),0):=by
 rw[CG a hx,cL (by simp[ht]),cL (by simp[b])]
theorem CV(g:bt s)(B:n∈ey s)(q:tM s n=0):Lost s (wg s n) n:=by
 obtain⟨x,hx,C⟩:=pl.1 B;have A:=eR g.ag hx;obtain⟨k,y,e,f,K,ht,p,v⟩:=ur q;obtain rfl:n=k:=by omega
 rw[hx]at f;cases f;have H:=(cA.1 hx).1;unfold wg;rw[hx];simp only;rcases CT A C with h1|J
 ·rw[cK h1];obtain⟨j,a,b,c,d⟩:=g.busy n x hx h1;have I:eh s.aj x.jb=some j:=by rw[<-b];exact m5 g.aj a
  rw[I];simp only;have w:=tE (why:=7) (g.aj.ok j a) c rfl;have g1:=m0 g a w;have t:=lk g c (why:=7) n;rw[hx]at t;have u:(gJ s j 7).ag[n]?=some (bH x 7 0 s.am):=by simpa [b,h1]using t
  have F:jx (bH x 7 0 s.am) 9 0=true:=by
   have m:x.ep<999999999:=by
    unfold jx at p;simp at p;exact p.2
   simp[jx,bH,eL,m]
  have r:=wZ g1.ag u g1.am F;have m:¬jz (bH x 7 0 s.am):=by simp[jz,bH,eL]
  have g2:=Bu g1 u m (by rw[r])
  have E:(gJ s j 7).ag.length=s.ag.length:=by
   unfold gJ;rw[cK c];exact(mH g j.id).2.cb
  have l:(pA (gJ s j 7) n).ag=(gJ s j 7).ag.set n (bH (bH x 7 0 s.am) 9 0 (gJ s j 7).am):=by unfold pA;rw[r]
  refine⟨g2,Eh _ _ _,?_,?_,⟨x,_,hx,by rw[l,fH (by omega)],by simp[bH],by simp[bH],by simp[bH,eL]⟩,?_,by rw[l,nB,E]⟩
  ·show(gJ s j 7).bx.Sublist s.bx;unfold gJ;rw[cK c];exact iQ
  ·intro k o hs
   have G:k∈gv s.aj (gX j 7):=by
    have:k∈(gJ s j 7).aj:=o;unfold gJ at this;rw[cK c]at this;exact this
   rcases it G with rfl|⟨o,-⟩
   ·rw[tD]at hs;omega
   ·exact o
  ·intro i y hi f;rw[l,iK (fun h=>hi h.symm),lk g c]at f;obtain⟨z,D,rfl⟩:=i6.1 f;refine⟨z,D,?_,?_⟩
   ·split
    ·simp[bH,eL]
    ·rfl
   ·split
    ·rename_i m;refine .inr ⟨by simp[bH,eL],by simp[bH,eL],by simp[bH,eL],by omega⟩
    ·exact .inl rfl
 ·rw[cL (by omega)];have m:¬jz x:=by unfold jz;omega
  have g2:=Bu g hx m q;have l:(pA s n).ag=s.ag.set n (bH x 9 0 s.am):=by unfold pA;rw[v]
  refine⟨g2,rfl,sG _,fun k o _=>o,⟨x,_,hx,by rw[l,fH H],by simp[bH],by simp[bH],by simp[bH]⟩,?_,by rw[l,nB]⟩;intro i y hi f;rw[l,iK (fun h=>hi h.symm)]at f;exact⟨y,f,rfl,.inl rfl⟩
def kB:List Nat->St->St
 |[],s=>s
 |n::r,s=>if n∈ey s then(if tM s n=0 then kB r (wg s n)else kB r s)else kB r s
structure Qw(s t:St):Prop where
 kq:bt t
 am:t.am=s.am
 bx:t.bx.Sublist s.bx
 run:∀j∈t.aj,j.st=2->j∈s.aj
 late:∀n,n∈ey t->n∈ey s
variable{t:St}
theorem BE(h:Lost s t n):∀i,i∈ey t->i∈ey s/\i≠n:=by
 intro i hi;obtain⟨y,g,f⟩:=pl.1 hi;rw[h.am]at f;by_cases j:i=n
 ·subst j;obtain⟨x,p,a,b,c,d,e⟩:=h.at_;rw[b]at g;cases g;simp[gA,d]at f
 ·obtain⟨x,a,b,c|⟨l,k,m,o⟩⟩:=h.other i y j g
  ·subst c;exact⟨pl.2 ⟨y,a,f⟩,j⟩
  ·simp[gA,k]at f
theorem jQ:∀(c:List Nat) (s:St),bt s->Qw s (kB c s)
 |[],s,g=>⟨g,rfl,sG _,fun j b _=>b,fun n h=>h⟩
 |n::r,s,g=>by
  unfold kB;by_cases h:n∈ey s
  ·rw[cK h];by_cases a:tM s n=0
   ·rw[cK a];have L:=CV g h a;have A:=jQ r _ L.kq;exact⟨A.kq,A.am.trans L.am,A.bx.trans L.bx,fun j b hs=>L.run j (A.run j b hs) hs,fun i hi=>(BE L i (A.late i hi)).1⟩
   ·rw[cL a];exact jQ r s g
  ·rw[cL h];exact jQ r s g
def EpA(e0:Int)(x:Nd):Prop:=x.ep<=e0\/(x.ep<=e0+1/\x.st=4)
def EpB(e0:Int)(x:Nd):Prop:=x.ep<=e0\/(x.ep<=e0+1/\x.st≠0)
theorem yu{e0:Int}(C:e0<999999999):∀(B:List Nat) (s:St),bt s->(∀x∈s.ag,EpA e0 x)->(∀x∈(kB B s).ag,EpA e0 x)/\(∀n,n∈ey (kB B s)->n∉B)
 |[],s,g,h=>⟨h,fun n _ hn=>by simp at hn⟩
 |n::r,s,g,h=>by
  unfold kB;by_cases l:n∈ey s
  ·rw[cK l];obtain⟨x,hx,I⟩:=pl.1 l;have F:=CT (eR g.ag hx) I
   have Z:x.ep<=e0:=by
    rcases h x (cG hx)with h|h
    ·exact h
    ·omega
   have A:tM s n=0:=by
    have:jx x 9 0=true:=by
     unfold jx;rcases F with h1|h1<;>simp[h1]<;>omega
    unfold tM;rw[wZ g.ag hx g.am this]
   rw[cK A];have L:=CV g l A
   have m:=yu C r _ L.kq (fun y J=>by
    obtain⟨i,hi⟩:=dE.1 J;by_cases t:i=n
    ·subst t;obtain⟨K,M,a,b,c,d,e⟩:=L.at_;rw[hx]at a;rw[hi]at b;cases a;cases b;exact .inr ⟨by omega,c⟩
    ·obtain⟨z,a,b,c|⟨G,S,T,U⟩⟩:=L.other i y t hi
     ·subst c;exact h y (cG a)
     ·have o:=h z (cG a);have yN:z.st≠4\/z.st=4:=by omega
      rcases o with o|o
      ·exact .inl (by omega)
      ·
       exfalso;have H:=o.2;have yM:=eR g.ag a;have N:=eR L.kq.ag hi;have:=tH N (.inr (.inr G));obtain⟨K,M,p,q,u⟩:=L.at_
       have E:(wg s n).ag[i]?=some z:=by
        unfold wg;rw[hx];simp only;rcases F with h1|X
        ·rw[cK h1];obtain⟨j,v,b1,w,V⟩:=g.busy n x hx h1;have R:eh s.aj x.jb=some j:=by rw[<-b1];exact m5 g.aj v
         rw[R];simp only;have g1:=m0 g v (tE (why:=7) (g.aj.ok j v) w rfl);have D:=lk g w (why:=7) n;rw[hx]at D;have Q:(gJ s j 7).ag[n]?=some (bH x 7 0 s.am):=by simpa [b1,h1]using D
         have O:jx (bH x 7 0 s.am) 9 0=true:=by
          simp[jx,bH,eL];omega
         unfold pA;rw[wZ g1.ag Q g1.am O];show((gJ s j 7).ag.set n _)[i]?=_;rw[iK (fun h=>t h.symm),lk g w,a];simp[H]
        ·rw[cL (by omega)];obtain⟨k,Y,W,yO,yL,yP,yQ,P⟩:=ur A;obtain rfl:n=k:=by omega
         unfold pA;rw[P];show(s.ag.set n _)[i]?=_;rw[iK (fun h=>t h.symm),a]
       rw[hi]at E;cases E;omega)
   refine⟨m.1,fun i hi f=> ?_⟩;rcases dK.1 f with rfl|f
   ·exact((BE L i ((jQ r _ L.kq).late i hi)).2) rfl
   ·exact m.2 i hi f
  ·rw[cL l];have m:=yu C r s g h;refine⟨m.1,fun i hi f=> ?_⟩;rcases dK.1 f with rfl|f
   ·exact l ((jQ r s g).late i hi)
   ·exact m.2 i hi f
def cy(s:St):List Int:=(s.bx.filter (fun r=>decide (12<=s.am-r.si))).map Rz.jb
def fp(s:St):List Int:=(s.aj.filter (fun j=>j.st==2&&decide (j.li<=s.am))).map Jb.id
def eI:List Int->St->St
 |[],s=>s
 |id::r,s=>match qw s.bx id with|none=>eI r s|some x=>eI r (ow s x)
def kG:List Int->St->St
 |[],s=>s
 |id::r,s=>match eh s.aj id with|none=>kG r s|some j=>if kK j 5=0 then kG r (gJ s j 5)else kG r s
def xm(am:Int)(l m:List Nd):Prop:=∀(n:Nat) (y:Nd),m[n]?=some y->∃x,l[n]?=some x/\y.ep=x.ep/\(y.st=0->x.st=0)/\(x.st=4->y.st=4)/\(gA am y=true->gA am x=true)
theorem xm.refl(am:Int)(l:List Nd):xm am l l:=fun n y h=>⟨y,h,rfl,id,id,id⟩
theorem xm.trans{l m k:List Nd}(h:xm am l m)(o:xm am m k):xm am l k:=by
 intro n z p;obtain⟨y,a,b,c,d,e⟩:=o n z p;obtain⟨x,f,q,g,i,j⟩:=h n y a;exact⟨x,f,by omega,fun h=>g (c h),fun h=>d (i h),fun h=>j (e h)⟩
theorem Od(g:bt s)(hs:j.st=2):xm s.am s.ag (gJ s j why).ag:=by
 intro n y a;rw[lk g hs]at a;obtain⟨x,hx,rfl⟩:=i6.1 a;refine⟨x,hx,?_,?_,?_,?_⟩
 ·split<;>simp[bH,eL]
 ·split<;>simp[bH,eL]
 ·split
  ·rename_i h;intro b;omega
  ·exact id
 ·split
  ·simp[bH,eL,gA]
  ·exact id
theorem Gk(g:bt s){r:Rz}(f:r∈s.bx):xm s.am s.ag (ow s r).ag:=by
 obtain⟨j,m,o,p,R⟩:=g.bx r f;have e:=g.wide.kk r f;intro n y k;have d:(bv s r).1[n]?=some y:=k;unfold bv at d
 cases hg:r.gr with
 |true=>
  rw[hg,cK rfl]at d
  have E:=(lv (act:=7) (bD:=0) e g.ag g.am (fun n hn=>by
   obtain⟨x,a,b,c⟩:=((R.grow hg).1 n).1 hn;exact⟨x,a,by simp[jx,c]⟩)).2
  rw[mZ e E n]at d;split at d
  ·rename_i i;obtain⟨x,hx,rfl⟩:=i6.1 d;obtain⟨z,a,b,c⟩:=((R.grow hg).1 n).1 i;rw[hx]at a;cases a;exact⟨x,hx,by simp[bH,eL],by simp[bH,eL],fun h=>by omega,by simp[bH,eL,gA]⟩
  ·exact⟨y,d,rfl,id,id,id⟩
 |false=>
  rw[hg,cL (by simp)]at d
  have l:∀n,(eH r.nd r.sd).testBit n=true↔∃x,s.ag[n]?=some x/\x.jb=r.jb/\x.wt=4:=by
   intro n;rw[xK e,R.ask n];simp[mq,hg]
  have E:=(lv (act:=6) (bD:=0) (rf r.nd r.sd) g.ag g.am (fun n hn=>by
   obtain⟨x,a,b,c⟩:=(l n).1 hn;exact⟨x,a,by simp[jx,c,mp (eR g.ag a) c]⟩)).2
  rw[mZ (rf r.nd r.sd) E n]at d;split at d
  ·obtain⟨x,hx,rfl⟩:=i6.1 d;exact⟨x,hx,by simp[bH],by simp[bH],by simp[bH],by simp[bH,gA]⟩
  ·exact⟨y,d,rfl,id,id,id⟩
structure Ends(s t:St):Prop where
 kq:bt t
 am:t.am=s.am
 bx:t.bx.Sublist s.bx
 run:∀j∈t.aj,j.st=2->j∈s.aj
 less:xm s.am s.ag t.ag
theorem Gj(g:bt s){r:Rz}(a:r∈s.bx):Ends s (ow s r):=⟨ox g a,rfl,iQ,fun j b _=>b,Gk g a⟩
theorem Ends.refl(g:bt s):Ends s s:=⟨g,rfl,sG _,fun j a _=>a,xm.refl _ _⟩
theorem Ends.trans{a b c:St}(h:Ends a b)(k:Ends b c):Ends a c:=⟨k.kq,k.am.trans h.am,k.bx.trans h.bx,fun j d hs=>h.run j (k.run j d hs) hs,h.less.trans (h.am▸k.less)⟩
theorem Lx(g:bt s)(b:j∈s.aj)(h:kK j why=0)(h2:why≠2):Ends s (gJ s j why):=by
 refine⟨m0 g b h,Eh _ _ _,?_,?_,?_⟩
 ·unfold gJ;split
  ·exact iQ
  ·exact sG _
 ·intro k a hs
  have c:k∈gv s.aj (gX j why):=by
   unfold gJ at a;split at a<;>exact a
  rcases it c with rfl|⟨a,-⟩
  ·rw[tD]at hs;exact absurd hs h2
  ·exact a
 ·by_cases hs:j.st=2
  ·exact Od g hs
  ·unfold gJ;rw[cL hs];exact xm.refl _ _
theorem my:∀(bO:List Int) (s:St),bt s->Ends s (eI bO s)/\∀r∈(eI bO s).bx,r.jb∉bO
 |[],s,g=>⟨Ends.refl g,fun r _ h=>by simp at h⟩
 |id::rest,s,g=>by
  unfold eI
  cases hf:qw s.bx id with
  |none=>
   simp only;obtain⟨E,h⟩:=my rest s g;refine⟨E,fun r b a=> ?_⟩;rcases dK.1 a with c|a
   ·have:=(gP g.iy).2 ⟨E.bx.subset b,c⟩;rw[hf]at this;cases this
   ·exact h r b a
  |some x=>
   simp only;obtain⟨hx,c⟩:=(gP g.iy).1 hf;have d:=Gj g hx;obtain⟨E,h⟩:=my rest _ d.kq;refine⟨d.trans E,fun r b a=> ?_⟩;rcases dK.1 a with e|a
   ·have:=(fM.1 (E.bx.subset b)).2;simp[e,c]at this
   ·exact h r b a
theorem mf:∀(bO:List Int) (s:St),bt s->Ends s (kG bO s)/\∀j∈(kG bO s).aj,j.st=2->j.id∉bO
 |[],s,g=>⟨Ends.refl g,fun r _ _ h=>by simp at h⟩
 |id::rest,s,g=>by
  unfold kG
  cases hf:eh s.aj id with
  |none=>
   simp only;obtain⟨E,h⟩:=mf rest s g;refine⟨E,fun j b hs a=> ?_⟩;rcases dK.1 a with f|a
   ·have:=m5 g.aj (E.run j b hs);rw[f,hf]at this;cases this
   ·exact h j b hs a
  |some k=>
   simp only;obtain⟨-,i,f,n⟩:=fq hf;by_cases c:kK k 5=0
   ·rw[cK c];have e:=Lx g i c (by omega);obtain⟨E,h⟩:=mf rest _ e.kq;refine⟨e.trans E,fun j b hs a=> ?_⟩;rcases dK.1 a with l|a
    ·have d:=E.run j b hs
     have o:j∈gv s.aj (gX k 5):=by
      unfold gJ at d;split at d<;>exact d
     rcases it o with rfl|⟨-,m⟩
     ·rw[tD]at hs;omega
     ·rw[mC]at m;omega
    ·exact h j b hs a
   ·rw[cL c];obtain⟨E,h⟩:=mf rest s g;refine⟨E,fun j b hs a=> ?_⟩;rcases dK.1 a with l|a
    ·have:=mo g.aj.up (E.run j b hs) i (by omega);subst this;exact c (tE n hs rfl)
    ·exact h j b hs a
def eG(l m:List Jb):Prop:=m.length=l.length/\∀(i:Nat) (j k:Jb),l[i]?=some j->m[i]?=some k->ic j k/\(j.st=2->k.li=j.li)
inductive jH:St->St->Prop
 |nil (s:St):jH s s
 |cons {s t:St} {j:Jb} {m:List Nd} {N:Nat} (hj:j∈s.aj) (G:Ga s.ag m N 1 j.id s.am) (h0:mQ j s.am (eD (eQ s.ag N))=0) (h:jH (zO s j m (eD (eQ s.ag N))) t):jH s t
def IT(s t:St):Prop:=∃l,eG s.aj l/\jH {s with aj:=l} t
variable{l:List Jb}
theorem ru(g:bt s)(h:eG s.aj l):bt {s with aj:=l}:=
 sO g g.am g.ag (Alike.refl _) h.1 (fun i j k h1 h2=>(h.2 i j k h1 h2).1) rfl g.aZ g.nb g.bK rfl
structure Started(s t:St):Prop where
 kq:bt t
 am:t.am=s.am
 bx:t.bx=s.bx
 late:∀x∈t.ag,gA s.am x=true->x∈s.ag
 run:(∀j∈s.aj,j.st=2->s.am<j.li)->∀j∈t.aj,j.st=2->s.am<j.li
 ep:∀e0,(∀x∈s.ag,EpB e0 x)->∀x∈t.ag,EpB e0 x
theorem zP(h:jH s t):bt s->Started s t:=by
 induction h with
 |nil s=>exact fun g=>⟨g,rfl,rfl,fun x hx _=>hx,fun h=>h,fun e0 h=>h⟩
 | @cons s t j m N hj G h0 h c=>
   intro g;have g1:=Iq g hj G h0;have c:=c g1;obtain⟨q,r,u,v,w⟩:=ue h0
   have o:∀y∈m,y∈s.ag\/(∃x∈s.ag,x.st=0/\y=bH x 1 j.id s.am):=by
    intro y e;obtain⟨n,hn⟩:=dE.1 e;rw[G.done.at_ n]at hn;split at hn
    ·rename_i ht;obtain⟨x,hx,rfl⟩:=i6.1 hn;have:=Aa ht;rw[gM]at this;obtain⟨A,a,b⟩:=this;rw[hx]at a;cases a;simp[fo]at b;exact .inr ⟨x,cG hx,b.1,rfl⟩
    ·exact .inl (cG hn)
   refine⟨c.kq,c.am,c.bx,fun x hx i=> ?_,fun p=>c.run ?_,fun e0 f=>c.ep e0 ?_⟩
   ·rcases o x (c.late x hx i)with h|⟨z,l,hs,rfl⟩
    ·exact h
    ·simp[bH,eL,gA]at i
   ·intro k d hs;rcases it d with rfl|⟨d,-⟩
    ·show s.am<s.am+fl j;omega
    ·exact p k d hs
   ·intro y e;rcases o y e with h|⟨z,l,hs,rfl⟩
    ·exact f y h
    ·have:=f z l;rcases this with h|h
     ·exact .inr ⟨by simp[bH,eL];omega,by simp[bH,eL]⟩
     ·exact absurd hs h.2
def ql(s:St):St:=kB (ey s) s
def lw(s:St):St:=kG (fp (eI (cy s) s)) (eI (cy s) s)
def M2(s t:St):Prop:=s.am<1000000/\∃bK,fm bK=true/\IT (ef (lw (ql (ig s bK)))) t
structure TU(s t:St):Prop where
 kq:bt t
 am:t.am=s.am+1
 run:∀j∈t.aj,j.st=2->t.am<j.li
 bx:∀r∈t.bx,r∈s.bx/\t.am-r.si<12
 late:∀e0,e0<999999999->(∀x∈s.ag,x.ep<=e0)->(∀x∈t.ag,x.ep<=e0+1)/\∀x∈t.ag,gA t.am x=false
theorem FN(g:bt s)(h:M2 s t):TU s t:=by
 obtain⟨hn,bK,T,l,d,k⟩:=h;have g1:=sK g hn T;have F:(ig s bK).am=s.am+1:=rfl;have J:(ig s bK).bx=s.bx:=rfl;have I:(ig s bK).ag=s.ag:=rfl;generalize ig s bK=c at g1 F J I k d;have L:=jQ (ey c) c g1;have H:=fun e0 p=>yu (e0:=e0) p (ey c) c g1
 change eG (ef (lw (kB (ey c) c))).aj l at d
 change jH {ef (lw (kB (ey c) c))with aj:=l} t at k
 generalize kB (ey c) c=b at L H d k;obtain⟨A,hA⟩:=my (cy b) b L.kq;obtain⟨O,w⟩:=mf (fp (eI (cy b) b)) _ A.kq;have E:=A.trans O
 change eG (ef (kG (fp (eI (cy b) b)) (eI (cy b) b))).aj l at d
 change jH {ef (kG (fp (eI (cy b) b)) (eI (cy b) b))with aj:=l} t at k
 have C:∀j∈(kG (fp (eI (cy b) b)) (eI (cy b) b)).aj,j.st=2->(kG (fp (eI (cy b) b)) (eI (cy b) b)).am<j.li:=by
  intro j f hs;have h1:=w j f hs;have h2:=O.run j f hs;rw[O.am];by_cases v:(eI (cy b) b).am<j.li
  ·exact v
  ·exfalso;refine h1 (cS.2 ⟨j,fM.2 ⟨h2,?_⟩,rfl⟩);simp[hs];omega
 have D:∀r∈(kG (fp (eI (cy b) b)) (eI (cy b) b)).bx,r∈b.bx/\b.am-r.si<12:=by
  intro r m;have h1:=O.bx.subset m;have h2:=A.bx.subset h1;refine⟨h2,?_⟩;by_cases v:b.am-r.si<12
  ·exact v
  ·exfalso;refine hA r h1 (cS.2 ⟨r,fM.2 ⟨h2,?_⟩,rfl⟩);simp;omega
 generalize kG (fp (eI (cy b) b)) (eI (cy b) b)=o at O w E C D d k;have N:=qv E.kq;have P:=ru N d;have S:=zP k P;have K:o.am=s.am+1:=by rw[E.am,L.am,F]
 have u:t.am=s.am+1:=by rw[S.am];exact K
 refine⟨S.kq,u,?_,?_,?_⟩
 ·have:=S.run (fun j f hs=>by
   obtain⟨i,hi,rfl⟩:=i7.1 f;have G:i<(ef o).aj.length:=by rw[<-d.1];exact hi
   obtain⟨⟨V,W,X,B,Y⟩,U⟩:=d.2 i _ _ (cE G) (cE hi);have:=C _ (iH G) (B.1 hs);have e:=U (B.1 hs);show o.am<l[i].li;rw[e];exact this)
  intro j f hs;rw[S.am];exact this j f hs
 ·intro r m;rw[S.bx]at m;obtain⟨h1,h2⟩:=D r m;refine⟨?_,?_⟩
  ·rw[<-J];exact L.bx.subset h1
  ·rw[u];have:=L.am;omega
 ·intro e0 p R;obtain⟨p1,p2⟩:=H e0 p (fun x hx=> .inl (R x (by rw[<-I];exact hx)))
  have Q:∀x∈o.ag,EpB e0 x/\gA o.am x=false:=by
   intro y q;obtain⟨n,hn⟩:=dE.1 q;obtain⟨x,a,b1,b2,b3,b4⟩:=E.less n y hn;refine⟨?_,?_⟩
   ·rcases p1 x (cG a)with h|h
    ·exact .inl (by omega)
    ·exact .inr ⟨by omega,by rw[b3 h.2];omega⟩
   ·rw[E.am]
    cases hq:gA b.am y with
    |false=>rfl
    |true=>
     exfalso;have z:=pl.2 ⟨x,a,b4 hq⟩;have:=L.late n z;exact p2 n z this
  have M:∀x∈(ef o).ag,EpB e0 x/\gA o.am x=false:=by
   intro y q;obtain⟨x,hx,rfl⟩:=cS.1 q;obtain⟨a,b⟩:=Q x hx;unfold pv;split
   ·exact⟨a,b⟩
   ·exact⟨a,b⟩
  refine⟨fun x hx=> ?_,fun x hx=> ?_⟩
  ·rcases S.ep e0 (fun x hx=>(M x hx).1) x hx with h|h
   ·omega
   ·exact h.1
  ·cases hq:gA t.am x with
   |false=>rfl
   |true=>
    exfalso;rw[u,<-K]at hq;have:=S.late x hx hq;rw[(M x this).2]at hq;cases hq
inductive xt:Nat->St->St->Prop
 |nil (s:St):xt 0 s s
 |snoc {k:Nat} {s t u:St} (h:xt k s t) (h':M2 t u):xt (k+1) s u
theorem vv{k:Nat}(h:xt k s t):bt s->bt t/\t.am=s.am+k/\(∀r∈t.bx,r∈s.bx)/\(1<=k->(∀j∈t.aj,j.st=2->t.am<j.li)/\∀r∈t.bx,t.am-r.si<12)/\
 ∀e0,e0+k<999999999->(∀x∈s.ag,x.ep<=e0)->(∀x∈t.ag,x.ep<=e0+k)/\(1<=k->∀x∈t.ag,gA t.am x=false):=by
 induction h with
 |nil s=>exact fun g=>⟨g,by simp,fun r h=>h,fun h=>by omega,fun e0 l f=>⟨by simpa using f,fun h=>by omega⟩⟩
 | @snoc k s t u h h' ih=>
   intro g;obtain⟨a,b,c,d,e⟩:=ih g;have T:=FN a h';refine⟨T.kq,by rw[T.am,b];push_cast;omega,fun r i=>c r (T.bx r i).1,fun _=>⟨T.run,fun r i=>(T.bx r i).2⟩,fun e0 l f=> ?_⟩
   push_cast at l
   obtain⟨p,-⟩:=e e0 (by omega) f;obtain⟨m,n⟩:=T.late (e0+k) (by omega) p;exact⟨fun x hx=>by have:=m x hx;push_cast;omega,fun _=>n⟩
theorem Of(g:bt s)(h:xt 13 s t)(k:∀r∈s.bx,r.si<=s.am)(j:∀x∈s.ag,x.ep<999999979):
 t.bx=[]/\∀x∈t.ag,gA t.am x=false/\x.st≠2:=by
 obtain⟨a,b,c,d,e⟩:=vv h g
 have i:t.bx=[]:=by
  cases hq:t.bx with
  |nil=>rfl
  |cons r q=>
   exfalso;have f:r∈t.bx:=by rw[hq];simp
   have h1:=(d (by omega)).2 r f;have h2:=k r (c r f);omega
 refine⟨i,fun x hx=>⟨(e 999999978 (by omega) (fun x hx=>by have:=j x hx;omega)).2 (by omega) x hx,fun hs=> ?_⟩⟩;obtain⟨n,hn⟩:=dE.1 hx;obtain⟨r,h1,-⟩:=a.tP n x hn (.inl hs);rw[i]at h1;simp at h1
theorem pi:∀(x y:List UInt8),Op.bytesLess x y=decide (x<y)
 |[],[]=>by simp[Op.bytesLess]
 |_::_,[]=>by simp[Op.bytesLess]
 |[],_::_=>by simp[Op.bytesLess]
 |a::x,b::y=>by
  rw[Op.bytesLess,pi x y,nS,iM,List.cons_lt_cons_iff,Bool.or_eq_true,cH,iM,iM,iC]
variable{a b:ByteArray}
theorem toList_inj(h:a.toList=b.toList):a=b:=by
 rw[Lib.toList_data,Lib.toList_data]at h;cases a;cases b
 simp_all
theorem wY:jw a b<0↔a.toList<b.toList:=by
 unfold jw;rw[pi,pi];by_cases h:a.toList<b.toList<;>by_cases c:b.toList<a.toList<;>simp[h,c]
theorem wX:0<jw a b↔b.toList<a.toList:=by
 unfold jw;rw[pi,pi];by_cases h:a.toList<b.toList
 ·have:=List.lt_asymm h;simp[h,this]
 ·by_cases c:b.toList<a.toList<;>simp[h,c]
theorem jN:jw a b=0↔a=b:=by
 constructor
 ·intro h;have h1:¬a.toList<b.toList:=fun e=>by have:=wY.2 e;omega
  have h2:¬b.toList<a.toList:=fun e=>by have:=wX.2 e;omega
  exact toList_inj (List.le_antisymm (List.not_lt.1 h2) (List.not_lt.1 h1))
 ·rintro rfl;have h1:¬a.toList<a.toList:=List.lt_irrefl _;have:=mt wY.1 h1;have:=mt wX.1 h1;omega
theorem JJ{a b:Us}:fa a b<0↔a.us.toList<b.us.toList\/(a.us=b.us/\a.ac.toList<b.ac.toList):=by
 unfold fa;by_cases h:jw a.us b.us=0
 ·have e:=jN.1 h;rw[cL (by simpa using h),wY,e];simp[List.lt_irrefl]
 ·rw[cK h,wY];have:a.us≠b.us:=fun e=>h (jN.2 e);simp[this]
theorem Sv{a b:Us}:0<fa a b↔fa b a<0:=by
 rw[JJ];unfold fa;by_cases h:jw a.us b.us=0
 ·have e:=jN.1 h;rw[cL (by simpa using h),wX,e];simp[List.lt_irrefl]
 ·rw[cK h,wX];have:b.us≠a.us:=fun e=>h (jN.2 e.symm);simp[this]
theorem pq{a b c:Us}(h:fa a b<0)(k:fa b c<0):fa a c<0:=by
 rw[JJ]at*;rcases h with h|⟨h,d⟩<;>rcases k with k|⟨k,e⟩
 ·exact .inl (List.lt_trans h k)
 ·exact .inl (k▸h)
 ·exact .inl (h▸k)
 ·exact .inr ⟨h.trans k,List.lt_trans d e⟩
structure OkL(l:List Us):Prop where
 cf:l.length<=200
 m6:∀u∈l,vV u=true
 up:l.Pairwise (fun a b=>fa a b<0)
variable{i:Nat}
theorem JU{l:List Us}(hi:i+1<l.length):Ty l (i+1)=true↔fa l[i] l[i+1]<0:=by
 simp[Ty,cE hi,cE (show i<l.length by omega)]
theorem SU{l:List Us}(h:∀i (hi:i+1<l.length),fa (l[i]'(by omega)) l[i+1]<0):l.Pairwise (fun a b=>fa a b<0):=by
 induction l with
 |nil=>exact List.Pairwise.nil
 |cons x r ih=>
  have d:=ih (fun i hi=>h (i+1) (by simp at hi⊢;omega));refine List.Pairwise.cons ?_ d
  cases r with
  |nil=>intro y c;cases c
  |cons z t=>
   have e:fa x z<0:=h 0 (by simp);intro y c;rcases dK.1 c with rfl|c
   ·exact e
   ·rw[dY]at d;exact pq e (d.1 y c)
theorem gh{l:List Us}:fm l=true↔OkL l:=by
 simp only[fm,cH,dA,dC,fS];constructor
 ·rintro⟨⟨h1,h2⟩,a⟩;exact⟨h1,h2,SU fun i hi=>(JU hi).1 (a (i+1) hi)⟩
 ·intro h;refine⟨⟨h.cf,h.m6⟩,fun i hi=> ?_⟩
  cases i with
  |zero=>rfl
  |succ k=>exact(JU hi).2 (cN.1 h.up k (k+1) _ hi (by omega))
theorem wW(n:Int):0<=pJ n:=by unfold pJ;repeat' split<;>omega
theorem NI{a b:Int}(h:a<=b):pJ a<=pJ b:=by unfold pJ;repeat' split<;>omega
theorem LF(a b:Int):0<=gO a b:=by
 unfold gO;have:=wW a;have:=wW b;split<;>omega
theorem Hz{a b:Int}(n:Int)(h:a<=b):gO a n<=gO b n:=by
 have:=NI h;unfold gO;split<;>split<;>omega
def wK(u:Us)(n:Int):Us:={u with ud:=gO u.ud n,sh:=gO u.sh n}
theorem Ba {u:Us} {n:Int} (h1 : jj u.us = true) (h2 : jj u.ac = true) (h3 : u.sh <= u.ud) : vV (wK u n) = true := by
  have := LF u.sh n;have := Hz n h3;simp [vV, wK, h1, h2, zr, *]
def pF(l:List Us)(b a:ByteArray):Bool:=l.any fun x=>decide (x.us=b)&&decide (x.ac=a)
def sb(l:List Us)(b a:ByteArray)(n:Int):Int:=
 if fm l=false then 2 else if(jj b&&jj a&&decide (0<=n))=false then 2 else if pF l b a=false/\l.length=200 then 3 else 0
structure Gb(l:List Us)(us ac:ByteArray)(i:Nat):Prop where
 le:i<=l.length
 lt:∀x∈l.take i,fa x ⟨us,ac,0,0⟩<0
 ge:∀x∈l.drop i,0<=fa x ⟨us,ac,0,0⟩
theorem BR{a b:Us}:fa a b=0↔a.us=b.us/\a.ac=b.ac:=by
 unfold fa;by_cases h:jw a.us b.us=0
 ·rw[cL (by simpa using h),jN];simp[jN.1 h]
 ·rw[cK h];constructor
  ·intro e;exact absurd e h
  ·rintro⟨e,-⟩;exact absurd (jN.2 e) h
theorem ux{u:Us}:vV u=true↔jj u.us=true/\jj u.ac=true/\pJ u.ud=u.ud/\0<=u.sh/\u.sh<=u.ud:=by simp[vV,rK]
theorem Km{l:List Us}(h:fm l=true){u:Us}(e:l[i]?=some u)(n:Int):fm (l.set i (wK u n))=true:=by
 have g:=gh.1 h;have f:=ux.1 (g.m6 u (cG e));obtain⟨hi,rfl⟩:=cA.1 e;refine gh.2 ⟨by simpa using g.cf,fun x hx=> ?_,?_⟩
 ·rcases fP hx with hx|rfl
  ·exact g.m6 x hx
  ·exact Ba f.1 f.2.1 f.2.2.2.2
 ·rw[cN]at*;have up:=cN.1 g.up;intro a b c d j;simp only[nB]at c d;have:=up a b c d j;rw[List.getElem_set,List.getElem_set];split<;>split<;>(try subst_vars)<;>(try omega)<;>first|exact this|(simpa [fa,wK]using this)
theorem QX{l:List Us}(h:fm l=true){d c:ByteArray}(f:Gb l d c i)(hn:∀x,l[i]?=some x->fa x ⟨d,c,0,0⟩≠0)(h1:jj d=true)(h2:jj c=true)(v:l.length≠200)(n:Int):
 fm (l.take i++wK ⟨d,c,0,0⟩ n::l.drop i)=true:=by
 have g:=gh.1 h;have p:=g.up;rw[<-iR i l,fA]at p;obtain⟨p1,p2,q⟩:=p;have t:∀x:Us,fa x (wK ⟨d,c,0,0⟩ n)=fa x ⟨d,c,0,0⟩:=fun x=>rfl;have s:∀x:Us,fa (wK ⟨d,c,0,0⟩ n) x=fa ⟨d,c,0,0⟩ x:=fun x=>rfl
 have u:∀x∈l.drop i,fa ⟨d,c,0,0⟩ x<0:=by
  intro x hx
  cases hd:l.drop i with
  |nil=>rw[hd]at hx;cases hx
  |cons y r=>
   have k:l[i]?=some y:=by
    have:=iO (xs:=l) (i:=i) (j:=0);rw[hd]at this;simpa using this.symm
   have w:0<=fa y ⟨d,c,0,0⟩:=f.ge y (by rw[hd];simp);have o:fa ⟨d,c,0,0⟩ y<0:=Sv.1 (by have:=hn y k;omega);rw[hd]at hx p2;rcases dK.1 hx with rfl|hx
   ·exact o
   ·exact pq o ((dY.1 p2).1 x hx)
 refine gh.2 ⟨?_,?_,?_⟩
 ·have:=g.cf;have:=f.le;simp;omega
 ·intro x hx;rcases dG.1 hx with hx|hx
  ·exact g.m6 x (lG hx)
  ·rcases dK.1 hx with rfl|hx
   ·exact Ba h1 h2 (by simp)
   ·exact g.m6 x (oX hx)
 ·rw[fA,dY];refine⟨p1,⟨fun y k=>by rw[s];exact u y k,p2⟩,fun a m b e=> ?_⟩;rcases dK.1 e with rfl|e
  ·rw[t];exact f.lt a m
  ·exact q a m b e
theorem zq{l:List Us}(h:fm l=true)(c:Gb l b a i):pF l b a=true↔∃u,l[i]?=some u/\fa u ⟨b,a,0,0⟩=0:=by
 have g:=gh.1 h;unfold pF;rw[iZ];constructor
 ·rintro⟨x,hx,e⟩;simp at e;have e0:fa x ⟨b,a,0,0⟩=0:=BR.2 e;obtain⟨k,f,rfl⟩:=i7.1 hx
  have p:¬k<i:=fun o=>by
   have:=c.lt l[k] (by rw[dO];exact⟨k,by omega,rfl⟩);omega
  have d:i<l.length:=by omega
  refine⟨l[i],cE d,?_⟩;by_cases m:i=k
  ·subst m;exact e0
  ·have h1:=cN.1 g.up i k d f (by omega);have h2:=c.ge l[i] (by rw[List.mem_drop_iff_getElem];exact⟨0,by omega,by simp⟩);have n:fa l[i] ⟨b,a,0,0⟩=fa l[i] l[k]:=by simp[fa,e.1,e.2]
   omega
 ·rintro⟨u,j,e⟩;exact⟨u,cG j,by simpa using BR.1 e⟩
def yb(n:Int):Int:=(pJ n).tdiv 2
theorem NU{l:List Us}(h:fm l=true):fm (l.map fun u=>{u with sh:=yb u.sh})=true:=by
 have g:=gh.1 h;refine gh.2 ⟨by simpa using g.cf,fun x hx=> ?_,?_⟩
 ·obtain⟨u,f,rfl⟩:=cS.1 hx;obtain⟨a,b,c,d,e⟩:=ux.1 (g.m6 u f);refine ux.2 ⟨a,b,c,?_,?_⟩
  ·show 0<=yb u.sh;unfold yb;rw[rP (wW _)];unfold pJ
   repeat' split
   all_goals omega
  ·show yb u.sh<=u.ud;unfold yb;rw[rP (wW _)];unfold pJ
   repeat' split
   all_goals omega
 ·rw[iJ];exact g.up
def AF(sh:Sh):List bC:=(eO sh).map fun a=>(a.nd,a.wl)
def jc(j:Jb):Option (Int×Int×Int):=if fg j&&j.st==1&&decide (0<=j.pm)then(fw j.sh j.ch).map fun a=>(j.pm,a.wl+12,a.nd)else none
def pX(j:Jb):Int×Int×Int:=(jc j).getD (0,0,0)
def AX(left:List bC)(j:Jb)(am latest:Int):Option (Int×Int):=
 if(tu left am latest 12 (AF j.sh)).fd then some (((tu left am latest 12 (AF j.sh)).ch:Int),(tu left am latest 12 (AF j.sh)).st)else none
def Tm(left:List bC)(c:Int×Int×Int):List bC:=if(nA left c.1 c.2.1 c.2.2).2=0 then(nA left c.1 c.2.1 c.2.2).1 else left
def AG(s:List bC×List Jb)(j:Jb)(ch at_:Int):List bC×List Jb:=if pE j at_ ch=0 then(Tm s.1 (pX (ix j at_ ch)),gv s.2 (ix j at_ ch))else s
def t6(am:Int)(s:List bC×List Jb)(j:Jb):List bC×List Jb:=
 match AX s.1 j am 1000000 with
 |none=>s
 |some (ch,at_)=>AG s j ch at_
def sN(am:Int)(aj:List Jb)(s:List bC×List Jb)(id:Int):List bC×List Jb:=
 match eh aj id with
 |none=>s
 |some j=>if j.pm= -1 then t6 am s j else s
def ko(am:Int)(left:List bC)(a:List Int)(aj:List Jb):List Jb:=(a.foldl (sN am aj) (left,aj)).2
def L3(am:Int)(own left:List bC)(b:List Jb)(j:Jb)(ch a:Int):List bC×List Jb:=
 if(ch=j.ch/\a=j.pm)\/pE j a ch≠0 then(left,b)else
 ((nA own (pX (ix j a ch)).1 (pX (ix j a ch)).2.1 (pX (ix j a ch)).2.2).1,if(nA own (pX (ix j a ch)).1 (pX (ix j a ch)).2.1 (pX (ix j a ch)).2.2).2=0 then gv b (ix j a ch)else b)
def PT(am:Int)(s:List bC×List Jb)(j:Jb):List bC×List Jb:=
 if(add s.1 (pX j).1 ((pX j).1+(pX j).2.1) (pX j).2.2).2≠0 then s else
 match AX (add s.1 (pX j).1 ((pX j).1+(pX j).2.1) (pX j).2.2).1 j am j.pm with
 |none=>s
 |some (ch,zt)=>L3 am (add s.1 (pX j).1 ((pX j).1+(pX j).2.1) (pX j).2.2).1 s.1 s.2 j ch zt
def pN(am:Int)(s:List bC×List Jb)(id:Int):List bC×List Jb:=
 match s.2.find? (fun j=>j.id==id)with
 |none=>s
 |some j=>PT am s j
def eu(a:List Int)(aj:List Jb):List Int:=a.filter fun id=>((eh aj id).map fun j=>decide (0<=j.pm)).getD false
def zL(am:Int)(left:List bC)(a:List Int)(aj:List Jb):List Jb:=((eu a aj).foldl (pN am) (left,aj)).2
def gy(j:Jb):Jb:=if Bm j=0 then Bo j else j
def DR(am:Int)(left:List bC)(a:List Int)(aj:List Jb):List Jb:=ko am left a (aj.map gy)
def KQ(am:Int)(a:List Int)(aj:List Jb):List Int:=(eu a aj).filter fun id=> !(((eh aj id).map fun j=>decide (am<j.pm)).getD false)
theorem eG.refl(h:vI l)(hw:∀j∈l,j.nd<2^64):eG l l:=by
 refine⟨rfl,fun i j k h1 h2=> ?_⟩;rw[h1]at h2;cases h2;have a:=cG h1;exact⟨ic.refl (h.ok j a) (hw j a),fun _=>rfl⟩
theorem ic.trans{a b c:Jb}(h:ic a b)(k:ic b c):ic a c:=by
 obtain⟨h1,h2,o,f,g⟩:=h;obtain⟨j,l,m,n,i⟩:=k;refine⟨j.trans h1,l,m,n.trans f,fun e=> ?_⟩;have d:=f.2 e;exact⟨(i d).1.trans (g e).1,(i d).2.trans (g e).2⟩
theorem eG.trans{a b c:List Jb}(h:eG a b)(k:eG b c):eG a c:=by
 refine⟨k.1.trans h.1,fun i x z hx g=> ?_⟩;have hi:=(cA.1 hx).1;obtain⟨y,d⟩:∃y,b[i]?=some y:=⟨_,cE (by rw[h.1];exact hi)⟩;obtain⟨f,j⟩:=h.2 i x y hx d;obtain⟨m,l⟩:=k.2 i y z d g;exact⟨f.trans m,fun e=>(l (f.2.2.2.1.2 e)).trans (j e)⟩
variable{m:List Jb}
theorem eG.ok(h:eG l m)(b:vI l):vI m/\∀j∈m,j.nd<2^64:=by
 have e:m.map Jb.id=l.map Jb.id:=by
  apply nY;intro i;rw[dD,dD];by_cases hi:i<l.length
  ·have hx:=cE hi;have c:=cE (show i<m.length by rw[h.1];exact hi);rw[hx,c];simp[(h.2 i _ _ hx c).1.1]
  ·rw[dP (show m.length<=i by have:=h.1;omega),dP (show l.length<=i by omega)]
 have d:∀k∈m,fg k=true/\k.nd<2^64:=by
  intro k a;obtain⟨i,hi⟩:=dE.1 a;have f:=(cA.1 hi).1;have hx:=cE (show i<l.length by rw[<-h.1];exact f);have t:=(h.2 i _ _ hx hi).1;exact⟨t.2.1,t.2.2.1⟩
 exact⟨⟨by rw[h.1];exact b.cf,fun k a=>(d k a).1,by rw[Dz,e,<-Dz];exact b.up⟩,fun k a=>(d k a).2⟩
theorem Fl(h:eG l m)(g:vI l){p:Jb}(c:∀j∈l,j.id=p.id->ic j p/\(j.st=2->p.li=j.li)):eG l (gv m p):=by
 refine⟨by rw[ua];exact h.1,fun i j k b a=> ?_⟩;unfold gv at a;rw[dD]at a;obtain⟨y,d,rfl⟩:=i6.1 a;obtain⟨t,f⟩:=h.2 i j y b d;split
 ·rename_i e;exact c j (cG b) (t.1.symm.trans e)
 ·exact⟨t,f⟩
theorem H2{a c:Int}(h:pE j a c=0)(hw:j.nd<2^64):ic j (ix j a c)/\(j.st=2->(ix j a c).li=j.li):=by
 obtain⟨h1,h2,b,d,f⟩:=SF h;refine⟨⟨rfl,h1,hw,oU,fun e=>⟨rfl,rfl⟩⟩,fun _=>rfl⟩
theorem BX(c:vI l)(hw:∀j∈l,j.nd<2^64){s:List bC×List Jb}(h:eG l s.2)(g:∃a∈l,ic a j/\(a.st=2->j.li=a.li)){ch at_:Int}(f:pE j at_ ch=0):
 eG l (gv s.2 (ix j at_ ch)):=by
 obtain⟨a,k,b,i⟩:=g;refine Fl h c fun x hx e=> ?_;have d:x=a:=mo c.up hx k (e.trans b.1);subst d;obtain⟨t,m⟩:=H2 f b.2.2.1;exact⟨b.trans t,fun e=>(m (b.2.2.2.1.2 e)).trans (i e)⟩
theorem Es(b:vI l)(hw:∀j∈l,j.nd<2^64){s:List bC×List Jb}(h:eG l s.2)(id:Int):eG l (sN am l s id).2:=by
 unfold sN;split
 ·exact h
 ·rename_i j d;split
  ·unfold t6;split
   ·exact h
   ·rename_i ch at_ e;unfold AG;split
    ·rename_i c;have a:=(fq d).2.1;exact BX b hw h ⟨j,a,ic.refl (b.ok j a) (hw j a),fun _=>rfl⟩ c
    ·exact h
  ·exact h
theorem rk{α β:Type}{P:α->Prop}{f:α->β->α}(c:∀a b,P a->P (f a b)):∀(l:List β) (a:α),P a->P (l.foldl f a)
 |[],a,h=>h
 |b::r,a,h=>rk c r _ (c a b h)
theorem pb(a:vI l)(hw:∀j∈l,j.nd<2^64)(left:List bC)(b:List Int):eG l (ko am left b l):=
 rk (P:=fun s=>eG l s.2) (fun s id h=>Es a hw h id) b (left,l) (eG.refl a hw)
theorem Cd(c:vI l)(hw:∀j∈l,j.nd<2^64){s:List bC×List Jb}(h:eG l s.2)(id:Int):eG l (pN am s id).2:=by
 unfold pN;split
 ·exact h
 ·rename_i j b;unfold PT;split
  ·exact h
  split
  ·exact h
  ·rename_i ch g f;unfold L3;split
   ·exact h
   rename_i a;simp only[not_or,Decidable.not_not]at a
   dsimp only
   split
   ·have d:=fQ b;obtain⟨i,hi⟩:=dE.1 d;have e:=(cA.1 hi).1;have hx:=cE (show i<l.length by rw[<-h.1];exact e);exact BX c hw h ⟨_,cG hx,(h.2 i _ _ hx hi).1,(h.2 i _ _ hx hi).2⟩ a.2
   ·exact h
theorem uc(a:vI l)(hw:∀j∈l,j.nd<2^64)(left:List bC)(b:List Int):eG l (zL am left b l):=
 rk (P:=fun s=>eG l s.2) (fun s id h=>Cd a hw h id) _ (left,l) (eG.refl a hw)
theorem xQ(h:fg j=true)(hw:j.nd<2^64):ic j (gy j)/\(j.st=2->(gy j).li=j.li):=by
 unfold gy;split
 ·rename_i a;unfold Bm at a;rw[cK h]at a;split at a
  ·rename_i hs;exact⟨⟨rfl,Re h hs,hw,oU,fun e=>⟨rfl,rfl⟩⟩,fun _=>rfl⟩
  ·simp at a
 ·exact⟨ic.refl h hw,fun _=>rfl⟩
theorem ET{f:Jb->Jb}(h:∀j∈l,ic j (f j)/\(j.st=2->(f j).li=j.li)):eG l (l.map f):=by
 refine⟨by simp,fun i j k a b=> ?_⟩;rw[dD,a]at b;cases b;exact h j (cG a)
theorem AW(b:vI l)(hw:∀j∈l,j.nd<2^64)(left:List bC)(c:List Int):eG l (DR am left c l):=by
 have h1:eG l (l.map gy):=ET fun j a=>xQ (b.ok j a) (hw j a);obtain⟨d,e⟩:=h1.ok b;exact h1.trans (pb d e left c)
def qZ(j:Jb):Jb:=gX j 6
theorem Cy(h:fg j=true)(hs:j.st=1)(hw:j.nd<2^64):ic j (qZ j)/\(j.st=2->(qZ j).li=j.li):=by
 have a:kK j 6=0:=by simp[kK,h,hs,pK]
 refine⟨⟨mC j 6,(CJ a).1,?_,?_,fun e=> ?_⟩,fun e=> ?_⟩
 ·unfold qZ;rw[Jj];decide
 ·unfold qZ;rw[tD,hs];decide
 ·rw[hs]at e;cases e
 ·rw[hs]at e;cases e
inductive tj(l:List Jb):List Jb->List Int->Prop
 |nil:tj l l []
 |cons {m:List Jb} {bO:List Int} {j:Jb} (h:tj l m bO) (hj:j∈l) (hs:j.st=1) (ha:j.af≠[]):tj l (gv m (qZ j)) (bO++[j.id])
theorem uu{bO:List Int}(a:vI l)(hw:∀j∈l,j.nd<2^64)(h:tj l m bO):eG l m:=by
 induction h with
 |nil=>exact eG.refl a hw
 | @cons m bO j h hj hs ha ih=>
   refine Fl ih a fun x hx e=> ?_;have:x=j:=mo a.up hx hj (e.trans (mC j 6));subst this;exact Cy (a.ok x hx) hs (hw x hx)
theorem Bi{bO:List Int}(h:tj l m bO)(a:∀j∈l,j.af=[]):m=l/\bO=[]:=by
 cases h with
 |nil=>exact⟨rfl,rfl⟩
 |cons h hj hs hne=>exact absurd (a _ hj) hne
def ji(s:St)(id:Int):St×Int:=
 match eh s.aj id with
 |none=>(s,0)
 |some j=>
  if(fw j.sh j.ch).isNone then(s,0)else
  if(ii s.ag (sizeOf j) 1 id s.am).2.2.2≠0 then(s,0)else
  if mQ j s.am (ii s.ag (sizeOf j) 1 id s.am).2.1≠0 then(s,0)else
  (zO s j (ii s.ag (sizeOf j) 1 id s.am).1 (ii s.ag (sizeOf j) 1 id s.am).2.1,1+((ii s.ag (sizeOf j) 1 id s.am).2.2.1.length:Int))
def la:List Int->St->Int->St×Int
 |[],s,n=>(s,n)
 |id::r,s,n=>la r (ji s id).1 (n+(ji s id).2)
theorem jH.trans{a b c:St}(h:jH a b)(k:jH b c):jH a c:=by
 induction h with
 |nil s=>exact k
 |cons hj G h0 h ih=>exact .cons hj G h0 (ih k)
theorem su(s:St)(id:Int):jH s (ji s id).1:=by
 unfold ji;split
 ·exact .nil s
 ·rename_i j c;split
  ·exact .nil s
  split
  ·exact .nil s
  split
  ·exact .nil s
  ·rename_i a hs;simp only[ne_eq,Decidable.not_not]at a hs;obtain⟨N,m,f,G,b⟩:=Ex a;obtain⟨-,d,e,-⟩:=fq c;rw[b]at hs⊢;subst e;exact .cons d G hs (.nil _)
theorem qO:∀(bO:List Int) (s:St) (n:Int),jH s (la bO s n).1
 |[],s,n=> .nil s
 |id::r,s,n=>(su s id).trans (qO r _ _)
def yd(s:St):Prop:=(∀x∈s.ag,x.st=0/\x.dr=false)/\s.aZ=[]/\∀j∈s.aj,jc j=none
def pQ(s:St)(p:List bC):Prop:=yd s->p=[(0,(s.ag.length:Int))]
def eT(aj:List Jb)(a:List Int):Prop:=(∀id∈a,∃j∈aj,j.id=id/\j.st=1)/\(∀j,aj=[j]->j.af=[]->j.hd=false->j.st=1->a=[j.id])
def changed(l m:List Jb):Int:=((l.zip m).countP fun p=>p.2.st==1&&(p.2.pm !=p.1.pm||p.2.ch !=p.1.ch):Nat)
inductive tn(s:St):Bool->List Jb->Prop
 |anew {left:List bC} {order:List Int} (hr:pQ {s with aj:=s.aj.map gy} left) (ho:eT (s.aj.map gy) order):tn s true (DR s.am left order s.aj)
 |fresh {left left':List bC} {order order':List Int} {l:List Jb} (hr:pQ s left) (ho:eT s.aj order) (hl:l=zL s.am left order s.aj) (hr':pQ {s with aj:=l} left') (ho':eT l order'):tn s false (ko s.am left' order' l)
theorem Dh(g:bt s){anew:Bool}(h:tn s anew l):eG s.aj l:=by
 cases h with
 |anew hr ho=>exact AW g.aj g.wide.aj _ _
 | @fresh left left' order order' l hr ho hl hr' ho'=>
   subst hl;have h1:=uc (am:=s.am) g.aj g.wide.aj left order;obtain⟨a,b⟩:=h1.ok g.aj;exact h1.trans (pb a b _ _)
def tq(s:St)(b:Bool)(t:St)(n:Int):Prop:=
 ∃m bO l a,tj s.aj m bO/\tn {s with aj:=m} b l/\eT l a/\(t,n)=la (KQ s.am a l) {s with aj:=l} ((bO.length:Int)+changed m l)
theorem LX(g:bt s){d:Bool}{n:Int}(h:tq s d t n):IT s t:=by
 obtain⟨m,bO,l,c,a,b,e,ht⟩:=h;have h1:=uu g.aj g.wide.aj a;have g1:=ru g h1;have h2:=Dh g1 b;refine⟨l,h1.trans h2,?_⟩;have:=qO (KQ s.am c l) {s with aj:=l} ((bO.length:Int)+changed m l);rw[<-ht]at this;exact this
open Go renaming World->Wd,Value->Vl,Calls->Cs
open Go.RowKit renaming Below->Bl
open Go.RowKit
theorem nh(s:ByteArray)(w:Wd):Cs prog 54 #[.string s] w fun e w'=>e=.returned (jj s:Bool)/\w=w':=by
 have a:Hid (jj s=(decide ((1:Int)<=(s.size:Int))&&decide ((s.size:Int)<=64))):=by
  show _=_;unfold jj
  congr 1<;>exact iD.2 (by omega)
 cases h1:decide ((1:Int)<=(s.size:Int))
 iterate 2
  ·rw[h1]at a;go_in;go_wp2;go_ret;exact⟨ar a.symm,rfl⟩
theorem nan_s(a:ByteArray)(w:Wd):Cs prog 211 #[.string a] w fun e w'=>e=.returned false/\w=w':=by
 go_in;go_wp2;go_ret;exact⟨ar (by simp),rfl⟩
theorem NK(a b:ByteArray)(w:Wd):Cs prog 114 #[.string a,.string b] w fun e w'=>e=.returned (jw a b:Int)/\w=w':=by
 have g:=ah fun s W=>nan_s s W;have d:Hid (jw a b=if Op.bytesLess a.toList b.toList then -1 else if Op.bytesLess b.toList a.toList then 1 else 0):=rfl
 have f:Hid ((a.toList==b.toList)=true->Op.bytesLess b.toList a.toList=false):=by
  show _->_;intro e;rw[iC]at e;rw[e,pi];simp[List.lt_irrefl]
 have i:Hid (Op.bytesLess a.toList b.toList=false->(a.toList==b.toList)=false->Op.bytesLess b.toList a.toList=true):=by
  show _->_->_;intro h1 h2;rw[pi]at h1⊢;rw[dQ]at h2;rw[dS]at h1;rw[iM];rcases Classical.em (b.toList<a.toList)with h|h
  ·exact h
  ·exact absurd (List.le_antisymm (List.not_lt.1 h) (List.not_lt.1 h1)) h2
 cases h1:Op.bytesLess a.toList b.toList
 case' false=>cases h2:(a.toList==b.toList)
 case' false.false=>have c:Hid (jw a b=1):=by show _=_;rw[d.out,h1,i.out h1 h2];rfl
 case' false.true=>have c:Hid (jw a b=0):=by show _=_;rw[d.out,h1,f.out h2];rfl
 case' true=>have c:Hid (jw a b= -1):=by show _=_;rw[d.out,h1];rfl
 all_goals
  go_in
  iterate 2
   go_wp2_with fail;refine(g _ _).mono ?_;rintro e w' ⟨rfl,rfl⟩
  go_wp2;go_ret;exact⟨ax c.symm,rfl⟩
theorem GQ{α:Type}{q:α->Bool}{l:List α}{k:Nat}{s:α}(h:∀x∈l.take k,q x=false)(hs:l[k]?=some s)(b:q s=true):l.find? q=some s:=by
 obtain⟨a,rfl⟩:=cA.1 hs;have e:l.find? q=(l.take k++l.drop k).find? q:=by rw[iR]
 rw[e,sF,iX.2 (fun x hx=>by simp[h x hx]),dR a,List.find?_cons,b];rfl
def Pn(l:List Int):Int:=(l.find? (fun x=>x !=0)).getD 0
theorem Be(A:OA)(c:Nat)(l:List Int)(w:Wd)(h:fs w A l.length l)(hn:l.length<=1000):Cs prog 113 #[.slice A l.length c] w fun e w'=>e=.returned (Pn l:Int)/\w=w':=by
 have n:=ah h;clear h;go_in;go_wp2
 go_loop [8] (fun i=>∃k:Nat,k<=l.length/\i=.int .i64 k/\∀x∈l.take k,x=0) (fun i=>l.length-(intOf i).toNat)
 case atStart=>exact⟨0,by omega,rfl,by simp⟩
 case round=>
  obtain⟨k,r,rfl,m⟩:=hrel;have d:=ah m;clear m;by_cases o:k<l.length
  ·obtain⟨b,off,x,rfl,q,hx,p⟩:=cp.int n o;have j:=ah hx;clear hx;by_cases f:x=0
   ·subst f;go_wp2_with fail
    go_round
    case rel=>exact⟨k+1,by omega,by go_num,eP d j rfl⟩
    case measure=>simp[intOf];omega
   ·have e0:(x !=0)=true:=by simpa using f
    have a:Hid (Pn l=x):=by
     show _=_;unfold Pn;have:l.find? (fun x=>x !=0)=some x:=GQ (fun y g=>by have:=d.out y g;simp[this]) j e0;rw[this];rfl
    clear f;go_wp2;go_ret;exact⟨ax a.symm,rfl⟩
  ·obtain rfl:k=l.length:=by omega
   have a:Hid (Pn l=0):=by
    show _=_;unfold Pn;have:l.find? (fun x=>x !=0)=none:=iX.2 (fun y g=>by have:=d.out y (by rw[cT];exact g);simp[this]);rw[this];rfl
   go_wp2;go_ret;exact⟨ax a.symm,rfl⟩
def Ai(u:Us):List Vl:=[.string u.us,.string u.ac,u.ud,u.sh]
abbrev mU(u:Us):Array Vl:= #[.string u.us,.string u.ac,u.ud,u.sh]
abbrev Aw:=cp Ai 4
abbrev mL:=be Ai 4
theorem na:wU Ai 4:=⟨fun _=>rfl,fun x u a=>by simp[Ai]at a;rcases a with rfl|rfl|rfl|rfl<;>rfl,by omega⟩
theorem DB:(prog.info? 83).map (fun i=>(i.zero,i.size,i.bytes))=some (some (.agg #[.string ⟨#[]⟩,.string ⟨#[]⟩,(),()]),4,48):=by kernel_rfl
theorem JW{w:Wd}{A:OA}{l:List Us}(h:Aw w A n l)(hi:i<n):∃b off s,A=some ⟨b,off,none⟩/\b<w/\l[i]?=some s/\w.cell? ⟨b,off+i*4,none⟩=some (.string s.us)/\w.cell? ⟨b,off+i*4+1,none⟩=some (.string s.ac)/\w.cell? ⟨b,off+i*4+2,none⟩=some (s.ud:Vl)/\w.cell? ⟨b,off+i*4+3,none⟩=some (s.sh:Vl):=by
 obtain⟨b,off,s,hA,c,hs,a⟩:=h.at_ hi;exact⟨b,off,s,hA,c,hs,a 0 _ rfl,a 1 _ rfl,a 2 _ rfl,a 3 _ rfl⟩
theorem orL_2(a b:Int):Pn [a,b]=if a≠0 then a else b:=by
 unfold Pn;by_cases h:a=0
 ·by_cases h2:b=0<;>simp[h,h2]
 ·simp[h]
theorem Sw(a b:Us):Pn [jw a.us b.us,jw a.ac b.ac]=fa a b:=by rw[orL_2];rfl
theorem tc(a b:Us)(w:Wd):Cs prog 56 #[.agg (mU a),.agg (mU b)] w (an (fa a b:Int) w):=by
 obtain⟨V,f⟩:=nm ((w.alloc (.cells (mU a) 83)).alloc (.cells (mU b) 83));have j:Bl w w V:=f▸aC;have c:ai V w 83 (mU a):=f▸(ai.new _ _ _).alloc _;have d:ai V (w+1) 83 (mU b):=by rw[f];have:=ai.new (w.alloc (.cells (mU a) 83)) 83 (mU b);simpa using this
 have n:=ah fun x y W=>NK x y W;have i:=ah fun A (W:Wd) (h:fs W A [jw a.us b.us,jw a.ac b.ac].length [jw a.us b.us,jw a.ac b.ac])=>Be A 2 [jw a.us b.us,jw a.ac b.ac] W h (by simp);rw[Sw]at i;have m:=ah j;have q:=c.cell 0;have r:=c.cell 1;have s:=d.cell 0;have t:=d.cell 1;simp at q r s t;have l:Hid (∀w',Bl V V w'->w'.cell? w=some (.string a.us)/\w'.cell? ⟨w,1,none⟩=some (.string a.ac)/\w'.cell? (w+1:Nat)=some (.string b.us)/\w'.cell? ⟨w.heap.size+1,1,none⟩=some (.string b.ac)):=fun w' g=>⟨(c.ae g c.lt).cell 0,(c.ae g c.lt).cell 1,(d.ae g d.lt).cell 0,(d.ae g d.lt).cell 1⟩;clear j c d;go_in;go_wp2_with fail;rw[<-f];clear f;have p:Bl V V V.drew:=bR.drew;have k:Bl V V (V.alloc (.cells #[(jw a.us b.us:Int),(jw a.ac b.ac:Int)] 3)).drew:=(aA).drew;have o:Hid (fs (V.alloc (.cells #[(jw a.us b.us:Int),(jw a.ac b.ac:Int)] 3)).drew V 2 [jw a.us b.us,jw a.ac b.ac]):=Bz _ _ _ _
 go_region_held3 (fun w'=>w'.cell? w=some (.string a.us)/\w'.cell? ⟨w,1,none⟩=some (.string a.ac)/\w'.cell? (w+1:Nat)=some (.string b.us)/\w'.cell? ⟨w.heap.size+1,1,none⟩=some (.string b.ac))
  (first|with_reducible exact l.out _ p|with_reducible exact l.out _ k)
  (first
    |(go_at_call 114;refine(n _ _ _).mono ?_;rintro e u ⟨rfl,rfl⟩)
    |(go_at_call 113;refine(i _ _ o).mono ?_;rintro e u ⟨rfl,rfl⟩))
 all_goals go_wp2_with fail
 all_goals go_ret
 all_goals exact⟨rfl,aa m k⟩
def Oc(s:St)(j:Jb):Int:=1+if j.st=2 then((gH s j.id).2.1.length:Int)else 0
def ov:List Int->St->Int
 |[],_=>0
 |id::r,s=>match qw s.bx id with|none=>ov r s|some x=>((bv s x).2.1.length:Int)+ov r (ow s x)
def wo:List Int->St->Int
 |[],_=>0
 |id::r,s=>match eh s.aj id with|none=>wo r s|some j=>if kK j 5=0 then Oc s j+wo r (gJ s j 5)else wo r s
def xU(s:St):Int:=ov (cy s) s+wo (fp (eI (cy s) s)) (eI (cy s) s)
def oy(s:St):List Int:=dL (pw (lp s.am) s.ag s.ag.length)
def Dl(s:St):Int:=((gm (ef s).ag (oy s)).length:Int)
def pS(s t:St)(n:Int):Prop:=s.am<1000000/\∃bK,fm bK=true/\∃c a b,tq (ef (lw (ql (ig s bK)))) c t b/\(ey (ig s bK)=[]->c=false/\a=0)/\
 n=a+xU (ql (ig s bK))+Dl (lw (ql (ig s bK)))+b
theorem yv(g:bt s):bt (ql s):=(jQ (ey s) s g).kq
theorem vT(g:bt s):bt (lw s):=by
 have A:=(my (cy s) s g).1;exact(mf (fp (eI (cy s) s)) _ A.kq).1.kq
theorem FM{n:Int}(g:bt s)(h:pS s t n):M2 s t:=by
 obtain⟨a,bK,b,e,c,d,hs,-,-⟩:=h;exact⟨a,bK,b,LX (qv (vT (yv (sK g a b)))) hs⟩
def kN:Nd:=⟨0,0,0,false,0,0,0⟩
def tL:Sh:=⟨1,[⟨2,1⟩],0,0,0⟩
def kJ:Jb:=⟨1,⟨#[97]⟩,⟨#[117]⟩,⟨#[120]⟩,tL,0,[],1,false,0,-1,0,0,0,0,0⟩
def kL:List Us:=[⟨⟨#[117]⟩,⟨#[120]⟩,0,0⟩]
def Ha:St:=⟨0,[kN,kN,kN,kN],[],[],[],[],1,1⟩
def qj(bK:List Us):St:=⟨0,[kN,kN,kN,kN],[kJ],[],[],bK,2,1⟩
def kP:Jb:=ix kJ 0 0
def BB(bK:List Us):St:=⟨0,[bH kN 1 1 0,bH kN 1 1 0,kN,kN],[jB kP 0 1 3],[],[],bK,2,1⟩
def kE:Jb:=gX (ez (jB kP 0 1 3)) 5
def kS3(bK:List Us):St:=⟨1,[bH (bH kN 1 1 0) 7 0 1,bH (bH kN 1 1 0) 7 0 1,kN,kN],[kE],[],[],bK,2,1⟩
theorem CS:bt Ha:=(mX ⟨by simp[Ha],by simp[Ha],by simp[Ha]⟩).1 (by kernel_rfl)
theorem Ew(g:bt s){bK:List Us}(h:fm bK=true):bt {s with bK:=bK}:=⟨g.am,g.ag,g.aj,g.aZ,h,⟨g.wide.aj,g.wide.kk,g.wide.Qj⟩,g.iy,g.bx,g.nj,g.O3,g.nb,g.busy,g.Fe,g.tP,g.going,g.held⟩
theorem Ug:bt (qj kL):=(mX ⟨by simp[qj,kJ],by simp[qj],by simp[qj]⟩).1 (by kernel_rfl)
theorem Ue{bK:List Us}(h:fm bK=true):bt (qj bK):=Ew Ug h
theorem Hv{o:List Int}(h:eT l o)(hn:∀j∈l,j.st≠1):o=[]:=by
 cases o with
 |nil=>rfl
 |cons a r=>
  obtain⟨j,b,-,hs⟩:=h.1 a (by simp);exact absurd hs (hn j b)
theorem wa{bK:List Us}{n:Int}(h:tq (qj bK) false t n):t=BB bK/\n=4:=by
 obtain⟨m,bO,l,f,u,v,c,ht⟩:=h;obtain⟨rfl,rfl⟩:=Bi u (by simp[qj,kJ])
 have g:yd (qj bK):=by
  refine⟨by simp[qj,kN],rfl,fun j e=> ?_⟩;simp[qj]at e;subst e
  kernel_rfl
 have d:∀{o:List Int},eT [kJ] o->o=[1]:=fun h=>h.2 kJ rfl rfl rfl rfl;have i:∀{o:List Int},eT [kP] o->o=[1]:=fun h=>h.2 kP rfl rfl rfl rfl
 cases v with
 | @fresh left left' order1 order2 l1 hr ho1 hl hr' ho2=>
   have h1:=hr g;have h2:=d ho1;subst h1 h2;have w:l1=[kJ]:=by rw[hl];kernel_rfl
   subst w;have k:=hr' g;have p:=d ho2;subst k p;have q:ko (qj bK).am [(0,((qj bK).ag.length:Int))] [1] [kJ]=[kP]:=by kernel_rfl
   change eT (ko (qj bK).am [(0,((qj bK).ag.length:Int))] [1] [kJ]) f at c
   change (t,n)=la (KQ (qj bK).am f (ko (qj bK).am [(0,((qj bK).ag.length:Int))] [1] [kJ])) {qj bK with aj:=ko (qj bK).am [(0,((qj bK).ag.length:Int))] [1] [kJ]} ((0:Int)+changed [kJ] (ko (qj bK).am [(0,((qj bK).ag.length:Int))] [1] [kJ]))at ht
   rw[q]at c ht;have r:=i c;subst r;have s:la (KQ (qj bK).am [1] [kP]) {qj bK with aj:=[kP]} ((0:Int)+changed [kJ] [kP])=(BB bK,4):=by kernel_rfl
   rw[s]at ht;injection ht with a b
   exact⟨a,b⟩
theorem Lb{d:List Us}{n:Int}(h:pS (BB d) t n):t.aj=[kE]/\n=3:=by
 obtain⟨-,bK,f,A,y,w,hs,hn,rfl⟩:=h;obtain⟨rfl,rfl⟩:=hn (by kernel_rfl);have g:ef (lw (ql (ig (BB d) bK)))=kS3 bK:=by kernel_rfl
 have i:xU (ql (ig (BB d) bK))=3:=by kernel_rfl
 have k:Dl (lw (ql (ig (BB d) bK)))=0:=by kernel_rfl
 rw[g]at hs;rw[i,k];obtain⟨m,bO,l,z,s,v,u,ht⟩:=hs;obtain⟨rfl,rfl⟩:=Bi s (by intro j c;simp[kS3]at c;subst c;kernel_rfl);have e:∀{o:List Int},eT [kE] o->o=[]:=fun h=>Hv h (by intro j c;simp at c;subst c;rw[show kE.st=5 by kernel_rfl];decide)
 cases v with
 | @fresh left left' order1 order2 l1 hr ho1 f hr' ho2=>
   have h2:=e ho1;subst h2;have x:l1=[kE]:=f;subst x;have p:=e ho2;subst p;have q:=e u;subst q;have r:(t,w)=({kS3 bK with aj:=[kE]},(0:Int)+changed [kE] [kE]):=ht;injection r with a b
   subst a b;exact⟨rfl,by kernel_rfl⟩
theorem kE_st:kE.st=5:=by kernel_rfl
theorem LK(s:St)(r:Rz)(id:Int)(h:id≠r.jb):qw (ow s r).bx id=qw s.bx id:=by
 show(s.bx.filter (fun x=>x.jb !=r.jb)).find? (fun x=>x.jb==id)=s.bx.find? (fun x=>x.jb==id);rw[List.find?_filter]
 congr 1
 funext a
 by_cases e:a.jb=id
 ·simp[e,h]
 ·simp[e]
def tg:List Int->St->Prop
 |[],_=>True
 |id::r,s=>∃x,qw s.bx id=some x/\tg r (ow s x)
theorem vJ:∀(bO:List Int) (s:St),bt s->bO.Nodup->(∀id∈bO,∃x,qw s.bx id=some x)->tg bO s
 |[],_,_,_,_=>trivial
 |id::r,s,g,hn,h=>by
  obtain⟨x,hx⟩:=h id (by simp);obtain⟨b,d⟩:=(gP g.iy).1 hx;rw[List.nodup_cons]at hn;refine⟨x,hx,vJ r _ (ox g b) hn.2 fun k a=> ?_⟩;obtain⟨y,c⟩:=h k (by simp[a]);exact⟨y,by rw[LK s x k (by intro e;rw[d]at e;rw[e]at a;exact hn.1 a)];exact c⟩
theorem Dt(g:bt s):tg (cy s) s:=by
 refine vJ _ s g ?_ fun id a=> ?_
 ·unfold cy;rw[List.Nodup,iJ];exact(g.iy.filter _).imp fun h e=>by omega
 ·unfold cy at a;obtain⟨r,b,rfl⟩:=cS.1 a;exact⟨r,(gP g.iy).2 ⟨(fM.1 b).1,rfl⟩⟩
def wR:List Int->St->Prop
 |[],_=>True
 |id::r,s=>∃j,eh s.aj id=some j/\j.st=2/\kK j 5=0/\wR r (gJ s j 5)
theorem KX{k:Jb}(hs:j.st=2)(a:k∈s.aj)(h:k.id≠j.id):k∈(gJ s j why).aj:=by
 unfold gJ;rw[cK hs];show k∈gv s.aj (gX j why);unfold gv;exact cS.2 ⟨k,a,by rw[cL (by rw[mC];exact h)]⟩
theorem xw:∀(bO:List Int) (s:St),bt s->bO.Nodup->(∀id∈bO,∃j∈s.aj,j.id=id/\j.st=2)->wR bO s
 |[],_,_,_,_=>trivial
 |id::r,s,g,hn,h=>by
  obtain⟨j,a,f,hs⟩:=h id (by simp);rw[List.nodup_cons]at hn;have c:kK j 5=0:=tE (g.aj.ok j a) hs rfl;refine⟨j,by rw[<-f];exact m5 g.aj a,hs,c,xw r _ (m0 g a c) hn.2 fun k b=> ?_⟩;obtain⟨y,i,d,l⟩:=h k (by simp[b]);exact⟨y,KX hs i (by intro e;rw[f,d]at e;rw[e]at b;exact hn.1 b),d,l⟩
theorem Fb(g:bt s):wR (fp s) s:=by
 refine xw _ s g ?_ fun id a=> ?_
 ·unfold fp;rw[List.Nodup,iJ];exact(g.aj.up.filter _).imp fun h e=>by omega
 ·unfold fp at a;obtain⟨j,b,rfl⟩:=cS.1 a;obtain⟨h1,h2⟩:=fM.1 b;simp at h2;exact⟨j,h1,rfl,h2.1⟩
end Go.Proofs.YthfhilggbbobmaaGreatDoor
