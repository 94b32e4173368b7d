/- Parts of the proof. -/
import Derived.Test.YthfhilggbbobmaaGreatDoorK2
import Derived.Test.YthfhilggbbobmaaGreatDoorRows
import Derived.WalkSpells
import Derived.WalkLawsBesides
import Derived.BigQuiet
import Derived.Deep.RegionLaw
import Derived.Deep.DeepCutAuto
import Derived.Deep.RegionHeld3
import Derived.Deep.CutBlock
set_option linter.all false
set_option maxHeartbeats 20000000
namespace Go.Proofs.YthfhilggbbobmaaGreatDoor
set_option maxRecDepth 100000
open Go.Proofs.Tryz
open Go renaming World->Wd,Value->Vl,Ending->Ed,Program->Pg,Calls->Cs
open Go.RowKit renaming Below->Bl
open Go.RowKit
def MQ(r:Vl)(w:Wd)(e:Ed)(w':Wd):Prop:=e=.returned r/\Bl w w w'
variable{w:Wd}{n:Nat}
theorem kh{P:Pg}{f:FuncId}{args:Array Vl}{v:Vl}(h:Cs P f args (w.drewN n) fun e w'=>e=.returned v/\w.drewN n=w'):Cs P f args (w.drewN n) fun e c=>e=.returned v/\∃m,c=w.drewN m:=
 h.mono fun _ _ ⟨a,b⟩=>⟨a,n,b.symm⟩
def zU(s:bC):List Vl:=[s.1,s.2]
abbrev Steps:=cp zU 2
variable{A:OA}{p:List bC}{i:Nat}
theorem cp.two(h:Steps w A n p)(hi:i<n):∃b off s,A=some ⟨b,off,none⟩/\b<w/\p[i]?=some s/\w.cell? ⟨b,off+i*2,none⟩=some (s.1:Vl)/\w.cell? ⟨b,off+i*2+1,none⟩=some (s.2:Vl):=by
 obtain⟨b,off,s,hA,c,hs,a⟩:=h.at_ hi;exact⟨b,off,s,hA,c,hs,a 0 _ rfl,a 1 _ rfl⟩
def eB(n:Int):Bool:=decide (-1000000<=n)&&decide (n<=1000000)
theorem Ep{n:Int}:eB n=true↔ -1000000<=n/\n<=1000000:=by simp[eB]
theorem en(n:Int)(w:Wd):Cs prog 381 #[n] w fun e w'=>e=.returned (eB n:Bool)/\w=w':=by
 by_cases h1: -1000000<=n
 ·go_in;go_wp2;go_ret;exact⟨ar (by simp[eB,h1]),rfl⟩
 ·have h2:decide (-1000000<=n)=false:=by simpa using h1
  go_in;go_wp2;go_ret;exact⟨ar (by simp[eB];omega),rfl⟩
theorem GZ(n:Int)(w:Wd):Cs prog 370 #[n] w fun e w'=>e=.returned (eE n:Bool)/\w=w':=by
 by_cases h1:0<=n
 ·go_in;go_wp2;go_ret;exact⟨ar (by simp[eE,h1]),rfl⟩
 ·have h2:decide (0<=n)=false:=by simpa using h1
  go_in;go_wp2;go_ret;exact⟨ar (by simp[eE];omega),rfl⟩
def jM(p:List bC):Int:=if gW p then 0 else 100
theorem ec(h:gW p=true):jM p=0:=by simp[jM,h]
theorem dh(h:gW p=false):jM p=100:=by simp[jM,h]
variable{k:Nat}{s:bC}
theorem Ce(h:p[k]?=some s)(a:eB s.2=false):jG p k=false:=by
 simp only[eB]at a;simp only[jG,h,a,nI]
theorem FH(h:p[k]?=some s)(a:1000000<s.1):jG p k=false:=by
 have:=dF (s.1<=1000000) (by omega);simp only[jG,h,this,nI,rS]
theorem zQ{r:bC}(h:p[k]?=some s)(b:p[k-1]?=some r)(a:k≠0)(c:s.1<=r.1\/r.2=s.2):jG p k=false:=by
 have:(decide (r.1<s.1)&&decide (r.2≠s.2))=false:=by simp;omega
 simp only[jG,h,b,this,a,decide_false,sI,rS]
theorem Cf(h:p[k]?=some s)(a:eB s.2=true)(c:s.1<=1000000)(b:k=0\/∃r,p[k-1]?=some r/\r.1<s.1/\r.2≠s.2):jG p k=true:=by
 simp only[eB]at a;rcases b with d|⟨r,b,h1,h2⟩
 ·subst d;simp[jG,h,a,c]
 ·simp[jG,h,a,c,b,h1,h2]
theorem Gp{P:Nat->Prop}(h:∀j,j<k->P j)(b:P k):∀j,j<k+1->P j:=fun j c=>by
 rcases iE j k with a|a
 ·exact h j a
 ·obtain rfl:j=k:=by omega
  exact b
def TE(w:Wd)(p:List bC)(i:Vl)(wr:Wd):Prop:=∃k:Nat,k<=p.length/\i=.int .i64 k/\(∀j,j<k->jG p j=true)/\Bl w w wr
theorem eU(A:OA)(n c:Nat)(p:List bC)(w:Wd)(h:Steps w A n p)(hn:n<=maxLen):
 Cs prog 363 #[.slice A n c] w (MQ (jM p:Int) w):=by
 unfold maxLen at hn;have N:=h.cb;subst N;by_cases g:p.length=0
 ·have K:((p.length:Int)==0)=true:=by simp[g]
  have V:(p.length==0)=true:=by simp[g]
  have a:=ah (dh (GE g));clear g h;go_in;go_wp2;go_ret;exact⟨ax a.symm,cC _ _⟩
 ·have K:((p.length:Int)==0)=false:=by rw[dQ];omega
  have V:(p.length==0)=false:=by rw[dQ];omega
  by_cases h1:1000<p.length
  ·have a:=ah (dh (Kp h1));clear g h;go_in;go_wp2;go_ret;exact⟨ax a.symm,cC _ _⟩
  ·have L:0<p.length:=by omega
   obtain⟨b,off,z,rfl,Z,u,D,J⟩:=cp.two h L;rw[rG,fU]at D;by_cases l:z.1=0
   ·have R:(z.1 !=0)=false:=by simp[l]
    have U:=ah u;have H:=ah l;have Q:p.length<=1000:=by omega
    clear g h1 u l;go_in;go_wp2
    go_loopw [22] (fun i wr=>TE w p i wr) (fun i _=>p.length-(intOf i).toNat)
    case atStart=>exact⟨0,by omega,rfl,by omega,cC _ _⟩
    case round=>
     obtain⟨k,hk,rfl,F,d⟩:=hrel;have B:=ah F;clear F D J;by_cases j:k<p.length
     ·obtain⟨I,M,s,e,yY,hs,W,X⟩:=cp.two (cp.ae h d) j;injection e with e;injection e with e1 e2;subst e1 e2;have f:=ah hs;clear hs;by_cases q:k=0
      ·have P:decide (0<k)=false:=by simp[q]
       have S:¬0<k:=by omega
       have t:=ah q;clear q;cases hf:eB s.2
       ·have a:=ah (dh (mW j (Ce f hf)));go_wp2_with fail;go_quiet ((go_at_call 381;exact kh (en _ _)));go_wp2;go_ret;exact⟨ax a.symm,below_drewN (d.alloc d.size _) _⟩
       ·by_cases m:s.1<=1000000
        ·have C:decide (1000000<s.1)=false:=by simpa using m
         have v:=ah (Cf f hf m (.inl t));go_wp2_with fail;go_quiet ((go_at_call 381;exact kh (en _ _)));go_wp2_with fail;exact⟨⟨k+1,by omega,by go_num,Gp B v,below_drewN (d.alloc d.size _) _⟩,by simp[intOf];omega⟩
        ·have C:=dT (1000000<s.1) (by omega);have a:=ah (dh (mW j (FH f (by omega))));go_wp2_with fail;go_quiet ((go_at_call 381;exact kh (en _ _)));go_wp2;go_ret;exact⟨ax a.symm,below_drewN (d.alloc d.size _) _⟩
      ·have P:=dT (0<k) (by omega);have S:0<k:=by omega
       obtain⟨I,M,r,e,_,E,f0,Y⟩:=cp.two (cp.ae h d) (show k-1<p.length by omega);injection e with e;injection e with e1 e2;subst e1 e2;have x:=ah E;have yX:IntKind.i64.wrap ((k:Int)-1)=(k:Int)-1:=lS _ (by omega);have yU:(0:Int)<=(k:Int)-1:=by omega
       have yT:(1:Int)<=(k:Int):=by omega
       have yW:((k:Int)-1).toNat=k-1:=by omega
       have yV:(k:Int)-1<(p.length:Int):=by omega
       have t:=ah q;clear q E;cases hf:eB s.2
       ·have a:=ah (dh (mW j (Ce f hf)));go_wp2_with fail;go_quiet ((go_at_call 381;exact kh (en _ _)));go_wp2;go_ret;exact⟨ax a.symm,below_drewN (d.alloc d.size _) _⟩
       ·by_cases m:s.1<=1000000
        ·have C:decide (1000000<s.1)=false:=by simpa using m
         by_cases y:s.1<=r.1
         ·have T:decide (s.1<=r.1)=true:=by simpa using y
          have a:=ah (dh (mW j (zQ f x t (.inl y))));go_wp2_with fail;go_quiet ((go_at_call 381;exact kh (en _ _)));go_wp2;go_ret;exact⟨ax a.symm,below_drewN (d.alloc d.size _) _⟩
         ·have T:decide (s.1<=r.1)=false:=by simpa using y
          by_cases o:s.2=r.2
          ·have O:(s.2==r.2)=true:=by simpa using o
           have G:=ah o;clear o;have a:=ah (dh (mW j (zQ f x t (.inr G.symm))));go_wp2_with fail;go_quiet ((go_at_call 381;exact kh (en _ _)));go_wp2;go_ret;exact⟨ax a.symm,below_drewN (d.alloc d.size _) _⟩
          ·have O:(s.2==r.2)=false:=by simpa using o
           have v:=ah (Cf f hf m (.inr ⟨r,x,by omega,fun e=>o e.symm⟩));go_wp2_with fail;go_quiet ((go_at_call 381;exact kh (en _ _)));go_wp2_with fail;exact⟨⟨k+1,by omega,by go_num,Gp B v,below_drewN (d.alloc d.size _) _⟩,by simp[intOf];omega⟩
        ·have C:=dT (1000000<s.1) (by omega);have a:=ah (dh (mW j (FH f (by omega))));go_wp2_with fail;go_quiet ((go_at_call 381;exact kh (en _ _)));go_wp2;go_ret;exact⟨ax a.symm,below_drewN (d.alloc d.size _) _⟩
     ·have a:=ah (ec (Kn Q U H (fun i hi=>B i (by omega))));go_wp2;go_ret;exact⟨ax a.symm,d⟩
   ·have R:(z.1 !=0)=true:=by simpa using l
    have a:=ah (dh (Ko u l));clear g h u l;go_in;go_wp2;go_ret;exact⟨ax a.symm,cC _ _⟩
def Drew(r:Vl)(w:Wd)(e:Ed)(w':Wd):Prop:=e=.returned r/\∃m,w'=w.drewN m
theorem Hx(a d:Nat)(A:OA)(n c:Nat)(p:List bC)(t:Int)(w:Wd)(h:Steps w A n p)(e:ai w a 327 #[.slice A n c])(ht:ai w d 3 #[t])(i:Nat)(s:bC)(hi:p[i]?=some s)(hn:n<=maxLen):
 Cs prog 411 #[i,.pointer a,.pointer d] w (Drew (decide (t<s.1):Bool) w):=by
 have f:i<n:=by rw[<-h.cb];exact(cA.1 hi).1
 unfold maxLen at hn;obtain⟨b,off,s',rfl,l,hs,j,k⟩:=cp.two h f;rw[hi]at hs;injection hs with hs
 subst hs;have p0:w.cell? a=some (.slice (some ⟨b,off,none⟩) n c):=e.cell 0;have m:w.cell? d=some (t:Vl):=ht.cell 0;have hI:(i:Int)<(n:Int):=by omega
 have g:=ah hi;clear hi h;go_in;go_wp2_with fail;go_quiet (fail);go_wp2;go_ret;exact⟨rfl,_,rfl⟩
def Gd(N:Nat)(q:Nat->Bool)(w:Wd)(e:Ed)(w':Wd):Prop:=∃k m:Nat,k<=N/\(∀j,j<k->q j=false)/\(∀j,k<=j->j<N->q j=true)/\e=.returned k/\w'=w.drewN m
def pD(p:List bC)(t:Int)(j:Nat):Bool:=decide (t<(p.getD j (0,0)).1)
theorem m9{t:Int}{j:Nat}(h:p[j]?=some s):pD p t j=decide (t<s.1):=by simp[pD,List.getD,h]
theorem yq{t:Int}(d:p.Pairwise (fun a b=>a.1<b.1)){j:Nat}(f:i<=j)(c:j<p.length)(h:pD p t i=true):pD p t j=true:=by
 rcases iE i j with e|g
 ·have:=cN.1 d i j (by omega) c e;rw[m9 (cE (show i<p.length by omega))]at h;rw[m9 (cE c)];simp at h⊢;omega
 ·obtain rfl:i=j:=by omega
  exact h
theorem Id(f k:Nat)(A:OA)(n c:Nat)(p:List bC)(t:Int)(w:Wd)(h:Steps w A n p)(B:ai w f 327 #[.slice A n c])(ht:ai w k 3 #[t])(hn:n<=1000000)(D:p.Pairwise (fun a b=>a.1<b.1)):
 Cs prog 410 #[n,.func (Fn.func 411) #[] #[.pointer f,.pointer k]] w (Gd n (pD p t) w):=by
 have E:Hid (∀(i m:Nat),i<n->Cs prog 411 #[i,.pointer f,.pointer k] (w.drewN m) (Drew (pD p t i:Bool) (w.drewN m))):=by
  show∀(i m:Nat),_;intro i m hi;have I:=h.cb;have l:=cE (show i<p.length by omega);rw[m9 l];exact Hx f k A n c p t (w.drewN m) (h.ae (below_drewN bR m)) (B.drewN m) (ht.drewN m) i _ l (by simp[maxLen];omega)
 have s:=ah h.cb;have u:=ah D;clear h B ht D;go_in;go_wp2
 go_loopw [5,6] (fun x y wr=>∃i j m:Nat,i<=j/\j<=n/\x=.int .i64 i/\y=.int .i64 j/\(∀z,z<i->pD p t z=false)/\(∀z,j<=z->z<n->pD p t z=true)/\wr=w.drewN m) (fun x y _=>(intOf y).toNat-(intOf x).toNat)
 case atStart=>exact⟨0,n,0,by omega,by omega,rfl,rfl,by omega,by omega,rfl⟩
 case round=>
  obtain⟨i,j,m,K,v,rfl,rfl,h1,h2,rfl⟩:=hrel;have q:=ah h1;have r:=ah h2;clear h1 h2;by_cases M:i<j
  ·obtain⟨g,l⟩:∃g:Nat,g=(i+j)/2:=⟨_,rfl⟩;have L:i<=g:=by omega
   have J:g<j:=by omega
   have F:Hid (((i:Int)+(j:Int))/2=(g:Int)):=by show _=_;omega
   clear l;go_wp2_with fail;rw[F.out];have d:=E.out g m (by omega);cases hq:pD p t g
   ·rw[hq]at d;refine d.mono ?_;rintro e G ⟨rfl,m2,rfl⟩;have o:=ah hq;clear hq d;go_wp2_with fail;refine⟨⟨g+1,j,m+m2,by omega,v,by go_num,rfl,fun z C=> ?_,r,rfl⟩,by simp[intOf];omega⟩;cases hz':pD p t z
    ·rfl
    ·exact(yq u (show z<=g by omega) (by rw[s.out];omega) hz').symm.trans o
   ·rw[hq]at d;refine d.mono ?_;rintro e G ⟨rfl,m2,rfl⟩;have o:=ah hq;clear hq d;go_wp2_with fail;exact⟨⟨i,g,m+m2,by omega,by omega,rfl,rfl,q,fun z C H=>yq u C (by rw[s.out];exact H) o,rfl⟩,by simp[intOf];omega⟩
  ·go_wp2;go_ret;obtain rfl:i=j:=by omega
   exact⟨i,m,v,q,r,rfl,rfl⟩
theorem pl_of{t:Int}(b:Mw p)(ht:0<=t)(i:k<=p.length)(h1:∀j,j<k->pD p t j=false)(h2:∀j,k<=j->j<p.length->pD p t j=true):1<=k/\Pl p t (k-1):=by
 obtain⟨f,r,e⟩:=b.nf.up.head;have a:p[0]?=some (0,f):=by rw[e];rfl
 have c:0<p.length:=by rw[e];simp
 have d:1<=k:=by
  rcases dX k with rfl|h
  ·have:=h2 0 lr c;rw[m9 a]at this;simp at this;omega
  ·exact h
 refine⟨d,⟨_,cE (show k-1<p.length by omega),?_⟩,fun j s g hs=> ?_⟩
 ·have:=h1 (k-1) (by omega);rw[m9 (cE (show k-1<p.length by omega))]at this;simpa using this
 ·have:=h2 j (by omega) (cA.1 hs).1;rw[m9 hs]at this;simpa using this
def J3(p:List bC)(t:Int)(w:Wd)(e:Ed)(w':Wd):Prop:=∃i:Nat,i<p.length/\Pl p t i/\e=.returned i/\Bl w w w'
theorem BV(A:OA)(n c:Nat)(p:List bC)(t:Int)(w:Wd)(h:Steps w A n p)(b:Mw p)(ht:0<=t):
 Cs prog 371 #[.slice A n c,t] w (J3 p t w):=by
 have q:=h.cb;have r:=b.cf;subst q;obtain⟨V,a⟩:=nm ((w.alloc (.cells #[.slice A p.length c] 327)).alloc (.cells #[t] 3));have d:Bl w w V:=a▸aC;have f:=Id w (w+1) A p.length c p t V (h.ae d) (by rw[a];exact(ai.new w _ _).alloc _) (by rw[a];have:=ai.new (w.alloc (.cells #[.slice A p.length c] 327)) 3 #[t];simpa using this) (by omega) b.nf.up.pairwise;have l:=ah f;have i:=ah b;clear f h b;go_in;go_wp2_with fail;rw[<-a];clear a;refine l.out.mono ?_;rintro e s ⟨k,m,o,h1,h2,rfl,rfl⟩;obtain⟨u,g⟩:=pl_of i ht o h1 h2;have j:=ah g;clear h1 h2 g;go_wp2;go_ret;refine⟨k-1,by omega,j,ax (by omega),below_drewN d m⟩
theorem Nx(h:gW p=true):p.length<=1000:=(es h).cf
theorem Bv(a b:Int):∀(l:List bC) (o:Int),(∀s∈l,s.1<=a\/b<=s.1)->l.foldl (ga a b) o=o:=by
 intro l
 induction l with
 |nil=>intros;rfl
 |cons s r ih=>
  intro o h;have hs:=h s (by simp);rw[i9,ga,cL (by omega)];exact ih o (fun x hx=>h x (by simp[hx]))
variable{a b:Int}
theorem EP(d:p.Pairwise (fun x y=>x.1<y.1))(h:Pl p a i):(p.take (i+1)).foldl (ga a b) (am p a)=am p a:=by
 refine Bv a b _ _ (fun s hs=> .inl ?_);obtain⟨⟨x,hx,e⟩,_⟩:=h;obtain⟨j,c⟩:=dE.1 hs;have g:=(cA.1 c).1;rw[fD]at g;rw[oE (by omega)]at c;rcases iE j i with f|k
 ·have:=cN.1 d j i (by omega) (cA.1 hx).1 f;obtain⟨h1,rfl⟩:=cA.1 c;obtain⟨h2,rfl⟩:=cA.1 hx;omega
 ·obtain rfl:j=i:=by omega
  rw[c]at hx;injection hx with hx
  subst hx;exact e
theorem Lh(e:p.Pairwise (fun x y=>x.1<y.1))(d:p[k]?=some s)(hs:b<=s.1):least p a b=(p.take k).foldl (ga a b) (am p a):=by
 unfold least
 conv=>lhs;rw[<-iR k p]
 rw[lP];generalize hN:(p.take k).foldl (ga a b) (am (p.take k++p.drop k) a)=o;rw[iR]at hN;rw[hN];refine Bv a b _ _ (fun x hx=> .inr ?_);obtain⟨j,c⟩:=dE.1 hx;rw[iO]at c;obtain⟨h1,rfl⟩:=cA.1 c;obtain⟨h2,rfl⟩:=cA.1 d;rcases dX j with rfl|f
 ·simp only[fU];exact hs
 ·have:=cN.1 e k (k+j) h2 h1 (by omega);omega
def MM(w:Wd)(p:List bC)(a b:Int)(x y:Vl)(wr:Wd):Prop:=∃k:Nat,1<=k/\k<=p.length/\x=.int .i64 k/\y=.int .i64 ((p.take k).foldl (ga a b) (am p a))/\(∀j s,k<=j->p[j]?=some s->a<s.1)/\wr=w
theorem Lg(A:OA)(n c:Nat)(p:List bC)(a b:Int)(w:Wd)(h:Steps w A n p)(hn:n<=maxLen):
 Cs prog 268 #[.slice A n c,a,b] w (MQ (ku p a b:Int) w):=by
 have g:=ah (eU A n c p w h hn);have P:=h.cb;subst P;have f:=GZ a;cases hc:gW p
 ·rw[dh hc]at g;have d:Hid (ku p a b=0):=by show _=_;simp[ku,hc]
  clear hc h f;go_in;go_wp2_with fail;refine g.out.mono ?_;rintro e q ⟨rfl,b1⟩;go_wp2;go_ret;exact⟨ax d.symm,b1⟩
 ·rw[ec hc]at g;cases ht:eE a
  ·rw[ht]at f;have d:Hid (ku p a b=0):=by show _=_;simp[ku,ht]
   have v:=ah f;clear hc ht h f;go_in;go_wp2_with fail;refine g.out.mono ?_;rintro e q ⟨rfl,b1⟩;go_wp2_with fail;refine(v _).mono ?_;rintro e r ⟨rfl,rfl⟩;go_wp2;go_ret;exact⟨ax d.symm,b1⟩
  ·rw[ht]at f;have v:=ah f;by_cases W:a<b
   ·have d:Hid (ku p a b=least p a b):=by show _=_;simp[ku,hc,ht,W]
    have S:0<=a:=by simp[eE]at ht;exact ht.1
    have F:=es hc;have yR:=F.cf;have z:=ah F;have B:=ah h;clear hc ht h f F;go_in;go_wp2_with fail;refine g.out.mono ?_;rintro e q ⟨rfl,b1⟩;go_wp2_with fail;refine(v _).mono ?_;rintro e r ⟨rfl,rfl⟩;go_wp2_with fail;refine(BV A p.length c p a q (B.ae b1) z S).mono ?_;rintro e r ⟨i,hi,t,rfl,b2⟩;obtain⟨s,hs,yX,I,hx⟩:=t.split;clear hx;have b3:=aa b1 b2;obtain⟨X,off,s',rfl,Z,u,M,N⟩:=cp.two (B.ae b3) hi;rw[hs]at u;injection u with u
    subst u;have K:Hid (s.2=(p.take (i+1)).foldl (ga a b) (am p a)):=by show _=_;rw[EP z.out.nf.up.pairwise t];exact I.symm
    have Q:=ah t;clear I hs t b1 b2;go_wp2
    go_loopw [7,8] (fun x y wr=>MM r p a b x y wr) (fun x _ _=>p.length-(intOf x).toNat)
    case atStart=>exact⟨i+1,by omega,by omega,by go_num,by rw[K.out],fun j s O hs=>Q.2 j s (by omega) hs,rfl⟩
    case round=>
     obtain⟨k,yY,hk,rfl,rfl,G,rfl⟩:=hrel;clear M N;obtain⟨o,D⟩:=nm ((p.take k).foldl (ga a b) (am p a));have C:=ah D;have H:=ah G;rw[<-D];clear D G;by_cases U:k<p.length
     ·obtain⟨yW,yS,l,e,_,E,f0,Y⟩:=cp.two (B.ae b3) U;injection e with e;injection e with e1 e2;subst e1 e2;have T:=H.out k l lr E;have J:=ah E;clear E;by_cases R:l.1<b
      ·have V:Hid ((p.take (k+1)).foldl (ga a b) (am p a)=if l.2<o then l.2 else o):=by
        show _=_;rw[aM J.out,lP,i9,List.foldl_nil,<-C.out,ga];by_cases m:l.2<o
        ·rw[cK ⟨T,R,m⟩,cK m]
        ·rw[cL (fun h=>m h.2.2),cL m]
       go_wp2_with fail;exact⟨⟨k+1,by omega,by omega,by go_num,by rw[V.out],fun j s O hs=>H j s (by omega) hs,rfl⟩,by simp[intOf];omega⟩
      ·have L:=ah (Lh (a:=a) (b:=b) z.nf.up.pairwise J (by omega));go_wp2;go_ret;exact⟨ax (by rw[d.out,L.out];exact C),b3⟩
     ·go_wp2;go_ret;exact⟨ax (by rw[d.out,C.out,fG (by omega)];rfl),b3⟩
   ·have yO:b<=a:=by omega
    have d:Hid (ku p a b=0):=by show _=_;simp[ku];intros;omega
    clear hc ht h f;go_in;go_wp2_with fail;refine g.out.mono ?_;rintro e q ⟨rfl,b1⟩;go_wp2_with fail;refine(v _).mono ?_;rintro e r ⟨rfl,rfl⟩;go_wp2;go_ret;exact⟨ax d.symm,b1⟩
set_option maxRecDepth 512
theorem vb:wU zU 2:=⟨fun _=>rfl,fun x u a=>by simp[zU]at a;rcases a with rfl|rfl<;>rfl,by omega⟩
abbrev oq:=be zU 2
theorem zS:(prog.info? 397).map (fun i=>(i.zero,i.size,i.bytes))=some (some (.agg #[(),()]),2,16):=by kernel_rfl
def TO(l:List bC)(w:Wd)(e:Ed)(w':Wd):Prop:=∃A c,e=.returned (.slice A l.length c)/\oq w' w A l.length c l/\Bl w w w'
theorem Kz(A:OA)(n c:Nat)(p:List bC)(w:Wd)(h:Steps w A n p)(hn:n<=1000000)(hA:A=none->c=0):
 Cs prog 364 #[.slice A n c] w (TO p w):=by
 have o:=h.cb;subst o
 cases A with
 |none=>
  have q:p=[]:=by
   cases p with
   |nil=>rfl
   |cons x r=>obtain⟨b,off,_,e,_⟩:=h.at_ (i:=0) (by simp);cases e
  subst q;obtain rfl:=hA rfl;clear h hA hn;have g:=fun(w:Wd)=>Lib.run_eql_slice_nil (P:=prog) w 327 397 none 0 0 0 0 underlying327;go_in;go_wp2;go_ret;exact⟨none,0,rfl,be.nil _ _ _ _,cC _ _⟩
 |some a=>
  obtain⟨k,m,t,d,j,f,_,_⟩:=dy vb (P:=prog) (w.alloc (.cells #[] 397)) w 327 327 397 _ 16 underlying327 zS rfl w 0 0 [] (be.none _ _ _ _ _) (some a) p.length c p (h.ae (aA)) (by simp[maxLen];omega) (by omega) (by simp);simp only[cR,dH]at d j;have l:=ah d;have s:=((cC w w).alloc lr (.cells #[] 397)).trans f;clear d f h;have g:=fun(w:Wd)=>Lib.run_eql_slice_nil (P:=prog) w 327 397 (some a) p.length c 0 0 underlying327;simp only[iV]at g;go_in;go_wp2_with(at_builtin;refine au rfl _ _ rfl rfl rfl l ?_);go_ret;exact⟨k,m,rfl,j,s⟩
def jd(n:Int):Int:=if n< -1000000 then -1000000 else if 1000000<n then 1000000 else n
theorem xY(n:Int)(w:Wd):TO [(0,jd n)] w (.returned (.slice w 1 1)) (w.alloc (.cells #[(),(jd n:Int)] 397)):=by
 refine⟨_,1,rfl,⟨rfl,?_⟩,aA⟩;exact eY.Hq w w 2 _ #[(),(jd n:Int)] 1 lr (by simp[maxLen]) (by simp)
theorem Ol(n:Int)(w:Wd):Cs prog 365 #[n] w (TO [(0,jd n)] w):=by
 by_cases h1:n< -1000000
 ·have b:Hid (jd n= -1000000):=by show _=_;rw[jd,cK h1]
  have a:=xY n w;rw[b.out]at a⊢;have c:=ah a;clear a;go_in;go_wp2;go_ret;exact c
 ·by_cases h2:1000000<n
  ·have b:Hid (jd n=1000000):=by show _=_;rw[jd,cL h1,cK h2]
   have a:=xY n w;rw[b.out]at a⊢;have c:=ah a;clear a;go_in;go_wp2;go_ret;exact c
  ·have b:Hid (jd n=n):=by show _=_;rw[jd,cL h1,cL h2]
   have a:=xY n w;rw[b.out]at a⊢;have c:=ah a;clear a;go_in;go_wp2;go_ret;exact c


set_option maxRecDepth 100000
def r7(a:Nat)(w:Wd)(l:List bC):Prop:=∃A c,ai w a 327 #[.slice A l.length c]/\oq w (a+1) A l.length c l/\A≠some ⟨a,0,none⟩
theorem r7.ae{a:Nat}{w':Wd}{l:List bC}(h:r7 a w l)(b:Bl w w w'):r7 a w' l:=by
 obtain⟨A,c,h1,h2,d⟩:=h;exact⟨A,c,h1.ae b h1.lt,h2.ae b,d⟩
def IR(a:Nat)(l:List bC)(w:Wd)(e:Ed)(w':Wd):Prop:=e=.returned (.tuple #[])/\r7 a w' l/\Bl a w w'
theorem SH{b:Nat}{l:List bC}{c:Nat}(h1:ai w b 327 #[.slice A l.length c])(h2:oq w (b+1) A l.length c l)(i:A≠some ⟨b,0,none⟩)(q:l.length<=100000)(a f:Int):
 ∃d g h,(Builtin.append_ #[327,327] 327 #[.slice A l.length c,.slice w 1 1]).run prog (w.alloc (.cells #[a,f] 397))=.ok (.slice d (l.length+1) g) h/\
  ai h b 327 #[.slice A l.length c]/\r7 b (h.setCell b (.slice d (l.length+1) g)) (l++[(a,f)])/\Bl b w (h.setCell b (.slice d (l.length+1) g)):=by
 have r:=h1.lt;obtain⟨d,g,h,m,n,k,o,hA⟩:=dy vb (P:=prog) (w.alloc (.cells #[a,f] 397)) (b+1) 327 327 397 _ 16 underlying327 zS rfl A l.length c l (h2.ae (aA)) w 1 1 [(a,f)] (cp.new vb w (a,f) #[a,f] _ rfl) (by simp[maxLen];omega) (by omega) (by simp;omega);have j:ai h b 327 #[.slice A l.length c]:=(o b (by simp;omega) i).trans (h1.alloc _);refine⟨d,g,h,m,j,⟨d,g,?_,?_,?_⟩,?_⟩
 ·have:=j.set 0 (.slice d (l.length+1) g);simpa using this
 ·have:=n.ll (p:=b) (by simp) (.slice d (l.length+1) g);simpa using this
 ·rcases hA with rfl|rfl
  ·exact i
  ·intro e;injection e with e
   injection e with e _;simp at e;omega
 ·exact((((cC b w).alloc (by omega) (.cells #[a,f] 397)).trans (k.mono (by omega)))).setCell (p:=b) lr _
theorem rv(d:Nat)(l:List bC)(a f:Int)(w:Wd)(h:r7 d w l)(t:l.length<=100000):
 Cs prog 382 #[a,f,.pointer d] w (IR d (put l (a,f)) w):=by
 obtain⟨A,c,h1,h2,i⟩:=h;have C:w.cell? d=some (.slice A l.length c):=h1.cell 0;have F:=h1.lt;obtain⟨z,B,r,j,o,n,p⟩:=SH h1 h2 i t a f;have D:r.cell? d=some (.slice A l.length c):=o.cell 0;have f0:=o.ao 0;have m:=ah j;by_cases hn:l.length=0
 ·have u:((l.length:Int)==0)=true:=by simp[hn]
  have y:(l.length==0)=true:=by simp[hn]
  have g:Hid (put l (a,f)=l++[(a,f)]):=by
   show _=_;have:l=[]:=dJ hn;subst this;rfl
  clear hn j h1 h2 i;go_in;go_wp2_with(at_builtin;refine au rfl _ _ rfl rfl rfl m ?_);go_end0;rw[g.out];exact⟨rfl,n,p⟩
 ·have u:((l.length:Int)==0)=false:=by rw[dQ];omega
  have y:(l.length==0)=false:=by rw[dQ];omega
  obtain⟨b,off,s,x,_,hs,e0,E⟩:=cp.two (h2.et vb) (show l.length-1<l.length by omega);have H:(1:Int)<=(l.length:Int):=by omega
  have G:((l.length:Int)-1).toNat=l.length-1:=by omega
  have k:l.getLast?=some s:=by rw[rV];exact hs
  subst x;by_cases e:s.2=f
  ·have v:(s.2 !=f)=false:=by simp[e]
   have g:Hid (put l (a,f)=l):=by show _=_;rw[put,cK (by rw[k];simp[e])]
   have q:Hid (r7 d w l):=⟨_,c,h1,h2,i⟩;clear hn j h1 h2 i e k hs m n;go_in;go_wp2;go_end0;rw[g.out];exact⟨rfl,q,cC _ _⟩
  ·have v:(s.2 !=f)=true:=by simpa using e
   have g:Hid (put l (a,f)=l++[(a,f)]):=by show _=_;rw[put,cL (by rw[k];simpa using e)]
   clear hn j h1 h2 i e k hs;go_in;go_wp2_with(at_builtin;refine au rfl _ _ rfl rfl rfl m ?_);go_end0;rw[g.out];exact⟨rfl,n,p⟩
def Cl(r:List bC×Int)(w:Wd)(e:Ed)(w':Wd):Prop:=∃A c,e=.returned (.tuple #[.slice A r.1.length c,r.2])/\oq w' w A r.1.length c r.1/\Bl w w w'
theorem Ox{a:Nat}{l:List bC}(h1:ai w a 327 #[.slice none 0 0])(h2:Steps w A i l)(q:i<=100000)(c:Nat):
 ∃b f d,(Builtin.append_ #[327,327] 327 #[.slice none 0 0,.slice A i c]).run prog w=.ok (.slice b i f) d/\
  ai d a 327 #[.slice none 0 0]/\r7 a (d.setCell a (.slice b i f)) l/\Bl a w (d.setCell a (.slice b i f)):=by
 have n:=h1.lt;have m:=h2.cb;obtain⟨b,f,d,h,j,k,o,hA⟩:=dy vb (P:=prog) w (a+1) 327 327 397 _ 16 underlying327 zS rfl none 0 0 [] (be.nil _ _ _ _) A i c l h2 (by simp[maxLen];omega) (by omega) (by omega);simp only[cR,dH]at h j;have g:ai d a 327 #[.slice none 0 0]:=(o a n (by simp)).trans h1;subst m;refine⟨b,f,d,h,g,⟨b,f,?_,j.ll (p:=a) (by simp) _,?_⟩,?_⟩
 ·have:=g.set 0 (.slice b l.length f);simpa using this
 ·rcases hA with rfl|rfl
  ·simp
  ·intro e;injection e with e
   injection e with e _;omega
 ·exact(k.mono (Nat.le_succ a)).setCell (p:=a) lr _
theorem cp.take{α:Type}{f:α->List Vl}{l:List α}(h:cp f k w A n l)(i:Nat)(hi:i<=n):cp f k w A i (l.take i):=by
 have o:=h.cb;refine⟨by simp;omega,fun r a=>Cells.eZ h r (by obtain⟨x,hx,rfl⟩:=cS.1 a;exact cS.2 ⟨x,lG hx,rfl⟩),fun m=> ?_⟩;obtain⟨b,off,hA,d,e⟩:=Cells.at_ h (by omega);refine⟨b,off,hA,d,fun j r a=>e j r ?_⟩;rw[dD]at a⊢
 have g:j<i:=by
  rcases iE j i with c|c
  ·exact c
  ·rw[dP (by simp;omega)]at a;cases a
 rw[oE g]at a;exact a
def ss(p:List bC)(k:Nat):Int:=(p.getD (k-1) (0,0)).2
theorem tZ{r:bC}(h:p[k-1]?=some r):ss p k=r.2:=by simp[ss,List.getD,h]
def pH(p:List bC)(i k:Nat):List bC:=(p.take k).drop (i+1)
theorem AR(a:i+1<=k)(hs:p[k]?=some s):pH p i (k+1)=pH p i k++[s]:=by
 unfold pH;have b:=(cA.1 hs).1;rw[aM hs,List.drop_append_of_le_length (by simp;omega)]
theorem xo(p:List bC)(i:Nat):pH p i (i+1)=[]:=by
 unfold pH;rw[List.drop_eq_nil_iff];simp;omega
theorem MP(p:List bC)(i k:Nat):(pH p i k).length<=p.length:=by unfold pH;simp;omega
def pL(p:List bC)(i k:Nat)(x:bC)(a n:Int):List bC:=qd (p.take i) x a n++(pH p i k).map (more n)
variable{x:bC}
theorem Ls{n:Int}(b:i+1<=k)(hs:p[k]?=some s):pL p i (k+1) x a n=pL p i k x a n++[(s.1,s.2+n)]:=by
 unfold pL;rw[AR b hs];simp[more]
theorem EV(p:List bC)(i k:Nat)(x:bC)(a n:Int):(pL p i k x a n).length<=2*p.length+2:=by
 have:=MP p i k;unfold pL qd;simp only[cY,dB,fD,dV,iP];split<;>simp<;>omega
def AC(p:List bC)(k:Nat)(b:Int)(y:bC):List bC:=if b<y.1 then [(b,ss p k)]else []
def IP(w:Wd)(c:Nat)(p:List bC)(i:Nat)(x:bC)(a b n:Int)(X Y:Vl)(wr:Wd):Prop:=
 ∃k:Nat,i+1<=k/\k<=p.length/\X=.int .i64 k/\Y=.int .i64 (ss p k)/\(∀s∈pH p i k,s.1<b)/\r7 c wr (dd (pL p i k x a n))/\Bl w w wr
def Qv(w:Wd)(c:Nat)(p:List bC)(i:Nat)(x:bC)(a b n:Int)(X Y:Vl)(wr:Wd):Prop:=
 ∃(k:Nat) (f:Int),i+1<=k/\k<=p.length/\X=.int .i64 k/\Y=.int .i64 f/\(∀s∈pH p i k,s.1<b)/\Bl w w wr/\
  ((k=p.length/\f=ss p k/\r7 c wr (dd (pL p i k x a n)))\/∃y,p[k]?=some y/\b<=y.1/\r7 c wr (dd (pL p i k x a n++AC p k b y)))
theorem zZ(hx:p[i]?=some x)(a:i+1<=k):p.take k=p.take i++[x]++pH p i k:=by
 unfold pH
 conv=>lhs;rw[<-iR (i+1) (p.take k)]
 rw[List.take_take,nQ a,aM hx]
theorem AU(hx:p[i]?=some x)(a:i+1<=k):p=p.take i++[x]++pH p i k++p.drop k:=by
 rw[<-zZ hx a,iR]
theorem Ju(hx:p[i]?=some x)(a:i+1<=k)(c:k<=p.length):∀q s,[x]++pH p i k=q++[s]->ss p k=s.2:=by
 intro q s e;have h1:=zZ hx a;rw[fX,e,<-fX]at h1
 have h2:(p.take k)[k-1]?=some s:=by
  rw[h1]
  have b:(p.take i++q).length=k-1:=by
   have:=cO List.length h1;simp only[fD,cY,dV,iP]at this;simp only[cY,fD];omega
  rw[dU (by omega),b];simp
 rw[oE (by omega)]at h2;exact tZ h2
theorem AQ(h:∀s∈p.drop (i+1),a<s.1):∀s∈pH p i k,a<s.1:=by
 intro s hs;unfold pH at hs;rw[List.drop_take]at hs;exact h s (lG hs)
theorem Bp{y:bC}(e:p.Pairwise (fun a b=>a.1<b.1))(f:p[k]?=some y)(d:b<=y.1):∀s∈p.drop k,b<=s.1:=by
 intro s hs;obtain⟨j,c⟩:=dE.1 hs;rw[iO]at c;obtain⟨h1,rfl⟩:=cA.1 c;obtain⟨h2,rfl⟩:=cA.1 f;rcases dX j with rfl|g
 ·simpa using d
 ·have:=cN.1 e k (k+j) h2 h1 (by omega);omega
theorem JK(hC:Mw p){n:Int}(hx:p[i]?=some x)(f:0<=a)(m:a<=1000000)(l:a<b)(k:x.1<=a)(j:∀s∈p.drop (i+1),a<s.1)(c:i+1<=p.length)(g:∀s∈pH p i p.length,s.1<b):
 dd (pL p i p.length x a n++(if b<=1000000 then [(b,ss p p.length)]else []))=out p a b n:=by
 have e:=AU hx c;have d:=hC;rw[e]at d;have h:=Pr (n:=n) d f (by unfold End;omega) l k (fun s hs=>⟨AQ j s hs,g s hs⟩) (by simp) (Ju hx c lr);rw[<-e]at h;rw[<-h,lH];rfl
theorem Sx(hC:Mw p){y:bC}{n:Int}(hx:p[i]?=some x)(g:0<=a)(u:a<=1000000)(t:a<b)(q:x.1<=a)(m:∀s∈p.drop (i+1),a<s.1)(d:i+1<=k)(c:p[k]?=some y)(o:b<=y.1)(j:∀s∈pH p i k,s.1<b):
 dd (pL p i k x a n++AC p k b y++p.drop k)=out p a b n:=by
 have r:=(cA.1 c).1;have f:=AU hx d;have e:=hC;rw[f]at e;have h:=Pr (n:=n) e g (by unfold End;omega) t q (fun s hs=>⟨AQ m s hs,j s hs⟩) (Bp hC.nf.up.pairwise c o) (Ju hx d (by omega));rw[<-f]at h;rw[<-h]
 have l:p.drop k=y::p.drop (k+1):=by
  obtain⟨_,rfl⟩:=cA.1 c;exact dR r
 rw[l];unfold qQ AC pL;rw[fX]
def qc(b:List bC)(x:bC)(a:Int):List bC:=b++(if x.1<a then [x]else [])
theorem M8(A:OA)(c:Nat)(p:List bC)(a b n:Int)(w:Wd)(h:Steps w A p.length p)(hc:p.length<=c)(uA:gW p=true)(L:eE a=true)(uN:a<b)(hf:eB n=true):
 Cs prog 293 #[.slice A p.length c,.int .i64 a,.int .i64 b,.int .i64 n] w (Cl (add p a b n) w):=by
 have hC:=es uA;have hfew:=hC.cf;have v:=ah (eU A p.length c p w h (by simp[maxLen];omega));rw[ec uA]at v;have uG:=ah (GZ a);rw[L]at uG;have uQ:=ah (en n);rw[hf]at uQ;have yZ:0<=a:=by simp[eE]at L;exact L.1
 have uS:a<=1000000:=by simp[eE]at L;exact L.2
 obtain⟨hn1,hn2⟩:=Ep.1 hf;have hba:(b==a)=false:=by rw[dQ];omega
 have t:=ah hC;have J:=ah h
 have O:Hid (add p a b n=if gW (out p a b n)=false then([],3)else(out p a b n,0)):=by
  show _=_;have:um a b n=true:=by simp[um];omega
  rw[add,cL (by simp[uA]),cL (by simp[this])]
 clear h hC uA L hf;go_enter func293,ntmps293;go_wp2_with fail;go_step3;go_wp2_with fail;refine av v.out fun w1 b1=> ?_;go_wp2_with fail;refine(uG.out _).mono ?_;rintro e w2 ⟨rfl,rfl⟩;go_wp2_with fail;refine(uQ.out _).mono ?_;rintro e w2 ⟨rfl,rfl⟩;go_wp2_with fail;obtain⟨V,hV⟩:∃V,V=w1.alloc (.cells #[.slice none 0 0] 327):=⟨_,rfl⟩;obtain⟨d,uC⟩:∃d,d=w1.heap.size:=⟨_,rfl⟩;have uR:ai V d 327 #[.slice none 0 0]:=by rw[hV,uC];exact ai.new _ _ _
 have bV:Bl w.heap.size w V:=hV▸b1.alloc b1.size _;have I:w.heap.size<=d:=uC▸b1.size;rw[<-hV,<-uC];clear hV uC b1;refine(BV A p.length c p a V (J.out.ae bV) t.out yZ).mono ?_;rintro e w3 ⟨i,hi,uX,rfl,b3⟩;obtain⟨x,hx,uK,qB,uZ,yE⟩:=uX.split;have HSp:=ah uZ;have uH:=ah yE;have uT:=uR.ae b3 uR.lt;have uI:=aa bV b3;obtain⟨K,off,x',rfl,uV,yY,B,C⟩:=cp.two (J.out) hi;rw[hx]at yY;injection yY with yY
 subst yY;have hxlo:=t.out.lo x (cG hx);have hxhi:=t.out.hi x (cG hx);obtain⟨A4,c4,W4,yH,uP,yB,yJ⟩:=Ox uT (cp.take (J.out.ae uI) i (by omega)) (by omega) i;have qL:=ah yH;have F:w3.cell? ⟨d,0,none⟩=some (.slice none 0 0):=uT.cell 0;have d4:W4.cell? ⟨d,0,none⟩=some (.slice none 0 0):=uP.cell 0;have f4:=uP.ao 0;have HX:=ah hx;have HN:=ah qB;have hci:i<=c:=by omega
 clear yH hx qB uZ yE uX uR bV b3;go_upto_region 12 with(at_builtin;refine au rfl _ _ rfl rfl rfl qL.out ?_)
 obtain⟨Q,qD⟩:∃Q,Q=W4.setCell ⟨d,0,none⟩ (.slice A4 i c4):=⟨_,rfl⟩;rw[<-qD]at yB yJ⊢;have S:Bl w.heap.size w Q:=uI.trans (yJ.mono I)
 have P:Hid (∀w',Bl w.heap.size w w'->(w'.cell? ⟨K,off+i*2,none⟩=some (x.1:Vl)/\w'.cell? ⟨K,off+i*2+1,none⟩=some (x.2:Vl))):=by
  show∀w',_;intro w' qE;exact⟨(qE.cell (p:=⟨K,off+i*2,none⟩) uV).trans B,(qE.cell (p:=⟨K,off+i*2+1,none⟩) uV).trans C⟩
 have hI:(i:Int)<(p.length:Int):=by omega
 have HI:=ah hi;clear qD F d4 f4 qL uP B C uI uT yJ v uG uQ;obtain⟨B,C⟩:=P.out Q S
 go_upto_if 58 with fail
 go_cut [] (fun G=>r7 d G (dd (qc (p.take i) x a))/\Bl w.heap.size w G)
 case first=>
  by_cases yV:x.1<a
  ·have hP:Hid (∀w',r7 d w' (p.take i)->Cs prog 382 #[.int .i64 x.1,.int .i64 x.2,.pointer (some ⟨d,0,none⟩)] w' (IR d (dd (p.take i++[x])) w')):=by
    show∀w',_;intro w' h';rw[mB,I9 t.out.nf];exact rv d _ x.1 x.2 w' h' (by simp;omega)
   have H0:Hid (qc (p.take i) x a=p.take i++[x]):=by show _=_;rw[qc,cK yV]
   go_wp2_with fail
   go_region_held3 (fun w'=>w'.cell? ⟨K,off+i*2,none⟩=some (x.1:Vl)/\w'.cell? ⟨K,off+i*2+1,none⟩=some (x.2:Vl))
    (first|with_reducible exact P.out _ S.drew|with_reducible exact P.out _ uW)
    (first
      |(go_at_call 382;refine(hP.out Q.drew (yB.ae (bR.drew))).mono ?_;rintro e w7 ⟨rfl,ho7,hb7⟩;have uW:Bl w.heap.size w w7:=S.drew.trans (hb7.mono I)))
   go_wp2_with fail;go_meet;rw[H0.out];exact⟨ho7,uW⟩
  ·have H0:Hid (qc (p.take i) x a=p.take i):=by show _=_;rw[qc,cL yV,fO]
   go_wp2_with fail;go_meet;rw[H0.out,I9 t.out.nf];exact⟨yB,S⟩
 case rest=>
  obtain⟨yI,uF⟩:=hcut;clear yB S B C;obtain⟨B,C⟩:=P.out wc uF
  have qG:(dd (qc (p.take i) x a)).length<=1001:=by
   have h1:=uq (qc (p.take i) x a)
   have h2:(qc (p.take i) x a).length<=i+1:=by
    unfold qc;split
    ·simp;omega
    ·simp;omega
   omega
  go_wp2_with fail;refine(rv d _ a (x.2+n) wc yI (by omega)).mono ?_;rw[<-mB];rintro e w8 ⟨rfl,qM,qH⟩;have qF:Bl w.heap.size w w8:=uF.trans (qH.mono I);clear B C yI uF qH;obtain⟨B,C⟩:=P.out w8 qF;go_wp2_with fail;go_step3
  have uY:IP w d p i x a b n (.int .i64 ((i:Int)+1)) (.int .i64 x.2) w8:=by
   refine⟨i+1,cB _,by have:=HI.out;omega,by go_num,?_,by rw[xo];simp,?_,qF⟩
   ·rw[tZ (k:=i+1) (r:=x) HX.out]
   ·have e:pL p i (i+1) x a n=qc (p.take i) x a++[(a,x.2+n)]:=by unfold pL;rw[xo];simp[qd,qc]
    rw[e];exact qM
  have uM:=ah uY;have hi1:=HI.out;clear uY qM B C;go_upto_block 1 with fail
  go_cut [12,14] (fun X Y G=>Qv w d p i x a b n X Y G)
  case first=>
   go_wp2_with fail
   go_loopw [12,14] (fun X Y wr=>IP w d p i x a b n X Y wr) (fun X _ _=>p.length-(intOf X).toNat)
   case atStart=>exact uM.out
   case round=>
    clear uM;obtain⟨k,u,uB,rfl,rfl,T,g,m⟩:=hrel;have D:=ah T;have hml:=EV p i k x a n;have qA:=uq (pL p i k x a n);clear T;by_cases hlt:k<p.length
    ·obtain⟨uU,yN,s,e,_,hs,F,d1⟩:=cp.two (J.out.ae m) hlt;injection e with e;injection e with e1 e2;subst e1 e2;have hslo:=t.out.lo s (cG hs);have hshi:=t.out.hi s (cG hs);have R:=ah hs;clear hs;by_cases hsb:s.1<b
     ·go_wp2_with fail;refine(rv d _ s.1 (s.2+n) wr g (by omega)).mono ?_;rw[<-mB];rintro e w9 ⟨rfl,E,W⟩;have H:Bl w.heap.size w w9:=m.trans (W.mono I);have HO9:Hid (r7 d w9 (dd (pL p i (k+1) x a n))):=by rw[Ls u R.out];exact E
      have HY:Hid (ss p (k+1)=s.2):=tZ R.out;clear E g W;go_wp2_with fail;refine⟨⟨k+1,by omega,by omega,by go_num,by rw[HY.out],?_,HO9.out,H⟩,by simp[intOf];omega⟩;rw[AR u R.out];intro z M;rcases dG.1 M with M|M
      ·exact D.out z M
      ·simp at M;subst M;exact hsb
     ·by_cases qK:b<s.1
      ·obtain⟨uU,yN,r,e,_,hr,g0,g1⟩:=cp.two (J.out.ae m) (show k-1<p.length by omega);injection e with e;injection e with e1 e2;subst e1 e2;have hw4:((k:Int)-1).toNat=k-1:=by omega
       have hw5:(1:Int)<=(k:Int):=by omega
       have HRr:Hid (ss p k=r.2):=tZ hr;clear hr;go_wp2_with fail;refine(rv d _ b r.2 wr g (by omega)).mono ?_;rw[<-mB];rintro e w9 ⟨rfl,E,W⟩;have H:Bl w.heap.size w w9:=m.trans (W.mono I);have l:Hid (AC p k b s=[(b,r.2)]):=by show _=_;rw[AC,cK qK,HRr.out]
       clear g W;go_wp2_with fail;go_meet;refine⟨k,_,u,uB,rfl,rfl,D.out,H,.inr ⟨s,R.out,by omega,?_⟩⟩;rw[l.out];exact E
      ·have l:Hid (AC p k b s=[]):=by show _=_;rw[AC,cL qK]
       go_wp2_with fail;go_meet;refine⟨k,_,u,uB,rfl,rfl,D.out,m,.inr ⟨s,R.out,by omega,?_⟩⟩;rw[l.out,fO];exact g
    ·go_wp2_with fail;go_meet;exact⟨k,_,u,uB,rfl,rfl,D.out,m,.inl ⟨by omega,rfl,g⟩⟩
  case rest=>
   obtain⟨k,f,u,uB,rfl,rfl,T,H,yO⟩:=hcut;have D:=ah T;have hml:=EV p i k x a n;clear uM T
   go_upto_if 137 with fail
   go_cut [] (fun G=>r7 d G (out p a b n)/\(out p a b n).length<=100000/\Bl w.heap.size w G)
   case first=>
    rcases yO with⟨hkl,rfl,g⟩|⟨y,hy,qI,g⟩
    ·subst hkl;have qA:=uq (pL p i p.length x a n);by_cases qJ:b<=1000000
     ·have l:=ah (JK (n:=n) t.out HX.out yZ uS uN uK uH.out u D.out);rw[cK qJ]at l;go_wp2_with fail;refine(rv d _ b _ wc g (by omega)).mono ?_;rw[<-mB,l.out];rintro e w10 ⟨rfl,uE,uL⟩;go_wp2_with fail;go_meet;exact⟨uE,by rw[<-l.out];have:=uq (pL p i p.length x a n++[(b,ss p p.length)]);simp only[cY,dV,iP]at this;omega,H.trans (uL.mono I)⟩
     ·have l:=ah (JK (n:=n) t.out HX.out yZ uS uN uK uH.out u D.out);rw[cL qJ,fO]at l;rw[l.out]at g;go_wp2_with fail;go_meet;exact⟨g,by rw[<-l.out];omega,H⟩
    ·have hklt:=(cA.1 hy).1;have l:=ah (Sx (n:=n) t.out HX.out yZ uS uN uK uH.out u hy qI D.out);have qC:((k:Int)==(p.length:Int))=false:=by rw[dQ];omega
     have uD:(k==p.length)=false:=by rw[dQ];omega
     have hI2:(k:Int)<=(p.length:Int):=by omega
     clear hy qI;go_wp2_with fail;obtain⟨q,hq⟩:∃q,q=pL p i k x a n++AC p k b y:=⟨_,rfl⟩
     have hql:q.length<=3000:=by
      rw[hq,cY]
      have:(AC p k b y).length<=1:=by
       unfold AC;split<;>simp
      omega
     rw[<-hq]at g l;rw[qC];clear hq qC uD;have HO:=ah g;clear g;obtain⟨N,hN⟩:∃N,N=p.length-k:=⟨_,rfl⟩;rw[<-hN];have hN1:k+N<=p.length:=by omega
     have hN2:p.length<=k+N:=by omega
     clear hN
     go_loopw [148] (fun X wr=>∃j:Nat,j<=N/\X=.int .i64 j/\r7 d wr (dd (q++(p.drop k).take j))/\Bl w.heap.size w wr) (fun X _=>N-(intOf X).toNat)
     case atStart=>exact⟨0,by omega,rfl,by rw[List.take_zero,fO];exact HO.out,H⟩
     case round=>
      clear HO;obtain⟨j,hj,rfl,g,m⟩:=hrel;have qA:=uq (q++(p.drop k).take j);have hdl2:(q++(p.drop k).take j).length<=5000:=by rw[cY];simp;omega
      by_cases hjl:j<N
      ·obtain⟨uU,yN,s,e,_,hs,F,d1⟩:=cp.two (J.out.ae m) (show k+j<p.length by omega);injection e with e;injection e with e1 e2;subst e1 e2;have e3:off+(k+j)*2=off+k*2+j*2:=by omega
       rw[e3]at F d1
       have HN2:Hid (q++(p.drop k).take (j+1)=q++(p.drop k).take j++[(s.1,s.2)]):=by
        show _=_;have:(p.drop k)[j]?=some s:=by rw[iO];exact hs
        rw[aM this,<-fX]
       clear hs e3;go_wp2_with fail;refine(rv d _ s.1 s.2 _ (g.ae (aA)) (by omega)).mono ?_;rw[<-mB,<-HN2.out];rintro e yW ⟨rfl,uO,yP⟩;have uJ:Bl w.heap.size w yW:=(m.alloc m.size _).trans (yP.mono I);clear g yP F d1;go_wp2_with fail;exact⟨⟨j+1,by omega,by go_num,uO,uJ⟩,by simp[intOf];omega⟩
      ·have HD:Hid (q++(p.drop k).take j=q++p.drop k):=by show _=_;rw[fG (by simp;omega)]
       rw[HD.out,l.out]at g;go_wp2_with fail;go_meet;exact⟨g,by rw[<-l.out];have:=uq (q++p.drop k);simp only[cY,List.length_drop]at this;omega,m⟩
   case rest=>
    obtain⟨⟨Z,c9,yX,E,hne9⟩,hlo,yU⟩:=hcut;have F:wc.cell? ⟨d,0,none⟩=some (.slice Z (out p a b n).length c9):=yX.cell 0;have v:=ah (eU Z _ c9 _ wc (E.et vb) (by simp[maxLen];omega));obtain⟨o,ho⟩:∃o,o=out p a b n:=⟨_,rfl⟩;rw[<-ho]at v yX E F O hlo;clear ho yO;cases hco:gW o
    ·rw[dh hco]at v;rw[hco,cK rfl]at O;clear hco;go_wp2_with fail;refine av v.out fun yW U=> ?_;go_wp2_with fail;rw[dM];go_ret2;rw[O.out];exact⟨none,0,rfl,be.nil _ _ _ _,aa yU U⟩
    ·rw[ec hco]at v;rw[hco,cL (by simp)]at O;clear hco;go_wp2_with fail;refine av v.out fun yW U=> ?_;have d1:yW.cell? ⟨d,0,none⟩=some (.slice Z o.length c9):=(yX.ae U yX.lt).cell 0;go_wp2_with fail;rw[dM];go_ret2;rw[O.out];exact⟨Z,c9,rfl,(E.mono (by omega)).ae U,aa yU U⟩
set_option maxRecDepth 512

set_option maxRecDepth 100000
theorem Cu(A:OA)(m c:Nat)(p:List bC)(a b n:Int)(w:Wd)(h:Steps w A m p)(y:m<=maxLen)(v:m<=c)(hA:A=none->c=0):
 Cs prog 293 #[.slice A m c,a,b,n] w (Cl (add p a b n) w):=by
 have x:=h.cb;subst x;have f:=ah (eU A p.length c p w h y);have d:=GZ a;have i:=en n;cases hck:gW p
 ·rw[dh hck]at f;have g:Hid (add p a b n=([],100)):=by show _=_;rw[add,cK hck]
  clear hck h d i;go_in;go_wp2;go_step3;go_wp2_with fail;refine av f fun k b1=> ?_;go_wp2_with fail;rw[dM];go_ret2;rw[g.out];exact⟨none,0,rfl,be.nil _ _ _ _,b1⟩
 ·have F:=Nx hck;cases ht:eE a
  ·rw[ec hck]at f;rw[ht]at d
   have g:Hid (add p a b n=([],2)):=by
    show _=_;have:um a b n=false:=by simp only[eE]at ht;simp only[um,ht,nI]
    rw[add,cL (by simp[hck]),cK this]
   have j:=ah d;clear hck ht h d i;go_in;go_wp2;go_step3;go_wp2_with fail;refine av f fun k b1=> ?_;go_wp2_with fail;refine(j _).mono ?_;rintro e l ⟨rfl,rfl⟩;go_wp2_with fail;rw[dM];go_ret2;rw[g.out];exact⟨none,0,rfl,be.nil _ _ _ _,b1⟩
  ·by_cases J:b<a
   ·rw[ec hck]at f;rw[ht]at d
    have g:Hid (add p a b n=([],2)):=by
     show _=_
     have:um a b n=false:=by
      have:=dF (a<=b) (by omega);simp only[um,this,nI,rS]
     rw[add,cL (by simp[hck]),cK this]
    have j:=ah d;clear hck ht h d i;go_in;go_wp2;go_step3;go_wp2_with fail;refine av f fun k b1=> ?_;go_wp2_with fail;refine(j _).mono ?_;rintro e l ⟨rfl,rfl⟩;go_wp2_with fail;rw[dM];go_ret2;rw[g.out];exact⟨none,0,rfl,be.nil _ _ _ _,b1⟩
   ·cases hf:eB n
    ·rw[ec hck]at f;rw[ht]at d;rw[hf]at i
     have g:Hid (add p a b n=([],2)):=by
      show _=_;have:um a b n=false:=by simp only[eB]at hf;simp only[um,Bool.and_assoc,hf,rS]
      rw[add,cL (by simp[hck]),cK this]
     have j:=ah d;have q:=ah i;clear hck ht h d i hf;go_in;go_wp2;go_step3;go_wp2_with fail;refine av f fun k b1=> ?_;go_wp2_with fail;refine(j _).mono ?_;rintro e l ⟨rfl,rfl⟩;go_wp2_with fail;refine(q _).mono ?_;rintro e l ⟨rfl,rfl⟩;go_wp2_with fail;rw[dM];go_ret2;rw[g.out];exact⟨none,0,rfl,be.nil _ _ _ _,b1⟩
    ·by_cases z:a<b
     ·exact M8 A c p a b n w h v hck ht z hf
     ·have o:b=a:=by omega
      have hC:=es hck;have B:0<=a:=by simp[eE]at ht;exact ht.1
      have I:a<=1000000:=by simp[eE]at ht;exact ht.2
      have g:Hid (add p a b n=(p,0)):=by
       show _=_;obtain⟨G,H⟩:=Ep.1 hf;have h1:um a b n=true:=by simp[um];omega
       have h2:out p a b n=p:=by rw[o];exact Ps hC B (by unfold End;omega)
       rw[add,cL (by simp[hck]),cL (by simp[h1]),h2,cL (by simp[hck])]
      rw[ec hck]at f;rw[ht]at d;rw[hf]at i;have D:(b==a)=true:=by simp[o]
      have j:=ah d;have q:=ah i;have t:=ah h;have s:=ah hA;clear hck ht h d i hf o hC hA;go_in;go_wp2;go_step3;go_wp2_with fail;refine av f fun k b1=> ?_;go_wp2_with fail;refine(j _).mono ?_;rintro e l ⟨rfl,rfl⟩;go_wp2_with fail;refine(q _).mono ?_;rintro e l ⟨rfl,rfl⟩;go_wp2_with fail;refine(Kz A p.length c p k (t.ae b1) (by omega) s).mono ?_;rintro e E ⟨r,u,rfl,C,b3⟩;go_wp2_with fail;rw[dM];go_ret2;rw[g.out];exact⟨r,u,rfl,C.mono b1.size,aa b1 b3⟩
set_option maxRecDepth 512
theorem OS(r:Int)(A:OA)(n c:Nat)(p:List bC)(a b:Int)(w:Wd)(h:Steps w A n p)(hn:n<=maxLen)(d:ku p a b=r):
 Cs prog 268 #[.slice A n c,a,b] w (MQ r w):=by rw[<-d];exact Lg A n c p a b w h hn
theorem Nv(r:Int)(A:OA)(n c:Nat)(p:List bC)(w:Wd)(h:Steps w A n p)(hn:n<=maxLen)(a:jM p=r):
 Cs prog 363 #[.slice A n c] w (MQ r w):=by rw[<-a];exact eU A n c p w h hn
open Go renaming TypeId->Ti
def vL(b:Bk):List Vl:=[b.id,b.fr,b.to,b.nd]
abbrev Mo:=cp vL 4
theorem sS:wU vL 4:=⟨fun _=>rfl,fun x u a=>by simp[vL]at a;rcases a with rfl|rfl|rfl|rfl<;>rfl,by omega⟩
abbrev r6:=be vL 4
variable{l:List Bk}
theorem cp.four(h:Mo w A n l)(hi:i<n):∃b off s,A=some ⟨b,off,none⟩/\b<w/\l[i]?=some s/\w.cell? ⟨b,off+i*4,none⟩=some (s.id:Vl)/\w.cell? ⟨b,off+i*4+1,none⟩=some (s.fr:Vl)/\w.cell? ⟨b,off+i*4+2,none⟩=some (s.to:Vl)/\w.cell? ⟨b,off+i*4+3,none⟩=some (s.nd:Vl):=by
 obtain⟨b,off,s,hA,c,hs,a⟩:=h.at_ hi;exact⟨b,off,s,hA,c,hs,a 0 _ rfl,a 1 _ rfl,a 2 _ rfl,a 3 _ rfl⟩
theorem Oi{b:Bk}(h:¬(1<=b.id/\b.id<=99999/\0<=b.fr/\b.fr<b.to/\b.to<=1000000/\1<=b.nd/\b.nd<=48)):mD b=false:=by
 cases hb:mD b
 ·rfl
 ·exact absurd (En.1 hb) h
theorem GR(b:Bk):b.id<1\/(1<=b.id/\99999<b.id)\/(1<=b.id/\b.id<=99999/\b.fr<0)\/(1<=b.id/\b.id<=99999/\0<=b.fr/\b.to<=b.fr)\/(1<=b.id/\b.id<=99999/\0<=b.fr/\b.fr<b.to/\1000000<b.to)\/
 (1<=b.id/\b.id<=99999/\0<=b.fr/\b.fr<b.to/\b.to<=1000000/\b.nd<1)\/(1<=b.id/\b.id<=99999/\0<=b.fr/\b.fr<b.to/\b.to<=1000000/\1<=b.nd/\48<b.nd)\/(1<=b.id/\b.id<=99999/\0<=b.fr/\b.fr<b.to/\b.to<=1000000/\1<=b.nd/\b.nd<=48):=by omega
theorem Oh(b:Bk)(w:Wd):Cs prog 111 #[.agg #[b.id,b.fr,b.to,b.nd]] w (MQ (mD b:Bool) w):=by
 rcases GR b with h1|⟨h1,h2⟩|⟨h1,h2,a⟩|⟨h1,h2,a,c⟩|⟨h1,h2,a,c,d⟩|⟨h1,h2,a,c,d,f⟩|⟨h1,h2,a,c,d,f,g⟩|⟨h1,h2,a,c,d,f,g⟩
 case inr.inr.inr.inr.inr.inr.inr=>
  have e:=ah (En.2 ⟨h1,h2,a,c,d,f,g⟩);go_in;go_wp2;go_ret;exact⟨ar (by rw[e.out];try simp<;>omega),aA⟩
 all_goals
  have e:=ah (Oi (b:=b) (by omega));go_in;go_wp2;go_ret;exact⟨ar (by rw[e.out];try simp<;>omega),aA⟩
theorem T4{g:Nat}{t:Ti}{a b c d:Vl}(h:ai w g t #[a,b,c,d]):w.cell? g=some a/\w.cell? ⟨g,1,none⟩=some b/\w.cell? ⟨g,2,none⟩=some c/\w.cell? ⟨g,3,none⟩=some d:=⟨h.cell 0,h.cell 1,h.cell 2,h.cell 3⟩
open Go renaming Addr->Ad
def IV(g:FuncId)(B:Ad)(q:Bk->Bool)(base:Nat)(a:Wd):Prop:=∀(x:Bk) (W:Wd),Bl base a W->Cs prog g #[.agg #[x.id,x.fr,x.to,x.nd],.pointer (some B)] W (MQ (q x:Bool) W)
def OC(q:Bk->Bool)(l:List Bk):Int:=if l.any q then(l.findIdx q:Int)else -1
variable{q:Bk->Bool}
theorem EC(h:∀x∈l,q x=false):OC q l= -1:=by
 have:l.any q=false:=by rw[iF];intro x hx;rw[h x hx];simp
 simp[OC,this]
theorem OD{s:Bk}(h:∀x∈l.take k,q x=false)(hs:l[k]?=some s)(b:q s=true):OC q l=(k:Int):=by
 obtain⟨a,rfl⟩:=cA.1 hs;have c:l.any q=true:=iZ.2 ⟨_,iH a,b⟩
 have:l.findIdx q=k:=by
  rw[oH a];refine⟨b,fun j d=> ?_⟩;have:=h l[j] (by rw[dO];exact⟨j,by omega,rfl⟩);exact this
 simp[OC,c,this]
def TM(w:Wd)(q:Bk->Bool)(l:List Bk)(i:Vl)(wr:Wd):Prop:=∃k:Nat,k<=l.length/\i=.int .i64 k/\(∀x∈l.take k,q x=false)/\Bl w w wr
theorem K5(g:FuncId)(B:Ad)(q:Bk->Bool)(base:Nat)(f:Wd)(H:∀args w,(callFunc g args).run prog w=.ok (.enter g args) w)(o:IV g B q base f)(y:base<=f)
 (A:OA)(n c:Nat)(l:List Bk)(w:Wd)(hw:Bl base f w)(h:Mo w A n l)(hn:n<=maxLen):
 Cs prog 374 #[.slice A n c,.func (.func g) #[] #[.pointer (some B)]] w (MQ (OC q l:Int) w):=by
 unfold maxLen at hn;have z:=h.cb;subst z;have t:=ah h;have r:=ah o;clear h o;go_in;go_wp2
 go_loopw [8] (fun i wr=>TM w q l i wr) (fun i _=>l.length-(intOf i).toNat)
 case atStart=>exact⟨0,by omega,rfl,by simp,cC _ _⟩
 case round=>
  obtain⟨k,J,rfl,p,a⟩:=hrel;have j:=ah p;clear p;by_cases C:k<l.length
  ·obtain⟨b,off,s,rfl,I,hs,D,E,F,G⟩:=cp.four (t.ae a) C;have m:=ah hs;have d:=ah (r s wr (hw.trans (a.mono (cF y hw.size))));clear hs;cases hq:q s
   ·rw[hq]at d;have u:=ah (eP (P:=fun x=>q x=false) j m hq);clear hq;go_wp2_with fail;refine av d fun v b2=> ?_;go_wp2_with fail;exact⟨⟨k+1,by omega,by go_num,u,aa a b2⟩,by simp[intOf];omega⟩
   ·rw[hq]at d;have e:=ah (OD j m hq);clear hq;go_wp2_with fail;refine av d fun v b2=> ?_;go_wp2;go_ret;exact⟨ax e.symm,aa a b2⟩
  ·obtain rfl:k=l.length:=by omega
   have e:=ah (EC (q:=q) (l:=l) (by have:=j.out;rwa [cT]at this));go_wp2;go_ret;exact⟨ax e.symm,a⟩
theorem DV:(prog.info? 58).map (fun i=>(i.zero,i.size,i.bytes))=some (some (.agg #[(),(),(),()]),4,32):=by kernel_rfl
def TN(l:List Bk)(w:Wd)(e:Ed)(w':Wd):Prop:=∃A c,e=.returned (.slice A l.length c)/\r6 w' w A l.length c l/\Bl w w w'
theorem Gw(A:OA)(n c:Nat)(p:List Bk)(w:Wd)(h:Mo w A n p)(hn:n<=1000000)(hA:A=none->c=0):
 Cs prog 279 #[.slice A n c] w (TN p w):=by
 have o:=h.cb;subst o
 cases A with
 |none=>
  have q:p=[]:=by
   cases p with
   |nil=>rfl
   |cons x r=>obtain⟨b,off,_,e,_⟩:=h.at_ (i:=0) (by simp);cases e
  subst q;obtain rfl:=hA rfl;clear h hA hn;have g:=fun(w:Wd)=>Lib.run_eql_slice_nil (P:=prog) w 25 58 none 0 0 0 0 underlying25;go_in;go_wp2;go_ret;exact⟨none,0,rfl,be.nil _ _ _ _,cC _ _⟩
 |some a=>
  obtain⟨k,m,t,d,j,f,_,_⟩:=dy sS (P:=prog) (w.alloc (.cells #[] 58)) w 25 25 58 _ 32 underlying25 DV rfl w 0 0 [] (be.none _ _ _ _ _) (some a) p.length c p (h.ae (aA)) (by simp[maxLen];omega) (by omega) (by simp);simp only[cR,dH]at d j;have l:=ah d;have s:=((cC w w).alloc lr (.cells #[] 58)).trans f;clear d f h;have g:=fun(w:Wd)=>Lib.run_eql_slice_nil (P:=prog) w 25 58 (some a) p.length c 0 0 underlying25;simp only[iV]at g;go_in;go_wp2_with(at_builtin;refine au rfl _ _ rfl rfl rfl l ?_);go_ret;exact⟨k,m,rfl,j,s⟩
set_option maxRecDepth 100000
def IM(base:Nat)(A:OA)(c:Nat)(l:List Bk)(w:Wd)(e:Ed)(w':Wd):Prop:=e=.returned (.slice A l.length c)/\r6 w' base A l.length c l/\Bl base w w'
def TG(base:Nat)(A:OA)(c:Nat)(q:Bk->Bool)(l:List Bk)(w:Wd)(i j:Vl)(wr:Wd):Prop:=
 ∃a b:Nat,a<b/\b<=l.length/\i=.int .i64 a/\j=.int .i64 b/\∃d:List Bk,d.take a=(l.take b).filter (fun x=> !q x)/\d.drop b=l.drop b/\r6 wr base A l.length c d/\Bl base w wr
theorem qa{b:Nat}{s:Bk}(h:l[b]?=some s)(a:q s=true):(l.take (b+1)).filter (fun x=> !q x)=(l.take b).filter (fun x=> !q x):=by
 rw[aM h,iB];simp[a]
theorem wM{b:Nat}{s:Bk}(h:l[b]?=some s)(a:q s=false):(l.take (b+1)).filter (fun x=> !q x)=(l.take b).filter (fun x=> !q x)++[s]:=by
 rw[aM h,iB];simp[a]
theorem KF{s:Bk}(h:∀x∈l.take k,q x=false)(hs:l[k]?=some s)(a:q s=true):l.take k=(l.take (k+1)).filter (fun x=> !q x):=by
 rw[qa hs a,eq_comm,lQ];intro x hx;rw[h x hx];rfl
theorem NV{c:List Bk}{a b:Nat}{s:Bk}(g:c.length=l.length)(h:a<b)(h1:c.take a=(l.take b).filter (fun x=> !q x))(h2:c.drop b=l.drop b)(hs:l[b]?=some s)(d:q s=false):
 (c.set a s).take (a+1)=(l.take (b+1)).filter (fun x=> !q x)/\(c.set a s).drop (b+1)=l.drop (b+1):=by
 have f:=(cA.1 hs).1;constructor
 ·rw[wM hs d,<-h1,aM (x:=s) (by rw[fH (by omega)]),List.take_set_of_le (by omega)]
 ·have e:(l.drop b).drop 1=l.drop (b+1):=by rw[nG]
  rw[<-e,<-h2,nG,List.drop_set_of_lt (by omega)]
theorem NW{c:List Bk}{a b:Nat}{s:Bk}(h1:c.take a=(l.take b).filter (fun x=> !q x))(h2:c.drop b=l.drop b)(hs:l[b]?=some s)(d:q s=true):
 c.take a=(l.take (b+1)).filter (fun x=> !q x)/\c.drop (b+1)=l.drop (b+1):=by
 refine⟨by rw[qa hs d];exact h1,?_⟩;have e:(l.drop b).drop 1=l.drop (b+1):=by rw[nG]
 rw[<-e,<-h2,nG]
theorem QR{a:List Bk}{b:Nat}(h:a.drop b=l.drop b):a[b]?=l[b]?:=by
 have:=cO (fun m=>m[0]?) h;simpa using this
theorem K4(h:l.any q=true):∃(k:Nat) (s:Bk),(∀x∈l.take k,q x=false)/\l[k]?=some s/\q s=true:=by
 have a:l.findIdx q<l.length:=List.findIdx_lt_length.2 (by simpa using h);refine⟨l.findIdx q,l[l.findIdx q],fun x hx=> ?_,cE a,List.findIdx_getElem⟩;obtain⟨j,b,rfl⟩:=dO.1 hx;exact List.not_of_lt_findIdx (by omega)
theorem Nr(w:Wd):(zeroValue 58).run prog w=.ok (.agg #[(),(),(),()]) w:=by kernel_rfl
theorem Pu{base g c:Nat}(h:r6 w base g n c l)(hi:i<n):∃s,l[i]?=some s/\w.cell? ⟨g,i*4,none⟩=some (s.id:Vl)/\w.cell? ⟨g,i*4+1,none⟩=some (s.fr:Vl)/\w.cell? ⟨g,i*4+2,none⟩=some (s.to:Vl)/\w.cell? ⟨g,i*4+3,none⟩=some (s.nd:Vl)/\
 w.frozen? ⟨g,i*4,none⟩=false/\w.frozen? ⟨g,i*4+1,none⟩=false/\w.frozen? ⟨g,i*4+2,none⟩=false/\w.frozen? ⟨g,i*4+3,none⟩=false:=by
 obtain⟨j,k,s,a,m,hs,b,d,e,f⟩:=cp.four (h.et sS) hi;injection a with a;injection a with e1 e2;subst e1 e2;rw[cR]at b d e f;have o:=h.2.le;obtain⟨j,a,_,_,_,h2⟩:=h.2.room (by omega);injection a with a;injection a with e1 e2;subst e1;exact⟨s,hs,b,d,e,f,(h2 _ (by omega)).2,(h2 _ (by omega)).2,(h2 _ (by omega)).2,(h2 _ (by omega)).2⟩
theorem GI(g:FuncId)(B:Ad)(q:Bk->Bool)(base:Nat)(t:Wd)(eg:∀args w,(callFunc g args).run prog w=.ok (.enter g args) w)(z:IV g B q base t)(yE:base<=t)
 (A:OA)(n c:Nat)(l:List Bk)(w:Wd)(hw:Bl base t w)(h:r6 w base A n c l)(hn:n<=1000000):
 Cs prog 278 #[.slice A n c,.func (.func g) #[] #[.pointer (some B)]] w (IM base A c (l.filter (fun x=> !q x)) w):=by
 have yQ:=h.1;subst yQ;have yU:l.length<=maxLen:=by simp[maxLen];omega
 have E:=ah (K5 g B q base t eg z yE A l.length c l w hw (h.et sS) yU);have X:base<=w:=cF yE hw.size;cases hany:l.any q
 ·have yV:∀x∈l,q x=false:=fun x hx=>by
   have:=iF.1 hany x hx;simpa using this
  rw[EC yV]at E
  have p:Hid (l.filter (fun x=> !q x)=l):=by
   show _=_;rw[lQ];intro x hx;rw[yV x hx];rfl
  have H:=ah h;clear hany yV z h;go_in;go_wp2_with fail;refine av E fun w1 b1=> ?_;go_wp2;go_ret;rw[p.out];exact⟨rfl,H.ae b1,b1.mono X⟩
 ·obtain⟨k,s,O,hs,d⟩:=K4 hany;rw[OD O hs d]at E;have uN:=(cA.1 hs).1;have uE:=ah (KF O hs d);have H:=ah h;have HC:=ah z;have uI:=h.2.le;have uD:=h.2.max;unfold maxLen at uD;obtain⟨m,rfl,yX,uM,_,_⟩:=h.2.room (by omega);have uK:((k:Int)== -1)=false:=by simp
  clear hany O hs d z h;go_in;go_wp2_with fail;refine av E fun w1 b1=> ?_;go_wp2
  go_loopw [5,6] (fun i j wr=>TG base m c q l w i j wr) (fun _ j _=>l.length-(intOf j).toNat)
  case atStart=>exact⟨k,k+1,by omega,by omega,rfl,by go_num,l,uE,rfl,H.ae b1,b1.mono X⟩
  case round=>
   obtain⟨a,b,uJ,uL,rfl,rfl,yW,h1,h2,S,R⟩:=hrel;have F:=ah h1;have G:=ah h2;have r:=ah S;have yK:=ah S.1;clear h1 h2 S;by_cases uH:b<l.length
   ·obtain⟨g',uG,s',e,uB,W,I,J,K,L⟩:=cp.four (r.et sS) uH;injection e with e;injection e with e1 e2;subst e1 e2;rw[cR]at I J K L;rw[QR G.out]at W;have HS:=ah W;clear W;go_wp2_with fail;obtain⟨V,y⟩:=nm (wr.alloc (.cells #[s'.id,s'.fr,s'.to,s'.nd] 58));rw[<-y];have o:Bl wr wr V:=y▸aA;have kV:ai V wr 58 #[s'.id,s'.fr,s'.to,s'.nd]:=y▸ai.new _ _ _;have U:base<=wr:=cF X R.size;have Z:=R.trans (o.mono U);have C:=ah (HC s' V (hw.trans Z));clear y I J K L;cases d:q s'
    ·rw[d]at C;refine av C fun w2 b2=> ?_;have Y:=(r.ae o).ae b2;have uC:=Z.trans (b2.mono (cF U o.size));have k2:=kV.ae b2 kV.lt;obtain⟨x0,x1,x2,x3⟩:=T4 k2;obtain⟨sa,_,I,J,K,L,f0,f1,f2,f3⟩:=Pu Y (show a<l.length by omega);have yF:=ah (NV yK uJ F G HS d);have D:=ah (i0 sS Y a (show a<l.length by omega) s');have yO:m≠wr:=Nat.ne_of_lt uB;have yZ:wr≠m:=sC yO;clear d Y k2;go_wp2_with fail;exact⟨⟨a+1,b+1,by omega,by omega,by go_num,by go_num,yW.set a s',yF.1,yF.2,D,bP uC yX (vL s') (a*4)⟩,by simp[intOf];omega⟩
    ·rw[d]at C;refine av C fun w2 b2=> ?_;have yY:=ah (NW F G HS d);clear d;go_wp2_with fail;exact⟨⟨a,b+1,by omega,by omega,rfl,by go_num,yW,yY.1,yY.2,(r.ae o).ae b2,Z.trans (b2.mono (cF U o.size))⟩,by simp[intOf];omega⟩
   ·obtain rfl:b=l.length:=by omega
    have p:Hid (yW.take a=l.filter (fun x=> !q x)):=by
     show _=_;rw[F.out,cT]
    have M:=r.out;obtain⟨g',e,_,_,_,Q⟩:=M.2.room (by omega);injection e with e
    injection e with e1 e2;subst e1;have f:(Builtin.zeroCells (Value.agg #[(),(),(),()]).cells (l.length-a)).size=(l.length-a)*4:=by rw[oM];rfl
    have uA:∀P,(Builtin.clear_ #[25] P #[.slice (some ⟨m,a*4,none⟩) (l.length-a) (c-a)]).run prog wr=.ok (.tuple #[]) (wr.setCells m (a*4) (Builtin.zeroCells (Value.agg #[(),(),(),()]).cells (l.length-a)).toList):=fun P=>
     iz wr 25 58 P _ underlying25 Nr m (a*4) (l.length-a) (c-a) (by omega) (fun v hv=>iu hv (by intro u hu;simp[Value.cells]at hu;subst hu;rfl)) (fun j N=>(Q _ (by rw[f]at N;omega)).1) (fun j N=>(Q _ (by rw[f]at N;omega)).2)
    have D:=ah (rX sS M a (show a<=l.length by omega) (Builtin.zeroCells (Value.agg #[(),(),(),()]).cells (l.length-a)).toList (by rw[oC,f]))
    have uF:Hid ((l.filter (fun x=> !q x)).length=a):=by
     show _=_;rw[<-p.out,fD,yK.out];omega
    clear M Q f;obtain⟨zs,f⟩:=nm ((Builtin.zeroCells (Value.agg #[(),(),(),()]).cells (l.length-a)).toList);rw[<-f]at uA D;clear f;have T:=D.out;rw[p.out]at T;have yM:=ah T;clear T;go_wp2;go_ret;unfold IM;rw[uF.out];exact⟨rfl,yM,bP R yX zs (a*4)⟩
theorem FU(g:FuncId)(B:Ad)(q:Bk->Bool)(d:∀args w,(callFunc g args).run prog w=.ok (.enter g args) w)
 (A:OA)(n c:Nat)(l:List Bk)(w:Wd)(f:IV g B q w w)(h:Mo w A n l)(hn:n<=1000000)(hA:A=none->c=0):
 Cs prog 165 #[.slice A n c,.func (.func g) #[] #[.pointer (some B)]] w (TN (l.filter (fun x=> !q x)) w):=by
 have r:=h.cb;subst r;have s:=ah (Gw A l.length c l w h hn hA);have j:=ah f;have m:=ah d;clear h f hA d;go_in;go_wp2_with fail;refine s.out.mono ?_;rintro e p ⟨a,b,rfl,i,b1⟩;have k:=ah (GI g B q w w m j lr a l.length b l p b1 i hn);clear i;go_wp2_with fail;refine k.out.mono ?_;rintro e t ⟨rfl,o,b2⟩;go_wp2;go_ret;exact⟨a,b,rfl,o,b1.trans b2⟩
end Go.Proofs.YthfhilggbbobmaaGreatDoor
