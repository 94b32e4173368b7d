/- Parts of the proof. -/
import Derived.Test.YthfhilggbbobmaaGreatDoorK6
import Derived.Test.YthfhilggbbobmaaGreatDoorK27
import Derived.Test.YthfhilggbbobmaaGreatDoorK28
set_option linter.all false
set_option maxHeartbeats 20000000
namespace Go.Proofs.YthfhilggbbobmaaGreatDoor
open Go.Proofs.Tryz
open Go renaming World->Wd,Value->Vl,Ending->Ed,Calls->Cs
open Go.RowKit renaming Below->Bl
open Go.RowKit
def AP(b h:Nat)(w:Wd)(r:Jr):Prop:=∀W,w.heap.size<=W.heap.size->(∀c,b<=c->c<w.heap.size->c≠h->c≠h+1->W.heap[c]?=w.heap[c]?)->eF W r
variable{b h g:Nat}{w:Wd}{r:Jr}
theorem AP.on{w':Wd}(f:AP b h w r)(k:aU g w w')(j:g<b\/g=h\/g=h+1):AP b h w' r:=fun W h1 h2=>f W (cF k.size h1) fun c d a e i=>(h2 c d (cD a k.size) e i).trans (k.same c a (by omega))
theorem AP.ae{w':Wd}(f:AP b h w r)(k:Bl w.heap.size w w'):AP b h w' r:=fun W h1 h2=>f W (cF k.size h1) fun c d a e g=>(h2 c d (cD a k.size) e g).trans (k.block c a)
theorem AP.am{w:World}(f:AP b h w r):eF w r:=f w lr fun _ _ _ _ _=>rfl
variable{base:Nat}
theorem AP.own{w:World}(f:jk w base r)(e:b<=base)(g:h+1<base):AP b h w r:=fun W h1 h2=>(f.hi h1 fun c d a=>h2 c (by omega) a (by omega) (by omega)).mE
theorem AP.old{a:Wd}(f:jk a b r)(d:Bl a.heap.size a w)(i:a.heap.size<=h):AP b h w r:=fun W h1 h2=>(f.hi (cF d.size h1) fun c g e=>(h2 c g (cD e d.size) (by omega) (by omega)).trans (d.block c e)).mE
structure F0(w:Wd)(x:Sr)(b0 b1 b2 b3 b4 b5:Nat)(k:Nat)(l2:List Jr)(L:Sl)(bK:List Us)(wr:Wd):Prop where
 box:ai wr w 28 (aY {x with L:=L})
 res:ai wr (w+1) 28 dz
 du:Bl b0 w wr
 U0:w.heap.size+2<=wr
 ag:mK wr b0 x.N.A x.N.n x.N.c x.s.ag
 aj:gB wr b1 x.J.A x.J.n x.J.c l2
 nest:∀r∈l2,AP b5 w wr r
 bx:r8 wr b2 x.R.A x.R.n x.R.c x.s.bx
 aZ:r6 wr b3 x.B.A x.B.n x.B.c x.s.aZ
 Tz:mL wr b4 L.A L.n L.c bK
 lx:0<L.c->L.A≠some ⟨w.heap.size+1,0,none⟩
 ok:fm bK=true
 same:l2.map Jr.j=(x.s.aj.take k).map ez++x.s.aj.drop k
variable{x:Sr}{b1 b2 b3 b4 b5 k:Nat}{L:Sl}{bK:List Us}{wr W:Wd}
theorem F0.ae{c:List Jr}(h:F0 w x b b1 b2 b3 b4 b5 k c L bK wr)(a:Bl wr wr W)(d:b<=wr):F0 w x b b1 b2 b3 b4 b5 k c L bK W:=
 ⟨h.box.ae a h.box.lt,h.res.ae a h.res.lt,h.du.trans (a.mono d),cF h.U0 a.size,h.ag.ae a,h.aj.ae a,fun r e=>(h.nest r e).ae a,h.bx.ae a,h.aZ.ae a,h.Tz.ae a,h.lx,h.ok,h.same⟩
theorem F0.next{a:List Jr}(h:F0 w x b b1 b2 b3 b4 b5 k a L bK wr)(c:a.map Jr.j=(x.s.aj.take (k+1)).map ez++x.s.aj.drop (k+1)):F0 w x b b1 b2 b3 b4 b5 (k+1) a L bK wr:=
 ⟨h.box,h.res,h.du,h.U0,h.ag,h.aj,h.nest,h.bx,h.aZ,h.Tz,h.lx,h.ok,c⟩
variable{s:Jr}
theorem F0.put{q:Wd}{d:Nat}{b:List Jr}(h:F0 w x d b1 b2 b3 b4 b5 k b L bK wr)(a:Co q d b1 b2 b3 b4 b5 x)(C:b5<=w)(o:k<x.J.n)(hA:x.J.A=some ⟨g,0,none⟩)(l:b1<=g)(hs:AP b5 w wr s):
 ∀X,X=wr.setCells g (k*20) (bk s).toList->gB X b1 x.J.A x.J.n x.J.c (b.set k s)/\(∀m,(b.set k s).map Jr.j=(x.s.aj.take m).map ez++x.s.aj.drop m->F0 w x d b1 b2 b3 b4 b5 m (b.set k s) L bK X):=by
 intro X e;have B:g<b2:=a.hJ (by have:=h.aj.2.le;omega) g hA;have t:=a.u1;have u:=a.u2;have v:=a.u3;have y:=a.u4;have z:=a.u5;have on:aU g wr X:=e▸aU.pM _ _ _
 have i:gB X b1 x.J.A x.J.n x.J.c (b.set k s):=by
  have:=h.aj;rw[hA]at this⊢;rw[e];exact i0 ek this k o s
 refine⟨i,fun m p=>⟨(on.same _ h.box.lt (by omega)).trans h.box,(on.same _ h.res.lt (by omega)).trans h.res,?_,cF h.U0 on.size,ed on h.ag a.hN l,i,fun r f=> ?_,aV on h.bx (by omega),aV on h.aZ (by omega),aV on h.Tz (by omega),h.lx,h.ok,p⟩⟩
 ·rw[e];exact bP h.du (by omega) _ _
 ·rcases fP f with f|rfl
  ·exact(h.nest r f).on on (.inl (by omega))
  ·exact hs.on on (.inl (by omega))
theorem F0.lay{z:Wd}{i:List Jr}{L':Sl}{d:List Us}(h:F0 w x b b1 b2 b3 b4 b5 k i L bK wr)(a:Co z b b1 b2 b3 b4 b5 x)(I:b5<=w)(g:mL wr (w+2) L'.A L'.n L'.c d)(s:fm d=true):
 F0 w x b b1 b2 b3 b4 b5 k i L' d (wr.setCell ⟨w,5,none⟩ L'.v):=by
 have D:=a.u1;have E:=a.u2;have F:=a.u3;have G:=a.u4;have H:=a.u5;have on:aU w wr (wr.setCell ⟨w,5,none⟩ L'.v):=aU.set _ _ _;have off:∀{α:Type} {f:α->List Vl} {q base hi:Nat} {A:OA} {n c:Nat} {l:List α},be f q wr base A n c l->eK A c hi->hi<=w->be f q (wr.setCell ⟨w,5,none⟩ L'.v) base A n c l:=fun m y t=>ed on m y t;refine⟨h.box.set 5 _,(on.same _ h.res.lt (by omega)).trans h.res,h.du.setCell (p:=⟨w,5,none⟩) (by show b<=w;omega) _,cF h.U0 on.size,off h.ag a.hN (by omega),off h.aj a.hJ (by omega),fun r u=>(h.nest r u).on on (.inr (.inl rfl)),off h.bx a.hR (by omega),off h.aZ a.hB (by omega),aS (aV on g (by omega)) (by omega),fun o e=> ?_,s,h.same⟩;obtain⟨C,j,J,-⟩:=g.2.room o;rw[e]at j;have B:=aI j;omega
theorem A0{aj:List Jb}{a:List Jr}(h:a.map Jr.j=(aj.take k).map ez++aj.drop k)(hs:a[k]?=some s)(c:k<aj.length):aj[k]?=some s.j:=by
 have:=cO (fun l=>l[k]?) h;simp only[dD,hs,fI]at this;have b:((aj.take k).map ez).length=k:=by simp;omega
 rw[dU (by omega),b,oB,iO,fU]at this;exact this.symm
theorem vP{aj:List Jb}{b:List Jr}{s':Jr}(h:b.map Jr.j=(aj.take k).map ez++aj.drop k)(hs:b[k]?=some s)(a:k<aj.length)(d:s'.j=ez s.j):
 (b.set k s').map Jr.j=(aj.take (k+1)).map ez++aj.drop (k+1):=by
 have hx:=A0 h hs a;obtain⟨e,c⟩:=cA.1 hx;rw[List.map_set,h,d,fF a,lA,dR a,c,nW _ _ (by simp;omega)];have:min k aj.length=k:=by omega
 simp[this,c]
theorem D1{aj:List Jb}{a:List Jr}(h:a.map Jr.j=(aj.take k).map ez++aj.drop k)(hs:a[k]?=some s)(d:k<aj.length)(b:ez s.j=s.j):
 a.map Jr.j=(aj.take (k+1)).map ez++aj.drop (k+1):=by
 have:=vP (s':=s) h hs d b.symm
 have e:a.set k s=a:=by
  apply nY;intro i;rw[lX];split
  ·rename_i c;subst c;split
   ·exact hs.symm
   ·rename_i h1;rw[dP (by omega)]
  ·rfl
 rwa [e]at this
def DH(x:Sr)(b:Nat)(w:Wd)(e:Ed)(w':Wd):Prop:=∃z bK,e=.returned (.agg (aY z))/\gV b w' z/\z.s={x.s with aj:=x.s.aj.map ez,bK:=bK}/\fm bK=true/\Bl b w w'
theorem F0.fin{w C:World}{o:List Jr}{wr:World}(h:F0 w x g b1 b2 b3 b4 b5 x.J.n o L bK wr)(a:Co C g b1 b2 b3 b4 b5 x)(z:b5<=w.heap.size)(F:x.s.aj.length=x.J.n):
 DH x g w (.returned (.agg (aY {x with L:=L}))) (wr.setRow (w.heap.size+1) (aY {x with L:=L})):=by
 have G:=a.u1;have H:=a.u2;have I:=a.u3;have K:=a.u4;have M:=a.u5;have on:aU (w.heap.size+1) wr (wr.setRow (w.heap.size+1) (aY {x with L:=L})):=⟨by rw[setRow_size];exact Nat.le_refl _,fun b _ p=>setRow_other wr _ _ b p⟩;refine⟨⟨{x.s with aj:=x.s.aj.map ez,bK:=bK},o,x.N,x.J,x.R,x.B,L⟩,bK,rfl,?_,rfl,h.ok,aH h.du (by omega) _⟩;intro W h1 h2;have k:wr.heap.size<=W.heap.size:=Nat.le_trans on.size h1;have up:∀{α:Type} {f:α->List Value} {q base:Nat} {A:Option Addr} {n c:Nat} {l:List α},be f q (wr.setRow (w.heap.size+1) (aY {x with L:=L})) base A n c l->g<=base->be f q W base A n c l:=fun m p=>bS m h1 fun c t=>h2 c (by omega);have hn:=up (ed on h.ag a.hN (by omega)) (by omega);have e:=up (ed on h.aj a.hJ (by omega)) (by omega);have i:=up (ed on h.bx a.hR (by omega)) (by omega);have d:=up (ed on h.aZ a.hB (by omega)) (by omega);have u:=up (mj on h.Tz h.lx) (by omega);refine⟨hn.et mb,⟨e.et ek,fun r i=> ?_⟩,?_,i.et ju,d.et sS,u.et na,e9 hn a.fN,e9 e a.fJ,e9 i a.fR,e9 d a.fB,e9 u ?_,a.kk⟩
 ·have j:r∈o:=i;refine h.nest r j W k fun c D v E y=> ?_;have t:c<(wr.setRow (w.heap.size+1) (aY {x with L:=L})).heap.size:=by rw[setRow_size];exact v
  exact(h2 c (by omega) t).trans (setRow_other wr _ _ c y)
 ·have:=h.same;rw[List.take_of_length_le (by omega),List.drop_of_length_le (by omega),List.append_nil]at this;exact this
 ·have:=h.Tz.1;have:=(gh.1 h.ok).cf;omega
abbrev ChIn(w:Wd)(x:Sr)(a b1 b2 b3 b4 b5:Nat)(Y:Vl)(wr:Wd):Prop:=∃(k:Nat) (b:List Jr) (L:Sl) (bK:List Us),k<=x.J.n/\Y=.int .i64 k/\F0 w x a b1 b2 b3 b4 b5 k b L bK wr
set_option maxRecDepth 100000 in
theorem D2(x:Sr)(o b1 b2 b3 b4 b5:Nat)(w:Wd)(h:Co w o b1 b2 b3 b4 b5 x)(g:bt x.s)(yT:b5<=w):Cs prog 83 #[.agg (aY x)] w (DH x o w):=by
 obtain⟨V,z⟩:=nm ((w.alloc (.cells (aY x) 28)).alloc (.cells dz 28));have F:Bl w w V:=z▸aC;have kV:ai V w 28 (aY x):=z▸(ai.new _ _ _).alloc _;have zV:ai V (w+1) 28 dz:=by rw[z];have:=ai.new (w.alloc (.cells (aY x) 28)) 28 dz;simpa using this
 have v1:=h.u1;have v2:=h.u2;have v3:=h.u3;have v4:=h.u4;have v5:=h.u5;have uF:w.heap.size+2<=V:=zV.lt;have i:=h.ae F;have H0:Hid (F0 w x o b1 b2 b3 b4 b5 0 x.jr x.L x.s.bK V):=⟨kV,zV,F.mono (by omega),uF,i.ag,i.aj,fun r hr=>AP.old (h.nest r hr) F lr,i.bx,i.aZ,i.bK,fun b e=>by have q:=h.hL b (w+1) e;omega,g.bK,by simp[h.jr]⟩;have D:=ah h;have HG:=ah g;have qB:x.jr.length=x.J.n:=h.aj.1;have qA:x.s.aj.length=x.J.n:=by rw[<-h.jr,dB];exact qB
 obtain⟨JA,yW⟩:=nm x.J.A;have uY:=ah yW;have x2:V.cell? ⟨w,2,none⟩=some (.slice JA x.J.n x.J.c):=yW▸kV.cell 2;have qD:=h.fJ;clear h g F kV zV i yW;go_in;go_wp2_with fail;rw[<-z];clear z;go_step3;go_wp2;go_step3;go_wp2
 go_loopw [13] (fun Y wr=>ChIn w x o b1 b2 b3 b4 b5 Y wr) (fun Y _=>x.J.n-(intOf Y).toNat)
 case atStart=>exact⟨0,x.jr,x.L,x.s.bK,fK _,rfl,H0⟩
 case round=>
  obtain⟨k,K,L,bK,hk,rfl,a⟩:=hrel;have HL:=ah a;clear x2;by_cases uP:k<x.J.n
  ·have qM:K.length=x.J.n:=a.aj.1;obtain⟨f,s,G,qI,qG,hs,uD,uM⟩:=bh ek a.aj uP;have HE:=ah G;have eJ:JA=some ⟨f,0,none⟩:=uY.trans G;subst eJ;have hg2:f<b2:=D.hJ (by have:=a.aj.2.le;omega) f G;have HR:Hid (wr.rangeAt f (k*20) (bk s).toList):=fun j v i=>uD j v i;have yV:=a.nest s (cG hs);have X:=yV.am;have yS:Hid (ai (wr.alloc (.cells cP 51)) wr 51 cP):=ai.new _ _ _;obtain⟨U,u⟩:=nm ((wr.alloc (.cells cP 51)).setRow wr (bk s));have E:Bl wr wr U:=u▸aD;have B:ai U wr 51 (bk s):=u▸ai.row yS _;have yX:=ah B;have qC:=B.cell 11;have uZ:=B.cell 18;simp at qC uZ;have qE:o<=wr:=by have:=a.U0;omega
   have P:=ah (a.ae E qE);have uV:=ah (X.ae E);have yZ:=A0 a.same hs (by omega);have yC:=cG yZ;have M:fg s.j=true:=HG.aj.ok _ yC;have hb2:b2<=b5:=by omega
   by_cases h2:s.j.st=2
   ·have b:jV s.j=0:=by simp[jV,M,h2]
    have yY:ez s.j=rb s.j (ms s.j.nd):=by unfold ez;rw[cK b]
    have uO:=ah fun(W:Wd)=>jn s.j.nd W X.nd;obtain⟨t,yR⟩:∃t:Int,((dw s.j.nd).length:Int)=t:=⟨_,rfl⟩;have yG:ms s.j.nd=t:=yR;rw[yR]at uO;rw[yG]at yY;have uT:=ah yY;have uL:=ah (GC s t U uV);rw[b]at uL;have e2:(s.j.st !=2)=false:=by simp[h2]
    have uU:=ah a.same;have Q:=ah hs;have qL:=ah G;clear yZ yC M h2 b yY yR yG a hs uD uM yV X E B;go_wp2_with(first|(rw[<-u];clear u;go_step)|refine wC HR t51 rfl ?_|refine wB yS aK rfl ?_);refine(uO _).mono ?_;rintro e w9 ⟨rfl,rfl⟩;go_wp2_with(refine wA yX t51 rfl ?_);refine uL.out.mono ?_;rintro e m ⟨y,rfl,S,o2,I⟩;have uW:=ah ((I rfl).trans uT.symm);have yE:=ah (yX.ae S yX.lt);have hUs:w.heap.size+2<=U:=P.U0;have uB:=S.size;have uC:o<=U:=by omega
    have uI:=ah (P.ae S uC);have uK:Hid (ai (m.alloc (.cells cP 51)) m 51 cP):=ai.new _ _ _;obtain⟨l,N⟩:=nm ((m.alloc (.cells cP 51)).setRow m (bk y));have C:Bl m m l:=N▸aD;have uN:ai l m 51 (bk y):=N▸ai.row uK _;have qK:=ah uN;have O:=ah (uI.ae C (by omega));have yD:=ah (yE.ae C yE.lt);have z2:l.cell? ⟨w,2,none⟩=some (.slice f x.J.n x.J.c):=by rw[O.out.box.cell 2];show some (Value.slice x.J.A x.J.n x.J.c)=_;rw[HE.out]
    have uQ:AP b5 w l y:=(AP.own o2 (by omega) (by omega)).ae C;obtain⟨d,T⟩:=nm (l.setCells f (k*20) (bk y).toList);obtain⟨o4,hP⟩:=O.put D yT (by omega) HE qI uQ d T;have p:=ah (hP (k+1) (vP O.same Q (by omega) uW.out));have uH:aU f l d:=T▸aU.pM _ _ _
    have HT:Hid (l.there f (k*20) 20):=by
     have o3:=O.aj;rw[HE.out]at o3;obtain⟨g',x',uS,-,-,-,-,ht⟩:=bh ek o3 uP;have e':=aI uS;subst e';exact fun j I=>ht j I
    have hU4:U.heap.size<=d:=cF uB (cF C.size uH.size);have uE:ai d wr 51 (bk s):=(uH.same _ yD.lt (by omega)).trans yD;have q2:=uE.cell 2;have q3:=uE.cell 3;simp at q2 q3;have q5:d.cell? ⟨w,5,none⟩=some (.slice L.A L.n L.c):=p.box.cell 5;have qF:=ah (sq L.A L.n L.c bK s.j.us s.j.ac t d (p.Tz.et na) p.Tz.2.le p.Tz.2.cz p.ok);clear I o2 S C uN uQ o4 hP uH uE;go_wp2_with(first|(rw[<-N];clear N;go_step)|refine wA qK t51 rfl ?_|refine wB uK aK rfl ?_|(refine rZ rfl _ _ _ rfl rfl rfl HT aK rfl rfl ?_;rw[<-T];clear T));refine qF.out.mono ?_;rintro e W5 ⟨A5,n5,c5,yU,rfl,uJ,Z⟩;have uG:o<=d:=by omega
    have uA:w.heap.size+2<=d:=by omega
    have R:=ah (p.ae uJ uG);have p5:=R.box.cell 5;have f5:=R.box.ao 5;simp at p5;obtain⟨H,uR⟩:∃H,sb bK s.j.us s.j.ac t=H:=⟨_,rfl⟩;rw[uR]at Z⊢;clear z2 q2 q3 q5 uR;by_cases b:H=0
    ·obtain⟨o5,k5⟩:=Z b;subst b;have qH:=ah (R.lay D yT (L':=⟨A5,n5,c5⟩) (aS o5 uA) k5);clear Z o5 k5 uJ;go_wp2_with fail;exact⟨⟨k+1,K.set k y,⟨A5,n5,c5⟩,yU,by omega,by go_num,qH⟩,by simp[intOf];omega⟩
    ·have e0:(H==0)=false:=by simpa using b
     clear Z uJ b;go_wp2_with fail;exact⟨⟨k+1,K.set k y,L,bK,by omega,by go_num,R⟩,by simp[intOf];omega⟩
   ·have b:ez s.j=s.j:=by
     unfold ez;rw[cL];simp[jV,M,h2]
    have e2:(s.j.st !=2)=true:=by simp[h2]
    have qJ:=ah (P.next (D1 P.same hs (by omega) b));clear yZ yC M h2 b a hs uD uM yV X E B;go_wp2_with(first|(rw[<-u];clear u;go_step)|refine wC HR t51 rfl ?_|refine wB yS aK rfl ?_);exact⟨⟨k+1,K,L,bK,by omega,by go_num,qJ⟩,by simp[intOf];omega⟩
  ·obtain rfl:k=x.J.n:=by omega
   have uX:=ah a.box;have Q:=ah a.res;have yQ:=ah (HL.fin D yT qA);clear a;go_wp2_with(first|refine wA uX t28 rfl ?_|refine wB Q aT rfl ?_);rw[dM];refine j6 (cs:=aY {x with L:=L}) rfl (ai.row Q _) rfl underlying28 rfl aT rfl rfl ?_;exact yQ
structure CpM(x:Sr)(w wr:Wd)(y:Sr)(b1 b2 b3 b4 b5:Nat):Prop where
 s:y.s=x.s
 jr:y.jr=x.jr
 box:ai wr w 28 (aY y)
 res:ai wr (w+1) 28 dz
 du:Bl w w wr
 ag:mK wr (w+2) y.N.A y.N.n y.N.c y.s.ag
 aj:gB wr b1 y.J.A y.J.n y.J.c y.jr
 bx:r8 wr b2 y.R.A y.R.n y.R.c y.s.bx
 aZ:r6 wr b3 y.B.A y.B.n y.B.c y.s.aZ
 bK:mL wr b4 y.L.A y.L.n y.L.c y.s.bK
 hN:eK y.N.A y.N.c b1
 hJ:eK y.J.A y.J.c b2
 hR:eK y.R.A y.R.c b3
 hB:eK y.B.A y.B.c b4
 hL:eK y.L.A y.L.c b5
 u1:w+2<=b1
 u2:b1<=b2
 u3:b2<=b3
 u4:b3<=b4
 u5:b4<=b5
 u6:b5<=wr
structure Mp(x:Sr)(w:Wd)(y:Sr)(b1 b2 b3 b4 b5:Nat)(k:Nat)(l2:List Jr)(wr:Wd):Prop where
 s:y.s=x.s
 jr:y.jr=x.jr
 box:ai wr w 28 (aY y)
 res:ai wr (w+1) 28 dz
 du:Bl w w wr
 ag:mK wr (w+2) y.N.A y.N.n y.N.c y.s.ag
 aj:gB wr b1 y.J.A y.J.n y.J.c l2
 bx:r8 wr b2 y.R.A y.R.n y.R.c y.s.bx
 aZ:r6 wr b3 y.B.A y.B.n y.B.c y.s.aZ
 bK:mL wr b4 y.L.A y.L.n y.L.c y.s.bK
 hN:eK y.N.A y.N.c b1
 hJ:eK y.J.A y.J.c b2
 hR:eK y.R.A y.R.c b3
 hB:eK y.B.A y.B.c b4
 hL:eK y.L.A y.L.c b5
 u1:w+2<=b1
 u2:b1<=b2
 u3:b2<=b3
 u4:b3<=b4
 u5:b4<=b5
 u6:b5<=wr
 same:l2.map Jr.j=y.jr.map Jr.j
 GS:∀g,y.J.A=some ⟨g,0,none⟩->∀r∈l2,mT g wr r
 own:∀i r,i<k->l2[i]?=some r->jk wr b5 r
variable{y:Sr}
theorem Mp.start(h:CpM x w wr y b1 b2 b3 b4 b5)(hw:∀r∈y.jr,eF w r):Mp x w y b1 b2 b3 b4 b5 0 y.jr wr:=
 ⟨h.s,h.jr,h.box,h.res,h.du,h.ag,h.aj,h.bx,h.aZ,h.bK,h.hN,h.hJ,h.hR,h.hB,h.hL,h.u1,h.u2,h.u3,h.u4,h.u5,h.u6,rfl,fun g hA r a=>by
   obtain⟨i,hi⟩:=dE.1 a;have c:=(cA.1 hi).1;obtain⟨d,j,b,f,-⟩:=bh ek h.aj (i:=i) (by rw[<-h.aj.1];exact c);rw[hA]at b;have e:=aI b;exact mT.old (hw r a) h.du (by have:=h.u1;omega),fun i r hi=>absurd hi (n8 i)⟩
theorem Mp.ae     {l2:List Jr}  (h : Mp x w y b1 b2 b3 b4 b5 k l2 wr) (hb : Bl wr wr W) : Mp x w y b1 b2 b3 b4 b5 k l2 W :=
  ⟨h.s, h.jr, h.box.ae hb h.box.lt, h.res.ae hb h.res.lt, aa h.du hb, h.ag.ae hb, h.aj.ae hb, h.bx.ae hb, h.aZ.ae hb, h.bK.ae hb, h.hN, h.hJ, h.hR, h.hB, h.hL, h.u1, h.u2, h.u3, h.u4, h.u5, cF h.u6 hb.size, h.same, fun g hA r a => (h.GS g hA r a).only (aU.aX hb), fun i r hi a => (h.own i r hi a).hi hb.size fun g _ h2 => hb.block g h2⟩
theorem Mp.next{u:List Jr}{B p C X:Wd}{l q:OA}{o t:Nat}(h:Mp x w y b1 b2 b3 b4 b5 k u wr)(Z:k<y.J.n)(hA:y.J.A=some ⟨g,0,none⟩)(G:u[k]?=some r)
 (K:Bl wr wr p)(h1:Bl wr wr B)(P:DF p B l r.j.sh.al.length o r.j.sh.al)(ba:Bl B B p)(D:Bl p p C)(Q:KN C p q r.j.af.length t r.j.af)(on:aU g C X)(O:Bl w C X)
 (H:gB X b1 g y.J.n y.J.c ((u.set k {r with A:=l,n:=r.j.sh.al.length,c:=o}).set k {r with A:=l,n:=r.j.sh.al.length,c:=o,F:=q,m:=r.j.af.length,d:=t})):
 ∃N,Mp x w y b1 b2 b3 b4 b5 (k+1) N X:=by
 have a:=h.ae (aa K D)
 have hg:b1<=g/\g<b2:=by
  obtain⟨E,x',v,M,-⟩:=bh ek h.aj Z;rw[hA]at v;have e:=aI v;subst e;exact⟨M,h.hJ (by have:=h.aj.2.le;omega) g hA⟩
 have R:=h.u1;have S:=h.u2;have T:=h.u3;have U:=h.u4;have V:=h.u5;have u6:=h.u6;have L:=h.GS g hA r (cG G)
 have I:jk X b5 {r with A:=l,n:=r.j.sh.al.length,c:=o,F:=q,m:=r.j.af.length,d:=t}:=by
  have hn:=L.am;have s1:=h1.size;have s3:=ba.size;have s5:=D.size;have q1:=hn.sh.st.cb;have q2:=hn.sh.cf;have q3:=hn.af.cb;have q4:=hn.cf;refine⟨aS (aV on (be.ae P D) (by omega)) (by omega),aS (aV on Q (by omega)) (by omega),by show r.j.sh.al.length<=1000;omega,by show r.j.af.length<=1000;omega,hn.nm,hn.us,hn.ac,hn.nd⟩
 have W:(u.set k {r with A:=l,n:=r.j.sh.al.length,c:=o}).set k {r with A:=l,n:=r.j.sh.al.length,c:=o,F:=q,m:=r.j.af.length,d:=t}=u.set k {r with A:=l,n:=r.j.sh.al.length,c:=o,F:=q,m:=r.j.af.length,d:=t}:=nN ..;rw[W]at H;refine⟨_,a.s,a.jr,(on.same _ a.box.lt (by omega)).trans a.box,(on.same _ a.res.lt (by omega)).trans a.res,?_,ed on a.ag a.hN (by omega),by rw[hA];exact H,aV on a.bx (by omega),aV on a.aZ (by omega),aV on a.bK (by omega),h.hN,h.hJ,h.hR,h.hB,h.hL,R,S,T,U,V,cF a.u6 on.size,?_,?_,?_⟩
 ·exact a.du.trans O
 ·rw[<-h.same];exact ro G rfl
 ·intro E v z f
  have e:E=g:=by
   rw[hA]at v;have e:=aI v;exact e.symm
  subst e;rcases fP f with f|rfl
  ·exact((a.GS E hA z f).only on)
  ·exact mT.own I (by omega)
 ·intro i z hi f;rw[lX]at f;split at f
  ·split at f
   ·cases f;exact I
   ·cases f
  ·exact(a.own i z (by omega) f).hi on.size fun b yG Y=>on.same b Y (by omega)
theorem Mp.fin{w:World}{c:List Jr}{wr:World}(h:Mp x w y b1 b2 b3 b4 b5 y.J.n c wr)(hx:db w x):DI x w (.returned (.agg (aY y))) (wr.setRow (w.heap.size+1) (aY y)):=by
 have hn:∀b,b≠w.heap.size+1->(wr.setRow (w.heap.size+1) (aY y)).heap[b]?=wr.heap[b]?:=fun b d=>setRow_other wr _ _ b d;have on:aU (w.heap.size+1) wr (wr.setRow (w.heap.size+1) (aY y)):=⟨by rw[setRow_size];exact Nat.le_refl _,fun b _ d=>hn b d⟩;have t:=h.u1;have m:=h.u2;have o:=h.u3;have p:=h.u4;have q:=h.u5;have hs:=h.s;refine⟨{y with jr:=c},b1,b2,b3,b4,b5,rfl,h.s,⟨aS (aV on h.ag (by omega)) (by omega),aV on h.aj (by omega),aV on h.bx (by omega),aV on h.aZ (by omega),aV on h.bK (by omega),?_,?_,h.hN,h.hJ,h.hR,h.hB,h.hL,by omega,m,o,p,q,?_,?_,?_,?_,?_,?_⟩,by rw[setRow_size];exact h.u6,aH h.du (by omega) _⟩
 ·intro r f;have a:r∈c:=f;obtain⟨i,hi⟩:=List.mem_iff_getElem?.1 a;have l:=(List.getElem?_eq_some_iff.1 hi).1;refine(h.own i r (by have:=h.aj.1;omega) hi).hi on.size fun b g k=>hn b (by omega)
 ·show c.map Jr.j=y.s.aj;rw[h.same,h.jr,h.s,hx.jr]
 ·have:=h.ag.1;rw[hs]at this;have:=hx.ag.cb;have:=hx.BP.cf;show y.N.n<=1000;omega
 ·have:=h.aj.1;have e:=congrArg List.length h.same;rw[List.length_map,List.length_map,h.jr]at e;have:=hx.aj.rows.cb;have:=hx.fg.cf;show y.J.n<=1000;omega
 ·have:=h.bx.1;rw[hs]at this;have:=hx.bx.cb;have:=hx.Mr.cf;show y.R.n<=1000;omega
 ·have:=h.aZ.1;rw[hs]at this;have:=hx.aZ.cb;have:=hx.okB.cf;show y.B.n<=1000;omega
 ·have:=h.bK.1;rw[hs]at this;have:=hx.bK.cb;have:=hx.Hs.cf;show y.L.n<=1000;omega
 ·intro r f;have a:r∈y.s.bx:=f;rw[hs]at a;exact hx.kk r a
variable{n:Nat}
theorem cpm{a b c d e f X:Wd}{g h i j k:OA}{l m o p:Nat}(du:Bl w w a)(y:ai a (w+1) 28 dz)(v:w.heap.size+2<=a)(A:mK b a g x.s.ag.length l x.s.ag)(r:Bl a a b)(B:gB c b h x.jr.length m x.jr)(F:Bl b b c)(C:r8 d c i x.s.bx.length n x.s.bx)(G:Bl c c d)(D:r6 e d j x.s.aZ.length o x.s.aZ)(H:Bl d d e)(E:mL f e k x.s.bK.length p x.s.bK)(t:Bl e e f)(on:aU w f X)(Q:Bl w f X)
 (K:ai X w 28 (aY ⟨x.s,x.jr,⟨g,x.s.ag.length,l⟩,⟨h,x.jr.length,m⟩,⟨i,x.s.bx.length,n⟩,⟨j,x.s.aZ.length,o⟩,⟨k,x.s.bK.length,p⟩⟩)):∃b1 b2 b3 b4 b5,CpM x w X ⟨x.s,x.jr,⟨g,x.s.ag.length,l⟩,⟨h,x.jr.length,m⟩,⟨i,x.s.bx.length,n⟩,⟨j,x.s.aZ.length,o⟩,⟨k,x.s.bK.length,p⟩⟩ b1 b2 b3 b4 b5:=by
 have J:=aa H t;have I:=aa G J;have u:=aa F I;have L:=cF v r.size;have M:=F.size;have N:=G.size;have O:=H.size;have P:=t.size;have z:=y.ae (aa r u) y.lt;have q:=aa du (aa r u);exact⟨b,c,d,e,f,rfl,rfl,K,(on.same _ z.lt (by omega)).trans z,q.trans Q,aV on (be.ae (aS A v) u) (by omega),aV on (be.ae B I) (by omega),aV on (be.ae C J) (by omega),aV on (be.ae D t) (by omega),aV on E (by omega),oc A,oc B,oc C,oc D,oc E,L,M,N,O,P,on.size⟩
abbrev CpIn(x:Sr)(w:Wd)(y:Sr)(b1 b2 b3 b4 b5:Nat)(Y:Vl)(wr:Wd):Prop:=∃(k:Nat) (a:List Jr),k<=y.J.n/\Y=.int .i64 k/\Mp x w y b1 b2 b3 b4 b5 k a wr
abbrev CpC(x:Sr)(w a:Wd):Prop:=∃y b1 b2 b3 b4 b5,CpM x w a y b1 b2 b3 b4 b5
set_option maxRecDepth 100000 in
theorem gQ(x:Sr)(w:Wd)(h:db w x):Cs prog 31 #[.agg (aY x)] w (DI x w):=by
 obtain⟨V,hV⟩:=nm ((w.alloc (.cells (aY x) 28)).alloc (.cells dz 28));have bV:Bl w w V:=hV▸aC;have kV:ai V w 28 (aY x):=hV▸(ai.new _ _ _).alloc _;have zV:ai V (w+1) 28 dz:=by rw[hV];have:=ai.new (w.alloc (.cells (aY x) 28)) 28 dz;simpa using this
 have uI:=ah fun(W:Wd) (b:Bl w w W)=>Iv x.N.A x.N.n x.N.c x.s.ag W (h.ag.ae b) (cF h.BP.cf (by omega));have uF:=ah fun(W:Wd) (b:Bl w w W)=>Iu x.J.A x.J.n x.J.c x.jr W (h.aj.rows.ae b) (cF h.fg.cf (by omega));have uK:=ah fun(W:Wd) (b:Bl w w W)=>Iw x.R.A x.R.n x.R.c x.s.bx W (h.bx.ae b) (cF h.Mr.cf (by omega));have uO:=ah fun(W:Wd) (b:Bl w w W)=>Is x.B.A x.B.n x.B.c x.s.aZ W (h.aZ.ae b) (cF h.okB.cf (by omega));have uP:=ah fun(W:Wd) (b:Bl w w W)=>Ix x.L.A x.L.n x.L.c x.s.bK W (h.bK.ae b) (cF h.Hs.cf (by omega));have HH:=ah h;have uN:=ah bV;have uR:=ah kV;have uJ:=ah zV
 have I:Hid (∀W,Bl V V W->W.cell? ⟨w,1,none⟩=some (.slice x.N.A x.N.n x.N.c)/\W.cell? ⟨w,2,none⟩=some (.slice x.J.A x.J.n x.J.c)/\W.cell? ⟨w,3,none⟩=some (.slice x.R.A x.R.n x.R.c)/\W.cell? ⟨w,4,none⟩=some (.slice x.B.A x.B.n x.B.c)/\W.cell? ⟨w,5,none⟩=some (.slice x.L.A x.L.n x.L.c)):=fun W b=>by
  have k:=kV.ae b kV.lt;exact⟨k.cell 1,k.cell 2,k.cell 3,k.cell 4,k.cell 5⟩
 have f:Bl V V V.drew:=nT bR;have uS:Hid (w.heap.size+2<=V):=zV.lt;clear h bV kV zV;go_in;go_wp2_with fail;rw[<-hV];clear hV;go_cut [] (fun wx=>CpC x w wx)
 case first=>
  rename_i K hK J K' hJ hM;refine vA (fun _=>True) (fun W=>Bl V V W) #[false,false,false,false,false,false,false,false,false,false,false,false,false,false,false,false,true,false,true,false,true,false,true,false,true] (by kernel_rfl) ?_;refine tT (i:=0) (v:= ?v0) (some 4) rfl rfl (by kernel_rfl) (fun _ _ _ h=>h) (Or.inl ⟨by rfl,?h0⟩) trivial f ?r0
  case h0=>
   intro W b;go_simp
   try rfl
  refine tT (i:=1) (v:= ?v1) (some 5) rfl rfl (by kernel_rfl) (fun _ _ _ h=>h) (Or.inl ⟨by rfl,?h1⟩) trivial f ?r1
  case h1=>
   intro W b;obtain⟨Z,y2,y3,y4,y5⟩:=I W b;go_simp
   try rfl
  refine tT (i:=3) (v:= ?v3) (some 7) rfl rfl (by kernel_rfl) (fun _ _ _ h=>h) (Or.inl ⟨by rfl,?h3⟩) trivial f ?r3
  case h3=>
   intro W b;go_simp
   try rfl
  refine tT (i:=4) (v:= ?v4) (some 8) rfl rfl (by kernel_rfl) (fun _ _ _ h=>h) (Or.inl ⟨by rfl,?h4⟩) trivial f ?r4
  case h4=>
   intro W b;obtain⟨Z,y2,y3,y4,y5⟩:=I W b;go_simp
   try rfl
  refine tT (i:=6) (v:= ?v6) (some 10) rfl rfl (by kernel_rfl) (fun _ _ _ h=>h) (Or.inl ⟨by rfl,?h6⟩) trivial f ?r6
  case h6=>
   intro W b;go_simp
   try rfl
  refine tT (i:=7) (v:= ?v7) (some 11) rfl rfl (by kernel_rfl) (fun _ _ _ h=>h) (Or.inl ⟨by rfl,?h7⟩) trivial f ?r7
  case h7=>
   intro W b;obtain⟨Z,y2,y3,y4,y5⟩:=I W b;go_simp
   try rfl
  refine tT (i:=9) (v:= ?v9) (some 13) rfl rfl (by kernel_rfl) (fun _ _ _ h=>h) (Or.inl ⟨by rfl,?h9⟩) trivial f ?r9
  case h9=>
   intro W b;go_simp
   try rfl
  refine tT (i:=10) (v:= ?v10) (some 14) rfl rfl (by kernel_rfl) (fun _ _ _ h=>h) (Or.inl ⟨by rfl,?h10⟩) trivial f ?r10
  case h10=>
   intro W b;obtain⟨Z,y2,y3,y4,y5⟩:=I W b;go_simp
   try rfl
  refine tT (i:=12) (v:= ?v12) (some 16) rfl rfl (by kernel_rfl) (fun _ _ _ h=>h) (Or.inl ⟨by rfl,?h12⟩) trivial f ?r12
  case h12=>
   intro W b;go_simp
   try rfl
  refine tT (i:=13) (v:= ?v13) (some 17) rfl rfl (by kernel_rfl) (fun _ _ _ h=>h) (Or.inl ⟨by rfl,?h13⟩) trivial f ?r13
  case h13=>
   intro W b;obtain⟨Z,y2,y3,y4,y5⟩:=I W b;go_simp
   try rfl
  have du:Bl w w V.drew:=aa uN f;have l:ai V.drew w 28 (aY x):=uR.out;have kZ:ai V.drew (w+1) 28 dz:=uJ.out;have hz:w.heap.size+2<=V.drew:=uS.out;have t:=f;have q0:=du;clear f I;generalize V.drew=W0 at du l kZ hz t q0⊢;refine gR (i:=2) (by kernel_rfl) (by kernel_rfl) (ea 64 #[.slice x.N.A x.N.n x.N.c] (some 6) rfl rfl (by rfl) (by go_simp) ?_);refine(uI _ du).mono ?_;rintro e W1 ⟨A1,c1,rfl,o1,r1⟩;replace du:=aa du r1;replace t:=aa t r1;refine⟨_,rfl,⟨trivial,t⟩,?_⟩;refine tT (i:=15) (v:=.pointer (some ⟨w,1,none⟩)) (some 19) rfl rfl (by kernel_rfl) (fun _ _ _ h=>h) (Or.inl ⟨by rfl,fun W _=>by go_simp⟩) trivial t ?_;refine gR (i:=5) (by kernel_rfl) (by kernel_rfl) (ea 65 #[.slice x.J.A x.J.n x.J.c] (some 9) rfl rfl (by rfl) (by go_simp) ?_);refine(uF _ du).mono ?_;rintro e W2 ⟨D,E,rfl,o2,r2⟩;replace du:=aa du r2;replace t:=aa t r2;refine⟨_,rfl,⟨trivial,t⟩,?_⟩;refine gR (i:=8) (by kernel_rfl) (by kernel_rfl) (ea 66 #[.slice x.R.A x.R.n x.R.c] (some 12) rfl rfl (by rfl) (by go_simp) ?_);refine(uK _ du).mono ?_;rintro e W3 ⟨A3,c3,rfl,o3,r3⟩;replace du:=aa du r3;replace t:=aa t r3;refine⟨_,rfl,⟨trivial,t⟩,?_⟩;refine gR (i:=11) (by kernel_rfl) (by kernel_rfl) (ea 67 #[.slice x.B.A x.B.n x.B.c] (some 15) rfl rfl (by rfl) (by go_simp) ?_);refine(uO _ du).mono ?_;rintro e W4 ⟨A4,c4,rfl,o4,r4⟩;replace du:=aa du r4;replace t:=aa t r4
  refine⟨_,rfl,⟨trivial,t⟩,?_⟩;refine gR (i:=14) (by kernel_rfl) (by kernel_rfl) (ea 68 #[.slice x.L.A x.L.n x.L.c] (some 18) rfl rfl (by rfl) (by go_simp) ?_);refine(uP _ du).mono ?_;rintro e C ⟨A5,c5,rfl,X,r5⟩;replace du:=aa du r5;replace t:=aa t r5;refine⟨_,rfl,⟨trivial,t⟩,?_⟩;replace l:=l.ae (aa (aa (aa (aa r1 r2) r3) r4) r5) l.lt;have on:=aU.refl w C;have z:Bl w C C:=cC _ _;refine vC (j:=16) (by kernel_rfl) (by kernel_rfl) (by kernel_rfl) ?_;have u:=l.cell 1;have G:=l.ao 1;simp at u;refine jY (C.setCell ⟨w,1,none⟩ (.slice A1 x.s.ag.length c1)) rfl rfl (by rfl) (by go_simp) ?_;clear u G;intro M o;replace l:=l.set 1 (.slice A1 x.s.ag.length c1);replace z:=z.setCell (p:=⟨w,1,none⟩) lr (.slice A1 x.s.ag.length c1);rw[<-o]at l z;replace on:aU w C M:=on.trans (o▸aU.set _ _ _);clear o;refine⟨trivial,?_⟩;refine lq (i:=17) (v:=.pointer (some ⟨w,2,none⟩)) (some 20) rfl rfl (by kernel_rfl) (by kernel_rfl) (by kernel_rfl) (fun _ _ _ h=>h) (Or.inl ⟨by rfl,fun W _=>by go_simp⟩) trivial ?_;refine dg (i:=18) (by kernel_rfl) ?_;have u:=l.cell 2;have G:=l.ao 2;simp at u;refine jY (M.setCell ⟨w,2,none⟩ (.slice D x.jr.length E)) rfl rfl (by rfl) (by go_simp) ?_;clear u G;intro S o;replace l:=l.set 2 (.slice D x.jr.length E);replace z:=z.setCell (p:=⟨w,2,none⟩) lr (.slice D x.jr.length E);rw[<-o]at l z;replace on:aU w C S:=on.trans (o▸aU.set _ _ _);clear o;refine⟨trivial,?_⟩
  refine lq (i:=19) (v:=.pointer (some ⟨w,3,none⟩)) (some 21) rfl rfl (by kernel_rfl) (by kernel_rfl) (by kernel_rfl) (fun _ _ _ h=>h) (Or.inl ⟨by rfl,fun W _=>by go_simp⟩) trivial ?_;refine dg (i:=20) (by kernel_rfl) ?_;have u:=l.cell 3;have G:=l.ao 3;simp at u;refine jY (S.setCell ⟨w,3,none⟩ (.slice A3 x.s.bx.length c3)) rfl rfl (by rfl) (by go_simp) ?_;clear u G;intro X3 o;replace l:=l.set 3 (.slice A3 x.s.bx.length c3);replace z:=z.setCell (p:=⟨w,3,none⟩) lr (.slice A3 x.s.bx.length c3);rw[<-o]at l z;replace on:aU w C X3:=on.trans (o▸aU.set _ _ _);clear o;refine⟨trivial,?_⟩;refine lq (i:=21) (v:=.pointer (some ⟨w,4,none⟩)) (some 22) rfl rfl (by kernel_rfl) (by kernel_rfl) (by kernel_rfl) (fun _ _ _ h=>h) (Or.inl ⟨by rfl,fun W _=>by go_simp⟩) trivial ?_;refine dg (i:=22) (by kernel_rfl) ?_;have u:=l.cell 4;have G:=l.ao 4;simp at u;refine jY (X3.setCell ⟨w,4,none⟩ (.slice A4 x.s.aZ.length c4)) rfl rfl (by rfl) (by go_simp) ?_;clear u G;intro X4 o;replace l:=l.set 4 (.slice A4 x.s.aZ.length c4);replace z:=z.setCell (p:=⟨w,4,none⟩) lr (.slice A4 x.s.aZ.length c4);rw[<-o]at l z;replace on:aU w C X4:=on.trans (o▸aU.set _ _ _);clear o;refine⟨trivial,?_⟩;refine lq (i:=23) (v:=.pointer (some ⟨w,5,none⟩)) (some 23) rfl rfl (by kernel_rfl) (by kernel_rfl) (by kernel_rfl) (fun _ _ _ h=>h) (Or.inl ⟨by rfl,fun W _=>by go_simp⟩) trivial ?_;refine dg (i:=24) (by kernel_rfl) ?_;have u:=l.cell 5;have G:=l.ao 5
  simp at u;refine jY (X4.setCell ⟨w,5,none⟩ (.slice A5 x.s.bK.length c5)) rfl rfl (by rfl) (by go_simp) ?_;clear u G;intro X5 o;replace l:=l.set 5 (.slice A5 x.s.bK.length c5);replace z:=z.setCell (p:=⟨w,5,none⟩) lr (.slice A5 x.s.bK.length c5);rw[<-o]at l z;replace on:aU w C X5:=on.trans (o▸aU.set _ _ _);clear o;refine⟨trivial,?_⟩;have HF:=ah (cpm q0 kZ hz o1 r1 o2 r2 o3 r3 o4 r4 X r5 on z l);clear q0 kZ hz o1 r1 o2 r2 o3 r3 o4 r4 X r5 on z l du t;refine wpAnyH_done (by kernel_rfl) ?_ _;simp only[aP];refine hM _ _ (Met.intro (hJ _ _ ?_))
  (repeat apply Exists.intro)
  refine⟨?_,rfl⟩;exact⟨_,HF⟩
 case rest=>
  obtain⟨y,b1,b2,b3,b4,b5,Q⟩:=hcut;have HC:=ah Q;have x2:=Q.box.cell 2;simp at x2;have uQ:y.J.n<=1000:=by have:=Q.aj.1;rw[Q.jr]at this;have:=HH.aj.rows.cb;have:=HH.fg.cf;omega
  have yY:∀r∈y.jr,eF wc r:=fun r O=>by rw[Q.jr]at O;exact(HH.aj.eZ r O).ae Q.du
  have uU:=ah yY;have yW:Hid (∀r∈y.jr,eF w r):=fun r O=>by rw[Q.jr]at O;exact HH.aj.eZ r O
  clear Q yY I;go_wp2
  go_loopw [27] (fun Y wr=>CpIn x w y b1 b2 b3 b4 b5 Y wr) (fun Y _=>y.J.n-(intOf Y).toNat)
  case atStart=>exact⟨0,y.jr,fK _,rfl,Mp.start HC yW.out⟩
  case round=>
   obtain⟨k,l2,hk,rfl,H⟩:=hrel;have HL:=ah H;clear x2;by_cases yO:k<y.J.n
   ·obtain⟨g,r,eA,hg,yL,O,yU,uG⟩:=bh ek H.aj yO
    have x2:wr.cell? ⟨w,2,none⟩=some (.slice g y.J.n y.J.c):=by
     have e:(aY y)[2]?=some (.slice y.J.A y.J.n y.J.c):=rfl;rw[eA]at e;exact(H.box.cell 2).trans e
    have HE:=ah eA;have yQ:=ah O;have yF:=H.GS g eA r (cG O);have yX:w≠g:=by have:=H.u1;omega
    have uC:w<=g:=by have:=H.u1;omega
    have I:Hid (∀W,Bl wr wr W->W.cell? ⟨w,2,none⟩=some (.slice g y.J.n y.J.c)/\W.cell? ⟨g,k*20+5,none⟩=some (.slice r.A r.n r.c)/\W.cell? ⟨g,k*20+10,none⟩=some (.slice r.F r.m r.d)):=fun W b=>
     ⟨(b.cell (p:=⟨w,2,none⟩) H.box.lt).trans x2,(b.cell (p:=⟨g,k*20+5,none⟩) yL).trans (yU 5 _ rfl),(b.cell (p:=⟨g,k*20+10,none⟩) yL).trans (yU 10 _ rfl)⟩
    have uL:=ah fun(W:Wd) (b:Bl wr wr W)=>Ir r.A r.n r.c r.j.sh.al W (yF.am.sh.st.ae b) (by have:=yF.am.sh.cf;omega);have uH:=ah fun(W:Wd) (b:Bl wr wr W)=>It r.F r.m r.d r.j.af W (yF.am.af.ae b) (by have:=yF.am.cf;omega);have uT:=ah yF;have i1:(0:Int)<=(k:Int):=by omega
    have i2:(k:Int)<(y.J.n:Int):=by omega
    have f:Bl wr wr wr.drew:=nT bR;have uE:=H.du;clear H O yF yU uG eA;go_wp2_with fail;refine vA (fun W=>W.cell? ⟨w,2,none⟩=some (.slice g y.J.n y.J.c)) (fun W=>Bl wr wr W) #[false,false,false,false,false,false,false,false,false,false,false,false,false,false,false,false,false,false,false,false,false,false,false,false,true,false,false,true] (by kernel_rfl) ?_;have q:wr.drew.cell? ⟨w,2,none⟩=some (.slice g y.J.n y.J.c):=x2;refine tR (i:=0) (v:= ?q0) (some 30) rfl rfl (by kernel_rfl) (fun _ _ _ h=>h) (Or.inl ⟨by rfl,?g0⟩) q f ?s0
    case g0=>
     intro W b;go_simp
     try rfl
    refine tR (i:=1) (v:= ?q1) (some 31) rfl rfl (by kernel_rfl) (fun _ _ _ h=>h) (Or.inl ⟨by rfl,?g1⟩) q f ?s1
    case g1=>
     intro W b;go_simp
     try rfl
    refine tR (i:=2) (v:= ?q2) (some 32) rfl rfl (by kernel_rfl) (fun _ _ _ h=>h) (Or.inl ⟨by rfl,?g2⟩) q f ?s2
    case g2=>
     intro W b;go_simp
     try rfl
    refine tR (i:=3) (v:= ?q3) (some 33) rfl rfl (by kernel_rfl) (fun _ _ _ h=>h) (Or.inl ⟨by rfl,?g3⟩) q f ?s3
    case g3=>
     intro W b;go_simp
     try rfl
    refine tR (i:=4) (v:= ?q4) (some 34) rfl rfl (by kernel_rfl) (fun _ _ _ h=>h) (Or.inl ⟨by rfl,?g4⟩) q f ?s4
    case g4=>
     intro W b;go_simp
     try rfl
    refine tR (i:=5) (v:= ?q5) (some 35) rfl rfl (by kernel_rfl) (fun _ _ _ h=>h) (Or.inl ⟨by rfl,?g5⟩) q f ?s5
    case g5=>
     intro W b;go_simp
     try rfl
    refine tR (i:=6) (v:= ?q6) (some 36) rfl rfl (by kernel_rfl) (fun _ _ _ h=>h) (Or.inl ⟨by rfl,?g6⟩) q f ?s6
    case g6=>
     intro W b;go_simp
     try rfl
    refine tR (i:=7) (v:= ?q7) (some 37) rfl rfl (by kernel_rfl) (fun _ _ _ h=>h) (Or.inl ⟨by rfl,?g7⟩) q f ?s7
    case g7=>
     intro W b;go_simp
     try rfl
    refine tR (i:=8) (v:= ?q8) (some 38) rfl rfl (by kernel_rfl) (fun _ _ _ h=>h) (Or.inl ⟨by rfl,?g8⟩) q f ?s8
    case g8=>
     intro W b;go_simp
     try rfl
    refine tR (i:=9) (v:= ?q9) (some 39) rfl rfl (by kernel_rfl) (fun _ _ _ h=>h) (Or.inl ⟨by rfl,?g9⟩) q f ?s9
    case g9=>
     intro W b;go_simp
     try rfl
    refine tR (i:=10) (v:= ?q10) (some 40) rfl rfl (by kernel_rfl) (fun _ _ _ h=>h) (Or.inl ⟨by rfl,?g10⟩) q f ?s10
    case g10=>
     intro W b;go_simp
     try rfl
    refine tR (i:=11) (v:= ?q11) (some 41) rfl rfl (by kernel_rfl) (fun _ _ _ h=>h) (Or.inl ⟨by rfl,?g11⟩) q f ?s11
    case g11=>
     intro W b;go_simp
     try rfl
    refine tR (i:=14) (v:= ?q14) (some 44) rfl rfl (by kernel_rfl) (fun _ _ _ h=>h) (Or.inl ⟨by rfl,?g14⟩) q f ?s14
    case g14=>
     intro W b;go_simp
     try rfl
    refine tR (i:=15) (v:= ?q15) (some 45) rfl rfl (by kernel_rfl) (fun _ _ _ h=>h) (Or.inl ⟨by rfl,?g15⟩) q f ?s15
    case g15=>
     intro W b;go_simp
     try rfl
    refine tR (i:=16) (v:= ?q16) (some 46) rfl rfl (by kernel_rfl) (fun _ _ _ h=>h) (Or.inl ⟨by rfl,?g16⟩) q f ?s16
    case g16=>
     intro W b;go_simp
     try rfl
    refine tR (i:=17) (v:= ?q17) (some 47) rfl rfl (by kernel_rfl) (fun _ _ _ h=>h) (Or.inl ⟨by rfl,?g17⟩) q f ?s17
    case g17=>
     intro W b;go_simp
     try rfl
    refine tR (i:=18) (v:= ?q18) (some 48) rfl rfl (by kernel_rfl) (fun _ _ _ h=>h) (Or.inl ⟨by rfl,?g18⟩) q f ?s18
    case g18=>
     intro W b;go_simp
     try rfl
    refine tT (i:=12) (v:= ?q12) (some 42) rfl rfl (by kernel_rfl) (fun _ _ _ h=>h) (Or.inl ⟨by rfl,?g12⟩) q f ?s12
    case g12=>
     intro W b;obtain⟨Z,y2,y3⟩:=I W b;go_simp
     try rfl
    refine tT (i:=19) (v:= ?q19) (some 49) rfl rfl (by kernel_rfl) (fun _ _ _ h=>h) (Or.inl ⟨by rfl,?g19⟩) q f ?s19
    case g19=>
     intro W b;obtain⟨Z,y2,y3⟩:=I W b;go_simp
     try rfl
    refine gR (i:=13) (by kernel_rfl) (by kernel_rfl) ?_;refine ea 69 #[.slice r.A r.n r.c] (some 43) rfl rfl (by rfl) ?_ ?_
    ·go_simp
    refine(uL _ f).mono ?_;rintro e W3 ⟨D,E,rfl,oa,ba⟩;have p3:=aa f ba;refine⟨_,rfl,⟨(I _ p3).1,p3⟩,?_⟩;refine gR (i:=20) (by kernel_rfl) (by kernel_rfl) ?_;refine ea 70 #[.slice r.F r.m r.d] (some 50) rfl rfl (by rfl) ?_ ?_
    ·go_simp
    refine(uH _ p3).mono ?_;rintro e C ⟨F2,d2,rfl,od,bd⟩;have T:=aa p3 bd;have yG:=(I _ T).1;refine⟨_,rfl,⟨yG,T⟩,?_⟩;refine tR (i:=21) (v:= ?q21) (some 51) rfl rfl (by kernel_rfl) (fun _ _ _ h=>h) (Or.inl ⟨by rfl,?g21⟩) yG T ?s21
    case g21=>
     intro W b;go_simp
     try rfl
    refine tR (i:=22) (v:= ?q22) (some 52) rfl rfl (by kernel_rfl) (fun _ _ _ h=>h) (Or.inl ⟨by rfl,?g22⟩) yG T ?s22
    case g22=>
     intro W b;go_simp
     try rfl
    refine tR (i:=23) (v:= ?q23) (some 53) rfl rfl (by kernel_rfl) (fun _ _ _ h=>h) (Or.inl ⟨by rfl,?g23⟩) yG T ?s23
    case g23=>
     intro W b;go_simp
     try rfl
    have yR:=ah (HL.ae T);have X:gB C b1 g y.J.n y.J.c l2:=by have:=yR.aj;rw[HE.out]at this;exact this
    obtain⟨g',r',U,-,-,P,yI,yK⟩:=bh ek X yO;replace U:=aI U;subst U;rw[yQ.out]at P;injection P with P;subst P;have u:=yI 5 _ rfl;have G:=(yK 5 (by omega)).2;clear yI yK;refine vC (by kernel_rfl) (by kernel_rfl) (by kernel_rfl) (j:=24) ?_;refine jY (C.setCell ⟨g,k*20+5,none⟩ (.slice D r.j.sh.al.length E)) rfl rfl (by rfl) ?_ ?_
    ·go_simp
    intro M yN;have o6:gB M b1 g y.J.n y.J.c (l2.set k {r with A:=D,n:=r.j.sh.al.length,c:=E}):=yN▸eW ek X k 5 (by omega) yQ (x:={r with A:=D,n:=r.j.sh.al.length,c:=E}) (v:=.slice D r.j.sh.al.length E) rfl;have yV:(l2.set k {r with A:=D,n:=r.j.sh.al.length,c:=E})[k]?=some {r with A:=D,n:=r.j.sh.al.length,c:=E}:=fH (cA.1 yQ).1;have uD:Bl w C M:=yN▸bR.setCell (p:=⟨g,k*20+5,none⟩) uC _;have yM:aU g C M:=yN▸aU.set _ _ _;have yJ:M.cell? ⟨w,2,none⟩=some (.slice g y.J.n y.J.c):=(dI (a:=⟨w,2,none⟩) (yM.same _ yR.box.lt yX)).trans yG;refine⟨yJ,?_⟩;obtain⟨g',r',U,-,-,P,yI,yK⟩:=bh ek o6 yO;replace U:=aI U;subst U;rw[yV]at P;injection P with P
    subst P;have u:=yI 10 _ rfl;have G:=(yK 10 (by omega)).2;clear yI yK yN;refine lq (i:=25) (v:= ?q25) (some 54) rfl rfl (by kernel_rfl) (by kernel_rfl) (by kernel_rfl) (fun _ _ _ h=>h) (Or.inl ⟨by rfl,?g25⟩) yJ ?s25
    case g25=>
     intro W b;go_simp
     try rfl
    refine lq (i:=26) (v:= ?q26) (some 55) rfl rfl (by kernel_rfl) (by kernel_rfl) (by kernel_rfl) (fun _ _ _ h=>h) (Or.inl ⟨by rfl,?g26⟩) yJ ?s26
    case g26=>
     intro W b;go_simp
     try rfl
    refine dg (i:=27) (by kernel_rfl) ?_;refine jY (M.setCell ⟨g,k*20+10,none⟩ (.slice F2 r.j.af.length d2)) rfl rfl (by rfl) ?_ ?_
    ·go_simp
    intro S yP;have o7:gB S b1 g y.J.n y.J.c ((l2.set k {r with A:=D,n:=r.j.sh.al.length,c:=E}).set k {r with A:=D,n:=r.j.sh.al.length,c:=E,F:=F2,m:=r.j.af.length,d:=d2}):=yP▸eW ek o6 k 10 (by omega) yV (x:={r with A:=D,n:=r.j.sh.al.length,c:=E,F:=F2,m:=r.j.af.length,d:=d2}) (v:=.slice F2 r.j.af.length d2) rfl;have uB:Bl w M S:=yP▸bR.setCell (p:=⟨g,k*20+10,none⟩) uC _;have yT:aU g M S:=yP▸aU.set _ _ _;have uA:S.cell? ⟨w,2,none⟩=some (.slice g y.J.n y.J.c):=(dI (a:=⟨w,2,none⟩) (yT.same _ (cD yR.box.lt yM.size) yX)).trans yJ;refine⟨uA,?_⟩;have yH:=ah (HL.next yO HE yQ (aa f ba) f oa ba bd od (yM.trans yT) (uD.trans uB) o7);clear yP u G X o6 o7 oa ba bd od yM yT uD uB yG yJ uA yV p3 T;refine wpAnyH_done (by kernel_rfl) ?_ _;simp only[aP];go_wp2_with fail;obtain⟨l3,h3⟩:=yH;exact⟨⟨k+1,l3,by omega,by go_num,h3⟩,by simp[intOf];omega⟩
   ·obtain rfl:k=y.J.n:=by omega
    have uM:=ah H.box;have yZ:=ah H.res;have yS:=ah (HL.fin HH);clear H;go_wp2_with(first|refine wA uM t28 rfl ?_|refine wB yZ aT rfl ?_);refine j6 (cs:=aY y) rfl (ai.row yZ _) rfl underlying28 rfl aT rfl rfl ?_;exact yS
def LdB(base:Nat)(w:Wd)(L:Sl)(l:List Us):Prop:=∀W,w.heap.size<=W.heap.size->(∀b,base<=b->b<w.heap.size->W.heap[b]?=w.heap[b]?)->Aw W L.A L.n l/\L.Ok
theorem gV.ldb(h:gV base w x):LdB base w x.L x.s.bK:=fun W h1 h2=>⟨(h W h1 h2).bK,(h W h1 h2).Hs⟩
theorem RZ{w:World}{l:List Us}(h:mL w base L.A L.n L.c l)(a:L.n<=1000):LdB base w L l:=fun W h1 h2=>⟨(bS h h1 h2).et na,e9 h a⟩
theorem gV.clock{z:Sr}(h:gV base w z)(g:Bl w.heap.size w W){n:Int}{B:Sl}{d:List Bk}(i:LdB base W L bK)(f:r6 W base B.A B.n B.c d)(e:B.n<=1000):
 gV base W ⟨{z.s with am:=n,bK:=bK,aZ:=d},z.jr,z.N,z.J,z.R,B,L⟩:=fun X h1 h2=>by
 have a:=h.ae g X h1 h2;obtain⟨j,k⟩:=i X h1 h2;have b:=bS f h1 h2;exact⟨a.ag,a.aj,a.jr,a.bx,b.et sS,j,a.BP,a.fg,a.Mr,e9 b e,k,a.kk⟩
theorem BT(l:List Bk)(n:Int):(iw l n).length<=l.length:=by
 unfold iw;split
 ·simp
 ·exact l8 _ _
def JZ(x:Sr)(w:Wd)(e:Ed)(w':Wd):Prop:=∃z bK,e=.returned (.tuple #[.agg (aY z),()])/\gV w w' z/\z.s=ig x.s bK/\fm bK=true/\Bl w w w'
set_option maxRecDepth 100000 in
theorem Kx(x:Sr)(w:World)(h:db w x)(g:bt x.s)(hnow:x.s.am<1000000):Calls prog 37 #[.agg (aY x)] w (JZ x w):=by
 obtain⟨V,hV⟩:∃V,V=(w.alloc (.cells (aY x) 28)).alloc (.cells dz 28):=⟨_,rfl⟩;have bV:Below w.heap.size w V:=hV▸aC;have kV:ai V w.heap.size 28 (aY x):=hV▸(ai.new _ _ _).alloc _;have zV:ai V (w.heap.size+1) 28 dz:=by rw[hV];have:=ai.new (w.alloc (.cells (aY x) 28)) 28 dz;simpa using this
 have HC:=ah (da x V (h.ae bV) g);have HCp:=ah fun(W:World) (hW:Below w.heap.size w W)=>gQ x W (h.ae hW);have HB:=ah bV;have HK:=ah kV;have HZ:=ah zV;have HG:=ah g;have e0:(x.s.am==1000000)=false:=by simp;omega
 have hn0:=(ej.1 g.am).1;clear h g bV kV zV;go_enter func37,ntmps37;go_wp2_with fail;rw[<-hV];clear hV;go_wp2_with(refine cr rfl _ _ rfl HK.out rfl underlying28 rfl aT rfl ?_);refine av HC.out fun w2 b2=> ?_;have S:=ah (aa HB.out b2);have U:=ah (HK.out.ae b2 HK.out.lt);have HZ2:=ah (HZ.out.ae b2 HZ.out.lt);have y0:=U.out.cell 0;simp at y0;clear b2;go_wp2_with(refine cr rfl _ _ rfl U.out rfl underlying28 rfl aT rfl ?_);refine(HCp.out _ S.out).mono ?_;rintro e w3 ⟨y,c1,c2,c3,c4,c5,rfl,hys,hyo,hc5,b3⟩;have HCh:=ah (D2 y w2.heap.size c1 c2 c3 c4 c5 w3 hyo (by rw[hys];exact HG.out) hc5);have HB3:=ah b3;have HYs:=ah hys;clear hyo hc5 b3 hys y0;go_wp2_with fail;refine HCh.out.mono ?_;rintro e a ⟨z,bK,rfl,hz,hzs,hled,b4⟩;have o:=ah (HB3.out.trans b4);have t:Hid (z.s={x.s with aj:=x.s.aj.map ez,bK:=bK}):=by show _=_;rw[hzs,HYs.out]
 have HZb:=ah hz;have l:=ah hz.am;have r:=ah hled;have HK4:=ah (U.out.ae o.out U.out.lt);have HZ4:=ah (HZ2.out.ae o.out HZ2.out.lt);have HB4:=ah (aa S.out o.out);have hz4:w.heap.size+1<a.heap.size:=HZ4.out.lt;obtain⟨n,hn⟩:∃n,n=z.s.am:=⟨_,rfl⟩;have hnx:n=x.s.am:=by rw[hn,t.out]
 have hn0:0<=n:=by omega
 have hn1:n<1000000:=by omega
 have HN5:Hid (ai (a.alloc (.cells dz 28)) a.heap.size 28 dz):=ai.new _ _ _;obtain⟨V5,m⟩:∃V5,V5=(a.alloc (.cells dz 28)).setRow a.heap.size (aY z):=⟨_,rfl⟩;have b5:Below a.heap.size a V5:=m▸aD;have k5:ai V5 a.heap.size 28 (aY z):=m▸ai.row HN5.out _;have s5:V5.heap.size=a.heap.size+1:=by rw[m,setRow_size];simp
 have f0:=k5.ao 0;have x0:V5.cell? ⟨a.heap.size,0,none⟩=some (.int .i64 n):=hn▸k5.cell 0;obtain⟨X,u⟩:∃X,X=V5.setCell ⟨a.heap.size,0,none⟩ (.int .i64 (n+1)):=⟨_,rfl⟩;have b6:Below a.heap.size a X:=u▸b5.setCell (p:=⟨a.heap.size,0,none⟩) (Nat.le_refl _) _;have k6:ai X a.heap.size 28 ((aY z).setIfInBounds 0 (.int .i64 (n+1))):=u▸k5.set 0 _;have s6:a.heap.size<X.heap.size:=k6.lt;have T:=ah b6;have D:=ah k6;have HX0:=ah (k6.cell 0);have y0:X.cell? ⟨a.heap.size,0,none⟩=some (.int .i64 (n+1)):=k6.cell 0;have y4:X.cell? ⟨a.heap.size,4,none⟩=some (.slice z.B.A z.B.n z.B.c):=k6.cell 4;have y5:X.cell? ⟨a.heap.size,5,none⟩=some (.slice z.L.A z.L.n z.L.c):=k6.cell 5;have HNx:=ah hnx;have HDc:=ah fun(W:World) (hW:Below a.heap.size a W)=>KE z.L.A z.L.n z.L.c bK W (by have:=l.out.bK;rw[t.out]at this;exact this.ae hW) l.out.Hs.cz r.out;have HPa:=ah fun(W:World) (hW:Below a.heap.size a W)=>Px z.B.A z.B.n z.B.c x.s.aZ (n+1) W (by have:=l.out.aZ;rw[t.out]at this;exact this.ae hW) (Nat.le_trans l.out.okB.cf (by unfold maxLen;omega)) l.out.okB.cz;have HDk:=ah (NU r.out);have F:Hid (bK.length<=200/\x.s.aZ.length<=1000):=⟨(gh.1 r.out).cf,by have h1:=l.out.aZ.cb;rw[t.out]at h1;simp only at h1;have h2:=l.out.okB.cf;omega⟩;clear hz hzs hled b4 hn hnx b5 k5 b6 k6;have hw2:w.heap.size+1<w2.heap.size:=HZ2.out.lt;have h24:=o.out.size
 have Z:Hid (∀(W:World) (L B:Sl) (k:List Us),Below a.heap.size a W->LdB w2.heap.size W L k->r6 W w2.heap.size B.A B.n B.c (iw x.s.aZ (n+1))->B.n<=1000->
  ∃Q,(#[.int .i64 (n+1),z.N.v,z.J.v,z.R.v,B.v,L.v,.int .i64 z.s.nj,.int .i64 z.s.nb]:Array Value)=aY Q/\gV w2.heap.size W Q/\Q.s=ig x.s k):=fun W L B k hW hl hb hf=>
  ⟨⟨{z.s with am:=n+1,bK:=k,aZ:=iw x.s.aZ (n+1)},z.jr,z.N,z.J,z.R,B,L⟩,rfl,HZb.out.clock hW hl hb hf,by
    show{z.s with am:=n+1,bK:=k,aZ:=iw x.s.aZ (n+1)}=_;rw[t.out,HNx.out];rfl⟩
 by_cases hp:(n+1) % 50=0
 ·have ep:((n+1) % 50==0)=true:=by simp[hp]
  clear hp;go_wp2_with(first|(rw[<-m];clear m;go_step)|refine dp rfl _ _ _ rfl HN5.out rfl rfl aT rfl rfl rfl ?_|(rw[<-u];clear u;go_step));refine(HDc.out _ T.out).mono ?_;rintro e w7 ⟨A7,d7,rfl,o7,b7⟩;rw[List.length_map]at o7⊢;have k7:=D.out.ae b7 D.out.lt;have z5:w7.cell? ⟨a.heap.size,5,none⟩=some (.slice z.L.A z.L.n z.L.c):=k7.cell 5;have g5:=k7.ao 5;obtain⟨V8,I⟩:∃V8,V8=w7.setCell ⟨a.heap.size,5,none⟩ (.slice A7 bK.length d7):=⟨_,rfl⟩;have k8:ai V8 a.heap.size 28 (((aY z).setIfInBounds 0 (.int .i64 (n+1))).setIfInBounds 5 (.slice A7 bK.length d7)):=I▸k7.set 5 _;have b8:Below a.heap.size a V8:=I▸(aa T.out b7).setCell (p:=⟨a.heap.size,5,none⟩) (Nat.le_refl _) _;have on8:aU a.heap.size w7 V8:=I▸aU.set _ _ _;have o8:=aV on8 o7 s6;have HO8:=ah o8;have HB8:=ah b8;have HK8:=ah k8;have u0:V8.cell? ⟨a.heap.size,0,none⟩=some (.int .i64 (n+1)):=k8.cell 0;have u4:V8.cell? ⟨a.heap.size,4,none⟩=some (.slice z.B.A z.B.n z.B.c):=k8.cell 4;clear o7 b7 k7 k8 b8 on8 o8;go_wp2_with(rw[<-I];clear I;go_step);refine(HPa.out _ HB8.out).mono ?_;rintro e w9 ⟨A9,d9,rfl,o9,b9⟩;have Y:=HK8.out.ae b9 HK8.out.lt;have z4:w9.cell? ⟨a.heap.size,4,none⟩=some (.slice z.B.A z.B.n z.B.c):=Y.cell 4;have g4:=Y.ao 4;obtain⟨f,d⟩:∃V,V=w9.setCell ⟨a.heap.size,4,none⟩ (.slice A9 (iw x.s.aZ (n+1)).length d9):=⟨_,rfl⟩;have i:Below a.heap.size a f:=d▸(aa HB8.out b9).setCell (p:=⟨a.heap.size,4,none⟩) (Nat.le_refl _) _
  have j:aU a.heap.size w9 f:=d▸aU.set _ _ _;have s9:a.heap.size<V8.heap.size:=HK8.out.lt;have O:=aV j o9 s9;obtain⟨Q,H,K,P⟩:=Z.out f ⟨A7,bK.length,d7⟩ ⟨A9,(iw x.s.aZ (n+1)).length,d9⟩ (bK.map GV) i (RZ (L:=⟨A7,bK.length,d7⟩) (aS (aV j (be.ae HO8.out b9) s6) (by omega)) (by show bK.length<=1000;have:=F.out;omega)) (aS O (by omega)) (by show(iw x.s.aZ (n+1)).length<=1000;have:=BT x.s.aZ (n+1);have:=F.out;omega)
  have M:ai f a.heap.size 28 (aY Q):=by
   rw[<-H,d];exact Y.set 4 _
  have E:=ah M;have G:Hid (ai f (w.heap.size+1) 28 dz):=HZ4.out.ae i hz4;have HZZ:=ah K;have HSz:=ah P;have C:=ah (aa HB4.out i);clear o9 b9 Y M i j O H K P;go_wp2_with(first|(rw[<-d];clear d;refine cr rfl _ _ rfl E.out rfl underlying28 rfl aT rfl ?_)|refine cr rfl _ _ rfl E.out rfl underlying28 rfl aT rfl ?_|refine dp rfl _ _ _ rfl G.out rfl rfl aT rfl rfl rfl ?_);refine eC (cs:=aY Q) rfl (ai.row G.out _) rfl rfl underlying28 rfl aT rfl rfl ?_;exact⟨Q,(bK.map GV),rfl,((HZZ.out.on (g:=w.heap.size+1) ⟨by rw[setRow_size];exact Nat.le_refl _,fun b _ hb=>setRow_other _ _ _ b hb⟩ hw2).mono (by have:=S.out.size;omega)),HSz.out,HDk.out,aH C.out (by omega) _⟩
 ·have ep:((n+1) % 50==0)=false:=by simpa using hp
  clear hp;go_wp2_with(first|(rw[<-m];clear m;go_step)|refine dp rfl _ _ _ rfl HN5.out rfl rfl aT rfl rfl rfl ?_|(rw[<-u];clear u;go_step));refine(HPa.out _ T.out).mono ?_;rintro e w9 ⟨A9,d9,rfl,o9,b9⟩;have Y:=D.out.ae b9 D.out.lt;have z4:w9.cell? ⟨a.heap.size,4,none⟩=some (.slice z.B.A z.B.n z.B.c):=Y.cell 4;have g4:=Y.ao 4;obtain⟨f,d⟩:∃V,V=w9.setCell ⟨a.heap.size,4,none⟩ (.slice A9 (iw x.s.aZ (n+1)).length d9):=⟨_,rfl⟩;have i:Below a.heap.size a f:=d▸(aa T.out b9).setCell (p:=⟨a.heap.size,4,none⟩) (Nat.le_refl _) _;have j:aU a.heap.size w9 f:=d▸aU.set _ _ _;have s9:a.heap.size<X.heap.size:=D.out.lt;have O:=aV j o9 s9;obtain⟨Q,H,K,P⟩:=Z.out f z.L ⟨A9,(iw x.s.aZ (n+1)).length,d9⟩ bK i (by have:=HZb.out.ae i;have q:=this.ldb;rw[t.out]at q;exact q) (aS O (by omega)) (by show(iw x.s.aZ (n+1)).length<=1000;have:=BT x.s.aZ (n+1);have:=F.out;omega)
  have M:ai f a.heap.size 28 (aY Q):=by
   rw[<-H,d];exact Y.set 4 _
  have E:=ah M;have G:Hid (ai f (w.heap.size+1) 28 dz):=HZ4.out.ae i hz4;have HZZ:=ah K;have HSz:=ah P;have C:=ah (aa HB4.out i);clear o9 b9 Y M i j O H K P;go_wp2_with(first|(rw[<-d];clear d;refine cr rfl _ _ rfl E.out rfl underlying28 rfl aT rfl ?_)|refine cr rfl _ _ rfl E.out rfl underlying28 rfl aT rfl ?_|refine dp rfl _ _ _ rfl G.out rfl rfl aT rfl rfl rfl ?_);refine eC (cs:=aY Q) rfl (ai.row G.out _) rfl rfl underlying28 rfl aT rfl rfl ?_;exact⟨Q,bK,rfl,((HZZ.out.on (g:=w.heap.size+1) ⟨by rw[setRow_size];exact Nat.le_refl _,fun b _ hb=>setRow_other _ _ _ b hb⟩ hw2).mono (by have:=S.out.size;omega)),HSz.out,r.out,aH C.out (by omega) _⟩
open Go renaming TypeId->Ti,Program->Pg
def xp(x:Sr)(w:Wd)(e:Ed)(w':Wd):Prop:=∃z A c,e=.returned (.tuple #[.agg (aY z),.slice A (gm (ef x.s).ag (oy x.s)).length c])/\gV w w' z/\z.s=ef x.s/\xn w' w A (gm (ef x.s).ag (oy x.s)).length c (gm (ef x.s).ag (oy x.s))/\Bl w w w'
def mc(am:Int)(l:List Nd)(bO:List Nat)(k:Nat):List Nd:=(bO.take k).foldl (fun l n=>match l[n]? with|none=>l|some x=>l.set n {x with ak:=am}) l
theorem Hi(am:Int)(l:List Nd)(bO:List Nat):mc am l bO 0=l:=rfl
theorem Hh{am:Int}{l:List Nd}{bO:List Nat}{x:Nd}(h:bO[k]?=some n)(hx:(mc am l bO k)[n]?=some x):mc am l bO (k+1)=(mc am l bO k).set n {x with ak:=am}:=by
 unfold mc at hx⊢;rw[aM h,lP];simp only[i9,List.foldl_nil,hx]
theorem Lp(am:Int)(l:List Nd)(bO:List Nat):∀k,(mc am l bO k).length=l.length:=by
 intro k;unfold mc;generalize bO.take k=r
 induction r generalizing l with
 |nil=>rfl
 |cons n r ih=>
  rw[i9,ih];split
  ·rfl
  ·simp
theorem yx{am:Int}{l:List Nd}:∀(r:List Nat) (m:List Nd) (i:Nat),m.length=l.length->(r.foldl (fun l n=>match l[n]? with|none=>l|some x=>l.set n {x with ak:=am}) m)[i]?=m[i]?.map (fun x=>if i∈r then{x with ak:=am}else x)
 |[],m,i,_=>by simp
 |n::r,m,i,hm=>by
  rw[i9]
  cases hx:m[n]? with
  |none=>
   simp only;rw[yx r m i hm];by_cases e:i=n
   ·subst e;rw[hx];rfl
   ·simp[e]
  |some x=>
   simp only;rw[yx r _ i (by simpa using hm),lX];by_cases e:n=i
   ·subst e;obtain⟨a,rfl⟩:=cA.1 hx;simp[a]
   ·rw[cL e];have:¬i=n:=fun h=>e h.symm;simp[this]
theorem O0(s:St):mc s.am s.ag (pw (lp s.am) s.ag s.ag.length) (pw (lp s.am) s.ag s.ag.length).length=(ef s).ag:=by
 unfold mc;rw[cT];apply nY;intro i;rw[yx (l:=s.ag) _ _ _ rfl];show _=(s.ag.map (pv s.am))[i]?;rw[dD]
 cases hx:s.ag[i]? with
 |none=>rfl
 |some x=>
  simp only[fI]
  congr 1
  unfold pv
  have:i∈pw (lp s.am) s.ag s.ag.length↔lp s.am x=true:=by
   rw[pl];constructor
   ·rintro⟨y,h1,h2⟩;rw[hx]at h1;cases h1;exact h2
   ·exact fun h=>⟨x,hx,h⟩
  by_cases h:lp s.am x=true
  ·rw[cK h,cK (this.2 h)]
  ·rw[cL h,cL (fun a=>h (this.1 a))]
variable{P:Pg}
theorem cv{c:Array Oper}{Q:Exit->Act->Wd->Prop}{i:Nat}{o:Oper}{K:Act->Wd->Prop}{a:Act}(b:Ti)(x y:Operand)(g:Nat)(cells:Array Vl)(hi:c[i]?=some o)(d:o.dst=none)(f:o.op=.store b x y)(hw:Region.wanted o (yielded c a.tmps)=true)
 (hx:a.eval x=.pointer g)(j:a.eval y=.agg cells){t:Ti}{old:Array Vl}(e:ai w g t old)(hs:(P.info? b).map (·.size)=some cells.size)(k:old.size=cells.size)(h1:cells.toList.all (·.oneCell')=true)
 (h:∀W,W=w.setRow g cells->K a W):wpOp P c Q i K a w:=by
 unfold wpOp;rw[hi];simp only[hw,oT];refine .inl (wp_store_row b x y f g cells hx j t old e hs k (by simpa using h1) ?_);rw[d];exact h _ rfl
theorem P2{c:Region.Mode}{d:Array Oper}{Q:Exit->Act->Wd->Prop}{R S:Wd->Prop}{T g:Array Bool}{a:Act}(e:clean T g=true)(b:Region.ready c d g=[])(h:Q .normal a w):∀n,qX P c d Q R S T n g a w
 |0=>⟨b,h⟩
 |n+1=>by
  unfold qX;rw[cL (by simp[e])];exact⟨fun _=>h,by rw[b];simp⟩
theorem Co.hiN{c:Nat}(h:Co w c b1 b2 b3 b4 b5 x)(h1:w.heap.size<=W)(h2:∀b,b1<=b->b<w->W.heap[b]?=w.heap[b]?):
 pO W x.J.A x.J.n x.jr/\MT W x.R.A x.R.n x.s.bx/\Mo W x.B.A x.B.n x.s.aZ/\Aw W x.L.A x.L.n x.s.bK:=by
 have e:=h.u2;have f:=h.u3;have g:=h.u4;have i:=h.u5;exact⟨⟨(bS h.aj h1 h2).et ek,fun r d=>((h.nest r d).hi h1 fun b a=>h2 b (by omega)).mE⟩,(bS h.bx h1 fun b a=>h2 b (by omega)).et ju,(bS h.aZ h1 fun b a=>h2 b (by omega)).et sS,(bS h.bK h1 fun b a=>h2 b (by omega)).et na⟩
abbrev ReIn(am:Int)(l:List Nd)(B a:Nat)(b:Wd)(n c:Nat)(bO:List Nat)(Y:Vl)(wr:Wd):Prop:=∃k:Nat,k<=bO.length/\Y=.int .i64 k/\mK wr B a n c (mc am l bO k)/\aU a b wr/\Bl B b wr
set_option maxRecDepth 100000 in
theorem H7(x:Sr)(w:World)(h:db w x)(g:bt x.s):Calls prog 40 #[.agg (aY x)] w (xp x w):=by
 obtain⟨V,hV⟩:∃V,V=(w.alloc (.cells (aY x) 28)).alloc (.cells dz 28):=⟨_,rfl⟩;have bV:Below w.heap.size w V:=hV▸aC;have kV:ai V w.heap.size 28 (aY x):=hV▸(ai.new _ _ _).alloc _;have zV:ai V (w.heap.size+1) 28 dz:=by rw[hV];have:=ai.new (w.alloc (.cells (aY x) 28)) 28 dz;simpa using this
 have HC:=ah (da x V (h.ae bV) g);have HCp:=ah fun(W:World) (F:Below w.heap.size w W)=>gQ x W (h.ae F);have HB:=ah bV;have HK:=ah kV;have HZ:=ah zV;have HG:=ah g;have hn0:=ej.1 g.am;have heg:=DP;clear h g bV kV zV;go_enter func40,ntmps40;go_wp2_with fail;rw[<-hV];clear hV;go_wp2_with(refine cr rfl _ _ rfl HK.out rfl underlying28 rfl aT rfl ?_);refine av HC.out fun w2 b2=> ?_;have HB2:=ah (aa HB.out b2);have HK2:=ah (HK.out.ae b2 HK.out.lt);have O:=ah (HZ.out.ae b2 HZ.out.lt);clear b2;go_wp2_with(refine cr rfl _ _ rfl HK2.out rfl underlying28 rfl aT rfl ?_);refine(HCp.out _ HB2.out).mono ?_;rintro e d ⟨y,b1,c2,c3,c4,c5,rfl,l,f,hc5,b3⟩;obtain⟨am,K⟩:∃n,n=y.s.am:=⟨_,rfl⟩;have hnx:am=x.s.am:=by rw[K,l]
 have C:=ah b3;have HYs:=ah l;have z:=ah f;have hnn:0<y.N.n:=by have:=(cQ.1 HG.out.ag).some;have:=f.ag.1;rw[l]at this;omega
 obtain⟨m,x0,eN,hg1,hg3,-⟩:=bh mb f.ag hnn;have hgb:m<b1:=f.hN (by have:=f.ag.2.le;omega) m eN;have M:=ah eN;have HN5:Hid (ai (d.alloc (.cells dz 28)) d.heap.size 28 dz):=ai.new _ _ _;obtain⟨X,P⟩:∃X,X=(d.alloc (.cells dz 28)).setRow d.heap.size (aY y):=⟨_,rfl⟩;have b5:Below d.heap.size d X:=P▸aD;have k5:ai X d.heap.size 28 (aY y):=P▸ai.row HN5.out _;have y0:X.cell? ⟨d.heap.size,0,none⟩=some (.int .i64 am):=K▸k5.cell 0
 have y1:X.cell? ⟨d.heap.size,1,none⟩=some (.slice (some ⟨m,0,none⟩) y.N.n y.N.c):=by
  have e:(aY y)[1]?=some (.slice y.N.A y.N.n y.N.c):=rfl;rw[eN]at e;exact(k5.cell 1).trans e
 have HM:=ah (BH 93 am (lp am) DP (some ⟨m,0,none⟩) y.N.n y.N.c y.s.ag X (by rw[<-eN];exact(f.mE.ag).ae b5) f.fN fun s W' hs hW'=>Ka am s W' (by rw[hnx];exact hn0) (xX ((cQ.1 HG.out.ag).m6 s (by rw[l]at hs;exact hs))).2);have HK5:=ah k5;have HB5:=ah b5;have HNX:=ah hnx;have HYX:Hid (x.s.am=y.s.am):=by show _=_;rw[l]
 have a:=ah l;clear f l hc5 b3 b5 k5 K hnx eN;go_wp2_with(first|(rw[<-P];clear P;go_step)|refine dp rfl _ _ _ rfl HN5.out rfl rfl aT rfl rfl rfl ?_);refine HM.out.mono ?_;rintro e w6 ⟨I,ni,ci,rfl,hni,Q,b6⟩;obtain⟨bO,H⟩:∃bO,bO=pw (lp am) y.s.ag y.s.ag.length:=⟨_,rfl⟩;rw[<-H]at Q;have hil:bO.length=ni:=by have:=Q.1;simpa [dL]using this
 subst hil;have E:=ah H;have HIo:=ah Q;have D:=ah (aa HB5.out b6);have s3:d.heap.size<X.heap.size:=HK5.out.lt;have s6:=D.out.size;have HK6:=ah (HK5.out.ae b6 HK5.out.lt);have HNl:Hid (y.s.ag.length=y.N.n):=z.out.ag.1;have hids1:bO.length<=1000:=by have h1:=HNl.out;have h2:=z.out.fN;omega
 have h6:Hid (mK w6 w2.heap.size (some ⟨m,0,none⟩) y.N.n y.N.c (mc am y.s.ag bO 0)):=by show mK _ _ _ _ _ _;rw[Hi,<-M.out];exact z.out.ag.ae D.out
 clear H Q b6 y0 y1;go_wp2_with fail
 go_loopw [22] (fun Y wr=>ReIn am y.s.ag w2.heap.size m w6 y.N.n y.N.c bO Y wr) (fun Y _=>bO.length-(intOf Y).toNat)
 case atStart=>exact⟨0,Nat.zero_le _,rfl,h6.out,aU.refl _ _,Below.refl _ _⟩
 case round=>
  obtain⟨k,hk,rfl,ho,hon,Z⟩:=hrel;have HO:=ah ho;have u:=ah hon;have U:=ah Z;have t:Hid (ai wr d.heap.size 28 (aY y)):=(hon.same _ HK6.out.lt (by omega)).trans HK6.out;clear ho hon Z;by_cases hlt:k<bO.length
  ·obtain⟨b,off,v,rfl,hb,hv,d0⟩:=cp.int ((aV u.out HIo.out (by omega)).et gi) hlt
   obtain⟨n,hn,rfl⟩:∃n,bO[k]?=some n/\(n:Int)=v:=by
    unfold dL at hv;rw[List.getElem?_map]at hv;obtain⟨n,h1,h2⟩:=Option.map_eq_some_iff.1 hv;exact⟨n,h1,h2⟩
   have hnl:n<y.N.n:=by
    have hm:=List.mem_of_getElem? hn;rw[E.out]at hm;have:=Do n hm;rw[HNl.out]at this;exact this
   have hnl2:(mc am y.s.ag bO k).length=y.N.n:=by rw[Lp,HNl.out]
   have hx:=List.getElem?_eq_getElem (show n<(mc am y.s.ag bO k).length by omega);obtain⟨q,hq⟩:∃q,q=(mc am y.s.ag bO k)[n]'(by omega):=⟨_,rfl⟩;rw[<-hq]at hx;have hsn:=Hh hn hx;have ho':=eW mb HO.out n 6 (by omega) hx (x:={q with ak:=am}) (v:=.int .i64 am) rfl;rw[<-hsn]at ho';obtain⟨g',q',eA',-,-,S,hc',hf'⟩:=bh mb HO.out hnl;injection eA' with e'
   injection e' with e';subst e';rw[hx]at S;injection S with S;subst S;have cc:=hc' 6 _ rfl;have ff:=(hf' 6 (by omega)).2;have y0:wr.cell? ⟨d.heap.size,0,none⟩=some (.int .i64 am):=by rw[HNX.out,HYX.out];exact t.out.cell 0
   have y1:wr.cell? ⟨d.heap.size,1,none⟩=some (.slice (some ⟨m,0,none⟩) y.N.n y.N.c):=by
    have e:(aY y)[1]?=some (.slice y.N.A y.N.n y.N.c):=rfl;rw[M.out]at e;exact(t.out.cell 1).trans e
   have HNx:Hid (ReIn am y.s.ag w2.heap.size m w6 y.N.n y.N.c bO (.int .i64 ((k:Int)+1)) (wr.setCell ⟨m,n*7+6,none⟩ (.int .i64 am))):=⟨k+1,by omega,by go_num,ho',u.out.trans (aU.set _ _ _),U.out.setCell (p:=⟨m,n*7+6,none⟩) hg1 _⟩;clear hv hn hq hx hsn ho' hc' hf' hnl2;go_wp2_with fail;exact⟨HNx.out,by simp[intOf];omega⟩
  ·obtain rfl:k=bO.length:=by omega
   have hgl:m<w6.heap.size:=by omega
   have HZr:Hid (ai wr (w.heap.size+1) 28 dz):=by
    have hz2:=O.out.lt;have h3:=C.out.size;exact(u.out.same _ (by omega) (by omega)).trans (((O.out.ae C.out hz2).ae D.out (by omega)))
   have HIs:Hid (dL bO=oy x.s):=by show _=_;rw[E.out,a.out,HNX.out];rfl
   have HMk:Hid (mc am y.s.ag bO bO.length=(ef x.s).ag):=by show _=_;rw[E.out,a.out,HNX.out];exact O0 x.s
   have ho:=HO.out;rw[HMk.out]at ho;have HNo:=ah fun(W:World) (F:Below wr.heap.size wr W)=>BO (some ⟨m,0,none⟩) y.N.n y.N.c (ef x.s).ag I bO.length ci (dL bO) W ((ho.et mb).ae F) (Nat.le_trans z.out.fN (by unfold maxLen;omega)) (((aV u.out HIo.out (by omega)).et gi).ae F) (by omega);rw[HIs.out]at HNo;obtain⟨tl,htl⟩:∃tl,tl=gm (ef x.s).ag (oy x.s):=⟨_,rfl⟩;rw[<-htl]at HNo;have HTl:=ah htl;clear htl;have HNd:=ah ho;clear ho;have b0:Below wr.heap.size wr wr.drew:=Below.drew (Below.refl _ _);go_wp2_with fail;refine vA (fun W=>ai W d.heap.size 28 (aY y)) (fun _=>True) #[false,false,false,false,false,false,false] (by kernel_rfl) ?_;have k0:ai wr.drew d.heap.size 28 (aY y):=t.out.ae b0 t.out.lt;refine jU (i:=0) (v:= ?q0) (some 34) rfl rfl (by kernel_rfl) (by kernel_rfl) (by kernel_rfl) (by kernel_rfl) (by kernel_rfl) (fun _ _ _ h=>h) (Or.inl ⟨by rfl,?g0⟩) k0 trivial ?s0
   case g0=>
    intro W F;obtain⟨c0,c1,c2',c3',c4',c5',c6,c7⟩:=T6 F;go_simp
    try rfl
   refine jU (i:=1) (v:= ?q1) (some 35) rfl rfl (by kernel_rfl) (by kernel_rfl) (by kernel_rfl) (by kernel_rfl) (by kernel_rfl) (fun _ _ _ h=>h) (Or.inl ⟨by rfl,?g1⟩) k0 trivial ?s1
   case g1=>
    intro W F;go_simp
    try rfl
   refine jU (i:=2) (v:= ?q2) (some 36) rfl rfl (by kernel_rfl) (by kernel_rfl) (by kernel_rfl) (by kernel_rfl) (by kernel_rfl) (fun _ _ _ h=>h) (Or.inl ⟨by rfl,?g2⟩) k0 trivial ?s2
   case g2=>
    intro W F
    have c1:W.cell? ⟨d.heap.size,1,none⟩=some (.slice (some ⟨m,0,none⟩) y.N.n y.N.c):=by
     have e:(aY y)[1]?=some (.slice y.N.A y.N.n y.N.c):=rfl;rw[M.out]at e;exact(F.cell 1).trans e
    go_simp
    try rfl
   refine jU (i:=3) (v:= ?q3) (some 37) rfl rfl (by kernel_rfl) (by kernel_rfl) (by kernel_rfl) (by kernel_rfl) (by kernel_rfl) (fun _ _ _ h=>h) (Or.inl ⟨by rfl,?g3⟩) k0 trivial ?s3
   case g3=>
    intro W F;go_simp
    try rfl
   refine gR (i:=4) (by kernel_rfl) (by kernel_rfl) ?_;refine ea 94 #[.slice (some ⟨m,0,none⟩) y.N.n y.N.c,.slice I bO.length ci] (some 38) rfl rfl (by rfl) ?_ ?_
   ·go_simp
   refine(HNo.out _ b0).mono ?_;rintro e W8 ⟨A8,d8,rfl,o8,b8⟩;have p8:=aa b0 b8;have k8:ai W8 d.heap.size 28 (aY y):=t.out.ae p8 t.out.lt;have z8:ai W8 (w.heap.size+1) 28 dz:=HZr.out.ae p8 HZr.out.lt;refine⟨_,rfl,⟨k8,trivial⟩,?_⟩;refine gR (i:=5) (by kernel_rfl) (by kernel_rfl) ?_;refine cv 28 (.tmp 2) (.tmp 34) (w.heap.size+1) (aY y) rfl rfl rfl (by rfl) (by rfl) (by rfl) z8 aT rfl rfl ?_;intro W9 G;have hne9:d.heap.size≠w.heap.size+1:=by have:=O.out.lt;have:=C.out.size;omega
   have k9:ai W9 d.heap.size 28 (aY y):=G▸ai.gu k8 hne9 _;refine⟨⟨k9,trivial⟩,?_⟩;refine jU (i:=6) (v:= ?q6) (some 3) rfl rfl (by kernel_rfl) (by kernel_rfl) (by kernel_rfl) (by kernel_rfl) (by kernel_rfl) (fun _ _ _ h=>h) (Or.inl ⟨by rfl,?g6⟩) k9 trivial ?s6
   case g6=>
    intro W F;go_simp
    try rfl
   refine P2 (by kernel_rfl) (by kernel_rfl) ?_ _;have HZ9:Hid (ai W9 (w.heap.size+1) 28 (aY y)):=by show ai _ _ _ _;rw[G];exact ai.row z8 _
   have HFin:Hid (xp x w (.returned (.tuple #[.agg (aY y),.slice A8 tl.length d8])) W9):=by
    have T:aU (w.heap.size+1) W8 W9:=G▸⟨by rw[setRow_size];exact Nat.le_refl _,fun b _ hb=>setRow_other _ _ _ b hb⟩;have hz2:=O.out.lt;have h3:=C.out.size;have hwr:=u.out.size;have hb2:=HB2.out.size
    have hsx:aY ⟨ef x.s,y.jr,y.N,y.J,y.R,y.B,y.L⟩=aY y:=by
     show(#[.int .i64 x.s.am,_,_,_,_,_,.int .i64 x.s.nj,.int .i64 x.s.nb]:Array Value)= #[.int .i64 y.s.am,_,_,_,_,_,.int .i64 y.s.nj,.int .i64 y.s.nb];rw[a.out]
    have o:∀{W:World},(∀b,w.heap.size<=b->b<W9.heap.size->W.heap[b]?=W9.heap[b]?)->∀b,w2.heap.size<=b->b<wr.heap.size->W.heap[b]?=wr.heap[b]?:=fun{W} h2 b hb hl=>by
     have q1:b<W8.heap.size:=Nat.lt_of_lt_of_le hl p8.size;have q2:b<W9.heap.size:=Nat.lt_of_lt_of_le q1 T.size;exact(h2 b (by omega) q2).trans ((T.same b q1 (by omega)).trans (p8.block b hl))
    refine⟨⟨ef x.s,y.jr,y.N,y.J,y.R,y.B,y.L⟩,A8,d8,?_,?_,rfl,?_,?_⟩
    ·rw[hsx,HTl.out]
    ·intro W h1 h2;have hs9:wr.heap.size<=W.heap.size:=Nat.le_trans p8.size (Nat.le_trans T.size h1);have hn:=bS HNd.out hs9 (o h2);obtain⟨a1,a2,a3,a4⟩:=z.out.hiN (W:=W) (by omega) fun b hb hl=>(o h2 b (by omega) (by omega)).trans ((u.out.same b (by omega) (by omega)).trans (D.out.block b hl));rw[a.out]at a2 a3 a4;have hI:=z.out.mE;refine⟨by show tm W y.N.A y.N.n (ef x.s).ag;rw[M.out];exact hn.et mb,a1,by show y.jr.map Jr.j=x.s.aj;rw[hI.jr,a.out],a2,a3,a4,hI.BP,hI.fg,hI.Mr,hI.okB,hI.Hs,fun r hr=>hI.kk r (by rw[a.out];exact hr)⟩
    ·rw[<-HTl.out];exact aS (aV T o8 (by show w.heap.size+1<wr.drew.heap.size;have:wr.drew.heap.size=wr.heap.size:=rfl;omega)) (by show w.heap.size<=wr.drew.heap.size;have:wr.drew.heap.size=wr.heap.size:=rfl;omega)
    ·rw[G];exact aH (aa HB2.out (C.out.trans ((D.out.mono h3).trans (U.out.trans (p8.mono (by omega)))))) (by omega) _
   clear p8 k8 z8 o8 b8 b0 k0 G;simp only[Act.put,aE,aF,aG];go_wp2_with fail;refine eC (cs:=aY y) rfl HZ9.out rfl rfl underlying28 rfl aT rfl rfl ?_;exact HFin.out
set_option maxRecDepth 100000
variable{α:Type}
theorem Ni{f:α->List Vl}(p:wU f k)(W:Wd)(base:Nat)(t x e:Ti)(z:Vl)(F:Nat)(ht:P.underlying t=some (.slice e))(G:(P.info? e).map (fun i=>(i.zero,i.size,i.bytes))=some (some z,k,F))
 (g n c:Nat)(l:List α)(o:be f k W base g n c l)(B:OA)(m d:Nat)(b:List α)(q:cp f k W B m b)(v:n+m<=c)(D:0<c):
 (Builtin.append_ #[t,t] x #[.slice g n c,.slice B m d]).run P W=.ok (.slice g (n+m) c) (W.setCells g (n*k) (b.flatMap f))/\be f k (W.setCells g (n*k) (b.flatMap f)) base g (n+m) c (l++b):=by
 obtain⟨i,hi,L,J,M⟩:=sB G;subst J;have hs:=cp.src p q d ht;obtain⟨K,u,E,I,h1,h2⟩:=o.2.room D;replace u:=aI u;subst u;have C:(b.flatMap f).length=m*i.size:=by rw[gL p,q.cb]
 have r:∀j,j<(b.flatMap f).length->n*i.size+j<c*i.size:=fun j a=>by
  rw[C]at a;have:=lU i.size v;rw[l7]at this;omega
 have y:=run_append_room_src (P:=P) W t t x e i ht hi g 0 n c (.slice B m d) m _ hs v (fun j a=>by rw[cR];exact(h2 _ (r j a)).1) (fun j a=>by rw[cR];exact(h2 _ (r j a)).2);rw[cR]at y;refine⟨y,by rw[cY,o.1,q.cb],by rw[gL p,cY,o.1,q.cb],v,o.2.max,fun _=>⟨g,rfl,E,by rw[gc];exact I,fun j a=> ?_,fun j a=> ?_⟩,fun h=>by cases h⟩
 ·rw[rE];have A:(l.flatMap f).length=n*i.size:=by rw[gL p,o.1]
  by_cases w:j<n*i.size
  ·rw[nE g _ _ W ⟨g,j,none⟩ (fun _ _=> .inl w),h1 j w,iL (by rw[A];exact w)]
  ·have s:j-n*i.size<(b.flatMap f).length:=by rw[C];rw[l7]at a;omega
   have:=nJ g (b.flatMap f) (n*i.size) W (fun j a=>(h2 _ (r j a)).1) (j-n*i.size) s;rw[show n*i.size+(j-n*i.size)=j by omega]at this;rw[this,dU (by omega),A,cE s]
 ·rw[World.frozen?_setCells];refine⟨?_,(h2 j a).2⟩;by_cases H:j<n*i.size\/n*i.size+(b.flatMap f).length<=j
  ·rw[nE g _ _ W ⟨g,j,none⟩ (fun _ _=>H)];exact(h2 j a).1
  ·have s:j-n*i.size<(b.flatMap f).length:=by omega
   have:=nJ g (b.flatMap f) (n*i.size) W (fun j a=>(h2 _ (r j a)).1) (j-n*i.size) s;rw[show n*i.size+(j-n*i.size)=j by omega]at this;rw[this];rfl
theorem OY{f:α->List Vl}{off:Nat}{l:List α}(h:cp f k w (some ⟨b,off,none⟩) n l)(j:Nat)(o:j<=n):cp f k w (some ⟨b,off+j*k,none⟩) (n-j) (l.drop j):=by
 refine⟨by have:=h.cb;simp;omega,fun r a=> ?_,fun hn=> ?_⟩
 ·obtain⟨x,hx,rfl⟩:=cS.1 a;exact Cells.eZ h _ (cS.2 ⟨x,oX hx,rfl⟩)
 ·obtain⟨m,p,e,g,c⟩:=Cells.at_ h (by omega);injection e with e;injection e with e1 e2;subst e1 e2;refine⟨b,off+j*k,rfl,g,fun i r a q v d=> ?_⟩;rw[dD,iO,<-dD]at a;have:=c (j+i) r a q v d;rw[l7]at this;rw[show off+j*k+i*k+q=off+(j*k+i*k)+q by omega];exact this
theorem FD{f:α->List Vl}(b:wU f k){c:Nat}{l:List α}(h:be f k w base g n c l)(o:Nat)(a:List Vl)(h1:n*k<=o)(h2:o+a.length<=c*k):be f k (w.setCells g o a) base g n c l:=
 j8 b h h.1 o a h2 fun j d=>by rw[cL (by omega)]
theorem Ei(l:List α)(i:Nat):l.take i++l.drop (i+1)=l.eraseIdx i:=(List.eraseIdx_eq_take_drop_succ l i).symm
def TT(base a n c:Nat)(l:List Rz)(w:Wd)(e:Ed)(w':Wd):Prop:=e=.returned (.slice a n c)/\r8 w' base a n c l/\Bl base w w'/\aU a w w'
theorem rq{b:Array Oper}{Q:Exit->Act->Wd->Prop}{i:Nat}{o:Oper}{K:Act->Wd->Prop}{a:Act}{w':Wd}{t u:Ti}{v c r:Vl}(d:Option Tmp)(s x:Operand)(hi:b[i]?=some o)(e:o.dst=d)(f:o.op=.call {callee:=.builtin .append,args:= #[s,x],argTypes:= #[t,u]})(hw:Region.wanted o (yielded b a.tmps)=true)
 (hs:a.eval s=v)(hx:a.eval x=c)(g:(Builtin.append_ #[t,u] o.type #[v,c]).run P w=.ok r w')(h:∀W,W=w'->K (a.put d r) W):wpOp P b Q i K a w:=by
 subst e;unfold wpOp;rw[hi];simp only[hw,oT];refine .inl ?_;unfold Oper.wp execOp;simp only[f,resolve,invoke,builtin,nU,n7,o0,List.map_toArray,lY,List.map_nil,hs,hx,g];exact h _ rfl
theorem PE(base a n c i:Nat)(l:List Rz)(w:Wd)(h:r8 w base a n c l)(hi:i<n)(hn:n<=1000)(m:base<=a):
 Cs prog 375 #[.slice a n c,i,((i:Int)+1:Int)] w (TT base a (n-1) c (l.eraseIdx i) w):=by
 have yV:=h.2.le;have yU:=h.2.max;unfold maxLen at yU;have K:=h.1;have e1:((i:Int)==(i:Int)+1)=false:=by simp only[dQ,ne_eq];omega
 have e2:(i:Int)<=(i:Int)+1:=by omega
 have H:=ah (Cb ju h i (by omega));have F:=ah (fun(W:Wd) (d:W=w.drew) (B:OA) (hs:cp mJ 5 W B (n-(i+1)) (l.drop (i+1)))=>Ni ju (P:=prog) W base 24 24 37 _ 40 underlying24 PJ a i c (l.take i) (by rw[d];exact(H.ae (nT bR))) B (n-(i+1)) (c-(i+1)) (l.drop (i+1)) hs (by omega) (by omega));have U:=ah h;have V:=ah K;have I:Hid (i+(n-(i+1))=n-1):=by show _=_;omega
 have i1:(0:Int)<=(i:Int):=by omega
 have i2:(i:Int)<=(c:Int):=by omega
 have i3:(i:Int)+1<=(n:Int):=by omega
 have i4:(n:Int)<=(c:Int):=by omega
 clear h K
 have yG:∃(B:OA),(c=i+1->B=some ⟨a,0,none⟩)/\(c≠i+1->B=some ⟨a,(i+1)*5,none⟩)/\∀W,W=w.drew->cp mJ 5 W B (n-(i+1)) (l.drop (i+1)):=by
  by_cases e:c=i+1
  ·refine⟨_,fun _=>rfl,fun h=>absurd e h,fun W d=> ?_⟩;have:n=i+1:=by omega
   have Y:l.drop (i+1)=[]:=List.drop_of_length_le (by have:=V.out;omega);rw[Y,show n-(i+1)=0 by omega];exact⟨rfl,fun r Z=>by simp at Z,fun h=>absurd h (by omega)⟩
  ·refine⟨_,fun h=>absurd h e,fun _=>rfl,fun W d=> ?_⟩;have:=OY (U.et ju) (i+1) (by omega);rw[cR]at this;rw[d];exact this.ae (nT bR)
 obtain⟨B,D,A,J⟩:=yG;obtain⟨p,k⟩:=F w.drew rfl B (J _ rfl);rw[I.out,Ei]at k;rw[I.out]at p;obtain⟨f,q⟩:=nm (w.drew.setCells a (i*5) ((l.drop (i+1)).flatMap mJ));rw[<-q]at p k;have S:aU a w f:=q▸⟨by rw[gc];exact cB _,fun b _ m=>jW _ _ _ _ b m⟩;have O:Bl base w f:=q▸bP (nT bR) m _ _;have G:=ah p;have HO:=ah k;have R:=ah S;have T:=ah O;obtain⟨g',t,-,-,-,y⟩:=k.2.room (by omega);replace t:=aI t;subst t;have s:(Builtin.zeroCells (Value.agg #[(),false,.int .u64 0,.int .u64 0,()]).cells 1).size=1*5:=by rw[oM];rfl
 have o:∀g,(Builtin.clear_ #[24] g #[.slice (some ⟨a,(n-1)*5,none⟩) 1 (c-(n-1))]).run prog f=.ok (.tuple #[]) (f.setCells a ((n-1)*5) (Builtin.zeroCells (Value.agg #[(),false,.int .u64 0,.int .u64 0,()]).cells 1).toList):=fun g=>
  iz f 24 37 g _ underlying24 SK a ((n-1)*5) 1 (c-(n-1)) (by omega) (fun v hv=>iu hv (by intro u L;simp[Value.cells]at L;rcases L with rfl|rfl|rfl|rfl<;>rfl)) (fun j x=>(y _ (by rw[s]at x;omega)).1) (fun j x=>(y _ (by rw[s]at x;omega)).2)
 have z:=ah (FD ju k ((n-1)*5) (Builtin.zeroCells (Value.agg #[(),false,.int .u64 0,.int .u64 0,()]).cells 1).toList lr (by rw[oC,s];omega));obtain⟨E,N⟩:=nm ((Builtin.zeroCells (Value.agg #[(),false,.int .u64 0,.int .u64 0,()]).cells 1).toList);rw[<-N]at o z;have M:n-(n-1)=1:=by omega
 have Q:Hid (∀g,(Builtin.clear_ #[24] g #[.slice (some ⟨a,(n-1)*5,none⟩) (n-(n-1)) (c-(n-1))]).run prog f=.ok (.tuple #[]) (f.setCells a ((n-1)*5) E)):=fun g=>by rw[M];exact o g
 have nc:¬c=n-1:=by omega
 clear p k S O y s o N J F H q M;by_cases e:c=i+1
 ·obtain rfl:=D e;have yT:=ah e;clear D A e;go_in;go_wp2;refine bW (fun _=>True) (fun _=>True) #[] [6] 0 [0,1,2,3,4,5,6,7] (by kernel_rfl) (by kernel_rfl) trivial trivial ?_
  iterate 5
   refine lqe rfl (fun _ _ _ _ h=>h) ⟨?_,fun W d _=> ?_,?_⟩;rotate_left
   ·go_simp
    try rfl
  refine C0 (.slice a (n-(i+1)) (c-(i+1))) rfl rfl rfl (fun _ _ _ h=>h) (fun W d _=> ?_) ?_
  ·have e:=yT.out;go_simp
   all_goals first|omega|(intro h;omega)
  refine gN rfl rfl (rq (some 26) (.tmp 22) (.tmp 25) rfl rfl rfl (by rfl) (by rfl) (by rfl) G ?_);intro X C;refine⟨trivial,trivial,?_⟩;refine lqe rfl (fun _ _ _ _ h=>h) ⟨?_,fun W d _=> ?_,?_⟩;rotate_left
  ·go_simp
   try rfl
  refine ew ?_;simp only[aP,aW];rw[C];have o:=Q.out;go_wp2;go_ret;refine⟨rfl,z,bP T m E _,R.trans (aU.pM _ _ _)⟩
 ·obtain rfl:=A e;clear D A;go_in;go_wp2;refine bW (fun _=>True) (fun _=>True) #[] [6] 0 [0,1,2,3,4,5,6,7] (by kernel_rfl) (by kernel_rfl) trivial trivial ?_
  iterate 5
   refine lqe rfl (fun _ _ _ _ h=>h) ⟨?_,fun W d _=> ?_,?_⟩;rotate_left
   ·go_simp
    try rfl
  refine C0 (.slice (some ⟨a,(i+1)*5,none⟩) (n-(i+1)) (c-(i+1))) rfl rfl rfl (fun _ _ _ h=>h) (fun W d _=> ?_) ?_
  ·go_simp
   all_goals first|omega|(intro h;omega)
  refine gN rfl rfl (rq (some 26) (.tmp 22) (.tmp 25) rfl rfl rfl (by rfl) (by rfl) (by rfl) G ?_);intro X C;refine⟨trivial,trivial,?_⟩;refine lqe rfl (fun _ _ _ _ h=>h) ⟨?_,fun W d _=> ?_,?_⟩;rotate_left
  ·go_simp
   try rfl
  refine ew ?_;simp only[aP,aW];rw[C];have o:=Q.out;go_wp2;go_ret;refine⟨rfl,z,bP T m E _,R.trans (aU.pM _ _ _)⟩
end Go.Proofs.YthfhilggbbobmaaGreatDoor
