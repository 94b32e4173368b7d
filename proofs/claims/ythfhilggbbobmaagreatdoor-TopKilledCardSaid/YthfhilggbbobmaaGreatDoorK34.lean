/- Parts of the proof. -/
import Derived.Test.YthfhilggbbobmaaGreatDoorK31
set_option linter.all false
set_option maxHeartbeats 20000000
namespace Go.Proofs.YthfhilggbbobmaaGreatDoor
set_option maxRecDepth 100000
open Go.Proofs.Tryz
open Go renaming World->Wd,Value->Vl,Ending->Ed,Calls->Cs
open Go.RowKit renaming Below->Bl
open Go.RowKit
structure Ou where
 kd:Int
 tx:ByteArray
 nt:Nt
 jb:Int
 at_:Int
 ra:Bool
def wn(x:Ou):List Vl:=[x.kd,.string x.tx,x.nt.kd,x.nt.nd,x.nt.jb,x.nt.ep,x.jb,x.at_,x.ra]
abbrev TS:=cp wn 9
abbrev fY:=be wn 9
theorem jg:wU wn 9:=⟨fun _=>rfl,fun x u a=>by simp[wn]at a;rcases a with rfl|rfl|rfl|rfl|rfl|rfl|rfl|rfl|rfl<;>rfl,by omega⟩
theorem ja:(prog.info? 92).map (fun i=>(i.zero,i.size,i.bytes))=some (some (.agg #[(),.string ByteArray.empty,(),(),(),(),(),(),false]),9,80):=by kernel_rfl
def zk(n:Nt):Ou:=⟨2,ByteArray.empty,n,0,0,false⟩
def Au(l:List Nt)(w:Wd)(e:Ed)(w':Wd):Prop:=∃A c,e=.returned (.slice A l.length c)/\fY w' w A l.length c (l.map zk)/\Bl w w w'
abbrev SeRel(w:Wd)(l:List Nt)(X Y:Vl)(wr:Wd):Prop:=∃(k:Nat) (A:OA) (c:Nat),k<=l.length/\X=.slice A k c/\Y=.int .i64 k/\fY wr w A k c ((l.take k).map zk)/\Bl w w wr
theorem j7(B:OA)(d:Nat)(l:List Nt)(w:Wd)(h:cp E0 4 w B l.length l)(hn:l.length<=1000):Cs prog 41 #[.slice B l.length d] w (Au l w):=by
 have F:=ah h;clear h;go_in;go_wp2
 go_loopw [3,8] (fun X Y wr=>SeRel w l X Y wr) (fun _ Y _=>l.length-(intOf Y).toNat)
 case atStart=>exact⟨0,none,0,by omega,rfl,rfl,be.nil _ _ _ _,cC _ _⟩
 case round=>
  obtain⟨k,t,v,S,rfl,rfl,g,o⟩:=hrel;have u:=ah g;have D:=ah o;clear g;by_cases L:k<l.length
  ·obtain⟨b,off,x,rfl,R,hx,i⟩:=cp.at_ (F.ae o) L;have I:=i 0 _ rfl;have N:=i 1 _ rfl;have O:=i 2 _ rfl;have Q:=i 3 _ rfl;simp only[fU]at I;have M:=ah hx;obtain⟨e,f,c,a⟩:=x;obtain⟨V,n⟩:=nm (wr.alloc (.cells #[e,f,c,a] 42));have p:Bl wr wr V:=n▸aA;have s:=aa o p;obtain⟨U,m⟩:=nm (V.alloc (.cells #[(2:Int),.string ByteArray.empty,e,f,c,a,(),(),false] 92));have j:Bl V V U:=m▸aA;have A:V.heap.size=wr+1:=by rw[n];simp
   have z:TS U V 1 [zk ⟨e,f,c,a⟩]:=m▸cp.new jg V (zk ⟨e,f,c,a⟩) #[(2:Int),.string ByteArray.empty,e,f,c,a,(),(),false] 92 rfl;obtain⟨C,H,T,r,q,b3,_,_⟩:=dy jg (P:=prog) U w 38 38 92 _ 80 underlying38 ja rfl t k v _ ((u.ae p).ae j) V 1 1 [zk ⟨e,f,c,a⟩] z (by simp only[maxLen];omega) (by omega) (cF s.size j.size);have y:(l.take k).map zk++[zk ⟨e,f,c,a⟩]=(l.take (k+1)).map zk:=by rw[aM hx,lA];rfl
   rw[y]at q;rw[m,A,n]at r;have G:=ah r;have J:=ah q;have K:=ah ((aa s j).trans b3);clear r q z m A n i hx y p s j b3 o;go_wp2_with(at_builtin;refine au rfl _ _ rfl rfl rfl G ?_);exact⟨⟨k+1,C,H,by omega,rfl,by go_num,J,K.out⟩,by simp[intOf];omega⟩
  ·obtain rfl:k=l.length:=by omega
   have g:=u.out;rw[cT]at g;have E:=ah g;clear g;go_wp2;go_ret;exact⟨t,v,rfl,E,D⟩
set_option maxRecDepth 512
open Go renaming TypeId->Ti
abbrev IQ(o:Ou):Array Vl:= #[o.kd,.string o.tx,o.nt.kd,o.nt.nd,o.nt.jb,o.nt.ep,o.jb,o.at_,o.ra]
theorem IZ(W:Wd)(base:Nat)(A:OA)(n c:Nat)(l:List Ou)(o:Ou)(t:fY W base A n c l)(hn:n<=1000000)(j:base<=W):
 ∃d i f,(Builtin.append_ #[38,38] 38 #[.slice A n c,.slice (some ⟨W.heap.size,0,none⟩) 1 1]).run prog (W.alloc (.cells (IQ o) 92))=.ok (.slice d (n+1) i) f/\fY f base d (n+1) i (l++[o])/\Bl base W f/\(∀b,b<W.heap.size->A≠some ⟨b,0,none⟩->f.heap[b]?=W.heap[b]?)/\(d=A\/∃g,d=some ⟨g,0,none⟩/\W.heap.size<=g):=by
 obtain⟨U,h⟩:=nm (W.alloc (.cells (IQ o) 92));have a:Bl W W U:=h▸aA;have r:TS U W 1 [o]:=h▸cp.new jg W o (IQ o) 92 rfl;obtain⟨m,p,s,k,q,b3,u,hA⟩:=dy jg (P:=prog) U base 38 38 92 _ 80 underlying38 ja rfl A n c _ (t.ae a) W 1 1 [o] r (by simp only[maxLen];omega) (by omega) (cF j a.size);rw[h]at k;exact⟨m,p,s,k,q,(a.mono j).trans b3,fun b h1 h2=>(u b (cD h1 a.size) h2).trans (a.block b h1),hA.imp id fun e=>⟨_,e,a.size⟩⟩
abbrev vF(x:Sr)(T:Sl):Array Vl:= #[x.s.am,x.N.v,x.J.v,x.R.v,x.B.v,x.L.v,x.s.nj,x.s.nb,T.v]
structure gT(w:Wd)(b0 b1 b2 b3 b4 b5 P:Nat)(x:Sr)(T:Sl)(fe:List Ou):Prop where
 ce:ai w P 181 (vF x T)
 ag:mK w b0 x.N.A x.N.n x.N.c x.s.ag
 aj:gB w b1 x.J.A x.J.n x.J.c x.jr
 bx:r8 w b2 x.R.A x.R.n x.R.c x.s.bx
 aZ:r6 w b3 x.B.A x.B.n x.B.c x.s.aZ
 bK:mL w b4 x.L.A x.L.n x.L.c x.s.bK
 nest:∀r∈x.jr,∀W,w.heap.size<=W.heap.size->(∀c,b5<=c->c<w.heap.size->c≠P->T.A≠some ⟨c,0,none⟩->W.heap[c]?=w.heap[c]?)->eF W r
 jr:x.jr.map Jr.j=x.s.aj
 fe:fY w (P+1) T.A T.n T.c fe
 sf:0<x.N.c->x.N.A≠some ⟨P,0,none⟩
 zg:0<x.J.c->x.J.A≠some ⟨P,0,none⟩
 wk:∀g,T.A=some ⟨g,0,none⟩->0<x.N.c->x.N.A≠some ⟨g,0,none⟩
 wj:∀g,T.A=some ⟨g,0,none⟩->0<x.J.c->x.J.A≠some ⟨g,0,none⟩
 sg:∀g,T.A=some ⟨g,0,none⟩->P<g
 hT:∀g,T.A=some ⟨g,0,none⟩->g<w
 hR:eK x.R.A x.R.c b3
 hB:eK x.B.A x.B.c b4
 hL:eK x.L.A x.L.c b5
 u1:b0<=b1
 u2:b1<=b2
 u3:b2<=b3
 u4:b3<=b4
 u5:b4<=b5
 u6:b5<=P
 fN:x.N.n<=1000
 fJ:x.J.n<=1000
 fR:x.R.n<=1000
 fB:x.B.n<=1000
 fL:x.L.n<=1000
 fT:T.n<=1000000
 kk:∀r∈x.s.bx,r.nd<2^64/\r.sd<2^64
structure Fd(P:Nat)(A A':OA)(w w':Wd):Prop where
 size:w.heap.size<=w'
 same:∀b,P<b->b<w->A≠some ⟨b,0,none⟩->w'.heap[b]?=w.heap[b]?
 ta:A'=A\/∀g,A'=some ⟨g,0,none⟩->w<=g
variable{P:Nat}{A:OA}{a b:Wd}
theorem Fd.trans{B C:OA}{c:Wd}(h:Fd P A B a b)(k:Fd P B C b c):Fd P A C a c:=by
 refine⟨cF h.size k.size,fun x f hx hn=>(k.same x f (cD hx h.size) fun e=> ?_).trans (h.same x f hx hn),?_⟩
 ·rcases h.ta with i|d
  ·exact hn (i.symm.trans e)
  ·have:=d x e;omega
 ·rcases k.ta with rfl|d
  ·exact h.ta
  ·exact .inr fun g e=>cF h.size (d g e)
variable{w w':Wd}
theorem Fd.aX(h:Bl w w w'):Fd P A A w w':=⟨h.size,fun b _ a _=>h.block b a,.inl rfl⟩
theorem Fd.xe(h:aU P w w'):Fd P A A w w':=⟨h.size,fun b h1 a _=>h.same b a (by omega),.inl rfl⟩
variable{g:Nat}{t:Ti}
theorem Fd.ce{B:OA}(h:Fd P A B w w'){cs:Array Vl}(a:ai w g t cs)(b:P<g)(hA:A≠some ⟨g,0,none⟩):ai w' g t cs:=(h.same g b a.lt hA).trans a
variable{b1 b2 b3 b4 b5:Nat}{x:Sr}{T:Sl}
theorem gT.mE{b:Nat}{a:List Ou}(h:gT w b b1 b2 b3 b4 b5 P x T a):db w x:=
 ⟨h.ag.et mb,⟨h.aj.et ek,fun r c=>h.nest r c w lr fun _ _ _ _ _=>rfl⟩,h.jr,h.bx.et ju,h.aZ.et sS,h.bK.et na,e9 h.ag h.fN,e9 h.aj h.fJ,e9 h.bx h.fR,e9 h.aZ h.fB,e9 h.bK h.fL,h.kk⟩
theorem gT.ae{W:Wd}{d:Nat}{f:List Ou}(h:gT w d b1 b2 b3 b4 b5 P x T f)(a:Bl w.heap.size w W):gT W d b1 b2 b3 b4 b5 P x T f:=
 ⟨h.ce.ae a h.ce.lt,h.ag.ae a,h.aj.ae a,h.bx.ae a,h.aZ.ae a,h.bK.ae a,fun r m i h1 h2=>h.nest r m i (cF a.size h1) fun c j b k l=>(h2 c j (cD b a.size) k l).trans (a.block c b),h.jr,h.fe.ae a,h.sf,h.zg,h.wk,h.wj,h.sg,fun g e=>cD (h.hT g e) a.size,h.hR,h.hB,h.hL,h.u1,h.u2,h.u3,h.u4,h.u5,h.u6,h.fN,h.fJ,h.fR,h.fB,h.fL,h.fT,h.kk⟩
theorem gT.tell{o X:Wd}{C:Nat}{Y F:List Ou}{k:OA}{s v:Nat}(h:gT w C b1 b2 b3 b4 b5 P x T Y)(y:fY o (P+1) k s v F)(a:0<s)(N:w.heap.size<=o.heap.size)(fr:∀b,b<w.heap.size->T.A≠some ⟨b,0,none⟩->o.heap[b]?=w.heap[b]?)
 (hA:k=T.A\/∃g,k=some ⟨g,0,none⟩/\w.heap.size<=g)(E:X=o.setCell ⟨P,8,none⟩ (.slice k s v))(hn:s<=1000000):gT X C b1 b2 b3 b4 b5 P x ⟨k,s,v⟩ F:=by
 have O:=h.u1;have Q:=h.u2;have R:=h.u3;have S:=h.u4;have U:=h.u5;have V:=h.u6;have u:aU P o X:=E▸aU.set _ _ _;have Z:=h.ce.lt;have G:=cF N u.size
 obtain⟨t,yJ,ht,H⟩:∃t,P<=t/\(t=P\/T.A=some ⟨t,0,none⟩)/\∀b,b<w.heap.size->b≠t->b≠P->X.heap[b]?=w.heap[b]?:=by
  by_cases j:∃g,T.A=some ⟨g,0,none⟩
  ·obtain⟨g,e⟩:=j;exact⟨g,by have:=h.sg g e;omega,.inr e,fun b h1 h2 K=>(u.same b (by omega) K).trans (fr b h1 (by rw[e];intro p;injection p with p;injection p with p;exact h2 p.symm))⟩
  ·exact⟨P,cB _,.inl rfl,fun b h1 h2 _=>(u.same b (by omega) h2).trans (fr b h1 fun e=>j ⟨b,e⟩)⟩
 have yI:T.A≠some ⟨P,0,none⟩:=fun e=>by have:=h.sg P e;omega
 have off:∀{α:Type} {f:α->List Vl} {q base:Nat} {A:OA} {n c:Nat} {l:List α},be f q w base A n c l->(0<c->A≠some ⟨t,0,none⟩)->(0<c->A≠some ⟨P,0,none⟩)->be f q X base A n c l:=fun m h1 h2=>ny G H m h1 h2;have M:ai o P 181 (vF x T):=(fr P Z yI).trans h.ce
 have new:∀g,k=some ⟨g,0,none⟩->T.A=some ⟨g,0,none⟩\/w<=g:=fun g e=>by
  rcases hA with d|⟨D,d,j⟩
  ·exact .inl (by rw[<-d,e])
  ·rw[e]at d;injection d with d;injection d with d;exact .inr (by omega)
 have ll:∀{α:Type} {f:α->List Vl} {q base:Nat} {A:OA} {n c:Nat} {l:List α} {g:Nat},be f q w base A n c l->w<=g->0<c->A≠some ⟨g,0,none⟩:=fun m j a e=>by
  obtain⟨D,i,-,yH,-⟩:=m.2.room a;rw[e]at i;injection i with i;injection i with i;omega
 refine⟨?_,off h.ag (fun a e=> ?_) h.sf,off h.aj (fun a e=> ?_) h.zg,off h.bx (fun a e=>by have:=h.hR a _ e;omega) (fun a e=>by have:=h.hR a _ e;omega),off h.aZ (fun a e=>by have:=h.hB a _ e;omega) (fun a e=>by have:=h.hB a _ e;omega),off h.bK (fun a e=>by have:=h.hL a _ e;omega) (fun a e=>by have:=h.hL a _ e;omega),?_,h.jr,aV u y (by omega),h.sf,h.zg,fun g e a=> ?_,fun g e a=> ?_,?_,fun g e=> ?_,h.hR,h.hB,h.hL,O,Q,R,S,U,V,h.fN,h.fJ,h.fR,h.fB,h.fL,hn,h.kk⟩
 ·rw[E];exact M.set 8 _
 ·rcases ht with rfl|ht
  ·exact h.sf a e
  ·exact h.wk t ht a e
 ·rcases ht with rfl|ht
  ·exact h.zg a e
  ·exact h.wj t ht a e
 ·intro r L W h1 h2;refine h.nest r L W (cF G h1) fun c I J z B=> ?_;refine(h2 c I (by omega) z fun e=> ?_).trans (H c J (fun e=> ?_) z)
  ·rcases new c e with d|j
   ·exact B d
   ·omega
  ·rcases ht with p|ht
   ·omega
   ·exact B (by rw[e];exact ht)
 ·rcases new g e with d|j
  ·exact h.wk g d a
  ·exact ll h.ag j a
 ·rcases new g e with d|j
  ·exact h.wj g d a
  ·exact ll h.aj j a
 ·intro g e;rcases new g e with d|j
  ·exact h.sg g d
  ·omega
 ·obtain⟨D,i,-,yH,-⟩:=y.2.room (by have:=y.2.le;omega);rw[show k=_ from e]at i;injection i with i;injection i with i;have:=u.size;omega
open Go renaming Addr->Ad
structure Fr(B:Nat)(A:OA)(c:Nat)(w w':Wd):Prop where
 le:B<=w
 du:Bl B w w'
 same:∀b,b<w.heap.size->(0<c->A≠some ⟨b,0,none⟩)->w'.heap[b]?=w.heap[b]?
variable{B n:Nat}
theorem Fr.size(h:Fr B A n a b):a.heap.size<=b.heap.size:=h.du.size
theorem Fr.refl(h:B<=w.heap.size)(A:OA)(c:Nat):Fr B A c w w:=⟨h,cC _ _,fun _ _ _=>rfl⟩
theorem Fr.trans{c:Wd}(h:Fr B A n a b)(k:Fr B A n b c):Fr B A n a c:=⟨h.le,h.du.trans k.du,fun x hx hn=>(k.same x (cD hx h.size) hn).trans (h.same x hx hn)⟩
theorem Fr.aX(a:B<=w.heap.size)(h:Bl w.heap.size w w'):Fr B A n w w':=⟨a,h.mono a,fun b c _=>h.block b c⟩
theorem Fr.ae{c:Wd}(h:Fr B A n a b)(k:Bl b.heap.size b c):Fr B A n a c:=h.trans (Fr.aX (cF h.le h.size) k)
theorem Fr.pM(h:Fr B (some ⟨g,0,none⟩) n a w)(d:0<n)(f:B<=g)(o:Nat)(c:List Vl):Fr B (some ⟨g,0,none⟩) n a (w.setCells g o c):=h.trans ⟨cF h.le h.size,bP bR f c o,fun b _ hn=>jW w g c o b fun e=>hn d (by rw[e])⟩
section
variable {α : Type} {q : α -> Bool} {l arr : List α} {a b k : Nat} {s : α}
def Qh(q:α->Bool)(l:List α):Int:=if l.any q then(l.findIdx q:Int)else -1
theorem pg(h:∀x∈l,q x=false):Qh q l= -1:=by
 have:l.any q=false:=by rw[iF];intro x hx;rw[h x hx];simp
 simp[Qh,this]
theorem tK(h:∀x∈l.take k,q x=false)(hs:l[k]?=some s)(b:q s=true):Qh q l=(k:Int):=by
 obtain⟨a,rfl⟩:=cA.1 hs;have c:l.any q=true:=iZ.2 ⟨_,iH a,b⟩
 have:l.findIdx q=k:=by
  rw[oH a];refine⟨b,fun j d=> ?_⟩;have:=h l[j] (by rw[dO];exact⟨j,by omega,rfl⟩);exact this
 simp[Qh,c,this]
theorem yh(h:l.any q=true):∃(k:Nat) (s:α),(∀x∈l.take k,q x=false)/\l[k]?=some s/\q s=true:=by
 have a:l.findIdx q<l.length:=List.findIdx_lt_length.2 (by simpa using h);refine⟨l.findIdx q,l[l.findIdx q],fun x hx=> ?_,cE a,List.findIdx_getElem⟩;obtain⟨j,b,rfl⟩:=dO.1 hx;exact List.not_of_lt_findIdx (by omega)
theorem Tc(h:l[b]?=some s)(a:q s=true):(l.take (b+1)).filter (fun x=> !q x)=(l.take b).filter (fun x=> !q x):=by
 rw[aM h,iB];simp[a]
theorem Ua(h:l[b]?=some s)(a:q s=false):(l.take (b+1)).filter (fun x=> !q x)=(l.take b).filter (fun x=> !q x)++[s]:=by
 rw[aM h,iB];simp[a]
theorem xZ(h:∀x∈l.take k,q x=false)(hs:l[k]?=some s)(a:q s=true):l.take k=(l.take (k+1)).filter (fun x=> !q x):=by
 rw[Tc hs a,eq_comm,lQ];intro x hx;rw[h x hx];rfl
theorem CM(f:arr.length=l.length)(g:a<b)(h1:arr.take a=(l.take b).filter (fun x=> !q x))(h2:arr.drop b=l.drop b)(hs:l[b]?=some s)(c:q s=false):
 (arr.set a s).take (a+1)=(l.take (b+1)).filter (fun x=> !q x)/\(arr.set a s).drop (b+1)=l.drop (b+1):=by
 have d:=(cA.1 hs).1;constructor
 ·rw[Ua hs c,<-h1,aM (x:=s) (by rw[fH (by omega)]),List.take_set_of_le (by omega)]
 ·have e:(l.drop b).drop 1=l.drop (b+1):=by rw[nG]
  rw[<-e,<-h2,nG,List.drop_set_of_lt (by omega)]
theorem CN(h1:arr.take a=(l.take b).filter (fun x=> !q x))(h2:arr.drop b=l.drop b)(hs:l[b]?=some s)(c:q s=true):
 arr.take a=(l.take (b+1)).filter (fun x=> !q x)/\arr.drop (b+1)=l.drop (b+1):=by
 refine⟨by rw[Tc hs c];exact h1,?_⟩;have e:(l.drop b).drop 1=l.drop (b+1):=by rw[nG]
 rw[<-e,<-h2,nG]
theorem CL(h:arr.drop b=l.drop b):arr[b]?=l[b]?:=by
 have:=cO (fun m=>m[0]?) h;simpa using this
def IN(w:Wd)(q:α->Bool)(l:List α)(i:Vl)(wr:Wd):Prop:=∃k:Nat,k<=l.length/\i=.int .i64 k/\(∀x∈l.take k,q x=false)/\Bl w w wr
def MC(f:α->List Vl)(n:Nat)(base:Nat)(A:OA)(c:Nat)(q:α->Bool)(l:List α)(w:Wd)(i j:Vl)(wr:Wd):Prop:=
 ∃a b:Nat,a<b/\b<=l.length/\i=.int .i64 a/\j=.int .i64 b/\∃d:List α,d.take a=(l.take b).filter (fun x=> !q x)/\d.drop b=l.drop b/\be f n wr base A l.length c d/\Fr base A c w wr
def uj(f:α->List Value)(n:Nat)(base:Nat)(A:Option Addr)(c:Nat)(l:List α)(w:World)(e:Ending)(w':World):Prop:=e=.returned (.slice A l.length c)/\be f n w' base A l.length c l/\Fr base A c w w'
end
variable{i:Nat}
theorem zat{l:List Rz}(h:MT w A n l)(hi:i<n):∃b off s,A=some ⟨b,off,none⟩/\b<w/\l[i]?=some s/\w.cell? ⟨b,off+i*5,none⟩=some (s.jb:Vl)/\w.cell? ⟨b,off+i*5+1,none⟩=some (s.gr:Vl)/\w.cell? ⟨b,off+i*5+2,none⟩=some (.int .u64 (s.nd:Int))/\w.cell? ⟨b,off+i*5+3,none⟩=some (.int .u64 (s.sd:Int))/\w.cell? ⟨b,off+i*5+4,none⟩=some (s.si:Vl):=by
 obtain⟨b,off,s,hA,c,hs,a⟩:=h.at_ hi;exact⟨b,off,s,hA,c,hs,a 0 _ rfl,a 1 _ rfl,a 2 _ rfl,a 3 _ rfl,a 4 _ rfl⟩
theorem zblk{s:Rz}(h:ai w g t (om s)):w.cell? g=some (s.jb:Vl)/\w.cell? ⟨g,1,none⟩=some (s.gr:Vl)/\w.cell? ⟨g,2,none⟩=some (.int .u64 (s.nd:Int))/\w.cell? ⟨g,3,none⟩=some (.int .u64 (s.sd:Int))/\w.cell? ⟨g,4,none⟩=some (s.si:Vl):=⟨h.cell 0,h.cell 1,h.cell 2,h.cell 3,h.cell 4⟩
variable{base c:Nat}
theorem zown{l:List Rz}(h:r8 w base g n c l)(hi:i<n):∃s,l[i]?=some s/\w.cell? ⟨g,i*5,none⟩=some (s.jb:Vl)/\w.cell? ⟨g,i*5+1,none⟩=some (s.gr:Vl)/\w.cell? ⟨g,i*5+2,none⟩=some (.int .u64 (s.nd:Int))/\w.cell? ⟨g,i*5+3,none⟩=some (.int .u64 (s.sd:Int))/\w.cell? ⟨g,i*5+4,none⟩=some (s.si:Vl)/\
 w.frozen? ⟨g,i*5,none⟩=false/\w.frozen? ⟨g,i*5+1,none⟩=false/\w.frozen? ⟨g,i*5+2,none⟩=false/\w.frozen? ⟨g,i*5+3,none⟩=false/\w.frozen? ⟨g,i*5+4,none⟩=false:=by
 obtain⟨f,s,d,-,-,hs,a,b⟩:=bh ju h hi;have e:=aI d;subst e;exact⟨s,hs,a 0 _ rfl,a 1 _ rfl,a 2 _ rfl,a 3 _ rfl,a 4 _ rfl,(b 0 (by omega)).2,(b 1 (by omega)).2,(b 2 (by omega)).2,(b 3 (by omega)).2,(b 4 (by omega)).2⟩
theorem zzero(w:Wd):(zeroValue 37).run prog w=.ok (.agg #[(),false,.int .u64 0,.int .u64 0,()]) w:=by kernel_rfl
def Qd(g:FuncId)(B:Ad)(q:Rz->Bool)(base:Nat)(A:OA)(c:Nat)(a:Wd):Prop:=∀(x:Rz) (W:Wd),Fr base A c a W->Cs prog g #[.agg (om x),.pointer (some B)] W (an (.bool (q x)) W)
set_option maxRecDepth 100000 in
theorem IK(g:FuncId)(B:Ad)(q:Rz->Bool)(base:Nat)(j:OA)(p:Nat)(o:Wd)(J:∀args w,(callFunc g args).run prog w=.ok (.enter g args) w)(r:Qd g B q base j p o)
 (A:OA)(n c:Nat)(l:List Rz)(w:Wd)(hw:Fr base j p o w)(h:MT w A n l)(hn:n<=maxLen):
 Cs prog 312 #[.slice A n c,.func (.func g) #[] #[.pointer (some B)]] w (an (.int .i64 (Qh q l)) w):=by
 unfold maxLen at hn;have C:=h.cb;subst C;have v:=ah h;have u:=ah r;clear h r;go_enter func312,ntmps312;go_wp2_with fail
 go_loopw [8] (fun i wr=>IN w q l i wr) (fun i _=>l.length-(intOf i).toNat)
 case atStart=>exact⟨0,by omega,rfl,by simp,cC _ _⟩
 case round=>
  obtain⟨k,L,rfl,t,a⟩:=hrel;have f:=ah t;clear t;by_cases D:k<l.length
  ·obtain⟨b,off,s,rfl,K,hs,E,F,G,H,I⟩:=zat (v.out.ae a) D;have m:=ah hs;have d:=ah (u.out s wr (hw.ae a));clear hs;cases hq:q s
   ·rw[hq]at d;have y:=ah (eP (P:=fun x=>q x=false) f.out m.out hq);clear hq;go_wp2_with fail;refine av d.out fun z b2=> ?_;go_wp2_with fail;exact⟨⟨k+1,by omega,by go_num,y.out,aa a b2⟩,by simp[intOf];omega⟩
   ·rw[hq]at d;have e:=ah (tK f.out m.out hq);clear hq;go_wp2_with fail;refine av d.out fun z b2=> ?_;go_wp2_with fail;go_ret;exact⟨ax e.out.symm,aa a b2⟩
  ·obtain rfl:k=l.length:=by omega
   have e:=ah (pg (q:=q) (l:=l) (by have:=f.out;rwa [cT]at this));go_wp2_with fail;go_ret;exact⟨ax e.out.symm,a⟩
set_option maxRecDepth 100000 in
theorem FZ(g:FuncId)(B:Ad)(q:Rz->Bool)(base:Nat)(A:OA)(c:Nat)(G:Wd)(eg:∀args w,(callFunc g args).run prog w=.ok (.enter g args) w)(t:Qd g B q base A c G)
 (n:Nat)(l:List Rz)(w:Wd)(hw:Fr base A c G w)(h:r8 w base A n c l)(hn:n<=1000000):
 Cs prog 197 #[.slice A n c,.func (.func g) #[] #[.pointer (some B)]] w (uj mJ 5 base A c (l.filter (fun x=> !q x)) w):=by
 have yN:=h.1;subst yN;have yQ:l.length<=maxLen:=by simp[maxLen];omega
 have C:=ah (IK g B q base A c G eg t A l.length c l w hw (h.et ju) yQ);have yT:base<=w.heap.size:=cF hw.le hw.size;cases hany:l.any q
 ·have Y:∀x∈l,q x=false:=fun x hx=>by
   have:=iF.1 hany x hx;simpa using this
  rw[pg Y]at C
  have o:Hid (l.filter (fun x=> !q x)=l):=by
   show _=_;rw[lQ];intro x hx;rw[Y x hx];rfl
  have F:=ah h;clear hany Y t h;go_enter func197,ntmps197;go_wp2_with fail;refine av C.out fun w1 b1=> ?_;go_wp2_with fail;go_ret;rw[o.out];exact⟨rfl,F.out.ae b1,Fr.aX yT b1⟩
 ·obtain⟨k,s,P,hs,d⟩:=yh hany;rw[tK P hs d]at C;have uM:=(cA.1 hs).1;have uD:=ah (xZ P hs d);have F:=ah h;have HC:=ah t;have uH:=h.2.le;have uC:=h.2.max;unfold maxLen at uC;obtain⟨m,rfl,yV,uL,_,_⟩:=h.2.room (by omega);have uJ:((k:Int)== -1)=false:=by simp
  have yX:0<c:=by omega
  clear hany P hs d t h;go_enter func197,ntmps197;go_wp2_with fail;refine av C.out fun w1 b1=> ?_;go_wp2_with fail
  go_loopw [5,6] (fun i j wr=>MC mJ 5 base (some ⟨m,0,none⟩) c q l w i j wr) (fun _ j _=>l.length-(intOf j).toNat)
  case atStart=>exact⟨k,k+1,by omega,by omega,rfl,by go_num,l,uD.out,rfl,F.out.ae b1,Fr.aX yT b1⟩
  case round=>
   obtain⟨a,b,uI,uK,rfl,rfl,Z,h1,h2,S,yU⟩:=hrel;have D:=ah h1;have E:=ah h2;have p:=ah S;have yI:=ah S.1;clear h1 h2 S;by_cases uG:b<l.length
   ·obtain⟨g',uF,s',e,uA,U,I,J,K,L,M⟩:=zat (p.out.et ju) uG;injection e with e;injection e with e1 e2;subst e1 e2;rw[cR]at I J K L M;rw[CL E.out]at U;have HS:=ah U;clear U;go_wp2_with fail;obtain⟨V,r⟩:∃V,V=wr.alloc (.cells (om s') 37):=⟨_,rfl⟩;rw[<-r];have H:Bl wr.heap.size wr V:=r▸aA;have kV:ai V wr.heap.size 37 (om s'):=r▸ai.new _ _ _;have X:=yU.ae H;have y:=ah (HC.out s' V (hw.trans X));clear r I J K L M;cases d:q s'
    ·rw[d]at y;refine av y.out fun w2 b2=> ?_;have W:=(p.out.ae H).ae b2;have uB:=ah (X.ae b2);have k2:=kV.ae b2 kV.lt;obtain⟨x0,x1,x2,x3,x4⟩:=zblk k2;obtain⟨sa,_,I,J,K,L,M,f0,f1,f2,f3,f4⟩:=zown W (show a<l.length by omega);have yE:=ah (CM yI.out uI D.out E.out HS.out d);have z:=ah (i0 ju W a (show a<l.length by omega) s');have yL:m≠wr.heap.size:=Nat.ne_of_lt uA;have yY:wr.heap.size≠m:=sC yL;clear d W k2;go_wp2_with fail;exact⟨⟨a+1,b+1,by omega,by omega,by go_num,by go_num,Z.set a s',yE.out.1,yE.out.2,z.out,uB.out.pM yX yV (a*5) (mJ s')⟩,by simp[intOf];omega⟩
    ·rw[d]at y;refine av y.out fun w2 b2=> ?_;have yW:=ah (CN D.out E.out HS.out d);clear d;go_wp2_with fail;exact⟨⟨a,b+1,by omega,by omega,rfl,by go_num,Z,yW.out.1,yW.out.2,(p.out.ae H).ae b2,X.ae b2⟩,by simp[intOf];omega⟩
   ·obtain rfl:b=l.length:=by omega
    have o:Hid (Z.take a=l.filter (fun x=> !q x)):=by
     show _=_;rw[D.out,cT]
    have N:=p.out;obtain⟨g',e,_,_,_,R⟩:=N.2.room (by omega);injection e with e
    injection e with e1 e2;subst e1;have f:(Builtin.zeroCells (Value.agg #[.int .i64 0,.bool false,.int .u64 0,.int .u64 0,.int .i64 0]).cells (l.length-a)).size=(l.length-a)*5:=by rw[oM];rfl
    have yZ:∀Q,(Builtin.clear_ #[24] Q #[.slice (some ⟨m,a*5,none⟩) (l.length-a) (c-a)]).run prog wr=.ok (.tuple #[]) (wr.setCells m (a*5) (Builtin.zeroCells (Value.agg #[.int .i64 0,.bool false,.int .u64 0,.int .u64 0,.int .i64 0]).cells (l.length-a)).toList):=fun Q=>
     iz wr 24 37 Q _ underlying24 zzero m (a*5) (l.length-a) (c-a) (by omega) (fun v hv=>iu hv (by intro u hu;have:=ju.one (⟨0,false,0,0,0⟩) u (by simpa [Value.cells,mJ]using hu);exact this)) (fun j O=>(R _ (by rw[f]at O;omega)).1) (fun j O=>(R _ (by rw[f]at O;omega)).2)
    have z:=ah (rX ju N a (show a<=l.length by omega) (Builtin.zeroCells (Value.agg #[.int .i64 0,.bool false,.int .u64 0,.int .u64 0,.int .i64 0]).cells (l.length-a)).toList (by rw[oC,f]))
    have uE:Hid ((l.filter (fun x=> !q x)).length=a):=by
     show _=_;rw[<-o.out,fD,yI.out];omega
    clear N R f;obtain⟨zs,f⟩:∃zs,zs=(Builtin.zeroCells (Value.agg #[.int .i64 0,.bool false,.int .u64 0,.int .u64 0,.int .i64 0]).cells (l.length-a)).toList:=⟨_,rfl⟩;rw[<-f]at yZ z;clear f;have T:=z.out;rw[o.out]at T;have yK:=ah T;clear T;go_wp2_with fail;go_ret;unfold uj;rw[uE.out];exact⟨rfl,yK.out,yU.pM yX yV (a*5) zs⟩
theorem oat{l:List Ou}(h:TS w A n l)(hi:i<n):∃b off s,A=some ⟨b,off,none⟩/\b<w/\l[i]?=some s/\w.cell? ⟨b,off+i*9,none⟩=some (s.kd:Vl)/\w.cell? ⟨b,off+i*9+1,none⟩=some (.string s.tx)/\w.cell? ⟨b,off+i*9+2,none⟩=some (s.nt.kd:Vl)/\w.cell? ⟨b,off+i*9+3,none⟩=some (s.nt.nd:Vl)/\w.cell? ⟨b,off+i*9+4,none⟩=some (s.nt.jb:Vl)/\w.cell? ⟨b,off+i*9+5,none⟩=some (s.nt.ep:Vl)/\w.cell? ⟨b,off+i*9+6,none⟩=some (s.jb:Vl)/\w.cell? ⟨b,off+i*9+7,none⟩=some (s.at_:Vl)/\w.cell? ⟨b,off+i*9+8,none⟩=some (s.ra:Vl):=by
 obtain⟨b,off,s,hA,c,hs,a⟩:=h.at_ hi;exact⟨b,off,s,hA,c,hs,a 0 _ rfl,a 1 _ rfl,a 2 _ rfl,a 3 _ rfl,a 4 _ rfl,a 5 _ rfl,a 6 _ rfl,a 7 _ rfl,a 8 _ rfl⟩
theorem oblk{s:Ou}(h:ai w g t (IQ s)):w.cell? g=some (s.kd:Vl)/\w.cell? ⟨g,1,none⟩=some (.string s.tx)/\w.cell? ⟨g,2,none⟩=some (s.nt.kd:Vl)/\w.cell? ⟨g,3,none⟩=some (s.nt.nd:Vl)/\w.cell? ⟨g,4,none⟩=some (s.nt.jb:Vl)/\w.cell? ⟨g,5,none⟩=some (s.nt.ep:Vl)/\w.cell? ⟨g,6,none⟩=some (s.jb:Vl)/\w.cell? ⟨g,7,none⟩=some (s.at_:Vl)/\w.cell? ⟨g,8,none⟩=some (s.ra:Vl):=⟨h.cell 0,h.cell 1,h.cell 2,h.cell 3,h.cell 4,h.cell 5,h.cell 6,h.cell 7,h.cell 8⟩
theorem oown{l:List Ou}(h:fY w base g n c l)(hi:i<n):∃s,l[i]?=some s/\w.cell? ⟨g,i*9,none⟩=some (s.kd:Vl)/\w.cell? ⟨g,i*9+1,none⟩=some (.string s.tx)/\w.cell? ⟨g,i*9+2,none⟩=some (s.nt.kd:Vl)/\w.cell? ⟨g,i*9+3,none⟩=some (s.nt.nd:Vl)/\w.cell? ⟨g,i*9+4,none⟩=some (s.nt.jb:Vl)/\w.cell? ⟨g,i*9+5,none⟩=some (s.nt.ep:Vl)/\w.cell? ⟨g,i*9+6,none⟩=some (s.jb:Vl)/\w.cell? ⟨g,i*9+7,none⟩=some (s.at_:Vl)/\w.cell? ⟨g,i*9+8,none⟩=some (s.ra:Vl)/\
 w.frozen? ⟨g,i*9,none⟩=false/\w.frozen? ⟨g,i*9+1,none⟩=false/\w.frozen? ⟨g,i*9+2,none⟩=false/\w.frozen? ⟨g,i*9+3,none⟩=false/\w.frozen? ⟨g,i*9+4,none⟩=false/\w.frozen? ⟨g,i*9+5,none⟩=false/\w.frozen? ⟨g,i*9+6,none⟩=false/\w.frozen? ⟨g,i*9+7,none⟩=false/\w.frozen? ⟨g,i*9+8,none⟩=false:=by
 obtain⟨f,s,d,-,-,hs,a,b⟩:=bh jg h hi;have e:=aI d;subst e;exact⟨s,hs,a 0 _ rfl,a 1 _ rfl,a 2 _ rfl,a 3 _ rfl,a 4 _ rfl,a 5 _ rfl,a 6 _ rfl,a 7 _ rfl,a 8 _ rfl,(b 0 (by omega)).2,(b 1 (by omega)).2,(b 2 (by omega)).2,(b 3 (by omega)).2,(b 4 (by omega)).2,(b 5 (by omega)).2,(b 6 (by omega)).2,(b 7 (by omega)).2,(b 8 (by omega)).2⟩
theorem ozero(w:Wd):(zeroValue 92).run prog w=.ok (.agg #[(),.string ByteArray.empty,(),(),(),(),(),(),false]) w:=by kernel_rfl
def Pp(g:FuncId)(B:Ad)(q:Ou->Bool)(base:Nat)(A:OA)(c:Nat)(a:Wd):Prop:=∀(x:Ou) (W:Wd),Fr base A c a W->Cs prog g #[.agg (IQ x),.pointer (some B)] W (an (.bool (q x)) W)
set_option maxRecDepth 100000 in
theorem Hr(g:FuncId)(B:Ad)(q:Ou->Bool)(base:Nat)(j:OA)(p:Nat)(o:Wd)(N:∀args w,(callFunc g args).run prog w=.ok (.enter g args) w)(r:Pp g B q base j p o)
 (A:OA)(n c:Nat)(l:List Ou)(w:Wd)(hw:Fr base j p o w)(h:TS w A n l)(hn:n<=maxLen):
 Cs prog 280 #[.slice A n c,.func (.func g) #[] #[.pointer (some B)]] w (an (.int .i64 (Qh q l)) w):=by
 unfold maxLen at hn;have C:=h.cb;subst C;have v:=ah h;have u:=ah r;clear h r;go_enter func280,ntmps280;go_wp2_with fail
 go_loopw [8] (fun i wr=>IN w q l i wr) (fun i _=>l.length-(intOf i).toNat)
 case atStart=>exact⟨0,by omega,rfl,by simp,cC _ _⟩
 case round=>
  obtain⟨k,Q,rfl,t,a⟩:=hrel;have f:=ah t;clear t;by_cases D:k<l.length
  ·obtain⟨b,off,s,rfl,O,hs,E,F,G,H,I,J,K,L,M⟩:=oat (v.out.ae a) D;have m:=ah hs;have d:=ah (u.out s wr (hw.ae a));clear hs;cases hq:q s
   ·rw[hq]at d;have y:=ah (eP (P:=fun x=>q x=false) f.out m.out hq);clear hq;go_wp2_with fail;refine av d.out fun z b2=> ?_;go_wp2_with fail;exact⟨⟨k+1,by omega,by go_num,y.out,aa a b2⟩,by simp[intOf];omega⟩
   ·rw[hq]at d;have e:=ah (tK f.out m.out hq);clear hq;go_wp2_with fail;refine av d.out fun z b2=> ?_;go_wp2_with fail;go_ret;exact⟨ax e.out.symm,aa a b2⟩
  ·obtain rfl:k=l.length:=by omega
   have e:=ah (pg (q:=q) (l:=l) (by have:=f.out;rwa [cT]at this));go_wp2_with fail;go_ret;exact⟨ax e.out.symm,a⟩
set_option maxRecDepth 100000 in
theorem E4(g:FuncId)(B:Ad)(q:Ou->Bool)(base:Nat)(A:OA)(c:Nat)(G:Wd)(eg:∀args w,(callFunc g args).run prog w=.ok (.enter g args) w)(t:Pp g B q base A c G)
 (n:Nat)(l:List Ou)(w:Wd)(hw:Fr base A c G w)(h:fY w base A n c l)(hn:n<=1000000):
 Cs prog 169 #[.slice A n c,.func (.func g) #[] #[.pointer (some B)]] w (uj wn 9 base A c (l.filter (fun x=> !q x)) w):=by
 have yN:=h.1;subst yN;have yQ:l.length<=maxLen:=by simp[maxLen];omega
 have C:=ah (Hr g B q base A c G eg t A l.length c l w hw (h.et jg) yQ);have yT:base<=w.heap.size:=cF hw.le hw.size;cases hany:l.any q
 ·have yR:∀x∈l,q x=false:=fun x hx=>by
   have:=iF.1 hany x hx;simpa using this
  rw[pg yR]at C
  have o:Hid (l.filter (fun x=> !q x)=l):=by
   show _=_;rw[lQ];intro x hx;rw[yR x hx];rfl
  have F:=ah h;clear hany yR t h;go_enter func169,ntmps169;go_wp2_with fail;refine av C.out fun w1 b1=> ?_;go_wp2_with fail;go_ret;rw[o.out];exact⟨rfl,F.out.ae b1,Fr.aX yT b1⟩
 ·obtain⟨k,s,T,hs,d⟩:=yh hany;rw[tK T hs d]at C;have uM:=(cA.1 hs).1;have uD:=ah (xZ T hs d);have F:=ah h;have HC:=ah t;have uH:=h.2.le;have uC:=h.2.max;unfold maxLen at uC;obtain⟨m,rfl,yV,uL,_,_⟩:=h.2.room (by omega);have uJ:((k:Int)== -1)=false:=by simp
  have yX:0<c:=by omega
  clear hany T hs d t h;go_enter func169,ntmps169;go_wp2_with fail;refine av C.out fun w1 b1=> ?_;go_wp2_with fail
  go_loopw [5,6] (fun i j wr=>MC wn 9 base (some ⟨m,0,none⟩) c q l w i j wr) (fun _ j _=>l.length-(intOf j).toNat)
  case atStart=>exact⟨k,k+1,by omega,by omega,rfl,by go_num,l,uD.out,rfl,F.out.ae b1,Fr.aX yT b1⟩
  case round=>
   obtain⟨a,b,uI,uK,rfl,rfl,yS,h1,h2,X,yU⟩:=hrel;have D:=ah h1;have E:=ah h2;have p:=ah X;have yI:=ah X.1;clear h1 h2 X;by_cases uG:b<l.length
   ·obtain⟨g',uF,s',e,uA,Z,I,J,K,L,M,N,O,P,Q⟩:=oat (p.out.et jg) uG;injection e with e;injection e with e1 e2;subst e1 e2;rw[cR]at I J K L M N O P Q;rw[CL E.out]at Z;have HS:=ah Z;clear Z;go_wp2_with fail;obtain⟨V,r⟩:∃V,V=wr.alloc (.cells (IQ s') 92):=⟨_,rfl⟩;rw[<-r];have H:Bl wr.heap.size wr V:=r▸aA;have kV:ai V wr.heap.size 92 (IQ s'):=r▸ai.new _ _ _;have yP:=yU.ae H;have y:=ah (HC.out s' V (hw.trans yP));clear r I J K L M N O P Q;cases d:q s'
    ·rw[d]at y;refine av y.out fun w2 b2=> ?_;have yO:=(p.out.ae H).ae b2;have uB:=ah (yP.ae b2);have k2:=kV.ae b2 kV.lt;obtain⟨x0,x1,x2,x3,x4,x5,x6,x7,x8⟩:=oblk k2;obtain⟨sa,_,I,J,K,L,M,N,O,P,Q,f0,f1,f2,f3,f4,f5,f6,f7,f8⟩:=oown yO (show a<l.length by omega);have yE:=ah (CM yI.out uI D.out E.out HS.out d);have z:=ah (i0 jg yO a (show a<l.length by omega) s');have yL:m≠wr.heap.size:=Nat.ne_of_lt uA;have yY:wr.heap.size≠m:=sC yL;clear d yO k2;go_wp2_with fail;exact⟨⟨a+1,b+1,by omega,by omega,by go_num,by go_num,yS.set a s',yE.out.1,yE.out.2,z.out,uB.out.pM yX yV (a*9) (wn s')⟩,by simp[intOf];omega⟩
    ·rw[d]at y;refine av y.out fun w2 b2=> ?_;have yW:=ah (CN D.out E.out HS.out d);clear d;go_wp2_with fail;exact⟨⟨a,b+1,by omega,by omega,rfl,by go_num,yS,yW.out.1,yW.out.2,(p.out.ae H).ae b2,yP.ae b2⟩,by simp[intOf];omega⟩
   ·obtain rfl:b=l.length:=by omega
    have o:Hid (yS.take a=l.filter (fun x=> !q x)):=by
     show _=_;rw[D.out,cT]
    have R:=p.out;obtain⟨g',e,_,_,_,W⟩:=R.2.room (by omega);injection e with e
    injection e with e1 e2;subst e1;have f:(Builtin.zeroCells (Value.agg #[.int .i64 0,.string ByteArray.empty,.int .i64 0,.int .i64 0,.int .i64 0,.int .i64 0,.int .i64 0,.int .i64 0,.bool false]).cells (l.length-a)).size=(l.length-a)*9:=by rw[oM];rfl
    have yZ:∀U,(Builtin.clear_ #[38] U #[.slice (some ⟨m,a*9,none⟩) (l.length-a) (c-a)]).run prog wr=.ok (.tuple #[]) (wr.setCells m (a*9) (Builtin.zeroCells (Value.agg #[.int .i64 0,.string ByteArray.empty,.int .i64 0,.int .i64 0,.int .i64 0,.int .i64 0,.int .i64 0,.int .i64 0,.bool false]).cells (l.length-a)).toList):=fun U=>
     iz wr 38 92 U _ underlying38 ozero m (a*9) (l.length-a) (c-a) (by omega) (fun v hv=>iu hv (by intro u hu;have:=jg.one (⟨0,ByteArray.empty,⟨0,0,0,0⟩,0,0,false⟩) u (by simpa [Value.cells,wn]using hu);exact this)) (fun j S=>(W _ (by rw[f]at S;omega)).1) (fun j S=>(W _ (by rw[f]at S;omega)).2)
    have z:=ah (rX jg R a (show a<=l.length by omega) (Builtin.zeroCells (Value.agg #[.int .i64 0,.string ByteArray.empty,.int .i64 0,.int .i64 0,.int .i64 0,.int .i64 0,.int .i64 0,.int .i64 0,.bool false]).cells (l.length-a)).toList (by rw[oC,f]))
    have uE:Hid ((l.filter (fun x=> !q x)).length=a):=by
     show _=_;rw[<-o.out,fD,yI.out];omega
    clear R W f;obtain⟨zs,f⟩:∃zs,zs=(Builtin.zeroCells (Value.agg #[.int .i64 0,.string ByteArray.empty,.int .i64 0,.int .i64 0,.int .i64 0,.int .i64 0,.int .i64 0,.int .i64 0,.bool false]).cells (l.length-a)).toList:=⟨_,rfl⟩;rw[<-f]at yZ z;clear f;have Y:=z.out;rw[o.out]at Y;have yK:=ah Y;clear Y;go_wp2_with fail;go_ret;unfold uj;rw[uE.out];exact⟨rfl,yK.out,yU.pM yX yV (a*9) zs⟩
set_option maxRecDepth 100000
def Pq(a id at_:Int):Ou:=⟨a,ByteArray.empty,⟨0,0,0,0⟩,id,at_,false⟩
def S7(a b1 b2 b3 b4 b5 P:Nat)(x:Sr)(A:OA)(b:List Ou)(w:Wd)(e:Ed)(w':Wd):Prop:=∃T,e=.returned (.tuple #[])/\gT w' a b1 b2 b3 b4 b5 P x T b/\Bl a w w'/\Fd P A T.A w w'
theorem rh(l b1 b2 b3 b4 b5 P:Nat)(x:Sr)(T:Sl)(q:List Ou)(o id at_:Int)(w:Wd)(h:gT w l b1 b2 b3 b4 b5 P x T q)(hn:T.n+1<=1000000):
 Cs prog 97 #[.pointer P,o,id,at_] w (S7 l b1 b2 b3 b4 b5 P x T.A (q++[Pq o id at_]) w):=by
 rcases T with⟨a,c,j⟩;have u:=h.ce.lt;have F:l<=P:=by have:=h.u1;have:=h.u2;have:=h.u3;have:=h.u4;have:=h.u5;have:=h.u6;omega
 obtain⟨s,D,k,r,t,i,fr,hA⟩:=IZ w (P+1) a c j q (Pq o id at_) h.fe h.fT u;obtain⟨X,f⟩:=nm (k.setCell ⟨P,8,none⟩ (.slice s (c+1) D));have v:a≠some ⟨P,0,none⟩:=fun e=>by have:=h.sg P e;omega
 have m:ai k P 181 (vF x ⟨a,c,j⟩):=(fr P u v).trans h.ce;have J:w.cell? ⟨P,8,none⟩=some (.slice a c j):=h.ce.cell 8;have K:k.cell? ⟨P,8,none⟩=some (.slice a c j):=m.cell 8;have G:=m.ao 8;have y:=ah (gT.tell h t (by simp) i.size fr hA f hn)
 have B:Hid (Bl l w X):=by
  show Bl _ _ _;rw[f];exact(i.mono (by omega)).setCell (p:=⟨P,8,none⟩) F _
 have z:Hid (Fd P a s w X):=by
  have on:aU P k X:=f▸aU.set _ _ _;refine⟨cF i.size on.size,fun b h1 h2 E=>(on.same b (cD h2 i.size) (by omega)).trans (fr b h2 E),?_⟩;rcases hA with e|⟨g,e,I⟩
  ·exact .inl e
  ·exact .inr fun H d=>by rw[e]at d;injection d with d;injection d with d;omega
 unfold Pq at r;have C:=ah r;clear h r t i fr hA m v;go_in;go_wp2_with(first|(at_builtin;refine au rfl _ _ rfl rfl rfl C ?_)|(rw[<-f];clear f))
 (try simp only[Exit.inBlock,Exit.then])
 refine cU (lE rfl _ _ _) rfl ?_;exact⟨_,rfl,y,B,z⟩
set_option maxRecDepth 512
abbrev Sr.bD(y:Sr)(l:List Jr)(J:Sl):Sr:={y with s:={y.s with aj:=l.map Jr.j},jr:=l,J:=J}
abbrev Sr.rzs(y:Sr)(l:List Rz)(R:Sl):Sr:={y with s:={y.s with bx:=l},R:=R}
section
variable {w W X : World} {b0 b1 b2 b3 b4 b5 P : Nat} {x : Sr} {T : Sl} {fe : List Ou}
theorem gT.of{y:Sr}(h:Co w b0 b1 b2 b3 b4 b5 y)(i:b5<=w):gT (w.alloc (.cells (vF y ⟨none,0,0⟩) 181)) b0 b1 b2 b3 b4 b5 w y ⟨none,0,0⟩ []:=by
 have a:Bl w w (w.alloc (.cells (vF y ⟨none,0,0⟩) 181)):=aA;have g:=h.ae a;have k:=h.u1;have l:=h.u2;have m:=h.u3;have n:=h.u4;have o:=h.u5;refine⟨ai.new _ _ _,g.ag,g.aj,g.bx,g.aZ,g.bK,fun r j W h1 h2=> ?_,h.jr,be.nil _ _ _ _,fun b e=>by have q:=h.hN b _ e;omega,fun b e=>by have q:=h.hJ b _ e;omega,fun g e=>(by cases e),fun g e=>(by cases e),fun g e=>(by cases e),fun g e=>(by cases e),h.hR,h.hB,h.hL,k,l,m,n,o,i,h.fN,h.fJ,h.fR,h.fB,h.fL,by show 0<=1000000;omega,h.kk⟩;exact((h.nest r j).hi (cF a.size h1) fun c f d=>(h2 c f (cD d a.size) (by omega) (by simp)).trans (a.block c d)).mE
theorem gT.Tw(h:gT w b0 b1 b2 b3 b4 b5 P x T fe):gV b0 w x:=fun W h1 h2=>by
 have k:=h.u1;have l:=h.u2;have m:=h.u3;have n:=h.u4;have o:=h.u5;have hn:=bS h.ag h1 h2;have e:=bS h.aj h1 fun b d=>h2 b (by omega);have a:=bS h.bx h1 fun b d=>h2 b (by omega);have f:=bS h.aZ h1 fun b d=>h2 b (by omega);have g:=bS h.bK h1 fun b d=>h2 b (by omega);exact⟨hn.et mb,⟨e.et ek,fun r a=>h.nest r a W h1 fun c j i _ _=>h2 c (by omega) i⟩,h.jr,a.et ju,f.et sS,g.et na,e9 hn h.fN,e9 e h.fJ,e9 a h.fR,e9 f h.fB,e9 g h.fL,h.kk⟩
theorem nx{α:Type}{f:α->List Vl}{q:Nat}{l:List α}(m:be f q w base A n c l)(i:g<base)(b:0<c):A≠some ⟨g,0,none⟩:=fun e=>by
 obtain⟨d,a,h,-⟩:=m.2.room b;rw[e]at a;injection a with a;injection a with a;omega
theorem gT.Pa(h:gT w b0 b1 b2 b3 b4 b5 P x T fe)(on:aU P w X):mK X b0 x.N.A x.N.n x.N.c x.s.ag/\gB X b1 x.J.A x.J.n x.J.c x.jr/\r8 X b2 x.R.A x.R.n x.R.c x.s.bx/\r6 X b3 x.B.A x.B.n x.B.c x.s.aZ/\mL X b4 x.L.A x.L.n x.L.c x.s.bK/\fY X (P+1) T.A T.n T.c fe/\
 ∀r∈x.jr,∀W,X.heap.size<=W.heap.size->(∀c,b5<=c->c<X.heap.size->c≠P->T.A≠some ⟨c,0,none⟩->W.heap[c]?=X.heap[c]?)->eF W r:=by
 have g:=h.u1;have i:=h.u2;have j:=h.u3;have k:=h.u4;have l:=h.u5;have m:=h.u6;exact⟨mj on h.ag h.sf,mj on h.aj h.zg,ed on h.bx h.hR (by omega),ed on h.aZ h.hB (by omega),ed on h.bK h.hL (by omega),aV on h.fe (by omega),fun r f W h1 h2=>h.nest r f W (cF on.size h1) fun c d a b e=>(h2 c d (cD a on.size) b e).trans (on.same c a b)⟩
theorem gT.BK(h:gT w b0 b1 b2 b3 b4 b5 P x T fe)(b:Bl w.heap.size w W){l:List Nd}(d:mK W w.heap.size A n c l)(hn:n<=1000)(i:X=W.setCell ⟨P,1,none⟩ (.slice A n c)):gT X b0 b1 b2 b3 b4 b5 P (x.BK l ⟨A,n,c⟩) T fe:=by
 have j:=h.u1;have m:=h.u2;have o:=h.u3;have p:=h.u4;have q:=h.u5;have r:=h.u6;have f:=h.ce.lt;have k:=h.ae b;have on:aU P W X:=i▸aU.set _ _ _;obtain⟨B,z,t,u,v,s,y⟩:=k.Pa on;refine⟨by rw[i];exact k.ce.set 1 _,aS (aV on d f) (by omega),z,t,u,v,y,h.jr,s,fun a=>nx d f a,h.zg,fun g e a=>nx d (h.hT g e) a,h.wj,h.sg,fun g e=>cD (k.hT g e) on.size,h.hR,h.hB,h.hL,j,m,o,p,q,r,hn,h.fJ,h.fR,h.fB,h.fL,h.fT,h.kk⟩
theorem gT.bD(h:gT w b0 b1 b2 b3 b4 b5 P x T fe)(b:Bl w.heap.size w W){l:List Jr}(a:vG W w.heap.size A n c l)(hn:n<=1000)(j:X=W.setCell ⟨P,2,none⟩ (.slice A n c)):gT X b0 b1 b2 b3 b4 b5 P (x.bD l ⟨A,n,c⟩) T fe:=by
 have p:=h.u1;have q:=h.u2;have s:=h.u3;have t:=h.u4;have u:=h.u5;have v:=h.u6;have i:=h.ce.lt;have k:=h.ae b;have on:aU P W X:=j▸aU.set _ _ _;obtain⟨D,J,z,B,C,y,H⟩:=k.Pa on;refine⟨by rw[j];exact k.ce.set 2 _,D,aS (aV on a.rows i) (by omega),z,B,C,fun r m E h1 h2=> ?_,rfl,y,h.sf,fun d=>nx a.rows i d,h.wk,fun g e d=>nx a.rows (h.hT g e) d,h.sg,fun g e=>cD (k.hT g e) on.size,h.hR,h.hB,h.hL,p,q,s,t,u,v,h.fN,hn,h.fR,h.fB,h.fL,h.fT,h.kk⟩
 obtain⟨g,e,G,I,-⟩:=a.rows.2.room (by
  have:=a.rows.2.le;have:=a.rows.1;have:=List.length_pos_of_mem (show r∈l from m);omega)
 exact((a.own g e r m).hi (cF on.size h1) fun c F f=>(h2 c (by omega) (cD f on.size) (by omega) fun o=>by have:=h.hT c o;omega).trans (on.same c f (by omega))).mE
theorem gT.rzs(h:gT w b0 b1 b2 b3 b4 b5 P x T fe)(F:0<x.N.c->∀g,x.N.A=some ⟨g,0,none⟩->g<b2\/b3<=g)(E:0<x.J.c->∀g,x.J.A=some ⟨g,0,none⟩->g<b2\/b3<=g){l:List Rz}(H:r8 W b2 x.R.A n x.R.c l)(fr:Fr b2 x.R.A x.R.c w W)(hn:n<=1000)(hs:∀r∈l,r∈x.s.bx)(v:X=W.setCell ⟨P,3,none⟩ (.slice x.R.A n x.R.c)):gT X b0 b1 b2 b3 b4 b5 P (x.rzs l ⟨x.R.A,n,x.R.c⟩) T fe:=by
 have O:=h.u1;have Q:=h.u2;have S:=h.u3;have U:=h.u4;have V:=h.u5;have Y:=h.u6;have G:=h.ce.lt;have on:aU P W X:=v▸aU.set _ _ _;have p:=cF fr.size on.size;have du:∀g,b3<=g->0<x.R.c->x.R.A≠some ⟨g,0,none⟩:=fun g hg d e=>by have:=h.hR d g e;omega
 have K:ai W P 181 (vF x T):=(fr.same P G (du P (by omega))).trans h.ce
 obtain⟨t,ht,z⟩:∃t,(t=P\/(0<x.R.c/\x.R.A=some ⟨t,0,none⟩))/\∀b,b<w.heap.size->b≠t->b≠P->X.heap[b]?=w.heap[b]?:=by
  by_cases d:0<x.R.c
  ·obtain⟨t,e,-,-⟩:=h.bx.2.room d;exact⟨t,.inr ⟨d,e⟩,fun b i k j=>(on.same b (cD i fr.size) j).trans (fr.same b i fun _ a=>k (by rw[e]at a;injection a with a;injection a with a;exact a.symm))⟩
  ·exact⟨P,.inl rfl,fun b i k j=>(on.same b (cD i fr.size) j).trans (fr.same b i fun Z=>absurd Z d)⟩
 have off:∀{α:Type} {f:α->List Vl} {q base:Nat} {A:OA} {n c:Nat} {l:List α},be f q w base A n c l->(0<c->A≠some ⟨P,0,none⟩)->(0<c->∀g,A=some ⟨g,0,none⟩->g<b2\/b3<=g)->be f q X base A n c l:=fun m h1 h2=>ny p z m (fun d e=>by
  rcases ht with rfl|⟨o,ht⟩
  ·exact h1 d e
  ·have L:=h.hR o t ht;obtain⟨t',a,q2,-⟩:=h.bx.2.room o;rw[ht]at a;injection a with a;injection a with a
   rcases h2 d t e with M|M<;>omega) h1
 have up:∀{α:Type} {f:α->List Vl} {q base:Nat} {A:OA} {n c:Nat} {l:List α},be f q w base A n c l->b3<=base->(0<c->∀g,A=some ⟨g,0,none⟩->g<b2\/b3<=g):=fun m hb d g e=>by
  obtain⟨g',a,L,-⟩:=m.2.room d;rw[e]at a;injection a with a;injection a with a;omega
 have y:∀{A:OA} {c hi:Nat},eK A c hi->hi<=P->0<c->A≠some ⟨P,0,none⟩:=fun I hh d e=>by have:=I d P e;omega
 refine⟨by rw[v];exact K.set 3 _,off h.ag h.sf F,off h.aj h.zg E,?_,off h.aZ (y h.hB (by omega)) (up h.aZ (by omega)),off h.bK (y h.hL (by omega)) (up h.bK (by omega)),fun r u B h1 h2=> ?_,h.jr,off h.fe (fun d e=>by have:=h.sg P e;omega) (up h.fe (by omega)),h.sf,h.zg,h.wk,h.wj,h.sg,fun g e=>cD (h.hT g e) p,fun d g e=>h.hR d g e,h.hB,h.hL,O,Q,S,U,V,Y,h.fN,h.fJ,hn,h.fB,h.fL,h.fT,fun r u=>h.kk r (hs r u)⟩
 ·exact ed on H (fun d g e=>h.hR d g e:eK x.R.A x.R.c b3) (by omega)
 ·refine h.nest r u B (cF p h1) fun c i k j C=>(h2 c i (cD k p) j C).trans (z c k (fun e=> ?_) j);rcases ht with D|⟨o,ht⟩
  ·exact j (e.trans D)
  ·have:=h.hR o t ht;omega
theorem gT.del(h:gT w b0 b1 b2 b3 b4 b5 P x T fe){l:List Ou}(C:fY W (P+1) T.A n T.c l)(fr:Fr (P+1) T.A T.c w W)(hn:n<=1000000)(s:X=W.setCell ⟨P,8,none⟩ (.slice T.A n T.c)):gT X b0 b1 b2 b3 b4 b5 P x ⟨T.A,n,T.c⟩ l:=by
 have F:=h.u1;have G:=h.u2;have H:=h.u3;have I:=h.u4;have J:=h.u5;have K:=h.u6;have B:=h.ce.lt;have on:aU P W X:=s▸aU.set _ _ _;have o:=cF fr.size on.size;have E:ai W P 181 (vF x T):=(fr.same P B fun a e=>by have:=h.sg P e;omega).trans h.ce;have v:∀b,b<w.heap.size->T.A≠some ⟨b,0,none⟩->b≠P->X.heap[b]?=w.heap[b]?:=fun b i j k=>(on.same b (cD i fr.size) k).trans (fr.same b i fun _=>j)
 have off:∀{α:Type} {f:α->List Vl} {q base:Nat} {A:OA} {n c:Nat} {l:List α},be f q w base A n c l->(0<c->A≠some ⟨P,0,none⟩)->(0<c->∀g,T.A=some ⟨g,0,none⟩->A≠some ⟨g,0,none⟩)->be f q X base A n c l:=fun m h1 h2=>by
  refine⟨m.1,m.2.cb,m.2.le,m.2.max,fun a=> ?_,m.2.cz⟩;exact(m.2.ij o fun b t L=>v b L (fun e=>h2 a b e t) (fun e=>h1 a (by rw[t,e]))).room a
 have d:∀{A:OA} {c hi:Nat},eK A c hi->hi<=P->(0<c->A≠some ⟨P,0,none⟩)/\(0<c->∀g,T.A=some ⟨g,0,none⟩->A≠some ⟨g,0,none⟩):=fun u M=>⟨fun a e=>by have:=u a P e;omega,fun a g e z=>by have:=u a g z;have:=h.sg g e;omega⟩;refine⟨by rw[s];exact E.set 8 _,off h.ag h.sf (fun a g e=>h.wk g e a),off h.aj h.zg (fun a g e=>h.wj g e a),off h.bx (d h.hR (by omega)).1 (d h.hR (by omega)).2,off h.aZ (d h.hB (by omega)).1 (d h.hB (by omega)).2,off h.bK (d h.hL (by omega)).1 (d h.hL (by omega)).2,fun r D y h1 h2=> ?_,h.jr,aV on C (by omega),h.sf,h.zg,h.wk,h.wj,h.sg,fun g e=>cD (h.hT g e) o,h.hR,h.hB,h.hL,F,G,H,I,J,K,h.fN,h.fJ,h.fR,h.fB,h.fL,hn,h.kk⟩;exact h.nest r D y (cF o h1) fun c i j k p=>(h2 c i (cD j o) k p).trans (v c j p k)
end
set_option maxRecDepth 100000
def PutW(a b1 b2 b3 b4 b5 P:Nat)(x:Sr)(T:Sl)(b:List Ou)(m:List Jb)(w:Wd)(e:Ed)(w':Wd):Prop:=
 ∃l J,e=.returned (.tuple #[])/\l.map Jr.j=m/\gT w' a b1 b2 b3 b4 b5 P (x.bD l J) T b/\(0<J.c->∀g,J.A=some ⟨g,0,none⟩->w<=g)/\Bl a w w'/\Fd P T.A T.A w w'
theorem Ki(h:ai w P t (vF x T)):w.cell? P=some (x.s.am:Vl)/\w.cell? ⟨P,1,none⟩=some x.N.v/\w.cell? ⟨P,2,none⟩=some x.J.v/\w.cell? ⟨P,3,none⟩=some x.R.v/\w.cell? ⟨P,8,none⟩=some T.v:=
 ⟨h.cell 0,h.cell 1,h.cell 2,h.cell 3,h.cell 8⟩
theorem gT.du{a:Nat}{b:List Ou}(h:gT w a b1 b2 b3 b4 b5 P x T b):a<=P:=by have:=h.u1;have:=h.u2;have:=h.u3;have:=h.u4;have:=h.u5;have:=h.u6;omega
theorem Eg(t b1 b2 b3 b4 b5 P:Nat)(x:Sr)(T:Sl)(L:List Ou)(r:Jr)(w:Wd)(h:gT w t b1 b2 b3 b4 b5 P x T L)(I:eF w r)(H:sW x.s.aj r.j=0):
 Cs prog 192 #[.pointer P,.agg (bk r)] w (PutW t b1 b2 b3 b4 b5 P x T L (gv x.s.aj r.j) w):=by
 obtain⟨V,F,i,K⟩:=az w (bk r) 51;have B:=ah h;have z:=ah i;have f:=ah (h.ce.ae i h.ce.lt);have M:=ah K
 have Y:=ah fun(W:Wd) (b:Bl V V W)=>by
  have E:=aa i b;have:=ub x.J.A x.J.n x.J.c x.jr r W (h.ae E).mE.aj (I.ae E) (by have:=h.fJ;omega) h.aj.2.le h.aj.2.cz;rw[h.jr,H]at this;exact this
 have R:Hid (∀l:List Jr,l.map Jr.j=gv x.s.aj r.j->l.length<=1000):=fun l o=>by
  have h1:=cO List.length o;rw[dB,ua,<-h.jr,dB,h.aj.1]at h1;have:=h.fJ;omega
 have yI:=h.ce.lt;clear h I H i K;go_in;go_wp2_with fail;rw[<-F];clear F;refine lqb (fun W=>Bl V V W) [6] [0,1,2,3,4,5,6,7,8,9,10,11] (by kernel_rfl) (by kernel_rfl) bR.drew ?_;have q:Bl V V V.drew:=bR.drew
 iterate 5
  refine lqe rfl (fun _ _ _ _ h=>h) ⟨?_,fun W m _=> ?_,?_⟩;rotate_left
  ·obtain⟨c0,c1,c2,c3,c8⟩:=Ki (f.ae m f.lt);go_simp
   try rfl
 refine jE rfl (some 12) rfl rfl rfl (fun _ _ _ _ h=>h) 51 (.tmp 3) rfl (fun W m _=>M.ae m M.lt) (by go_simp) underlying51 rfl aK rfl ?_;refine lqc 181 #[.slice x.J.A x.J.n x.J.c,.agg (bk r)] (some 13) rfl (by go_simp) ?_;refine(Y _ q).mono ?_;rintro e W ⟨A,n,c,l,rfl,G,b1,o⟩;refine⟨_,rfl,aa q b1,trivial,?_⟩;have C:=ah G;have D:=ah (o rfl);have N:=ah (aa q b1);clear q b1 G o
 iterate 5
  refine lqe rfl (fun _ _ _ _ h=>h) ⟨?_,fun W m _=> ?_,?_⟩;rotate_left
  ·go_simp
   try rfl
 refine ew ?_;simp only[aP,aW];obtain⟨X,d⟩:=nm (W.setCell ⟨P,2,none⟩ (.slice A n c));have k:Bl w w W:=aa z N;have u:=f.ae N f.lt;have y2:W.cell? ⟨P,2,none⟩=some x.J.v:=u.cell 2;have f2:=u.ao 2;have y:Hid (vG W w A n c l):=⟨aS C.rows (show w.heap.size<=V.drew.heap.size from z.size),C.own⟩;have Q:=ah (gT.bD B k y (by rw[<-y.out.rows.1];exact R l D) d)
 have U:Hid (Bl t w X):=by
  show Bl _ _ _;have:=B.du;rw[d];exact(k.mono (by omega)).setCell (p:=⟨P,2,none⟩) this _
 have O:Hid (0<c->∀g,A=some ⟨g,0,none⟩->w<=g):=fun S g e=>by
  obtain⟨g',a,hb,-⟩:=y.rows.2.room S;rw[e]at a;injection a with a;injection a with a;omega
 have Z:Hid (Fd P T.A T.A w X):=(Fd.aX k).trans (Fd.xe (by rw[d];exact aU.set _ _ _));clear k u;go_wp2_with(rw[<-d];clear d)
 (try simp only[Exit.inBlock,Exit.then])
 refine cU (lE rfl _ _ _) rfl ?_;exact⟨l,⟨A,n,c⟩,rfl,D,Q,O,U,Z⟩
theorem NX:∀args w,(callFunc 198 args).run prog w=.ok (.enter 198 args) w:=enters_of func198 (by kernel_rfl) rfl
theorem KG(r:Rz)(id:Int)(b:Nat)(w:Wd)(e:w.cell? b=some (id:Vl))(d:b<w):Cs prog 198 #[.agg (om r),.pointer b] w (an (r.jb==id:Bool) w):=by
 have a:Hid (ai (w.alloc (.cells (om r) 37)) w 37 (om r)):=ai.new _ _ _;have c:=a.cell 0;simp at c;go_in;go_wp2;go_ret;exact⟨ar (by first|rfl|simp[st_any]),aA⟩
theorem gT.fr{W X:Wd}{a:Nat}{g:List Ou}(h:gT w a b1 b2 b3 b4 b5 P x T g)(fr:Fr b2 x.R.A x.R.c w W){v:Vl}(d:X=W.setCell ⟨P,3,none⟩ v):Fd P T.A T.A w X/\Bl a w X:=by
 have i:=h.u1;have j:=h.u2;have k:=h.u3;have l:=h.u4;have m:=h.u5;have n:=h.u6;have on:aU P W X:=d▸aU.set _ _ _;refine⟨⟨cF fr.size on.size,fun b h1 h2 _=>(on.same b (cD h2 fr.size) (by omega)).trans (fr.same b h2 fun f e=>by have:=h.hR f b e;omega),.inl rfl⟩,?_⟩;rw[d];exact(fr.du.mono (by omega)).setCell (p:=⟨P,3,none⟩) (by show a<=P;omega) v
def EndW(a b1 b2 b3 b4 b5 P:Nat)(x:Sr)(A:OA)(b:List Ou)(j:Jb)(why:Int)(w:Wd)(e:Ed)(w':Wd):Prop:=
 ∃z T,e=.returned ()/\gT w' a b1 b2 b3 b4 b5 P z T (b++(Pq 5 j.id why::(gH x.s j.id).2.1.map zk))/\z.s=gJ x.s j why/\Bl a w w'/\Fd P A T.A w w'
theorem xT{s:St}(g:bt s){j:Jb}(c:j∈s.aj){why:Int}(b:kK j why=0):(gH s j.id).2.2=0/\(gH s j.id).1.length<=1000/\(gH s j.id).2.1.length<=64:=by
 obtain⟨a,D⟩:=mH g j.id;refine⟨a,?_,lu _ _ _ _ _⟩;have:=(cQ.1 g.ag).cf;rw[D.cb];omega
abbrev TK(V:Wd)(j:Jb)(Z F:Vl)(a:Wd):Prop:=∃(g:Nat) (r:Jr),Z=.pointer g/\F=.bool true/\ai a g 51 (bk r)/\eF a r/\r.j=j/\V<=g/\Bl V V a
theorem xJ(b0 b1 b2 b3 b4 b5 P:Nat)(x:Sr)(T:Sl)(yC:List Ou)(id why:Int)(j:Jb)(w:Wd)(h:gT w b0 b1 b2 b3 b4 b5 P x T yC)(g:bt x.s)(hf:eh x.s.aj id=some j)(hs:j.st=2)(M:kK j why=0)(hN:eK x.N.A x.N.c b1)(hn:T.n+100<=1000000):
 Cs prog 104 #[.pointer P,id,why] w (EndW b0 b1 b2 b3 b4 b5 P x T.A yC j why w):=by
 obtain⟨-,hm,hid,hok⟩:=fq hf;subst hid;obtain⟨V,hV,bV,kV⟩:=az w #[j.id] 3;have HH:=ah (h.ae bV);have HB:=ah bV;have HK:=ah (h.ce.ae bV h.ce.lt);have HI:=ah kV
 have HF:=ah fun(W:Wd) (b:Bl V V W)=>by
  have hi:=((h.ae bV).ae b).mE;have:=m4 x.J.A x.J.n x.J.c x.jr j.id W hi.aj (by have:=h.fJ;omega) h.aj.2.le;rw[h.jr,hf]at this;exact this
 have HM:=ah hm;have HE:=ah M;have HS:=ah hs;have HG:=ah g;have HU:=ah hN;have HN':=ah hn;have uQ:Hid (sW x.s.aj (gX j why)=0):=zw g.aj (CJ M).1 hm (mC j why).symm;have hPw:=h.ce.lt;have hVw:w.heap.size<V:=kV.lt;have HT0:=ah h.hT;clear h g hf hs M hN hn hm hok bV kV;go_in;go_wp2_with fail;rw[<-hV];clear hV;go_cut [7,8] (fun Z F wx=>TK V j Z F wx)
 case first=>
  refine bW (fun W=>Bl V V W) (fun _=>True) #[] [] 7 [0,1,2,3,4,5,6,7,8,9,10,11,12] (by kernel_rfl) (by kernel_rfl) bR.drew trivial ?_;have k0:Bl V V V.drew:=bR.drew
  iterate 6
   refine lqe rfl (fun _ _ _ _ h=>h) ⟨?_,fun W d _=> ?_,?_⟩;rotate_left
   ·obtain⟨c0,c1,c2,c3,c8⟩:=Ki (HK.ae d HK.lt);have ci:=(HI.ae d HI.lt).cell 0;simp at ci;go_simp
    try rfl
  refine mP 7 rfl ?_;refine wpAnyH_all (rs:=[6,10]) (by kernel_rfl) (by simp) ?_;intro i hi;simp only[dK,lF,oV]at hi;rcases hi with rfl|rfl
  ·refine ea 146 #[.slice x.J.A x.J.n x.J.c,j.id] (some 21) rfl rfl (a8 rfl _) (by go_simp) ?_;refine(HF _ k0).mono ?_;rintro e W ⟨r,rfl,O,b1,z,-⟩;have HJ:=ah (z j rfl);have HR:=ah O;have m:=aa k0 b1;clear z O b1;refine⟨_,rfl,m,?_⟩;refine cx (i:=7) (some 14) rfl rfl (by kernel_rfl) rfl (fun _ _ _ _ h=>h) m ⟨?_,fun W d=> ?_,?_⟩;rotate_left
   ·go_simp
    try rfl
   refine cx (i:=8) (some 22) rfl rfl (by kernel_rfl) rfl (fun _ _ _ _ h=>h) m ⟨?_,fun W d=> ?_,?_⟩;rotate_left
   ·go_simp
    try rfl
   refine cx (i:=9) (some 23) rfl rfl (by kernel_rfl) rfl (fun _ _ _ _ h=>h) m ⟨?_,fun W d=> ?_,?_⟩;rotate_left
   ·go_simp
    try rfl
   refine dg (i:=10) (by kernel_rfl) (eS (.pointer W) (W.alloc (.cells cP 51)) (some 7) rfl rfl (a8 rfl _) (by go_simp) fun u uJ=> ?_);have y:Bl V V u:=uJ▸m.alloc m.size _;have U:ai u W 51 cP:=uJ▸ai.new _ _ _;refine⟨y,?_⟩;refine dg (i:=11) (by kernel_rfl) (cv 51 (.tmp 7) (.tmp 22) W (bk r) rfl rfl rfl (a8 rfl _) (by go_simp) (by go_simp) U aK rfl rfl ?_);intro K C;have B:Bl V V K:=C▸aH y m.size _;have uF:Hid (ai K W 51 (bk r)):=by rw[C];exact ai.row U _
   have qD:Hid (eF K r):=by
    show eF _ _;rw[C,uJ];exact HR.ae (aD)
   refine⟨B,?_⟩;refine cx (i:=12) (some 8) rfl rfl (by kernel_rfl) rfl (fun _ _ _ _ h=>h) B ⟨?_,fun W d=> ?_,?_⟩;rotate_left
   ·go_simp
    try rfl
   refine wpAnyH_done (by kernel_rfl) ?_ _;have S:=ah B;have HG3:=ah m.size;clear k0 m y B U C uJ;simp only[aP,aW];go_wp2;go_meet;exact⟨W,r,rfl,rfl,uF,qD,HJ,HG3,S⟩
  ·refine eS (.pointer V) (V.drew.alloc (.cells cP 51)) (some 7) rfl rfl (a8 rfl _) (by go_simp) fun W d=> ?_;have m:Bl V V W:=d▸k0.alloc lr _;have HZ1:Hid (ai W V 51 cP):=by rw[d];exact ai.new V.drew _ _
   refine⟨m,?_⟩;refine dg (i:=6) (by kernel_rfl) (ea 146 #[.slice x.J.A x.J.n x.J.c,j.id] (some 21) rfl rfl (a8 rfl _) (by go_simp) ?_);refine(HF _ m).mono ?_;rintro e u ⟨r,rfl,O,b1,z,-,yZ⟩;have HJ:=ah (z j rfl);have y:=aa m b1;have U:=HZ1.ae b1 HZ1.lt;refine⟨_,rfl,y,?_⟩;refine cx (i:=7) (some 14) rfl rfl (by kernel_rfl) rfl (fun _ _ _ _ h=>h) y ⟨?_,fun W d=> ?_,?_⟩;rotate_left
   ·go_simp
    try rfl
   refine cx (i:=8) (some 22) rfl rfl (by kernel_rfl) rfl (fun _ _ _ _ h=>h) y ⟨?_,fun W d=> ?_,?_⟩;rotate_left
   ·go_simp
    try rfl
   refine cx (i:=9) (some 23) rfl rfl (by kernel_rfl) rfl (fun _ _ _ _ h=>h) y ⟨?_,fun W d=> ?_,?_⟩;rotate_left
   ·go_simp
    try rfl
   refine dg (i:=11) (by kernel_rfl) (cv 51 (.tmp 7) (.tmp 22) V (bk r) rfl rfl rfl (a8 rfl _) (by go_simp) (by go_simp) U aK rfl rfl ?_);intro K C;have B:Bl V V K:=C▸aH y lr _;have uF:Hid (ai K V 51 (bk r)):=by rw[C];exact ai.row U _
   have qD:Hid (eF K r):=by
    show eF _ _;rw[C];exact(yZ.hi (by rw[fE];exact cB _) fun b h1 h2=>f9 _ _ _ _ (by have:W.heap.size=V+1:=(by rw[d];simp);omega)).mE
   refine⟨B,?_⟩;refine cx (i:=12) (some 8) rfl rfl (by kernel_rfl) rfl (fun _ _ _ _ h=>h) B ⟨?_,fun W d=> ?_,?_⟩;rotate_left
   ·go_simp
    try rfl
   refine wpAnyH_done (by kernel_rfl) ?_ _;have S:=ah B;clear k0 m y B U C z O b1 yZ d;simp only[aP,aW];go_wp2;go_meet;exact⟨V,r,rfl,rfl,uF,qD,HJ,cB _,S⟩
 case rest=>
  obtain⟨gj,r,rfl,rfl,hk,O,z,hg,hb⟩:=hcut;have yX:=ah hk;have HJj:=ah z;have HBj:=ah hb;have HEn:=ah (Jk r why _ O);rw[z,HE.out]at HEn;clear hk O z hb;go_wp2_with(refine wA yX t51 rfl ?_);refine HEn.out.mono ?_;rintro e u ⟨r2,rfl,uI,yZ,yP⟩;have yP:=yP rfl;simp only[HJj.out]at yP;have HN:Hid (ai (u.alloc (.cells cP 51)) u 51 cP):=ai.new _ _ _;obtain⟨Y,uG⟩:=nm ((u.alloc (.cells cP 51)).setRow u (bk r2));have uM:Bl u u Y:=uG▸aD;have qL:ai Y u 51 (bk r2):=uG▸ai.row HN _;have B3:=aa (aa HBj uI) uM;have HD3:=ah (HH.ae B3);have uF:=ah qL;have uP:=ah ((yX.ae uI yX.lt).ae uM (yX.ae uI yX.lt).lt);have HI3:=ah (HI.ae B3 HI.lt);have S:=ah B3;have HPt:=ah (Eg b0 b1 b2 b3 b4 b5 P x T yC r2 Y HD3 (yZ.mE.ae uM) (by rw[yP];exact uQ));rw[yP]at HPt;clear uI yZ yP uM qL B3;go_wp2_with(first|(rw[<-uG];clear uG)|refine wB HN aK rfl ?_|refine wA uF t51 rfl ?_);refine HPt.out.mono ?_;rintro e W4 ⟨l,J,rfl,hl,qG,qK,bw4,uY⟩;have hTw:T.A≠some ⟨w,0,none⟩:=fun e=>by have:=HT0.out _ e;omega
  have hTg:T.A≠some ⟨gj,0,none⟩:=fun e=>by have:=HT0.out _ e;omega
  have HD4:=ah qG;have HL4:=ah hl;have HJ4:=ah qK;have HB4:=ah bw4;have HF4:=ah uY;have yi:=(uY.ce HI3 (by omega) hTw).cell 0;simp at yi;have HTl:=ah (rh b0 b1 b2 b3 b4 b5 P (x.bD l J) T yC 5 j.id why W4 qG (by have:=HN'.out;omega));clear hl qG qK bw4 uY;go_wp2_with fail;refine HTl.out.mono ?_;rintro e W5 ⟨o,rfl,qE,bw5,fd5⟩;have uL:=HF4.trans fd5;have a:=ah qE;have HF5:=ah uL;have HB5:=ah (HB4.trans bw5);have kj5:=uL.ce uP (by omega) hTg;have uB:=ah (uL.ce HI3 (by omega) hTw);have x11:=kj5.cell 11;have x3:W5.cell? ⟨P,3,none⟩=some (.slice x.R.A x.R.n x.R.c):=qE.ce.cell 3;simp[HJj.out,HS.out]at x11;have eg:=NX
  have HDl:=ah (FZ 198 w (fun q=>q.jb==j.id) b2 x.R.A x.R.c W5 eg (fun q W fr=>by
   have kI:ai W w 3 #[j.id]:=(fr.same _ uB.lt fun k e=>by have D:=a.hR k _ e;have E:=a.u4;have q3:=a.u5;have q4:=a.u6;omega).trans uB;have:=kI.cell 0;simp at this;exact KG q j.id w W this kI.lt) x.R.n x.s.bx W5 (Fr.refl (by have D:=a.u3;have E:=a.u4;have q3:=a.u5;have q4:=a.u6;have q5:=a.ce.lt;omega) _ _) a.bx (by have:x.R.n<=1000:=a.fR;omega))
  clear qE bw5 fd5 uL kj5;go_wp2_with fail;refine HDl.out.mono ?_;rintro e W6 ⟨rfl,hrz,yQ⟩;have yM:∀g,P<=g->0<x.R.c->x.R.A≠some ⟨g,0,none⟩:=fun g hg k e=>by have D:=a.hR k _ e;have E:=a.u4;have q3:=a.u5;have q4:=a.u6;omega
  have uT:ai W6 P 181 (vF (x.bD l J) o):=(yQ.same P a.ce.lt (yM P lr)).trans a.ce;obtain⟨f,uD⟩:=nm (W6.setCell ⟨P,3,none⟩ (.slice x.R.A (x.s.bx.filter (fun q=> !(q.jb==j.id))).length x.R.c));obtain⟨f6,B6⟩:=gT.fr a yQ uD;have G:=ah (gT.rzs a (fun k g e=>by have D:=HU.out k g e;have E:=a.u2;omega) (fun k g e=>by have D:=HJ4.out k g e;have E:=a.u4;have q3:=a.u5;have q4:=a.u6;have q5:=S.size;omega) hrz yQ (by have D:(x.s.bx.filter (fun q=> !(q.jb==j.id))).length<=x.s.bx.length:=l8 _ _;have E:x.R.n<=1000:=a.fR;have q3:x.s.bx.length=x.R.n:=a.bx.1;omega) (fun q hq=>(fM.1 hq).1) uD);have y3:W6.cell? ⟨P,3,none⟩=some (.slice x.R.A x.R.n x.R.c):=uT.cell 3;have f3:=uT.ao 3
  have qM:Hid (ai f w 3 #[j.id]):=by
   show ai _ _ _ _;have on:aU P W6 f:=uD▸aU.set _ _ _;exact(on.same _ (cD uB.lt yQ.size) (by omega)).trans ((yQ.same _ uB.lt (yM _ (by omega))).trans uB)
  have Q:=ah G.ce;have HF6:=ah (HF5.trans f6);have HB6:=ah (HB5.trans B6);clear hrz yQ uT f6 B6 yM x11 x3 yi;go_wp2_with(rw[<-uD];clear uD);have HOf:=ah fun(W:Wd) (b:Bl f f W) (st:Int)=>CK x.N.A x.N.n x.N.c x.s.ag j.id st W ((G.ae b).ag.et mb) (by have:x.N.n<=1000:=G.fN;unfold maxLen;omega);refine aw (fun W=>Bl f f W) (by kernel_rfl) (by kernel_rfl) bR.drew ?_
  repeat(first
   |(refine cw rfl ⟨?_,fun w' I=> ?_,?_⟩
     rotate_left
     ·have D:=(Q.ae I Q.lt).cell 1;have qi:=(qM.ae I qM.lt).cell 0;simp at D qi;go_simp
      try rfl
     simp only[aP])
   |(refine ee 30 #[x.N.v,j.id,(1:Int)] (.int .u64 (cd (xd j.id 1) x.s.ag:Nat)) ?_ (fun w'=> ?_) (fun w' I=>(HOf w' I 1).mono fun e w'' ⟨M,hb⟩=>⟨M,aa I hb⟩) ?_
     ·rfl
     ·go_simp
     simp only[aP])
   |(refine ee 30 #[x.N.v,j.id,(2:Int)] (.int .u64 (cd (xd j.id 2) x.s.ag:Nat)) ?_ (fun w'=> ?_) (fun w' I=>(HOf w' I 2).mono fun e w'' ⟨M,hb⟩=>⟨M,aa I hb⟩) ?_
     ·rfl
     ·go_simp
     simp only[aP]))
  refine bM ?_;intro W7 qJ;have qC:=ah qJ;obtain⟨k,h1,h2⟩:=xT HG HM HE;have qH:Hid (bits .or .u64 ((cd (xd j.id 1) x.s.ag:Nat):Int) ((cd (xd j.id 2) x.s.ag:Nat):Int)=((zn x.s.ag j.id:Nat):Int)):=I4 _ _ (uh HG.ag) (uh HG.ag)
  have HEc:=ah fun(W:Wd) (b:Bl f f W)=>xS x.N.A x.N.n x.N.c x.s.ag (zn x.s.ag j.id) 7 0 x.s.am W ((G.ae b).ag.et mb) (by have:x.N.n<=1000:=G.fN;unfold maxLen;omega) (fun e=>by
   rcases dX x.N.c with k|k
   ·exact k
   ·obtain⟨g',L,-⟩:=G.ag.2.room k;have e2:x.N.A=_:=L;rw[e]at e2;cases e2) (Df HG.ag j.id)
  obtain⟨rs,uK⟩:=nm (gH x.s j.id);have yU:Hid (∀W,Bl f f W->Cs prog 199 #[x.N.v,.int .u64 ((zn x.s.ag j.id:Nat):Int),(7:Int),(),x.s.am] W (DJ rs W)):=fun W b=>by rw[uK];exact HEc W b
  rw[<-uK]at k h1 h2;have HRs:=ah uK;have H0:=ah k;obtain⟨so,hso⟩:=nm (zn x.s.ag j.id);rw[<-hso]at qH yU;clear HEc uK k hso qJ;rw[qH.out];go_wp2;refine bW (fun W=>Bl f f W) (fun _=>True) #[] [11] 0 [0,1,2,3,4,5,6,7,8,9,10,11,12,13,14,15,16,17,18] (by kernel_rfl) (by kernel_rfl) qC.drew trivial ?_;have k7:Bl f f W7.drew:=qC.drew
  iterate 11
   refine lqe rfl (fun _ _ _ _ h=>h) ⟨?_,fun W d hS=> ?_,?_⟩;rotate_left
   ·obtain⟨c0,c1,c2,c3,c8⟩:=Ki (Q.ae d Q.lt);go_simp
    try rfl
  refine el 199 #[x.N.v,.int .u64 (so:Int),(7:Int),(),x.s.am] rfl rfl (some 83) rfl rfl rfl (by go_simp) ?_;refine(yU _ k7).mono ?_;rintro e W8 ⟨A8,c8,B8,d8,rfl,hno,qI,qA⟩;refine⟨_,rfl,aa k7 qA,trivial,?_⟩;have HNo:=ah hno;have HNt:=ah qI;have uN:=ah (aa k7 qA);clear k7 qA hno qI;rw[H0.out]
  iterate 7
   refine lqe rfl (fun _ _ _ _ h=>h) ⟨?_,fun W d hS=> ?_,?_⟩;rotate_left
   ·go_simp
    try rfl
  refine ew ?_;simp only[aP,aW];have s78:=qC.size;obtain⟨t,yW⟩:=nm (W8.setCell ⟨P,1,none⟩ (.slice A8 rs.1.length c8));have uZ:=ah (gT.BK G uN (aS HNo (show f.heap.size<=W7.drew.heap.size from s78)) h1 yW);have qB:=Q.ae uN Q.lt;have y1:W8.cell? ⟨P,1,none⟩=some x.N.v:=qB.cell 1;have f1:=qB.ao 1;have uS:aU P W8 t:=yW▸aU.set _ _ _;have HF9:=ah ((HF6.trans (Fd.aX uN)).trans (Fd.xe uS));have yR:=G.du;have hPlt:=Q.lt
  have HB9:Hid (Bl b0 Y t):=by
   show Bl _ _ _;rw[yW];exact(HB6.trans (uN.out.mono (by omega))).setCell (p:=⟨P,1,none⟩) yR _
  have HSe:=ah (j7 B8 d8 rs.2.1 t.drew (((aV uS HNt (show P<W7.drew.heap.size from by show P<W7;omega)).et EG).ae (bR.drew:Bl t t t.drew)) (by omega));clear qB uS;go_wp2_with(rw[<-yW];clear yW);have y8:t.cell? ⟨P,8,none⟩=some o.v:=uZ.ce.cell 8;refine bW (fun _=>True) (fun W=>W.cell? ⟨P,8,none⟩=some o.v) #[false,false,false,false,false,false,false,false,false,false,true] [6,7,10] 0 [0,1,2,3,4,5,6,7,8,9,10] (by kernel_rfl) (by kernel_rfl) trivial y8 ?_
  iterate 6
   refine lqe rfl (fun _ _ _ _ h=>h) ⟨?_,fun W d hS=> ?_,?_⟩;rotate_left
   ·have c8:=hS (by kernel_rfl);go_simp
    try rfl
  refine el 41 #[.slice B8 rs.2.1.length d8] rfl rfl (some 100) rfl rfl rfl (by go_simp) ?_;refine HSe.out.mono ?_;rintro e uH ⟨A10,c10,rfl,yS,uE⟩;have yH:Bl t t uH:=(bR.drew:Bl t t t.drew).trans uE;have H:=uZ.ae yH;have z8:uH.cell? ⟨P,8,none⟩=some o.v:=H.ce.cell 8;refine⟨_,rfl,trivial,z8,?_⟩;have hl5:=a.fe.1;have hl0:=HH.fe.1;rw[cY,List.length_singleton,hl0]at hl5;have hnn:=HN'.out;obtain⟨yV,c11,uC,yY,uA,yD,yG,yT⟩:=dy jg (P:=prog) uH (P+1) 38 38 92 _ 80 underlying38 ja rfl o.A o.n o.c _ H.fe A10 rs.2.1.length c10 _ (yS.et jg) (by simp only[maxLen];omega) (by omega) (by have:=H.ce.lt;omega);have uO:o.A≠some ⟨P,0,none⟩:=fun e=>by have:=H.sg P e;omega
  have uV:ai uC P 181 _:=(yG P H.ce.lt uO).trans H.ce;have u8:uC.cell? ⟨P,8,none⟩=some o.v:=uV.cell 8;have g8:=uV.ao 8;obtain⟨qF,yE⟩:=nm (uC.setCell ⟨P,8,none⟩ (.slice yV (o.n+rs.2.1.length) c11));have yF:yV=o.A\/∃g,yV=some ⟨g,0,none⟩/\uH<=g:=yT.imp id fun e=>⟨_,e,cB _⟩;have uX:=ah (gT.tell H uA (by omega) yD.size yG yF yE (by omega))
  have uW:Hid (Fd P T.A yV Y qF):=by
   show Fd _ _ _ _ _;refine(HF9.trans (Fd.aX yH)).trans ?_;have on:aU P uC qF:=yE▸aU.set _ _ _;refine⟨cF yD.size on.size,fun b D E q3=>(on.same b (cD E yD.size) (by omega)).trans (yG b E q3),?_⟩;rcases yF with e|⟨g,e,hg⟩
   ·exact .inl e
   ·exact .inr fun g' L=>by rw[e]at L;injection L with L;injection L with L;omega
  have uR:Hid (Bl b0 Y qF):=by
   show Bl _ _ _;rw[yE];exact((HB9.trans (yH.mono (by have:=uZ.ce.lt;omega))).trans (yD.mono (by omega))).setCell (p:=⟨P,8,none⟩) yR _
  refine sT rfl rfl (some 101) rfl rfl rfl (.tmp 98) (.tmp 100) rfl (by go_simp) (by go_simp) yY ?_;intro W d;rw[d];refine⟨trivial,u8,?_⟩;have uU:=ah yE;clear yY uA yD yG yT yF uV H yH uE yS yE d
  iterate 2
   refine lqe rfl (fun _ _ _ _ h=>h) ⟨?_,fun W d hS=> ?_,?_⟩;rotate_left
   ·go_simp
    try rfl
  refine CY (uC.setCell ⟨P,8,none⟩ (.slice yV (o.n+rs.2.1.length) c11)) rfl rfl rfl (by kernel_rfl) rfl rfl (by go_simp) ?_;intro X hX;refine⟨trivial,?_⟩;rw[<-uU.out]at hX;subst hX;simp only[aP,aW];clear u8 g8 y8 z8;go_wp2;go_ret;have hd:=uX.out;rw[fX,List.singleton_append,HRs.out]at hd;refine⟨_,_,rfl,hd,?_,((HB.out.mono (by omega)).trans (S.out.mono (by omega))).trans uR,?_⟩
  ·rw[gJ,cK HS.out,<-HL4.out];rfl
  ·exact(Fd.aX HB).trans ((Fd.aX S).trans uW)
def SW(s:St)(n:Int)(w:Wd)(e:Ed)(w':Wd):Prop:=∃(z:Sr) (T:Sl) (a:List Ou),e=.returned (.tuple #[.agg (aY z),T.v,()])/\gV w w' z/\z.s=s/\fY w' w T.A T.n T.c a/\(a.length:Int)=n/\Bl w w w'
theorem Nq(h:ai w P t (vF x T)):w.cell? P=some (x.s.am:Vl)/\w.cell? ⟨P,1,none⟩=some x.N.v/\w.cell? ⟨P,2,none⟩=some x.J.v/\w.cell? ⟨P,3,none⟩=some x.R.v/\w.cell? ⟨P,4,none⟩=some x.B.v/\w.cell? ⟨P,5,none⟩=some x.L.v/\w.cell? ⟨P,6,none⟩=some (x.s.nj:Vl)/\w.cell? ⟨P,7,none⟩=some (x.s.nb:Vl)/\w.cell? ⟨P,8,none⟩=some T.v:=
 ⟨h.cell 0,h.cell 1,h.cell 2,h.cell 3,h.cell 4,h.cell 5,h.cell 6,h.cell 7,h.cell 8⟩
theorem NY(x:Sr)(id why:Int)(j:Jb)(w:Wd)(h:db w x)(g:bt x.s)(H:eh x.s.aj id=some j)(hs:j.st=2)(G:kK j why=0):Cs prog 48 #[.agg (aY x),id,why] w (SW (gJ x.s j why) (Oc x.s j) w):=by
 obtain⟨V,d⟩:=nm ((w.alloc (.cells (aY x) 28)).alloc (.cells dz 28));have l:Bl w w V:=d▸aC;have K:ai V w 28 (aY x):=d▸(ai.new _ _ _).alloc _;have A:ai V (w+1) 28 dz:=by rw[d];have:=ai.new (w.alloc (.cells (aY x) 28)) 28 dz;simpa using this
 have yU:=ah (da x V (h.ae l) g);have yV:=ah fun(W:Wd) (b:Bl V V W)=>gQ x W ((h.ae l).ae b);have p:=ah l;have q:=ah K;have D:=ah A;have X:=ah g;have U:=ah H;have C:=ah hs;have S:=ah G;have yX:=A.lt;clear h g l K A H hs G;go_in;go_wp2_with(first|(rw[<-d];clear d)|refine wA q t28 rfl ?_);refine av yU fun Y b2=> ?_;have o:=ah b2;have yT:=ah (q.ae b2 q.lt);clear b2;go_wp2_with(refine wA yT t28 rfl ?_);refine(yV _ o).mono ?_;rintro e a ⟨y,b1,b2,b3,b4,b5,rfl,n,u,P,t⟩;obtain⟨r,m⟩:=nm (a.alloc (.cells (vF y ⟨none,0,0⟩) 181));have B:Bl V V r:=m▸(aa o t).alloc (cF o.size t.size) _;have s2:=o.size;have R:Hid (gT r Y b1 b2 b3 b4 b5 a y ⟨none,0,0⟩ []):=by rw[m];exact gT.of u P
 have Z:=ah (xJ _ _ _ _ _ _ _ y ⟨none,0,0⟩ [] id why j r R (by rw[n];exact X) (by rw[n];exact U) C S u.hN (by show 0+100<=1000000;omega));have L:=ah n;have M:=ah B;clear n u P t B;go_wp2_with(rw[<-m];clear m);refine Z.out.mono ?_;rintro e c ⟨z,T,rfl,F,Q,v,-⟩;have f:=ah F;have yR:=ah Q;have O:Hid (ai c (w+1) 28 dz):=(v.block _ (by omega)).trans (D.ae M D.lt);have yP:Hid (Bl w w c):=(aa p M).trans (v.mono (by have:=p.size;omega));have hP:=f.du;have yQ:a.heap.size≠w+1:=by omega
 clear F Q v;go_wp2;refine lqb (fun W=>ai W a 181 (vF z T)) [8] [0,1,2,3,4,5,6,7,8,9,10] (by kernel_rfl) (by kernel_rfl) f.ce ?_;have I:ai c.drew a 181 (vF z T):=f.ce
 iterate 8
  refine lqe rfl (fun _ _ _ _ h=>h) ⟨?_,fun W E _=> ?_,?_⟩;rotate_left
  ·obtain⟨c0,c1,c2,c3,c4,c5,c6,c7,c8⟩:=Nq E;go_simp
   try rfl
 refine qn rfl rfl rfl rfl rfl 28 (.tmp 6) (.tmp 33) rfl (w+1) (aY z) (by go_simp) (by go_simp) O aT rfl rfl rfl ?_;intro k i;have J:ai k a 181 (vF z T):=i▸ai.gu I yQ _;have yW:Hid (ai k (w+1) 28 (aY z)):=by rw[i];exact ai.row O _
 have N:Hid (aU (w+1) c k):=by rw[i];exact⟨(aU.row c.drew (aY z)).size,(aU.row c.drew (aY z)).same⟩
 have yS:Hid (Bl w w k):=by rw[i];exact aH (nT yP) (by omega) _
 refine⟨J,trivial,?_⟩
 iterate 2
  refine lqe rfl (fun _ _ _ _ h=>h) ⟨?_,fun W E _=> ?_,?_⟩;rotate_left
  ·go_simp
   try rfl
 refine ew ?_;clear I J i;simp only[aP,aW];go_wp2;refine fV (cs:=aY z) rfl yW rfl rfl rfl underlying28 rfl aT rfl rfl ?_;refine⟨z,T,_,rfl,((f.Tw.on N (by omega)).mono (by have:=p.size;omega)),by rw[yR.out,L.out],aS (aV N f.fe (by omega)) (by omega),?_,yS⟩;rw[L.out];simp[Oc,C.out];omega
def OE(g:FuncId)(B:Ad)(q:Int->Bool)(base:Nat)(A:OA)(c:Nat)(a:Wd):Prop:=∀(x:Int) (W:Wd),Fr base A c a W->Cs prog g #[x,.pointer (some B)] W (an (q x:Bool) W)
theorem GY(g:FuncId)(B:Ad)(q:Int->Bool)(base:Nat)(j:OA)(p:Nat)(o:Wd)(F:∀args w,(callFunc g args).run prog w=.ok (.enter g args) w)(r:OE g B q base j p o)
 (A:OA)(n c:Nat)(l:List Int)(w:Wd)(hw:Fr base j p o w)(h:fs w A n l)(hn:n<=maxLen):
 Cs prog 301 #[.slice A n c,.func (.func g) #[] #[.pointer (some B)]] w (an (Qh q l:Int) w):=by
 unfold maxLen at hn;have C:=h.cb;subst C;have v:=ah h;have u:=ah r;clear h r;go_in;go_wp2
 go_loopw [8] (fun i wr=>IN w q l i wr) (fun i _=>l.length-(intOf i).toNat)
 case atStart=>exact⟨0,by omega,rfl,by simp,cC _ _⟩
 case round=>
  obtain⟨k,H,rfl,t,a⟩:=hrel;have f:=ah t;clear t;by_cases D:k<l.length
  ·obtain⟨b,off,s,rfl,G,hs,E⟩:=cp.int (v.ae a) D;have m:=ah hs;have d:=ah (u s wr (hw.ae a));clear hs;cases hq:q s
   ·rw[hq]at d;have y:=ah (eP (P:=fun x=>q x=false) f m hq);clear hq;go_wp2_with fail;refine av d fun z b2=> ?_;go_wp2_with fail;exact⟨⟨k+1,by omega,by go_num,y,aa a b2⟩,by simp[intOf];omega⟩
   ·rw[hq]at d;have e:=ah (tK f m hq);clear hq;go_wp2_with fail;refine av d fun z b2=> ?_;go_wp2;go_ret;exact⟨ax e.symm,aa a b2⟩
  ·obtain rfl:k=l.length:=by omega
   have e:=ah (pg (q:=q) (l:=l) (by have:=f.out;rwa [cT]at this));go_wp2;go_ret;exact⟨ax e.symm,a⟩
theorem Sy{l:List Int}(h:df w base g n c l)(hi:i<n):∃s,w.cell? ⟨g,i,none⟩=some (s:Vl)/\w.frozen? ⟨g,i,none⟩=false:=by
 obtain⟨f,s,a,-,-,hs,d,e⟩:=bh gi h hi;have b:=aI a;subst b;have h1:=d 0 _ rfl;have h2:=(e 0 (by omega)).2;simp only[nK,fU]at h1 h2;exact⟨s,h1,h2⟩
theorem Ry(w:Wd):(zeroValue 3).run prog w=.ok () w:=by kernel_rfl
theorem Ez(g:FuncId)(B:Ad)(q:Int->Bool)(base:Nat)(A:OA)(c:Nat)(G:Wd)(eg:∀args w,(callFunc g args).run prog w=.ok (.enter g args) w)(t:OE g B q base A c G)
 (n:Nat)(l:List Int)(w:Wd)(hw:Fr base A c G w)(h:df w base A n c l)(hn:n<=1000000):
 Cs prog 186 #[.slice A n c,.func (.func g) #[] #[.pointer (some B)]] w (uj gl 1 base A c (l.filter (fun x=> !q x)) w):=by
 have yN:=h.1;subst yN;have yP:l.length<=maxLen:=by simp[maxLen];omega
 have z:=ah (GY g B q base A c G eg t A l.length c l w hw (h.et gi) yP);have Y:base<=w:=cF hw.le hw.size;cases hany:l.any q
 ·have Q:∀x∈l,q x=false:=fun x hx=>by
   have:=iF.1 hany x hx;simpa using this
  rw[pg Q]at z
  have o:Hid (l.filter (fun x=> !q x)=l):=by
   show _=_;rw[lQ];intro x hx;rw[Q x hx];rfl
  have F:=ah h;clear hany Q t h;go_in;go_wp2_with fail;refine av z fun w1 b1=> ?_;go_wp2;go_ret;rw[o.out];exact⟨rfl,F.ae b1,Fr.aX Y b1⟩
 ·obtain⟨k,s,J,hs,d⟩:=yh hany;rw[tK J hs d]at z;have uL:=(cA.1 hs).1;have uA:=ah (xZ J hs d);have F:=ah h;have HC:=ah t;have uE:=h.2.le;have yZ:=h.2.max;unfold maxLen at yZ;obtain⟨r,rfl,Z,uK,_,_⟩:=h.2.room (by omega);have uH:((k:Int)== -1)=false:=by simp
  have yW:0<c:=by omega
  clear hany J hs d t h;go_in;go_wp2_with fail;refine av z fun w1 b1=> ?_;go_wp2
  go_loopw [5,6] (fun i j wr=>MC gl 1 base r c q l w i j wr) (fun _ j _=>l.length-(intOf j).toNat)
  case atStart=>exact⟨k,k+1,by omega,by omega,rfl,by go_num,l,uA,rfl,F.ae b1,Fr.aX Y b1⟩
  case round=>
   obtain⟨a,b,uF,uJ,rfl,rfl,R,h1,h2,M,C⟩:=hrel;have D:=ah h1;have E:=ah h2;have p:=ah M;have W:=ah M.1;clear h1 h2 M;by_cases uD:b<l.length
   ·obtain⟨g',uC,s',e,uI,O,T⟩:=cp.int (p.et gi) uD;injection e with e;injection e with e1 e2;subst e1 e2;rw[cR]at T;rw[CL E.out]at O;have S:=ah O;clear O;have y:=ah (HC s' wr (hw.trans C));cases d:q s'
    ·rw[d]at y;go_wp2_with fail;refine av y fun w2 b2=> ?_;have P:=p.ae b2;have yY:=ah (C.ae b2);obtain⟨sa,uG,f0⟩:=Sy P (show a<l.length by omega);have V:=ah (CM W uF D E S d);have m:=ah (i0 gi P a (show a<l.length by omega) s');have X:=ah (yY.out.pM yW Z (a*1) (gl s'));rw[nK]at m X;clear d P T;go_wp2_with fail;exact⟨⟨a+1,b+1,by omega,by omega,by go_num,by go_num,R.set a s',V.1,V.2,m,X⟩,by simp[intOf];omega⟩
    ·rw[d]at y;go_wp2_with fail;refine av y fun w2 b2=> ?_;have yV:=ah (CN D E S d);clear d;go_wp2_with fail;exact⟨⟨a,b+1,by omega,by omega,rfl,by go_num,R,yV.1,yV.2,p.ae b2,C.ae b2⟩,by simp[intOf];omega⟩
   ·obtain rfl:b=l.length:=by omega
    have o:Hid (R.take a=l.filter (fun x=> !q x)):=by
     show _=_;rw[D.out,cT]
    have H:=p.out;obtain⟨g',e,_,_,_,L⟩:=H.2.room (by omega);injection e with e
    injection e with e1 e2;subst e1;have f:(Builtin.zeroCells (Value.int .i64 0).cells (l.length-a)).size=l.length-a:=by rw[oM];simp[Value.cells]
    have yX:∀K,(Builtin.clear_ #[171] K #[.slice (some ⟨r,a,none⟩) (l.length-a) (c-a)]).run prog wr=.ok (.tuple #[]) (wr.setCells r a (Builtin.zeroCells (Value.int .i64 0).cells (l.length-a)).toList):=fun K=>
     iz wr 171 3 K _ underlying171 Ry r a (l.length-a) (c-a) (by omega) (fun v hv=>iu hv (by intro u U;simp[Value.cells]at U;subst U;rfl)) (fun j I=>(L _ (by rw[f]at I;omega)).1) (fun j I=>(L _ (by rw[f]at I;omega)).2)
    have m:=ah (rX gi H a (show a<=l.length by omega) (Builtin.zeroCells (Value.int .i64 0).cells (l.length-a)).toList (by rw[oC,f,nK]));rw[nK]at m
    have uB:Hid ((l.filter (fun x=> !q x)).length=a):=by
     show _=_;rw[<-o.out,fD,W.out];omega
    clear H L f;obtain⟨zs,f⟩:=nm ((Builtin.zeroCells (Value.int .i64 0).cells (l.length-a)).toList);rw[<-f]at yX m;clear f;have N:=m.out;rw[o.out]at N;have yL:=ah N;clear N;go_wp2;go_ret;unfold uj;rw[uB.out];exact⟨rfl,yL,C.pM yW Z a zs⟩
end Go.Proofs.YthfhilggbbobmaaGreatDoor
