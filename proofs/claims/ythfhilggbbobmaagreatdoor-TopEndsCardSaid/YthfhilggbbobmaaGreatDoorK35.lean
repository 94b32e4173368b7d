/- Parts of the proof. -/
import Derived.Test.YthfhilggbbobmaaGreatDoorK32
import Derived.Test.YthfhilggbbobmaaGreatDoorK34
set_option linter.all false
set_option maxHeartbeats 20000000
namespace Go.Proofs.YthfhilggbbobmaaGreatDoor
set_option maxRecDepth 100000
open Go.Proofs.Tryz
open Go renaming World->Wd,Value->Vl,Ending->Ed,Calls->Cs
open Go.RowKit renaming Below->Bl
open Go.RowKit
theorem On:∀args w,(callFunc 299 args).run prog w=.ok (.enter 299 args) w:=enters_of func299 (by kernel_rfl) rfl
theorem K0(r:Jr)(v:Int)(b:Nat)(w:Wd)(d:w.cell? b=some (v:Vl))(c:b<w):Cs prog 299 #[.agg (bk r),.pointer b] w (an (r.j.id==v:Bool) w):=by
 have a:Hid (ai (w.alloc (.cells (bk r) 51)) w 51 (bk r)):=ai.new _ _ _;have e:=a.cell 0;simp at e;have f:(w.alloc (.cells (bk r) 51)).cell? b=some (v:Vl):=(((cC w w).alloc lr _).cell (p:=b) c).trans d;go_in;go_wp2;go_ret;exact⟨ar (by first|rfl|simp),aA⟩
theorem yj(b:Nat)(v:Int)(A:OA)(n c:Nat)(l:List Jr)(w:Wd)(u:w.cell? b=some (v:Vl))(o:b<w)(h:cp yl 20 w A n l)(hn:n<=1000):
 Cs prog 298 #[.slice A n c,.func (.func 299) #[] #[.pointer b]] w (an (Qh (fun r:Jr=>r.j.id==v) l:Int) w):=by
 have F:=h.cb;subst F;have B:=ah h;have z:=ah u;have H:=On;clear h u;go_in;go_wp2
 go_loopw [8] (fun i wr=>IN w (fun r:Jr=>r.j.id==v) l i wr) (fun i _=>l.length-(intOf i).toNat)
 case atStart=>exact⟨0,by omega,rfl,by simp,cC _ _⟩
 case round=>
  obtain⟨k,I,rfl,y,a⟩:=hrel;have f:=ah y;clear y;by_cases G:k<l.length
  ·obtain⟨D,off,s,rfl,J,hs,t⟩:=cp.at_ (B.ae a) G;have g:Hid (wr.rangeAt D (off+k*20) (bk s).toList):=t;have m:=ah hs;have d:=ah (K0 s v b wr ((a.cell (p:=b) o).trans z) (cD o a.size));clear hs t;cases hq:(s.j.id==v)
   ·rw[hq]at d;have C:=ah (eP (P:=fun x:Jr=>(x.j.id==v)=false) f m hq);clear hq;go_wp2_with(refine wC g t51 rfl ?_);refine av d fun E b2=> ?_;go_wp2_with fail;exact⟨⟨k+1,by omega,by go_num,C,aa a b2⟩,by simp[intOf];omega⟩
   ·rw[hq]at d;have e:=ah (tK (q:=fun r:Jr=>r.j.id==v) f m hq);clear hq;go_wp2_with(refine wC g t51 rfl ?_);refine av d fun E b2=> ?_;go_wp2;go_ret;exact⟨ax e.symm,aa a b2⟩
  ·obtain rfl:k=l.length:=by omega
   have e:=ah (pg (q:=fun r:Jr=>r.j.id==v) (l:=l) (by have:=f.out;rwa [cT]at this));go_wp2;go_ret;exact⟨ax e.symm,a⟩
variable{W X:Wd}{A:OA}{n:Nat}
theorem OZ{α:Type}{f:α->List Vl}{k:Nat}{l:List α}(h:cp f k W A n l)(p:W.heap.size<=X)(c:0<n->∀b off,A=some ⟨b,off,none⟩->b<W->X.heap[b]?=W.heap[b]?):cp f k X A n l:=by
 refine⟨Cells.cb h,Cells.eZ h,fun hn=> ?_⟩;obtain⟨b,off,e,o,d⟩:=Cells.at_ h hn;exact⟨b,off,e,by omega,fun i r g j v m=>(dI (a:=⟨b,off+i*k+j,none⟩) (c hn b off e o)).trans (d i r g j v m)⟩
theorem vf{α:Type}{f:α->List Vl}{k:Nat}{row:Option Nat}{l:List α}(h:cp f k W A n l)(a:W.grownBy X row)(d:mw W row):cp f k X A n l:=by
 refine⟨Cells.cb h,Cells.eZ h,fun hn=> ?_⟩;obtain⟨b,off,e,o,c⟩:=Cells.at_ h hn;exact⟨b,off,e,cD o a.size,fun i r m j v g=>cell_kept (c i r m j v g) a d⟩
def Qe(d a:Nat)(A I:OA)(q:OA)(c:Nat):Prop:=0<c->∀b,q=some ⟨b,0,none⟩->b≠d/\b≠a/\A≠some ⟨b,0,none⟩/\I≠some ⟨b,0,none⟩
def Az(c:Nat)(A:OA):OA:=if 0<c then A else none
structure DL(V:Wd)(A:OA)(n c bL bA bI B:Nat)(left:List bC)(S:Sl)(lc:List Jr)(I:Sl)(bO:List Int)(W:Wd):Prop where
 du:Bl V V W
 bl:ai W bL 327 #[S.v]
 ba:ai W bA 23 #[.slice A n c]
 bi:ai W bI 171 #[I.v]
 rows:gB W V A n c lc
 eZ:∀r∈lc,jk W V r/\Qe bL bI (Az c A) I.A r.A r.c/\Qe bL bI (Az c A) I.A r.F r.d
 Qi:Steps W S.A S.n left
 le:S.n<=S.c
 cz:S.A=none->S.c=0
 qo:0<S.n->∀b off,S.A=some ⟨b,off,none⟩->b≠bL/\b≠bI/\Az c A≠some ⟨b,0,none⟩/\I.A≠some ⟨b,0,none⟩/\b<W
 bO:df W B I.A I.n I.c bO
 hI:∀q,I.A=some ⟨q,0,none⟩->B<=q/\q<W
 hA:∀q,Az c A=some ⟨q,0,none⟩->q≠bL/\q≠bA/\q≠bI/\q<B
 cf:S.n<=1000000
 xW:n<=40
 b1:V<=bL
 b2:bL<bA
 b3:bA<bI
 b4:bI<B
 b5:B<=W
section
variable {V W X : World} {A : Option Addr} {n c bL bA bI B : Nat} {left : List bC} {S : Sl} {lc : List Jr} {I : Sl} {bO : List Int}
variable{r:Jr}{base:Nat}
theorem jk.ae(h:jk W base r)(b:Bl W W X):jk X base r:=h.hi b.size fun g _ h2=>b.block g h2
theorem DL.ae(h:DL V A n c bL bA bI B left S lc I bO W)(b:Bl W W X):DL V A n c bL bA bI B left S lc I bO X:=
 {du:=aa h.du b,bl:=h.bl.ae b h.bl.lt,ba:=h.ba.ae b h.ba.lt,bi:=h.bi.ae b h.bi.lt,rows:=h.rows.ae b,eZ:=fun r d=>⟨(h.eZ r d).1.ae b,(h.eZ r d).2⟩,Qi:=h.Qi.ae b,le:=h.le,cz:=h.cz,qo:=fun a q o e=>⟨(h.qo a q o e).1,(h.qo a q o e).2.1,(h.qo a q o e).2.2.1,(h.qo a q o e).2.2.2.1,cD (h.qo a q o e).2.2.2.2 b.size⟩,bO:=h.bO.ae b,hI:=fun q e=>⟨(h.hI q e).1,cD (h.hI q e).2 b.size⟩,hA:=h.hA,cf:=h.cf,xW:=h.xW,b1:=h.b1,b2:=h.b2,b3:=h.b3,b4:=h.b4,b5:=cF h.b5 b.size}
theorem ib{α:Type}{f:α->List Vl}{q:Nat}{P:Nat->Prop}(e:W.heap.size<=X.heap.size)(on:∀b,b<W.heap.size->¬P b->X.heap[b]?=W.heap[b]?){A:OA}{n c:Nat}{l:List α}(m:be f q W base A n c l)(h:0<c->∀b,A=some ⟨b,0,none⟩->¬P b):be f q X base A n c l:=by
 refine⟨m.1,m.2.cb,m.2.le,m.2.max,fun a=> ?_,m.2.cz⟩;exact(m.2.ij e fun b d g=>on b g (h a b d)).room a
theorem CR{P:Nat->Prop}(a:W.heap.size<=X.heap.size)(on:∀b,b<W.heap.size->¬P b->X.heap[b]?=W.heap[b]?)(m:jk W base r)(h1:0<r.c->∀b,r.A=some ⟨b,0,none⟩->¬P b)(h2:0<r.d->∀b,r.F=some ⟨b,0,none⟩->¬P b):jk X base r:=
 ⟨ib a on m.sh h1,ib a on m.af h2,m.cf,m.GP,m.nm,m.us,m.ac,m.nd⟩
theorem DL.rest(h:DL V A n c bL bA bI B left S lc I bO W){S2:Sl}{m:List bC}{F:Nat}(g:oq W F S2.A S2.n S2.c m)(z:∀q,I.A=some ⟨q,0,none⟩->q<F)(G:B<=F)(hn:S2.n<=1000000)(j:X=W.setCell ⟨bL,0,none⟩ S2.v):DL V A n c bL bA bI B m S2 lc I bO X:=by
 have on:aU bL W X:=j▸aU.set _ _ _;have hs:=h.du.size;have k:=h.b1;have s:=h.b2;have t:=h.b3;have u:=h.b4;have w:=h.b5;have i:∀b,b<W.heap.size->¬(b=bL)->X.heap[b]?=W.heap[b]?:=fun b h1 h2=>on.same b h1 h2
 have up:∀b,S2.A=some ⟨b,0,none⟩->0<S2.c->F<=b:=fun b e d=>by
  obtain⟨y,a,D,-⟩:=g.2.room d;rw[e]at a;injection a with a;injection a with a;omega
 refine{du:= ?_,bl:= ?_,ba:=(on.same _ h.ba.lt (by omega)).trans h.ba,bi:=(on.same _ h.bi.lt (by omega)).trans h.bi,rows:=ib (P:=fun b=>b=bL) on.size i h.rows (fun d b e=>(h.hA b (by rw[Az,cK d];exact e)).1),eZ:=fun r C=> ?_,Qi:=(ib (P:=fun b=>b=bL) on.size i g (fun d b e=>by have:=up b e d;omega)).et vb,le:=g.2.le,cz:=g.2.cz,qo:=fun d b o e=> ?_,bO:=ib (P:=fun b=>b=bL) on.size i h.bO (fun _ b e=>by have:=(h.hI b e).1;omega),hI:=fun q e=>⟨(h.hI q e).1,cD (h.hI q e).2 on.size⟩,hA:=h.hA,cf:=hn,xW:=h.xW,b1:=k,b2:=s,b3:=t,b4:=u,b5:=cF w on.size}
 ·rw[j];exact h.du.setCell (p:=bL) k _
 ·rw[j];exact h.bl.set 0 _
 ·obtain⟨x,f,l⟩:=h.eZ r C;exact⟨CR (P:=fun b=>b=bL) on.size i x (fun d b e=>(f d b e).1) (fun d b e=>(l d b e).1),f,l⟩
 ·obtain⟨y,a,D,E,-⟩:=g.2.room (by have:=g.2.le;omega);rw[e]at a;injection a with a;injection a with a e'';subst a;refine⟨by omega,by omega,fun f=> ?_,fun f=> ?_,cD E on.size⟩
  ·have:=(h.hA b f).2.2.2;omega
  ·have:=z b f;omega
variable{i:Nat}
theorem DL.put(h:DL V A n c bL bA bI B left S lc I bO W){g:Nat}(hg:A=some ⟨g,0,none⟩){F:Nat}(hi:i<n)(z:jk W F r)(hF:∀q,I.A=some ⟨q,0,none⟩->q<F)(yO:B<=F){Y Z:Wd}(H:Y=W.setCells g (i*20) (bk r).toList)
 {I2:Sl}{yD:List Int}(yH:df Z B I2.A I2.n I2.c yD)(yP:0<I2.n)(O:Bl B Y Z)(Q:∀c,c<Y.heap.size->I.A≠some ⟨c,0,none⟩->Z.heap[c]?=Y.heap[c]?)(yM:I2.A=I.A\/∀g,I2.A=some ⟨g,0,none⟩->Y.heap.size<=g)(T:X=Z.setCell ⟨bI,0,none⟩ I2.v):DL V A n c bL bA bI B left S (lc.set i r) I2 yD X:=by
 subst hg;have J:Az c g=some ⟨g,0,none⟩:=by rw[Az,cK (by have:=h.rows.2.le;omega)]
 have c1:=h.b1;have c2:=h.b2;have c3:=h.b3;have c4:=h.b4;have c5:=h.b5;obtain⟨a1,a2,a3,a4⟩:=h.hA g J;have yK:aU g W Y:=H▸aU.pM _ _ _;have D:aU bI Z X:=T▸aU.set _ _ _;have yQ:Y.heap.size=W:=by rw[H,gc]
 have yN:W.heap.size<=Z:=by have:=O.size;omega
 have L:W.heap.size<=X:=cF yN D.size
 have hV:V<=g:=by
  obtain⟨R,-,s,hb,-⟩:=bh ek h.rows hi;injection s with s;injection s with s;omega
 have N:∀q,I.A=some ⟨q,0,none⟩->B<=q:=fun q e=>(h.hI q e).1
 have yF:∀q,I2.A=some ⟨q,0,none⟩->B<=q/\q<Z:=fun q e=>by
  obtain⟨R,s,h1,h2,-⟩:=yH.2.room (by have:=yH.2.le;omega);rw[e]at s;injection s with s;injection s with s;omega
 have C:∀b,b<W.heap.size->¬(b=g\/b=bI\/I.A=some ⟨b,0,none⟩)->X.heap[b]?=W.heap[b]?:=fun b h1 h2=>by
  have q1:b≠g:=fun e=>h2 (.inl e);have q2:b≠bI:=fun e=>h2 (.inr (.inl e));have q3:I.A≠some ⟨b,0,none⟩:=fun e=>h2 (.inr (.inr e));exact(D.same b (by omega) q2).trans ((Q b (by omega) q3).trans (yK.same b h1 q1))
 have yE:∀b,I2.A=some ⟨b,0,none⟩->I.A=some ⟨b,0,none⟩\/W<=b:=fun b e=>by
  rcases yM with j|a
  ·exact .inl (by rw[<-j];exact e)
  ·exact .inr (by have:=a b e;omega)
 have E:∀{q:OA} {u:Nat},(0<u->∀b,q=some ⟨b,0,none⟩->b<W)->Qe bL bI (Az c g) I.A q u->Qe bL bI (Az c g) I2.A q u:=fun yJ yI w b e=>by
  obtain⟨x,j,t,y⟩:=yI w b e;refine⟨x,j,t,fun e5=> ?_⟩;rcases yE b e5 with G|G
  ·exact y G
  ·have:=yJ w b e;omega
 have yL:∀{α:Type} {f:α->List Vl} {k base n2 u:Nat} {q:OA} {l:List α},be f k W base q n2 u l->F<=base->Qe bL bI (Az c g) I.A q u:=fun m hb w b e=>by
  obtain⟨R,s,q1,-⟩:=m.2.room w;rw[e]at s;injection s with s;injection s with s;refine⟨by omega,by omega,fun j=> ?_,fun j=> ?_⟩
  ·rw[J]at j;injection j with j;injection j with j;omega
  ·have:=hF b j;omega
 have M:∀{α:Type} {f:α->List Vl} {k base n2 u:Nat} {q:OA} {l:List α},be f k W base q n2 u l->0<u->∀b,q=some ⟨b,0,none⟩->b<W:=fun m w b e=>by
  obtain⟨R,s,-,q2,-⟩:=m.2.room w;rw[e]at s;injection s with s;injection s with s;omega
 have K:∀{q:OA} {u:Nat},Qe bL bI (Az c g) I.A q u->0<u->∀b,q=some ⟨b,0,none⟩->¬(b=g\/b=bI\/I.A=some ⟨b,0,none⟩):=fun yI w b e a=>by
  obtain⟨x,j,t,y⟩:=yI w b e;rcases a with a|a|a
  ·exact t (by rw[a];exact J)
  ·exact j a
  ·exact y a
 refine{du:= ?_,bl:=(C _ h.bl.lt fun a=> ?_).trans h.bl,ba:=(C _ h.ba.lt fun a=> ?_).trans h.ba,bi:= ?_,rows:= ?_,eZ:=fun q U=> ?_,Qi:= ?_,le:=h.le,cz:=h.cz,qo:= ?_,bO:=aV D yH c4,hI:=fun q e=>⟨(yF q e).1,cD (yF q e).2 D.size⟩,hA:=h.hA,cf:=h.cf,xW:=h.xW,b1:=c1,b2:=c2,b3:=c3,b4:=c4,b5:=cF c5 L}
 ·rw[T];refine(Below.trans ?_ (O.mono (by omega))).setCell (p:=bI) (by show V<=bI;omega) _;rw[H];exact bP h.du hV _ _
 ·rcases a with a|a|a
  ·omega
  ·omega
  ·have:=N _ a;omega
 ·rcases a with a|a|a
  ·omega
  ·omega
  ·have:=N _ a;omega
 ·have kz:ai Z bI 171 #[I.v]:=(Q _ (by have:=h.bi.lt;omega) fun e=>by have:=N _ e;omega).trans ((yK.same _ h.bi.lt (by omega)).trans h.bi);rw[T];exact kz.set 0 _
 ·have ry:gB Y V g n c (lc.set i r):=H▸i0 ek h.rows i hi r;refine ib (P:=fun b=>b=bI\/I.A=some ⟨b,0,none⟩) (W:=Y) (by omega) (fun b h1 h2=>(D.same b (by have:=O.size;omega) fun e=>h2 (.inl e)).trans (Q b h1 fun e=>h2 (.inr e))) ry fun _ b e a=> ?_;injection e with e;injection e with e
  rcases a with a|a
  ·omega
  ·have:=N _ a;omega
 ·rcases fP U with U|rfl
  ·obtain⟨x,j,t⟩:=h.eZ q U;exact⟨CR L C x (K j) (K t),E (M x.sh) j,E (M x.af) t⟩
  ·have j:Qe bL bI (Az c g) I.A q.A q.c:=yL z.sh lr;have t:Qe bL bI (Az c g) I.A q.F q.d:=yL z.af lr;exact⟨(CR L C z (K j) (K t)).mono (by omega),E (M z.sh) j,E (M z.af) t⟩
 ·refine OZ h.Qi L fun w b o e yJ=> ?_;obtain⟨x,j,t,y,-⟩:=h.qo w b o e
  exact C b yJ fun a=>by
   rcases a with a|a|a
   ·exact t (by rw[a];exact J)
   ·exact j a
   ·exact y a
 ·intro w b o e;obtain⟨x,j,t,y,e5⟩:=h.qo w b o e;refine⟨x,j,t,fun G=> ?_,by omega⟩;rcases yE b G with e7|e7
  ·exact y e7
  ·omega
end
def MK(c a:Nat)(A I:OA)(W X:Wd):Prop:=W.heap.size<=X.heap.size/\∀b,b<W.heap.size->b≠c->b≠a->A≠some ⟨b,0,none⟩->I≠some ⟨b,0,none⟩->X.heap[b]?=W.heap[b]?
def MF(V:Wd)(A:OA)(n c b f a B:Nat)(s:List bC×List Jb)(I:Sl)(w:Wd)(e:Ed)(w':Wd):Prop:=
 ∃left S d I2 bO,e=.returned (.tuple #[])/\DL V A n c b f a B left S d I2 bO w'/\(left,d.map Jr.j)=s/\I2.n<=I.n+1/\MK b a (Az c A) I.A w w'/\(I2.A=I.A\/∀g,I2.A=some ⟨g,0,none⟩->w<=g)
theorem MK.ae{d a:Nat}{I:OA}(b:Bl W W X):MK d a A I W X:=⟨b.size,fun c h _ _ _ _=>b.block c h⟩
theorem Oo(V:Wd)(A:OA)(n c p bA f B:Nat)(left:List bC)(S:Sl)(m:List Jr)(I:Sl)(bO:List Int)(r:Jr)(zt:Int)(ch:Int)(w:Wd)(h:DL V A n c p bA f B left S m I bO w)(hr:eF w r)(hup:m.Pairwise (fun a b=>a.j.id<b.j.id)){i:Nat}{r0:Jr}(h0:m[i]?=some r0)(he:r0.j.id=r.j.id)(hIn:I.n<=1000):
 Cs prog 297 #[.agg (bk r),.int .i64 ch,.int .i64 zt,.pointer (some ⟨p,0,none⟩),.pointer (some ⟨bA,0,none⟩),.pointer (some ⟨f,0,none⟩)] w (MF V A n c p bA f B (AG (left,m.map Jr.j) r.j ch zt) I w):=by
 obtain⟨V1,hV1,b1,k1⟩:=az w (bk r) 51;have E:=ah h;have uA:=ah b1;have yZ:=ah k1;have HPm:=ah (wv r zt ch V1 (hr.ae b1));obtain⟨er,qG⟩:∃er,er=pE r.j zt ch:=⟨_,rfl⟩;rw[<-qG]at HPm;have HEr:=ah qG;have uS:=ah hup;have H0:=ah h0;have HE:=ah he;have hi:i<n:=by rw[<-h.rows.1];exact(cA.1 h0).1
 clear h hr hup h0 he b1 k1 qG;go_enter func297,ntmps297;go_wp2_with(first|(rw[<-hV1];clear hV1)|refine cr rfl _ _ rfl yZ.out rfl underlying51 rfl aK rfl ?_);refine HPm.out.mono ?_;rintro e U ⟨x,rfl,bU,hro,uN⟩;have uI:Hid (ai (U.alloc (.cells cP 51)) U.heap.size 51 cP):=ai.new _ _ _;obtain⟨X,hX⟩:∃X,X=(U.alloc (.cells cP 51)).setRow U.heap.size (bk x):=⟨_,rfl⟩;have bX:Bl U.heap.size U X:=hX▸aD;have uV:Hid (ai X U.heap.size 51 (bk x)):=by show ai _ _ _ _;rw[hX];exact ai.row uI.out _
 have uC:=ah (aa (aa uA.out bU) bX);have qM:=ah (jk.ae hro bX);have HJ2:=ah uN;have hUs:=bU.size;have uO:=ah ((yZ.out.ae bU yZ.out.lt).ae bX (yZ.out.ae bU yZ.out.lt).lt);clear hro uN bX bU;by_cases R:er=0
 case neg=>
  have hp1:(er==0)=false:=by simpa using R
  have hp2:(er !=0)=true:=by simpa using R
  have uR:Hid (AG (left,m.map Jr.j) r.j ch zt=(left,m.map Jr.j)):=by show _=_;rw[AG,cL (by rw[<-HEr.out];exact R)]
  clear R;go_wp2_with(first|(rw[<-hX];clear hX uI)|refine dp rfl _ _ _ rfl uI.out rfl rfl aK rfl rfl rfl ?_)
  (try simp only[Exit.inBlock,Exit.then])
  refine cU (lE rfl _ _ _) rfl ?_;exact⟨left,S,m,I,bO,rfl,E.out.ae uC.out,uR.out.symm,by omega,MK.ae uC.out,.inl rfl⟩
 case pos=>
  have hp1:(er==0)=true:=by simpa using R
  have hp2:(er !=0)=false:=by simpa using R
  have uN:=HJ2.out R;have HP0:Hid (pE r.j zt ch=0):=by rw[<-HEr.out];exact R
  have yO:=ah uN;have uY:=ah (rc x X qM.out.mE);clear R uN;go_upto_region 3 with(first|(rw[<-hX];clear hX uI)|refine dp rfl _ _ _ rfl uI.out rfl rfl aK rfl rfl rfl ?_)
  go_wp2_with(refine cr rfl _ _ rfl uV.out rfl underlying51 rfl aK rfl ?_);refine av uY.out fun Y bY=> ?_;generalize hcl2:pX x.j=cl2;obtain⟨d1,d2,d3⟩:=cl2;simp only;have qD:=ah hcl2;have uB:=ah (E.out.ae (aa uC.out bY));have HWY:=ah (aa uC.out bY);have HTk:=ah (FL S.A S.n S.c left d1 d2 d3 Y uB.out.Qi (by have:=E.out.cf;unfold maxLen;omega) uB.out.le uB.out.cz);have HLt:=ah (take_len left d1 d2 d3);obtain⟨z,N⟩:∃z,z=nA left d1 d2 d3:=⟨_,rfl⟩;rw[<-N]at HTk HLt;have HZ:=ah N;have y0:=uB.out.bl.cell 0;simp at y0;have HKY:=ah (uV.out.ae bY uV.out.lt);have uJ:=ah (uO.out.ae bY uO.out.lt);have qJ:=ah (jk.ae qM.out bY);clear N hcl2 bY;go_wp2_with fail;refine HTk.out.mono ?_;rintro e Z ⟨A9,c9,rfl,o9,b9⟩;have uT:=ah (aa HWY.out b9);have uU:=ah (uB.out.ae b9);have qC:=ah (HKY.out.ae b9 HKY.out.lt);have yP:=ah (uJ.out.ae b9 uJ.out.lt);have uP:=ah (jk.ae qJ.out b9);have HO9:Hid (oq Z Y.heap.size A9 z.1.length c9 z.1):=o9;have hsY:=HWY.out.size;have hB5:=E.out.b5;clear o9 b9 y0;have hcl:pX (ix r.j zt ch)=(d1,d2,d3):=by rw[<-yO.out];exact qD.out
  have uR:Hid (AG (left,m.map Jr.j) r.j ch zt=(if z.2=0 then z.1 else left,gv (m.map Jr.j) x.j)):=by
   show _=_;rw[AG,cK HP0.out,Tm,hcl,yO.out];simp only;rw[<-HZ.out]
  clear hcl;have hIB:∀q,I.A=some ⟨q,0,none⟩->q<w.heap.size:=fun q e=>(E.out.hI q e).2;have hbs:p<w.heap.size/\f<w.heap.size/\p≠f:=⟨E.out.bl.lt,E.out.bi.lt,by have:=E.out.b2;have:=E.out.b3;omega⟩;have hsU:=uC.out.size;have hKl:=uV.out.lt;have hUw:w.heap.size<U.heap.size:=by have:=yZ.out.lt;omega
  have qL:=ah hIB;clear hIB;by_cases yY:z.2=0
  case pos=>
   have hz1:(z.2==0)=true:=by simpa using yY
   obtain⟨T,y⟩:∃T,T=Z.setCell ⟨p,0,none⟩ (.slice A9 z.1.length c9):=⟨_,rfl⟩;have on:aU p Z T:=y▸aU.set _ _ _;obtain⟨yC,yV⟩:∃l2,l2=(if z.2=0 then z.1 else left):=⟨_,rfl⟩;have uM:yC=z.1:=by rw[yV,cK yY]
   obtain⟨S2,uE⟩:∃S2:Sl,S2=⟨A9,z.1.length,c9⟩:=⟨_,rfl⟩
   have s:Hid (DL V A n c p bA f B yC S2 m I bO T):=by
    rw[uM,uE];exact uU.out.rest (S2:=⟨A9,z.1.length,c9⟩) HO9.out (fun q e=>(uB.out.hI q e).2) (by omega) (by have:=HLt.out;show z.1.length<=1000000;omega) y
   have uD:Hid (ai T U.heap.size 51 (bk x)):=(on.same _ qC.out.lt (by omega)).trans qC.out;have O:Hid (ai T w.heap.size 51 (bk r)):=(on.same _ yP.out.lt (by omega)).trans yP.out;have yT:Hid (jk T V1.heap.size x):=uP.out.hi on.size fun b h1 h2=>on.same b h2 (by have:=uA.out.size;omega);have yQ:Hid (MK p f (Az c A) I.A w T):=⟨cF uT.out.size on.size,fun b h1 h2 _ _ _=>(on.same b (cD h1 uT.out.size) h2).trans (uT.out.block b h1)⟩;have y0:=uU.out.bl.cell 0;have f0:=uU.out.bl.ao 0;simp at y0;have uZ:=ah yV;clear yY on yV uM uE;go_upto_region 7 with(rw[<-y];clear y)
   obtain⟨g,xg,qA,hgb,hgl,-,-,Q⟩:=bh ek s.out.rows hi;have x0:=O.out.cell 0;simp at x0;have yA:=s.out.ba.cell 0;simp at yA;have uF:=ah (yj w.heap.size r.j.id A n c m T x0 O.out.lt (s.out.rows.et ek) (by have:=s.out.xW;omega))
   have uH:Qh (fun q:Jr=>q.j.id==r.j.id) m=(i:Int):=by
    refine tK (fun q hq=> ?_) H0.out (by simpa using HE.out);obtain⟨k,hk,rfl⟩:=dO.1 hq;obtain⟨uW,qK⟩:=cA.1 H0.out;have:=cN.1 uS.out k i (by omega) uW (by omega);rw[qK,HE.out]at this;simp;omega
   rw[uH]at uF;clear Q xg uH x0;subst qA;have N:Az c (some ⟨g,0,none⟩)=some ⟨g,0,none⟩:=by rw[Az,cK (by have:=s.out.rows.2.le;omega)]
   have uQ:=ah N;clear N;go_wp2_with fail;refine av uF.out fun F o=> ?_;have d:=ah (s.out.ae o);have qE:=ah (uD.out.ae o uD.out.lt);have yI:=ah (O.out.ae o O.out.lt);have yU:=ah (jk.ae yT.out o);have yG:Hid (MK p f (Az c (some ⟨g,0,none⟩)) I.A w F):=⟨cF yQ.out.1 o.size,fun b h1 h2 K L M=>(o.block b (cD h1 yQ.out.1)).trans (yQ.out.2 b h1 h2 K L M)⟩;obtain⟨g',xg,C,-,qB,-,-,Q⟩:=bh ek d.out.rows hi;injection C with C
   injection C with C;subst C
   have uG:Hid (F.there g (i*20) 20):=fun j hj=>by
    obtain⟨q1,q2⟩:=Q j hj;exact⟨q1,q2⟩
   obtain⟨u,W⟩:∃u,u=F.setCells g (i*20) (bk x).toList:=⟨_,rfl⟩;have l:aU g F u:=W▸aU.pM _ _ _;obtain⟨a1,a2,a3,a4⟩:=d.out.hA g uQ.out;have qH:=yG.out.1;have I2:df u B I.A I.n I.c bO:=aV l d.out.bO (by omega);obtain⟨D,yR,H,yJ,o3,b3,J,yS⟩:=vj I2 r.j.id (by omega) (cF d.out.b5 l.size);obtain⟨G,P⟩:∃G,G=H.setCell ⟨f,0,none⟩ (.slice D (I.n+1) yR):=⟨_,rfl⟩;have uK:∀q,I.A=some ⟨q,0,none⟩->q<V1.heap.size:=fun q e=>by have:=qL.out q e;have:=uA.out.size;omega
   have uX:=ah (d.out.put (I2:=⟨D,I.n+1,yR⟩) rfl hi yU.out uK (by have:=uA.out.size;omega) W o3 (by show 0<I.n+1;omega) b3 J yS P);have yX:=ah yJ;have qF:=d.out.ba.cell 0;have yi:u.cell? ⟨f,0,none⟩=some (.slice I.A I.n I.c):=ai.cell (t:=171) (cs:= #[I.v]) ((l.same _ d.out.bi.lt (by omega)).trans d.out.bi) 0;have yF:∀b,b<B->I.A≠some ⟨b,0,none⟩:=fun b hb e=>by have:=(d.out.hI b e).1;omega
   have kz:ai H f 171 #[I.v]:=(J _ (by have:=d.out.bi.lt;have:=l.size;omega) (yF _ d.out.b4)).trans ((l.same _ d.out.bi.lt (by omega)).trans d.out.bi);have yz:H.cell? ⟨f,0,none⟩=some (.slice I.A I.n I.c):=kz.cell 0;have fz:=kz.ao 0;have yid:u.cell? ⟨w.heap.size,0,none⟩=some (r.j.id:Vl):=ai.cell (t:=51) (cs:=bk r) ((l.same _ yI.out.lt (by omega)).trans yI.out) 0
   have yW:Hid (MK p f (Az c (some ⟨g,0,none⟩)) I.A w G):=by
    have uL:aU f H G:=P▸aU.set _ _ _;have q1:=l.size;have q2:=b3.size;have q3:=uL.size;refine⟨by omega,fun b h1 h2 K L M=> ?_⟩;exact(uL.same b (by omega) K).trans ((J b (by omega) M).trans ((l.same b (by omega) fun e=>L (by rw[e];exact uQ.out)).trans (yG.out.2 b h1 h2 K L M)))
   have qI:Hid (D=I.A\/∀q,D=some ⟨q,0,none⟩->w.heap.size<=q):=yS.imp id fun hh q e=>by have:=hh q e;have:=l.size;omega
   simp at qF;clear l I2 yJ o3 b3 J yS Q o kz uK yF a1 a2 a3 a4 yA qH;go_wp2_with(first|(refine rZ rfl _ _ _ rfl rfl rfl uG.out aK rfl rfl ?_;rw[<-W];clear W uG)|(at_builtin;refine au rfl _ _ rfl rfl rfl yX.out ?_)|refine cr rfl _ _ rfl qE.out rfl underlying51 rfl aK rfl ?_|(rw[<-P];clear P));go_end0;refine⟨yC,S2,m.set i x,⟨D,I.n+1,yR⟩,_,rfl,uX.out,?_,cB _,yW.out,qI.out⟩;rw[uR.out,<-uZ.out,xf uS.out H0.out (by rw[HE.out,yO.out];rfl)]
  case neg=>
   have hz1:(z.2==0)=false:=by simpa using yY
   obtain⟨T,y⟩:∃T,T=Z:=⟨_,rfl⟩;obtain⟨yC,yV⟩:∃l2,l2=(if z.2=0 then z.1 else left):=⟨_,rfl⟩;have uM:yC=left:=by rw[yV,cL yY]
   obtain⟨S2,uE⟩:∃S2:Sl,S2=S:=⟨_,rfl⟩
   have s:Hid (DL V A n c p bA f B yC S2 m I bO T):=by
    rw[uM,uE,y];exact uU.out
   have uD:Hid (ai T U.heap.size 51 (bk x)):=y▸qC;have O:Hid (ai T w.heap.size 51 (bk r)):=y▸yP;have yT:Hid (jk T V1.heap.size x):=y▸uP;have yQ:Hid (MK p f (Az c A) I.A w T):=y▸MK.ae uT.out;have uZ:=ah yV;clear yY yV uM uE;go_upto_region 7 with fail
   rw[<-y];clear y;obtain⟨g,xg,qA,hgb,hgl,-,-,Q⟩:=bh ek s.out.rows hi;have x0:=O.out.cell 0;simp at x0;have yA:=s.out.ba.cell 0;simp at yA;have uF:=ah (yj w.heap.size r.j.id A n c m T x0 O.out.lt (s.out.rows.et ek) (by have:=s.out.xW;omega))
   have uH:Qh (fun q:Jr=>q.j.id==r.j.id) m=(i:Int):=by
    refine tK (fun q hq=> ?_) H0.out (by simpa using HE.out);obtain⟨k,hk,rfl⟩:=dO.1 hq;obtain⟨uW,qK⟩:=cA.1 H0.out;have:=cN.1 uS.out k i (by omega) uW (by omega);rw[qK,HE.out]at this;simp;omega
   rw[uH]at uF;clear Q xg uH x0;subst qA;have N:Az c (some ⟨g,0,none⟩)=some ⟨g,0,none⟩:=by rw[Az,cK (by have:=s.out.rows.2.le;omega)]
   have uQ:=ah N;clear N;go_wp2_with fail;refine av uF.out fun F o=> ?_;have d:=ah (s.out.ae o);have qE:=ah (uD.out.ae o uD.out.lt);have yI:=ah (O.out.ae o O.out.lt);have yU:=ah (jk.ae yT.out o);have yG:Hid (MK p f (Az c (some ⟨g,0,none⟩)) I.A w F):=⟨cF yQ.out.1 o.size,fun b h1 h2 K L M=>(o.block b (cD h1 yQ.out.1)).trans (yQ.out.2 b h1 h2 K L M)⟩;obtain⟨g',xg,C,-,qB,-,-,Q⟩:=bh ek d.out.rows hi;injection C with C
   injection C with C;subst C
   have uG:Hid (F.there g (i*20) 20):=fun j hj=>by
    obtain⟨q1,q2⟩:=Q j hj;exact⟨q1,q2⟩
   obtain⟨u,W⟩:∃u,u=F.setCells g (i*20) (bk x).toList:=⟨_,rfl⟩;have l:aU g F u:=W▸aU.pM _ _ _;obtain⟨a1,a2,a3,a4⟩:=d.out.hA g uQ.out;have qH:=yG.out.1;have I2:df u B I.A I.n I.c bO:=aV l d.out.bO (by omega);obtain⟨D,yR,H,yJ,o3,b3,J,yS⟩:=vj I2 r.j.id (by omega) (cF d.out.b5 l.size);obtain⟨G,P⟩:∃G,G=H.setCell ⟨f,0,none⟩ (.slice D (I.n+1) yR):=⟨_,rfl⟩;have uK:∀q,I.A=some ⟨q,0,none⟩->q<V1.heap.size:=fun q e=>by have:=qL.out q e;have:=uA.out.size;omega
   have uX:=ah (d.out.put (I2:=⟨D,I.n+1,yR⟩) rfl hi yU.out uK (by have:=uA.out.size;omega) W o3 (by show 0<I.n+1;omega) b3 J yS P);have yX:=ah yJ;have qF:=d.out.ba.cell 0;have yi:u.cell? ⟨f,0,none⟩=some (.slice I.A I.n I.c):=ai.cell (t:=171) (cs:= #[I.v]) ((l.same _ d.out.bi.lt (by omega)).trans d.out.bi) 0;have yF:∀b,b<B->I.A≠some ⟨b,0,none⟩:=fun b hb e=>by have:=(d.out.hI b e).1;omega
   have kz:ai H f 171 #[I.v]:=(J _ (by have:=d.out.bi.lt;have:=l.size;omega) (yF _ d.out.b4)).trans ((l.same _ d.out.bi.lt (by omega)).trans d.out.bi);have yz:H.cell? ⟨f,0,none⟩=some (.slice I.A I.n I.c):=kz.cell 0;have fz:=kz.ao 0;have yid:u.cell? ⟨w.heap.size,0,none⟩=some (r.j.id:Vl):=ai.cell (t:=51) (cs:=bk r) ((l.same _ yI.out.lt (by omega)).trans yI.out) 0
   have yW:Hid (MK p f (Az c (some ⟨g,0,none⟩)) I.A w G):=by
    have uL:aU f H G:=P▸aU.set _ _ _;have q1:=l.size;have q2:=b3.size;have q3:=uL.size;refine⟨by omega,fun b h1 h2 K L M=> ?_⟩;exact(uL.same b (by omega) K).trans ((J b (by omega) M).trans ((l.same b (by omega) fun e=>L (by rw[e];exact uQ.out)).trans (yG.out.2 b h1 h2 K L M)))
   have qI:Hid (D=I.A\/∀q,D=some ⟨q,0,none⟩->w.heap.size<=q):=yS.imp id fun hh q e=>by have:=hh q e;have:=l.size;omega
   simp at qF;clear l I2 yJ o3 b3 J yS Q o kz uK yF a1 a2 a3 a4 yA qH;go_wp2_with(first|(refine rZ rfl _ _ _ rfl rfl rfl uG.out aK rfl rfl ?_;rw[<-W];clear W uG)|(at_builtin;refine au rfl _ _ rfl rfl rfl yX.out ?_)|refine cr rfl _ _ rfl qE.out rfl underlying51 rfl aK rfl ?_|(rw[<-P];clear P));go_end0;refine⟨yC,S2,m.set i x,⟨D,I.n+1,yR⟩,_,rfl,uX.out,?_,cB _,yW.out,qI.out⟩;rw[uR.out,<-uZ.out,xf uS.out H0.out (by rw[HE.out,yO.out];rfl)]
open Go.Shelf
attribute [local go_sem] Oper.semAt_some
variable{c:Nat}
theorem DL.grown{V:Wd}{row:Option Nat}{j g i B:Nat}{left:List bC}{S:Sl}{k:List Jr}{I:Sl}{bO:List Int}(h:DL V A n c j g i B left S k I bO W)(a:W.grownBy X row)(d:mw W row)(p:Bl V V X):DL V A n c j g i B left S k I bO X:=
 {du:=p,bl:=ai.qb h.bl a d,ba:=ai.qb h.ba a d,bi:=ai.qb h.bi a d,rows:=⟨h.rows.1,eY.grown h.rows.2 a d⟩,
  eZ:=fun r s=>by
   obtain⟨b,l,m⟩:=h.eZ r s;exact⟨⟨⟨b.sh.1,eY.grown b.sh.2 a d⟩,⟨b.af.1,eY.grown b.af.2 a d⟩,b.cf,b.GP,b.nm,b.us,b.ac,b.nd⟩,l,m⟩,
  Qi:=vf h.Qi a d,le:=h.le,cz:=h.cz,qo:=fun f q o e=>⟨(h.qo f q o e).1,(h.qo f q o e).2.1,(h.qo f q o e).2.2.1,(h.qo f q o e).2.2.2.1,cD (h.qo f q o e).2.2.2.2 a.size⟩,bO:=⟨h.bO.1,eY.grown h.bO.2 a d⟩,
  hI:=fun q e=>⟨(h.hI q e).1,cD (h.hI q e).2 a.size⟩,hA:=h.hA,cf:=h.cf,xW:=h.xW,b1:=h.b1,b2:=h.b2,b3:=h.b3,b4:=h.b4,b5:=cF h.b5 a.size}
theorem Pi(x:Sr)(w:Wd):Cs prog 300 #[.agg (aY x)] w fun e w'=>e=.returned (.func (.func 388) #[] #[.pointer w])/\w'=w.alloc (.cells (aY x) 28):=by
 go_in;go_wp2;go_ret;exact⟨rfl,rfl⟩
theorem PC(l:List Jb)(j:Jb):(gv l j).map Jb.id=l.map Jb.id:=by
 unfold gv;rw[nO];refine List.map_congr_left fun x _=> ?_;by_cases h:x.id=j.id
 ·simp[h]
 ·simp[h]
theorem PB(s:List bC×List Jb)(j:Jb)(ch at_:Int):(AG s j ch at_).2.map Jb.id=s.2.map Jb.id:=by
 unfold AG;split
 ·exact PC _ _
 ·rfl
theorem eF.grown{row:Option Nat}{r:Jr}(h:eF W r)(a:W.grownBy X row)(b:mw W row):eF X r:=⟨⟨vf h.sh.st a b,h.sh.cf,h.sh.le,h.sh.cz⟩,vf h.af a b,h.cf,h.le,h.cz,h.nm,h.us,h.ac,h.nd⟩
def J0(s:St)(w:Wd)(e:Ed)(w':Wd):Prop:=∃A n c l v left a,e=.returned (.tuple #[.slice A n c,v])/\Cn w' w A n c l/\l.map Jr.j=ko s.am left a s.aj/\pQ s left/\eT s.aj a/\Bl w w w'
theorem Bw(x:Sr)(w:Wd)(h:db w x)(hp:fy x.s=true):Cs prog 184 #[.agg (aY x)] w (J0 x.s w):=by
 have qG:gC x.s.aj=true:=by
  simp only[fy,ie,cH]at hp;exact hp.1.1.2
 have hrm:ie x.s=true:=by
  simp only[fy,cH]at hp;exact hp.1
 obtain⟨V,hV⟩:=nm (w.alloc (.cells (aY x) 28));have bV:Bl w w V:=by rw[hV];exact aA
 have kV:ai V w 28 (aY x):=by rw[hV];exact ai.new _ _ _
 have qJ:=ah fun(W:Wd) (b:Bl V V W)=>wu x.J.A x.J.n x.J.c x.jr W ((h.ae bV).ae b).aj (by have:=h.fg.cf;omega) h.fg.cz;rw[h.jr]at qJ
 have HPc:=ah fun(W:Wd) (b:Bl V V W)=>by
  have:=jT x W ((h.ae bV).ae b);rw[tY,hp,cK rfl]at this;exact this
 have HRm:=ah fun(W:Wd) (b:Bl V V W)=>zy x none 0 0 [] W ((h.ae bV).ae b) hrm (cp.nil _ _ _ _) (by unfold maxLen;omega);have HOk:=ah (ds.1 qG);have HB:=ah bV;have HK:=ah kV;have HIn:=ah h;have HPl:=ah hp;have HV:=ah hV;have hVs:V.heap.size=w+1:=by rw[hV];simp
 clear h hp bV kV qG hrm;refine(lV (n:=9)).1 ?_;refine callsIn_of_wp_marks func184 rfl trivial ?_ rfl;simp only[ntmps184,oJ,dV,iP,Nat.reduceAdd,Nat.reduceSub,rA,oY,sE,rF,dH,nH];gi_wp2_with (first|(rw[<-hV];clear hV)|refine JX (.inl rfl) rfl _ _ rfl HK rfl underlying28 rfl aT rfl ?_);refine⟨trivial,?_⟩
 try refine⟨fun _=>by omega,?_⟩
 refine(lV.2 (HPc V bR)).mono ?_;rintro e w2 ⟨rfl,b2⟩;have HB2:=ah b2;have HK2:=ah (HK.ae b2 HK.lt);clear b2;gi_wp2_with (refine JX (.inl rfl) rfl _ _ rfl HK2 rfl underlying28 rfl aT rfl ?_);refine⟨trivial,?_⟩;refine(lV.2 (HRm w2 HB2)).mono ?_;rintro e z ⟨LA,Ln,Lc,yC,rfl,qM,hf0,uP,hb0,b3,yH⟩;have HB3:=ah (aa HB2 b3);have HSt:=ah qM;have yT:=ah hb0;have HRo:=ah yH;obtain⟨F,yU⟩:=nm (z.alloc (.cells #[.slice LA Ln Lc] 327));have uU:Bl z z F:=by rw[yU];exact aA
 have qI:Hid (ai F z 327 #[.slice LA Ln Lc]):=by rw[yU];exact ai.new _ _ _
 have hs3:F.heap.size=z+1:=by rw[yU];simp
 have H3X:=ah uU;have yL:=ah (aa HB3 uU);have x2:=(HK.ae yL HK.lt).cell 2;simp at x2;clear qM hb0 yH b3 uU;gi_wp2_with (rw[<-yU];clear yU);refine⟨trivial,?_⟩;refine(lV.2 (qJ F yL)).mono ?_;rintro e p ⟨A,c,l,rfl,yW,hl,b4⟩;obtain⟨n,hn⟩:=nm x.s.aj.length;rw[<-hn]at yW⊢;have uX:n<=40:=by have:=HOk.cf;omega
 obtain⟨D,yO⟩:=nm (((p.alloc (.cells #[.slice A n c] 23)).alloc (.cells #[.slice none 0 0] 171)).alloc (.cells #[.func (.func 297) #[] #[.pointer z,.pointer p,.pointer (p+1:Nat)]] 353));have b5:Bl p p D:=by rw[yO];exact(aC).alloc (by simp;omega) _
 have hs5:D.heap.size=p+3:=by rw[yO];simp
 have kA:ai D p 23 #[.slice A n c]:=by rw[yO];exact((ai.new _ _ _).alloc _).alloc _
 have kI:ai D (p+1) 171 #[.slice none 0 0]:=by
  rw[yO];have:=(ai.new (p.alloc (.cells #[.slice A n c] 23)) 171 #[.slice none 0 0]).alloc (.cells #[.func (.func 297) #[] #[.pointer z,.pointer p,.pointer (p+1:Nat)]] 353);simpa using this
 have kF:ai D (p+2) 353 #[.func (.func 297) #[] #[.pointer z,.pointer p,.pointer (p+1:Nat)]]:=by
  rw[yO];have:=ai.new ((p.alloc (.cells #[.slice A n c] 23)).alloc (.cells #[.slice none 0 0] 171)) 353 #[.func (.func 297) #[] #[.pointer z,.pointer p,.pointer (p+1:Nat)]];simpa using this
 have qH:=ah (aa (aa yL b4) b5);have uN:=ah (HK.ae qH HK.lt);have yK:=ah yW;have HB4:=ah b4;have HBf:=ah b5;have HKA:=ah kA;have qE:=ah kI;have HKF:=ah kF;have HLl:=ah hl;have HNn:=ah hn;clear yW hl b4 b5 kA kI kF hn x2;gi_wp2_with (first|(rw[<-yO];clear yO)|refine JX (.inl rfl) rfl _ _ rfl uN rfl underlying28 rfl aT rfl ?_);refine⟨trivial,?_⟩;refine(lV.2 (Pi x D)).mono ?_;rintro e y ⟨rfl,uE⟩;have b6:Bl D D y:=by rw[uE];exact aA
 have k6:ai y D 28 (aY x):=by rw[uE];exact ai.new _ _ _
 have hs6:y.heap.size=D+1:=by rw[uE];simp
 clear uE;gi_wp2_with fail;have sB3:=HB3.size;have sB4:=HB4.size;have hw:=HB.size;have b56:Bl w w y:=aa (aa HB qH) b6;have uY:=ah b56;rw[hs5]at k6;have HK6:=ah k6;have HX6:=ah b6;have yS:Hid (∀(X:Wd) (o':Obj),Bl w X (X.putObj (y+1) o')):=fun X o'=>⟨rfl,rfl,rfl,by simp,fun k P=>World.putObj_heap_other (by omega)⟩
 refine range_one (gf:=388) (lb:= #[.pointer (p+3:Nat)]) rfl (enters_of func388 (by kernel_rfl) rfl) (fun r:Jr=> #[.agg (bk r)]) (fun _=>rfl)
  (fun B js X=>∃left S t I bO,DL w A n c z p (p+1) B left S t I bO X/\(left,t.map Jr.j)=js.foldl (fun s (r:Jr)=>t6 x.s.am s r.j) (yC,l.map Jr.j)/\I.n<=js.length/\t.map (fun r=>r.j.id)=x.s.aj.map Jb.id/\ai X w 28 (aY x)/\ai X (p+2) 353 #[.func (.func 297) #[] #[.pointer z,.pointer p,.pointer (p+1:Nat)]])
  (fun js=>∃yB,js.map Jr.j=np x.s.aj yB/\eT x.s.aj yB)
  (fun r X=>eF X r/\r.j∈x.s.aj/\r.j.pm= -1/\fg r.j=true)
  (UX (fun b=>b=z\/b=p+1\/Az c A=some ⟨b,0,none⟩\/b=y+1)) ?jp ?jb ?kt ?kp ?h0 ?seq ?round ?done
 case jp=>
  rintro B pre X o o' ⟨left,S,t,I,bO,u,C,hn,yQ,T,yJ⟩ R hc;have hg:=grownBy_putObj' X (y+1) o';have M:mw X (some (y+1)):=fun r e=>by cases e;exact⟨o,R,hc⟩
  exact⟨left,S,t,I,bO,u.grown hg M (u.du.trans (yS X o')),C,hn,yQ,ai.qb T hg M,ai.qb yJ hg M⟩
 case jb=>
  rintro B pre X Y ⟨left,S,t,I,bO,u,C,hn,yQ,T,yJ⟩ b;exact⟨left,S,t,I,bO,u.ae b,C,hn,yQ,T.ae b T.lt,yJ.ae b yJ.lt⟩
 case kt=>exact fun B X Y Z h1 h2=>⟨h1.1.trans h2.1,fun b O C=>(h2.2 b O C).trans (h1.2 b O C)⟩
 case kp=>exact fun B X o'=>⟨⟨rfl,rfl,rfl,by simp,fun b O=>absurd O (by omega)⟩,fun b O C=>World.putObj_heap_other (fun e=>C (.inr (.inr (.inr e))))⟩
 case h0=>
  intro W b hs;have uQ:Bl p p W:=aa (aa HBf HX6) b;have qA:Bl F F W:=aa HB4 uQ;have yG:Bl D D W:=aa HX6 b
  have hgA:∀q,A=some ⟨q,0,none⟩->0<c->F<=q/\q<p:=fun q e h0=>by
   obtain⟨g',d,q1,q2,-⟩:=yK.rows.2.room h0;rw[e]at d;injection d with d;injection d with d;omega
  have L:∀q,Az c A=some ⟨q,0,none⟩->A=some ⟨q,0,none⟩/\F<=q/\q<p:=fun q e=>by
   unfold Az at e;split at e
   ·rename_i h0;exact⟨e,hgA q e h0⟩
   ·cases e
  refine⟨yC,⟨LA,Ln,Lc⟩,l,⟨none,0,0⟩,[],?_,rfl,cB _,by rw[<-HLl.out,nO];rfl,uN.ae yG uN.lt,HKF.ae yG HKF.lt⟩;refine{du:=aa uY b,bl:=qI.ae qA qI.lt,ba:=HKA.ae yG HKA.lt,bi:=qE.ae yG qE.lt,rows:=aS (yK.rows.ae uQ) (by omega),eZ:=fun r K=> ?_,Qi:= ?_,le:=uP,cz:=yT.out,qo:= ?_,bO:=be.nil _ _ _ _,hI:=fun q e=>(by cases e),hA:= ?_,cf:=hf0,xW:=uX,b1:=by omega,b2:=by omega,b3:=by omega,b4:=by omega,b5:=cB _}
  ·obtain⟨g,e,hg,R⟩:=yK.at_ K
   have yM:g<p:=by
    obtain⟨g',d,q1,q2,-⟩:=yK.rows.2.room (by
     have:=yK.rows.2.le;have:=yK.rows.1;have:=List.length_pos_of_mem K;omega)
    rw[e]at d;injection d with d;injection d with d
    omega
   have ap:∀{α:Type} {f:α->List Vl} {k n2 cc:Nat} {q:OA} {li:List α},be f k p (g+1) q n2 cc li->Qe z (p+1) (Az c A) none q cc:=fun m h0 b e2=>by
    obtain⟨g',d,q1,q2,-⟩:=m.2.room h0;rw[e2]at d;injection d with d;injection d with d;refine⟨by omega,by omega,fun N=> ?_,fun N=>by cases N⟩;have e4:=(L _ N).1;rw[e]at e4;injection e4 with e4;injection e4 with e4;omega
   exact⟨(jk.ae R uQ).mono (by omega),ap R.sh,ap R.af⟩
  ·exact HSt.ae (aa H3X qA)
  ·intro h0 b off e;obtain⟨b',off',d,hlt,-⟩:=Cells.at_ HSt h0;rw[show(⟨LA,Ln,Lc⟩:Sl).A=LA from rfl]at e;rw[e]at d;injection d with d;injection d with H e2
   subst H;refine⟨by omega,by omega,fun N=> ?_,(fun N=>(by cases N)),by have:=qA.size;omega⟩;have:=(L _ N).2.1;omega
  ·intro q e;have:=(L q e).2;omega
 case seq=>
  intro J' W b hs yW h0 hY
  have L:∀q,Az c A=some ⟨q,0,none⟩->F<=q/\q<p:=fun q e=>by
   unfold Az at e;split at e
   ·rename_i uS;obtain⟨g',d,q1,q2,-⟩:=yK.rows.2.room uS;rw[e]at d;injection d with d;injection d with d;omega
   ·cases e
  refine(Ph 8 (by omega) (y+1) (p+3) x (fun b=>b=z\/b=p+1\/Az c A=some ⟨b,0,none⟩\/b=y+1) J' W HPl ?_ ?_ (HK6.ae b HK6.lt) ?_ yW h0 ?_).mono ?_
  ·rintro q (rfl|rfl|e|rfl)
   ·omega
   ·omega
   ·have:=L q e;omega
   ·omega
  ·intro W' P;have bw:Bl w w W:=aa uY b;refine HIn.ae (bw.trans ⟨P.1.os,P.1.tape,P.1.output,P.1.size,fun q hq=>P.2 q (by have:=bw.size;omega) ?_⟩);rintro(rfl|rfl|e|rfl)
   ·omega
   ·omega
   ·have:=L q e;omega
   ·omega
  ·rintro(e|e|e|e)
   ·omega
   ·omega
   ·have:=L _ e;omega
   ·omega
  ·intro B pre r X q1 q2 q3 q4 q5 q6 q7 q8;exact hY B pre r X q1 q2 q3 q4 ⟨q5,q6,q7,q8⟩
  ·rintro e W' ⟨hv,B,js,yB,-,hj,uH,uJ⟩;exact⟨hv,B,js,⟨yB,uH,uJ⟩,hj⟩
 case round=>
  rintro B pre r X hB hBX hlen ⟨left,S,t,I,bO,u,C,hn,yQ,T,yJ⟩ ⟨K,hm,hpm,hok⟩;have HN:Hid (ai (X.alloc (.cells cP 51)) X 51 cP):=ai.new _ _ _;obtain⟨U,hU⟩:=nm ((X.alloc (.cells cP 51)).setRow X (bk r));have G:Bl X X U:=by rw[hU];exact aD
  have kU:ai U X 51 (bk r):=by rw[hU];exact ai.row HN _
  gi_wp2_with (first|(rw[<-hU];clear hU HN)|refine P6 (.inr ⟨_,rfl⟩) rfl _ _ _ rfl HN rfl rfl aK rfl rfl rfl ?_);refine⟨G.block _ (by omega),G.block _ (by omega),?_⟩;intro o o' Q R hc yR;have yM:U.grownBy Q (some (y+1)):=by rw[yR];exact grownBy_putObj' U _ o'
  have M:mw U (some (y+1)):=fun q e=>by cases e;exact⟨o,R,hc⟩
  have hUs:=G.size;have hs2:Q.heap.size=U:=by rw[yR];simp
  have yY:=ah ((u.ae G).grown yM M (by rw[yR];exact(aa u.du G).trans (yS U o')));have uI:=ah u;have qK:=ah ((K.ae G).grown yM M);have uF:=ah (ai.qb kU yM M);have uD:=ah (ai.qb (T.ae G T.lt) yM M);have HKf:=ah (ai.qb (yJ.ae G yJ.lt) yM M)
  have HUX:Hid (∀b,b<B->b≠y+1->Q.heap[b]?=X.heap[b]?):=fun b h1 h2=>by
   rw[yR];exact(World.putObj_heap_other (fun e=>h2 e)).trans (G.block b (by omega))
  have HE:=ah C;have uB:=ah yQ;have HM:=ah hm;have HX2:=ah yR;have hXU:X.heap.size<U:=kU.lt;clear u K kU T yJ C yQ hm yR R hc yM M G hpm hok;gi_wp2_with fail;refine OX (fun W=>Bl Q Q W) (fun _=>True) #[] [3,6] 0 [0,1,2,4,5,3,6,7,8,9,10,11,12,13] (by kernel_rfl) (by kernel_rfl) (by rfl) ?_ bR.drew trivial ?_
  ·rintro⟨a,w',h⟩;cases h.1
  have k0:Bl Q Q Q.drew:=bR.drew
  iterate 5
   refine lqe rfl (fun _ _ _ _ h=>h) ⟨?_,fun W hW hS=> ?_,?_⟩;rotate_left
   ·obtain⟨c0,c1,c2,c3,c4,c5,c6,c7',c8,c9,c10,c11,c12,c13,c14,c15,c16,c17,c18,c19⟩:=xD (uF.ae hW uF.lt);have d0:=(uD.ae hW uD.lt).cell 0;have l0:=(yY.bl.ae hW yY.bl.lt).cell 0;simp at d0 l0;go_simp
    try rfl
  refine el 189 #[JR r.A r.n r.c r.j.sh] rfl rfl (some 31) rfl rfl rfl (by go_simp) ?_;refine(fx r.A r.n r.c r.j.sh _ (qK.ae k0).sh).mono ?_;rintro e W8 ⟨A8,c8,rfl,o8,b8⟩;have k1:=aa k0 b8;refine⟨_,rfl,k1,trivial,?_⟩;have uV:=ah (xC S.A S.n S.c left A8 (eO r.j.sh).length c8 (AF r.j.sh) x.s.am 1000000 W8 (yY.Qi.ae k1) (by have:=yY.cf;unfold maxLen;omega) (ul (o8.et qk)) (by have:=kY (s:=r.j.sh);omega) o8.2.le);obtain⟨bs,uM⟩:=nm (tu left x.s.am 1000000 12 (AF r.j.sh));rw[<-uM]at uV;have HBs:=ah uM;refine el 294 #[.slice S.A S.n S.c,.slice A8 (eO r.j.sh).length c8,x.s.am,(1000000:Int),(12:Int)] rfl rfl (some 34) rfl rfl rfl (by go_simp) ?_;refine uV.out.mono ?_;rintro e W9 ⟨rfl,b9⟩;have k2:=aa k1 b9;refine⟨_,rfl,k2,trivial,?_⟩;have E:=ah k2;clear k0 k1 k2 b8 b9 o8 uM
  iterate 7
   refine lqe rfl (fun _ _ _ _ h=>h) ⟨?_,fun W hW hS=> ?_,?_⟩;rotate_left
   ·go_simp
    try rfl
  refine ew ?_;simp only[aP,aW];obtain⟨ch,st,fd⟩:=bs;simp only
  have qF:Hid (AX left r.j x.s.am 1000000=if fd then some ((ch:Int),st)else none):=by
   show _=_;unfold AX;rw[<-HBs.out]
  clear HBs uV;have hs9:=E.size;have yX:Hid (∀b,b<B->b≠y+1->W9.heap[b]?=X.heap[b]?):=fun b h1 h2=>(E.block b (by omega)).trans (HUX b h1 h2);have uC:=ah (yY.ae E);have yZ:=ah (uD.ae E uD.lt);have yN:=ah (HKf.ae E HKf.lt);have uW:=ah (uF.ae E uF.lt);have hB9:=uI.b4;have yP:∀Y,Bl w w Y->X.heap.size<=Y->Bl 0 X Y:=fun Y b hs=>⟨b.os.trans uI.du.os.symm,b.tape.trans uI.du.tape.symm,b.output.trans uI.du.output.symm,hs,fun k P=>absurd P (by omega)⟩;cases fd
  case false=>
   gi_wp2_with fail;have uT:t6 x.s.am (left,t.map Jr.j) r.j=(left,t.map Jr.j):=by rw[t6];simp only;rw[qF.out];rfl
   refine⟨⟨left,S,t,I,⟨bO,uC⟩,?_,by omega,uB,yZ,yN⟩,⟨yP _ uC.du (by omega),fun b h1 h2=>yX b h1 fun e=>h2 (.inr (.inr (.inr (by omega))))⟩,E.block _ (by omega),E.block _ (by omega)⟩;rw[<-HE.out,uT]
  case true=>
   have yf:=yN.cell 0;simp at yf;have yV:r.j.id∈t.map (fun q=>q.j.id):=by rw[uB.out];exact cS.2 ⟨r.j,HM,rfl⟩
   obtain⟨r0,qL,he0⟩:=cS.1 yV;obtain⟨i,hi⟩:=dE.1 qL
   have hup:t.Pairwise (fun a b=>a.j.id<b.j.id):=by
    have h1:(t.map (fun q=>q.j.id)).Pairwise (fun a b:Int=>a<b):=by
     rw[uB.out,iJ];exact HOk.up
    rwa [iJ]at h1
   have uO:=ah (Oo w A n c z p (p+1) B left S t I bO r st (ch:Int) W9 uC (qK.ae E) hup hi he0 (by omega))
   have L:∀q,Az c A=some ⟨q,0,none⟩->F<=q/\q<p:=fun q e=>by
    unfold Az at e;split at e
    ·rename_i uS;obtain⟨g',d,q1,q2,-⟩:=yK.rows.2.room uS;rw[e]at d;injection d with d;injection d with d;omega
    ·cases e
   have uG:=ah L;have qB:=ah yP;clear yV qL he0 hi hup L yP;gi_wp2_with (refine JX (.inr ⟨_,rfl⟩) rfl _ _ rfl uW rfl underlying51 rfl aK rfl ?_);refine⟨trivial,?_⟩;refine(CallsIn.inRound _ (lV.2 uO)).mono ?_;rintro e Y ⟨uA,S',lc',I',uZ,rfl,hf',he',hn',uR,-⟩;have hIq:∀b,b<B->I.A≠some ⟨b,0,none⟩:=fun b O e=>by have:=(uC.hI b e).1;omega
   have fr:∀b,b<B->b≠z->b≠p+1->Az c A≠some ⟨b,0,none⟩->Y.heap[b]?=W9.heap[b]?:=fun b h1 h2 h3 h4=>uR.2 b (by omega) h2 h3 h4 (hIq b h1);have kS:ai Y w 28 (aY x):=(fr _ (by omega) (by omega) (by omega) fun e=>by have:=uG.out _ e;omega).trans yZ;have kF:=(fr (p+2) (by omega) (by omega) (by omega) fun e=>by have:=uG.out _ e;omega).trans yN;have uL:=ah fr;have HF':=ah hf';have qC:=ah he';have HkS:=ah kS;have HkF:=ah kF;have hsY:=uR.1;clear fr hf' he' kS kF uR hIq yf;gi_wp2_with fail;have uT:t6 x.s.am (left,t.map Jr.j) r.j=AG (left,t.map Jr.j) r.j (ch:Int) st:=by rw[t6];simp only;rw[qF.out];rfl
   refine⟨⟨uA,S',lc',I',⟨uZ,HF'⟩,?_,by omega,?_,HkS,HkF⟩,⟨qB _ HF'.du (by omega),fun b h1 h2=>(uL b h1 (fun e=>h2 (.inl e)) (fun e=>h2 (.inr (.inl e))) fun e=>h2 (.inr (.inr (.inl e)))).trans (yX b h1 fun e=>h2 (.inr (.inr (.inr (by omega)))))⟩,?_,?_⟩
   ·rw[<-HE.out,uT];exact qC
   ·have h1:=cO Prod.snd qC;have h2:=cO (List.map Jb.id) h1;rw[PB]at h2;simp only[nO]at h2;have h3:(lc'.map fun q=>q.j.id)=t.map fun q=>q.j.id:=h2;rw[h3,uB.out]
   ·exact(uL _ (by omega) (by omega) (by omega) fun e=>by have:=uG.out _ e;omega).trans (E.block _ (by omega))
   ·exact(uL _ (by omega) (by omega) (by omega) fun e=>by have:=uG.out _ e;omega).trans (E.block _ (by omega))
 case done=>
  rintro B js W ⟨yB,uH,uJ⟩ ⟨left,S,t,I,bO,u,C,hn,-,-,-⟩ hK;have x0:=u.ba.cell 0;have x1:=u.bi.cell 0;simp at x0 x1;have HF:=ah u
  have uK:Hid (t.map Jr.j=ko x.s.am yC yB x.s.aj):=by
   show _=_;rw[Et,<-uH,List.foldl_map,<-HLl.out,<-C]
  have HOr:=ah uJ;clear u C uH uJ;gi_wp2_with fail
  gi_region
  all_goals gi_wp2_with fail
  have hK':W.drew.heap[y.heap.size]?=some (.deferred (some [])):=hK;refine⟨by simp,.inl ⟨_,_,rfl,run_takeDeferred hK',?_⟩⟩;refine⟨_,results_tmp2 rfl _ _ _,?_⟩;have hg:=grownBy_putObj' W.drew y (.deferred none);have K:mw W.drew (some y):=fun r e=>by cases e;exact⟨_,hK',rfl⟩
  have hbd:Bl W W W.drew:=bR.drew;have u:=(HF.ae hbd).grown hg K ((aa HF.du hbd).trans ⟨rfl,rfl,rfl,by simp,fun k P=>World.putObj_heap_other (by have:=uY.size;omega)⟩);refine⟨A,n,c,t,I.v,yC,yB,rfl,⟨u.rows,fun r K W' h1 h2=> ?_⟩,uK,HRo,HOr,u.du⟩
  have hc:0<c:=by
   have h3:=List.length_pos_of_mem K;rw[u.rows.1]at h3;have:=u.rows.2.le;omega
  obtain⟨H,e2,N⟩:=u.eZ r K
  have qD:∀{α:Type} {f:α->List Vl} {k n2 cc:Nat} {q:OA} {li:List α},be f k (W.drew.putObj y (.deferred none)) w q n2 cc li->Qe z (p+1) (Az c A) I.A q cc->be f k W' w q n2 cc li:=fun m ap=>by
   refine⟨m.1,m.2.cb,m.2.le,m.2.max,fun h0=> ?_,m.2.cz⟩
   exact(m.2.ij h1 fun b O hlt=>h2 b (by
    obtain⟨g',d,q1,-⟩:=m.2.room h0;rw[O]at d;injection d with d;injection d with d;omega) hlt fun e=>(ap h0 b O).2.2.1 (by rw[Az,cK hc];exact e)).room h0
  exact jk.mE (base:=w.heap.size) ⟨qD H.sh e2,qD H.af N,H.cf,H.GP,H.nm,H.us,H.ac,H.nd⟩
set_option maxRecDepth 512
def Mt(s:St)(w:World)(e:Ending)(w':World):Prop:=∃A n c l v left a,e=.returned (.tuple #[.slice A n c,v])/\Cn w' w.heap.size A n c l/\l.map Jr.j=DR s.am left a s.aj/\pQ {s with aj:=s.aj.map gy} left/\eT (s.aj.map gy) a/\Below w.heap.size w w'
theorem db.bD{w:World}{x:Sr}(h:db w x){A:Option Addr}{l:List Jr}(a:pO w A n l)(b:(⟨A,n,c⟩:Sl).Ok):db w (x.bD l ⟨A,n,c⟩):=⟨h.ag,a,rfl,h.bx,h.aZ,h.bK,h.BP,b,h.Mr,h.okB,h.Hs,h.kk⟩
theorem Cn.set{W:World}{base g:Nat}{l:List Jr}(h:Cn W base (some ⟨g,0,none⟩) n c l){i F:Nat}(hi:i<n){r:Jr}(p:jk W F r)(s:g<F)(t:base<=F){X:World}(o:X=W.setCells g (i*20) (bk r).toList):Cn X base (some ⟨g,0,none⟩) n c (l.set i r):=by
 have on:aU g W X:=o▸aU.pM _ _ _;refine⟨by rw[o];exact i0 ek h.rows i hi r,fun q k m h1 h2=> ?_⟩;have d:∀b,base<=b->b<W.heap.size->b≠g->m.heap[b]?=W.heap[b]?:=fun b f a j=>(h2 b f (Nat.lt_of_lt_of_le a on.size) fun e=>j (by injection e with e;injection e with e;exact e.symm)).trans (on.same b a j);rcases List.mem_or_eq_of_mem_set k with k|rfl
 ·exact h.nest q k m (Nat.le_trans on.size h1) fun b f a j=>d b f a fun e=>j (by rw[e])
 ·exact(p.hi (Nat.le_trans on.size h1) fun b f a=>d b (by omega) a (by omega)).mE
theorem Je{l:List Jb}{k:Nat}{j:Jb}(h:l[k]?=some j):(l.take (k+1)).map gy++l.drop (k+1)=((l.take k).map gy++l.drop k).set k (gy j):=by
 obtain⟨a,rfl⟩:=List.getElem?_eq_some_iff.1 h;have b:(List.map gy (l.take k)).length=k:=by rw[List.length_map,List.length_take];omega
 rw[aM h,List.map_append,List.append_assoc,List.set_append_right _ _ (by omega),b,Nat.sub_self,List.drop_eq_getElem_cons a];rfl
abbrev AnRel(V:World)(b:Nat)(x:Sr)(A:Option Addr)(n c:Nat)(Z:Value)(wr:World):Prop:=∃(k:Nat) (a:List Jr),k<=n/\Z=.int .i64 k/\Cn wr V.heap.size A n c a/\a.map Jr.j=(x.s.aj.take k).map gy++x.s.aj.drop k/\ai wr b 28 #[.int .i64 x.s.am,x.N.v,.slice A n c,x.R.v,x.B.v,x.L.v,.int .i64 x.s.nj,.int .i64 x.s.nb]/\Below V.heap.size V wr
set_option maxRecDepth 100000 in
theorem Ng(x:Sr)(w:World)(h:db w x)(hp:fy x.s=true):Calls prog 182 #[.agg (aY x)] w (Mt x.s w):=by
 have hch:gC x.s.aj=true:=by
  simp only[fy,ie,Bool.and_eq_true]at hp;exact hp.1.1.2
 obtain⟨V,hV,bV,kV⟩:=az w (aY x) 28;have HCo:=ah fun(W:World) (b:Below V.heap.size V W)=>wu x.J.A x.J.n x.J.c x.jr W ((h.ae bV).ae b).aj (by have:=h.fg.cf;omega) h.fg.cz;rw[h.jr]at HCo
 have HPc:=ah (by
  have:=jT x V (h.ae bV);rw[tY,hp,if_pos rfl]at this;exact this:Calls prog 14 #[.agg (aY x)] V (an (.int .i64 0) V))
 have HOk:=ah (ds.1 hch);have HB:=ah bV;have HK:=ah kV;have HIn:=ah (h.ae bV);have HPl:=ah hp;have HWd:=ah h.wide.aj;have hVs:V.heap.size=w.heap.size+1:=by rw[hV];simp
 clear h hp bV kV hch;go_enter func182,ntmps182;go_wp2_with(first|(rw[<-hV];clear hV)|refine cr rfl _ _ rfl HK.out rfl underlying28 rfl aT rfl ?_);refine av HPc.out fun d b2=> ?_;have HB2:=ah b2;have HK2:=ah (HK.out.ae b2 HK.out.lt);have HN2:Hid (ai (d.alloc (.cells dz 28)) d.heap.size 28 dz):=ai.new _ _ _;obtain⟨X3,hX3⟩:∃X3,X3=(d.alloc (.cells dz 28)).setRow d.heap.size (aY x):=⟨_,rfl⟩;have b3:Below d.heap.size d X3:=hX3▸aD;have k3:ai X3 d.heap.size 28 (aY x):=hX3▸ai.row HN2.out _;have HB3:=ah (aa b2 b3);have HK3:=ah k3;have HKs3:=ah (HK2.out.ae b3 HK2.out.lt);have x2:=HKs3.out.cell 2;simp at x2;clear b2 b3 k3;go_wp2_with(first|(rw[<-hX3];clear hX3 HN2)|refine cr rfl _ _ rfl HK2.out rfl underlying28 rfl aT rfl ?_|refine dp rfl _ _ _ rfl HN2.out rfl rfl aT rfl rfl rfl ?_);refine(HCo.out X3 HB3.out).mono ?_;rintro e w4 ⟨A,c,l,rfl,hjb,hl,b4⟩;obtain⟨n,hn⟩:∃n,n=x.s.aj.length:=⟨_,rfl⟩;rw[<-hn]at hjb⊢;have hn40:n<=40:=by have:=HOk.out.cf;omega
 obtain⟨X5,M⟩:∃X5,X5=w4.setCell ⟨d.heap.size,2,none⟩ (.slice A n c):=⟨_,rfl⟩;have hP2:V.heap.size<=d.heap.size:=HB2.out.size;have k4:=HK3.out.ae b4 HK3.out.lt;have y2:w4.cell? ⟨d.heap.size,2,none⟩=some x.J.v:=k4.cell 2;have f2:=k4.ao 2;have Y:aU d.heap.size w4 X5:=M▸aU.set _ _ _;have HK5:Hid (ai X5 d.heap.size 28 #[.int .i64 x.s.am,x.N.v,.slice A n c,x.R.v,x.B.v,x.L.v,.int .i64 x.s.nj,.int .i64 x.s.nb]):=by show ai _ _ _ _;rw[M];exact k4.set 2 _
 have HB5:Hid (Below V.heap.size V X5):=by
  show Below _ _ _;rw[M];exact(aa HB3.out b4).setCell (p:=⟨d.heap.size,2,none⟩) hP2 _
 have hs3:d.heap.size<X3.heap.size:=HK3.out.lt
 have HJ5:Hid (Cn X5 V.heap.size A n c l):=by
  have hq:=hjb.jbq;refine⟨aS (aV Y hq.rows hs3) (by have:=HB3.out.size;omega),fun r hr W h1 h2=>hq.nest r hr W (Nat.le_trans Y.size h1) fun b a1 a2 a3=>(h2 b (by have:=HB3.out.size;omega) (Nat.lt_of_lt_of_le a2 Y.size) a3).trans (Y.same b a2 (by omega))⟩
 have HGp:Hid (∀g,A=some ⟨g,0,none⟩->0<c->d.heap.size<g):=fun g e h0=>by
  obtain⟨g',e',q1,-⟩:=hjb.rows.2.room h0;rw[e]at e';injection e' with e';injection e' with e';omega
 have HLl:=ah hl;have HNn:=ah hn;have z2:=HK5.out.cell 2;simp at z2;clear hjb hl b4 k4 Y hn x2;go_wp2_with(rw[<-M];clear M)
 go_loopw [29] (fun Z wr=>AnRel V d.heap.size x A n c Z wr) (fun Z _=>n-(intOf Z).toNat)
 case atStart=>exact⟨0,l,Nat.zero_le _,rfl,HJ5.out,by simpa using HLl.out,HK5.out,HB5.out⟩
 case round=>
  obtain⟨k,T,hk,rfl,hjq,hlc,hkb,hbw⟩:=hrel;have F:=ah hjq;have HLc:=ah hlc;have HKb:=ah hkb;have u:=ah hbw;clear hjq hlc hkb hbw;by_cases hlt:k<n
  ·obtain⟨b,off,s,hA,hb,hs,hin,hr⟩:=ir F.out.RB hlt;obtain⟨g,xg,hgA,hgb,hgl,-,-,hgt⟩:=bh ek F.out.rows hlt;subst hgA;injection hA with hA;injection hA with hA hA2;subst hA hA2;have HR:Hid (wr.rangeAt g (k*20) (bk s).toList):=by show World.rangeAt _ _ _ _;rw[Nat.zero_add]at hr;exact hr
   have HN:Hid (ai (wr.alloc (.cells cP 51)) wr.heap.size 51 cP):=ai.new _ _ _;obtain⟨U,K⟩:∃U,U=(wr.alloc (.cells cP 51)).setRow wr.heap.size (bk s):=⟨_,rfl⟩;have bU:Below wr.heap.size wr U:=K▸aD;have kU:ai U wr.heap.size 51 (bk s):=K▸ai.row HN.out _;have HKU:=ah kU;have HDr:=ah (N5 s U (hin.ae bU));obtain⟨er,her⟩:∃er,er=Bm s.j:=⟨_,rfl⟩;rw[<-her]at HDr;have HEr:=ah her;have HBU:=ah bU
   have hsj:x.s.aj[k]?=some s.j:=by
    have h1:(T.map Jr.j)[k]?=some s.j:=by rw[List.getElem?_map,hs];rfl
    rw[HLc.out,List.getElem?_append_right (by rw[List.length_map];exact List.length_take_le _ _)]at h1;have h2:((x.s.aj.take k).map gy).length=k:=by rw[List.length_map,List.length_take];have:=HNn.out;omega
    rw[h2,Nat.sub_self,List.getElem?_drop,Nat.add_zero]at h1;exact h1
   have HSj:=ah hsj;have HS:=ah hs;clear bU kU hr hs hin her hgt xg;go_wp2_with(first|(rw[<-K];clear K HN)|refine ld rfl _ _ rfl rfl HR.out underlying51 rfl aK rfl ?_|refine dp rfl _ _ _ rfl HN.out rfl rfl aK rfl rfl rfl ?_|refine cr rfl _ _ rfl HKU.out rfl underlying51 rfl aK rfl ?_);refine HDr.out.mono ?_;rintro e w6 ⟨r2,rfl,b6,hro,Q⟩;have H:Hid (ai (w6.alloc (.cells cP 51)) w6.heap.size 51 cP):=ai.new _ _ _;obtain⟨X7,C⟩:∃X7,X7=(w6.alloc (.cells cP 51)).setRow w6.heap.size (bk r2):=⟨_,rfl⟩;have b7:Below w6.heap.size w6 X7:=C▸aD;have HK7:Hid (ai X7 w6.heap.size 51 (bk r2)):=by show ai _ _ _ _;rw[C];exact ai.row H.out _
   have HB7:=ah (aa (aa HBU.out b6) b7);have HRo:=ah (jk.ae hro b7);have HJ7:=ah (F.out.ae HB7.out);have t:=ah (HKb.out.ae HB7.out HKb.out.lt);have HBw7:=ah (aa u.out HB7.out);have hUs:=HBU.out.size;have HJ2:=ah Q;clear b6 b7 hro Q;by_cases o:er=0
   ·have e1:(er==0)=true:=by simpa using o
    have Q:=HJ2.out o;have HDa:Hid (gy s.j=r2.j):=by show _=_;rw[gy,if_pos (by rw[<-HEr.out];exact o),Q]
    obtain⟨g',xg,e',-,hgl7,-,-,hgt⟩:=bh ek HJ7.out.rows hlt
    iterate 2
     injection e' with e'
    subst e';have HTh:Hid (X7.there g (k*20) 20):=fun j hj=>hgt j hj;obtain⟨X8,O⟩:∃X8,X8=X7.setCells g (k*20) (bk r2).toList:=⟨_,rfl⟩;have on8:aU g X7 X8:=O▸aU.pM _ _ _;have HJ8:=ah (HJ7.out.set hlt HRo.out (by omega) (by have:=u.out.size;omega) O);have hPg:d.heap.size≠g:=by have:=HGp.out g rfl (by have:=HJ7.out.rows.2.le;omega);omega
    have HKb8:Hid (ai X8 d.heap.size 28 _):=(on8.same _ t.out.lt hPg).trans t.out;have HBw8:Hid (Below V.heap.size V X8):=by show Below _ _ _;rw[O];exact bP HBw7.out (by omega) _ _
    have z2:=t.out.cell 2;simp at z2;clear o Q on8 hgt xg hPg;go_wp2_with(first|(rw[<-C];clear C H)|refine dp rfl _ _ _ rfl H.out rfl rfl aK rfl rfl rfl ?_|(refine rZ rfl _ _ _ rfl rfl rfl HTh.out aK rfl rfl ?_;rw[<-O];clear O HTh)|refine cr rfl _ _ rfl HK7.out rfl underlying51 rfl aK rfl ?_);refine⟨⟨k+1,T.set k r2,by omega,by go_num,HJ8.out,?_,HKb8.out,HBw8.out⟩,by simp[intOf];omega⟩;rw[List.map_set,HLc.out,Je HSj.out,HDa.out]
   ·have e1:(er==0)=false:=by simpa using o
    have HDa:Hid (gy s.j=s.j):=by show _=_;rw[gy,if_neg (by rw[<-HEr.out];exact o)]
    clear o;go_wp2_with(first|(rw[<-C];clear C H)|refine dp rfl _ _ _ rfl H.out rfl rfl aK rfl rfl rfl ?_);refine⟨⟨k+1,T,by omega,by go_num,HJ7.out,?_,t.out,HBw7.out⟩,by simp[intOf];omega⟩;rw[Je HSj.out,HDa.out,<-HLc.out];have h1:(T.map Jr.j)[k]?=some s.j:=by rw[List.getElem?_map,HS.out];rfl
    obtain⟨q1,q2⟩:=List.getElem?_eq_some_iff.1 h1;rw[<-q2,List.set_getElem_self]
  ·obtain rfl:k=n:=by omega
   have P:T.map Jr.j=x.s.aj.map gy:=by
    have:=HLc.out;rw[HNn.out,List.take_length,List.drop_length,List.append_nil]at this;exact this
   have hp1:eG x.s.aj (x.s.aj.map gy):=ET fun j hj=>xQ (HOk.out.ok j hj) (HWd.out j hj);obtain⟨o1,w1⟩:=hp1.ok HOk.out;have HK':Hid (ai wr d.heap.size 28 (aY (x.bD T ⟨A,k,c⟩))):=HKb.out
   have hpb:fy (x.bD T ⟨A,k,c⟩).s=true:=by
    have h1:=HPl.out;simp only[fy,ie,Bool.and_eq_true]at h1⊢;refine⟨⟨⟨h1.1.1.1,?_⟩,h1.1.2⟩,h1.2⟩;show gC (T.map Jr.j)=true;rw[P];exact ds.2 o1
   have HFr:=ah (Bw (x.bD T ⟨A,k,c⟩) wr (db.bD (HIn.out.ae u.out) F.out.RB (e9 F.out.rows (by omega))) hpb);have HKs:=ah (HK.out.ae u.out HK.out.lt);have q:=ah P;have HO1:=ah o1;have HW1:=ah w1;clear P hp1 o1 w1 hpb;go_wp2_with(refine cr rfl _ _ rfl HK'.out rfl underlying28 rfl aT rfl ?_);refine HFr.out.mono ?_;rintro e w5 ⟨A2,n2,c2,l2,v2,left,a,rfl,hq2,hl2,S,hor,b5⟩
   have hn2:n2=k:=by
    have h1:=(pb (am:=x.s.am) HO1.out HW1.out left a).1;have h2:=congrArg List.length hl2;rw[List.length_map,hq2.rows.1]at h2;have h3:(x.bD T ⟨A,k,c⟩).s.aj=x.s.aj.map gy:=q.out;rw[h3]at h2;rw[h2,show(x.bD T ⟨A,k,c⟩).s.am=x.s.am from rfl,h1,List.length_map];exact HNn.out.symm
   subst hn2;have HQ2:=ah hq2
   have HFin:Hid (l2.map Jr.j=DR x.s.am left a x.s.aj):=by
    show _=_;rw[hl2,DR,<-q.out]
   have HRo:Hid (pQ {x.s with aj:=x.s.aj.map gy} left):=by
    show pQ _ _;rw[<-q.out];exact S
   have HOr:Hid (eT (x.s.aj.map gy) a):=by
    show eT _ _;rw[<-q.out];exact hor
   have D:=ah (aa u.out b5);have HKs5:=ah (HKs.out.ae b5 HKs.out.lt);have hJn:x.J.n=n2:=by rw[<-HIn.out.aj.rows.cb,HNn.out,<-HIn.out.jr,List.length_map]
   have h5s:=b5.size;clear hq2 hl2 S hor b5;go_wp2_with fail
   go_loopw [11,54] (fun X Z wr2=>∃(m:Nat) (I:Option Addr) (ni ci:Nat) (bO:List Int),m<=n2/\X=.slice I ni ci/\Z=.int .i64 m/\ni<=m/\df wr2 w5.heap.size I ni ci bO/\Below w5.heap.size w5 wr2) (fun _ Z _=>n2-(intOf Z).toNat)
   case atStart=>exact⟨0,none,0,0,[],Nat.zero_le _,rfl,rfl,Nat.le_refl _,be.nil _ _ _ _,Below.refl _ _⟩
   case round=>
    obtain⟨m,I,ni,ci,bO,hm,rfl,rfl,hnm,hio,hbel⟩:=hrel;have HIo:=ah hio;have f:=ah hbel;clear hio hbel;by_cases hlt2:m<n2
    ·obtain⟨b,off,s,rfl,hb,hs,hin,hr⟩:=ir (HQ2.out.ae f.out).RB hlt2;have HR:Hid (wr.rangeAt b (off+m*20) (bk s).toList):=hr;have G:Hid (ai (wr.alloc (.cells cP 51)) wr.heap.size 51 cP):=ai.new _ _ _;obtain⟨U,K⟩:∃U,U=(wr.alloc (.cells cP 51)).setRow wr.heap.size (bk s):=⟨_,rfl⟩;have bU:Below wr.heap.size wr U:=K▸aD;have kU:ai U wr.heap.size 51 (bk s):=K▸ai.row G.out _;have b0U:Below V.heap.size V U:=aa (aa D.out f.out) bU;obtain⟨bj,oj,s0,hAj,hbj,hs0,hin0,hr0⟩:=ir (HIn.out.ae b0U).aj (show m<x.J.n by omega);have HR0:Hid (U.rangeAt bj (oj+m*20) (bk s0).toList):=hr0;have i:Hid (ai (U.alloc (.cells cP 51)) U.heap.size 51 cP):=ai.new _ _ _;obtain⟨U2,z⟩:∃U2,U2=(U.alloc (.cells cP 51)).setRow U.heap.size (bk s0):=⟨_,rfl⟩;have y:Below U.heap.size U U2:=z▸aD;have kU2:ai U2 U.heap.size 51 (bk s0):=z▸ai.row i.out _
     have x2U:U.cell? ⟨w.heap.size,2,none⟩=some (.slice (some ⟨bj,oj,none⟩) n2 x.J.c):=by
      have h1:=(HK.out.ae b0U HK.out.lt).cell 2;simp at h1;rw[h1];show some (Value.slice x.J.A x.J.n x.J.c)=_;rw[hAj,hJn]
     have a0:=(kU.ae y kU.lt).cell 0;have a14:=(kU.ae y kU.lt).cell 14;have a15:=(kU.ae y kU.lt).cell 15;have c14:=kU2.cell 14;have c15:=kU2.cell 15;simp at a0 a14 a15 c14 c15;have E:=ah (aa f.out (aa bU y));have HIU:=ah ((HIo.out.ae bU).ae y);obtain⟨p1,hp1⟩:∃p,(s.j.pm !=s0.j.pm)=p:=⟨_,rfl⟩;obtain⟨p2,hp2⟩:∃p,(s.j.ch !=s0.j.ch)=p:=⟨_,rfl⟩;obtain⟨A9,c9,w9,hrun,o9,b9,-⟩:=mg HIU.out s.j.id (by omega) E.out.size;have HRun:=ah hrun;have HO9:=ah o9;have HB9:=ah (E.out.trans b9);clear bU kU y kU2 hr hs hin hr0 hs0 hin0 hAj b0U hrun o9 b9;have hl3:p1=true\/(p1=false/\p2=true)\/(p1=false/\p2=false):=by cases p1<;>cases p2<;>simp
     rcases hl3 with rfl|⟨rfl,rfl⟩|⟨rfl,rfl⟩
     iterate 2
      ·go_upto_region 18 with(first|(rw[<-K];clear K G)|(rw[<-z];clear z i)|refine ld rfl _ _ rfl rfl HR.out underlying51 rfl aK rfl ?_|refine ld rfl _ _ rfl rfl HR0.out underlying51 rfl aK rfl ?_|refine dp rfl _ _ _ rfl G.out rfl rfl aK rfl rfl rfl ?_|refine dp rfl _ _ _ rfl i.out rfl rfl aK rfl rfl rfl ?_)
       go_wp2_with(at_builtin;refine au rfl _ _ rfl rfl rfl HRun.out ?_);exact⟨⟨m+1,A9,ni+1,c9,_,by omega,rfl,by go_num,by omega,HO9.out,HB9.out⟩,by simp[intOf];omega⟩
     ·go_upto_region 18 with(first|(rw[<-K];clear K G)|(rw[<-z];clear z i)|refine ld rfl _ _ rfl rfl HR.out underlying51 rfl aK rfl ?_|refine ld rfl _ _ rfl rfl HR0.out underlying51 rfl aK rfl ?_|refine dp rfl _ _ _ rfl G.out rfl rfl aK rfl rfl rfl ?_|refine dp rfl _ _ _ rfl i.out rfl rfl aK rfl rfl rfl ?_)
      go_wp2_with fail;exact⟨⟨m+1,I,ni,ci,bO,by omega,rfl,by go_num,by omega,HIU.out,E.out⟩,by simp[intOf];omega⟩
    ·obtain rfl:m=n2:=by omega
     go_wp2_with fail
     try rw[Exit.noGoto_ret]
     go_ret2;exact⟨A2,m,c2,l2,_,left,a,rfl,(HQ2.out.ae f.out).mono (by have:=HB.out.size;have:=D.out.size;have:=u.out.size;omega),HFin.out,HRo.out,HOr.out,aa HB.out (aa D.out f.out)⟩
set_option maxRecDepth 100000
def F1(P:Nat)(A:OA)(W X:Wd):Prop:=W.heap.size<=X.heap.size/\∀b,b<W.heap.size->b≠P->A≠some ⟨b,0,none⟩->X.heap[b]?=W.heap[b]?
theorem F1.refl{P:Nat}:F1 P A W W:=⟨cB _,fun _ _ _ _=>rfl⟩
theorem F1.ae{P:Nat}{Y:Wd}(h:F1 P A W X)(b:Bl X X Y):F1 P A W Y:=⟨cF h.1 b.size,fun c h1 h2 a=>(b.block c (cD h1 h.1)).trans (h.2 c h1 h2 a)⟩
theorem F1.only{P:Nat}{Y:Wd}(h:F1 P A W X)(k:aU P X Y):F1 P A W Y:=⟨cF h.1 k.size,fun c h1 h2 a=>(k.same c (cD h1 h.1) h2).trans (h.2 c h1 h2 a)⟩
section
variable {w W X : World} {b0 b1 b2 b3 b4 b5 P : Nat} {x : Sr} {T : Sl} {fe : List Ou}
theorem gT.row(h:gT w b0 b1 b2 b3 b4 b5 P x T fe):w.rangeAt P 0 (aY x).toList:=fun j v a=>by
 rw[cR,h.ce.cell j]
 match j with
 |0|1|2|3|4|5|6|7=>simpa using a
 |j+8=>simp at a
theorem gT.Ud(h:gT w b0 b1 b2 b3 b4 b5 P x T fe)(b:Bl w w W){l:List Jr}(a:Cn W w A n c l)(hn:n<=1000)(j:X=W.setCell ⟨P,2,none⟩ (.slice A n c)):gT X b0 b1 b2 b3 b4 b5 P (x.bD l ⟨A,n,c⟩) T fe:=by
 have q:=h.u1;have s:=h.u2;have t:=h.u3;have u:=h.u4;have v:=h.u5;have y:=h.u6;have i:=h.ce.lt;have k:=h.ae b;have on:aU P W X:=j▸aU.set _ _ _;obtain⟨E,I,B,C,D,z,H⟩:=k.Pa on;refine⟨by rw[j];exact k.ce.set 2 _,E,aS (aV on a.rows i) (by omega),B,C,D,fun r p m h1 h2=> ?_,rfl,z,h.sf,fun d=>nx a.rows i d,h.wk,fun g e d=>nx a.rows (h.hT g e) d,h.sg,fun g e=>cD (k.hT g e) on.size,h.hR,h.hB,h.hL,q,s,t,u,v,y,h.fN,hn,h.fR,h.fB,h.fL,h.fT,h.kk⟩;exact a.nest r p m (cF on.size h1) fun c F f G=>(h2 c (by omega) (cD f on.size) (by omega) fun o=>by have:=h.hT c o;omega).trans (on.same c f (by omega))
theorem gT.was(h:gT w b0 b1 b2 b3 b4 b5 P x T fe)(k:F1 P T.A w W):pO W x.J.A x.J.n x.jr:=by
 refine⟨(ib (P:=fun b=>b=P\/T.A=some ⟨b,0,none⟩) k.1 (fun b h1 h2=>k.2 b h1 (fun e=>h2 (.inl e)) fun e=>h2 (.inr e)) h.aj fun d b e a=> ?_).et ek,fun r j=>h.nest r j W k.1 fun c l f g i=>k.2 c f g i⟩;rcases a with rfl|a
 ·exact h.zg d e
 ·exact h.wj b a d e
end
def PlanW(a b1 b2 b3 b4 b5 P:Nat)(x:Sr)(A:OA)(c:List Ou)(b:Bool)(w:Wd)(e:Ed)(w':Wd):Prop:=
 ∃l J T more,e=.returned (.tuple #[])/\gT w' a b1 b2 b3 b4 b5 P (x.bD l J) T (c++more)/\tn x.s b (l.map Jr.j)/\(more.length:Int)=changed x.s.aj (l.map Jr.j)/\more.length<=40/\Bl a w w'/\Fd P A T.A w w'
theorem ya{s:St}(g:bt s):fy s=true:=by
 simp only[fy,ie,cH];exact⟨⟨⟨⟨g.am,g.ag⟩,ds.2 g.aj⟩,g.aZ⟩,g.bK⟩
theorem CI(C b1 b2 b3 b4 b5 P:Nat)(x:Sr)(T:Sl)(yC:List Ou)(yG:Bool)(w:Wd)(h:gT w C b1 b2 b3 b4 b5 P x T yC)(g:bt x.s)(hn:T.n+100<=1000000):
 Cs prog 98 #[.pointer P,yG] w (PlanW C b1 b2 b3 b4 b5 P x T.A yC yG w):=by
 have m:=ah h;have D:=ah g;have HN':=ah hn;have qB:=ah (ya g);have qH:=h.ce.lt;have yL:=h.du;have x2:=h.ce.cell 2;simp at x2;have qK:gC x.s.aj=true:=ds.2 g.aj;have HCh:=ah qK;have HRw:=ah h.row;clear h g hn qK;go_in;go_upto_region 1 with fail
 go_cut [13] (fun Z wx=>Z=.bool yG/\w=wx)
 case first=>
  go_wp2;go_meet;exact⟨rfl,rfl⟩
 obtain⟨rfl,rfl⟩:=hcut;rename_i hR hC;refine hC _ _ ?_;clear hC;go_cut [4] (fun Z wx=>Z=x.J.v/\∃l J,gT wx C b1 b2 b3 b4 b5 P (x.bD l J) T yC/\tn x.s yG (l.map Jr.j)/\J.n<=40/\F1 P T.A w wx/\Bl C w wx)
 case first=>
  cases yG
  case true=>
   have HAn:=ah (Ng x w m.mE qB);go_wp2_with(refine wC HRw t28 rfl ?_);refine HAn.out.mono ?_;rintro e R ⟨A,n,c,l,v,left,yH,rfl,N,M,yB,uH,b2⟩;have u:=(AW (am:=x.s.am) D.aj D.wide.aj left yH).1
   have uG:n<=40:=by
    have h1:=cO List.length M;rw[dB,N.rows.1,u]at h1;have:=D.aj.cf;omega
   obtain⟨X,f⟩:=nm (R.setCell ⟨P,2,none⟩ (.slice A n c));have B:=ah (m.Ud b2 N (by omega) f);have O:=m.ce.ae b2 qH;have y2:R.cell? ⟨P,2,none⟩=some x.J.v:=O.cell 2;have f2:=O.ao 2;have on:aU P R X:=by rw[f];exact aU.set _ _ _
   have yT:=ah (((F1.refl (A:=T.A)).ae b2).only on);have yW:Hid (Bl C w X):=by rw[f];exact(b2.mono (by omega)).setCell (p:=⟨P,2,none⟩) yL _
   have yV:Hid (tn x.s true (l.map Jr.j)):=by rw[M];exact .anew yB uH
   clear N M yB uH b2 O on u x2;go_wp2_with(rw[<-f];clear f);go_meet;exact⟨rfl,l,⟨A,n,c⟩,B,yV,uG,yT,yW⟩
  case false=>
   have HSq:=ah (FF x w m.mE qB);go_wp2_with(refine wC HRw t28 rfl ?_);refine HSq.out.mono ?_;rintro e R ⟨A,n,c,l,v,left,yH,rfl,N,M,yB,uH,b2⟩;have u:=uc (am:=x.s.am) D.aj D.wide.aj left yH;obtain⟨Q,w1⟩:=u.ok D.aj;rw[<-M]at u Q w1
   have uG:n<=40:=by
    have h1:=u.1;rw[dB,N.rows.1]at h1;have:=D.aj.cf;omega
   obtain⟨X,f⟩:=nm (R.setCell ⟨P,2,none⟩ (.slice A n c));have B:=ah (m.Ud b2 N (by omega) f);have O:=m.ce.ae b2 qH;have y2:R.cell? ⟨P,2,none⟩=some x.J.v:=O.cell 2;have f2:=O.ao 2;have on:aU P R X:=by rw[f];exact aU.set _ _ _
   have yT:=ah (((F1.refl (A:=T.A)).ae b2).only on);have yW:Hid (Bl C w X):=by rw[f];exact(b2.mono (by omega)).setCell (p:=⟨P,2,none⟩) yL _
   have hpb:fy (x.bD l ⟨A,n,c⟩).s=true:=by
    have h1:=qB.out;simp only[fy,ie,cH]at h1⊢;exact⟨⟨⟨h1.1.1.1,ds.2 Q⟩,h1.1.2⟩,h1.2⟩
   have HFr:=ah (Bw (x.bD l ⟨A,n,c⟩) X B.mE hpb);have uN:=ah B.row;have HRo:=ah yB;have HOr:=ah uH;have HLq:=ah M;have HO1:=ah Q;have HW1:=ah w1;have hPX:=B.ce.lt;clear N M yB uH b2 O on u x2 Q w1 hpb;go_wp2_with(first|(rw[<-f];clear f)|refine wC uN t28 rfl ?_);refine HFr.out.mono ?_;rintro e w5 ⟨A2,n2,c2,l2,v2,uF,yQ,rfl,uU,yU,yE,yY,b5⟩
   have uI:n2<=40:=by
    have h1:=(pb (am:=x.s.am) HO1 HW1 uF yQ).1;have h2:=cO List.length yU;rw[dB,uU.rows.1]at h2;have L:n2=(l.map Jr.j).length:=h2.trans h1;rw[dB,show l.length=n from B.out.aj.1]at L;omega
   obtain⟨X2,yZ⟩:=nm (w5.setCell ⟨P,2,none⟩ (.slice A2 n2 c2));have HD2:=ah (B.Ud b5 uU (by omega) yZ);have k5:=B.ce.ae b5 hPX;have z2:w5.cell? ⟨P,2,none⟩=some (.slice A n c):=k5.cell 2;have g2:=k5.ao 2;have on2:aU P w5 X2:=by rw[yZ];exact aU.set _ _ _
   have qD:=ah ((yT.ae b5).only on2);have uZ:Hid (Bl C w X2):=by rw[yZ];exact(yW.trans (b5.mono (by omega))).setCell (p:=⟨P,2,none⟩) yL _
   have yV:Hid (tn x.s false (l2.map Jr.j)):=by
    show tn _ _ _;rw[yU];exact .fresh HRo HOr HLq yE yY
   clear uU yU yE yY b5 k5 on2;go_wp2_with(rw[<-yZ];clear yZ);go_meet;exact⟨rfl,l2,⟨A2,n2,c2⟩,HD2,yV,uI,qD,uZ⟩
 case rest=>
  obtain⟨rfl,l,⟨JA,r,Jc⟩,E,uV,hJ,qE,qL⟩:=hcut;have u:=Dh D uV;obtain⟨Q,w1⟩:=u.ok D.aj;have qI:=E.aj.2.le;have HLt:=ah (Le x.J.A x.J.n x.J.c x.jr JA r Jc l wc (m.was qE) E.mE.aj m.fJ E.fJ qI (by rw[m.out.jr];exact HCh) (ds.2 Q));have B:=ah E;have yV:=ah uV;have yT:=ah qE;have yW:=ah qL;have z2:wc.cell? ⟨P,2,none⟩=some (.slice JA r Jc):=E.ce.cell 2;have qG:l.length=r:=E.aj.1
  have hxn:x.J.n=r:=by
   have h1:=u.1;rw[dB,qG]at h1;rw[<-m.out.aj.1,h1,<-m.out.jr,dB]
  have hPc:=E.ce.lt;have hJ40:r<=40:=hJ;clear E uV hJ qE qL u Q w1 qI;go_wp2_with fail;refine HLt.out.mono ?_;rintro e S ⟨I,ni,ci,bO,rfl,hio,hni,b6⟩;have HB6:=ah b6;have qJ:=ah (B.ae b6);have HIs:=ah hio;have V:=ah (yT.ae b6);have hs6:=b6.size;have z26:S.cell? ⟨P,2,none⟩=some (.slice JA r Jc):=qJ.ce.cell 2;clear b6 hio z2;go_wp2
  go_loopw [63] (fun Z wr=>∃(k:Nat) (d:Sl) (more:List Ou),k<=r/\Z=.int .i64 k/\gT wr C b1 b2 b3 b4 b5 P (x.bD l ⟨JA,r,Jc⟩) d (yC++more)/\more.length=((x.s.aj.zip (l.map Jr.j)).take k).countP (fun p=>p.2.st==1&&(p.2.pm !=p.1.pm||p.2.ch !=p.1.ch))/\more.length<=k/\F1 P T.A S wr/\(d.A=T.A\/∀g,d.A=some ⟨g,0,none⟩->S<=g)/\Bl C S wr) (fun Z _=>r-(intOf Z).toNat)
  case atStart=>exact⟨0,T,[],fK _,rfl,by rw[fO];exact qJ,by simp,cB _,F1.refl,.inl rfl,cC _ _⟩
  case round=>
   obtain⟨k,d,more,hk,rfl,hdr,hmr,hmk,uA,htr,hbr⟩:=hrel;have z:=ah hdr;have uM:=ah hmr;have uD:=ah uA;have yX:=ah htr;have uJ:=ah hbr;have hwr:=uA.1
   have HIo:Hid (df wr wc I ni ci bO):=ib (P:=fun b=>b=P\/T.A=some ⟨b,0,none⟩) uA.1 (fun b h1 h2=>uA.2 b h1 (fun e=>h2 (.inl e)) fun e=>h2 (.inr e)) HIs fun h0 b e F=>by
    obtain⟨g',t,q1,-⟩:=HIs.2.room h0;rw[e]at t;injection t with t;injection t with t;rcases F with F|F
    ·omega
    ·have:=m.hT b F;have:=yT.1;omega
   clear hdr hmr uA htr hbr;by_cases hlt:k<r
   ·obtain⟨b,off,s,hA,hb,hs,hin,hr⟩:=ir (z.mE.aj:pO wr JA r l) hlt;have hww:F1 P T.A w wr:=⟨by have:=V.1;omega,fun q h1 h2 L=>(uD.2 q (by have:=V.1;omega) h2 L).trans (V.2 q h1 h2 L)⟩;obtain⟨bj,oj,s0,hAj,qF,hs0,uT,uR⟩:=ir (m.was hww) (show k<x.J.n by omega);subst hA;have HR:Hid (wr.rangeAt b (off+k*20) (bk s).toList):=hr;have HN:Hid (ai (wr.alloc (.cells cP 51)) wr 51 cP):=ai.new _ _ _;obtain⟨U,hU⟩:=nm ((wr.alloc (.cells cP 51)).setRow wr (bk s));have bU:Bl wr wr U:=by rw[hU];exact aH (bR.alloc lr _) lr _
    have G:ai U wr 51 (bk s):=by rw[hU];exact ai.row HN _
    have uL:=ah G;have yR:=ah bU;have uP:Hid (∀W,Bl U U W->W.cell? ⟨wr,11,none⟩=some (s.j.st:Vl)/\W.cell? ⟨wr,14,none⟩=some (s.j.pm:Vl)/\W.cell? ⟨wr,15,none⟩=some (s.j.ch:Vl)):=fun W a=>⟨(G.ae a G.lt).cell 11,(G.ae a G.lt).cell 14,(G.ae a G.lt).cell 15⟩
    have uO:Hid (∀W,Bl U U W->W.cell? ⟨bj,oj+k*20+14,none⟩=some (s0.j.pm:Vl)/\W.cell? ⟨bj,oj+k*20+15,none⟩=some (s0.j.ch:Vl)):=fun W a=>by
     have hb:=aa bU a;exact⟨(hb.cell (p:=⟨bj,oj+k*20+14,none⟩) qF).trans (uR 14 _ rfl),(hb.cell (p:=⟨bj,oj+k*20+15,none⟩) qF).trans (uR 15 _ rfl)⟩
    have qC:k<x.J.n:=by omega
    have hv:x.J.v=.slice (some ⟨bj,oj,none⟩) x.J.n x.J.c:=by show Value.slice x.J.A x.J.n x.J.c=_;rw[hAj]
    rw[hv,hxn];obtain⟨p0,hp0⟩:∃p,(s.j.st==1)=p:=⟨_,rfl⟩;obtain⟨p1,hp1⟩:∃p,(s.j.pm !=s0.j.pm)=p:=⟨_,rfl⟩;obtain⟨p2,hp2⟩:∃p,(s.j.ch !=s0.j.ch)=p:=⟨_,rfl⟩
    have hz:(x.s.aj.zip (l.map Jr.j))[k]?=some (s0.j,s.j):=by
     rw[List.getElem?_zip_eq_some];exact⟨by rw[<-m.out.jr,dD,hs0];rfl,by rw[dD,hs];rfl⟩
    have uS:Hid (((x.s.aj.zip (l.map Jr.j)).take (k+1)).countP (fun p=>p.2.st==1&&(p.2.pm !=p.1.pm||p.2.ch !=p.1.ch))=((x.s.aj.zip (l.map Jr.j)).take k).countP (fun p=>p.2.st==1&&(p.2.pm !=p.1.pm||p.2.ch !=p.1.ch))+(if(p0&&(p1||p2))then 1 else 0)):=by
     show _=_;rw[aM hz,List.countP_append,<-hp0,<-hp1,<-hp2]
     congr 1
     simp[List.countP_cons]
    clear bU G hr hs hin uR hs0 uT hAj hz hww hv;go_upto_region 9 with(first|(rw[<-hU];clear hU HN)|refine wC HR t51 rfl ?_|refine wB HN aK rfl ?_)
    have hl4:p0=false\/(p0=true/\p1=true)\/(p0=true/\p1=false/\p2=true)\/(p0=true/\p1=false/\p2=false):=by cases p0<;>cases p1<;>cases p2<;>simp
    rcases hl4 with rfl|⟨rfl,rfl⟩|⟨rfl,rfl,rfl⟩|⟨rfl,rfl,rfl⟩
    ·have yJ:Hid (((x.s.aj.zip (l.map Jr.j)).take (k+1)).countP (fun p=>p.2.st==1&&(p.2.pm !=p.1.pm||p.2.ch !=p.1.ch))=((x.s.aj.zip (l.map Jr.j)).take k).countP (fun p=>p.2.st==1&&(p.2.pm !=p.1.pm||p.2.ch !=p.1.ch))):=by show _=_;rw[uS.out];rfl
     refine aw (fun W=>Bl U U W) (by kernel_rfl) (by kernel_rfl) bR.drew ?_
     repeat(first
      |(refine bF ?_ ?_
        ·rfl
        simp only[Act.put,iG,lC,iN])
      |(refine cw ?_ ?_
        ·rfl
        apply Exists.intro;refine⟨fun W a=> ?_,?_⟩
        ·obtain⟨q11,uK,q15⟩:=uP W a;obtain⟨r14,r15⟩:=uO W a;go_simp
         try rfl
        simp only[Act.put,iG,lC,iN]))
     refine bM ?_;intro i H;have y:=ah H;clear H;go_wp2_with fail;refine⟨⟨k+1,d,more,by omega,by go_num,z.ae (aa yR y),?_,by omega,uD.ae (aa yR y),yX,uJ.trans ((aa yR y).mono (by have:=z.ce.lt;omega))⟩,by simp[intOf];omega⟩;rw[yJ.out];exact uM
    iterate 2
     ·have yJ:Hid (((x.s.aj.zip (l.map Jr.j)).take (k+1)).countP (fun p=>p.2.st==1&&(p.2.pm !=p.1.pm||p.2.ch !=p.1.ch))=((x.s.aj.zip (l.map Jr.j)).take k).countP (fun p=>p.2.st==1&&(p.2.pm !=p.1.pm||p.2.ch !=p.1.ch))+1):=by show _=_;rw[uS.out];rfl
      refine aw (fun W=>Bl U U W) (by kernel_rfl) (by kernel_rfl) bR.drew ?_
      repeat(first
       |(refine bF ?_ ?_
         ·rfl
         simp only[Act.put,iG,lC,iN])
       |(refine cw ?_ ?_
         ·rfl
         apply Exists.intro;refine⟨fun W a=> ?_,?_⟩
         ·obtain⟨q11,uK,q15⟩:=uP W a;obtain⟨r14,r15⟩:=uO W a;go_simp
          try rfl
         simp only[Act.put,iG,lC,iN]))
      refine bM ?_;intro i H;have y:=ah H;clear H;go_wp2_with fail;have yS:=aa yR y;have d7:=z.ae yS;have yP:Bl i i i.drew:=bR.drew;have Y:ai i.drew wr 51 (bk s):=(uL.ae y uL.lt).ae yP (uL.ae y uL.lt).lt;have y8:i.drew.cell? ⟨P,8,none⟩=some d.v:=(d7.ae yP).ce.cell 8;refine bW (fun W=>ai W wr 51 (bk s)) (fun W=>W.cell? ⟨P,8,none⟩=some d.v) #[false,false,false,false,false,false,false,false,false,false,false,false,false,false,false,false,false,false,true] [12,14,15,18] 0 [0,1,2,3,4,5,6,7,8,9,10,11,12,13,14,15,16,17,18] (by kernel_rfl) (by kernel_rfl) Y y8 ?_
      iterate 12
       refine lqe rfl (fun _ _ _ _ h=>h) ?_;apply Exists.intro;refine⟨fun W a hS=> ?_,?_⟩
       ·have q0:=a.cell 0;have uK:=a.cell 14;have c8:=hS (by kernel_rfl);simp at q0 uK;go_simp
        try rfl
      refine el 87 #[.slice I ni ci,s.j.id] rfl rfl (some 103) rfl rfl rfl (by go_simp) ?_;refine(gs I ni ci bO s.j.id i.drew (((HIo.ae yS).ae yP).et gi) (by unfold maxLen;omega)).mono ?_;rintro e W8 ⟨rfl,rfl⟩;refine⟨_,rfl,Y,y8,?_⟩
      iterate 1
       refine lqe rfl (fun _ _ _ _ h=>h) ?_;apply Exists.intro;refine⟨fun W a hS=> ?_,?_⟩
       ·go_simp
        try rfl
      have K:=d7.ae yP;have hl1:=z.fe.1;have yU:=m.fe.1;have hnn:=HN'.out;rw[cY,yU]at hl1;obtain⟨o,ho⟩:∃o:Ou,o=⟨3,ByteArray.empty,⟨0,0,0,0⟩,s.j.id,s.j.pm,bO.contains s.j.id⟩:=⟨_,rfl⟩;obtain⟨A',c',W',uB,hto,uE,uC,uY⟩:=IZ i.drew (P+1) d.A d.n d.c (yC++more) o K.fe (by omega) K.ce.lt;have hTP:d.A≠some ⟨P,0,none⟩:=fun e=>by have:=K.sg P e;omega
      have uQ:ai W' P 181 (vF (x.bD l ⟨some ⟨b,off,none⟩,r,Jc⟩) d):=(uC P K.ce.lt hTP).trans K.ce;have u8:W'.cell? ⟨P,8,none⟩=some d.v:=uQ.cell 8;have g8:=uQ.ao 8;have hTU:d.A≠some ⟨wr,0,none⟩:=fun e=>by have:=z.hT _ e;omega
      have qA:ai W' wr 51 (bk s):=(uC _ Y.lt hTU).trans Y;obtain⟨X,f⟩:=nm (W'.setCell ⟨P,8,none⟩ (.slice A' (d.n+1) c'));have HDX:=ah (K.tell hto (by omega) uE.size uC uY f (by omega));have uW:aU P W' X:=by rw[f];exact aU.set _ _ _
      have hsd:i.drew.heap.size=i:=rfl
      have HKX:Hid (F1 P T.A S X):=by
       have k7:=(uD.ae yS).ae yP;refine⟨cF k7.1 (cF uE.size uW.size),fun b q1 q2 q3=>(uW.same b (cD q1 (cF k7.1 uE.size)) q2).trans ((uC b (cD q1 k7.1) fun e=> ?_).trans (k7.2 b q1 q2 q3))⟩;rcases yX with e2|F
       ·exact q3 (by rw[<-e2];exact e)
       ·have:=F b e;omega
      have HTX:Hid (A'=T.A\/∀g,A'=some ⟨g,0,none⟩->S<=g):=by
       show _\/_;rcases uY with e|⟨g,e,hg⟩
       ·rw[e];exact yX
       ·exact .inr fun g' t=>by rw[e]at t;injection t with t;injection t with t;have:=yS.size;omega
      have HBX:Hid (Bl C S X):=by
       show Bl _ _ _;rw[f];exact((uJ.trans ((aa yS yP).mono (by have:=z.ce.lt;omega))).trans (uE.mono (by omega))).setCell (p:=⟨P,8,none⟩) yL _
      have uX:Bl i.drew i.drew (i.drew.alloc (.cells (IQ o) 92)):=bR.alloc lr _;refine gN rfl rfl (eS (.slice i.drew 1 1) (i.drew.alloc (.cells (IQ o) 92)) (some 105) rfl rfl (a8 rfl _) (by rw[ho];go_simp;try rfl) fun W a=> ?_);rw[a];refine⟨Y.ae uX Y.lt,(uX.cell (p:=⟨P,8,none⟩) K.ce.lt).trans y8,?_⟩;refine sT rfl rfl (some 106) rfl rfl rfl (.tmp 95) (.tmp 105) rfl (by go_simp) (by go_simp) uB ?_;intro W2 qM;rw[qM];refine⟨qA,u8,?_⟩;have HX:=ah f;clear uB hto uE uC uY f a qM uW uQ uX ho
      iterate 2
       refine lqe rfl (fun _ _ _ _ h=>h) ?_;apply Exists.intro;refine⟨fun W a hS=> ?_,?_⟩
       ·go_simp
        try rfl
      refine CY (W'.setCell ⟨P,8,none⟩ (.slice A' (d.n+1) c')) rfl rfl rfl (by kernel_rfl) rfl rfl (by go_simp) ?_;intro X1 hX1;rw[<-HX.out]at hX1;subst hX1;have hne:P≠wr:=by have:=z.ce.lt;omega
      refine⟨by rw[HX.out];exact ai.ll qA (p:=⟨P,8,none⟩) hne.symm _,?_⟩;simp only[Act.put,iG,lC,iN,cM,cJ,cI];clear u8 g8 qA Y y8 d7 K yS yP hl1 yU hnn hTP hTU;go_wp2_with fail;refine⟨⟨k+1,⟨A',d.n+1,c'⟩,more++[o],by omega,by go_num,by rw[<-fX];exact HDX,?_,by simp;omega,HKX,HTX,HBX⟩,by simp[intOf];omega⟩;rw[yJ.out,cY,uM.out];rfl
    ·have yJ:Hid (((x.s.aj.zip (l.map Jr.j)).take (k+1)).countP (fun p=>p.2.st==1&&(p.2.pm !=p.1.pm||p.2.ch !=p.1.ch))=((x.s.aj.zip (l.map Jr.j)).take k).countP (fun p=>p.2.st==1&&(p.2.pm !=p.1.pm||p.2.ch !=p.1.ch))):=by show _=_;rw[uS.out];rfl
     refine aw (fun W=>Bl U U W) (by kernel_rfl) (by kernel_rfl) bR.drew ?_
     repeat(first
      |(refine bF ?_ ?_
        ·rfl
        simp only[Act.put,iG,lC,iN])
      |(refine cw ?_ ?_
        ·rfl
        apply Exists.intro;refine⟨fun W a=> ?_,?_⟩
        ·obtain⟨q11,uK,q15⟩:=uP W a;obtain⟨r14,r15⟩:=uO W a;go_simp
         try rfl
        simp only[Act.put,iG,lC,iN]))
     refine bM ?_;intro i H;have y:=ah H;clear H;go_wp2_with fail;refine⟨⟨k+1,d,more,by omega,by go_num,z.ae (aa yR y),?_,by omega,uD.ae (aa yR y),yX,uJ.trans ((aa yR y).mono (by have:=z.ce.lt;omega))⟩,by simp[intOf];omega⟩;rw[yJ.out];exact uM
   ·obtain rfl:k=r:=by omega
    go_wp2_with fail
    first|go_end0|((try simp only[Exit.inBlock,Exit.then]);refine cU (lE rfl _ _ _) rfl ?_)
    refine⟨l,⟨JA,k,Jc⟩,d,more,rfl,z,yV,?_,by omega,yW.trans (((HB6).mono (by omega)).trans uJ),?_⟩
    ·rw[changed,uM.out,fG];rw[List.length_zip,dB,qG];omega
    ·refine⟨by have:=V.1;omega,fun q h1 h2 L=>(uD.2 q (by have:=V.1;omega) (by omega) L).trans (V.2 q h2 (by omega) L),yX.imp id fun F g e=>by have:=F g e;have:=V.1;omega⟩
end Go.Proofs.YthfhilggbbobmaaGreatDoor
