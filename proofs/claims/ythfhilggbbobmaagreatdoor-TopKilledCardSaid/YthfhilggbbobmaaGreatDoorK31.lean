/- Parts of the proof. -/
import Derived.Test.YthfhilggbbobmaaGreatDoorK30
import Derived.Test.YthfhilggbbobmaaGreatDoorK17
set_option linter.all false
set_option maxHeartbeats 20000000
namespace Go.Proofs.YthfhilggbbobmaaGreatDoor
open Go.Proofs.Tryz
open Go renaming World->Wd,Value->Vl,Ending->Ed,TypeId->Ti,Program->Pg,Calls->Cs
open Go.RowKit renaming Below->Bl
open Go.RowKit
def kR(g:Nat):Jr:=⟨kJ,some g,1,1,none,0,0⟩
variable{w:Wd}{g:Nat}
theorem Te(h:ai w g 139 #[(2:Int),(1:Int)]):eF w (kR g):=
 ⟨(vZ h).sh,cp.nil _ _ _ _,by show 0<=1000;omega,by show 0<=0;omega,fun _=>rfl,(vZ h).nm,(vZ h).us,(vZ h).ac,by show 0<2^64;omega⟩
theorem kover(r:Jr)(w:Wd)(h:r.j.st<3):Cs prog 348 #[.agg (bk r)] w (an false w):=by
 have a:=dF (3<=r.j.st) (by omega);go_in;go_wp2;go_ret;exact⟨rfl,aA⟩
theorem RH(A:OA)(c:Nat)(u:ByteArray)(w:Wd):Cs prog 349 #[.slice A 0 c,.string u] w (an () w):=by
 have a:=ah (gp A 0 c [] w ⟨cp.nil _ _ _ _,fun r d=>by cases d⟩ (by simp[maxLen]));rw[show gd (([]:List Jr).map Jr.j)=0 by kernel_rfl]at a;go_in;go_wp2
 go_loop [5,10] (fun z i=>z=.int .i64 0/\i=.int .i64 0) (fun _ _=>0)
 case atStart=>exact⟨rfl,rfl⟩
 case round=>
  obtain⟨rfl,rfl⟩:=hrel;go_wp2_with fail;refine av a fun e b1=> ?_;have b:=ah b1;clear b1;go_wp2;go_ret;exact⟨rfl,b⟩
def JNew(w:Wd)(e:Ed)(w':Wd):Prop:=∃r:Jr,e=.returned (.tuple #[.agg (bk r),()])/\r.j=kJ/\jk w' w r/\Bl w w w'
abbrev DE(g:Nat):Array Vl:= #[(1:Int),(),.string ⟨#[97]⟩,.string ⟨#[117]⟩,.string ⟨#[120]⟩,(1:Int),.slice g 1 1,(),(),(),(),false,(),false,.slice none 0 0,(),(),()]
abbrev Uh(g:Nat):Array Vl:= #[(1:Int),.slice g 1 1,(),(),()]
abbrev kRX(g:Nat):Array Vl:= #[(1:Int),.string ⟨#[97]⟩,.string ⟨#[117]⟩,.string ⟨#[120]⟩,(1:Int),.slice g 1 1,(),(),(),(),.slice none 0 0,(1:Int),false,(),(-1:Int),(),(),(),.int .u64 0,()]
theorem Js(g:Nat)(w:Wd)(h:ai w g 139 #[(2:Int),(1:Int)]):Cs prog 78 #[.agg (DE g)] w (an () w):=by
 have H:=sJ (kQ g) w (vZ h);rw[show xG (kQ g)=0 by kernel_rfl]at H;exact H
theorem RN(g:Nat)(w:Wd)(h:ai w g 139 #[(2:Int),(1:Int)]):Cs prog 110 #[.agg (kRX g)] w (an () w):=by
 have H:=je (kR g) w (Te h);rw[show F5 (kR g).j=0 by kernel_rfl]at H;exact H
variable{P:Pg}{o:Oper}{a:Act}{Q:Exit->Act->Wd->Prop}
theorem Qb{d:Array Oper}{rest:List Oper}(e:o.guard=none)(t:Ti)(b:Array (Nat×Operand))(f:o.op=.build t b)(cells:Array Vl)
 (c:P.built t (b.map fun(i,x)=>(i,a.eval x)).toList=some cells)(h:wpList P d Q rest (a.put o.dst (.agg cells)) w):wpList P d Q (o::rest) a w:=
 wpList_build e t b f (by rw[c];rfl) (by rw[c];exact h)
def JCop(w:Wd)(e:Ed)(w':Wd):Prop:=∃r:Jr,e=.returned (.agg (bk r))/\r.j=kJ/\jk w' w r/\Bl w w w'
theorem kjcop(g:Nat)(w:Wd)(h:ai w g 139 #[(2:Int),(1:Int)]):Cs prog 347 #[.agg (kRX g)] w (JCop w):=(vY (kR g) w (Te h)).mono fun e w' ⟨r,a,b,c,d⟩=>⟨r,a,b,c,d⟩
set_option maxRecDepth 100000 in
theorem kjnew(g:Nat)(w:World)(h:ai w g 139 #[.int .i64 2,.int .i64 1]):Calls prog 254 #[.int .i64 1,.agg (DE g),.int .i64 0] w (JNew w):=by
 obtain⟨V,p⟩:=nm ((w.alloc (.cells (DE g) 95)).alloc (.cells cP 51));have x:Below w.heap.size w V:=p▸aC;have L:ai V w.heap.size 95 (DE g):=p▸(ai.new _ _ _).alloc _;have M:ai V (w.heap.size+1) 51 cP:=by rw[p];have:=ai.new (w.alloc (.cells (DE g) 95)) 51 cP;simpa using this
 have C:=ah (Js g V (h.ae x h.lt));have N:=ah (h.ae x h.lt);have F:=ah L;have O:=ah M;have U:=ah x;have W:=M.lt;have H:Hid (V.rangeAt w.heap.size 0 (DE g).toList):=fun j v c=>by rw[Nat.zero_add,F.out.cell j,<-Array.getElem?_toList];exact c
 have Q:=L.cell 0;simp at Q;clear h x L M;go_in;go_wp2_with(first|(rw[<-p];clear p)|(go_guarded;refine me _ _ rfl rfl H underlying95 rfl fi rfl ?_));refine av C fun i b2=> ?_;have a:=F.ae b2 F.lt;have R:=a.cell 2;have S:=a.cell 3;have T:=a.cell 4;have t:=a.cell 10;have u:=a.cell 14;simp at R S T t u
 have K:Hid (i.rangeAt w.heap.size 5 (Uh g).toList):=fun j v c=>by
  rw[a.cell (5+j)]
  match j,c with
  |0,c=>exact c
  |1,c=>exact c
  |2,c=>exact c
  |3,c=>exact c
  |4,c=>exact c
 have G:Hid (ai (i.alloc (.cells cP 51)) i.heap.size 51 cP):=ai.new _ _ _;obtain⟨X,y⟩:=nm ((i.alloc (.cells cP 51)).setRow i.heap.size (kRX g));have P:Below i.heap.size i X:=y▸aD;have f:=aa b2 P;have d:Hid (ai X i.heap.size 51 (kRX g)):=by rw[y];exact ai.row G _
 have k:=ah (N.ae f N.lt);have m:=ah (O.ae f O.lt);have z:=ah (aa U f);have h2:=b2.size;have Y:=d.lt;have E:=ah (RN g X k);clear b2 a Q P f;go_wp2_with(first|(rw[<-y];clear y G)|refine wB G aK rfl ?_|(refine Qb rfl 51 _ rfl (kRX g) ?_ ?_;·kernel_rfl)|refine wC K t48 rfl ?_|refine wA d t51 rfl ?_);refine av E fun Z b3=> ?_;have l:=ah (d.ae b3 d.lt);have D:=ah (kjcop g Z (k.ae b3 k.lt));have n:=ah (m.ae b3 m.lt);have A:=ah (aa z b3);have h3:=b3.size;clear b3 R S T t u;go_wp2_with(refine wA l t51 rfl ?_);refine D.out.mono ?_;rintro e w4 ⟨r,rfl,q,s,b4⟩;have o:=ah (n.ae b4 n.lt);have B:=ah (aa A b4);have I:=ah q;have J:=ah s;clear q s b4;go_wp2_with(refine wB o aK rfl ?_);refine eC (cs:=bk r) rfl (ai.row o _) rfl rfl underlying51 rfl aK rfl rfl ?_;exact⟨r,rfl,I,(J.hi (by rw[setRow_size];exact Nat.le_refl _) fun b h1 h2=>setRow_other _ _ _ b (by omega)).mono (by omega),aH B (by omega) _⟩
set_option maxRecDepth 100000
def J4(n:Int):Prop:= -9223372036854775808<=n/\n<=9223372036854775807
theorem Qc(n:Int):J4 (wrap64 n):=by unfold J4 wrap64;omega
variable{b n:Nat}
theorem pI.JV(h:pI w b n)(hn:n<1000000){i:Int}(hi:J4 i)(s:Int):
 ∃w',(Instr.mapUpdate 263 (.map (some b)) i s).run prog w=.ok () w'/\pI w' b (n+1)/\aU b w w'/\Bl b w w':=by
 obtain⟨m,h1,h2⟩:=h;obtain⟨w',c,d,e,f⟩:=h1.update (i:=i) underlying3 underlying263 (by unfold maxLen;omega) hi s;refine⟨w',c,⟨_,d,fun x v a=> ?_⟩,e,f⟩;unfold zF at a;split at a
 ·cases a;exact⟨s,rfl⟩
 ·exact h2 x v a
theorem pI.Jx(h:pI w b n){i:Int}(hi:J4 i):∃(s:Int) (f:Bool),(Instr.lookup 263 (.map (some b)) i true).run prog w=.ok (.tuple #[s,f]) w/\(Instr.lookup 263 (.map (some b)) i false).run prog w=.ok s w:=by
 obtain⟨m,h1,h2⟩:=h;have a:=h1.look_ok underlying3 underlying263 (mr w) (i:=i) hi;have c:=h1.look underlying3 underlying263 (mr w) (i:=i) hi
 cases hm:m i with
 |none=>exact⟨0,false,by rw[a,hm];rfl,by rw[c,hm];rfl⟩
 |some v=>
  obtain⟨s,rfl⟩:=h2 i v hm;exact⟨s,true,by rw[a,hm];rfl,by rw[c,hm];rfl⟩
def Qu(w:Wd)(e:Ed)(w':Wd):Prop:=∃b,e=.returned (.map (some b))/\w<=b/\pI w' b 1000/\Bl w w w'
theorem Hf(A:OA)(n c:Nat)(l:List Jr)(w:Wd)(h:pO w A n l)(hn:n<=1000)(q:gC (l.map Jr.j)=true):Cs prog 366 #[.slice A n c] w (Qu w):=by
 have I:=h.rows.cb;subst I;have E:=ah h;have L:=ah (pc q).1;have X:= @sH prog;clear h q;go_in;have F:Hid (pI (w.alloc (.map #[] 0)) w 0):=⟨_,eX.made _ _ _,fun x v h=>by cases h⟩;have D:Hid (Bl w w (w.alloc (.map #[] 0))):=aA;go_wp2
 go_loopw [9] (fun i wr=>∃k:Nat,k<=l.length/\i=.int .i64 k/\pI wr w k/\Bl w w wr) (fun i _=>l.length-(intOf i).toNat)
 case atStart=>exact⟨0,by omega,rfl,F,D⟩
 case round=>
  obtain⟨k,U,rfl,r,B⟩:=hrel;have o:=ah r;have g:=ah B;clear r B;by_cases P:k<l.length
  ·obtain⟨b,off,s,rfl,T,hs,M,t⟩:=ir (E.ae g) P;have p:=ah t;have f:Hid (ai (wr.alloc (.cells cP 51)) wr 51 cP):=ai.new _ _ _;obtain⟨V,a⟩:=nm ((wr.alloc (.cells cP 51)).setRow wr (bk s));have d:Bl wr wr V:=a▸aD;have e:ai V wr 51 (bk s):=a▸ai.row f _;have H:=e.cell 0;have Q:=e.cell 11;have O:=e.cell 17;simp at H Q O;have C:=ah (aa g d);have K:=L.out s (cG hs);obtain⟨W,u,y,G,z⟩:=(o.ae d).JV (i:=s.j.id) (by omega) (by unfold J4;omega) s.j.li;have J:=ah u;have N:=ah y;have S:=ah (C.trans z);have R:Hid (pI V w (k+1)):=by obtain⟨m,m1,m2⟩:=o.ae d;exact⟨m,m1.mono (by omega),m2⟩
   clear t hs M e d u y G z K;cases h2:(s.j.st==2)
   ·go_wp2_with(first|(rw[<-a];clear a;go_step)|refine wC p t51 rfl ?_|refine wB f aK rfl ?_);exact⟨⟨k+1,by omega,by go_num,R,C⟩,by simp[intOf];omega⟩
   ·go_wp2_with(first|(rw[<-a];clear a;go_step)|refine wC p t51 rfl ?_|(refine wB f aK rfl ?_)|(at_mapUpdate;refine kj rfl _ _ _ _ rfl rfl rfl rfl J ?_));exact⟨⟨k+1,by omega,by go_num,N,S⟩,by simp[intOf];omega⟩
  ·obtain rfl:k=l.length:=by omega
   go_wp2;go_ret;obtain⟨m,m1,m2⟩:=o;exact⟨_,rfl,cB _,⟨m,m1.mono hn,m2⟩,g⟩
def J8(x:Nd)(w:Wd)(e:Ed)(w':Wd):Prop:=∃n:Int,e=.returned n/\J4 n/\Bl w w w'/\(x.st=0->n=0)
abbrev UY(x:Nd):Array Vl:= #[x.st,x.jb,x.ep,x.dr,x.wt,x.si,x.ak]
theorem Mh(b n:Nat)(x:Nd)(w:Wd)(h:pI w b n)(hx:fb x=true):Cs prog 367 #[.agg (UY x),.map (some b)] w (J8 x w):=by
 have c:Bl w w (w.alloc (.cells (UY x) 34)):=aA
 have d:J4 x.jb:=by
  have:=eb.1 (gY.1 hx).2.2.2.2;unfold J4;omega
 obtain⟨s,f,i,-⟩:=(h.ae c).Jx d;have g:=ah c;clear h c d hx;cases h0:(x.st==0)
 case' false=>cases h4:(x.st==4)
 case' false.false=>cases hd:x.dr
 case' false.false.false=>cases h3:(x.st==3)
 case' false.false.false.false=>cases f
 case' true=>have a:Hid (x.st=0):=by show _=_;simpa using h0
 case' false.true=>have a:Hid (x.st≠0):=by show _≠_;simpa using h0
 case' false.false.true=>have a:Hid (x.st≠0):=by show _≠_;simpa using h0
 case' false.false.false.true=>have a:Hid (x.st≠0):=by show _≠_;simpa using h0
 case' false.false.false.false.false=>have a:Hid (x.st≠0):=by show _≠_;simpa using h0
 case' false.false.false.false.true=>have a:Hid (x.st≠0):=by show _≠_;simpa using h0
 all_goals
  go_in;go_wp2;go_ret;refine⟨_,rfl,?_,g,fun e=> ?_⟩
  ·first|exact Qc _|(unfold J4;omega)
  ·first|rfl|exact absurd e a
structure Mq(w:Wd)(R:Nat)(A:OA)(n c:Nat)(p:List bC):Prop where
 ce:ai w R 401 #[.slice A n c]
 rd:Steps w A n p
 cf:n<=1000000
 le:n<=c
 cz:A=none->c=0
variable{w':Wd}{A:OA}{c:Nat}{p:List bC}
theorem Mq.ae{R:Nat}(h:Mq w R A n c p)(a:Bl w w w'):Mq w' R A n c p:=⟨h.ce.ae a h.ce.lt,h.rd.ae a,h.cf,h.le,h.cz⟩
def M1(R:Nat)(p:List bC)(fr b:Int)(w:Wd)(e:Ed)(w':Wd):Prop:=∃A n c a,e=.returned (.tuple #[])/\cg R w w'/\Mq w' R A n c a/\(b<=fr->a=p)
theorem mR(R:Nat)(A:OA)(n c:Nat)(p:List bC)(fr a k:Int)(w:Wd)(h:Mq w R A n c p):Cs prog 369 #[.pointer R,fr,a,k] w (M1 R p fr a w):=by
 have d:=ah h;have y:=h.ce.cell 0;simp at y;cases h1:decide (a<=fr)
 case' false=>cases h2:(k==0)
 case true=>
  clear h;go_in;go_wp2;go_end0;exact⟨A,n,c,p,rfl,cg.refl _ _,d,fun _=>rfl⟩
 case false.true=>
  clear h;go_in;go_wp2;go_end0;exact⟨A,n,c,p,rfl,cg.refl _ _,d,fun _=>rfl⟩
 case false.false=>
  have E:Hid (¬a<=fr):=by show¬_;simpa using h1
  have s:=ah (Cu A n c p fr a (wrap64 (-k)) w h.rd (by have:=h.cf;simp[maxLen];omega) h.le h.cz)
  have r:Hid ((add p fr a (wrap64 (-k))).2=0->(add p fr a (wrap64 (-k))).1.length<=1000):=fun e=>by
   obtain⟨-,-,D,x⟩:=M9 e;rw[x];exact D.cf
  have j:=h.ce.lt;obtain⟨q,m⟩:=nm (add p fr a (wrap64 (-k)));rw[<-m]at s r;clear h m;go_in;go_wp2_with fail;refine s.out.mono ?_;rintro e F ⟨t,u,rfl,o,b2⟩;have i:=ah o;have l:=ah b2;have f:=d.ce.ae b2 j;have B:=ah f;have f0:=f.ao 0;have z:=f.cell 0;simp at z;clear o b2 f;by_cases b:q.2=0
  ·have v:(q.2==0)=true:=by simpa using b
   have C:=ah (r b);clear b;go_wp2;go_end0;refine⟨t,q.1.length,u,q.1,rfl,(cg.aX l (iY j)).trans (cg.set 0 _),⟨B.set 0 _,?_,by have:=C.out;omega,i.2.le,i.2.cz⟩,fun e=>by have:=E.out;omega⟩;exact(bS i (by simp) fun g h1 h2=>dN _ _ _ _ (by show g≠R;omega)).et vb
  ·have v:(q.2==0)=false:=by simpa using b
   clear b;go_wp2;go_end0;exact⟨A,n,c,p,rfl,cg.aX l (iY j),d.ae l,fun _=>rfl⟩
def JY(j:Jb)(w:Wd)(e:Ed)(w':Wd):Prop:=e=.returned (.tuple #[(pX j).1,(pX j).2.1,(pX j).2.2,(jc j).isSome])/\Bl w w w'
theorem D4{j:Jb}(h:(fg j&&j.st==1&&decide (0<=j.pm))=false):jc j=none:=by
 unfold jc;rw[h];rfl
theorem Bb{j:Jb}(h1:fg j=true)(h2:j.st=1)(c:0<=j.pm):∃a,fw j.sh j.ch=some a/\jc j=some (j.pm,a.wl+12,a.nd)/\0<=j.ch/\(eO j.sh)[j.ch.toNat]?=some a/\1<=a.wl/\a.wl<=1000000:=by
 obtain⟨-,-,-,d⟩:=gn (lm h1 h2)
 have hs:(fw j.sh j.ch).isSome=true:=by
  rcases d with⟨q,-⟩|q
  ·omega
  ·exact q.2.1
 obtain⟨a,b⟩:=l9.1 hs;have e:=m7.1 (BQ (E8 h1) b);refine⟨a,b,?_,(zj b).1,?_,by omega,by omega⟩
 ·unfold jc;rw[h1,b];simp[h2,c]
 ·have:=b;unfold fw at this
  rwa [cK (zj b).1]at this
theorem R4:∀p1 p2 a:Bool,p1=false\/((p1=true/\p2=false)\/(p1=true/\p2=true/\a=true))\/(p1=true/\p2=true/\a=false):=by
 intro p1 p2 a;cases p1<;>cases p2<;>cases a<;>simp
theorem rc(r:Jr)(w:Wd)(h:eF w r):Cs prog 292 #[.agg (bk r)] w (JY r.j w):=by
 have q:Hid (ai (w.alloc (.cells (bk r) 51)) w.heap.size 51 (bk r)):=ai.new _ _ _;obtain⟨V,m⟩:∃V,V=w.alloc (.cells (bk r) 51):=⟨_,rfl⟩;have x:Bl w.heap.size w V:=m▸aA;have Y:ai V w.heap.size 51 (bk r):=m▸q.out;have d:=ah Y;have O:=ah x;have N:=ah (je r V (h.ae x));have yN:=ah fun(W:Wd) (F:Bl V.heap.size V W)=>fx r.A r.n r.c r.j.sh W (h.sh.ae (aa x F));have yM:Hid ((fg r.j&&r.j.st==1&&decide (0<=r.j.pm))=false->jc r.j=none):=D4;have yD:Hid (fg r.j=true->r.j.st=1->0<=r.j.pm->∃a,fw r.j.sh r.j.ch=some a/\jc r.j=some (r.j.pm,a.wl+12,a.nd)/\0<=r.j.ch/\(eO r.j.sh)[r.j.ch.toNat]?=some a/\1<=a.wl/\a.wl<=1000000):=Bb;obtain⟨p1,H⟩:∃p,fg r.j=p:=⟨_,rfl⟩;obtain⟨p2,I⟩:∃p,(r.j.st==1)=p:=⟨_,rfl⟩;obtain⟨p3,s⟩:∃p,decide (r.j.pm<0)=p:=⟨_,rfl⟩;have uG:(r.j.st !=1)= !p2:=by rw[<-I];rfl
 rw[Tq,H]at N;have P:=ah H;have Q:=ah I;have C:=ah s;clear h x Y H I s;rcases R4 p1 p2 p3 with rfl|(⟨rfl,rfl⟩|⟨rfl,rfl,rfl⟩)|⟨rfl,rfl,rfl⟩
 iterate 3
  ·have yV:Hid (jc r.j=none):=yM.out (by
    rw[P.out]
    try rw[Q.out]
    first|rfl|(have:=C.out;simp at this;simp;omega))
   go_enter func292,ntmps292;go_wp2_with(refine cr rfl _ _ rfl q.out rfl underlying51 rfl aK rfl ?_;rw[<-m];clear m q);refine av N.out fun b b2=> ?_;have B:=(d.out.ae b2 d.out.lt).cell 11;have z:=(d.out.ae b2 d.out.lt).cell 14;simp at B z;have s:=C.out;go_wp2_with fail;refine cU (v:=.tuple #[.int .i64 0,.int .i64 0,.int .i64 0,.bool false]) (by simp[results,results292,go_sem]) rfl ⟨?_,aa O.out b2⟩;unfold pX;rw[yV.out];rfl
 ·have s:=C.out;have S:0<=r.j.pm:=by simpa using s
  obtain⟨a,-,yL,yR,K,uI,uF⟩:=yD.out P.out (by simpa using Q.out) S;obtain⟨i,hi⟩:∃i:Nat,r.j.ch=(i:Int):=⟨r.j.ch.toNat,by omega⟩;rw[hi,iA]at K;have yQ:=ah yL;have J:=ah K;obtain⟨l,U⟩:∃l,l=eO r.j.sh:=⟨_,rfl⟩;rw[<-U]at yN J;have yP:i<l.length:=(cA.1 J.out).1;have uE:Hid (wrap64 (a.wl+12)=a.wl+12):=by show _=_;unfold wrap64;omega
  have HI:=ah hi;clear yL K U yR S hi yD yM;go_enter func292,ntmps292;go_wp2_with(refine cr rfl _ _ rfl q.out rfl underlying51 rfl aK rfl ?_;rw[<-m];clear m q);refine av N.out fun b b2=> ?_;have u:=ah b2;have B:=(d.out.ae b2 d.out.lt).cell 11;have z:=(d.out.ae b2 d.out.lt).cell 14;simp at B z;go_wp2_with fail
  have y:Hid (∀W,Bl b.heap.size b W->W.cell? ⟨w.heap.size,4,none⟩=some (r.j.sh.kd:Vl)/\W.cell? ⟨w.heap.size,5,none⟩=some (.slice r.A r.n r.c)/\W.cell? ⟨w.heap.size,6,none⟩=some (r.j.sh.mn:Vl)/\W.cell? ⟨w.heap.size,7,none⟩=some (r.j.sh.mx:Vl)/\W.cell? ⟨w.heap.size,8,none⟩=some (r.j.sh.wl:Vl)/\W.cell? ⟨w.heap.size,15,none⟩=some (.int .i64 (i:Int))):=fun W F=>by
   have k:=d.out.ae (aa u.out F) d.out.lt;have L:=k.cell 15;simp only[bk]at L;rw[HI.out]at L;exact⟨k.cell 4,k.cell 5,k.cell 6,k.cell 7,k.cell 8,L⟩
  have D:Bl b.heap.size b b.drew:=bR.drew;have E:Bl b.heap.size b (b.alloc (.cells Mn 139)).drew:=(aA).drew;have yT:(i:Int)<(l.length:Int):=by omega
  have uJ:(0:Int)<=(i:Int):=by omega
  go_cut [6] (fun X wx=>∃g,X=.pointer (some ⟨g,0,none⟩)/\ai wx g 139 (AlX a)/\Bl b.heap.size b wx)
  case first=>
   obtain⟨u4,u5,u6,u7,u8,uD⟩:=y.out _ D;obtain⟨v4,v5,v6,v7,v8,yX⟩:=y.out _ E
   go_region_with (first|(go_at_call 189;refine(yN.out _ (by first|exact aa u.out D|exact aa u.out E)).mono ?_;rintro e t ⟨A2,c2,rfl,Z,b3⟩;have f:Bl b.heap.size b t:=(by first|exact aa D b3|exact aa E b3);(first|(have o:ai t b.heap.size 139 Mn:=(ai.drew (ai.new b _ _)).ae b3 (by simp);have t0:=o.cell 0;have t1:=o.cell 1;have f0:=o.ao 0;have f1:=o.ao 1;simp at t0 t1;have yW:=ah o;clear o)|skip);obtain⟨R,off,a2,rfl,yO,T,d0,d1⟩:=cp.alt (Z.et qk) yP;rw[J.out]at T;cases T;have e0:(t.alloc (.cells Mn 139)).cell? ⟨R,off+i*2,none⟩=some (a.nd:Vl):=(by rw[lM _ _ _ yO];exact d0);have e1:(t.alloc (.cells Mn 139)).cell? ⟨R,off+i*2+1,none⟩=some (a.wl:Vl):=(by rw[lM _ _ _ yO];exact d1);clear Z;obtain⟨s4,s5,s6,s7,s8,uA⟩:=y.out _ f;obtain⟨yY,uH,uB,uC,yZ,yS⟩:=y.out _ (f.alloc f.size (.cells #[.int .i64 0,.int .i64 0] 139))))
   all_goals go_wp2_with fail
   all_goals go_meet
   all_goals first
    |exact⟨_,rfl,ai.new t _ _,f.alloc f.size _⟩
    |exact⟨_,rfl,(yW.out.set 0 _).set 1 _,(f.setCell (p:=⟨b.heap.size,0,none⟩) lr _).setCell (p:=⟨b.heap.size,1,none⟩) lr _⟩
  case rest=>
   obtain⟨g,rfl,G,b3⟩:=hcut;have z0:=G.cell 0;have z1:=G.cell 1;simp at z0 z1;have yU:=((d.out.ae (aa u.out b3) d.out.lt)).cell 14;simp at yU;have M:=ah (aa O.out (aa u.out b3));clear G b3 B z;go_wp2_with fail;go_quiet (fail);go_wp2_with fail;refine cU (v:=.tuple #[.int .i64 r.j.pm,.int .i64 (a.wl+12),.int .i64 a.nd,.bool true]) (by simp[results,results292,go_sem]) rfl ⟨?_,by first|exact M.out.drew|exact M.out|exact below_drewN M.out _⟩;unfold pX;rw[yQ.out];rfl
def qe(l:List Nd):Prop:=∀x∈l,x.st=0/\x.dr=false
variable{l:List Nd}
theorem UU(a:aO l=true)(hi:qe l):jd (((dw (cd F8 l)).length:Nat):Int)=(l.length:Int):=by
 have b:=(cQ.1 a).cf;unfold cd;rw[cK a,Hj F8 l (by omega)]
 have:l.filter F8=l:=lQ.2 fun x hx=>by
  obtain⟨h1,h2⟩:=hi x hx;simp[F8,h1,h2]
 rw[this];unfold jd;rw[cL (by omega),cL (by omega)]
def Mu(l:List Nd)(w:Wd)(e:Ed)(w':Wd):Prop:=∃A n c p,e=.returned (.slice A n c)/\Steps w' A n p/\n<=1000000/\n<=c/\(A=none->c=0)/\Bl w w w'/\(qe l->p=[(0,(l.length:Int))])
structure mv(wE:Wd)(b5 bL:Nat)(l:List Nd)(k m:Nat)(A:OA)(n c:Nat)(out:List Int)(wr:Wd):Prop where
 le:k<=l.length
 cf:n<=m
 own:df wr b5 A n c out
 ends:pI wr wE k
 U4:pI wr bL 1000
 du:Bl wE wE wr
 size:b5<=wr
 r64:∀z∈out,J4 z/\(qe l->z=0)
theorem pI.more{a:Nat}(h:pI w b n)(hn:n<=a):pI w b a:=by obtain⟨m,h1,h2⟩:=h;exact⟨m,h1.mono hn,h2⟩
variable{b5 k m:Nat}{out:List Int}{wr:Wd}
theorem mv.ae{d:Wd}(h:mv d b5 b l k m A n c out wr)(a:Bl wr wr w'):mv d b5 b l k m A n c out w':=
 ⟨h.le,h.cf,⟨h.own.1,h.own.2.ae a⟩,h.ends.ae a,h.U4.ae a,aa h.du a,cF h.size a.size,h.r64⟩
theorem mv.upd{a:Wd}(h:mv a b5 b l k m A n c out wr)(q:k<l.length)(r:l.length<=48)(p:a<b5)(o:b≠a){i:Int}(hi:J4 i)(s:Int):
 ∃w',(Instr.mapUpdate 263 (.map (some a)) i s).run prog wr=.ok () w'/\mv a b5 b l (k+1) m A n c out w':=by
 obtain⟨w',e,f,d,j⟩:=h.ends.JV (by omega) hi s;refine⟨w',e,by omega,h.cf,bS h.own d.size fun g h1 h2=>d.same g h2 (by omega),f,h.U4.ij (d.same b h.U4.lt o),h.du.trans j,cF h.size d.size,h.r64⟩
theorem mv.push{g:Wd}{f:Nat}(h:mv g b5 f l k m A n c out wr)(r:m<=100)(j:g<b5)(o:f<b5){x:Int}(hx:J4 x)(i:qe l->x=0):
 ∃b d e,(Builtin.append_ #[171,171] 171 #[.slice A n c,.slice wr 1 1]).run prog (wr.alloc (.cells #[x] 3))=.ok (.slice b (n+1) d) e/\mv g b5 f l k (m+1) b (n+1) d (out++[x]) e:=by
 have s:=h.cf;obtain⟨b,d,e,q,p,b3,-⟩:=mg h.own x (by omega) h.size;refine⟨b,d,e,q,h.le,by omega,p,h.ends.ij (b3.block _ j),h.U4.ij (b3.block _ o),h.du.trans (b3.mono (by omega)),cF h.size b3.size,fun z a=> ?_⟩;rcases dG.1 a with a|a
 ·exact h.r64 z a
 ·rw[lD]at a;subst a;exact⟨hx,i⟩
theorem mv.more{b:Wd}{a:Nat}(h:mv b b5 a l k m A n c out wr):mv b b5 a l k (m+1) A n c out wr:=⟨h.le,by have:=h.cf;omega,h.own,h.ends,h.U4,h.du,h.size,h.r64⟩
variable{i:Nat}
theorem Uc{l:List Int}(h:cp gl 1 w A n l)(hi:i<n):∃b off s,A=some ⟨b,off,none⟩/\b<w/\l[i]?=some s/\w.cell? ⟨b,off+i,none⟩=some (s:Vl):=by
 obtain⟨b,off,s,hA,a,hs,c⟩:=h.at_ hi;exact⟨b,off,s,hA,a,hs,by simpa using c 0 _ rfl⟩
abbrev UZ:Array Vl:= #[(),(),(),false,(),(),()]
theorem Hm:(prog.info? 34).map (·.size)=some 7:=by kernel_rfl
abbrev t34:=pk underlying34 rfl Hm
abbrev BzIn(b:Wd)(b5 a:Nat)(l:List Nd)(X Y:Vl)(wr:Wd):Prop:=∃(k:Nat) (A:OA) (n c:Nat) (out:List Int),X=.slice A n c/\Y=.int .i64 k/\mv b b5 a l k k A n c out wr
structure TkR(w:Wd)(T b5 E:Nat)(l:List Nd)(A:OA)(n c:Nat)(out:List Int)(wr:Wd)(p:List bC):Prop where
 tk:∃B m d,Mq wr T B m d p
 own:df wr b5 A n c out
 ends:pI wr E 48
 du:Bl w w wr
 idle:qe l->p=[(0,(l.length:Int))]
theorem TkR.SR{T E:Nat}{a:List bC}(h:TkR w T b5 E l A n c out wr p)(hs:cg T wr w')(ht:∃B m d,Mq w' T B m d a)(h1:w<=T)(h2:T<b5)(b:T≠E)(f:qe l->a=p):TkR w T b5 E l A n c out w' a:=
 ⟨ht,bS h.own hs.size fun g g1 g2=>hs.same g g2 (by omega),h.ends.ij (hs.same E h.ends.lt (sC b)),h.du.trans (hs.du.mono h1),fun e=>(f e).trans (h.idle e)⟩
abbrev TkIn(w:Wd)(T b5 E:Nat)(l:List Nd)(A:OA)(n c:Nat)(out:List Int)(Y:Vl)(wr:Wd):Prop:=∃(k:Nat) (p:List bC),k<=n/\Y=.int .i64 k/\TkR w T b5 E l A n c out wr p
theorem Ns(x:Sr)(w:Wd)(h:db w x)(hr:ie x.s=true):Cs prog 267 #[.agg (aY x)] w (Mu x.s.ag w):=by
 rcases x with⟨st,jr,⟨A,i,C⟩,⟨q,t,r⟩,R,B,L⟩;have F:Hid (ai (w.alloc (.cells (aY ⟨st,jr,⟨A,i,C⟩,⟨q,t,r⟩,R,B,L⟩) 28)) w 28 (aY ⟨st,jr,⟨A,i,C⟩,⟨q,t,r⟩,R,B,L⟩)):=ai.new _ _ _;have D:Bl w w (w.alloc (.cells (aY ⟨st,jr,⟨A,i,C⟩,⟨q,t,r⟩,R,B,L⟩) 28)):=aA;obtain⟨V,n⟩:=nm (w.alloc (.cells (aY ⟨st,jr,⟨A,i,C⟩,⟨q,t,r⟩,R,B,L⟩) 28));have c:ai V w 28 (aY ⟨st,jr,⟨A,i,C⟩,⟨q,t,r⟩,R,B,L⟩):=by rw[n];exact F
 rw[<-n]at D;have HX:=ah h;have uM:=ah (zz _ V (h.ae D));rw[Ft,hr]at uM;have yQ:Hid (∀W,Bl V V W->W.cell? ⟨w,1,none⟩=some (.slice A i C)/\W.cell? ⟨w,2,none⟩=some (.slice q t r)):=fun W K=>⟨(c.ae K c.lt).cell 1,(c.ae K c.lt).cell 2⟩;have Z:=ah fun(W:Wd) (K:Bl w w W)=>P4 A i C st.ag W (h.ag.ae K) (by have:i<=1000:=h.BP.cf;simp[maxLen];omega)
 have Q:aO st.ag=true/\gC st.aj=true:=by
  have:=hr;simp[ie]at this;exact⟨this.1.1.2,this.1.2⟩
 have qA:=ah fun(W:Wd) (K:Bl w w W)=>Hf q t r jr W (h.aj.ae K) h.fg.cf (by rw[h.jr];exact Q.2);have yP:Hid (∀y∈st.ag,fb y=true):=fun y hy=>(cQ.1 Q.1).m6 y hy;have yE:st.ag.length<=48:=(cQ.1 Q.1).cf;have uV:=ah yE;have hnl:st.ag.length=i:=h.ag.cb
 have HS:Hid (cd F8 st.ag<2^64):=by
  unfold cd;split
  ·exact B4 _ (by omega)
  ·show(0:Nat)<2^64;omega
 have uA:Hid (qe st.ag->jd (((dw (cd F8 st.ag)).length:Nat):Int)=(st.ag.length:Int)):=UU Q.1;have HB:=ah D;have qJ:=ah h.ag;have hmm:= @sH prog;clear h hr c D Q;go_in;go_wp2_with(refine wA F t28 rfl ?_;rw[<-n];clear n F);refine uM.out.mono ?_;rintro e w2 ⟨rfl,b2⟩;obtain⟨y1,P⟩:=yQ _ b2;have uH:=ah (aa HB b2);have uN:=ah b2;clear b2;go_wp2_with fail;refine(Z _ uH).mono ?_;rintro e w3 ⟨rfl,b3⟩;have qC:=ah (aa uH b3);have uO:=ah (aa uN b3);clear b3 y1 P;go_wp2_with fail;refine(jn _ _ HS).mono ?_;rintro e w4 ⟨rfl,rfl⟩;go_wp2_with fail;refine(Ol _ _).mono ?_;rintro e g ⟨A5,c5,rfl,o5,b5⟩;have U:=ah (aa qC b5);have uL:=ah (aa uO b5);have yS:=ah o5;clear b5 o5;obtain⟨G,O⟩:=nm (g.alloc (.cells #[.slice A5 1 c5] 401));have bG:Bl g g G:=by rw[O];exact aA
 have uE:Mq G g A5 1 c5 [(0,jd (((dw (cd F8 st.ag)).length:Nat):Int))]:=by
  have ho:=yS.ae bG;refine⟨?_,ho.et vb,by omega,yS.2.le,yS.2.cz⟩;rw[O];exact ai.new _ _ _
 have uX:=ah uE;have uD:Hid (G.heap.size=g+1):=by show _=_;rw[O];simp
 have HE:Hid (pI (G.alloc (.map #[] 0)) G 0):=⟨_,eX.made _ _ _,fun x v h=>by cases h⟩;have S:Hid (Bl G G (G.alloc (.map #[] 0))):=aA;have T:=ah bG;obtain⟨y1,P⟩:=yQ _ (aa (aa uL bG) S);clear uE bG y1;go_wp2_with(first|(rw[<-O];clear O;go_step));refine(qA _ (aa (aa U T) S)).mono ?_;rintro e l ⟨J,rfl,qI,yU,N⟩;clear P;have qD:(G.alloc (.map #[] 0)).heap.size=G.heap.size+1:=by simp
 have yR:Hid (G+1<=J):=by show _<=_;omega
 have HB6:=ah (aa (aa (aa U T) S) N);have qG:=ah (aa (aa (aa uL T) S) N);have uR:=ah (aa S N);have uK:=yU.lt;have uP:Hid (mv G l J st.ag 0 0 none 0 0 [] l):=⟨fK _,cB _,be.nil _ _ _ _,HE.ae N,yU,uR,cB _,fun z h=>by cases h⟩;have yT:Hid (J<l):=uK;obtain⟨y1,P⟩:=yQ _ qG;clear yU N qD P uK qI;go_wp2
 go_loopw [6,29] (fun X Y wr=>BzIn G l J st.ag X Y wr) (fun _ Y _=>st.ag.length-(intOf Y).toNat)
 case atStart=>exact⟨0,none,0,0,[],rfl,rfl,uP⟩
 case round=>
  obtain⟨k,A1,j,c1,out,rfl,rfl,yL⟩:=hrel;have a:=ah yL;clear yL;by_cases yN:k<st.ag.length
  ·obtain⟨b,off,s,rfl,hb,hs,d0,d1,d2,d3,d4,d5,d6⟩:=cp.seven (qJ.ae (aa (aa U T) a.du)) (show k<i by omega);have qK:Hid (fb s=true):=yP.out s (cG hs);have yX:Hid (qe st.ag->s.st=0):=fun e=>(e s (cG hs)).1;have F:Hid (ai (wr.alloc (.cells UZ 34)) wr 34 UZ):=ai.new _ _ _;obtain⟨V2,n⟩:=nm ((wr.alloc (.cells UZ 34)).setRow wr (UY s));have D:Bl wr wr V2:=by rw[n];exact aD
   have c:ai V2 wr 34 (UY s):=by rw[n];exact ai.row F _
   have HK:=ah c;have uI:=ah D;have z0:=c.cell 0;have z1:=c.cell 1;have z2:=c.cell 2;have z3:=c.cell 3;have z4:=c.cell 4;have z5:=c.cell 5;have z6:=c.cell 6;simp at z0 z1 z2 z3 z4 z5 z6;clear hs c D;go_wp2_with(first|(rw[<-n];clear n;go_step)|refine wB F Hm rfl ?_|refine wA HK t34 rfl ?_);refine(Mh J 1000 s _ (a.U4.ae uI) qK).mono ?_;rintro e w7 ⟨u,rfl,E,I,h0⟩;have H:=ah E;have uB:=ah (a.ae (aa uI I));have uY:Hid (qe st.ag->u=0):=fun e=>h0 (yX e);obtain⟨sv,f,-,yW⟩:=uB.ends.Jx E;have o:G.heap.size<l:=by have:=yR.out;have:=yT.out;omega
   have yO:J≠G:=by have:=yR.out;omega
   clear E I h0 d0 d1 d2 d3 d4 d5 d6 z0 z1 z2 z3 z4 z5 z6 hb;cases hz:(sv==0)
   ·obtain⟨w8,yM,M⟩:=uB.upd yN yE o yO H (wrap64 (sv+1));have uS:=ah M;have Z:=ah yM;clear M yM o yO;go_wp2_with(at_mapUpdate;refine kj rfl _ _ _ _ rfl rfl rfl rfl Z ?_);exact⟨⟨k+1,A1,j,c1,out,rfl,by go_num,uS.more⟩,by simp[intOf];omega⟩
   ·obtain⟨A2,c2,w8,uF,M⟩:=uB.push (by omega) o yT H uY;obtain⟨s2,f2,-,uC⟩:=M.ends.Jx H;obtain⟨w9,yM,uJ⟩:=M.upd yN yE o yO H (wrap64 (s2+1));have uQ:=ah uJ;have Z:=ah yM;have uZ:=ah uF;clear M uJ yM uF o yO;go_wp2_with(first|(at_mapUpdate;refine kj rfl _ _ _ _ rfl rfl rfl rfl Z ?_)|(at_builtin;refine au rfl _ _ rfl rfl rfl uZ ?_));exact⟨⟨k+1,A2,j+1,c2,out++[u],rfl,by go_num,uQ⟩,by simp[intOf];omega⟩
  ·obtain rfl:k=st.ag.length:=by have:=a.le;omega
   have ho:=a.own;have qM:j<=48:=by have:=a.cf;omega
   have qH:=ah (K6 l A1 j c1 out wr ho (by omega));clear ho;go_wp2_with fail;refine qH.out.mono ?_;rintro e w7 ⟨yD,rfl,uG,yZ,I⟩;have o:G.heap.size<l:=by have:=yR.out;have:=yT.out;omega
   have uT:g.heap.size<l:=by have:=uD.out;omega
   have uW:g.heap.size≠G:=by have:=uD.out;omega
   have qF:w.heap.size<=g:=U.size;have yY:=a.du.trans (I.mono (iY o))
   have qE:Hid (TkR w g l G st.ag A1 j c1 yD w7 [(0,jd (((dw (cd F8 st.ag)).length:Nat):Int))]):=
    ⟨⟨A5,1,c5,uX.ae yY⟩,yZ,(a.ends.ij (I.block _ o)).more yE,aa (aa U T) yY,fun e=>by rw[uA.out e]⟩
   have yV:Hid (∀z∈yD,J4 z/\(qe st.ag->z=0)):=fun z hz=>a.r64 z (uG.mem_iff.1 hz);have qL:yD.length=j:=yZ.1;clear uG yZ I yY;go_wp2
   go_loopw [53] (fun Y wr=>TkIn w g l G st.ag A1 j c1 yD Y wr) (fun Y _=>j-(intOf Y).toNat)
   case atStart=>exact⟨0,_,fK _,rfl,qE⟩
   case round=>
    obtain⟨k,p,hk,rfl,yL⟩:=hrel;have a:=ah yL;clear yL;by_cases yN:k<j
    ·obtain⟨b,off,u,rfl,hb,hs,d0⟩:=Uc (a.own.et gi) yN;have E:=yV.out u (cG hs);obtain⟨sv,f,-,yW⟩:=a.ends.Jx E.1;obtain⟨B,m,d,ht⟩:=a.tk;have uU:=ah (mR g B m d p 0 u sv wr ht);have H:=ah E.2;clear E ht hs;go_wp2_with fail;refine uU.out.mono ?_;rintro e w8 ⟨B2,m2,d2,p2,rfl,s8,t8,e8⟩;have qB:=a.SR s8 ⟨B2,m2,d2,t8⟩ qF uT uW (fun e=>e8 (by have:=H.out e;omega));go_wp2_with fail;exact⟨⟨k+1,p2,by omega,by go_num,qB⟩,by simp[intOf];omega⟩
    ·obtain rfl:k=j:=by omega
     obtain⟨B,m,d,ht⟩:=a.tk;have x0:=ht.ce.cell 0;simp at x0;have HT:=ah ht;clear ht;go_wp2;go_ret;exact⟨B,m,d,p,rfl,HT.rd,HT.cf,HT.le,HT.cz,a.du,a.idle⟩
theorem PH:∀args w,(callFunc 380 args).run prog w=.ok (.enter 380 args) w:=enters_of func380 (by kernel_rfl) rfl
def M4(T:Nat)(p:List bC)(j:Jb)(w:Wd)(e:Ed)(w':Wd):Prop:=∃B m d a,e=.returned (.tuple #[])/\cg T w w'/\Mq w' T B m d a/\(jc j=none->a=p)
theorem LR(M T:Nat)(B:OA)(m d:Nat)(p:List bC)(r:Jr)(w:Wd)(k:ai w M 398 #[.pointer T])(ht:Mq w T B m d p)(h:eF w r):
 Cs prog 380 #[.agg (bk r),.pointer M] w (M4 T p r.j w):=by
 have g:Hid (ai (w.alloc (.cells (bk r) 51)) w 51 (bk r)):=ai.new _ _ _;have b:Bl w w (w.alloc (.cells (bk r) 51)):=aA;have o:=ah (rc r _ (h.ae b));have a:=ah b;have f:=ah k;have i:=ah ht;have n:=ht.ce.lt;clear h b k ht;cases hc:(jc r.j).isSome
 ·go_in;go_wp2_with(refine wA g t51 rfl ?_);refine av o fun l b2=> ?_;go_wp2_with(rw[hc]);go_end0;exact⟨B,m,d,p,rfl,cg.aX (aa a b2) (iY n),i.ae (aa a b2),fun _=>rfl⟩
 ·go_in;go_wp2_with(refine wA g t51 rfl ?_);refine av o fun l b2=> ?_;have c:=ah (aa a b2);have x:=(f.ae c f.lt).cell 0;simp at x;clear b2;go_wp2_with(rw[hc]);refine(mR T B m d p _ _ _ l (i.ae c)).mono ?_;rintro e y ⟨q,m3,s,t,rfl,u,v,-⟩;go_wp2;go_end0;exact⟨q,m3,s,t,rfl,(cg.aX c (iY n)).trans u,v,fun e=>by rw[e]at hc;cases hc⟩
abbrev BkX(b:Bk):Array Vl:= #[b.id,b.fr,b.to,b.nd]
abbrev BkZ:Array Vl:= #[(),(),(),()]
theorem T1:(prog.info? 58).map (·.size)=some 4:=by kernel_rfl
structure QB(w:Wd)(T M:Nat)(s:St)(wr:Wd)(p:List bC):Prop where
 tk:∃B m d,Mq wr T B m d p
 ptr:ai wr M 398 #[.pointer T]
 du:Bl w w wr
 idle:pQ s p
variable{s:St}
theorem QB.ae{T M:Nat}(h:QB w T M s wr p)(a:Bl wr wr w'):QB w T M s w' p:=by
 obtain⟨B,m,d,b⟩:=h.tk;exact⟨⟨B,m,d,b.ae a⟩,h.ptr.ae a h.ptr.lt,aa h.du a,h.idle⟩
theorem QB.SR{T M:Nat}{a:List bC}(h:QB w T M s wr p)(hs:cg T wr w')(ht:∃B m d,Mq w' T B m d a)(h1:w<=T)(h2:M≠T)(b:yd s->a=p):QB w T M s w' a:=
 ⟨ht,hs.ce h.ptr h2,h.du.trans (hs.du.mono h1),fun e=>(b e).trans (h.idle e)⟩
abbrev RmIn(w:Wd)(T M:Nat)(s:St)(n:Nat)(Y:Vl)(wr:Wd):Prop:=∃(k:Nat) (p:List bC),k<=n/\Y=.int .i64 k/\QB w T M s wr p
def MS(s:St)(w:Wd)(e:Ed)(w':Wd):Prop:=∃A n c p,e=.returned (.slice A n c)/\Steps w' A n p/\n<=1000000/\n<=c/\(A=none->c=0)/\Bl w w w'/\pQ s p
theorem zy(x:Sr)(I:OA)(Q ci:Nat)(bO:List Int)(w:Wd)(h:db w x)(z:ie x.s=true)(hi:fs w I Q bO)(uA:Q<=maxLen):Cs prog 291 #[.agg (aY x),.slice I Q ci] w (MS x.s w):=by
 rcases x with⟨st,jr,N,⟨v,o,D⟩,R,⟨u,n,C⟩,L⟩;have l:Hid (ai (w.alloc (.cells (aY ⟨st,jr,N,⟨v,o,D⟩,R,⟨u,n,C⟩,L⟩) 28)) w 28 (aY ⟨st,jr,N,⟨v,o,D⟩,R,⟨u,n,C⟩,L⟩)):=ai.new _ _ _;have i:Bl w w (w.alloc (.cells (aY ⟨st,jr,N,⟨v,o,D⟩,R,⟨u,n,C⟩,L⟩) 28)):=aA;obtain⟨V,c⟩:=nm (w.alloc (.cells (aY ⟨st,jr,N,⟨v,o,D⟩,R,⟨u,n,C⟩,L⟩) 28));have f:ai V w 28 (aY ⟨st,jr,N,⟨v,o,D⟩,R,⟨u,n,C⟩,L⟩):=c▸l;rw[<-c]at i;have uG:=ah (Ns _ V (h.ae i) z);have yN:Hid (∀W,Bl V V W->W.cell? ⟨w,2,none⟩=some (.slice v o D)/\W.cell? ⟨w,4,none⟩=some (.slice u n C)):=fun W hW=>⟨(f.ae hW f.lt).cell 2,(f.ae hW f.lt).cell 4⟩;have yL:=ah hi;have yU:Hid (pO w v o jr):=h.aj;have uH:st.aZ.length=n:=h.aZ.cb;have yW:jr.length=o:=h.aj.rows.cb;have yZ:Hid (Mo w u n st.aZ):=h.aZ;have hj:Hid (jr.map Jr.j=st.aj):=h.jr;have yC:Hid (yd st->qe st.ag/\st.aZ=[]/\∀r∈jr,jc r.j=none):=fun e=>⟨e.1,e.2.1,fun r z=>e.2.2 r.j (by rw[<-hj.out];exact cS.2 ⟨r,z,rfl⟩)⟩;have F:=ah i;have uM:n<=1000:=h.okB.cf;have uK:o<=1000:=h.fg.cf;subst uH yW;clear h z f i hi;go_in;go_wp2_with(refine wA l t28 rfl ?_;rw[<-c];clear c l);refine uG.out.mono ?_;rintro e a ⟨A2,A,y,p2,rfl,yR,uF,uE,yS,b2,h2⟩;have uI:=ah (aa F b2);have yJ:=ah b2;have yO:=ah yR;have S:Hid (pQ st p2):=fun e=>h2 (yC e).1;have yT:=ah yS;have yG:=fun(W:Wd)=>Lib.run_eql_slice_nil (P:=prog) W 327 397 A2 A y 0 0 underlying327;clear b2 h2 yR yS
 cases A2 with
 |none=>
  simp only[Option.isNone_none]at yG;go_wp2;go_ret;have uL:y=0:=by first|exact yT rfl|exact yT trivial
  exact⟨none,0,0,p2,rfl,by have:=yO.out;obtain rfl:A=0:=by omega
                           exact this,by omega,by omega,fun _=>rfl,uI,S⟩
 |some a2=>
  simp only[iV]at yG;obtain⟨G,H⟩:=nm ((a.alloc (.cells #[.slice (some a2) A y] 401)).alloc (.cells #[.pointer a] 398));have M:Bl a a G:=H▸aC
  have kT:ai G a 401 #[.slice (some a2) A y]:=by
   rw[H];exact(ai.new a _ _).alloc _
  have kM:ai G (a+1) 398 #[.pointer a]:=by
   rw[H];have:=ai.new (a.alloc (.cells #[.slice (some a2) A y] 401)) 398 #[.pointer a]
   rwa [show(a.alloc (.cells #[.slice (some a2) A y] 401)).heap.size=a.heap.size+1 by simp]at this
  have yM:Hid (QB V a (a+1) st G p2):=⟨⟨some a2,A,y,⟨kT,yO.ae M,uF,uE,fun e=>by cases e⟩⟩,kM,aa yJ M,S⟩;have yX:=ah (aa yJ M);obtain⟨y2,y4⟩:=yN _ yX;clear M kT kM y2;have yQ:V.heap.size<=a:=yJ.size;go_wp2_with(first|(rw[<-H];clear H;go_step))
  go_loopw [23] (fun Y wr=>RmIn V a (a+1) st st.aZ.length Y wr) (fun Y _=>st.aZ.length-(intOf Y).toNat)
  case atStart=>exact⟨0,p2,fK _,rfl,yM⟩
  case round=>
   obtain⟨k,p,hk,rfl,J⟩:=hrel;have g:=ah J;clear J;by_cases E:k<st.aZ.length
   ·obtain⟨b,off,s,rfl,hb,hs,d0,d1,O,d3⟩:=cp.four (yZ.ae (aa F g.du)) E;have yV:Hid (yd st->False):=fun e=>by have:=(yC e).2.1;rw[this]at E;simp at E
    have l:Hid (ai (wr.alloc (.cells BkZ 58)) wr 58 BkZ):=ai.new _ _ _;obtain⟨q,c⟩:=nm ((wr.alloc (.cells BkZ 58)).setRow wr (BkX s));have i:Bl wr wr q:=c▸aD;have f:ai q wr 58 (BkX s):=c▸ai.row l _;have z1:=f.cell 1;have z2:=f.cell 2;have z3:=f.cell 3;simp at z1 z2 z3;have t:=ah (g.ae i);have zM:=t.ptr.cell 0;simp at zM;clear hs f i;go_wp2_with(first|(rw[<-c];clear c;go_step)|refine wB l T1 rfl ?_);obtain⟨B,m,d,ht⟩:=t.tk;refine(mR a B m d p _ _ _ q ht).mono ?_;rintro e w8 ⟨U,m2,O,Z,rfl,s8,t8,-⟩;have yK:=t.SR s8 ⟨U,m2,O,t8⟩ yQ (by omega) (fun e=>(yV e).elim);go_wp2_with fail;exact⟨⟨k+1,Z,by omega,by go_num,yK⟩,by simp[intOf];omega⟩
   ·obtain rfl:k=st.aZ.length:=by omega
    obtain⟨y2,y4⟩:=yN wr g.du;clear y4;have uD:Hid (QB V a (a+1) st wr p):=g;clear g yM E hk;go_wp2
    go_loopw [39] (fun Y wr=>RmIn V a (a+1) st jr.length Y wr) (fun Y _=>jr.length-(intOf Y).toNat)
    case atStart=>exact⟨0,p,fK _,rfl,uD⟩
    case round=>
     obtain⟨k,X,hk,rfl,J⟩:=hrel;have g:=ah J;clear J;by_cases E:k<jr.length
     ·obtain⟨b,off,s,rfl,hb,hs,yP,z⟩:=ir (yU.ae (aa F g.du)) E;have HR:=ah z;have uB:Hid (yd st->jc s.j=none):=fun e=>(yC e).2.2 s (cG hs);have l:Hid (ai (wr.alloc (.cells cP 51)) wr 51 cP):=ai.new _ _ _;obtain⟨q,c⟩:=nm ((wr.alloc (.cells cP 51)).setRow wr (bk s));have i:Bl wr wr q:=c▸aD;have f:ai q wr 51 (bk s):=c▸ai.row l _;have HK:=ah f;have x0:=f.cell 0;simp at x0;have t:=ah (g.ae i);have yY:=ah (yP.ae i);have S:=ah (yL.ae (aa (aa F g.du) i));have T:=ah (gs I Q ci bO s.j.id q S uA);clear z hs f i yP;cases hq:bO.contains s.j.id
      ·rw[hq]at T;obtain⟨B,m,d,ht⟩:=t.tk;have uC:=ah (LR (a+1) a B m d X s q t.ptr ht yY);clear hq ht;have uJ:=PH;go_wp2_with(first|(rw[<-c];clear c;go_step)|refine wC HR t51 rfl ?_|refine wB l aK rfl ?_);refine T.out.mono ?_;rintro e w7 ⟨rfl,rfl⟩;go_wp2_with(refine wA HK t51 rfl ?_);refine uC.out.mono ?_;rintro e w8 ⟨U,m2,O,Z,rfl,s8,t8,e8⟩;have yK:=t.SR s8 ⟨U,m2,O,t8⟩ yQ (by omega) (fun e=>e8 (uB e));go_wp2_with fail;exact⟨⟨k+1,Z,by omega,by go_num,yK⟩,by simp[intOf];omega⟩
      ·rw[hq]at T;clear hq;go_wp2_with(first|(rw[<-c];clear c;go_step)|refine wC HR t51 rfl ?_|refine wB l aK rfl ?_);refine aQ T ?_;go_wp2_with fail;exact⟨⟨k+1,X,by omega,by go_num,t⟩,by simp[intOf];omega⟩
     ·obtain rfl:k=jr.length:=by omega
      obtain⟨B,m,d,ht⟩:=g.tk;have x0:=ht.ce.cell 0;have xM:=g.ptr.cell 0;simp at x0 xM;have K:=ah ht;clear ht;go_wp2;go_ret;exact⟨B,m,d,X,rfl,K.rd,K.cf,K.le,K.cz,aa F g.du,g.idle⟩
def NewJc(l:List Jr)(w:Wd)(e:Ed)(w':Wd):Prop:=∃A c,e=.returned (.slice A l.length c)/\gB w' w A l.length c l/\Bl w w w'
theorem G5(A:OA)(n c:Nat)(p:List Jr)(w:Wd)(h:Qf w A n p)(hn:n<=1000000)(hA:A=none->c=0):
 Cs prog 376 #[.slice A n c] w (NewJc p w):=by
 have o:=h.cb;subst o
 cases A with
 |none=>
  have q:p=[]:=by
   cases p with
   |nil=>rfl
   |cons x r=>obtain⟨b,off,_,e,_⟩:=h.at_ (i:=0) (by simp);cases e
  subst q;obtain rfl:=hA rfl;clear h hA hn;have g:=fun(w:Wd)=>Lib.run_eql_slice_nil (P:=prog) w 23 51 none 0 0 0 0 underlying23;go_in;go_wp2;go_ret;exact⟨none,0,rfl,be.nil _ _ _ _,cC _ _⟩
 |some a=>
  obtain⟨k,m,t,d,j,f,_,_⟩:=dy ek (P:=prog) (w.alloc (.cells #[] 51)) w 23 23 51 _ 216 underlying23 sP rfl w 0 0 [] (be.none _ _ _ _ _) (some a) p.length c p (h.ae (aA)) (by simp[maxLen];omega) (by omega) (by simp);simp only[cR,dH]at d j;have l:=ah d;have s:=((cC w w).alloc lr (.cells #[] 51)).trans f;clear d f h;have g:=fun(w:Wd)=>Lib.run_eql_slice_nil (P:=prog) w 23 51 (some a) p.length c 0 0 underlying23;simp only[iV]at g;go_in;go_wp2_with(at_builtin;refine au rfl _ _ rfl rfl rfl l ?_);go_ret;exact⟨k,m,rfl,j,s⟩
theorem D8(f:FuncId)(L:f=288\/f=290)(A:OA)(n c:Nat)(l:List Jr)(w:Wd)(h:pO w A n l)(hn:n<=1000000)(hA:A=none->c=0):
 Cs prog f #[.slice A n c] w (Qz (l.map Jr.j) w):=by
 rcases L with rfl|rfl
 all_goals
  have yR:=h.rows.cb;subst yR;have yT:=ah (G5 A l.length c l w h.rows hn hA);have HH:=ah h;clear h
  first|(go_in)|(go_in)
  go_wp2_with fail;refine yT.out.mono ?_;rintro e w1 ⟨A1,B,rfl,C,b1⟩;rcases dX l.length with K|K
  ·have e0:l=[]:=dJ K;subst e0;have HO:=ah C;clear C hn hA K yT HH;go_wp2
   go_loopw [9] (fun i wr=>i=.int .i64 0/\wr=w1) (fun _ _=>0)
   case atStart=>exact⟨rfl,rfl⟩
   case round=>
    obtain⟨rfl,rfl⟩:=hrel;go_wp2;go_ret;exact⟨A1,B,[],rfl,⟨HO,fun g _ r a=>(by simp at a)⟩,rfl,b1⟩
  ·obtain⟨g,x,rfl,T,yH,-⟩:=bh ek C K;have uJ:Hid (ou w g l.length B l () w1):=⟨0,l,by omega,rfl,C,rfl,fun r a=>mT.old (HH.eZ r a) b1 T,fun i r hi=>absurd hi (n8 i),b1⟩;have uA:w<=g:=T;clear C b1 T yH yT;go_wp2
   go_loopw [9] (fun i wr=>ou w g l.length B l i wr) (fun i _=>l.length-(intOf i).toNat)
   case atStart=>exact uJ
   case round=>
    obtain⟨k,M,hk,rfl,o2,hm,L,yJ,yI⟩:=hrel;have G:=ah o2;have HM:=ah hm;have HF:=ah L;have I:=ah yI;have uB:=ah yJ;clear o2 hm L yI yJ;by_cases yU:k<l.length
    ·obtain⟨R,r,o,-,yH,a,S,yS⟩:=bh ek G yU;replace o:=aI o;subst o;have P:=ah a;have c5:=S 5 _ rfl;have uH:=S 10 _ rfl;have f5:=(yS 5 (by omega)).2;have uM:=(yS 10 (by omega)).2;have H:=HF.out r (cG a);have N:=ah H;have uL:=ah (sA r.A r.n r.c r.j.sh.al wr H.am.sh.st (by have:=H.am.sh.cf;omega) H.am.sh.cz);clear S yS a H;go_wp2_with fail;refine uL.out.mono ?_;rintro e D ⟨s,t,rfl,oa,ba⟩;have uN:=ah oa;have Y:=ah ba;have U:gB D w g l.length B M:=⟨G.1,G.2.ae ba⟩;have yW:=ah (eW ek U k 5 (by omega) P (x:={r with A:=s,n:=r.j.sh.al.length,c:=t}) (v:=.slice s r.j.sh.al.length t) rfl);obtain⟨R,r',o,-,yX,O,Z,X⟩:=bh ek U yU;replace o:=aI o;subst o;rw[P.out]at O;injection O with O;subst O;have d5:=Z 5 _ rfl;have uF:=Z 10 _ rfl;have e5:=(X 5 (by omega)).2;have uI:=(X 10 (by omega)).2;have yE:Hid (aU g wr (D.setCell ⟨g,k*20+5,none⟩ (.slice s r.j.sh.al.length t))):=(aU.aX ba).trans (aU.set _ _ _);have uG:=ah (vR r.F r.m r.d r.j.af _ (N _ yE).af (by have:=N.am.cf;omega) N.am.cz);clear oa ba U Z X c5 uH f5 uM;go_wp2_with fail;refine uG.out.mono ?_;rintro e E ⟨u,z,rfl,od,J,-⟩;have uK:=ah od;have yQ:=ah J;have V:gB E w g l.length B (M.set k {r with A:=s,n:=r.j.sh.al.length,c:=t}):=⟨yW.1,yW.2.ae J⟩;have uC:(M.set k {r with A:=s,n:=r.j.sh.al.length,c:=t})[k]?=some {r with A:=s,n:=r.j.sh.al.length,c:=t}:=fH (cA.1 P).1
     have uE:=ah (eW ek V k 10 (by omega) uC (x:={r with A:=s,n:=r.j.sh.al.length,c:=t,F:=u,m:=r.j.af.length,d:=z}) (v:=.slice u r.j.af.length z) rfl);obtain⟨R,r',o,-,yZ,Q,uD,yG⟩:=bh ek V yU;replace o:=aI o;subst o;rw[uC]at Q;injection Q with Q
     subst Q;have uF:=uD 10 _ rfl;have uI:=(yG 10 (by omega)).2;have W:Hid (aU g wr (E.setCell ⟨g,k*20+10,none⟩ (.slice u r.j.af.length z))):=(yE.ae J).trans (aU.set _ _ _);have yV:Hid (Bl w w (E.setCell ⟨g,k*20+10,none⟩ (.slice u r.j.af.length z))):=(((I.trans (Y.out.mono I.size)).setCell (p:=⟨g,k*20+5,none⟩) uA _).trans (yQ.out.mono (by rw[lT];exact cF I.size Y.size))).setCell (p:=⟨g,k*20+10,none⟩) uA _
     have yY:Hid (jk (E.setCell ⟨g,k*20+10,none⟩ (.slice u r.j.af.length z)) (g+1) {r with A:=s,n:=r.j.sh.al.length,c:=t,F:=u,m:=r.j.af.length,d:=z}):=by
      have a:=N.am;have s3:D.heap.size<=E:=by have:=yQ.size;simpa using this
      have uO:g<wr:=by omega
      have s1:=Y.size;refine⟨aS (bS uN (by simpa using s3) fun b h1 h2=> ?_) (by omega),aS (bS uK (by simp) fun b h1 h2=> ?_) (by simp;omega),?_,?_,a.nm,a.us,a.ac,a.nd⟩
      ·rw[dN _ _ _ _ (by show b≠g;omega),yQ.out.block b (by simpa using h2),dN _ _ _ _ (by show b≠g;omega)]
      ·have h3:D<=b:=by have:(D.setCell ⟨g,k*20+5,none⟩ (.slice s r.j.sh.al.length t)).heap.size<=b:=h1;simpa using this
       rw[dN _ _ _ _ (by show b≠g;omega)]
      ·have:=a.sh.st.cb;have:=a.sh.cf;show r.j.sh.al.length<=1000;omega
      ·have:=a.af.cb;have:=a.cf;show r.j.af.length<=1000;omega
     clear od J V uD yG d5 e5;go_wp2_with fail;refine⟨⟨k+1,_,by omega,by go_num,uE,?_,?_,?_,yV⟩,by simp[intOf];omega⟩
     ·rw[nN];exact(ro (r':={r with A:=s,n:=r.j.sh.al.length,c:=t,F:=u,m:=r.j.af.length,d:=z}) P rfl).trans HM
     ·intro y q;rw[nN]at q;rcases fP q with q|rfl
      ·exact(HF y q).only W
      ·exact mT.own yY (oS g)
     ·intro i y hi q;rw[nN,lX]at q;split at q
      ·split at q
       ·cases q;exact yY
       ·cases q
      ·exact(uB i y (by omega) q).hi W.size fun b h1 h2=>W.same b h2 (by omega)
    ·obtain rfl:k=l.length:=by omega
     go_wp2;go_ret
     exact⟨_,B,M,by rw[dB];rfl,⟨by rw[dB];exact G,fun R e r a=>by
      replace e:=aI e;subst e;obtain⟨i,hi⟩:=dE.1 a;exact uB i r (by have:=(cA.1 hi).1;have:=G.1;omega) hi⟩,HM,I⟩
theorem wu(A:OA)(n c:Nat)(l:List Jr)(w:Wd)(h:pO w A n l)(hn:n<=1000000)(hA:A=none->c=0):
 Cs prog 288 #[.slice A n c] w (Qz (l.map Jr.j) w):=D8 _ (.inl rfl) A n c l w h hn hA
theorem Il(A:OA)(n c:Nat)(l:List Jr)(w:Wd)(h:pO w A n l)(hn:n<=1000000)(hA:A=none->c=0):
 Cs prog 290 #[.slice A n c] w (Qz (l.map Jr.j) w):=D8 _ (.inr rfl) A n c l w h hn hA
set_option maxRecDepth 512
open Go.Shelf
theorem LS{row:String}{args:Array Vl}{R:Vl->Wd->Prop}(h:Rows P row args w R):RowsIn Fence.wide n P row args w R:=fun c cs _=>
 let⟨v,w',r,s⟩:=h c cs
 ⟨v,w',r,stepsIn_wide.2 s⟩
theorem Pf{l:Nat}{K:Act->Wd->Prop}(b:∀c,o.op≠.defer c)(h:o.wp P a w K Q):o.wpIn (Fence.wide.inRound l) n P a w K Q:=by
 refine⟨fun _ _=>trivial,?_⟩;rw[Oper.semAt_eq _ _ _ b];unfold Oper.wp at h;generalize(execOp a.eval o).run P w=r at*
 cases r with
 |ok x w'=>
  cases x
  case enter f args=>exact⟨fun e=>(by simp[Fence.wide]at e),lV.2 h⟩
  case row row args=>exact⟨fun e=>(by simp[Fence.wide]at e),LS h⟩
  all_goals first|exact h|exact h.elim
 |halt x w'=>cases x<;>exact h
def C5(o:Oper):Bool:=match o.op with
 | .defer _=>false
 |_=>true
theorem xc(h:C5 o=true):∀c,o.op≠.defer c:=fun c e=>by
 unfold C5 at h;rw[e]at h;cases h
theorem SV{l:Nat}{b:Array Oper}{K:Act->Wd->Prop}(f:b.toList.all C5=true)(d:¬LetsOut Q)(h:wpOp P b Q i K a w):wpOpIn (Fence.wide.inRound l) n P b Q i K a w:=by
 unfold wpOp at h;unfold wpOpIn
 cases ho:b[i]? with
 |none=>rw[ho]at h;exact h
 |some o=>
  rw[ho]at h;simp only at h⊢;have e:=xc (dC.1 f o (cG (by rw[iS];exact ho)));split at h
  ·next c=>
   rw[cK c];rcases h with h|⟨-,h⟩
   ·exact Pf e h
   ·exact absurd h d
  ·next c=>
   rw[cL c];exact⟨fun _ _=>trivial,h⟩
theorem FW{l:Nat}{d:Region.Mode}{b:Array Oper}(e:b.toList.all C5=true)(c:¬LetsOut Q):∀(fuel:Nat) (g:Array Bool) (a:Act) (w:Wd),wpAny P d b Q fuel g a w->wpAnyIn (Fence.wide.inRound l) n P d b Q fuel g a w
 |0,g,a,w,h=>h
 |fuel+1,g,a,w,h=>⟨h.1,fun i hi=>wpOpIn_mono (fun f w' j=>FW e c fuel _ f w' j) (SV e c (h.2 i hi))⟩
section
variable {P : Program} {ops : Array Oper} {Q : Exit -> Act -> World -> Prop} {R S : World -> Prop} {T : Array Bool} {H : List Nat} {m : Nat} {a : Act} {w : World}
theorem OX{l id:Nat}(R S:Wd->Prop)(T:Array Bool)(H:List Nat)(m:Nat)(li:List Nat)(e:P.follows .mixedOrders=true)(hs:(Region.noSelect ops&&(Region.ready .any ops (listed ops.size [])).isEmpty&&CU ops T H m li)=true)(f:ops.toList.all C5=true)(c:¬LetsOut Q)(hR:R w.drew)(d:S w.drew)(h:LQ P ops Q R S T H m li a w.drew):(Code.region id ops true).wpIn (Fence.wide.inRound l) n P Q a w:=by
 unfold CU at hs;simp only[cH,iC,List.isEmpty_iff]at hs;have b:=h.out hs.1.1 hs.1.2 hs.2.2 hR d;rw[we hs.2.1.2,hs.2.1.1]at b;exact wpIn_region_any e (FW f c _ _ _ _ (xk _ _ _ _ b))
end
def IW(F:Fence):Prop:=F=Fence.wide\/∃l,F=Fence.wide.inRound l
theorem JI{F:Fence}{K:Act->Wd->Prop}(d:IW F)(b:C5 o=true)(h:o.wp P a w K Q):o.wpIn F n P a w K Q:=by
 rcases d with rfl|⟨l,rfl⟩
 ·exact Pf (l:=0) (n:=n) (xc b) h|>fun h2=>⟨h2.1,by
   have c:=h2.2;rw[Oper.semAt_eq _ _ _ (xc b)]at c⊢;exact c⟩
 ·exact Pf (xc b) h
section
variable {P : Program} {F : Fence} {m : Nat} {ops : Array Oper} {rest : List Oper} {o : Oper} {a : Act} {w : World} {Q : Exit -> Act -> World -> Prop}
theorem TA(b:IW F)(e:o.guard=none)(d:C5 o=true)(h:∀K:Act->Wd->Prop,(∀a w,wpListIn F m P ops Q rest a w->K a w)->o.wp P a w K Q):wpListIn F m P ops Q (o::rest) a w:=
 wpListIn_plain e fun K c=>JI b d (h K c)
theorem JX(e:IW F)(k:o.guard=none)(b:Ti)(x:Operand)(c:o.op=.load b x)
 {t:Ti}{cs:Array Vl}(i:ai w g t cs)(hx:a.eval x=.pointer g){d:TypeDesc}
 (j:P.underlying b=some d)(l:d.isRow=true)(hi:(P.info? b).map (·.size)=some n)(hn:cs.size=n)
 (h:wpListIn F m P ops Q rest (a.put o.dst (.agg cs)) w):wpListIn F m P ops Q (o::rest) a w:=
 TA e k (by unfold C5;rw[c]) fun K f=>wp_load_row b x c g hx t cs (0,0) d i j (by cases d<;>simp_all) (by rw[hi,hn]) (f _ _ h)
theorem P6(d:IW F)(k:o.guard=none)(b:Ti)(x y:Operand)(c:o.op=.store b x y)
 {t:Ti}{old:Array Vl}(f:ai w g t old)(hx:a.eval x=.pointer g){cells:Array Vl}(i:a.eval y=.agg cells)
 (hi:(P.info? b).map (·.size)=some n)(hn:cells.size=n)(j:old.size=n)(h1:cells.toList.all (·.oneCell')=true)
 (h:wpListIn F m P ops Q rest (a.put o.dst undef) (w.setRow g cells)):wpListIn F m P ops Q (o::rest) a w:=
 TA d k (by unfold C5;rw[c]) fun K e=>wp_store_row b x y c g cells hx i t old f (by rw[hi,hn]) (by rw[j,hn]) (by simpa using h1) (e _ _ h)
end
theorem range_one{g:Operand}{ps:Array Tmp}{assign body:Code}{gf:Nat}{lb:Array Vl}(hg:a.eval g=.func (.func gf) #[] lb)(eg:∀args w,(callFunc gf args).run P w=.ok (.enter gf args) w)
 {α:Type}(enc:α->Array Vl)(M:∀x,(enc x).size=ps.size)(J:Nat->List α->Wd->Prop)(S:List α->Prop)(r:α->Wd->Prop)(m:Nat->Wd->Wd->Prop)
 (s:∀B pre X o o',J B pre X->X.heap[w.heap.size+1]?=some o->o.isCells=false->J B pre (X.putObj (w.heap.size+1) o'))(G:∀B pre X Y,J B pre X->Bl X.heap.size X Y->J B pre Y)
 (I:∀B X Y Z,m B X Y->m B Y Z->m B X Z)(H:∀B X o',m B X (X.putObj (w.heap.size+1) o'))
 (h0:∀W,Bl w.heap.size w W->w.heap.size+2<=W.heap.size->J W.heap.size [] W)
 (A:∀(l:Nat->List α->Wd->Prop) (W:Wd),Bl w.heap.size w W->W.heap.size=w.heap.size+2->(∀B pre X Y,l B pre X->Bl X.heap.size X Y->l B pre Y)->(∀X,Bl W.heap.size W X->l X.heap.size [] X)->
   (∀B pre x X,W.heap.size<=B->B<=X.heap.size->pre.length<=1000->l B pre X->r x X->YieldAt Fence.wide (n-1-1) P (w.heap.size+1) (enc x) X fun e Y=>e=.returned (.bool true)/\l B (pre++[x]) Y/\m B X Y)->
   CallsIn Fence.wide (n-1) P gf (#[.func (.yield (w.heap.size+1)) #[] #[]]++lb) W fun e W'=>(∃v,e=.returned v)/\∃B xs,S xs/\l B xs W')
 (f:∀B pre x X,w.heap.size+2<=B->B<=X.heap.size->pre.length<=1000->J B pre X->r x X->assign.wpIn (Fence.wide.inRound (w.heap.size+1)) (n-1-1) P
   (Exit.then (fun a₁ C=>C.heap[w.heap.size+1]?=X.heap[w.heap.size+1]?/\C.heap[w.heap.size]?=X.heap[w.heap.size]?/\∀o o' D,C.heap[w.heap.size+1]?=some o->o.isCells=false->D=C.putObj (w.heap.size+1) o'->
     body.wpIn (Fence.wide.inRound (w.heap.size+1)) (n-1-1) P (fun e a' Y=>e=.normal/\J B (pre++[x]) Y/\m B X Y/\Y.heap[w.heap.size+1]?=D.heap[w.heap.size+1]?/\Y.heap[w.heap.size]?=D.heap[w.heap.size]?) a₁ D) (fun _ _ _=>False))
   {tmps:=(ps.zip (enc x)).foldl (fun t (p,v)=>t.setIfInBounds p v) a.tmps,defers:=[]} X)
 (j:∀B xs W,S xs->J B xs W->W.heap[w.heap.size]?=some (.deferred (some []))->Q .normal {a with defers:={target:=.collected w.heap.size,args:= #[]}::a.defers} W):
 (Code.rangeFunc g ps assign body).wpIn Fence.wide n P Q a w:=by
 refine wpIn_rangeFunc ?_;intro fn K;obtain⟨k,c⟩:∃k:LoopState->Option Code->Loop,k=fun st pe=>{state:=st,pending:=pe,fn,tmps:=a.tmps,params:=ps,assign,body,defers:=w.heap.size}:=⟨_,rfl⟩;obtain⟨i,d⟩:=nm ((w.alloc (.deferred (some []))).alloc (.loop (k .ready none)));have b1:Bl w.heap.size w i:=d▸aC;have s1:i.heap.size=w.heap.size+2:=by rw[d];simp
 have l1:i.heap[w.heap.size+1]?=some (.loop (k .ready none)):=by
  rw[d];have:=World.alloc_heap_new (w.alloc (.deferred (some []))) (.loop (k .ready none))
  rwa [iT]at this
 have T:i.heap[w.heap.size]?=some (.deferred (some [])):=by
  rw[d];exact(Below.heap_alloc _ _ _ (by simp)).trans (World.alloc_heap_new w _)
 refine⟨w.heap.size+1,[{target:=.collected w.heap.size,args:= #[]}],i,{target:=.fn (.func gf) lb,args:= #[.func (.yield (w.heap.size+1)) #[] #[]]},i,gf,#[.func (.yield (w.heap.size+1)) #[] #[]]++lb,i,?_,?_,?_,?_,?_,?_⟩
 ·rw[d,c];exact run_enterLoop_outer _ _ _ _ _
 ·simp only[resolve,hg];simp[go_sem]
 ·intro f' hf';exact trivial
 ·simp[invoke,go_sem,eg]
 ·intro h;simp[Fence.wide]at h
 ·refine(A (fun B pre X=>J B pre X/\X.heap[w.heap.size+1]?=some (.loop (k .ready none))/\X.heap[w.heap.size]?=some (.deferred (some []))) i b1 s1 ?_ ?_ ?_).mono ?_
  ·rintro B pre X Y ⟨R,q,E⟩ b;exact⟨G B pre X Y R b,(b.block _ (fC.1 q).1).trans q,(b.block _ (fC.1 E).1).trans E⟩
  ·intro X b;exact⟨h0 X (aa b1 b) (by have:=b.size;omega),(b.block _ (fC.1 l1).1).trans l1,(b.block _ (fC.1 T).1).trans T⟩
  ·rintro B pre x X hB F u ⟨R,q,E⟩ y;have hlt:=(fC.1 q).1;have hy:=run_yield (P:=P) (args:=enc x) q (by rw[c];exact M x);rw[c]at hy;refine⟨fn,_,assign,body,hy,roundIn_of_wpIn K (wpIn_mono (f B pre x X (by omega) F u R y) ?_)⟩;intro e a1 X1 U;cases e
   case normal=>
    obtain⟨k1,k2,k3⟩:=U;have N:=k1.trans q;refine⟨_,run_beginRound N (by rw[c]),wpIn_mono (k3 _ _ _ N rfl rfl) ?_⟩;rintro e a3 Y ⟨rfl,L,hk,m1,m2⟩;have O:Y.heap[w.heap.size+1]?=some (.loop {k .ready none with state:=.busy}):=m1.trans (World.putObj_heap_same (fC.1 N).1);have d3:Y.heap[w.heap.size]?=some (.deferred (some [])):=m2.trans ((World.putObj_heap_other (by omega)).trans (k2.trans E));have z:=run_endRound (P:=P) none O;rw[c]at z;refine⟨_,_,z,rfl,⟨s _ _ _ _ _ L O rfl,?_,?_⟩,I _ _ _ _ hk (H _ _ _)⟩
    ·rw[c];exact World.putObj_heap_same (fC.1 O).1
    ·exact(World.putObj_heap_other (by omega)).trans d3
   all_goals exact U.elim
  ·rintro e W2 ⟨⟨v,rfl⟩,B,xs,hS,L,V,hd⟩;have z:=run_endLoop (P:=P) V (by rw[c];simp);rw[c]at z;exact⟨none,_,z,j B xs _ hS (s _ _ _ _ _ L V rfl) ((World.putObj_heap_other (by omega)).trans hd)⟩
abbrev RzZ:Array Vl:= #[(),false,.int .u64 0,.int .u64 0,()]
abbrev Sr.less(y:Sr)(i:Nat):Sr:={y with s:={y.s with bx:=y.s.bx.eraseIdx i},R:=⟨y.R.A,y.R.n-1,y.R.c⟩}
theorem ny{α:Type}{f:α->List Vl}{p:Nat}{X:Wd}{base:Nat}{l:List α}(h:w.heap.size<=X.heap.size)(on:∀c,c<w.heap.size->c≠g->c≠p->X.heap[c]?=w.heap[c]?)(m:be f k w base A n c l)(h1:0<c->A≠some ⟨g,0,none⟩)(h2:0<c->A≠some ⟨p,0,none⟩):be f k X base A n c l:=by
 refine⟨m.1,m.2.cb,m.2.le,m.2.max,fun a=> ?_,m.2.cz⟩;exact(m.2.ij h fun b d i=>on b i (fun e=>h1 a (by rw[d,e])) (fun e=>h2 a (by rw[d,e]))).room a
theorem Ax.less{X:Wd}{v b1 b2 b3 b4 P d:Nat}{x:Sr}{S:Sl}{o:Int}(h:Ax w v b1 b2 b3 b4 b5 P x S o)(C:eK x.N.A x.N.c b1)(hA:x.R.A=some ⟨d,0,none⟩)(hi:i<x.R.n)(k:w.heap.size<=X.heap.size)(on:∀c,c<w.heap.size->c≠d->c≠P->X.heap[c]?=w.heap[c]?)(j:r8 X b2 (some ⟨d,0,none⟩) (x.R.n-1) x.R.c (x.s.bx.eraseIdx i))(D:ai X P 256 (Ct (x.less i) S o)):
 Ax X v b1 b2 b3 b4 b5 P (x.less i) S o:=by
 have F:=h.u1;have G:=h.u2;have H:=h.u3;have I:=h.u4;have J:=h.u5;have K:=h.u6;have p:0<x.R.c:=by have:=h.bx.2.le;omega
 have O:d<b3:=h.hR p d hA
 have M:b2<=d:=by
  obtain⟨B,b,E,-⟩:=h.bx.2.room p;rw[hA]at b;replace b:=aI b;omega
 have up:∀{α:Type} {f:α->List Vl} {q base hi:Nat} {A:OA} {n c:Nat} {l:List α},be f q w base A n c l->d<base->eK A c hi->hi<=P->be f q X base A n c l:=fun m h1 h2 L=>ny k on m (fun a e=>by
  obtain⟨B,b,E,-⟩:=m.2.room a;rw[e]at b;replace b:=aI b;omega) (fun a e=>by have q:=h2 a _ e;omega)
 refine⟨D,ny k on h.ag (fun a e=>by have q:=C a _ e;omega) h.sf,ny k on h.aj (fun a e=>by have q:=h.hJ a _ e;omega) (fun a e=>by have q:=h.hJ a _ e;omega),?_,up h.aZ (by omega) h.hB (by omega),up h.bK (by omega) h.hL (by omega),fun r j W h1 h2=>h.nest r j W (cF k h1) fun c y t u z=>(h2 c y (cD t k) u z).trans (on c t (by omega) u),h.jr,h.sf,h.hJ,fun a g e=>h.hR p g e,h.hB,h.hL,F,G,H,I,J,K,h.fN,h.fJ,by show x.R.n-1<=1000;have:=h.fR;omega,h.fB,h.fL,fun r j=>h.kk r (List.mem_of_mem_eraseIdx j)⟩;show r8 X b2 x.R.A _ _ _;rw[hA];exact j
theorem aU.row{h:Nat}(w:World)(cs:Array Value):aU h w (w.setRow h cs):=⟨(aH (Below.refl h w) (Nat.le_refl _) cs).size,fun b a hn=>setRow_other w h cs b hn⟩
def MG(a b1 b2 b3 b4 b5 P i:Nat)(x:Sr)(S:Sl)(b:Int)(w:Wd)(e:Ed)(w':Wd):Prop:=∃r,x.s.bx[i]?=some r/\e=.returned (.agg (om r))/\Ax w' a b1 b2 b3 b4 b5 P (x.less i) S b/\Bl a w w'
set_option maxRecDepth 100000 in
theorem LO(f b1 b2 b3 b4 b5 P i:Nat)(x:Sr)(S:Sl)(d:Int)(w:Wd)(h:Ax w f b1 b2 b3 b4 b5 P x S d)(hN:eK x.N.A x.N.c b1)(hi:i<x.R.n):
 Cs prog 283 #[.pointer P,i] w (MG f b1 b2 b3 b4 b5 P i x S d w):=by
 obtain⟨a,r,o,yS,t,K,j,-⟩:=bh ju h.bx hi;have v1:=h.u1;have v2:=h.u2;have v3:=h.u3;have v4:=h.u4;have v5:=h.u5;have v6:=h.u6;have yR:0<x.R.c:=by have:=h.bx.2.le;omega
 have uB:a<b3:=h.hR yR a o;have yO:P<w:=h.ce.lt;obtain⟨V,I,b,C⟩:=az w RzZ 37;have O:=ah (h.ae b);have d0:=(b.cell (p:=⟨a,i*5+0,none⟩) t).trans (j 0 _ rfl);have d1:=(b.cell (p:=⟨a,i*5+1,none⟩) t).trans (j 1 _ rfl);have d2:=(b.cell (p:=⟨a,i*5+2,none⟩) t).trans (j 2 _ rfl);have d3:=(b.cell (p:=⟨a,i*5+3,none⟩) t).trans (j 3 _ rfl);have d4:=(b.cell (p:=⟨a,i*5+4,none⟩) t).trans (j 4 _ rfl)
 have x3:V.cell? ⟨P,3,none⟩=some (.slice a x.R.n x.R.c):=by
  have e:(Ct x S d)[3]?=some (.slice x.R.A x.R.n x.R.c):=rfl;rw[o]at e;exact(O.ce.cell 3).trans e
 obtain⟨U,H,m,L⟩:=az V (om r) 37;have Q:=ah (O.ae m);have y3:U.cell? ⟨P,3,none⟩=some (.slice a x.R.n x.R.c):=(m.cell (p:=⟨P,3,none⟩) (by have:=b.size;show P<V;omega)).trans x3;have yP:=h.fR;have Y:=ah (PE b2 a x.R.n x.R.c i x.s.bx U (by have:=Q.bx;rw[o]at this;exact this) hi yP yS);have D:=ah o;have Z:=ah K;have yZ:w.heap.size<V:=C.lt;have k:=ah b;have B:=ah m;have HZ:=ah (C.ae m C.lt);have G:=ah L;have i1:(i:Int)<(x.R.n:Int):=by omega
 simp only[fU]at d0;replace h:=ah h;clear K j b C m L o;go_in;go_wp2_with(first|(rw[<-I];clear I;go_step)|(rw[<-H];clear H;go_step));refine Y.out.mono ?_;rintro e l ⟨rfl,T,y,u⟩;have yV:P≠a:=by omega
 have yX:V.heap.size<U:=G.lt;have z:ai l P 256 (Ct x S d):=(u.same _ (by have:=k.size;omega) yV).trans Q.ce
 have z3:l.cell? ⟨P,3,none⟩=some (.slice a x.R.n x.R.c):=by
  have e:(Ct x S d)[3]?=some (.slice x.R.A x.R.n x.R.c):=rfl;rw[D.out]at e;exact(z.cell 3).trans e
 obtain⟨X,q⟩:=nm (l.setCell ⟨P,3,none⟩ (.slice a (x.R.n-1) x.R.c))
 have yU:Hid (ai X P 256 (Ct (x.less i) S d)):=by
  show ai _ _ _ _;rw[q];have:=z.set 3 (.slice a (x.R.n-1) x.R.c)
  have e:(Ct x S d).setIfInBounds 3 (.slice a (x.R.n-1) x.R.c)=Ct (x.less i) S d:=by
   show #[_,_,_,_,_,_,_,_,_,_]= #[_,_,_,_,_,_,_,_,_,_];rw[<-D.out]
  rwa [e]at this
 have v:aU P l X:=q▸aU.set _ _ _;have yY:Hid (ai X V 37 (om r)):=(v.same _ (by have:=y.size;omega) (by omega)).trans ((u.same _ yX (by omega)).trans G);have M:Hid (ai X w 37 RzZ):=(v.same _ (by have:=y.size;omega) (by omega)).trans ((u.same _ (by omega) (by omega)).trans HZ);have uA:=z.ao 3;have F:=ah v;have W:=ah u;have yW:=ah T;have yT:=ah y;have yQ:=ah q;clear z v u T y;go_wp2_with(first|(rw[<-q];clear q)|refine wA yY t37 rfl ?_|refine wB M sY rfl ?_);refine j6 (cs:=om r) rfl (ai.row M _) rfl underlying37 rfl sY rfl rfl ⟨r,Z,rfl,?_,?_⟩
 ·have o1:=B.out;have s1:=k.size;have s2:=B.size;have s3:=W.size;have s4:=F.size;have E:=aU.row (h:=w.heap.size) X (om r);have s5:=E.size;refine Ax.less h.out hN D hi (by omega) (fun c h1 h2 h3=> ?_) ?_ ?_
  ·exact(E.same c (by omega) (by omega)).trans ((F.same c (by omega) h3).trans ((W.same c (by omega) h2).trans ((B.block c (by omega)).trans (k.block c h1))))
  ·exact ed E (ed F yW (fun h0 g e=>by injection e with e;injection e with e;omega:eK a x.R.c b3) (by omega)) (fun h0 g e=>by injection e with e;injection e with e;omega:eK a x.R.c b3) (by omega)
  ·exact ai.gu yU (by omega) _
 ·have J:f<=w:=by have:=yO;omega
  have c1:Bl f w V:=k.out.mono J;have c2:Bl f w U:=c1.trans (B.out.mono (by have:=k.size;omega));have c3:Bl f w l:=c2.trans (yT.out.mono (by omega));refine aH (c3.trans ?_) J _;rw[yQ.out];exact bR.setCell (by show f<=P;omega) _
set_option maxRecDepth 100000
abbrev Sr.BK(y:Sr)(l:List Nd)(N:Sl):Sr:={y with s:={y.s with ag:=l},N:=N}
def SX(a b1 b2 b3 b4 b5 P:Nat)(x:Sr)(r:List Nd×List Nt×Int)(w:Wd)(e:Ed)(w':Wd):Prop:=∃N S,e=.returned (.tuple #[])/\Ax w' a b1 b2 b3 b4 b5 P (x.BK r.1 N) S 0/\xn w' w S.A S.n S.c r.2.1/\Bl a w w'
theorem Cg(k b1 b2 b3 b4 b5 P:Nat)(x:Sr)(s:Nat)(act:Int)(r:List Nd×List Nt×Int)(hr:ft x.s.ag s act 0 x.s.am=r)(w:Wd)(h:Ax w k b1 b2 b3 b4 b5 P x ⟨none,0,0⟩ 0)(hs:s<2^64)(X:r.2.2=0)(Y:r.1.length<=1000)(Z:r.2.1.length<=1000):
 Cs prog 200 #[.pointer (some ⟨P,0,none⟩),.int .u64 (s:Int),.int .i64 act] w (SX k b1 b2 b3 b4 b5 P x r w):=by
 have f:=ah h;have m:=ah h.ce;have x9:w.cell? ⟨P,9,none⟩=some (():Vl):=h.ce.cell 9
 have uH:=ah fun(W:Wd) (b:Bl w.heap.size w W)=>xS x.N.A x.N.n x.N.c x.s.ag s act 0 x.s.am W ((h.ae b).ag.et mb) (by have:=h.fN;unfold maxLen;omega) (fun e=>by
  rcases dX x.N.c with u|u
  ·exact u
  ·obtain⟨g',l,-⟩:=h.ag.2.room u;rw[e]at l;cases l) hs
 have V:=ah hr;have uD:=ah X;have HL:=ah Y;have U:=ah Z;clear h hr X Y Z;go_enter func200,ntmps200;go_wp2_with fail;have D:Bl w.heap.size w w.drew:=nT bR;refine bW (fun W=>Bl w.heap.size w W) (fun _=>True) #[] [12] 0 [0,1,2,3,4,5,6,7,8,9,10,11,12,13,14,15,16,17,18,19] (by kernel_rfl) (by kernel_rfl) D trivial ?_
 iterate 12
  refine lqe rfl (fun _ _ _ _ h=>h) ⟨?_,fun W G _=> ?_,?_⟩;rotate_left
  ·obtain⟨c0,c1,c2,o,c4,c5,c6,c7,c8,c9⟩:=I5 (m.out.ae G m.out.lt);go_simp
   try rfl
 refine el 199 #[.slice x.N.A x.N.n x.N.c,.int .u64 (s:Int),.int .i64 act,.int .i64 0,.int .i64 x.s.am] rfl rfl (some 27) rfl rfl rfl (by go_simp) ?_;refine(uH.out _ D).mono ?_;rintro e q ⟨A,c,B,d,rfl,R,L,yV⟩;rw[V.out]at R L;have I:=aa D yV;refine⟨_,rfl,I,trivial,?_⟩;rw[V.out,uD.out]
 iterate 7
  refine lqe rfl (fun _ _ _ _ h=>h) ⟨?_,fun W G _=> ?_,?_⟩;rotate_left
  ·obtain⟨c0,c1,c2,o,c4,c5,c6,c7,c8,c9⟩:=I5 (m.out.ae G m.out.lt);go_simp
   try rfl
 refine ew ?_;have yW:Hid (mK q w.heap.size A r.1.length c r.1):=R;have uB:Hid (xn q w.heap.size B r.2.1.length d r.2.1):=L;have S:=ah I;clear D I R L yV;simp only[Act.put,aE,aF,aG,cM,cJ,cI];have F:ai q P 256 (Ct x ⟨none,0,0⟩ 0):=m.out.ae S.out m.out.lt;obtain⟨t,o,i,J,K,M,-,-⟩:=dy EG (P:=prog) q q.heap.size 107 107 42 _ 32 underlying107 EX rfl none 0 0 [] (be.nil _ _ _ _) B r.2.1.length d r.2.1 (uB.out.et EG) (by have:=U.out;unfold maxLen;omega) (by have:=U.out;omega) lr;simp only[cR,dH]at J K;have yQ:=ah J;have yI:=ah K;have T:=ah M;have E:ai i P 256 (Ct x ⟨none,0,0⟩ 0):=F.ae M F.lt;have x8:q.cell? ⟨P,8,none⟩=some (.slice none 0 0):=F.cell 8;have y1:i.cell? ⟨P,1,none⟩=some x.N.v:=E.cell 1;have f1:=E.ao 1;obtain⟨j,C⟩:∃j,j=i.setCell ⟨P,1,none⟩ (.slice A r.1.length c):=⟨_,rfl⟩;have z:=E.set 1 (.slice A r.1.length c);rw[<-C]at z;have yX:aU P i j:=C▸aU.set _ _ _;have z8:j.cell? ⟨P,8,none⟩=some (.slice none 0 0):=z.cell 8;have f8:=z.ao 8;obtain⟨g,y⟩:∃g,g=j.setCell ⟨P,8,none⟩ (.slice t r.2.1.length o):=⟨_,rfl⟩;have Q:=z.set 8 (.slice t r.2.1.length o);rw[<-y]at Q;have yY:aU P j g:=y▸aU.set _ _ _;have yU:=m.out.lt;have s1:=S.out.size;have s2:=T.out.size;have yT:Hid (Bl w.heap.size w i):=aa S.out T.out;have O:Hid (aU P i g):=yX.trans yY;have yK:Hid (ai g P 256 (Ct (x.BK r.1 ⟨A,r.1.length,c⟩) ⟨t,r.2.1.length,o⟩ 0)):=Q
 have uE:Hid (mK g k A r.1.length c r.1):=by
  have v1:=f.out.u1;have v2:=f.out.u2;have v3:=f.out.u3;have v4:=f.out.u4;have v5:=f.out.u5;have v6:=f.out.u6;exact aS (aV O.out (yW.out.ae T.out) yU) (by omega)
 have yN:Hid (0<c->A≠some ⟨P,0,none⟩):=fun u e=>by
  obtain⟨g',l,H,-⟩:=yW.out.2.room u;rw[e]at l;injection l with l;injection l with l;omega
 have yZ:Hid (xn g w.heap.size t r.2.1.length o r.2.1):=aV O.out (aS yI.out s1) yU
 have yR:Hid (Bl k w g):=by
  have v1:=f.out.u1;have v2:=f.out.u2;have v3:=f.out.u3;have v4:=f.out.u4;have v5:=f.out.u5;have v6:=f.out.u6;have H:k<=P:=by omega
  have a1:Bl k w i:=yT.out.mono (by omega);have a2:Bl k i j:=C▸bR.setCell (p:=⟨P,1,none⟩) H _;have a3:Bl k j g:=y▸bR.setCell (p:=⟨P,8,none⟩) H _;exact(a1.trans a2).trans a3
 clear F E z Q yX yY J K M;go_wp2_with(first|(at_builtin;refine au rfl _ _ rfl rfl rfl yQ.out ?_)|(rw[<-C];clear C)|(rw[<-y];clear y))
 (try simp only[Exit.inBlock,Exit.then])
 refine cU (lE rfl _ _ _) rfl ?_;have a:=f.out.ae yT.out;obtain⟨-,oj,uF,uG,uC,uA⟩:=a.Pa O.out;exact⟨⟨A,r.1.length,c⟩,⟨t,r.2.1.length,o⟩,rfl,⟨yK.out,uE.out,oj,uF,uG,uC,uA,a.jr,yN.out,a.hJ,a.hR,a.hB,a.hL,a.u1,a.u2,a.u3,a.u4,a.u5,a.u6,HL.out,a.fJ,a.fR,a.fB,a.fL,a.kk⟩,yZ.out,yR.out⟩
def Ms(a b1 b2 b3 b4 b5 P i:Nat)(x:Sr)(r:Rz)(w:Wd)(e:Ed)(w':Wd):Prop:=∃N S,e=.returned (.tuple #[])/\Ax w' a b1 b2 b3 b4 b5 P ((x.less i).BK (bv x.s r).1 N) S 0/\xn w' w S.A S.n S.c (bv x.s r).2.1/\Bl a w w'
theorem AT{a b1 b2 b3 b4 P:Nat}{x:Sr}{r:Rz}{V:Wd}{e:Ed}(b:Bl a w V)(h:SX a b1 b2 b3 b4 b5 P (x.less i) (bv x.s r) V e w'):Ms a b1 b2 b3 b4 b5 P i x r w e w':=by
 obtain⟨N,S,c,h1,h2,d⟩:=h;exact⟨N,S,c,h1,aS h2 b.size,b.trans d⟩
theorem H5(a b1 b2 b3 b4 b5 P i:Nat)(x:Sr)(r:Rz)(w:Wd)(h:Ax w a b1 b2 b3 b4 b5 P x ⟨none,0,0⟩ 0)(C:eK x.N.A x.N.c b1)(hi:i<x.R.n)(t:x.s.bx[i]?=some r)(D:(bv x.s r).2.2=0)(E:(bv x.s r).1.length<=1000)(F:(bv x.s r).2.1.length<=1000):
 Cs prog 176 #[.pointer P,i] w (Ms a b1 b2 b3 b4 b5 P i x r w):=by
 have K:=ah (LO a b1 b2 b3 b4 b5 P i x ⟨none,0,0⟩ 0 w h C hi);have O:=(h.kk r (cG t)).1;have Q:a<=w:=by have:=h.u1;have:=h.u2;have:=h.u3;have:=h.u4;have:=h.u5;have:=h.u6;have:=h.ce.lt;omega
 have L:=ah t;have v:=ah D;have y:=ah E;have z:=ah F;clear h C hi t D E F;obtain⟨q,G⟩:∃q,r.gr=q:=⟨_,rfl⟩;have l:=ah G;go_in;go_wp2_with fail;refine K.out.mono ?_;rintro e W ⟨r',H,rfl,I,p⟩;rw[L.out]at H;cases H;have m:Hid (ai (W.alloc (.cells RzZ 37)) W 37 RzZ):=ai.new _ _ _;obtain⟨V,b⟩:=nm ((W.alloc (.cells RzZ 37)).setRow W (om r));have o:Bl W W V:=b▸aD;have g:ai V W 37 (om r):=b▸ai.row m _;have B:=ah (I.ae o);have u:Hid (Bl a w V):=p.trans (o.mono (cF Q p.size));have T:V.cell? ⟨W,1,none⟩=some (q:Vl):=by have:=g.cell 1;rw[<-l.out];exact this
 have U:V.cell? ⟨W,2,none⟩=some (.int .u64 (r.nd:Int)):=g.cell 2;have X:V.cell? ⟨W,3,none⟩=some (.int .u64 (r.sd:Int)):=g.cell 3;have J:=ah (jm r.nd r.sd);clear G o g I p;cases q
 ·have d:ft (x.less i).s.ag (eH r.nd r.sd) 6 0 (x.less i).s.am=bv x.s r:=by simp[bv,l.out]
  have j:=ah (Cg a b1 b2 b3 b4 b5 P (x.less i) (eH r.nd r.sd) 6 _ d V B (rf _ _) v y z);clear d;go_wp2_with(first|refine wB m sY rfl ?_|(rw[<-b];clear b)|rw[J.out]);refine j.out.mono ?_;rintro e M ⟨N,S,rfl,h1,h2,f⟩;have k:=ah (AT u ⟨N,S,rfl,h1,h2,f⟩);clear h1 h2 f;go_wp2_with fail
  (try simp only[Exit.inBlock,Exit.then])
  refine cU (lE rfl _ _ _) rfl ?_;exact k
 ·have d:ft (x.less i).s.ag r.nd 7 0 (x.less i).s.am=bv x.s r:=by simp[bv,l.out]
  have j:=ah (Cg a b1 b2 b3 b4 b5 P (x.less i) r.nd 7 _ d V B O v y z);clear d;go_wp2_with(first|refine wB m sY rfl ?_|(rw[<-b];clear b));refine j.out.mono ?_;rintro e M ⟨N,S,rfl,h1,h2,f⟩;have k:=ah (AT u ⟨N,S,rfl,h1,h2,f⟩);clear h1 h2 f;go_wp2_with fail
  (try simp only[Exit.inBlock,Exit.then])
  refine cU (lE rfl _ _ _) rfl ?_;exact k
theorem H8(n:Int)(w:Wd):Cs prog 173 #[n] w fun e w'=>e=.returned (By n:Bool)/\w=w':=by
 have a:Hid (By n=(decide (1<=n)&&decide (n<=99999))):=rfl;cases h1:decide (1<=n)
 all_goals
  rw[h1]at a;go_in;go_wp2;go_ret;exact⟨ar a.symm,rfl⟩
theorem erase_filter:∀(l:List Rz) (i:Nat) (r:Rz),l.Pairwise (fun a b=>a.jb<b.jb)->l[i]?=some r->l.eraseIdx i=l.filter (fun x=>x.jb !=r.jb)
 |[],i,r,_,h=>by simp at h
 |a::t,0,r,hp,h=>by
  simp only[nF,iI]at h;subst h;rw[dY]at hp;simp only[List.eraseIdx_cons_zero];rw[List.filter_cons];simp only[bne_self_eq_false,rQ,rO];exact(lQ.2 fun x hx=>by have:=hp.1 x hx;rw[oQ];omega).symm
 |a::t,i+1,r,hp,h=>by
  simp only[List.getElem?_cons_succ]at h;rw[dY]at hp;have:=hp.1 r (cG h);rw[List.eraseIdx_cons_succ,List.filter_cons,cK (by rw[oQ];omega),erase_filter t i r hp.2 h]
theorem SL(g:bt s):∀r∈s.bx,0<=r.jb/\r.jb<=100000/\By r.jb=true:=fun r b=>by
 obtain⟨j,a,c,-⟩:=g.bx r b;have h1:=no (g.aj.ok j a);rw[c]at h1;have h2:=gz.1 h1;exact⟨by omega,by omega,h1⟩
theorem lu(l:List Nd)(s:Nat)(act bD am:Int):(ft l s act bD am).2.1.length<=64:=by
 unfold ft;split
 ·simp
 ·split
  ·show(if qz act=true then _ else _:List Nt).length<=64;split
   ·refine cF (pn _ _) ?_;have:=tN s;simpa [dL]using this
   ·simp
  ·simp
theorem xv(g:bt s){r:Rz}(b:r∈s.bx):(bv s r).1.length<=1000/\(bv s r).2.1.length<=1000:=by
 have a:=(cQ.1 (ox g b).ag).cf;have h1:(bv s r).1.length<=48:=a;refine⟨by omega,?_⟩;unfold bv;split
 ·exact cF (lu _ _ _ _ _) (by omega)
 ·exact cF (lu _ _ _ _ _) (by omega)
def TC(x:Sr)(r:Rz)(w:Wd)(e:Ed)(w':Wd):Prop:=∃(z:Sr) (S:Sl),e=.returned (.tuple #[.agg (aY z),S.v,()])/\gV w w' z/\z.s=ow x.s r/\xn w' w S.A S.n S.c (bv x.s r).2.1/\Bl w w w'
theorem Dm(x:Sr)(id:Int)(r:Rz)(w:Wd)(h:db w x)(g:bt x.s)(M:qw x.s.bx id=some r):Cs prog 90 #[.agg (aY x),id] w (TC x r w):=by
 obtain⟨E,H⟩:=(gP g.iy).1 M;have G:=SL g;have u:=G r E;rw[H]at u;obtain⟨V,l⟩:=nm ((w.alloc (.cells (aY x) 28)).alloc (.cells dz 28));have C:Bl w w V:=l▸aC;have Q:ai V w 28 (aY x):=l▸(ai.new _ _ _).alloc _;have zV:ai V (w+1) 28 dz:=by rw[l];have:=ai.new (w.alloc (.cells (aY x) 28)) 28 dz;simpa using this
 have uG:=ah (H6 x V (h.ae C) g);have HB:=ah C;have HK:=ah Q;have A:=ah zV;have d:=ah g;have o:=ah E;have U:=ah H;have uH:=ah G;have Y:=ah u;have yT:=u.2.2;have yU:=ah fun W=>H8 id W;rw[yT]at yU;clear h g C Q zV E H G u M yT;go_in;go_wp2_with fail;rw[<-l];clear l;go_wp2_with(refine wA HK t28 rfl ?_);refine uG.out.mono ?_;rintro e T ⟨P,y,b0,b1,b2,b3,b4,b5,rfl,p,j,O,yV,D⟩;have HW:=ah j;have m:=ah p;have HU:=ah O;have z:=ah yV;have uK:=ah (aa HB D);have Z:=ah (A.ae D A.lt);have x9:T.cell? ⟨P,9,none⟩=some (():Vl):=j.ce.cell 9;have uD:=ah (Ia P y ⟨none,0,0⟩ 0 id T j.ce (j.bx.et ju) j.fR ⟨Y.1,Y.2.1⟩ (fun q c=>by rw[p]at c;have:=uH.out q c;exact⟨this.1,this.2.1⟩) (by rw[p];exact d.iy));clear j p O yV D;go_wp2_with fail;refine(yU _).mono ?_;rintro e w3 ⟨rfl,rfl⟩;go_wp2_with fail;refine uD.out.mono ?_;rintro e w4 ⟨i,f,rfl,v,hi,L⟩
 have uI:f=true/\y.s.bx[i]?=some r:=by
  rcases L with⟨rfl,q,c,he⟩|⟨rfl,hn⟩
  ·refine⟨rfl,?_⟩;rw[c,JO d.out.iy (a:=q) (b:=r) (by rw[<-m.out];exact cG c) o.out (by rw[he,U.out])]
  ·exact absurd U (hn r (by rw[m.out];exact o))
 obtain⟨rfl,c⟩:=uI;have K:=HW.ae v;have X:i<y.R.n:=by have:=K.bx.1;rw[<-this];exact(cA.1 c).1
 have k:bv y.s r=bv x.s r:=by rw[m.out]
 have uA:=ah (H5 b0 b1 b2 b3 b4 b5 P i y r w4 K HU X c (by rw[k];exact J9 d o) (by rw[k];exact(xv d o).1) (by rw[k];exact(xv d o).2));have HQ:=ah c;have uE:=ah k;have yZ:=ah (aa uK v);have yY:=ah (Z.ae v Z.lt);clear v hi L K X c k;go_wp2_with fail;refine uA.out.mono ?_;rintro e F ⟨N,S,rfl,J,yS,t⟩;have uM:=A.lt;have HD:=ah (LJ P ((y.less i).BK (bv y.s r).1 N) S F J.ce);have uF:=ah J;have uJ:=ah yS;have yX:Hid (ai F (w+1) 28 dz):=(t.block _ (by have:=z.out;omega)).trans yY;have uB:Hid (Bl w w F):=yZ.trans (t.mono (by have:=z.out;omega));have uL:=t.size;clear J yS t;go_wp2_with fail;refine av HD fun w6 B=> ?_;have yW:=ah (yX.ae B yX.lt);have I:=ah B;clear B;go_wp2_with(refine wB yW aT rfl ?_);refine fV (cs:=aY ((y.less i).BK (bv y.s r).1 N)) rfl (ai.row yW _) rfl rfl rfl underlying28 rfl aT rfl rfl ?_;have uC:=yY.lt;have on:=aU.row (h:=w.heap.size+1) w6 (aY ((y.less i).BK (bv y.s r).1 N));refine⟨_,S,rfl,?_,?_,?_,aH (aa uB I) (by omega) _⟩
 ·intro W h1 h2;exact((uF.Tw.ae I).on on (by have:=z.out;omega)) W h1 fun b hb hl=>h2 b (by have:=z.out;omega) hl
 ·show({y.s with bx:=y.s.bx.eraseIdx i,ag:=(bv y.s r).1}:St)=_;rw[erase_filter y.s.bx i r (by rw[m.out];exact d.iy) HQ.out,m.out];rfl
 ·rw[<-uE.out];exact aS (aV on (uJ.ae I) uC) (by have:=yZ.size;omega)
end Go.Proofs.YthfhilggbbobmaaGreatDoor
