/- Parts of the proof. -/
import Derived.Test.YthfhilggbbobmaaGreatDoorK23
import Derived.Test.YthfhilggbbobmaaGreatDoorK25
import Derived.Deep.DeepCutAuto
import Derived.Test.YthfhilggbbobmaaGreatDoorK24
import Derived.Test.YthfhilggbbobmaaGreatDoorK22
import Derived.Test.YthfhilggbbobmaaGreatDoorK11
import Derived.Test.YthfhilggbbobmaaGreatDoorK1
import Derived.Test.YthfhilggbbobmaaGreatDoorK20
import Derived.Test.YthfhilggbbobmaaGreatDoorK2
import Derived.Test.YthfhilggbbobmaaGreatDoorK3
set_option linter.all false
set_option maxHeartbeats 20000000
namespace Go.Proofs.YthfhilggbbobmaaGreatDoor
set_option maxRecDepth 100000
open Go.Proofs.Tryz
open Go renaming World->Wd,Ending->Ed,Calls->Cs
open Go.RowKit renaming Below->Bl
open Go.RowKit
def ME(o:Option Jb)(w:Wd)(e:Ed)(w':Wd):Prop:=∃r,e=.returned (.tuple #[.agg (bk r),o.isSome])/\eF w' r/\Bl w w w'/\(∀j,o=some j->r.j=j)/\(o=none->r.j=zJ)/\jk w' w r
variable{l:List Jr}{i:Nat}{r:Jr}
theorem Rm{id:Int}(a:gC (l.map Jr.j)=true)(hi:By id=true)(c:l[i]?=some r)(b:r.j.id=id):eh (l.map Jr.j) id=some r.j:=by
 subst b;exact m5 (ds.1 a) (cS.2 ⟨r,cG c,rfl⟩)
theorem Og{id:Int}(h:∀r∈l,r.j.id≠id):eh (l.map Jr.j) id=none:=by
 unfold eh;split
 ·rw[iX];intro j a;obtain⟨r,b,rfl⟩:=cS.1 a;simpa using h r b
 ·rfl
theorem pc(c:gC (l.map Jr.j)=true):(∀r∈l,0<=r.j.id/\r.j.id<=100000)/\l.Pairwise (fun a b=>a.j.id<b.j.id):=by
 have ok:=ds.1 c;refine⟨fun r d=> ?_,?_⟩
 ·have:=gz.1 (no (ok.ok r.j (cS.2 ⟨r,d,rfl⟩)));omega
 ·have:=ok.up
  rwa [iJ]at this
variable{w:Wd}{b n:Nat}
theorem UD{off:Nat}(h:pO w (some ⟨b,off,none⟩) n l)(a:l[i]?=some r):pO w (some ⟨b,off+i*20,none⟩) 1 [r]:=by
 have hi:=(cA.1 a).1;have c:=h.rows.cb;have h1:=(h.rows.drop i (by omega)).pre 1 (by omega)
 have e:(l.drop i).take 1=[r]:=by
  obtain⟨_,rfl⟩:=cA.1 a;rw[dR hi];rfl
 rw[e]at h1
 exact⟨h1,fun x hx=>by
  rw[lD]at hx;subst hx;exact h.eZ x (cG a)⟩
theorem m4(A:OA)(n c:Nat)(l:List Jr)(id:Int)(w:Wd)(h:pO w A n l)(hn:n<=1000000)(yU:n<=c):
 Cs prog 146 #[.slice A n c,id] w (ME (eh (l.map Jr.j) id) w):=by
 have yG:=h.rows.cb;subst yG;obtain⟨V,o,B,P⟩:=az w cP 51;have y:=ah B;have m:=ah P;have z:=ah h;have q:=ah (gp A l.length c l V (h.ae B) (by simp[maxLen];omega));have x:=ah fun W=>Ld id W;clear h B P;cases d:gC (l.map Jr.j)
 ·have e0:gd (l.map Jr.j)=140:=by simp[gd,d]
  have a:Hid (eh (l.map Jr.j) id=none):=by show _=_;simp[eh,d]
  rw[e0]at q;rw[a.out];clear d e0 a;go_in;go_wp2_with fail;rw[<-o];clear o;refine av q fun H b1=> ?_;have s:=m.ae b1 m.lt;go_wp2_with(refine wB s aK rfl ?_);refine eC (cs:=cP) rfl (ai.row s _) rfl rfl underlying51 rfl aK rfl rfl ⟨zR,rfl,(FY _ 0).mE,?_,fun j h=>(by cases h),fun _=>rfl,FY _ _⟩;exact aH (aa y b1) lr _
 have e0:gd (l.map Jr.j)=0:=by simp[gd,d]
 rw[e0]at q;cases hi:By id
 ·have a:Hid (eh (l.map Jr.j) id=none):=by show _=_;simp[eh,hi]
  rw[hi]at x;rw[a.out];clear d e0 a hi;go_in;go_wp2_with fail;rw[<-o];clear o;refine av q fun H b1=> ?_;have s:=m.ae b1 m.lt;go_wp2_with fail;refine(x _).mono ?_;rintro e w2 ⟨rfl,rfl⟩;go_wp2_with(refine wB s aK rfl ?_);refine eC (cs:=cP) rfl (ai.row s _) rfl rfl underlying51 rfl aK rfl rfl ⟨zR,rfl,(FY _ 0).mE,?_,fun j h=>(by cases h),fun _=>rfl,FY _ _⟩;exact aH (aa y b1) lr _
 rw[hi]at x;obtain⟨E,F⟩:=pc d;have T:=gz.1 hi;have yQ:=ah fun(W:Wd) (U:Bl w w W)=>qs A l.length c l id W (z.ae U) hn (by omega) E F;have yP:=ah fun(i:Nat) (r:Jr)=>Rm (l:=l) (id:=id) (i:=i) (r:=r) d hi;have yH:=ah (Og (l:=l) (id:=id));clear E F T d hi e0;go_in;go_wp2_with fail;rw[<-o];clear o;refine av q fun H b1=> ?_;have O:=ah (aa y b1);have M:=ah (m.ae b1 m.lt);clear b1;go_wp2_with fail;refine(x _).mono ?_;rintro e w2 ⟨rfl,rfl⟩;go_wp2_with fail;refine(yQ _ O).mono ?_;rintro e w3 ⟨i,f,rfl,b3,yT,yD⟩;have u:=ah (aa O b3);have p:=ah (M.ae b3 M.lt);clear b3;rcases yD with⟨rfl,r,t,X⟩|⟨rfl,N⟩
 ·have a:=ah (yP i r t X);have yR:=(cA.1 t).1;obtain⟨b,off,_,rfl,-⟩:=ir z yR;have S:=ah (vE (some ⟨b,off+i*20,none⟩) 1 1 [r] w3 (UD (z.ae u) t) (by omega) (by omega) (by simp));have hw:IntKind.i64.wrap ((i:Int)+1)=(i:Int)+1:=lS _ (by omega);clear t;go_wp2_with fail;refine S.out.mono ?_;rintro e I ⟨A2,c2,l2,rfl,D,C,b4⟩
  obtain⟨k,rfl⟩:∃k,l2=[k]:=by
   have:=cO List.length C;simp at this;exact List.length_eq_one_iff.1 this
  have G:k.j=r.j:=by simpa using C
  obtain⟨g,r3,rfl,-,-,J,d,-⟩:=bh ek D.rows (i:=0) (by simp);simp only[nF,iI]at J;subst J;have R:Hid (I.rangeAt g 0 (bk k).toList):=fun j v Z=>by have:=d j v Z;simpa using this
  have yO:=ah D;have Q:=ah G;have L:=ah (p.ae b4 p.lt);have yS:=ah (aa u b4);clear d D C G b4;go_wp2_with(first|refine wC R t51 rfl ?_|refine wB L aK rfl ?_);refine eC (cs:=bk k) rfl (ai.row L _) rfl rfl underlying51 rfl aK rfl rfl ⟨k,by rw[a.out];rfl,?_,aH yS lr _,fun j h=>(by rw[a.out]at h;cases h;exact Q),fun h=>(by rw[a.out]at h;cases h),?_⟩
  all_goals
   obtain⟨g',-,yV,Y⟩:=yO.at_ (lD.2 rfl:k∈[k]);have K:=Y.hi (w':=I.setRow w (bk k)) (by rw[fE];exact cB _) fun b h1 h2=>f9 _ _ _ _ (by have:=p.lt;omega)
   first|exact K.mE|exact K.mono (by have:=u.size;omega)
 ·have a:=ah (yH N);clear N;go_wp2_with(refine wB p aK rfl ?_);refine eC (cs:=cP) rfl (ai.row p _) rfl rfl underlying51 rfl aK rfl rfl ⟨zR,by rw[a.out];rfl,(FY _ 0).mE,?_,fun j h=>(by rw[a.out]at h;cases h),fun _=>rfl,FY _ _⟩;exact aH u lr _
def oi(l:List Jb)(a:Int)(w:Wd)(e:Ed)(w':Wd):Prop:=∃A n c b,e=.returned (.tuple #[.slice A n c,a])/\vG w' w A n c b/\Bl w w w'/\(a=0->b.map Jr.j=l)
variable{w':Wd}
theorem sX{l:List Jb}{a:Int}(h:a≠0)(b:Bl w w w'):oi l a w (.returned (.tuple #[.slice none 0 0,a])) w':=⟨none,0,0,[],rfl,⟨be.nil _ _ _ _,fun g e=>by cases e⟩,b,fun e=>absurd e h⟩
variable{c:Nat}
theorem Fk{l:List Jb}{A:OA}{a:List Jr}(h:vG w' w A n c a)(b:Bl w w w')(e:a.map Jr.j=l):oi l 0 w (.returned (.tuple #[.slice A n c,()])) w':=⟨A,n,c,a,rfl,h,b,fun _=>e⟩
theorem xf{r0:Jr}(e:l.Pairwise (fun a b=>a.j.id<b.j.id))(g:l[i]?=some r0)(d:r0.j.id=r.j.id):(l.set i r).map Jr.j=gv (l.map Jr.j) r.j:=by
 obtain⟨hi,rfl⟩:=cA.1 g;apply nY;intro k;unfold gv;rw[nO,dD,dD,lX];by_cases c:i=k
 ·subst c;simp[hi,d]
 ·rw[cL c]
  cases hx:l[k]? with
  |none=>rfl
  |some y=>
   obtain⟨f,rfl⟩:=cA.1 hx
   have:l[k].j.id≠r.j.id:=by
    rw[<-d];rcases Nat.lt_or_gt_of_ne c with h|h
    ·have:=cN.1 e i k hi f h;omega
    ·have:=cN.1 e k i f hi h;omega
   simp[this]
theorem Nh{id:Int}:((l.map Jr.j).any fun x=>x.id==id)=true↔∃r∈l,r.j.id=id:=by
 simp[List.any_map]
theorem ub(A:OA)(n c:Nat)(l:List Jr)(r:Jr)(w:Wd)(h:pO w A n l)(H:eF w r)(hn:n<=1000000)(yX:n<=c)(hA:A=none->c=0):
 Cs prog 181 #[.slice A n c,.agg (bk r)] w (oi (gv (l.map Jr.j) r.j) (sW (l.map Jr.j) r.j) w):=by
 have yI:=h.rows.cb;subst yI;obtain⟨V,b⟩:=nm (w.alloc (.cells (bk r) 51));have D:Bl w w V:=by rw[b];exact aA
 have R:ai V w 51 (bk r):=by rw[b];exact ai.new _ _ _
 have p:=ah D;have q:=ah R;have z:=ah h;have yZ:=ah H;have o:=ah (gp A l.length c l V (h.ae D) (by simp[maxLen];omega));have u:=ah fun(W:Wd) (F:Bl w w W)=>je r W (H.ae F);clear h H D R;cases hc:gC (l.map Jr.j)
 ·have e0:gd (l.map Jr.j)=140:=by simp[gd,hc]
  have d:Hid (sW (l.map Jr.j) r.j=140):=by show _=_;simp[sW,hc]
  rw[e0]at o;rw[d.out];clear hc e0;go_in;go_wp2_with fail;rw[<-b];clear b;refine o.out.mono ?_;rintro e T ⟨rfl,b1⟩;go_wp2;go_ret2;exact sX (by decide) (aa p b1)
 have e0:gd (l.map Jr.j)=0:=by simp[gd,hc]
 rw[e0]at o;cases a:fg r.j
 ·have k:F5 r.j=140:=by simp[F5,a]
  have d:Hid (sW (l.map Jr.j) r.j=140):=by show _=_;simp[sW,hc,a]
  rw[k]at u;rw[d.out];clear hc e0 k a;go_in;go_wp2_with fail;rw[<-b];clear b;refine o.out.mono ?_;rintro e T ⟨rfl,b1⟩;have k1:=q.ae b1 q.lt;go_wp2_with(refine wA k1 t51 rfl ?_);refine(u _ (aa p b1)).mono ?_;rintro e w2 ⟨rfl,b2⟩;go_wp2;go_ret2;exact sX (by decide) (aa (aa p b1) b2)
 have k:F5 r.j=0:=by simp[F5,a]
 rw[k]at u;obtain⟨O,E⟩:=pc hc;have f3:=gz.1 (no a);have uB:=ah fun(W:Wd) (F:Bl w w W)=>qs A l.length c l r.j.id W (z.ae F) hn (by omega) O E;have yJ:=ah fun(i:Nat) (r0:Jr)=>xf (r:=r) (i:=i) (r0:=r0) E;have d:Hid (sW (l.map Jr.j) r.j=if(l.map Jr.j).any (fun x=>x.id==r.j.id)then 0 else 140):=by show _=_;simp[sW,hc,a]
 clear O E f3 hc a e0 k;go_in;go_wp2_with fail;rw[<-b];clear b;refine o.out.mono ?_;rintro e T ⟨rfl,b1⟩;have yR:=ah (aa p b1);have L:=ah (q.ae b1 q.lt);clear b1;go_wp2_with(refine wA L t51 rfl ?_);refine(u _ yR).mono ?_;rintro e w2 ⟨rfl,b2⟩;have yT:=ah (aa yR b2);have K:=ah (L.ae b2 L.lt);have Y:=K.cell 0;simp at Y;clear b2;go_wp2_with fail;refine(uB _ yT).mono ?_;rintro e U ⟨i,f,rfl,b3,uG,yD⟩;have t:=ah (aa yT b3);have yS:=ah (K.ae b3 K.lt);clear b3 Y;rcases yD with⟨rfl,r0,v,G⟩|⟨rfl,yQ⟩
 ·have B:Hid (sW (l.map Jr.j) r.j=0):=by show _=_;rw[d.out,cK (Nh.2 ⟨r0,cG v,G⟩)]
  have HL:=ah (yJ i r0 v G);have yP:=(cA.1 v).1;have uD:=ah (ED A l.length c l U (z.rows.ae t) hn yX hA);clear v G;go_wp2_with fail;refine uD.out.mono ?_;rintro e X ⟨A4,N,rfl,I,b4⟩;obtain⟨g,x,rfl,hg,uA,hx,-,Z⟩:=bh ek I yP;have yM:=ah I;have uF:=ah (aa t b4);have yW:=ah (yS.ae b4 yS.lt);have HT:Hid (X.there g (i*20) 20):=fun j a=>Z j a;have uE:=ah b4;clear I b4 Z hx;have yY:w<=g:=cF t.size hg;obtain⟨C,s⟩:=nm (X.setCells g (i*20) (bk r).toList);have b5:Bl w w C:=by rw[s];exact bP uF yY _ _
  have S:gB C U g l.length N (l.set i r):=by rw[s];exact i0 ek yM i yP r
  have Q:pO C g l.length (l.set i r):=⟨S.et ek,fun y m=>by
   rcases fP m with m|rfl
   ·exact(z.eZ y m).ae b5
   ·exact yZ.ae b5⟩
  have yN:=ah b5;have uC:=ah (vE g l.length N (l.set i r) _ Q hn yM.2.le (fun e=>by cases e));clear b5 S Q;go_wp2_with(first|refine wA yW t51 rfl ?_|(refine rZ rfl _ _ _ rfl rfl rfl HT aK rfl rfl ?_;rw[<-s];clear s));refine uC.out.mono ?_;rintro e w6 ⟨A6,c6,l6,rfl,J,P,M⟩;have yO:((l.set i r).map Jr.j).length=l.length:=by simp
  rw[yO]at J⊢;have yU:=ah (J.mono yN.size);have yV:=ah (aa yN M);have HM:=ah (P.trans HL);clear yO J M P;go_wp2;go_ret2;rw[B.out];exact Fk yU yV HM
 ·have B:Hid (sW (l.map Jr.j) r.j=140):=by
   show _=_;rw[d.out,cL];intro h;obtain⟨y,m,e⟩:=Nh.1 h;exact yQ y m e
  clear yQ;go_wp2;go_ret2;rw[B.out];exact sX (by decide) t
open Go renaming Value->Vl
variable{base a:Nat}
theorem mg{wr:Wd}{d:OA}{h:Nat}{l:List Int}(o:df wr base d a h l)(x:Int)(hn:a<=1000000)(i:base<=wr):
 ∃e f b,(Builtin.append_ #[171,171] 171 #[.slice d a h,.slice (some ⟨wr.heap.size,0,none⟩) 1 1]).run prog (wr.alloc (.cells #[.int .i64 x] 3))=.ok (.slice e (a+1) f) b/\df b base e (a+1) f (l++[x])/\Bl base wr b/\∀g,g<wr.heap.size->d≠some ⟨g,0,none⟩->b.heap[g]?=wr.heap[g]?:=by
 have c:Bl wr wr (wr.alloc (.cells #[x] 3)):=aA;obtain⟨e,f,b,n,m,b3,k,_⟩:=dy gi (P:=prog) (wr.alloc (.cells #[x] 3)) base 171 171 3 _ 8 underlying171 pf rfl d a h _ (o.ae c) wr 1 1 [x] (cp.new gi wr x #[x] 3 rfl) (by simp only[maxLen];omega) (by omega) (cF i c.size);exact⟨e,f,b,n,m,(c.mono i).trans b3,fun g j p=>(k g (cD j c.size) p).trans (c.block g j)⟩
theorem mr(w:Wd):(zeroValue 3).run prog w=.ok () w:=by kernel_rfl
def pI(w:Wd)(b n:Nat):Prop:=∃m,eX prog 3 w b n m/\∀x v,m x=some v->∃i:Int,v=.int .i64 i
theorem pI.ae(h:pI w b n)(a:Bl w w w'):pI w' b n:=by obtain⟨m,h1,h2⟩:=h;exact⟨m,h1.ae a,h2⟩
theorem pI.ij(h:pI w b n)(a:w'.heap[b]?=w.heap[b]?):pI w' b n:=by obtain⟨m,h1,h2⟩:=h;exact⟨m,h1.ij a,h2⟩
theorem pI.lt(h:pI w b n):b<w:=by obtain⟨m,h1,-⟩:=h;exact h1.lt
theorem pI.update(h:pI w b n)(hn:n<1000000){i:Int}(hi:0<=i/\i<=100000)(s:Int):
 ∃w',(Instr.mapUpdate 264 (.map (some b)) i s).run prog w=.ok () w'/\pI w' b (n+1)/\aU b w w'/\Bl b w w':=by
 obtain⟨m,h1,h2⟩:=h;obtain⟨w',c,d,e,f⟩:=h1.update (i:=i) underlying3 underlying264 (by unfold maxLen;omega) (by omega) s;refine⟨w',c,⟨_,d,fun x v a=> ?_⟩,e,f⟩;unfold zF at a;split at a
 ·cases a;exact⟨s,rfl⟩
 ·exact h2 x v a
theorem pI.look(h:pI w b n){i:Int}(hi:0<=i/\i<=100000):∃(s:Int) (f:Bool),(Instr.lookup 264 (.map (some b)) i true).run prog w=.ok (.tuple #[s,f]) w:=by
 obtain⟨m,h1,h2⟩:=h;have:=h1.look_ok underlying3 underlying264 (mr w) (i:=i) (by omega)
 cases hm:m i with
 |none=>exact⟨0,false,by rw[this,hm];rfl⟩
 |some v=>
  obtain⟨s,rfl⟩:=h2 i v hm;exact⟨s,true,by rw[this,hm];rfl⟩
def TR(l:List Jr)(w:Wd)(e:Ed)(w':Wd):Prop:=(gC (l.map Jr.j)=false/\e=.returned (.map none)/\Bl w w w')\/(gC (l.map Jr.j)=true/\∃b,e=.returned (.map (some b))/\w<=b/\pI w' b 40/\Bl w w w')
def OfRel(w:Wd)(b:Nat)(l:List Jr)(i:Vl)(wr:Wd):Prop:=∃k:Nat,k<=l.length/\i=.int .i64 k/\pI wr b k/\Bl w w wr
theorem JE(A:OA)(n c:Nat)(l:List Jr)(w:Wd)(h:pO w A n l)(hn:n<=maxLen):Cs prog 178 #[.slice A n c] w (TR l w):=by
 have L:=h.rows.cb;subst L;have e:=ah (gp A l.length c l w h hn);have F:=ah h;have Y:= @sH prog;clear h;cases hc:gC (l.map Jr.j)
 ·have e0:gd (l.map Jr.j)=140:=by simp[gd,hc]
  rw[e0]at e;have f:=ah hc;clear hc e0;go_in;go_wp2_with fail;refine av e fun a b1=> ?_;go_wp2;go_ret;exact .inl ⟨f,rfl,b1⟩
 have e0:gd (l.map Jr.j)=0:=by simp[gd,hc]
 rw[e0]at e;have K:l.length<=40:=by have:=(ds.1 hc).cf;simpa using this
 have N:=ah (pc hc).1;have f:=ah hc;clear hc e0;go_in;go_wp2_with fail;refine av e fun a b1=> ?_;have G:Hid (pI (a.alloc (.map #[] 0)) a 0):=⟨_,eX.made _ _ _,fun x v h=>by cases h⟩;have E:=ah (aa b1 ((cC a a).alloc lr (.map #[] 0)));have D:w.heap.size<=a:=b1.size;clear b1;go_wp2
 go_loopw [12] (fun i wr=>OfRel w a l i wr) (fun i _=>l.length-(intOf i).toNat)
 case atStart=>exact⟨0,by omega,rfl,G,E⟩
 case round=>
  obtain⟨k,U,rfl,t,B⟩:=hrel;have C:=ah t;have q:=ah B;clear t B;by_cases Q:k<l.length
  ·obtain⟨b,off,s,rfl,T,hs,O,o⟩:=ir (F.ae q) Q;have H:=ah o;have X:=ah (World.rangeAt_alloc o (.cells cP 51));have r:Hid (ai (wr.alloc (.cells cP 51)) wr 51 cP):=ai.new _ _ _;obtain⟨V,d⟩:=nm ((wr.alloc (.cells cP 51)).setRow wr (bk s));have g:Bl wr wr V:=d▸aD;have p:ai V wr 51 (bk s):=d▸ai.row r _;have J:=p.cell 0;have R:=p.cell 11;simp at J R;obtain⟨W,u,y,I,z⟩:=(C.ae g).update (by omega) (N s (cG hs)) s.j.st;have M:=ah u;have P:=ah y;have S:=ah ((aa q g).trans (z.mono D));clear o hs O p g u y I z;go_wp2_with(first|(rw[<-d];clear d;go_step)|refine wC H t51 rfl ?_|(refine wB r aK rfl ?_)|(at_mapUpdate;refine kj rfl _ _ _ _ rfl rfl rfl rfl M ?_));exact⟨⟨k+1,by omega,by go_num,P,S⟩,by simp[intOf];omega⟩
  ·obtain rfl:k=l.length:=by omega
   go_wp2;go_ret;refine .inr ⟨f,_,rfl,D,?_,q⟩;obtain⟨m,m1,m2⟩:=C;exact⟨m,m1.mono K,m2⟩
theorem zN(b n:Nat)(d:Dp)(w:Wd)(h:pI w b n)(hi:0<=d.bD/\d.bD<=100000):Cs prog 284 #[.map (some b),.agg (UW d)] w (wV w):=by
 have a:Bl w w (w.alloc (.cells (UW d) 142)):=aA;obtain⟨s,f,g⟩:=(h.ae a).look hi;have c:=ah a;clear h a;cases f
 case' true=>cases hs:decide (s<3)
 case' true.false=>cases h1:(d.uz==1)
 case' true.false.false=>cases h2:(d.uz==2)<;>cases h3:(s==3)<;>cases h4:(d.uz==3)
 all_goals
  try have e:(s !=3)= !(s==3):=rfl
  try rw[h3]at e
  go_in;go_wp2;go_ret;exact⟨_,rfl,c⟩
def Qk(l:List Dp)(w:Wd)(e:Ed)(w':Wd):Prop:=∃b:Bool,e=.returned b/\Bl w w w'/\(l=[]->b=true)
theorem QL(b n:Nat)(r:Jr)(w:Wd)(h:pI w b n)(c:eF w r)(hi:∀d∈r.j.af,0<=d.bD/\d.bD<=100000):Cs prog 353 #[.map (some b),.agg (bk r)] w (Qk r.j.af w):=by
 have y:=c.af.cb;have H:=c.cf;obtain⟨V,u,a,v⟩:=az w (bk r) 51;have C:=v.cell 10;simp at C;have p:=ah (c.af.ae a);have G:=ah (h.ae a);have o:=ah a;have E:=ah hi;clear h c a v hi;obtain⟨m,f⟩:=nm r.m;obtain⟨F,t⟩:=nm r.F;rw[<-f,<-t]at p C;rw[<-f]at y H;clear f t;subst y;go_in;go_wp2_with(rw[<-u];clear u;go_step)
 go_loopw [10] (fun i wr=>∃k:Nat,k<=r.j.af.length/\i=.int .i64 k/\Bl V V wr) (fun i _=>r.j.af.length-(intOf i).toNat)
 case atStart=>exact⟨0,by omega,rfl,cC _ _⟩
 case round=>
  obtain⟨k,N,rfl,z⟩:=hrel;have g:=ah z;clear z;by_cases l:k<r.j.af.length
  ·obtain⟨J,off,s,rfl,M,hs,K,L⟩:=Bj (p.ae g) l;have I:=ah hs;have q:Bl wr wr (wr.alloc (.cells (UW s) 142)):=aA;have A:=ah (aa g q);have D:=ah (zN b n s _ (G.ae A) (E s (cG hs)));clear hs q;go_wp2_with fail;refine D.out.mono ?_;rintro e O ⟨x,rfl,b2⟩;have B:=ah (aa A b2);clear b2;cases hx:(x !=1)
   ·go_wp2_with fail;exact⟨⟨k+1,by omega,by go_num,B⟩,by simp[intOf];omega⟩
   ·go_wp2;go_ret;refine⟨_,rfl,aa o B,fun e=> ?_⟩;rw[e]at l;exact absurd l (n8 _)
  ·obtain rfl:k=r.j.af.length:=by omega
   go_wp2;go_ret;exact⟨_,rfl,aa o g,fun _=>rfl⟩
def MX(l:List Dp)(w:Wd)(e:Ed)(w':Wd):Prop:=∃b:Bool,e=.returned b/\Bl w w w'/\(l=[]->b=false)
theorem PR(b n:Nat)(r:Jr)(w:Wd)(h:pI w b n)(c:eF w r)(hi:∀d∈r.j.af,0<=d.bD/\d.bD<=100000):Cs prog 179 #[.map (some b),.agg (bk r)] w (MX r.j.af w):=by
 have y:=c.af.cb;have H:=c.cf;obtain⟨V,u,a,v⟩:=az w (bk r) 51;have C:=v.cell 10;simp at C;have p:=ah (c.af.ae a);have G:=ah (h.ae a);have o:=ah a;have E:=ah hi;clear h c a v hi;obtain⟨m,f⟩:=nm r.m;obtain⟨F,t⟩:=nm r.F;rw[<-f,<-t]at p C;rw[<-f]at y H;clear f t;subst y;go_in;go_wp2_with(rw[<-u];clear u;go_step)
 go_loopw [10] (fun i wr=>∃k:Nat,k<=r.j.af.length/\i=.int .i64 k/\Bl V V wr) (fun i _=>r.j.af.length-(intOf i).toNat)
 case atStart=>exact⟨0,by omega,rfl,cC _ _⟩
 case round=>
  obtain⟨k,N,rfl,z⟩:=hrel;have g:=ah z;clear z;by_cases l:k<r.j.af.length
  ·obtain⟨J,off,s,rfl,M,hs,K,L⟩:=Bj (p.ae g) l;have I:=ah hs;have q:Bl wr wr (wr.alloc (.cells (UW s) 142)):=aA;have A:=ah (aa g q);have D:=ah (zN b n s _ (G.ae A) (E s (cG hs)));clear hs q;go_wp2_with fail;refine D.out.mono ?_;rintro e O ⟨x,rfl,b2⟩;have B:=ah (aa A b2);clear b2;cases hx:(x==2)
   ·go_wp2_with fail;exact⟨⟨k+1,by omega,by go_num,B⟩,by simp[intOf];omega⟩
   ·go_wp2;go_ret;refine⟨_,rfl,aa o B,fun e=> ?_⟩;rw[e]at l;exact absurd l (n8 _)
  ·obtain rfl:k=r.j.af.length:=by omega
   go_wp2;go_ret;exact⟨_,rfl,aa o g,fun _=>rfl⟩
open Go renaming TypeId->Ti
theorem Jl(b:Nat)(w:Wd):(binOp .eql 264 (.map (some b)) (.map none)).run prog w=.ok false w:=by kernel_rfl
variable{g:Nat}
theorem G6{t:Ti}{s:Jr}(h:ai w g t (bk s)):w.rangeAt g 0 (bk s).toList:=fun j v a=>by
 rw[cR,h.cell j];simpa using a
theorem Na{j:Jb}(h:fg j=true):∀d∈j.af,0<=d.bD/\d.bD<=100000:=by
 have h1:=(fv.1 h).1;simp only[Bx,Dv,AB,cH,dC]at h1;intro d a;have:=(h1.1.2.1.2.1.1 d a).2;have:=gz.1 this;omega
def MB(l:List Jb)(w:Wd)(e:Ed)(w':Wd):Prop:=∃A n c out,e=.returned (.slice A n c)/\df w' w A n c out/\n<=40/\eT l out/\Bl w w w'
def S0(w:Wd)(l:List Jr)(X Y:Vl)(wr:Wd):Prop:=∃(k:Nat) (A:OA) (n c:Nat) (out:List Int),k<=l.length/\X=.slice A n c/\Y=.int .i64 k/\n<=k/\df wr w A n c out/\Bl w w wr/\(∀id∈out,∃r∈l,r.j.id=id/\r.j.st=1)/\(∀r,l=[r]->r.j.af=[]->r.j.hd=false->r.j.st=1->out=if k=0 then []else [r.j.id])
theorem oR(A:OA)(n c:Nat)(l:List Jr)(w:Wd)(h:pO w A n l)(hn:n<=maxLen)(I:gC (l.map Jr.j)=true):Cs prog 257 #[.slice A n c] w (MB (l.map Jr.j) w):=by
 have yL:=h.rows.cb;subst yL;have yX:=ah (JE A l.length c l w h hn);have yZ:l.length<=40:=by have:=(ds.1 I).cf;simpa using this
 have Q:=ah I;have HH:=ah h;have uF:=Jl;clear h I;go_in;go_wp2;go_step3;go_wp2_with fail;refine yX.out.mono ?_;rintro e w1 (⟨hx,-,-⟩|⟨-,b,rfl,hb,S,b1⟩)
 ·rw[Q.out]at hx;cases hx
 have HM:=ah S;have yU:=ah b1;clear S b1;go_wp2;go_step3;go_wp2
 go_loopw [4,11] (fun X Y wr=>S0 w1 l X Y wr) (fun _ Y _=>l.length-(intOf Y).toNat)
 case atStart=>exact⟨0,none,0,0,[],by omega,rfl,rfl,by omega,be.nil _ _ _ _,cC _ _,fun id h=>(by cases h),fun r _ _ _ _=>rfl⟩
 case round=>
  obtain⟨k,C,z,G,out,hk,rfl,rfl,uG,T,L,h1,h2⟩:=hrel;have yH:=aa yU L;have E:=ah T;have yP:=ah yH;have o:=ah L;have D:=ah h1;have N:=ah h2;clear T yH L h1 h2;by_cases yT:k<l.length
  ·obtain⟨bb,off,s,rfl,uH,hs,yQ,q⟩:=ir (HH.ae yP) yT;have P:=ah hs;have F:=ah q;have uI:=ah (World.rangeAt_alloc q (.cells cP 51));have v:Hid (ai (wr.alloc (.cells cP 51)) wr 51 cP):=ai.new _ _ _;obtain⟨V,g⟩:=nm ((wr.alloc (.cells cP 51)).setRow wr (bk s));have i:Bl wr wr V:=g▸aD;have m:ai V wr 51 (bk s):=g▸ai.row v _;have x0:=m.cell 0;have uB:=m.cell 11;have yR:=m.cell 12;simp at x0 uB yR;have yS:fg s.j=true:=(ds.1 Q).ok _ (cS.2 ⟨s,cG hs,rfl⟩);have yM:=ah (G6 m);have O:=ah m;have t:=ah i;have yN:=ah (QL b 40 s V ((HM.ae o).ae i) (yQ.ae i) (Na yS))
   have K:Hid (∀W,Bl V V W->(∀r,l=[r]->r.j.af=[]->r.j.hd=false->r.j.st=1->False)->S0 w1 l (.slice C z G) ((k+1:Nat):Int) W):=fun W R uD=>
    ⟨k+1,C,z,G,out,yT,rfl,rfl,by omega,(E.ae i).ae R,aa (aa o i) R,D,fun r e1 d a f=>(uD r e1 d a f).elim⟩
   have B:Hid (∀r,l=[r]->r=s):=fun r e=>by
    have x:=P.out;rw[e]at x;obtain⟨y,H⟩:=cA.1 x;simp at y;subst y;simpa using H
   clear hs q yQ m i yS;obtain⟨p1,Z⟩:∃p,(s.j.st !=1)=p:=⟨_,rfl⟩;obtain⟨p2,J⟩:∃p,s.j.hd=p:=⟨_,rfl⟩;rw[J]at yR;have Q2:=ah J;have Q1:Hid (p1=false->s.j.st=1):=fun e=>by simpa using Z.trans e
   have yW:Hid (p1=true->s.j.st≠1):=fun e=>by simpa using Z.trans e
   clear J;have uE:=ah (aa o t);cases p1
   case true=>
    go_wp2_with(first|(rw[<-g];clear g;go_step)|refine wC F t51 rfl ?_|refine wB v aK rfl ?_);refine⟨?_,by simp[intOf];omega⟩;have:=K.out V bR (fun r e d a f=>yW.out rfl (by rw[<-B.out r e];exact f))
    rwa [lI]at this
   case false=>
    cases p2
    case true=>
     go_wp2_with(first|(rw[<-g];clear g;go_step)|refine wC F t51 rfl ?_|refine wB v aK rfl ?_);refine⟨?_,by simp[intOf];omega⟩;have:=K.out V bR (fun r e d a f=>by rw[B.out r e,Q2.out]at a;cases a)
     rwa [lI]at this
    case false=>
     go_wp2_with(first|(rw[<-g];clear g;go_step)|refine wC F t51 rfl ?_|refine wB v aK rfl ?_|(go_guarded;refine me _ _ rfl rfl yM underlying51 rfl aK rfl ?_));refine yN.out.mono ?_;rintro e w2 ⟨b3,rfl,b2,yV⟩;have u:=ah b2;have yY:=ah yV;have uJ:=ah (aa uE b2);have y0:=(O.ae b2 O.lt).cell 0;simp at y0;clear b2 yV;cases b3
     ·go_wp2_with fail;refine⟨?_,by simp[intOf];omega⟩;have:=K.out _ u (fun r e d a f=>by have:=yY.out (by rw[<-B.out r e];exact d);cases this)
      rwa [lI]at this
     ·obtain⟨A2,c2,w3,yF,U,b3,-⟩:=mg ((E.ae t).ae u) s.j.id (by omega) (aa (aa o t) u).size;have yO:=ah yF;have uA:=ah U;have yK:=ah b3;clear yF U b3;go_wp2_with(at_builtin;refine au rfl _ _ rfl rfl rfl yO ?_);have uK:=(aa (aa o t) u).size;refine⟨⟨k+1,A2,z+1,c2,out++[s.j.id],by omega,rfl,by go_num,by omega,uA,(aa (aa o t) u).trans yK,fun id M=> ?_,fun r e d a f=> ?_⟩,by simp[intOf];omega⟩
      ·rcases dG.1 M with h|h
       ·exact D id h
       ·rw[lD]at h;exact⟨s,cG P,h.symm,Q1.out (by first|rfl|trivial)⟩
      ·have x:=N.out r e d a f;have hs:=B.out r e;subst hs;have hl:l.length=1:=by rw[e];rfl
       have uC:k=0:=by omega
       subst uC;rw[x];rfl
  ·obtain rfl:k=l.length:=by omega
   go_wp2_with fail
   try rw[dM]
   go_ret;refine⟨C,z,G,out,rfl,aS E yU.size,by omega,⟨fun id M=> ?_,fun j e d a f=> ?_⟩,yP⟩
   ·obtain⟨r,q,y,H⟩:=D id M;exact⟨r.j,cS.2 ⟨r,q,rfl⟩,y,H⟩
   ·obtain⟨r,rfl⟩:∃r,l=[r]:=List.length_eq_one_iff.1 (by have:=cO List.length e;simpa using this);simp at e;subst e;exact N r rfl d a f
set_option maxRecDepth 512
variable{d:Nat}
theorem Ra{F:OA}{m:Nat}{l:List Dp}(h:KM w F m l)(j:m<=1000):
 ∃b c a,(Builtin.append_ #[49,49] 49 #[.slice w 0 0,.slice F m d]).run prog (w.alloc (.cells #[] 142))=.ok (.slice b m c) a/\KN a w b m c l/\Bl w w a:=by
 have e:Bl w w (w.alloc (.cells #[] 142)):=aA;obtain⟨b,c,a,f,g,i,_,_⟩:=dy vc (P:=prog) (w.alloc (.cells #[] 142)) w 49 49 142 _ 16 underlying49 xO rfl w 0 0 [] (be.none _ _ _ _ _) F m d l (h.ae e) (by simp[maxLen];omega) (by omega) (by simp);simp only[cR,dH]at f g;exact⟨b,c,a,f,g,e.trans i⟩
theorem QM{F:OA}{m:Nat}{l:List Al}(h:DD w F m l)(j:m<=1000):
 ∃b c a,(Builtin.append_ #[46,46] 46 #[.slice w 0 0,.slice F m d]).run prog (w.alloc (.cells #[] 139))=.ok (.slice b m c) a/\DF a w b m c l/\Bl w w a:=by
 have e:Bl w w (w.alloc (.cells #[] 139)):=aA;obtain⟨b,c,a,f,g,i,_,_⟩:=dy qk (P:=prog) (w.alloc (.cells #[] 139)) w 46 46 139 _ 16 underlying46 oO rfl w 0 0 [] (be.none _ _ _ _ _) F m d l (h.ae e) (by simp[maxLen];omega) (by omega) (by simp);simp only[cR,dH]at f g;exact⟨b,c,a,f,g,e.trans i⟩
theorem RE{F:OA}{m:Nat}(h:Qf w F m l)(j:m<=1000):
 ∃b c a,(Builtin.append_ #[23,23] 23 #[.slice w 0 0,.slice F m d]).run prog (w.alloc (.cells #[] 51))=.ok (.slice b m c) a/\gB a w b m c l/\Bl w w a:=by
 have e:Bl w w (w.alloc (.cells #[] 51)):=aA;obtain⟨b,c,a,f,g,i,_,_⟩:=dy ek (P:=prog) (w.alloc (.cells #[] 51)) w 23 23 51 _ 216 underlying23 sP rfl w 0 0 [] (be.none _ _ _ _ _) F m d l (h.ae e) (by simp[maxLen];omega) (by omega) (by simp);simp only[cR,dH]at f g;exact⟨b,c,a,f,g,e.trans i⟩
structure S8(w:Wd)(g n c:Nat)(js:List Jb)(k:Nat)(l2:List Jr)(wr:Wd):Prop where
 rows:gB wr w g n c l2
 js:l2.map Jr.j=js
 GS:∀r∈l2,mT g wr r
 own:∀i r,i<k->l2[i]?=some r->jk wr (g+1) r
 du:Bl w w wr
 hg:w<=g
variable{k:Nat}
theorem S8.next{f:List Jb}{d:List Jr}{wr:Wd}(h:S8 w g n c f k d wr){r':Jr}(p:d[k]?=some r)(m:r'.j=r.j)(q:gB w' w g n c (d.set k r'))(e:aU g wr w')(o:Bl w w w')(l:jk w' (g+1) r'):S8 w g n c f (k+1) (d.set k r') w':=by
 refine⟨q,(ro p m).trans h.js,fun y a=> ?_,fun i y hi a=> ?_,o,h.hg⟩
 ·rcases fP a with a|rfl
  ·exact(h.GS y a).only e
  ·exact mT.own l (oS g)
 ·rw[lX]at a;split at a
  ·split at a
   ·cases a;exact l
   ·cases a
  ·exact(h.own i y (by omega) a).hi e.size fun b h1 h2=>e.same b h2 (by omega)
theorem S8.done{d:List Jb}{a:List Jr}{wr:Wd}(h:S8 w g n c d n a wr):vG wr w g n c a:=⟨h.rows,fun f e r b=>by
 replace e:=aI e;subst e;obtain⟨i,hi⟩:=dE.1 b;exact h.own i r (by have:=(cA.1 hi).1;have:=h.rows.1;omega) hi⟩
set_option maxRecDepth 100000
def MA(l:List Jb)(w:Wd)(e:Ed)(w':Wd):Prop:=∃A n c a B m d bO,e=.returned (.tuple #[.slice A n c,.slice B m d])/\vG w' w A n c a/\df w' w B m d bO/\n<=40/\m<=40/\tj l (a.map Jr.j) bO/\Bl w w w'
def Mx(w e:Wd)(b:Nat)(l:List Jr)(T X Y:Vl)(wr:Wd):Prop:=∃(k:Nat) (A:OA) (n c:Nat) (a:List Jr) (B:OA) (m d:Nat) (bO:List Int),k<=l.length/\T=.slice A n c/\X=.slice B m d/\Y=.int .i64 k/\m<=k/\pO wr A n a/\n<=40/\n<=c/\(A=none->c=0)/\df wr e B m d bO/\pI wr b (40+k)/\tj (l.map Jr.j) (a.map Jr.j) bO/\Bl w w wr/\e.heap.size<=wr/\∀g,B=some ⟨g,0,none⟩->g<wr
theorem Ec{l:List Jb}{m:List Jb}{bO:List Int}(h:tj l m bO):m.map Jb.id=l.map Jb.id:=by
 induction h with
 |nil=>rfl
 |cons h hj hs ha ih=>rw[JM];exact ih
theorem N2(A:OA)(n c:Nat)(l:List Jr)(w:Wd)(h:pO w A n l)(qM:n<=c)(hA:A=none->c=0)(K:gC (l.map Jr.j)=true):Cs prog 95 #[.slice A n c] w (MA (l.map Jr.j) w):=by
 have qD:=h.rows.cb;subst qD;have qC:l.length<=40:=by have:=(ds.1 K).cf;simpa using this
 have HOf:=ah (JE A l.length c l w h (by simp[maxLen];omega));have HX:=ah K;have HH:=ah h;have eqs:=Jl
 have yT:Hid (∀j∈l.map Jr.j,j.nd<2^64):=fun j L=>by
  obtain⟨r,t,rfl⟩:=cS.1 L;exact(h.eZ r t).nd
 have qJ:=ah (ds.1 K);clear h K;go_in;go_wp2_with fail;refine HOf.out.mono ?_;rintro e Z (⟨hx,-,-⟩|⟨-,b,rfl,hb,M,b1⟩)
 ·rw[HX.out]at hx;cases hx
 have HM:=ah M;have uI:=ah b1;have HA:=ah hA;have HLe:=ah qM;clear M b1 hA qM;go_wp2
 go_loopw [0,5,18] (fun T X Y wr=>Mx w Z b l T X Y wr) (fun _ _ Y _=>l.length-(intOf Y).toNat)
 case atStart=>exact⟨0,A,l.length,c,l,none,0,0,[],by omega,rfl,rfl,rfl,by omega,HH.ae uI,qC,HLe,HA,be.nil _ _ _ _,HM,.nil,uI,cB _,fun g e=>(by cases e)⟩
 case round=>
  obtain⟨k,At,o,ct,B,H,m,d,bO,hk,rfl,rfl,rfl,hmk,L,qL,hct,hAt,ho,hst,hdm,uA,hsz,hbg⟩:=hrel;have I:=ah L;have E:=ah ho;have qB:=ah hst;have yP:=ah hdm;have P:=ah uA;have HAt:=ah hAt;have uT:=ah hsz;have HBg:=ah hbg;clear L ho hst hdm uA hAt hsz hbg;by_cases uY:k<l.length
  ·obtain⟨bb,off,s,rfl,hbb,hs,qA,t⟩:=ir (HH.ae P) uY;have HS:=ah hs;have HR:=ah t;have HN:Hid (ai (wr.alloc (.cells cP 51)) wr 51 cP):=ai.new _ _ _;obtain⟨V,R⟩:=nm ((wr.alloc (.cells cP 51)).setRow wr (bk s));have z:Bl wr wr V:=R▸aD;have kV:ai V wr 51 (bk s):=R▸ai.row HN _;have x11:=kV.cell 11;simp at x11;have qH:fg s.j=true:=qJ.ok _ (cS.2 ⟨s,cG hs,rfl⟩);have uX:=ah (G6 kV);have HK:=ah kV;have HBV:=ah z;have HIn:=ah qA;have uC:=ah (PR b (40+k) s V (qB.ae z) (qA.ae z) (Na qH));have qK:=ah qH
   have yJ:Hid (∀W,Bl V V W->Mx w Z b l (.slice At o ct) (.slice H m d) ((k+1:Nat):Int) W):=fun W S=>
    ⟨k+1,At,o,ct,B,H,m,d,bO,uY,rfl,rfl,rfl,by omega,(I.ae z).ae S,qL,hct,HAt,⟨E.1,(E.2.ae z).ae S⟩,by obtain⟨mm,m1,m2⟩:=(qB.ae z).ae S;exact⟨mm,m1.mono (by omega),m2⟩,yP,aa (aa P z) S,cF uT (cF z.size S.size),fun g e=>cD (HBg g e) (cF z.size S.size)⟩
   clear hs t qA kV z qH;obtain⟨p1,q1⟩:∃p,(s.j.st !=1)=p:=⟨_,rfl⟩;have Q1:Hid (p1=false->s.j.st=1):=fun e=>by simpa using q1.trans e
   cases p1
   case true=>
    go_wp2_with(first|(rw[<-R];clear R;go_step)|refine wC HR t51 rfl ?_|refine wB HN aK rfl ?_);refine⟨?_,by simp[intOf];omega⟩;have:=yJ.out V bR
    rwa [lI]at this
   case false=>
    have yN:Hid (s.j.st=1):=Q1.out rfl;clear Q1;go_wp2_with(first|(rw[<-R];clear R;go_step)|refine wC HR t51 rfl ?_|refine wB HN aK rfl ?_|(go_guarded;refine me _ _ rfl rfl uX underlying51 rfl aK rfl ?_));refine uC.out.mono ?_;rintro e w2 ⟨b3,rfl,b2,hb3⟩;have uO:=ah b2;have HB3:=ah hb3;have qF:=ah (HK.ae b2 HK.lt);clear b2 hb3;cases b3
    ·go_wp2_with fail;refine⟨?_,by simp[intOf];omega⟩;have:=yJ.out _ uO
     rwa [lI]at this
    ·have haf:s.j.af≠[]:=fun e=>by have:=HB3.out e;cases this
     have HAf:=ah haf;have hE:kK s.j 6=0:=by simp[kK,qK.out,yN.out,pK]
     have yX:=ah (aa HBV uO);have HEn:=ah (Jk s 6 w2 (HIn.ae yX));rw[hE]at HEn;clear haf hE;go_wp2_with(refine wA qF t51 rfl ?_);refine HEn.out.mono ?_;rintro e u ⟨U,rfl,b3,o3,L⟩;have uM:U.j=qZ s.j:=L rfl;obtain⟨V4,yR⟩:=nm ((u.alloc (.cells cP 51)).setRow u (bk U));have HN3:Hid (ai (u.alloc (.cells cP 51)) u 51 cP):=ai.new _ _ _;have uS:Bl u u V4:=yR▸aD;have uU:Hid (ai V4 u 51 (bk U)):=by rw[yR];exact ai.row HN3 _
     have yO:=ah (aa (aa yX b3) uS);have uF:=(uu qJ yT yP).ok qJ
     have hpe:sW (B.map Jr.j) U.j=0:=by
      have hid:s.j.id∈(B.map Jr.j).map Jb.id:=by rw[Ec yP.out];exact cS.2 ⟨s.j,cS.2 ⟨s,cG HS,rfl⟩,rfl⟩
      obtain⟨x,hx,e⟩:=cS.1 hid;have hx0:kK s.j 6=0:=by simp[kK,qK.out,yN.out,pK]
      refine zw uF.1 (by rw[uM];exact(CJ hx0).1) hx ?_;rw[e,uM];exact(mC s.j 6).symm
     have yZ:=ah (ub At o ct B U V4 (I.ae yO) (o3.mE.ae uS) (by omega) hct HAt);rw[hpe]at yZ;have HJ2:=ah uM;have uP:=ah (qF.ae (aa b3 uS) qF.lt);clear b3 o3 L uM uS hpe uF;go_wp2_with(first|(rw[<-yR];clear yR;go_step)|refine wB HN3 aK rfl ?_|refine wA uU t51 rfl ?_);refine yZ.out.mono ?_;rintro e w5 ⟨A5,n5,c5,l5,rfl,o5,b5,hm5⟩;have M:=hm5 rfl;rw[HJ2.out]at M;have HM5:=ah M
     have hn5:n5=o:=by
      have h1:=o5.rows.1;have h2:=cO List.length M;have h3:=I.rows.cb;rw[dB,ua,dB]at h2;omega
     have uW:=ah o5;have yF:=ah (aa yO b5);have y0:=(uP.ae b5 uP.lt).cell 0;have y11:=(uU.ae b5 uU.lt).cell 11;simp at y0 y11;have uZ:=gz.1 (no qK);obtain⟨w6,r1,st6,C,lo6⟩:=(qB.ae yF).update (i:=s.j.id) (by omega) (by omega) U.j.st;have hb1:=HM.lt;have yE:=ah r1;have hne:wr≠b:=by have:=uT.out;omega
     have z0:w6.cell? wr=some (s.j.id:Vl):=(dI (a:=wr) (C.same wr (by have:=(uP.ae b5 uP.lt).lt;exact this) hne)).trans y0;have oi6:df w6 Z H m d bO:=bS (⟨E.1,E.2.ae yF⟩:df w5 Z H m d bO) C.size fun g h1 h2=>C.same g h2 (by omega);obtain⟨A7,c7,w7,yC,o7,b7,k7⟩:=mg oi6 s.j.id (by omega) (by have:=yF.size;have:=uT.out;have:=C.size;omega);have yS:=ah yC;have hbw:w<=b:=hb;have yR:wr.heap.size<=V4:=yO.size;have hV5:V4.heap.size<=w5:=b5.size;have qG:=uT.out
     have uV:Hid (Mx w Z b l (.slice A5 n5 c5) (.slice A7 (m+1) c7) ((k+1:Nat):Int) w7):=by
      refine⟨k+1,A5,n5,c5,l5,A7,m+1,c7,bO++[s.j.id],uY,rfl,rfl,rfl,by omega,?_,by omega,uW.rows.2.le,uW.rows.2.cz,o7,?_,?_,?_,?_,?_⟩
      ·refine(uW.hi (cF C.size b7.size) fun g h1 h2=> ?_).RB;exact(k7 g (cD h2 C.size) fun e=>by have:=HBg.out g e;omega).trans (C.same g h2 (by omega))
      ·have:=st6.ij (b7.block b hb1)
       rwa [oD]at this
      ·rw[HM5.out];exact .cons yP (cS.2 ⟨s,cG HS,rfl⟩) yN HAf
      ·exact((aa P yF).trans (lo6.mono hbw)).trans (b7.mono uI.size)
      ·have:=C.size;have:=b7.size;omega
      ·intro g e;obtain⟨g',h1,-,h3,-⟩:=o7.2.room (by have:=o7.2.le;omega);rw[e]at h1;replace h1:=aI h1;subst h1;exact h3
     clear r1 st6 C lo6 hb1 oi6 yC o7 b7 k7 hbw yR hV5 qG hm5 M o5 b5 uZ hne;subst hn5;go_wp2_with(first|(at_mapUpdate;refine kj rfl _ _ _ _ rfl rfl rfl rfl yE ?_)|(at_builtin;refine au rfl _ _ rfl rfl rfl yS ?_));refine⟨?_,by simp[intOf];omega⟩;have:=uV.out
     rwa [lI]at this
  ·obtain rfl:k=l.length:=by omega
   obtain⟨O,rfl⟩:=nm wr;obtain⟨A2,J,w2,yC,o2,b2⟩:=RE (d:=ct) I.rows (by omega:o<=1000);have yE:=ah yC;have HO2:=ah o2;have uO:=ah (aa P b2);have qE:Hid (df w2 Z H m d bO):=⟨E.1,E.2.ae b2⟩;have HJ2:=ah (I.ae b2);clear yC;rcases dX o with h0|h0
   ·subst h0;have e0:B=[]:=dJ I.rows.cb;clear o2 b2;go_wp2_with(at_builtin;refine au rfl _ _ rfl rfl rfl yE ?_)
    go_loopw [60] (fun i wz=>i=.int .i64 0/\wz=w2) (fun _ _=>0)
    case atStart=>exact⟨rfl,rfl⟩
    case round=>
     obtain⟨rfl,rfl⟩:=hrel;go_wp2;go_ret2;subst e0;exact⟨A2,0,J,[],H,m,d,bO,rfl,⟨aS HO2 P.size,fun g _ r t=>(by cases t)⟩,aS qE uI.size,by omega,by omega,yP,uO⟩
   ·obtain⟨g,x,rfl,hg,uE,-⟩:=bh ek o2 h0;have HWh:Hid (S8 O g o J (B.map Jr.j) 0 B w2):=⟨o2,rfl,fun r t=>mT.old (I.eZ r t) b2 hg,fun i r hi=>absurd hi (n8 i),b2,hg⟩;clear o2 b2;go_wp2_with(at_builtin;refine au rfl _ _ rfl rfl rfl yE ?_)
    go_loopw [60] (fun i wz=>∃(q:Nat) (N:List Jr),q<=o/\i=.int .i64 q/\S8 O g o J (B.map Jr.j) q N wz) (fun i _=>o-(intOf i).toNat)
    case atStart=>exact⟨0,B,by omega,rfl,HWh⟩
    case round=>
     obtain⟨q,N,hq,rfl,hw⟩:=hrel;have y:=ah hw;clear hw;by_cases uN:q<o
     ·obtain⟨g',r,f,-,uE,t,K,hfz⟩:=bh ek y.rows uN;replace f:=aI f;subst f;have HRr:=ah t;have yU:=ah (y.GS r (cG t));obtain⟨D,G,W1,yI,od,bd⟩:=Ra (d:=r.d) yU.am.af yU.am.cf;have yY:=ah yI;have HOd:=ah od;have HBd:=ah bd;have u10:(wr.alloc (.cells #[] 142)).cell? ⟨g,q*20+10,none⟩=some (.slice r.F r.m r.d):=by rw[lM _ _ _ uE];exact K 10 _ rfl
      have e3:gB W1 O g o J N:=⟨y.rows.1,y.rows.2.ae bd⟩;have uJ:=ah (eW ek e3 q 10 (by omega) t (x:={r with F:=D,d:=G}) (v:=.slice D r.m G) rfl);obtain⟨g',r',f,-,yG,uR,hc3,uH⟩:=bh ek e3 uN;replace f:=aI f;subst f;rw[t]at uR;injection uR with uR
      subst uR;have v10:=hc3 10 _ rfl;have z10:=(uH 10 (by omega)).2;obtain⟨u,Q⟩:=nm (W1.setCell ⟨g,q*20+10,none⟩ (.slice D r.m G));rw[<-Q]at uJ;have uB:Hid (aU g wr u):=by rw[Q];exact(aU.aX bd).trans (aU.set _ _ _)
      have yB:u.heap.size=W1:=by rw[Q];simp
      have HL3:Hid (Bl O O u):=by rw[Q];exact(y.du.trans (bd.mono y.du.size)).setCell (p:=⟨g,q*20+10,none⟩) y.hg _
      obtain⟨A1,c1,W2,yH,oa,ba⟩:=QM (d:=r.c) (yU u uB).sh.st yU.am.sh.cf;have uG:=ah yH;have HOa:=ah oa;have HBa:=ah ba;have uQ:(N.set q {r with F:=D,d:=G})[q]?=some {r with F:=D,d:=G}:=fH (cA.1 t).1;have yK:g<u:=yB▸yG;obtain⟨g',r',f,-,-,uK,hc4,qI⟩:=bh ek uJ uN;replace f:=aI f;subst f;rw[uQ]at uK;injection uK with uK;subst uK;have u5:(u.alloc (.cells #[] 139)).cell? ⟨g,q*20+5,none⟩=some (.slice r.A r.n r.c):=by rw[lM _ _ _ yK];exact hc4 5 _ rfl
      have e5:gB W2 O g o J (N.set q {r with F:=D,d:=G}):=⟨uJ.1,uJ.2.ae ba⟩;have HO6:=ah (eW ek e5 q 5 (by omega) uQ (x:={r with A:=A1,c:=c1,F:=D,d:=G}) (v:=.slice A1 r.n c1) rfl);obtain⟨g',r',f,-,yV,uL,hc5,uD⟩:=bh ek e5 uN;replace f:=aI f;subst f;rw[uQ]at uL;injection uL with uL
      subst uL;have v5:=hc5 5 _ rfl;have z5:=(uD 5 (by omega)).2
      have yW:Hid (S8 O g o J (B.map Jr.j) (q+1) (N.set q {r with A:=A1,c:=c1,F:=D,d:=G}) (W2.setCell ⟨g,q*20+5,none⟩ (.slice A1 r.n c1))):=by
       have hon:aU g wr (W2.setCell ⟨g,q*20+5,none⟩ (.slice A1 r.n c1)):=(uB.ae ba).trans (aU.set _ _ _);have yQ:=yU.am;refine y.next HRr rfl (by have:=HO6.out;rwa [nN]at this) hon ((HL3.trans (ba.mono HL3.size)).setCell (p:=⟨g,q*20+5,none⟩) y.hg _) ?_;have hs1:W1.heap.size<=W2:=by rw[<-yB];exact ba.size
       have hs0:=HBd.size;refine⟨aS (bS HOa (by simp) fun x h1 h2=> ?_) (by rw[yB];omega),aS (bS HOd (by simpa using hs1) fun x h1 h2=> ?_) (by omega),yQ.sh.cf,yQ.cf,yQ.nm,yQ.us,yQ.ac,yQ.nd⟩
       ·rw[dN _ _ _ _ (by show x≠g;omega)]
       ·rw[dN _ _ _ _ (by show x≠g;omega),HBa.out.block x (by rw[yB];exact h2),Q,dN _ _ _ _ (by show x≠g;omega)]
      clear hc5 uD e5 hc4 qI uQ yH oa ba yI K hfz od bd
      try clear hc3
      try clear uH
      clear yB yG yV yK;go_wp2_with(first|(rw[<-Q];clear Q;go_step)|(at_builtin;refine au rfl _ _ rfl rfl rfl yY ?_)|(at_builtin;refine au rfl _ _ rfl rfl rfl uG ?_));exact⟨⟨q+1,_,by omega,by go_num,yW⟩,by simp[intOf];omega⟩
     ·obtain rfl:q=o:=by omega
      go_wp2;go_ret2;exact⟨_,q,J,N,H,m,d,bO,rfl,y.done.mono P.size,aS ⟨E.1,E.2.ae y.du⟩ uI.size,qL,by omega,by rw[y.out.js];exact yP,aa P y.du⟩
def mJ(r:Rz):List Vl:=[r.jb,r.gr,.int .u64 (r.nd:Int),.int .u64 (r.sd:Int),r.si]
abbrev om(r:Rz):Array Vl:= #[r.jb,r.gr,.int .u64 (r.nd:Int),.int .u64 (r.sd:Int),r.si]
abbrev MT:=cp mJ 5
abbrev r8:=be mJ 5
theorem ju:wU mJ 5:=⟨fun _=>rfl,fun x u a=>by simp[mJ]at a;rcases a with rfl|rfl|rfl|rfl|rfl<;>rfl,by omega⟩
theorem PJ:(prog.info? 37).map (fun i=>(i.zero,i.size,i.bytes))=some (some (.agg #[(),false,.int .u64 0,.int .u64 0,()]),5,40):=by kernel_rfl
theorem BZ{A:OA}{l:List Rz}(h:MT w A n l)(hi:i<n):∃b off s,A=some ⟨b,off,none⟩/\b<w/\l[i]?=some s/\w.cell? ⟨b,off+i*5,none⟩=some (s.jb:Vl)/\w.cell? ⟨b,off+i*5+1,none⟩=some (s.gr:Vl)/\w.cell? ⟨b,off+i*5+2,none⟩=some (.int .u64 (s.nd:Int))/\w.cell? ⟨b,off+i*5+3,none⟩=some (.int .u64 (s.sd:Int))/\w.cell? ⟨b,off+i*5+4,none⟩=some (s.si:Vl):=by
 obtain⟨b,off,s,hA,c,hs,a⟩:=h.at_ hi;exact⟨b,off,s,hA,c,hs,a 0 _ rfl,a 1 _ rfl,a 2 _ rfl,a 3 _ rfl,a 4 _ rfl⟩
structure Sl where
 A:OA
 n:Nat
 c:Nat
abbrev Sl.v(x:Sl):Vl:=.slice x.A x.n x.c
structure Sl.Ok(x:Sl):Prop where
 le:x.n<=x.c
 cf:x.n<=1000
 cz:x.A=none->x.c=0
structure Sr where
 s:St
 jr:List Jr
 N:Sl
 J:Sl
 R:Sl
 B:Sl
 L:Sl
abbrev aY(x:Sr):Array Vl:= #[x.s.am,x.N.v,x.J.v,x.R.v,x.B.v,x.L.v,x.s.nj,x.s.nb]
structure db(w:Wd)(x:Sr):Prop where
 ag:tm w x.N.A x.N.n x.s.ag
 aj:pO w x.J.A x.J.n x.jr
 jr:x.jr.map Jr.j=x.s.aj
 bx:MT w x.R.A x.R.n x.s.bx
 aZ:Mo w x.B.A x.B.n x.s.aZ
 bK:Aw w x.L.A x.L.n x.s.bK
 BP:x.N.Ok
 fg:x.J.Ok
 Mr:x.R.Ok
 okB:x.B.Ok
 Hs:x.L.Ok
 kk:∀r∈x.s.bx,r.nd<2^64/\r.sd<2^64
variable{x:Sr}
theorem db.ae(h:db w x)(a:Bl w w w'):db w' x:=⟨h.ag.ae a,h.aj.ae a,h.jr,h.bx.ae a,h.aZ.ae a,h.bK.ae a,h.BP,h.fg,h.Mr,h.okB,h.Hs,h.kk⟩
theorem db.wide(h:db w x):M6 x.s:=⟨fun j b=>by
 rw[<-h.jr]at b;obtain⟨r,a,rfl⟩:=cS.1 b;exact(h.aj.eZ r a).nd,fun r a=>(h.kk r a).1,fun r a=>(h.kk r a).2⟩
theorem aT:(prog.info? 28).map (·.size)=some 8:=by kernel_rfl
abbrev t28:=pk underlying28 rfl aT
theorem T6{t:Ti}{a b c d e f i j:Vl}(h:ai w g t #[a,b,c,d,e,f,i,j]):w.cell? g=some a/\w.cell? ⟨g,1,none⟩=some b/\w.cell? ⟨g,2,none⟩=some c/\w.cell? ⟨g,3,none⟩=some d/\w.cell? ⟨g,4,none⟩=some e/\w.cell? ⟨g,5,none⟩=some f/\w.cell? ⟨g,6,none⟩=some i/\w.cell? ⟨g,7,none⟩=some j:=⟨h.cell 0,h.cell 1,h.cell 2,h.cell 3,h.cell 4,h.cell 5,h.cell 6,h.cell 7⟩
def Ft(s:St):Int:=if ie s then 0 else 141
def tY(s:St):Int:=if fy s then 0 else 141
theorem R7:∀p1 p2 a b c:Bool,(p1=true\/(p1=false/\p2=true))\/(p1=false/\p2=false/\a=false)\/(p1=false/\p2=false/\a=true/\b=false)\/((p1=false/\p2=false/\a=true/\b=true/\c=false)\/(p1=false/\p2=false/\a=true/\b=true/\c=true)):=by
 intro p1 p2 a b c;cases p1<;>cases p2<;>cases a<;>cases b<;>cases c<;>simp
theorem FO(n:Int):bZ n=(!decide (n<0)&& !decide (1000000<n)):=by
 unfold bZ;rw[<-nL,<-nL]
 congr 1<;>exact iD.2 (by omega)
theorem zz(x:Sr)(w:Wd)(h:db w x):Cs prog 26 #[.agg (aY x)] w (an (Ft x.s:Int) w):=by
 obtain⟨V,b⟩:=nm (w.alloc (.cells (aY x) 28));have t:Bl w w V:=by rw[b];exact aA
 have f:ai V w 28 (aY x):=by rw[b];exact ai.new _ _ _
 have q:Hid (∀W,Bl V V W->W.cell? ⟨w,1,none⟩=some x.N.v/\W.cell? ⟨w,2,none⟩=some x.J.v/\W.cell? ⟨w,4,none⟩=some x.B.v):=fun W d=>⟨(f.ae d f.lt).cell 1,(f.ae d f.lt).cell 2,(f.ae d f.lt).cell 4⟩;have L:=f.cell 0;have M:=f.cell 1;simp at L M;have j:=ah fun(W:Wd) (d:Bl w w W)=>jJ x.N.A x.N.n x.N.c x.s.ag W (h.ag.ae d) (by have:=h.BP.cf;simp[maxLen];omega);have k:=ah fun(W:Wd) (d:Bl w w W)=>gp x.J.A x.J.n x.J.c x.jr W (h.aj.ae d) (by have:=h.fg.cf;simp[maxLen];omega);have D:=ah fun(W:Wd) (d:Bl w w W)=>xA x.B.A x.B.n x.B.c x.s.aZ W (h.aZ.ae d) (by have:=h.okB.cf;simp[maxLen];omega);have a:=ah t;have g:Hid (Ft x.s=if !decide (x.s.am<0)&& !decide (1000000<x.s.am)&&aO x.s.ag&&gC x.s.aj&&Ap x.s.aZ then 0 else 141):=by show _=_;rw[Ft,ie,FO]
 rw[h.jr]at k;clear h t f;obtain⟨p1,H⟩:∃p,decide (x.s.am<0)=p:=⟨_,rfl⟩;obtain⟨p2,I⟩:∃p,decide (1000000<x.s.am)=p:=⟨_,rfl⟩;obtain⟨E,l⟩:∃p,aO x.s.ag=p:=⟨_,rfl⟩;obtain⟨F,m⟩:∃p,gC x.s.aj=p:=⟨_,rfl⟩;obtain⟨G,o⟩:∃p,Ap x.s.aZ=p:=⟨_,rfl⟩;rw[H,I,l,m,o]at g;rw[jL,l]at j;rw[gd,m]at k;rw[Kq,o]at D;clear l m o;rcases R7 p1 p2 E F G with(rfl|⟨rfl,rfl⟩)|⟨rfl,rfl,rfl⟩|⟨rfl,rfl,rfl,rfl⟩|(⟨rfl,rfl,rfl,rfl,rfl⟩|⟨rfl,rfl,rfl,rfl,rfl⟩)
 iterate 2
  ·go_in;go_wp2_with(rw[<-b];clear b;go_step);go_ret;exact⟨ax (by rw[g.out];rfl),a⟩
 ·go_in;go_wp2_with(rw[<-b];clear b;go_step);refine(j _ a).mono ?_;rintro e u ⟨rfl,b2⟩;go_wp2;go_ret;exact⟨ax (by rw[g.out];rfl),aa a b2⟩
 ·go_in;go_wp2_with(rw[<-b];clear b;go_step);refine(j _ a).mono ?_;rintro e u ⟨rfl,b2⟩;obtain⟨y,z,C⟩:=q _ b2;have i:=ah b2;go_wp2_with fail;refine(k _ (aa a i)).mono ?_;rintro e K ⟨rfl,b3⟩;go_wp2;go_ret;exact⟨ax (by rw[g.out];rfl),aa (aa a i) b3⟩
 iterate 2
  ·go_in;go_wp2_with(rw[<-b];clear b;go_step);refine(j _ a).mono ?_;rintro e u ⟨rfl,b2⟩;obtain⟨y,z,C⟩:=q _ b2;have i:=ah b2;go_wp2_with fail;refine(k _ (aa a i)).mono ?_;rintro e K ⟨rfl,b3⟩;have r:=ah (aa i b3);obtain⟨P,Q,R⟩:=q _ r;clear y z C b2 b3;go_wp2_with fail;refine(D _ (aa a r)).mono ?_;rintro e O ⟨rfl,b4⟩;go_wp2;go_ret;exact⟨ax (by rw[g.out];rfl),aa (aa a r) b4⟩
theorem jT(x:Sr)(w:Wd)(h:db w x):Cs prog 14 #[.agg (aY x)] w (an (tY x.s:Int) w):=by
 have a:Hid (ai (w.alloc (.cells (aY x) 28)) w 28 (aY x)):=ai.new _ _ _;have d:Bl w w (w.alloc (.cells (aY x) 28)):=aA;have i:=ah (zz x _ (h.ae d));have k:=ah fun(W:Wd) (m:Bl w w W)=>kW x.L.A x.L.n x.L.c x.s.bK W (h.bK.ae m) (by have:=h.Hs.cf;simp[maxLen];omega);have j:=ah d;have b:Hid (tY x.s=if ie x.s&&fm x.s.bK then 0 else 141):=rfl;clear h d;obtain⟨p1,f⟩:∃p,ie x.s=p:=⟨_,rfl⟩;obtain⟨p2,g⟩:∃p,fm x.s.bK=p:=⟨_,rfl⟩;rw[f,g]at b;rw[Ft,f]at i;rw[ls,g]at k;clear f g;cases p1
 ·go_in;go_wp2_with(refine wA a t28 rfl ?_);refine i.out.mono ?_;rintro e o ⟨rfl,b2⟩;go_wp2;go_ret;exact⟨ax (by rw[b.out];rfl),aa j b2⟩
 ·cases p2
  all_goals
   go_in;go_wp2_with(refine wA a t28 rfl ?_);refine i.out.mono ?_;rintro e o ⟨rfl,b2⟩;have q:=(a.ae b2 a.lt).cell 5;simp at q;have l:=ah (aa j b2);clear b2;go_wp2_with fail;refine(k _ l).mono ?_;rintro e r ⟨rfl,b3⟩;go_wp2;go_ret;exact⟨ax (by rw[b.out];rfl),aa l b3⟩
theorem few12(A:OA)(n c:Nat)(w:Wd):Cs prog 10 #[.slice A n c] w (an (decide ((n:Int)<=100):Bool) w):=by
 go_in;go_wp2;go_ret;exact⟨rfl,cC _ _⟩
theorem few19(A:OA)(n c:Nat)(w:Wd):Cs prog 12 #[.slice A n c] w (an (decide ((n:Int)<=100):Bool) w):=by
 go_in;go_wp2;go_ret;exact⟨rfl,cC _ _⟩
theorem few07(A:OA)(n c:Nat)(s:Sh)(w:Wd):Cs prog 50 #[JR A n c s] w (an (decide ((n:Int)<=100):Bool) w):=by
 go_in;go_wp2;go_ret;exact⟨rfl,aA⟩
def Mi(u:Us):Bool:=decide ((u.us.size:Int)<=1000)&&decide ((u.ac.size:Int)<=1000)
theorem few17(A:OA)(n c:Nat)(l:List Us)(w:Wd)(h:Aw w A n l)(hn:n<=maxLen):Cs prog 13 #[.slice A n c] w (an (decide ((n:Int)<=300)&&l.all Mi:Bool) w):=by
 unfold maxLen at hn;have q:=h.cb;subst q;have m:=ah h;clear h;by_cases f:(l.length:Int)<=300
 ·have g3:¬(300<(l.length:Int)):=by omega
  go_in;go_wp2
  go_loopw [3] (fun i wr=>∃k:Nat,k<=l.length/\i=.int .i64 (k:Int)/\(∀u∈l.take k,Mi u=true)/\Bl w w wr) (fun i _=>l.length-(intOf i).toNat)
  case atStart=>exact⟨0,by omega,rfl,by simp,cC _ _⟩
  case round=>
   obtain⟨k,z,rfl,j,d⟩:=hrel;have g:=ah j;clear j;by_cases r:k<l.length
   ·obtain⟨b,off,s,rfl,y,hs,t,v,o,p⟩:=JW (m.ae d) r;have e:=ah hs;clear hs o p;by_cases h1:(s.us.size:Int)<=1000
    ·by_cases h2:(s.ac.size:Int)<=1000
     ·have a:=ah (eP (P:=fun x=>Mi x=true) g e (by simp[Mi,h1,h2]));have g1:¬(1000<(s.us.size:Int)):=by omega
      have g2:¬(1000<(s.ac.size:Int)):=by omega
      clear h1 h2;go_wp2_with fail;exact⟨⟨k+1,by omega,by go_num,a,d⟩,by simp[intOf];omega⟩
     ·have a:Hid (l.all Mi=false):=by
       show l.all Mi=false;rw[nZ];exact⟨s,cG e,by simp[Mi,h2]⟩
      have g1:¬(1000<(s.us.size:Int)):=by omega
      have g2:1000<(s.ac.size:Int):=by omega
      clear h1 h2;go_wp2;go_ret;exact⟨by rw[a.out];simp,d⟩
    ·have a:Hid (l.all Mi=false):=by
      show l.all Mi=false;rw[nZ];exact⟨s,cG e,by simp[Mi,h1]⟩
     have g1:1000<(s.us.size:Int):=by omega
     clear h1;go_wp2;go_ret;exact⟨by rw[a.out];simp,d⟩
   ·obtain rfl:k=l.length:=by omega
    have a:Hid (l.all Mi=true):=by
     have:=g.out;rw[cT]at this;exact dC.2 this
    go_wp2;go_ret;exact⟨by rw[a.out];simp[f],d⟩
 ·have g3:300<(l.length:Int):=by omega
  rw[show decide ((l.length:Int)<=300)=false by simpa using g3,nI];clear f;go_in;go_wp2;go_ret;exact⟨rfl,cC _ _⟩
theorem ksh5:(prog.info? 48).map (·.size)=some 5:=by kernel_rfl
def K9(r:Jr):Bool:=decide ((r.n:Int)<=100)&&(decide ((r.m:Int)<=100)&&(decide ((r.j.nm.size:Int)<=1000)&&(decide ((r.j.us.size:Int)<=1000)&&decide ((r.j.ac.size:Int)<=1000))))
theorem few14(r:Jr)(w:Wd):Cs prog 25 #[.agg (bk r)] w (an (K9 r:Bool) w):=by
 obtain⟨V,t,s,o⟩:=az w (bk r) 51;have F:=ah (few07 r.A r.n r.c r.j.sh V);have y:=ah s;have q:=ah o
 have E:Hid (V.rangeAt w 4 (#[r.j.sh.kd,.slice r.A r.n r.c,r.j.sh.mn,r.j.sh.mx,r.j.sh.wl]:Array Vl).toList):=fun j v a=>by
  rw[o.cell (4+j)]
  match j,a with
  |0,a=>exact a
  |1,a=>exact a
  |2,a=>exact a
  |3,a=>exact a
  |4,a=>exact a
 clear s o;have p:Hid (K9 r=(decide ((r.n:Int)<=100)&&(decide ((r.m:Int)<=100)&&(decide ((r.j.nm.size:Int)<=1000)&&(decide ((r.j.us.size:Int)<=1000)&&decide ((r.j.ac.size:Int)<=1000)))))):=rfl;generalize K9 r=z at p⊢;go_in;go_wp2_with(first|(rw[<-t];clear t)|refine ld rfl _ _ rfl rfl E underlying48 rfl ksh5 rfl ?_);refine av F fun J b2=> ?_;have f:=q.ae b2 q.lt;have B:=f.cell 1;have C:=f.cell 2;have D:=f.cell 3;have G:=f.cell 10;simp at B C D G;have x:=ah (aa y b2);clear b2 f;have H:Hid (∀(b:Bool) (w':Wd),b=z->Bl w w w'->an z w (.returned b) w'):=fun b w' e h=>⟨by rw[e],h⟩;by_cases g:(r.n:Int)<=100<;>by_cases i:(r.m:Int)<=100<;>by_cases k:(r.j.nm.size:Int)<=1000<;>by_cases l:(r.j.us.size:Int)<=1000<;>by_cases d:(r.j.ac.size:Int)<=1000
 all_goals
  obtain⟨b,I⟩:=nm z;have u:=p.out;simp[g,i,k,l,d]at u;subst u
  first|replace g:=oW g|replace g:=eq_true g
  first|replace i:=oW i|replace i:=eq_true i
  first|replace k:=oW k|replace k:=eq_true k
  first|replace l:=oW l|replace l:=eq_true l
  first|replace d:=oW d|replace d:=eq_true d
  go_wp2;go_ret
  first|exact⟨rfl,x⟩|exact⟨by simp[d],x⟩
theorem few15(A:OA)(n c:Nat)(l:List Jr)(w:Wd)(h:Qf w A n l)(hn:n<=maxLen):Cs prog 11 #[.slice A n c] w (an (decide ((n:Int)<=60)&&l.all K9:Bool) w):=by
 unfold maxLen at hn;have z:=h.cb;subst z;have r:=ah h;clear h;by_cases g:(l.length:Int)<=60
 ·have g3:¬(60<(l.length:Int)):=by omega
  rw[show decide ((l.length:Int)<=60)=true by simpa using g,lO];go_in;go_wp2
  go_loopw [3] (fun i wr=>∃k:Nat,k<=l.length/\i=.int .i64 (k:Int)/\(∀u∈l.take k,K9 u=true)/\Bl w w wr) (fun i _=>l.length-(intOf i).toNat)
  case atStart=>exact⟨0,by omega,rfl,by simp,cC _ _⟩
  case round=>
   obtain⟨k,D,rfl,p,e⟩:=hrel;have o:=ah p;clear p;by_cases B:k<l.length
   ·obtain⟨b,off,s,rfl,C,hs,m⟩:=(r.ae e).at_ B;have f:=ah hs;have q:Hid (wr.rangeAt b (off+k*20) (bk s).toList):=fun j v t=>m j v t;have d:=ah (few14 s wr);clear hs m;cases hq:K9 s
    ·rw[hq]at d
     have a:Hid (l.all K9=false):=by
      show l.all K9=false;rw[nZ];exact⟨s,cG f,by simp[hq]⟩
     clear hq;go_wp2_with(refine wC q t51 rfl ?_);refine av d fun y b2=> ?_;go_wp2;go_ret;exact⟨by rw[a.out];simp,aa e b2⟩
    ·rw[hq]at d;have a:=ah (eP (P:=fun x=>K9 x=true) o f hq);clear hq;go_wp2_with(refine wC q t51 rfl ?_);refine av d fun y b2=> ?_;go_wp2_with fail;exact⟨⟨k+1,by omega,by go_num,a,aa e b2⟩,by simp[intOf];omega⟩
   ·obtain rfl:k=l.length:=by omega
    have a:Hid (l.all K9=true):=by
     have:=o.out;rw[cT]at this;exact dC.2 this
    go_wp2;go_ret;exact⟨by rw[a.out];simp,e⟩
 ·have g3:60<(l.length:Int):=by omega
  rw[show decide ((l.length:Int)<=60)=false by simpa using g3,nI];clear g;go_in;go_wp2;go_ret;exact⟨rfl,cC _ _⟩
def xV(x:Sr):Bool:=decide ((x.N.n:Int)<=100)&&((decide ((x.J.n:Int)<=60)&&x.jr.all K9)&&(decide ((x.B.n:Int)<=100)&&((decide ((x.L.n:Int)<=300)&&x.s.bK.all Mi)&&decide ((x.R.n:Int)<=100))))
theorem few20(x:Sr)(w:Wd)(r:Qf w x.J.A x.J.n x.jr)(t:Aw w x.L.A x.L.n x.s.bK)(C:x.J.n<=maxLen)(D:x.L.n<=maxLen):Cs prog 5 #[.agg (aY x)] w (an (xV x:Bool) w):=by
 obtain⟨V,f⟩:=nm (w.alloc (.cells (aY x) 28));have d:Bl w w V:=by rw[f];exact aA
 have i:ai V w 28 (aY x):=by rw[f];exact ai.new _ _ _
 have m:=ah (few12 x.N.A x.N.n x.N.c V);have o:=ah fun(W:Wd) (h:Bl V V W)=>few15 x.J.A x.J.n x.J.c x.jr W ((r.ae d).ae h) C;have p:=ah fun(W:Wd)=>few19 x.B.A x.B.n x.B.c W;have q:=ah fun(W:Wd) (h:Bl V V W)=>few17 x.L.A x.L.n x.L.c x.s.bK W ((t.ae d).ae h) D;unfold xV;generalize decide ((x.N.n:Int)<=100)=p1 at m⊢;generalize(decide ((x.J.n:Int)<=60)&&x.jr.all K9)=p2 at o⊢;generalize decide ((x.B.n:Int)<=100)=p3 at p⊢;generalize(decide ((x.L.n:Int)<=300)&&x.s.bK.all Mi)=p4 at q⊢;have b:=ah d;have a:=ah i;have u:=i.cell 1;simp at u;clear d i r t;go_in;go_wp2_with(rw[<-f];clear f);refine m.out.mono ?_;rintro e F ⟨rfl,b1⟩;have j:=ah b1;have v:=(a.ae b1 a.lt).cell 2;simp at v;clear b1 u;cases p1
 ·go_wp2;go_ret;exact⟨rfl,aa b j⟩
 go_wp2_with fail;refine(o F j).mono ?_;rintro e G ⟨rfl,b2⟩;have l:=ah (aa j b2);have y:=(a.ae l a.lt).cell 4;simp at y;clear b2 v;cases p2
 ·go_wp2;go_ret;exact⟨rfl,aa b l⟩
 go_wp2_with fail;refine(p G).mono ?_;rintro e H ⟨rfl,b3⟩;have g:=ah (aa l b3);have z:=(a.ae g a.lt).cell 5;simp at z;clear b3 y;cases p3
 ·go_wp2;go_ret;exact⟨rfl,aa b g⟩
 go_wp2_with fail;refine(q H g).mono ?_;rintro e I ⟨rfl,b4⟩;have k:=ah (aa g b4);have E:=(a.ae k a.lt).cell 3;simp at E;clear b4 z;cases p4
 ·go_wp2;go_ret;exact⟨rfl,aa b k⟩
 go_wp2;go_ret;exact⟨by simp,aa b k⟩
set_option maxRecDepth 512
structure Sl.Raw(x:Sl):Prop where
 le:x.n<=x.c
 max:x.n<=maxLen
 cz:x.A=none->x.c=0
structure MI(w:Wd)(r:Jr):Prop where
 sh:DD w r.A r.n r.j.sh.al
 sle:r.n<=r.c
 sbare:r.A=none->r.c=0
 af:KM w r.F r.m r.j.af
 le:r.m<=r.d
 cz:r.F=none->r.d=0
 nd:r.j.nd<2^64
structure xr(w:Wd)(x:Sr):Prop where
 ag:tm w x.N.A x.N.n x.s.ag
 aj:Qf w x.J.A x.J.n x.jr
 eZ:∀r∈x.jr,MI w r
 jr:x.jr.map Jr.j=x.s.aj
 bx:MT w x.R.A x.R.n x.s.bx
 aZ:Mo w x.B.A x.B.n x.s.aZ
 bK:Aw w x.L.A x.L.n x.s.bK
 BP:x.N.Raw
 fg:x.J.Raw
 Mr:x.R.Raw
 okB:x.B.Raw
 Hs:x.L.Raw
 kk:∀r∈x.s.bx,r.nd<2^64/\r.sd<2^64
 rjb:∀r∈x.s.bx,-9223372036854775808<=r.jb/\r.jb<=9223372036854775807
theorem Sl.Raw.ok{x:Sl}(h:x.Raw)(hn:x.n<=1000):x.Ok:=⟨h.le,hn,h.cz⟩
theorem xr.mE(h:xr w x)(a:xV x=true):db w x:=by
 unfold xV at a;simp only[cH,dA]at a;obtain⟨d,⟨e,c⟩,f,⟨i,j⟩,l⟩:=a;refine⟨h.ag,⟨h.aj,fun r b=> ?_⟩,h.jr,h.bx,h.aZ,h.bK,h.BP.ok (by omega),h.fg.ok (by omega),h.Mr.ok (by omega),h.okB.ok (by omega),h.Hs.ok (by omega),h.kk⟩;have g:=dC.1 c r b;unfold K9 at g;simp only[cH,dA]at g;obtain⟨g1,g2,g3,m,n⟩:=g;have k:=h.eZ r b;exact⟨⟨k.sh,by omega,k.sle,k.sbare⟩,k.af,by omega,k.le,k.cz,by omega,by omega,by omega,k.nd⟩
theorem xr.cf(h:xr w x)(W:Wd)(a:Bl w w W):Cs prog 5 #[.agg (aY x)] W (an (xV x:Bool) W):=few20 x W (h.aj.ae a) (h.bK.ae a) h.fg.max h.Hs.max
def TF{α:Type}(f:α->List Vl)(k:Nat)(l:List α)(w:Wd)(e:Ed)(w':Wd):Prop:=∃A c,e=.returned (.slice A l.length c)/\be f k w' w A l.length c l/\Bl w w w'
theorem Iv(A:OA)(n c:Nat)(p:List Nd)(w:Wd)(h:tm w A n p)(hn:n<=1000000):Cs prog 64 #[.slice A n c] w (TF wi 7 p w):=by
 have i:=h.cb;subst i;obtain⟨d,f,j,a,b,g,_,_⟩:=dy mb (P:=prog) w w 22 22 34 _ 56 underlying22 nodeInfo rfl none 0 0 [] (be.nil _ _ _ _) A p.length c p h (by simp[maxLen];omega) (by omega) lr;simp only[cR,dH]at a b;have e:=ah a;clear a h hn;go_in;go_wp2_with(at_builtin;refine au rfl _ _ rfl rfl rfl e ?_);go_ret;exact⟨d,f,rfl,b,g⟩
theorem Iu(A:OA)(n c:Nat)(p:List Jr)(w:Wd)(h:Qf w A n p)(hn:n<=1000000):Cs prog 65 #[.slice A n c] w (TF yl 20 p w):=by
 have i:=h.cb;subst i;obtain⟨d,f,j,a,b,g,_,_⟩:=dy ek (P:=prog) w w 23 23 51 _ 216 underlying23 sP rfl none 0 0 [] (be.nil _ _ _ _) A p.length c p h (by simp[maxLen];omega) (by omega) lr;simp only[cR,dH]at a b;have e:=ah a;clear a h hn;go_in;go_wp2_with(at_builtin;refine au rfl _ _ rfl rfl rfl e ?_);go_ret;exact⟨d,f,rfl,b,g⟩
theorem Iw(A:OA)(n c:Nat)(p:List Rz)(w:Wd)(h:MT w A n p)(hn:n<=1000000):Cs prog 66 #[.slice A n c] w (TF mJ 5 p w):=by
 have i:=h.cb;subst i;obtain⟨d,f,j,a,b,g,_,_⟩:=dy ju (P:=prog) w w 24 24 37 _ 40 underlying24 PJ rfl none 0 0 [] (be.nil _ _ _ _) A p.length c p h (by simp[maxLen];omega) (by omega) lr;simp only[cR,dH]at a b;have e:=ah a;clear a h hn;go_in;go_wp2_with(at_builtin;refine au rfl _ _ rfl rfl rfl e ?_);go_ret;exact⟨d,f,rfl,b,g⟩
theorem Is(A:OA)(n c:Nat)(p:List Bk)(w:Wd)(h:Mo w A n p)(hn:n<=1000000):Cs prog 67 #[.slice A n c] w (TF vL 4 p w):=by
 have i:=h.cb;subst i;obtain⟨d,f,j,a,b,g,_,_⟩:=dy sS (P:=prog) w w 25 25 58 _ 32 underlying25 DV rfl none 0 0 [] (be.nil _ _ _ _) A p.length c p h (by simp[maxLen];omega) (by omega) lr;simp only[cR,dH]at a b;have e:=ah a;clear a h hn;go_in;go_wp2_with(at_builtin;refine au rfl _ _ rfl rfl rfl e ?_);go_ret;exact⟨d,f,rfl,b,g⟩
theorem Ix(A:OA)(n c:Nat)(p:List Us)(w:Wd)(h:Aw w A n p)(hn:n<=1000000):Cs prog 68 #[.slice A n c] w (TF Ai 4 p w):=by
 have i:=h.cb;subst i;obtain⟨d,f,j,a,b,g,_,_⟩:=dy na (P:=prog) w w 26 26 83 _ 48 underlying26 DB rfl none 0 0 [] (be.nil _ _ _ _) A p.length c p h (by simp[maxLen];omega) (by omega) lr;simp only[cR,dH]at a b;have e:=ah a;clear a h hn;go_in;go_wp2_with(at_builtin;refine au rfl _ _ rfl rfl rfl e ?_);go_ret;exact⟨d,f,rfl,b,g⟩
theorem Ir(A:OA)(n c:Nat)(p:List Al)(w:Wd)(h:DD w A n p)(hn:n<=1000000):Cs prog 69 #[.slice A n c] w (TF tr 2 p w):=by
 have i:=h.cb;subst i;obtain⟨d,f,j,a,b,g,_,_⟩:=dy qk (P:=prog) w w 46 46 139 _ 16 underlying46 oO rfl none 0 0 [] (be.nil _ _ _ _) A p.length c p h (by simp[maxLen];omega) (by omega) lr;simp only[cR,dH]at a b;have e:=ah a;clear a h hn;go_in;go_wp2_with(at_builtin;refine au rfl _ _ rfl rfl rfl e ?_);go_ret;exact⟨d,f,rfl,b,g⟩
theorem It(A:OA)(n c:Nat)(p:List Dp)(w:Wd)(h:KM w A n p)(hn:n<=1000000):Cs prog 70 #[.slice A n c] w (TF xP 2 p w):=by
 have i:=h.cb;subst i;obtain⟨d,f,j,a,b,g,_,_⟩:=dy vc (P:=prog) w w 49 49 142 _ 16 underlying49 xO rfl none 0 0 [] (be.nil _ _ _ _) A p.length c p h (by simp[maxLen];omega) (by omega) lr;simp only[cR,dH]at a b;have e:=ah a;clear a h hn;go_in;go_wp2_with(at_builtin;refine au rfl _ _ rfl rfl rfl e ?_);go_ret;exact⟨d,f,rfl,b,g⟩
section
variable {α : Type} {f : α -> List Value} {k g base hi : Nat} {w w' : World} {A : Option Addr} {n c : Nat} {l : List α}
def eK(A:OA)(c hi:Nat):Prop:=0<c->∀g,A=some ⟨g,0,none⟩->g<hi
theorem oc(m:be f k w base A n c l):eK A c w.heap.size:=fun b g hA=>by
 obtain⟨d,a,-,h,-⟩:=m.2.room b;rw[hA]at a;have e:=aI a;omega
theorem mj(h:aU g w w')(m:be f k w base A n c l)(hA:0<c->A≠some ⟨g,0,none⟩):be f k w' base A n c l:=by
 refine⟨m.1,m.2.cb,m.2.le,m.2.max,fun a=> ?_,m.2.cz⟩;exact(m.2.ij h.size fun b d i=>h.same b i fun e=>hA a (by rw[d,e])).room a
theorem aV(h:aU g w w')(m:be f k w base A n c l)(i:g<base):be f k w' base A n c l:=mj h m fun a e=>by
 obtain⟨b,hA,d,-⟩:=m.2.room a;rw[e]at hA;have e:=aI hA;omega
theorem ed(h:aU g w w')(m:be f k w base A n c l)(b:eK A c hi)(d:hi<=g):be f k w' base A n c l:=mj h m fun a e=>by
 have:=b a g e;omega
end
structure Co(w:Wd)(b0 b1 b2 b3 b4 b5:Nat)(x:Sr):Prop where
 ag:mK w b0 x.N.A x.N.n x.N.c x.s.ag
 aj:gB w b1 x.J.A x.J.n x.J.c x.jr
 bx:r8 w b2 x.R.A x.R.n x.R.c x.s.bx
 aZ:r6 w b3 x.B.A x.B.n x.B.c x.s.aZ
 bK:mL w b4 x.L.A x.L.n x.L.c x.s.bK
 nest:∀r∈x.jr,jk w b5 r
 jr:x.jr.map Jr.j=x.s.aj
 hN:eK x.N.A x.N.c b1
 hJ:eK x.J.A x.J.c b2
 hR:eK x.R.A x.R.c b3
 hB:eK x.B.A x.B.c b4
 hL:eK x.L.A x.L.c b5
 u1:b0<=b1
 u2:b1<=b2
 u3:b2<=b3
 u4:b3<=b4
 u5:b4<=b5
 fN:x.N.n<=1000
 fJ:x.J.n<=1000
 fR:x.R.n<=1000
 fB:x.B.n<=1000
 fL:x.L.n<=1000
 kk:∀r∈x.s.bx,r.nd<2^64/\r.sd<2^64
theorem e9{α:Type}{f:α->List Vl}{A:OA}{l:List α}(m:be f k w base A n c l)(h:n<=1000):Sl.Ok ⟨A,n,c⟩:=⟨m.2.le,h,m.2.cz⟩
variable{b1 b2 b3 b4 b5:Nat}
theorem Co.RB(h:Co w a b1 b2 b3 b4 b5 x):pO w x.J.A x.J.n x.jr:=⟨h.aj.et ek,fun r b=>(h.nest r b).mE⟩
theorem Co.mE(h:Co w a b1 b2 b3 b4 b5 x):db w x:=
 ⟨h.ag.et mb,h.RB,h.jr,h.bx.et ju,h.aZ.et sS,h.bK.et na,e9 h.ag h.fN,e9 h.aj h.fJ,e9 h.bx h.fR,e9 h.aZ h.fB,e9 h.bK h.fL,h.kk⟩
theorem Co.ae(h:Co w b b1 b2 b3 b4 b5 x)(a:Bl w w w'):Co w' b b1 b2 b3 b4 b5 x:=
 ⟨h.ag.ae a,h.aj.ae a,h.bx.ae a,h.aZ.ae a,h.bK.ae a,fun r c=>(h.nest r c).hi a.size fun g _ h2=>a.block g h2,h.jr,h.hN,h.hJ,h.hR,h.hB,h.hL,h.u1,h.u2,h.u3,h.u4,h.u5,h.fN,h.fJ,h.fR,h.fB,h.fL,h.kk⟩
section
variable {w W : World} {b0 b1 b2 b3 b4 b5 g : Nat} {x : Sr} (h : Co w b0 b1 b2 b3 b4 b5 x) (hW : aU g w W)
include h hW
end
def gV(base:Nat)(w:Wd)(x:Sr):Prop:=∀W,w.heap.size<=W.heap.size->(∀b,base<=b->b<w.heap.size->W.heap[b]?=w.heap[b]?)->db W x
theorem gV.am{w:World}(h:gV base w x):db w x:=h w lr fun _ _ _=>rfl
theorem gV.on{w w':World}(h:gV base w x)(k:aU g w w')(d:g<base):gV base w' x:=fun W h1 h2=>h W (cF k.size h1) fun b c a=>(h2 b c (cD a k.size)).trans (k.same b a (by omega))
theorem gV.ae(h:gV base w x)(k:Bl w.heap.size w w'):gV base w' x:=fun W h1 h2=>h W (cF k.size h1) fun b c a=>(h2 b c (cD a k.size)).trans (k.block b a)
theorem gV.mono(h:gV base w x)(c:a<=base):gV a w x:=fun W h1 h2=>h W h1 fun b d=>h2 b (cF c d)
theorem Co.Tw{w:World}(h:Co w d b1 b2 b3 b4 b5 x):gV d w x:=fun W h1 h2=>by
 have i:=h.u1;have j:=h.u2;have k:=h.u3;have l:=h.u4;have m:=h.u5;have hn:=bS h.ag h1 h2;have e:=bS h.aj h1 fun b a=>h2 b (by omega);have c:=bS h.bx h1 fun b a=>h2 b (by omega);have f:=bS h.aZ h1 fun b a=>h2 b (by omega);have g:=bS h.bK h1 fun b a=>h2 b (by omega);exact⟨hn.et mb,⟨e.et ek,fun r c=>((h.nest r c).hi h1 fun b a=>h2 b (by omega)).mE⟩,h.jr,c.et ju,f.et sS,g.et na,e9 hn h.fN,e9 e h.fJ,e9 c h.fR,e9 f h.fB,e9 g h.fL,h.kk⟩
abbrev dz:Array Vl:= #[(),.slice none 0 0,.slice none 0 0,.slice none 0 0,.slice none 0 0,.slice none 0 0,(),()]
def DI(x:Sr)(w:Wd)(e:Ed)(w':Wd):Prop:=∃y b1 b2 b3 b4 b5,e=.returned (.agg (aY y))/\y.s=x.s/\Co w' w b1 b2 b3 b4 b5 y/\b5<=w'/\Bl w w w'
set_option maxRecDepth 100000
theorem zA:∀args w,(callFunc 282 args).run prog w=.ok (.enter 282 args) w:=enters_of func282 (by kernel_rfl) rfl
theorem Fv(r:Rz)(id:Int)(w:Wd)(h1:0<=r.jb/\r.jb<=100000)(h2:0<=id/\id<=100000):Cs prog 282 #[.agg (om r),id] w (an (r.jb-id:Int) w):=by
 have a:Hid (ai (w.alloc (.cells (om r) 37)) w 37 (om r)):=ai.new _ _ _;have c:=a.cell 0;have b:Hid (IntKind.i64.wrap (r.jb-id)=r.jb-id):=by show _=_;rw[IntKind.wrap_i64];omega
 simp at c;go_in;go_wp2;go_ret;exact⟨ax (by first|exact b|rfl),aA⟩
def IS(l:List Rz)(id:Int)(w:Wd)(e:Ed)(w':Wd):Prop:=∃(i:Nat) (f:Bool),e=.returned (.tuple #[i,f])/\Bl w w w'/\i<=l.length/\((f=true/\∃r,l[i]?=some r/\r.jb=id)\/(f=false/\∀r∈l,r.jb≠id))
theorem Fw(A:OA)(n c:Nat)(l:List Rz)(id:Int)(w:Wd)(h:MT w A n l)(hn:n<=1000000)(I:0<=id/\id<=100000)(G:∀r∈l,0<=r.jb/\r.jb<=100000)(B:l.Pairwise (fun a b=>a.jb<b.jb)):
 Cs prog 281 #[.slice A n c,id,.func (.func 282) #[] #[]] w (IS l id w):=by
 have T:=h.cb;subst T;have U:=zA;have E:=ah h;have D:Hid (∀(W:Wd) (r:Rz),r∈l->Cs prog 282 #[.agg (om r),id] W (an (r.jb-id:Int) W)):=fun W r g=>Fv r id W (G r g) I;have t:=ah (cN.1 B);have yP:=ah B;clear h G B I;go_in;go_wp2
 go_loopw [9,10] (fun x y wr=>∃i j:Nat,i<=j/\j<=l.length/\x=.int .i64 i/\y=.int .i64 j/\(∀z r,z<i->l[z]?=some r->r.jb<id)/\(∀z r,j<=z->l[z]?=some r->id<=r.jb)/\Bl w w wr) (fun x y _=>(intOf y).toNat-(intOf x).toNat)
 case atStart=>exact⟨0,l.length,by omega,by omega,rfl,rfl,by omega,fun z r h1 h2=>by have:=(cA.1 h2).1;omega,cC _ _⟩
 case round=>
  obtain⟨i,j,X,u,rfl,rfl,h1,h2,m⟩:=hrel;have p:=ah h1;have C:=ah h2;clear h1 h2;by_cases Z:i<j
  ·have Y:i<=(i+j)/2:=by omega
   have V:(i+j)/2<j:=by omega
   have v:(i+j)/2<l.length:=by omega
   have L:Hid (((i:Int)+(j:Int))/2=(((i+j)/2:Nat):Int)):=by show _=_;omega
   obtain⟨b,off,r,rfl,R,g,M,N,O,P,Q⟩:=BZ (E.ae m) v;skip;have f:=ah g;clear g;go_wp2_with fail;rw[L.out];refine(D _ r (cG f)).mono ?_;rintro e S ⟨rfl,b2⟩;have K:=ah (aa m b2);clear b2 m;cases k:decide (r.jb-id<0)
   ·have q:=ah k;go_wp2_with fail;refine⟨⟨i,(i+j)/2,by omega,by omega,rfl,rfl,p,fun z s d hs=> ?_,K⟩,by simp[intOf];omega⟩;have k:=q.out;simp at k;obtain⟨o,rfl⟩:=cA.1 hs;obtain⟨_,rfl⟩:=cA.1 f;rcases iE ((i+j)/2) z with h|h
    ·have:=t.out _ z v o h;omega
    ·obtain rfl:z=(i+j)/2:=by omega
     omega
   ·have q:=ah k;go_wp2_with fail;refine⟨⟨(i+j)/2+1,j,by omega,u,by go_num,rfl,fun z s d hs=> ?_,C,K⟩,by simp[intOf];omega⟩;have k:=q.out;simp at k;obtain⟨o,rfl⟩:=cA.1 hs;obtain⟨_,rfl⟩:=cA.1 f;rcases iE z ((i+j)/2)with h|h
    ·have:=t.out z _ o v h;omega
    ·obtain rfl:z=(i+j)/2:=by omega
     omega
  ·obtain rfl:i=j:=by omega
   have H:=ah m;by_cases J:i<l.length
   ·obtain⟨b,off,r,rfl,R,g,M,N,O,P,Q⟩:=BZ (E.ae m) J;skip;have f:=ah g;clear g m;go_wp2_with fail;refine(D _ r (cG f)).mono ?_;rintro e S ⟨rfl,b2⟩;go_wp2;go_ret2;refine⟨i,_,rfl,aa H b2,u,?_⟩;by_cases F:r.jb-id=0
    ·exact .inl ⟨by simpa using F,r,f,by omega⟩
    ·refine .inr ⟨by simpa using F,fun s hs=> ?_⟩;obtain⟨z,d⟩:=dE.1 hs;rcases Nat.lt_trichotomy z i with h|h|h
     ·have:=p.out z s h d;omega
     ·subst h;rw[f.out]at d;cases d;omega
     ·have:=C.out i r lr f;obtain⟨o,rfl⟩:=cA.1 d;obtain⟨_,rfl⟩:=cA.1 f;have:=t.out i z J o h;omega
   ·go_wp2;go_ret2;refine⟨i,_,rfl,H,u,.inr ⟨rfl,fun s hs=> ?_⟩⟩;obtain⟨z,d⟩:=dE.1 hs;have:=(cA.1 d).1;have:=p.out z s (by omega) d;omega
theorem SK(w:Wd):(zeroValue 37).run prog w=.ok (.agg #[(),false,.int .u64 0,.int .u64 0,()]) w:=by kernel_rfl
def ks(l:List Jr):Int->Option Vl:=fun id=>(l.find? (fun r=>r.j.id==id&&r.j.st==2)).map (fun r=> .agg (bk r))
theorem RD{s:Jr}(hs:l[k]?=some s)(h2:s.j.st≠2):ks (l.take (k+1))=ks (l.take k):=by
 obtain⟨a,rfl⟩:=cA.1 hs
 funext id
 unfold ks;rw[fF a,sF];simp[h2]
theorem OG{s:Jr}(hs:l[k]?=some s)(h2:s.j.st=2)(d:l.Pairwise (fun a b=>a.j.id<b.j.id)):ks (l.take (k+1))=zF (ks (l.take k)) s.j.id (.agg (bk s)):=by
 obtain⟨c,rfl⟩:=cA.1 hs
 funext id
 unfold ks zF;rw[fF c,sF];by_cases e:id=l[k].j.id
 ·subst e
  have hn:(l.take k).find? (fun r=>r.j.id==l[k].j.id&&r.j.st==2)=none:=by
   rw[iX];intro x hx;obtain⟨a,f,rfl⟩:=dO.1 hx;have:=cN.1 d a k (by omega) c (by omega);simp;intro e;omega
  rw[hn];simp[h2]
 ·rw[cL e];have:(l[k].j.id==id&&l[k].j.st==2)=false:=by simp[show¬l[k].j.id=id from fun h=>e h.symm]
  simp[this]
def QC(l:List Jr)(w:Wd)(e:Ed)(w':Wd):Prop:=∃b,e=.returned (.map (some b))/\w<=b/\eX prog 3 w' b 40 (ks l)/\Bl w w w'
theorem Ma(A:OA)(n c:Nat)(l:List Jr)(w:Wd)(h:pO w A n l)(o:gC (l.map Jr.j)=true):Cs prog 15 #[.slice A n c] w (QC l w):=by
 have N:=h.rows.cb;subst N;have H:=ah h;have X:= @sH prog;have M:l.length<=40:=by have:=(ds.1 o).cf;simpa using this
 have P:=ah (pc o).1;have R:=ah (pc o).2;have J:Hid (eX prog 3 (w.alloc (.map #[] 0)) w 0 (ks (l.take 0))):=eX.made _ _ _;have G:Hid (Bl w w (w.alloc (.map #[] 0))):=(cC w w).alloc lr (.map #[] 0);clear h o;go_in;go_wp2
 go_loopw [9] (fun i wr=>∃k:Nat,k<=l.length/\i=.int .i64 k/\eX prog 3 wr w k (ks (l.take k))/\Bl w w wr) (fun i _=>l.length-(intOf i).toNat)
 case atStart=>exact⟨0,by omega,rfl,J,G⟩
 case round=>
  obtain⟨k,U,rfl,z,D⟩:=hrel;have v:=ah z;have p:=ah D;clear z D;by_cases Q:k<l.length
  ·obtain⟨b,off,s,rfl,T,hs,E,r⟩:=ir (H.ae p) Q;have y:=ah r;have q:Hid (ai (wr.alloc (.cells cP 51)) wr 51 cP):=ai.new _ _ _;obtain⟨V,f⟩:=nm ((wr.alloc (.cells cP 51)).setRow wr (bk s));have d:Bl wr wr V:=f▸aD;have g:ai V wr 51 (bk s):=f▸ai.row q _;have I:=ah g;have L:=g.cell 0;have F:=g.cell 11;simp at L F;by_cases h2:s.j.st=2
   ·obtain⟨W,B,u,K,C⟩:=(v.ae d).update (e:=51) (t:=59) underlying3 underlying59 (by unfold maxLen;omega) (i:=s.j.id) (by have:=P.out s (cG hs);omega) (.agg (bk s));have O:=ah B;rw[<-OG hs h2 R.out]at u;have m:=ah u;have x:=ah ((aa p d).trans C);rw[h2]at F;clear r hs E g d B u K C h2;go_wp2_with(first|(rw[<-f];clear f;go_step)|refine wC y t51 rfl ?_|(refine wA I t51 rfl ?_)|(refine wB q aK rfl ?_)|(at_mapUpdate;refine kj rfl _ _ _ _ rfl rfl rfl rfl O ?_));exact⟨⟨k+1,by omega,by go_num,m,x⟩,by simp[intOf];omega⟩
   ·have a:=v.ae d;rw[<-RD hs h2]at a;have m:=ah (a.mono (Nat.le_succ k));have x:=ah (aa p d);have S:(s.j.st==2)=false:=by simpa using h2
    clear r hs E g d a h2;go_wp2_with(first|(rw[<-f];clear f;go_step)|refine wC y t51 rfl ?_|(refine wB q aK rfl ?_));exact⟨⟨k+1,by omega,by go_num,m,x⟩,by simp[intOf];omega⟩
  ·obtain rfl:k=l.length:=by omega
   have a:=v.out;rw[cT]at a;have m:=ah (a.mono M);clear a;go_wp2;go_ret;exact⟨_,rfl,cB _,m,p⟩
theorem zT(n m:Int)(w:Wd):Cs prog 17 #[n,m] w fun e w'=>e=.returned (kg n m:Bool)/\w=w':=by
 have a:Hid (kg n m=(decide (1<=n)&&decide (n<=100000)&&decide (m<n))):=rfl;cases h1:decide (1<=n)
 case' true=>cases h2:decide (n<=100000)
 case' true.true=>cases h3:decide (m<n)
 all_goals
  rw[h1]at a
  try rw[h2]at a
  try rw[h3]at a
  go_in;go_wp2;go_ret;exact⟨by rw[a.out];rfl,rfl⟩
end Go.Proofs.YthfhilggbbobmaaGreatDoor
