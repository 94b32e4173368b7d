/- Parts of the proof. -/
import Derived.Test.YthfhilggbbobmaaGreatDoorK18
import Derived.Test.YthfhilggbbobmaaGreatDoorK19
set_option linter.all false
set_option maxHeartbeats 20000000
namespace Go.Proofs.YthfhilggbbobmaaGreatDoor
open Go.Proofs.Tryz
open Go renaming World->Wd,Ending->Ed
open Go.RowKit renaming Below->Bl
open Go.RowKit
def NewI(l:List Nat)(w:Wd)(e:Ed)(w':Wd):Prop:=∃A c,e=.returned (.slice A l.length c)/\df w' w A l.length c (dL l)/\Bl w w w'
set_option maxRecDepth 100000
open Go renaming Value->Vl,Calls->Cs
def hasB(s:Nat)(n:Int):Bool:=decide (0<=n)&&decide (n<64)&&s.testBit n.toNat
theorem Jq(s:Nat)(n:Int)(w:Wd)(hs:s<2^64):Cs prog 29 #[.int .u64 (s:Int),n] w fun e w'=>e=.returned (hasB s n:Bool)/\w=w':=by
 by_cases g:0<=n
 ·by_cases h1:n<64
  ·obtain⟨k,rfl⟩:∃k:Nat,n=(k:Int):=⟨n.toNat,by omega⟩;have d:k<64:=by omega
   obtain⟨P,b⟩:=nm (2^k);have i:=ah (Db P k w d b);have h:=DU s k P hs d b;have c:=dT ((k:Int)<64) (by omega);have a:Hid (hasB s (k:Int)=s.testBit k):=by show _=_;rw[hasB,c];simp
   obtain⟨j,f⟩:=nm (s.testBit k);rw[<-f]at h a;clear b hs f;go_in;go_wp2_with fail;refine aQ i ?_;go_wp2;go_ret;exact⟨ar a.symm,rfl⟩
  ·have a:Hid (hasB s n=false):=by show _=_;simp[hasB,h1]
   have c:=dF (n<64) (by omega);go_in;go_wp2;go_ret;exact⟨ar a.symm,rfl⟩
 ·have a:Hid (hasB s n=false):=by show _=_;simp[hasB,g]
  have c:=dF (0<=n) (by omega);go_in;go_wp2;go_ret;exact⟨ar a.symm,rfl⟩
def Hk(s k:Nat):List Nat:=(List.range k).filter (fun i=>s.testBit i)
theorem Lr(s k:Nat):Hk s (k+1)=Hk s k++if s.testBit k then [k]else []:=by
 unfold Hk;rw[List.range_succ,iB]
 congr 1
 cases h:s.testBit k<;>simp[h]
def NLRel(w:Wd)(s:Nat)(X Y:Vl)(wr:Wd):Prop:=∃(k:Nat) (A:OA) (n c:Nat),k<=64/\X=.slice A n c/\Y=.int .i64 k/\n<=k/\df wr w A n c (dL (Hk s k))/\Bl w w wr
theorem BJ(s:Nat)(w:Wd)(hs:s<2^64):Cs prog 116 #[.int .u64 (s:Int)] w (NewI (dw s) w):=by
 have y:=ah hs;clear hs;go_in;go_wp2
 go_loopw [3,5] (fun X Y wr=>NLRel w s X Y wr) (fun _ Y _=>64-(intOf Y).toNat)
 case atStart=>exact⟨0,none,0,0,by omega,rfl,rfl,by omega,be.nil _ _ _ _,cC _ _⟩
 case round=>
  obtain⟨k,f,d,h,C,rfl,rfl,E,o,e⟩:=hrel;have b:=ah o;clear o;by_cases u:k<64
  ·obtain⟨P,i⟩:=nm (2^k);have r:=ah (Db P k wr u i);have m:=DU s k P y u i;have a:=ah (Lr s k);have F:(k:Int)<64:=by omega
   clear i;cases hq:s.testBit k
   ·rw[hq]at m a;rw[cL (by simp),fO]at a;clear hq;go_wp2_with fail;refine aQ r ?_;go_wp2_with fail;exact⟨⟨k+1,f,d,h,by omega,rfl,by go_num,by omega,by rw[a.out];exact b,e⟩,by simp[intOf];omega⟩
   ·rw[hq]at m a;rw[cK rfl]at a;clear hq;obtain⟨U,c⟩:=nm (wr.alloc (.cells #[k] 3));have g:Bl wr wr U:=c▸bR.alloc lr _;have p:fs U wr 1 [(k:Int)]:=c▸cp.new gi wr (k:Int) #[k] 3 rfl;obtain⟨v,z,D,q,j,b3,_,_⟩:=dy gi (P:=prog) U w 171 171 3 _ 8 underlying171 pf rfl f d h _ (b.ae g) wr 1 1 [(k:Int)] p (by simp only[maxLen];omega) (by omega) (cF e.size g.size);have t:dL (Hk s k)++[(k:Int)]=dL (Hk s (k+1)):=by rw[a.out,mG];rfl
    rw[t]at j;have l:=ah q;have A:=ah j;rw[c]at l;have B:=(aa e g).trans b3;clear q j p c t;go_wp2_with fail;refine aQ r ?_;go_wp2_with(at_builtin;refine au rfl _ _ rfl rfl rfl l ?_);exact⟨⟨k+1,v,d+1,z,by omega,rfl,by go_num,by omega,A,B⟩,by simp[intOf];omega⟩
  ·obtain rfl:k=64:=by omega
   have n:(dw s).length=d:=by
    have:=b.1;simpa [dL,Hk,dw]using this
   have x:=ah n;clear n;go_wp2;go_ret;unfold NewI;rw[x.out];exact⟨f,h,rfl,b,e⟩
def nk(s:Nat)(n:Int):Nat×Bool:=if n<0\/((dw s).length:Int)<n then(0,false)else(eD ((dw s).take n.toNat),true)
theorem Hg(s:Nat)(n:Int)(w:Wd)(hs:s<2^64):Cs prog 305 #[.int .u64 (s:Int),n] w fun e w'=>e=.returned (.tuple #[.int .u64 ((nk s n).1:Int),(nk s n).2])/\w=w':=by
 by_cases l:n<0
 ·have b:Hid (nk s n=(0,false)):=by show _=_;rw[nk,cK (.inl l)]
  rw[b.out];go_in;go_wp2;go_ret2;exact⟨rfl,rfl⟩
 have g:=ah (jn s w hs);have S:=dF (n<0) (by omega);by_cases h1:((dw s).length:Int)<n
 ·have b:Hid (nk s n=(0,false)):=by show _=_;rw[nk,cK (.inr h1)]
  rw[b.out];generalize(dw s).length=L at g h1;clear l;go_in;go_wp2_with fail;refine aQ g ?_;go_wp2;go_ret2;exact⟨rfl,rfl⟩
 ·obtain⟨N,rfl⟩:∃k:Nat,n=(k:Int):=⟨n.toNat,by omega⟩;obtain⟨m,a⟩:=nm (dw s);have b:Hid (nk s (N:Int)=(eD (m.take N),true)):=by show _=_;rw[nk,cL (by omega),iA,a]
  rw[b.out];have h:eD m=s:=a▸LW hs;have r:m.Pairwise (·<·):=a▸xb s;have q:∀x∈m,x<64:=a▸fun x hx=>JC hx;rw[<-a]at g h1;have O:N<=m.length:=by omega
  have M:N<=64:=by have:=tN s;rw[<-a]at this;omega
  have T:=dF ((m.length:Int)<(N:Int)) (by omega);have I:=dF (m.length<N) (by omega);have H:¬m.length<N:=by omega
  have z:=ah (KJ r q N);have C:=ah h;have y:=ah r;have A:=ah q;have c:=jm s (eD (m.drop N));rw[<-h,z.out,h]at c;have D:=ah c;have Q:decide ((N:Int)<0)=false:=by simp
  have G:¬(N:Int)<0:=by omega
  have K:s<18446744073709551616:=hs;clear c h r q l h1 a;go_in;go_wp2_with fail;refine aQ g ?_;go_wp2
  go_loop [6,17] (fun X Y=>∃j:Nat,j<=N/\X=.int .u64 ((eD (m.drop j):Nat):Int)/\Y=.int .i64 j) (fun _ Y=>N-(intOf Y).toNat)
  case atStart=>exact⟨0,by omega,by rw[List.drop_zero,C.out],rfl⟩
  case round=>
   obtain⟨j,F,rfl,rfl⟩:=hrel;by_cases P:j<N
   ·have f:=dR (show j<m.length by omega)
    have v:∀x∈m.drop (j+1),m[j]<x:=by
     have:=y.sublist (List.drop_sublist j m);rw[f]at this;exact(dY.1 this).1
    have p:=Kw v;rw[<-f]at p;have o:eD (m.drop j)<2^64:=rz _ 64 (y.sublist (List.drop_sublist _ _)) (fun x hx=>A x (oX hx))
    have u:0<eD (m.drop j):=by
     rw[f,vo];have:=rC m[j];omega
    have d:=j9 (eD (m.drop j)) (eD (m.drop j)-1) o (by omega);rw[p]at d;obtain⟨R,hR⟩:=nm (eD (m.drop j));obtain⟨E,t⟩:=nm (eD (m.drop (j+1)));rw[<-hR]at d o u⊢;rw[<-t]at d;have i:((R-1:Nat):Int)=(R:Int)-1:=by omega
    rw[i]at d;have B:=ah t;have U:(1:Int)<=(R:Int):=by omega
    have J:(R:Int)<=18446744073709551615:=by omega
    have hw:IntKind.u64.wrap ((R:Int)-1)=(R:Int)-1:=by rw[<-i];exact wrap_u64 _ (by omega)
    clear hR t p v f i o u;go_wp2_with fail
    go_round
    case rel=>exact⟨j+1,by omega,by rw[<-B.out],by go_num⟩
    case measure=>simp[intOf];omega
   ·obtain rfl:j=N:=by omega
    obtain⟨R,hR⟩:=nm (eD (m.drop j));have c:=D.out;rw[<-hR]at c⊢;clear hR;go_wp2;go_ret2;exact⟨rfl,rfl⟩
def E0(x:Nt):List Vl:=[x.kd,x.nd,x.jb,x.ep]
abbrev Nts:=cp E0 4
abbrev xn:=be E0 4
theorem EG:wU E0 4:=⟨fun _=>rfl,fun x u a=>by simp[E0]at a;rcases a with rfl|rfl|rfl|rfl<;>rfl,by omega⟩
theorem EX:(prog.info? 42).map (fun i=>(i.zero,i.size,i.bytes))=some (some (.agg #[(),(),(),()]),4,32):=by kernel_rfl
def EY(l:List Nd)(n:Int):List Nt:=if(sr l n).2 then [(sr l n).1]else []
def gm(l:List Nd)(ag:List Int):List Nt:=ag.flatMap (EY l)
variable{l:List Nd}{k:Nat}{n:Int}
theorem EZ{ag:List Int}(h:ag[k]?=some n):gm l (ag.take (k+1))=gm l (ag.take k)++EY l n:=by
 unfold gm;rw[aM h,rE];simp
theorem pn(l:List Nd):∀ag:List Int,(gm l ag).length<=ag.length
 |[]=>by simp[gm]
 |n::r=>by
  have:=pn l r;unfold gm at this⊢;rw[nC,cY,dV];have:(EY l n).length<=1:=by unfold EY;split<;>simp
  omega
def NewT(l:List Nt)(w:Wd)(e:Ed)(w':Wd):Prop:=∃A c,e=.returned (.slice A l.length c)/\xn w' w A l.length c l/\Bl w w w'
def NtRel(w:Wd)(l:List Nd)(ag:List Int)(X Y:Vl)(wr:Wd):Prop:=∃(k:Nat) (A:OA) (n c:Nat),k<=ag.length/\X=.slice A n c/\Y=.int .i64 k/\n<=k/\xn wr w A n c (gm l (ag.take k))/\Bl w w wr
theorem BO(A:OA)(n c:Nat)(l:List Nd)(I:OA)(m d:Nat)(ag:List Int)(w:Wd)(h:tm w A n l)(hn:n<=maxLen)(g:fs w I m ag)(hm:m<=1000):
 Cs prog 94 #[.slice A n c,.slice I m d] w (NewT (gm l ag) w):=by
 have Z:=h.cb;subst Z;have yL:=g.cb;subst yL;have Q:=ah h;have O:=ah g;clear h g;go_in;go_wp2
 go_loopw [5,12] (fun X Y wr=>NtRel w l ag X Y wr) (fun _ Y _=>ag.length-(intOf Y).toNat)
 case atStart=>exact⟨0,none,0,0,by omega,rfl,rfl,by omega,be.nil _ _ _ _,cC _ _⟩
 case round=>
  obtain⟨k,u,C,B,hk,rfl,rfl,yO,a,s⟩:=hrel;have v:=ah a;clear a;by_cases yN:k<ag.length
  ·obtain⟨b,off,x,rfl,hb,hx,H⟩:=cp.int (O.ae s) yN;have e:=ah (EZ (l:=l) hx);have G:=ah (O7 A l.length c l x wr (Q.ae s) hn);unfold EY at e;obtain⟨t,ht⟩:=nm (sr l x);rw[<-ht]at e G;clear hx ht;obtain⟨⟨o,p,j,i⟩,W⟩:=t;simp only[S5]at G;simp only at e;go_wp2_with fail;refine av G fun r b2=> ?_;have yK:=aa s b2;obtain⟨V,f⟩:=nm (r.alloc (.cells #[o,p,j,i] 42));have z:Bl r r V:=f▸bR.alloc lr _;have F:=aa yK z;cases W
   ·rw[cL (by simp),fO]at e;have yJ:=ah f;clear H f;go_wp2_with fail;rw[<-yJ.out];exact⟨⟨k+1,u,C,B,by omega,rfl,by go_num,by omega,by rw[e.out];exact(v.ae b2).ae z,F⟩,by simp[intOf];omega⟩
   ·rw[cK rfl]at e;obtain⟨U,q⟩:=nm (V.alloc (.cells #[o,p,j,i] 42));have y:Bl V V U:=q▸bR.alloc lr _;have L:V.heap.size=r+1:=by rw[f];simp
    have K:Nts U V 1 [⟨o,p,j,i⟩]:=q▸cp.new EG V ⟨o,p,j,i⟩ #[o,p,j,i] 42 rfl;obtain⟨M,T,w3,E,D,b3,_,_⟩:=dy EG (P:=prog) U w 107 107 42 _ 32 underlying107 EX rfl u C B _ (((v.ae b2).ae z).ae y) V 1 1 [⟨o,p,j,i⟩] K (by simp only[maxLen];omega) (by omega) (cF F.size y.size);rw[<-e.out]at D;rw[q,L,f]at E;have S:=ah E;have yI:=ah D;have yM:=(aa F y).trans b3;clear E D K q L f H;go_wp2_with(at_builtin;refine au rfl _ _ rfl rfl rfl S ?_);exact⟨⟨k+1,M,C+1,T,by omega,rfl,by go_num,by omega,yI,yM⟩,by simp[intOf];omega⟩
  ·obtain rfl:k=ag.length:=by omega
   have a:=v.out;rw[cT]at a;have J:=a.1;have N:=ah a;have R:=ah J;clear a J;go_wp2;go_ret;unfold NewT;rw[R.out];exact⟨u,B,rfl,N,s⟩
def qz(act:Int):Bool:=act==1||act==2||act==3||act==5||act==7||act==10
theorem LU(act:Int)(w:Wd):Cs prog 314 #[act] w fun e w'=>e=.returned (qz act:Bool)/\w=w':=by
 by_cases a:act=1
 ·subst a;go_in;go_wp2;go_ret;exact⟨rfl,rfl⟩
 have b1:(act==1)=false:=by simpa using a
 by_cases b:act=2
 ·subst b;go_in;go_wp2;go_ret;exact⟨rfl,rfl⟩
 have b2:(act==2)=false:=by simpa using b
 by_cases c:act=3
 ·subst c;go_in;go_wp2;go_ret;exact⟨rfl,rfl⟩
 have b3:(act==3)=false:=by simpa using c
 by_cases d:act=5
 ·subst d;go_in;go_wp2;go_ret;exact⟨rfl,rfl⟩
 have b5:(act==5)=false:=by simpa using d
 by_cases f:act=7
 ·subst f;go_in;go_wp2;go_ret;exact⟨rfl,rfl⟩
 have i:(act==7)=false:=by simpa using f
 by_cases g:act=10
 ·subst g;go_in;go_wp2;go_ret;exact⟨rfl,rfl⟩
 have j:(act==10)=false:=by simpa using g
 have h:Hid (qz act=false):=by show _=_;simp[qz,b1,b2,b3,b5,i,j]
 clear a b c d f g;go_in;go_wp2;go_ret;exact⟨ar h.symm,rfl⟩
set_option maxRecDepth 512
def gG(act bD am:Int):List Nd->List Int->List Nd×Int
 |l,[]=>(l,0)
 |l,n::r=>if(rg l n act bD am).2=0 then gG act bD am (rg l n act bD am).1 r else([],(rg l n act bD am).2)
def ft(l:List Nd)(s:Nat)(act bD am:Int):List Nd×List Nt×Int:=
 if aO l=false then([],[],120)else
 if(gG act bD am l (dL (dw s))).2=0 then((gG act bD am l (dL (dw s))).1,if qz act then gm (gG act bD am l (dL (dw s))).1 (dL (dw s))else [],0)else([],[],(gG act bD am l (dL (dw s))).2)
structure An(bl:Nat)(w w':Wd):Prop where
 size:w.heap.size<=w'
 same:∀b,b<w.heap.size->b≠bl->w'.heap[b]?=w.heap[b]?
 du:Bl bl w w'
theorem An.refl(bl:Nat)(w:World):An bl w w:=⟨cB _,fun _ _ _=>rfl,cC _ _⟩
variable{bl:Nat}
theorem An.trans{a b c:World}(h:An bl a b)(k:An bl b c):An bl a c:=⟨cF h.size k.size,fun x hx hn=>(k.same x (cD hx h.size) hn).trans (h.same x hx hn),h.du.trans k.du⟩
theorem An.ce{g:Nat}{w w':World}{t:TypeId}{cs:Array Value}(h:An bl w w')(a:ai w g t cs)(hn:g≠bl):ai w' g t cs:=(h.same g a.lt hn).trans a
theorem An.aX{w w':Wd}(h:Bl w.heap.size w w')(a:bl<=w.heap.size):An bl w w':=⟨h.size,fun b c _=>h.block b c,h.mono a⟩
theorem An.set{w:World}(i:Nat)(u:Value):An bl w (w.setCell ⟨bl,i,none⟩ u):=⟨by simp,fun b _ hn=>dN w _ u b hn,(cC bl w).setCell (p:=⟨bl,i,none⟩) lr u⟩
theorem An.cells{α:Type}{f:α->List Vl}{w w':Wd}{A:OA}{n:Nat}{l:List α}(h:An bl w w')(g:cp f k w A n l)(hA:0<n->∀b off,A=some ⟨b,off,none⟩->b≠bl):cp f k w' A n l:=by
 refine⟨Cells.cb g,Cells.eZ g,fun hn=> ?_⟩;obtain⟨b,off,e,c,d⟩:=Cells.at_ g hn;exact⟨b,off,e,cD c h.size,fun i r m j v o=>(dI (a:=⟨b,off+i*k+j,none⟩) (h.same b c (hA hn b off e))).trans (d i r m j v o)⟩
def TH(bl:Nat)(r:List Nd×Int)(w:Wd)(e:Ed)(w':Wd):Prop:=
 e=.returned (.int .i64 r.2)/\An bl w w'/\(r.2=0->∃A c,ai w' bl 22 #[.slice A r.1.length c]/\tm w' A r.1.length r.1/\(0<r.1.length->∀b off,A=some ⟨b,off,none⟩->b≠bl)/\(A=none->c=0))
theorem KS(bl ba k o:Nat)(A:OA)(n c:Nat)(l:List Nd)(m act bD am:Int)(w:Wd)(f:ai w bl 22 #[.slice A n c])(s:ai w ba 3 #[.int .i64 act])(t:ai w k 3 #[.int .i64 bD])(u:ai w o 3 #[.int .i64 am])
 (h:tm w A n l)(hn:n<=maxLen)(hA:A=none->c=0):
 Cs prog 313 #[m,.pointer bl,.pointer ba,.pointer k,.pointer o] w (TH bl (rg l m act bD am) w):=by
 have K:=h.cb;subst K;have y:=ah (GL A l.length c l m act bD am w h hn hA);have G:=tv f;have H:=tv s;have I:=tv t;have J:=tv u;have z:=f.lt;obtain⟨r,q⟩:=nm (rg l m act bD am);rw[<-q]at y⊢;have M:=ah f;clear q h hA f s t u;go_in;go_wp2_with fail;refine y.out.mono ?_;rintro e P ⟨j,D,rfl,v,b1⟩;have d:=M.ae b1 z;have Q:=tv d;have N:=d.ao 0;have L:=ah d;have i:=ah v;have x:bl<=w:=iY z;clear d v G H I J;by_cases a:r.2=0
 ·have E:(r.2==0)=true:=by simp[a]
  clear a;go_wp2;go_ret
  have B:0<r.1.length->∀b off,j=some ⟨b,off,none⟩->b≠bl:=by
   intro O b off e;subst e;obtain⟨g,p,R,_⟩:=i.2.room (by have:=i.2.le;omega);replace p:=aI p;omega
  exact⟨rfl,(An.aX b1 x).trans (An.set 0 _),fun _=>⟨j,D,L.out.set 0 _,An.cells (An.set (bl:=bl) 0 _) (i.out.et mb) B,B,i.out.2.cz⟩⟩
 ·have E:(r.2==0)=false:=by simpa using a
  have C:=ah a;clear a;go_wp2;go_ret;exact⟨rfl,An.aX b1 x,fun F=>absurd F C⟩
variable{act bD am:Int}
theorem ur(h:(rg l n act bD am).2=0):∃(k:Nat) (x:Nd),n=(k:Int)/\l[k]?=some x/\aO l=true/\bZ am=true/\jx x act bD=true/\(rg l n act bD am).1=l.set k (bH x act bD am):=by
 cases hc:aO l
 ·rw[Jd hc]at h;cases h
 ·by_cases a:n<0\/(l.length:Int)<=n
  ·rw[CH a]at h;cases h
  ·obtain⟨k,rfl⟩:∃k:Nat,n=(k:Int):=⟨n.toNat,by omega⟩;have hx:=cE (show k<l.length by omega);rw[CG hc hx]at h⊢;cases ht:bZ am
   ·rw[ht,cK rfl]at h;cases h
   ·rw[ht,cL (by simp)]at h;cases hm:jx l[k] act bD
    ·rw[hm,cK rfl]at h;cases h
    ·exact⟨k,_,rfl,hx,rfl,rfl,hm,by simp⟩
set_option maxRecDepth 100000
def DJ(r:List Nd×List Nt×Int)(w:Wd)(e:Ed)(w':Wd):Prop:=∃A c B d,e=.returned (.tuple #[.slice A r.1.length c,.slice B r.2.1.length d,r.2.2])/\mK w' w A r.1.length c r.1/\xn w' w B r.2.1.length d r.2.1/\Bl w w w'
theorem GN{cur:List Nd}{a:List Int}(h:a[k]?=some n):gG act bD am cur (a.drop k)=if(rg cur n act bD am).2=0 then gG act bD am (rg cur n act bD am).1 (a.drop (k+1))else([],(rg cur n act bD am).2):=by
 obtain⟨b,rfl⟩:=cA.1 h;rw[dR b];rfl
theorem KT{s:Nat}(h:aO l=false):ft l s act bD am=([],[],120):=by rw[ft,cK h]
theorem KU{s:Nat}{r:Int}(h:aO l=true)(g:gG act bD am l (dL (dw s))=([],r))(a:r≠0):ft l s act bD am=([],[],r):=by
 rw[ft,cL (by simp[h]),g,cL a]
theorem N8{m:List Nd}{s:Nat}(h:aO l=true)(g:gG act bD am l (dL (dw s))=(m,0)):ft l s act bD am=(m,if qz act then gm m (dL (dw s))else [],0):=by
 rw[ft,cL (by simp[h]),g,cK rfl]
theorem Rb(h:(rg l n act bD am).2=0):(rg l n act bD am).1.length=l.length:=by
 obtain⟨k,x,_,_,_,_,_,e⟩:=ur h;rw[e];simp
def Qo(bl:Nat)(d:Wd)(l:List Nd)(a:List Int)(act bD am:Int)(Y:Vl)(wr:Wd):Prop:=
 ∃(k:Nat) (A:OA) (c:Nat) (cur:List Nd),k<=a.length/\Y=.int .i64 k/\ai wr bl 22 #[.slice A cur.length c]/\tm wr A cur.length cur/\(0<cur.length->∀b off,A=some ⟨b,off,none⟩->b≠bl)/\(A=none->c=0)/\cur.length=l.length/\gG act bD am l a=gG act bD am cur (a.drop k)/\An bl d wr
theorem xS(A:OA)(n c:Nat)(l:List Nd)(s:Nat)(act bD am:Int)(w:Wd)(h:tm w A n l)(hn:n<=maxLen)(hA:A=none->c=0)(hs:s<2^64):
 Cs prog 199 #[.slice A n c,.int .u64 (s:Int),act,bD,am] w (DJ (ft l s act bD am) w):=by
 have yS:=h.cb;subst yS;obtain⟨V,i⟩:=nm ((((w.alloc (.cells #[.slice A l.length c] 22)).alloc (.cells #[act] 3)).alloc (.cells #[bD] 3)).alloc (.cells #[am] 3));have C:ai V w 22 #[.slice A l.length c]:=i▸(((ai.new _ _ _).alloc _).alloc _).alloc _
 have M:ai V (w+1) 3 #[act]:=by
  rw[i];have:=((ai.new (w.alloc (.cells #[.slice A l.length c] 22)) 3 #[act]).alloc (.cells #[bD] 3)).alloc (.cells #[am] 3);simpa using this
 have N:ai V (w+1+1) 3 #[bD]:=by
  rw[i];have:=(ai.new ((w.alloc (.cells #[.slice A l.length c] 22)).alloc (.cells #[act] 3)) 3 #[bD]).alloc (.cells #[am] 3);simpa using this
 have O:ai V (w+1+1+1) 3 #[am]:=by
  rw[i];have:=ai.new (((w.alloc (.cells #[.slice A l.length c] 22)).alloc (.cells #[act] 3)).alloc (.cells #[bD] 3)) 3 #[am];simpa using this
 have J:Bl w w V:=i▸(((bR.alloc lr _).alloc (by simp) _).alloc (by simp<;>omega) _).alloc (by simp<;>omega) _;have G:=ah (jJ A l.length c l V (h.ae J) hn);have uT:=C.lt;cases hck:aO l
 ·rw[eM hck]at G;have f:=ah (KT (s:=s) (act:=act) (bD:=bD) (am:=am) hck);clear hck h hA C M N O;go_in;go_wp2_with fail;rw[<-i];clear i;refine av G fun w1 b1=> ?_;go_wp2;go_ret3;rw[f.out];exact⟨none,0,none,0,rfl,be.nil _ _ _ _,be.nil _ _ _ _,aa J b1⟩
 ·rw[fh hck]at G;have yJ:=ah hck;have uM:=(cQ.1 hck).cf;have uG:=ah (BJ s);have HH:=ah h;have HA:=ah hA;have uO:=ah (LU act);obtain⟨a,E⟩:=nm (dw s);have uY:a.length<=64:=E▸tN s;have yX:=ah E;rw[<-E]at uG;have uP:=ah C;have uC:=ah M;have uK:=ah N;have uF:=ah O;clear hck h hA E C M N O;go_in;go_wp2_with fail;rw[<-i];clear i;refine av G fun w1 b1=> ?_;go_wp2_with fail;refine(uG w1 hs).mono ?_;rintro e w3 ⟨I,d,rfl,D,b3⟩;have q:=aa b1 b3;have yY:=aa J q;have uS:=ah (D.et gi)
  have yL:0<a.length->∀b off,I=some ⟨b,off,none⟩->b≠w:=by
   intro hp b off e;subst e;obtain⟨g,p,qC,_⟩:=D.2.room (by have:=D.2.le;omega);replace p:=aI p;have:=b1.size;omega
  have yQ:=ah yL;have S:(dL a).length=a.length:=by simp[dL]
  clear D yL;go_wp2
  go_loopw [30] (fun Y wr=>Qo w w3 l (dL a) act bD am Y wr) (fun Y _=>a.length-(intOf Y).toNat)
  case atStart=>
   refine⟨0,A,c,l,by omega,rfl,uP.ae q uT,HH.ae yY,?_,HA,rfl,by rw[List.drop_zero],An.refl _ _⟩;intro hp b off e;subst e;obtain⟨b',uV,x,L,W,_⟩:=HH.at_ hp;injection L with L
   injection L with e1 e2;omega
  case round=>
   obtain⟨k,H,K,cur,hk,rfl,t,y,uE,Z,uL,F,m⟩:=hrel;rw[S]at hk;have qB:=m.size;have uU:=yY.size;have uZ:=q.size;have X:=m.du;have v:=m.ce (uC.ae q uC.lt) (by omega);have Q:=m.ce (uK.ae q uK.lt) (by omega);have R:=m.ce (uF.ae q uF.lt) (by omega);have uA:=ah F;have yZ:=ah m;have U:=ah (yY.trans X);have hi:=m.cells uS yQ;by_cases uW:k<a.length
   ·obtain⟨b,off,x,rfl,hb,hx,d0⟩:=cp.int hi uW;have z:=ah (GN (act:=act) (bD:=bD) (am:=am) (cur:=cur) hx);have uD:=ah (KS w (w+1) (w+1+1) (w+1+1+1) H cur.length K cur x act bD am wr t v Q R y (by omega) Z);have uH:=ah (Rb (l:=cur) (n:=x) (act:=act) (bD:=bD) (am:=am));obtain⟨r,hr⟩:=nm (rg cur x act bD am);rw[<-hr]at z uD uH;clear hx hr t v Q R F m X hi y uE Z;go_wp2_with fail;refine uD.out.mono ?_;rintro e w4 ⟨rfl,uB,p⟩;by_cases j:r.2=0
    ·have e1:(r.2==0)=true:=by simp[j]
     rw[cK j]at z;obtain⟨A2,c2,k2,n2,uI,uJ⟩:=p j;have uR:=ah k2;have uN:=ah n2;have yP:=ah uI;have uX:=ah uJ;have qA:=uH.out j;clear p j k2 n2 uI uJ;go_wp2_with fail;exact⟨⟨k+1,A2,c2,r.1,by rw[S];omega,by go_num,uR,uN,yP,uX,by omega,by rw[uA.out,z.out],yZ.trans uB⟩,by simp[intOf];omega⟩
    ·have e1:(r.2==0)=false:=by simpa using j
     rw[cL j]at z;have f:=ah (KU yJ (by rw[<-yX.out,uA.out,z.out]) j);clear p j;go_wp2;go_ret3;rw[f.out];exact⟨none,0,none,0,rfl,be.nil _ _ _ _,be.nil _ _ _ _,U.trans uB.du⟩
   ·obtain rfl:k=a.length:=by omega
    have hz:gG act bD am l (dL (dw s))=(cur,0):=by
     rw[<-yX.out,F,<-S,lH];rfl
    have f:=ah (N8 yJ hz);rw[<-yX.out]at f;obtain⟨A',c',W',T,o',W,uQ,_⟩:=dy mb (P:=prog) (wr.alloc (.cells #[] 34)) wr 22 22 34 _ 56 underlying22 nodeInfo rfl wr 0 0 [] (be.none _ _ _ _ _) H cur.length K cur (y.ae (bR.alloc lr _)) (by simp[maxLen];omega) (by omega) (by simp);simp only[cR,dH]at T o';have o:Bl wr wr W':=(bR.alloc lr _).trans W;have y0:=tv (t.alloc (.cells #[] 34));have z0:=tv (t.ae o t.lt);have za:=tv (v.ae o v.lt);have HR:=ah T;have HO:=ah o';have u:w.heap.size<=wr:=by omega
    have yR:=ah (y.ae o);have HI:=ah (hi.ae o);have yU:cur.length<=48:=by omega
    clear uL uQ T o' W y hi Q R v t F m uE Z hz X;go_wp2_with(at_builtin;refine au rfl _ _ rfl rfl rfl HR ?_);refine(uO _).mono ?_;rintro e w5 ⟨rfl,rfl⟩;cases hsd:qz act
    ·rw[hsd]at f;go_wp2;go_ret3;rw[f.out];exact⟨A',c',none,0,rfl,HO.out.mono u,be.nil _ _ _ _,U.trans (o.mono u)⟩
    ·rw[hsd]at f;go_wp2_with fail;refine(BO H cur.length K cur I a.length d (dL a) _ yR (cF yU (by simp[maxLen])) HI (by omega)).mono ?_;rintro e w6 ⟨B,d6,rfl,o6,b6⟩;go_wp2;go_ret3;rw[f.out];exact⟨A',c',B,d6,rfl,(HO.out.mono u).ae b6,o6.mono (cF u o.size),(U.trans (o.mono u)).trans (b6.mono (cF u o.size))⟩
set_option maxRecDepth 512
open Go renaming Program->Pg
def ii(l:List Nd)(ag act bD am:Int):List Nd×Nat×List Nt×Int:=
 if act≠1/\act≠2 then([],0,[],120)else
 if aO l=false then([],0,[],120)else
 if ag<1\/48<ag then([],0,[],2)else
 if(nk (cd fo l) ag).2=false then([],0,[],130)else
 if(ft l (nk (cd fo l) ag).1 act bD am).2.2=0 then((ft l (nk (cd fo l) ag).1 act bD am).1,(nk (cd fo l) ag).1,(ft l (nk (cd fo l) ag).1 act bD am).2.1,0)
 else([],0,[],(ft l (nk (cd fo l) ag).1 act bD am).2.2)
def AN(r:List Nd×Nat×List Nt×Int)(w:Wd)(e:Ed)(w':Wd):Prop:=∃A c B d,e=.returned (.tuple #[.slice A r.1.length c,.int .u64 (r.2.1:Int),.slice B r.2.2.1.length d,r.2.2.2])/\mK w' w A r.1.length c r.1/\xn w' w B r.2.2.1.length d r.2.2.1/\Bl w w w'
theorem gZ{r:Int}{w w':Wd}(b:Bl w w w'):AN ([],0,[],r) w (.returned (.tuple #[.slice none 0 0,.int .u64 0,.slice none 0 0,r])) w':=⟨none,0,none,0,rfl,be.nil _ _ _ _,be.nil _ _ _ _,b⟩
theorem Se(s:Nat)(n:Int)(hs:s<2^64):(nk s n).1<2^64:=by
 unfold nk;split
 ·simp
 ·refine rz _ _ ((xb s).sublist (nX _ _)) fun y a=> ?_;exact JC (lG a)
theorem Mk(q:Nd->Bool)(l:List Nd):cd q l<2^64:=by
 unfold cd;split
 ·next h=>exact cD (Dq q l) (oA (by omega) (by have:=(cQ.1 h).cf;omega))
 ·simp
theorem go{a:Func}{t u v x:Tmp}(h:a.results= #[.tmp t,.tmp u,.tmp v,.tmp x])(tmps:Array Vl)(P:Pg)(w:Wd):
 (results a tmps).run P w=.ok (.tuple #[tmps.getD t undef,tmps.getD u undef,tmps.getD v undef,tmps.getD x undef]) w:=by
 simp[results,h]
theorem K2(A:OA)(n c:Nat)(l:List Nd)(ag act bD am:Int)(w:Wd)(h:tm w A n l)(hn:n<=maxLen)(hA:A=none->c=0):
 Cs prog 190 #[.slice A n c,ag,act,bD,am] w (AN (ii l ag act bD am) w):=by
 have T:=h.cb;subst T;by_cases i:act≠1/\act≠2
 ·rw[ii,cK i];have O:(act==1)=false:=by simp[i.1]
  have U:(act==2)=false:=by simp[i.2]
  obtain⟨P,Q⟩:=i;have E:decide (act=1)=false:=by simp[P]
  have F:decide (act=2)=false:=by simp[Q]
  clear h hA;go_in;go_wp2_with fail
  (try simp only[Exit.inBlock,Exit.then]);refine cU (go rfl _ _ _) rfl ?_
  exact gZ bR
 have g:=ah (jJ A l.length c l w h hn);rw[ii,cL i]
 have m:act=1\/act=2:=by
  by_cases h1:act=1
  ·exact .inl h1
  ·by_cases h2:act=2
   ·exact .inr h2
   ·exact absurd ⟨h1,h2⟩ i
 clear i;by_cases k:aO l=false
 ·rw[cK k];rw[eM k]at g;clear h hA k;rcases m with rfl|rfl
  iterate 2
   ·go_in;go_wp2_with fail;refine g.out.mono ?_;rintro e a ⟨rfl,b1⟩;go_wp2_with fail
    (try simp only[Exit.inBlock,Exit.then]);refine cU (go rfl _ _ _) rfl ?_
    exact gZ b1
 have x:aO l=true:=by simpa using k
 rw[cL k];rw[fh x]at g;have Y:=(cQ.1 x).cf;clear k x;by_cases y:ag<1
 ·rw[cK (.inl y)];have E:decide (ag<1)=true:=by simp[y]
  clear h hA;rcases m with rfl|rfl
  iterate 2
   ·go_in;go_wp2_with fail;refine g.out.mono ?_;rintro e a ⟨rfl,b1⟩;go_wp2_with fail
    (try simp only[Exit.inBlock,Exit.then]);refine cU (go rfl _ _ _) rfl ?_
    exact gZ b1
 have E:decide (ag<1)=false:=by simp[y]
 by_cases D:48<ag
 ·rw[cK (.inr D)];have F:decide (48<ag)=true:=by simp[D]
  clear h hA;rcases m with rfl|rfl
  iterate 2
   ·go_in;go_wp2_with fail;refine g.out.mono ?_;rintro e a ⟨rfl,b1⟩;go_wp2_with fail
    (try simp only[Exit.inBlock,Exit.then]);refine cU (go rfl _ _ _) rfl ?_
    exact gZ b1
 have F:decide (48<ag)=false:=by simp[D]
 rw[cL (by omega)];have z:=ah fun(a:Wd) (b:Bl w w a)=>Oq A l.length c l a (h.ae b) hn;have v:cd fo l<2^64:=Mk _ _;have o:=ah fun(a:Wd)=>Hg (cd fo l) ag a v;have L:=Se (cd fo l) ag v;have p:=ah fun(a:Wd) (b:Bl w w a)=>xS A l.length c l (nk (cd fo l) ag).1 act bD am a (h.ae b) hn hA L;obtain⟨q,G⟩:=nm (nk (cd fo l) ag);rw[<-G]at o p⊢;obtain⟨r,H⟩:=nm (ft l q.1 act bD am);rw[<-H]at p⊢;clear G H h hA v L;obtain⟨V,R⟩:=q;obtain⟨W,X,I⟩:=r;simp only at o p⊢;cases R
 ·rw[cK rfl];rcases m with rfl|rfl
  iterate 2
   ·go_in;go_wp2_with fail;refine g.out.mono ?_;rintro e a ⟨rfl,b1⟩;go_wp2_with fail;refine(z _ b1).mono ?_;rintro e J ⟨rfl,b2⟩;go_wp2_with fail;refine(o _).mono ?_;rintro e K ⟨rfl,rfl⟩;go_wp2_with fail
    (try simp only[Exit.inBlock,Exit.then]);refine cU (go rfl _ _ _) rfl ?_
    exact gZ (aa b1 b2)
 ·rw[cL (by simp)];by_cases u:I=0
  ·subst u;rw[cK rfl];rcases m with rfl|rfl
   iterate 2
    ·go_in;go_wp2_with fail;refine g.out.mono ?_;rintro e a ⟨rfl,b1⟩;go_wp2_with fail;refine(z _ b1).mono ?_;rintro e J ⟨rfl,b2⟩;have j:=aa b1 b2;go_wp2_with fail;refine(o _).mono ?_;rintro e K ⟨rfl,rfl⟩;go_wp2_with fail;refine(p _ j).mono ?_;rintro e S ⟨B,d,C,f,rfl,s,t,b4⟩;have M:=ah s;have N:=ah t;clear s t;go_wp2_with fail
     (try simp only[Exit.inBlock,Exit.then]);refine cU (go rfl _ _ _) rfl ?_
     exact⟨B,d,C,f,rfl,M.out.mono j.size,N.out.mono j.size,aa j b4⟩
  ·rw[cL u];have O:(I==0)=false:=by simpa using u
   rcases m with rfl|rfl
   iterate 2
    ·go_in;go_wp2_with fail;refine g.out.mono ?_;rintro e a ⟨rfl,b1⟩;go_wp2_with fail;refine(z _ b1).mono ?_;rintro e J ⟨rfl,b2⟩;have j:=aa b1 b2;go_wp2_with fail;refine(o _).mono ?_;rintro e K ⟨rfl,rfl⟩;go_wp2_with fail;refine(p _ j).mono ?_;rintro e S ⟨B,d,C,f,rfl,s,t,b4⟩;clear s t;go_wp2_with fail
     (try simp only[Exit.inBlock,Exit.then]);refine cU (go rfl _ _ _) rfl ?_
     exact gZ (aa j b4)
def jq(l:List Nd)(bD:Int):Nat:=if bD<1 then 0 else cd (xd bD 1) l
theorem Oy(A:OA)(n c:Nat)(l:List Nd)(bD:Int)(w:Wd)(h:tm w A n l)(hn:n<=maxLen):
 Cs prog 19 #[.slice A n c,bD] w (an (.int .u64 (jq l bD:Int)) w):=by
 have f:=h.cb;subst f;by_cases a:bD<1
 ·have b:Hid (jq l bD=0):=by show _=_;rw[jq,cK a]
  have e:decide (bD<1)=true:=by simp[a]
  rw[b.out];clear h;go_in;go_wp2;go_ret;exact⟨rfl,cC _ _⟩
 ·have b:Hid (jq l bD=cd (xd bD 1) l):=by show _=_;rw[jq,cL a]
  have e:decide (bD<1)=false:=by simp[a]
  rw[b.out];have d:=ah (CK A l.length c l bD 1 w h hn);clear h;go_in;go_wp2_with fail;refine av d fun g b1=> ?_;go_wp2;go_ret;exact⟨rfl,b1⟩
def jA(l:List Nd)(n:Int):Bool:=(l[n.toNat]?.map fun x=>x.wt==0).getD false
def kx(l:List Nd)(s:Nat):Bool:=aO l&&(dL (dw s)).all (jA l)
def QRel(w:Wd)(l:List Nd)(a:List Int)(Y:Vl)(wr:Wd):Prop:=∃k:Nat,k<=a.length/\Y=.int .i64 k/\wr=w/\(a.take k).all (jA l)=true
theorem LH(A:OA)(n c:Nat)(l:List Nd)(s:Nat)(w:Wd)(h:tm w A n l)(hn:n<=maxLen)(hs:s<2^64):
 Cs prog 59 #[.slice A n c,.int .u64 (s:Int)] w (an (kx l s:Bool) w):=by
 have R:=h.cb;subst R;have p:=ah (jJ A l.length c l w h hn);cases hck:aO l
 ·rw[eM hck]at p;have r:Hid (kx l s=false):=by show _=_;rw[kx,hck,nI]
  rw[r.out];clear h hck;go_in;go_wp2;go_step3;go_wp2_with fail;refine av p fun D b1=> ?_;go_wp2_with fail;rw[dM];go_ret;exact⟨rfl,b1⟩
 ·rw[fh hck]at p;have r:Hid (kx l s=(dL (dw s)).all (jA l)):=by show _=_;rw[kx,hck,lO]
  rw[r.out];have E:=ah (BJ s);obtain⟨a,v⟩:=nm (dw s);have yN:a.length<=64:=v▸tN s;rw[<-v]at E⊢;have Z:=(cQ.1 hck).cf;have F:=ah h;clear hck v h;go_in;go_wp2;go_step3;go_wp2_with fail;refine av p fun D b1=> ?_;go_wp2;go_step3;go_wp2_with fail;refine(E D hs).mono ?_;rintro e Q ⟨I,d,rfl,C,b3⟩;have q:=aa b1 b3;have S:=ah (C.et gi);have u:(dL a).length=a.length:=by simp[dL]
  clear C;go_wp2
  go_loopw [13] (fun Y wr=>QRel Q l (dL a) Y wr) (fun Y _=>a.length-(intOf Y).toNat)
  case atStart=>exact⟨0,by omega,rfl,rfl,by simp⟩
  case round=>
   obtain⟨k,H,rfl,rfl,o⟩:=hrel;rw[u]at H;by_cases T:k<a.length
   ·obtain⟨b,off,x,rfl,V,hx,U⟩:=cp.int S T
    obtain⟨m,J⟩:∃m:Nat,x=(m:Int):=by
     rw[dL,dD]at hx
     cases e:a[k]? with
     |none=>rw[e]at hx;cases hx
     |some m=>rw[e]at hx;injection hx with hx;exact⟨m,hx.symm⟩
    subst J
    have i:Hid (((dL a).take (k+1)).all (jA l)=jA l m):=by
     show _=_;rw[aM hx,List.all_append,o];simp
    have f:Hid (jA l m=false->(dL a).all (jA l)=false):=by
     show _->_;intro e;rw[nZ];exact⟨_,vg hx,by rw[e];simp⟩
    clear hx o;by_cases y:m<l.length
    ·obtain⟨b2,X,z,rfl,yO,B,K,L,M,N,W,O,P⟩:=cp.seven (F.ae q) y;have j:jA l m=(z.wt==0):=by simp[jA,B]
     rw[j]at i f;have G:decide ((m:Int)<(l.length:Int))=true:=by simp[y]
     clear B j K L M N O P;by_cases hw:z.wt=0
     ·have t:(z.wt==0)=true:=by simp[hw]
      rw[t]at i;clear hw f;go_wp2_with fail;exact⟨⟨k+1,by rw[u];omega,by go_num,rfl,i⟩,by simp[intOf];omega⟩
     ·have t:(z.wt==0)=false:=by simp[hw]
      rw[t]at f;have g:=ah (f rfl);clear hw f i;go_wp2_with fail;rw[dM];go_ret;rw[g.out];exact⟨rfl,q⟩
    ·have j:jA l m=false:=by
      rw[jA,iA,dP (by omega)];rfl
     have g:=ah (f j);have G:decide ((m:Int)<(l.length:Int))=false:=by simp[y]
     clear j f i;go_wp2_with fail;rw[dM];go_ret;rw[g.out];exact⟨rfl,q⟩
   ·obtain rfl:k=a.length:=by omega
    have g:Hid ((dL a).all (jA l)=true):=by show _=_;rw[<-u,cT]at o;exact o
    clear o;go_wp2_with fail;rw[dM];go_ret;rw[g.out];exact⟨rfl,q⟩
structure My(l m:List Nd)(bO:List Nat)(act bD am:Int):Prop where
 cb:m.length=l.length
 at_:∀i,m[i]?=if i∈bO then l[i]?.map (fun x=>bH x act bD am)else l[i]?
 may:∀i∈bO,∃x,l[i]?=some x/\jx x act bD=true
 ok:aO l=true->aO m=true
theorem CC{y:Nd}(h:aO l=true)(a:fb y=true):aO (l.set k y)=true:=by
 have ok:=cQ.1 h;refine cQ.2 ⟨by simpa using ok.some,by simpa using ok.cf,fun x hx=> ?_⟩;rcases fP hx with h|rfl
 ·exact ok.m6 x h
 ·exact a
theorem xR:∀(bO:List Nat) (l:List Nd),bO.Nodup->(gG act bD am l (dL bO)).2=0->My l (gG act bD am l (dL bO)).1 bO act bD am
 |[],l,_,_=>⟨rfl,fun i=>by simp[dL,gG],fun i hi=>by simp at hi,fun h=>h⟩
 |k::r,l,hnd,h=>by
  obtain⟨g,p⟩:=List.nodup_cons.1 hnd;simp only[dL,lY,gG]at h⊢;by_cases b:(rg l (k:Int) act bD am).2=0
  ·rw[cK b]at h⊢;obtain⟨q,x,u,hx,v,ht,j,e⟩:=ur b;obtain rfl:k=q:=by omega
   have a:=xR r _ p h;rw[e]at a;rw[e];have t:k<l.length:=(cA.1 hx).1;refine⟨?_,fun i=> ?_,fun i hi=> ?_,fun o=> ?_⟩
   ·have:=a.cb;rw[nB]at this;exact this
   ·have n:=a.at_ i;simp only[dL]at n;rw[n];by_cases f:i=k
    ·subst f;rw[cL g,cK (by simp),hx,fH t];rfl
    ·have d:k≠i:=fun h=>f h.symm;rw[iK d];by_cases c:i∈r
     ·rw[cK c,cK (by simp[c])]
     ·rw[cL c,cL (by simp[c,f])]
   ·rcases dK.1 hi with rfl|hi
    ·exact⟨x,hx,j⟩
    ·obtain⟨y,m,s⟩:=a.may i hi;have d:k≠i:=fun h=>g (h▸hi);rw[iK d]at m;exact⟨y,m,s⟩
   ·exact a.ok (CC o (ut ((cQ.1 o).m6 x (cG hx)) j ht))
  ·rw[cL b]at h;exact absurd h b
def eQ(l:List Nd)(N:Nat):List Nat:=(pw fo l l.length).take N
theorem qR(l:List Nd)(N:Nat):(eQ l N).Pairwise (·<·):=(If _ _ _).sublist (nX _ _)
theorem PN(h:l.length<=48):∀x∈pw fo l l.length,x<64:=fun x hx=>by
 have:=Do x hx;omega
theorem Ab{N:Nat}(h:l.length<=48):∀x∈eQ l N,x<64:=fun x hx=>PN h x (lG hx)
theorem Aa{N i:Nat}(h:i∈eQ l N):(l[i]?.map fo).getD false=true:=by
 have:=lG h;unfold pw at this;exact(fM.1 this).2
theorem Lk{N:Nat}(h:aO l=true):nk (cd fo l) (N:Int)=if(pw fo l l.length).length<N then(0,false)else(eD (eQ l N),true):=by
 have hw:cd fo l=ia fo l:=by simp[cd,h]
 have b:=BI fo l (by have:=(cQ.1 h).cf;omega);rw[hw,nk,b];by_cases a:(pw fo l l.length).length<N
 ·rw[cK a,cK (.inr (by omega))]
 ·rw[cL a,cL (by omega)];simp[eQ]
structure Ga(l m:List Nd)(N:Nat)(act bD am:Int):Prop where
 pos:1<=N
 cf:N<=48
 isAct:act=1\/act=2
 kq:aO l=true
 cb:(eQ l N).length=N
 done:My l m (eQ l N) act bD am
theorem Ex{ag:Int}(h:(ii l ag act bD am).2.2.2=0):
 ∃(N:Nat) (m:List Nd),ag=(N:Int)/\Ga l m N act bD am/\ii l ag act bD am=(m,eD (eQ l N),gm m (dL (eQ l N)),0):=by
 unfold ii at h⊢;by_cases d:act≠1/\act≠2
 ·rw[cK d]at h;simp at h
 rw[cL d]at h⊢;by_cases b:aO l=false
 ·rw[cK b]at h;simp at h
 rw[cL b]at h⊢;have e:aO l=true:=by simpa using b
 by_cases hn:ag<1\/48<ag
 ·rw[cK hn]at h;simp at h
 rw[cL hn]at h⊢;obtain⟨N,rfl⟩:∃k:Nat,ag=(k:Int):=⟨ag.toNat,by omega⟩;have c:=Lk (N:=N) e;by_cases f:(pw fo l l.length).length<N
 ·rw[cK f]at c;rw[c]at h;simp at h
 rw[cL f]at c;rw[c]at h⊢;rw[cL (by simp)]at h⊢;have p:=(cQ.1 e).cf;have o:dw (eD (eQ l N))=eQ l N:=Lq (qR l N) (Ab p)
 have g:act=1\/act=2:=by
  by_cases h1:act=1
  ·exact .inl h1
  ·by_cases h2:act=2
   ·exact .inr h2
   ·exact absurd ⟨h1,h2⟩ d
 have n:qz act=true:=by rcases g with rfl|rfl<;>rfl
 have i:ft l (eD (eQ l N)) act bD am=if(gG act bD am l (dL (eQ l N))).2=0 then((gG act bD am l (dL (eQ l N))).1,gm (gG act bD am l (dL (eQ l N))).1 (dL (eQ l N)),0)else([],[],(gG act bD am l (dL (eQ l N))).2):=by
  rw[ft,cL b,o,n];simp
 rw[i]at h⊢;by_cases a:(gG act bD am l (dL (eQ l N))).2=0
 ·rw[cK a,cK rfl];have j:=xR (eQ l N) l ((qR l N).imp (fun h=>by omega)) a;exact⟨N,_,rfl,⟨by omega,by omega,g,e,by rw[eQ,fD];omega,j⟩,rfl⟩
 ·rw[cL a]at h;simp only[a,rO]at h
end Go.Proofs.YthfhilggbbobmaaGreatDoor
