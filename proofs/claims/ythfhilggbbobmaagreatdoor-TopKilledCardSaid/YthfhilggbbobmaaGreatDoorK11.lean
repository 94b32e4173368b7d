/- Parts of the proof. -/
import Derived.Test.YthfhilggbbobmaaGreatDoorK3
import Derived.Test.YthfhilggbbobmaaGreatDoorK10
set_option linter.all false
set_option maxHeartbeats 20000000
namespace Go.Proofs.YthfhilggbbobmaaGreatDoor
set_option maxRecDepth 100000
open Go.Proofs.Tryz
open Go renaming World->Wd,Calls->Cs
open Go.RowKit
theorem Cv(a b:Nat)(c:a<2^63)(d:b<2^63):bits .and .i64 (a:Int) (b:Int)=((a&&&b:Nat):Int):=by
 unfold bits;show IntKind.i64.wrap _=_
 have e:((BitVec.ofInt IntKind.i64.bits (a:Int))&&&(BitVec.ofInt IntKind.i64.bits (b:Int))).toNat=a&&&b:=by
  show((BitVec.ofInt 64 (a:Int))&&&(BitVec.ofInt 64 (b:Int))).toNat=a&&&b;rw[BitVec.toNat_and,un a (by omega),un b (by omega)]
 have f:a&&&b<2^63:=nM Nat.and_le_left c;rw[e];exact lS _ (by omega)
structure Pop(s:Nat)where
 (A1 A2 X1 B1 B2 X2 C X3 X4 X5 X6 R:Nat)
 h1:(s/2)&&&6148914691236517205=A1
 h2:s&&&6148914691236517205=A2
 h3:A1+A2=X1
 h4:(X1/4)&&&3689348814741910323=B1
 h5:X1&&&3689348814741910323=B2
 h6:B1+B2=X2
 h7:X2/16+X2=C
 h8:C&&&1085102592571150095=X3
 h9:X3+X3/256=X4
 h10:X4+X4/65536=X5
 h11:X5+X5/4294967296=X6
 h12:X6&&&127=R
 l1:X1<2^64
 l2:X2<2^64
 l3:C<2^64
 l4:X4<2^63
 l5:X5<2^63
 l6:X6<2^63
 r:R=(dw s).length
theorem ID:∀a:List Nat,(∀b∈a,b<256)->val a<256^a.length
 |[],_=>by simp[val]
 |b::r,h=>by
  have:=ID r (fun x hx=>h x (by simp[hx]));have c:=h b (by simp);simp only[val,dV,rH];omega
theorem To{j:List Nat}(h:j.length=8):∃a b c d e f g i,j=[a,b,c,d,e,f,g,i]:=by
 match j,h with
 |[a,b,c,d,e,f,g,i],_=>exact⟨a,b,c,d,e,f,g,i,rfl⟩
theorem popOf(s:Nat)(hs:s<2^64):Nonempty (Pop s):=by
 have u:val (bytesOf 8 s)=s:=vN 8 s (by omega);have f:=vM 8 s;have e:=xE 8 s;obtain⟨a,v⟩:=nm (bytesOf 8 s);rw[<-v]at u f e;have g:=st1 a e;have w:∀b∈a.map g1,b<256:=fun b h=>by obtain⟨x,hx,rfl⟩:=cS.1 h;exact g1_lt ⟨x,e x hx⟩
 have j:=st2 (a.map g1) w
 have c:∀b∈(a.map g1).map g2,b<=68/\b % 16<=4:=fun b h=>by
  obtain⟨y,N,rfl⟩:=cS.1 h;obtain⟨x,hx,rfl⟩:=cS.1 N;exact g2_lt ⟨x,e x hx⟩
 have k:=st3 ((a.map g1).map g2) c;have L:((a.map g1).map g2).map g3=a.map D7:=by simp only[nO];rfl
 have R:=ID _ w;have S:=ID ((a.map g1).map g2) (fun b h=>by have:=(c b h).1;omega);simp only[dB,f]at g j k R S;rw[u]at g;have O:mask 85 8=6148914691236517205:=by decide
 have P:mask 51 8=3689348814741910323:=by decide
 have Q:mask 15 8=1085102592571150095:=by decide
 rw[O]at g;rw[P]at j;rw[Q,L]at k;obtain⟨l,m,n,o,p,q,r,t,i⟩:=To (show(a.map D7).length=8 by simp[f]);have d:∀b∈a.map D7,b<=8:=fun b h=>by obtain⟨x,hx,rfl⟩:=cS.1 h;exact Q8 ⟨x,e x hx⟩
 rw[i]at d;obtain⟨G,H,I,J⟩:=Rj l m n o p q r t (d _ (by simp)) (d _ (by simp)) (d _ (by simp)) (d _ (by simp)) (d _ (by simp)) (d _ (by simp)) (d _ (by simp)) (d _ (by simp)) _ _ _ _ (by rw[<-i]) rfl rfl rfl
 have M:(dw s).length=l+m+n+o+p+q+r+t:=by
  rw[<-SE,JL,<-v,i];simp[List.sum_cons,oD]
 have hC:val ((a.map g1).map g2)/16+val ((a.map g1).map g2)<2^64:=by
  have T:val ((a.map g1).map g2)<=68*72340172838076673:=by
   obtain⟨e0,z,A,B,C,D,E,F,K⟩:=To (show((a.map g1).map g2).length=8 by simp[f]);rw[K]at c⊢;exact cF (im (c e0 (by simp)).1 (im (c z (by simp)).1 (im (c A (by simp)).1 (im (c B (by simp)).1 (im (c C (by simp)).1 (im (c D (by simp)).1 (im (c E (by simp)).1 (im (c F (by simp)).1 (cB 0))))))))) (by decide)
  omega
 refine⟨⟨_,_,_,_,_,_,_,_,_,_,_,_,rfl,rfl,g,rfl,rfl,j,rfl,k,rfl,rfl,rfl,rfl,?_,?_,hC,I,J,H,?_⟩⟩
 ·have:(256:Nat)^8=2^64:=by decide
  omega
 ·have:(256:Nat)^8=2^64:=by decide
  omega
 ·rw[M,<-G];exact Nat.and_two_pow_sub_one_eq_mod _ 7
theorem Pe(s:Nat)(w:Wd)(hs:s<2^64):Cs prog 117 #[.int .u64 (s:Int)] w fun e w'=>e=.returned ((dw s).length:Int)/\w=w':=by
 obtain⟨P⟩:=popOf s hs;obtain⟨p,q,a,r,t,b,C,g,c,d,f,R,h1,h2,M,D,E,N,O,h8,Q,yP,W,I,m,G,n,S,T,H,F⟩:=P;have J:((s/2:Nat):Int)=(s:Int)/2:=by omega
 have K:((a/4:Nat):Int)=(a:Int)/4:=by omega
 have h:=j9 (s/2) 6148914691236517205 (by omega) (by decide);have i:=j9 s 6148914691236517205 hs (by decide);have j:=j9 (a/4) 3689348814741910323 (by omega) (by decide);have k:=j9 a 3689348814741910323 m (by decide);have l:=j9 C 1085102592571150095 n (by decide);have o:=Cv f 127 H (by decide);rw[h1,J]at h;rw[h2]at i;rw[D,K]at j;rw[E]at k;rw[h8]at l;rw[I]at o
 have u:IntKind.u64.wrap ((p:Int)+(q:Int))=(a:Int):=by
  have e:(p:Int)+(q:Int)=((a:Nat):Int):=by omega
  rw[e];exact wrap_u64 _ m
 have v:IntKind.u64.wrap ((r:Int)+(t:Int))=(b:Int):=by
  have e:(r:Int)+(t:Int)=((b:Nat):Int):=by omega
  rw[e];exact wrap_u64 _ G
 have x:IntKind.u64.wrap ((b:Int)/16+(b:Int))=(C:Int):=by
  have e:(b:Int)/16+(b:Int)=((C:Nat):Int):=by omega
  rw[e];exact wrap_u64 _ n
 have y:IntKind.u64.wrap ((g:Int)+(g:Int)/256)=(c:Int):=by
  have e:(g:Int)+(g:Int)/256=((c:Nat):Int):=by omega
  rw[e];exact wrap_u64 _ (by omega)
 have z:IntKind.u64.wrap ((c:Int)+(c:Int)/65536)=(d:Int):=by
  have e:(c:Int)+(c:Int)/65536=((d:Nat):Int):=by omega
  rw[e];exact wrap_u64 _ (by omega)
 have A:IntKind.u64.wrap ((d:Int)+(d:Int)/4294967296)=(f:Int):=by
  have e:(d:Int)+(d:Int)/4294967296=((f:Nat):Int):=by omega
  rw[e];exact wrap_u64 _ (by omega)
 have B:wrap64 (f:Int)=(f:Int):=IntWalk.wrap64_in _ ⟨by omega,by omega⟩;have yL:=ah h;have yN:=ah i;have Z:=ah j;have yR:=ah k;have yM:=ah l;have U:=ah o;have yO:=ah u;have yJ:=ah v;have yQ:=ah x;have V:=ah y;have Y:=ah z;have yK:=ah A;have X:=ah B;have L:=ah F;clear h i j k l o u v x y z A B J K h1 h2 M D E N O h8 Q yP W I F m G n S T H hs;go_in;go_wp2;go_ret;refine⟨ax ?_,rfl⟩
 erw [yL.out,yN.out,yO.out,Z.out,yR.out,yJ.out,yQ.out,yM.out,V.out,Y.out,yK.out]
 rw[X.out]
 erw [U.out]
 rw[L.out]
theorem jn(s:Nat)(w:Wd)(hs:s<2^64):Cs prog 60 #[.int .u64 (s:Int)] w fun e w'=>e=.returned ((dw s).length:Int)/\w=w':=by
 have a:=ah (Pe s w hs);generalize(dw s).length=n at a⊢;go_in;go_wp2_with fail;refine aQ a ?_;go_wp2;go_ret;exact⟨rfl,rfl⟩
theorem QO(s k:Nat):s&&&2^k=if s.testBit k then 2^k else 0:=by
 apply iW;intro i;rw[oG,rD];by_cases hi:k=i
 ·subst hi;cases h:s.testBit k<;>simp
 ·cases h:s.testBit k<;>simp[hi]
theorem DU(s k:Nat)(P:Nat)(hs:s<2^64)(b:k<64)(a:P=2^k):(bits .and .u64 (s:Int) (P:Int) !=0)=s.testBit k:=by
 rw[a,j9 s (2^k) hs (zu b),QO];have c:=rC k;cases h:s.testBit k
 ·simp
 ·simp only[oT,oQ];omega
open Go renaming Value->Vl,Ending->Ed,TypeId->Ti
open Go.RowKit renaming Below->Bl
def MV(a:Nat)(t:Ti)(cs:Array Vl)(c am:Int)(w:Wd)(e:Ed)(w':Wd):Prop:=
 e=.returned (.tuple #[])/\ai w' a t (((cs.setIfInBounds 4 c).setIfInBounds 5 am).setIfInBounds 6 am)/\(∀b,b≠a->w'.heap[b]?=w.heap[b]?)/\∀B,B<=a->Bl B w w'
theorem PO(c a:Nat)(t:Ti)(f g h i j k l:Vl)(m am:Int)(w:Wd)(hn:w.cell? c=some (am:Vl))(hx:ai w a t #[f,g,h,i,j,k,l])(C:c≠a):
 Cs prog 311 #[m,.pointer c,.pointer a] w (MV a t #[f,g,h,i,j,k,l] m am w):=by
 have n:=ah hx;obtain⟨o,q,r,s,u,v,x⟩:=QU hx;have y:=hx.ao 4;have z:=hx.ao 5;have A:=hx.ao 6;clear hx;go_in;go_wp2_with fail;go_region
 all_goals go_wp2
 go_end0;refine⟨rfl,(((n.set 4 _).set 5 _).set 6 _).drew,fun b e=> ?_,fun B d=>(((((cC B w).setCell (p:=⟨a,4,none⟩) d _).setCell (p:=⟨a,5,none⟩) d _).setCell (p:=⟨a,6,none⟩) d _)).drew⟩;show(World.setCell (World.setCell (World.setCell w _ _) _ _) _ _).heap[b]?=_;rw[dN _ _ _ b e,dN _ _ _ b e,dN _ _ _ b e]
abbrev Mz(x:Nd)(act bD am:Int)(w:Wd):Prop:=Cs prog 196 #[.agg #[x.st,x.jb,x.ep,x.dr,x.wt,x.si,x.ak],act,bD,am] w
 (an (.agg #[(bH x act bD am).st,(bH x act bD am).jb,(bH x act bD am).ep,(bH x act bD am).dr,(bH x act bD am).wt,(bH x act bD am).si,(bH x act bD am).ak]) w)
abbrev ZN:Array Vl:= #[(),(),(),false,(),(),()]
abbrev DW(w:Wd)(a b c d e f g:Vl)(am:Int):Wd:=((w.alloc (.cells #[a,b,c,d,e,f,g] 34)).alloc (.cells #[am] 3)).alloc (.cells #[(),(),(),false,(),(),()] 34)
def MW(w:Wd)(a b c d:Vl)(f am:Int)(e:Ed)(w':Wd):Prop:=
 e=.returned (.tuple #[])/\ai w' w 34 #[a,b,c,d,f,am,am]/\ai w' (w+1+1) 34 ZN/\Bl w w w'
theorem dw_x(w:Wd)(a b c d e f g:Vl)(am:Int):ai (DW w a b c d e f g am) w 34 #[a,b,c,d,e,f,g]:=((ai.new _ _ _).alloc _).alloc _
theorem dw_n(w:Wd)(a b c d e f g:Vl)(am:Int):ai (DW w a b c d e f g am) (w+1) 3 #[am]:=by
 have:=(ai.new (w.alloc (.cells #[a,b,c,d,e,f,g] 34)) 3 #[am]).alloc (.cells ZN 34);simpa using this
theorem dw_z(w:Wd)(a b c d e f g:Vl)(am:Int):ai (DW w a b c d e f g am) (w+1+1) 34 ZN:=by
 have:=ai.new ((w.alloc (.cells #[a,b,c,d,e,f,g] 34)).alloc (.cells #[am] 3)) 34 ZN;simpa using this
theorem dw_b(w:Wd)(a b c d e f g:Vl)(am:Int):Bl w w (DW w a b c d e f g am):=((bR.alloc lr _).alloc (by simp) _).alloc (by simp<;>omega) _
theorem PP(w:Wd)(a b c d f g h:Vl)(i am:Int):
 Cs prog 311 #[i,.pointer (w+1:Nat),.pointer w] (DW w a b c d f g h am) (MW w a b c d i am):=by
 refine(PO (w+1) w 34 a b c d f g h i am _ ((dw_n w a b c d f g h am).cell 0) (dw_x w a b c d f g h am) (by omega)).mono ?_;rintro e w' ⟨k,hx,l,j⟩;exact⟨k,hx,(l _ (by omega)).trans (dw_z w a b c d f g h am),(dw_b w a b c d f g h am).trans (j _ lr)⟩
theorem N1(x:Nd)(act bD am:Int)(w:Wd)(K:x.ep<=999999999)(U:0<=x.ep):Mz x act bD am w:=by
 obtain⟨st,jb,ep,c,wt,si,ak⟩:=x;unfold Mz;simp only at*;obtain⟨⟨f,h,i,j,k,l,m⟩,b⟩:∃y,bH ⟨st,jb,ep,c,wt,si,ak⟩ act bD am=y:=⟨_,rfl⟩;rw[b];by_cases n:1<=act/\act<=13
 ·obtain rfl|rfl|rfl|rfl|rfl|rfl|rfl|rfl|rfl|rfl|rfl|rfl|rfl:act=1\/act=2\/act=3\/act=4\/act=5\/act=6\/act=7\/act=8\/act=9\/act=10\/act=11\/act=12\/act=13:=by omega
  all_goals
   simp[bH,eL]at b;have d:=ah b;clear n b;go_in;go_wp2_with fail
   first
    |(obtain⟨rfl,rfl,rfl,rfl,rfl,rfl,rfl⟩:=d
      exact cU (by simp[results,results196,go_sem]) rfl ⟨rfl,((bR.alloc lr _).alloc (by simp) _).alloc (by simp<;>omega) _⟩)
    |(with_reducible refine(PP w _ _ _ _ _ _ _ _ am).mono ?_
      rintro e L ⟨rfl,o,a,b1⟩;obtain⟨M,N,O,P,Q,R,S⟩:=QU o;obtain⟨Y,Z,z2,z3,z4,z5,z6⟩:=QU a;have G:=a.ao 0;have g1:=a.ao 1;have g2:=a.ao 2;have g3:=a.ao 3;have H:=a.ao 4;have I:=a.ao 5;have J:=a.ao 6;have p:=ah a;clear o a;go_wp2_with fail;have r:=((((((p.set 0 f).set 1 h).set 2 i).set 3 j).set 4 k).set 5 l).set 6 m;have q:=bP (g:=w.heap.size+1+1) b1 (by omega) [f,h,i,j,k,l,m] 0;obtain⟨rfl,rfl,rfl,rfl,rfl,rfl,rfl⟩:=d;obtain⟨s,t,u,v,z,A,B⟩:=QU r;exact cU (by simp[results,results196,go_sem,s,t,u,v,z,A,B]) rfl ⟨rfl,q⟩)
 ·have hn:bH ⟨st,jb,ep,c,wt,si,ak⟩ act bD am=⟨st,jb,ep,c,wt,si,ak⟩:=by
   unfold bH
   repeat rw[cL (by omega)]
  rw[hn]at b;simp only[Nd.mk.injEq]at b;obtain⟨rfl,rfl,rfl,rfl,rfl,rfl,rfl⟩:=b;have b1:(act==1)=false:=by simp;omega
  have b2:(act==2)=false:=by simp;omega
  have b3:(act==3)=false:=by simp;omega
  have b4:(act==4)=false:=by simp;omega
  have b5:(act==5)=false:=by simp;omega
  have C:(act==6)=false:=by simp;omega
  have D:(act==7)=false:=by simp;omega
  have E:(act==8)=false:=by simp;omega
  have F:(act==9)=false:=by simp;omega
  have X:(act==10)=false:=by simp;omega
  have W:(act==11)=false:=by simp;omega
  have T:(act==12)=false:=by simp;omega
  have V:(act==13)=false:=by simp;omega
  clear n hn;go_in;go_wp2_with fail;exact cU (by simp[results,results196,go_sem]) rfl ⟨rfl,((bR.alloc lr _).alloc (by simp) _).alloc (by simp<;>omega) _⟩
set_option maxRecDepth 512

set_option maxRecDepth 100000
open Go renaming Addr->Ad
def tr(x:Al):List Vl:=[x.nd,x.wl]
abbrev DD:=cp tr 2
abbrev DF:=be tr 2
theorem qk:wU tr 2:=⟨fun _=>rfl,fun x u a=>by simp[tr]at a;rcases a with rfl|rfl<;>rfl,by omega⟩
variable{w:Wd}{A:OA}{n:Nat}
theorem cp.alt{l:List Al}(h:DD w A n l){i:Nat}(hi:i<n):∃b off s,A=some ⟨b,off,none⟩/\b<w/\l[i]?=some s/\w.cell? ⟨b,off+i*2,none⟩=some (s.nd:Vl)/\w.cell? ⟨b,off+i*2+1,none⟩=some (s.wl:Vl):=by
 obtain⟨b,off,s,hA,c,hs,a⟩:=h.at_ hi;exact⟨b,off,s,hA,c,hs,a 0 _ rfl,a 1 _ rfl⟩
theorem oO:(prog.info? 139).map (fun i=>(i.zero,i.size,i.bytes))=some (some (.agg #[(),()]),2,16):=by kernel_rfl
theorem TW{x y:Al}(a:x.nd=y.nd)(h1:x.wl=y.wl):x=y:=by
 cases x;cases y;simp_all
def fc(q:Al->Bool)(l:List Al):Int:=if l.any q then(l.findIdx q:Int)else -1
theorem pC{q:Al->Bool}{l:List Al}(h:∀x∈l,q x=false):fc q l= -1:=by
 have:l.any q=false:=by rw[iF];intro x hx;rw[h x hx];simp
 simp[fc,this]
variable{k:Nat}
theorem sp{q:Al->Bool}{l:List Al}{s:Al}(h:∀x∈l.take k,q x=false)(hs:l[k]?=some s)(b:q s=true):fc q l=(k:Int):=by
 obtain⟨a,rfl⟩:=cA.1 hs;have c:l.any q=true:=iZ.2 ⟨_,iH a,b⟩
 have:l.findIdx q=k:=by
  rw[oH a];refine⟨b,fun j d=> ?_⟩;have:=h l[j] (by rw[dO];exact⟨j,by omega,rfl⟩);exact this
 simp[fc,c,this]
theorem qf(q:Al->Bool)(l:List Al):decide (0<=fc q l)=l.any q:=by
 unfold fc;cases l.any q<;>simp
def sl(w:Wd)(q:Al->Bool)(l:List Al)(i:Vl)(wr:Wd):Prop:=∃k:Nat,k<=l.length/\i=.int .i64 k/\(∀x∈l.take k,q x=false)/\Bl w w wr
def Gg(g:FuncId)(B:Ad)(q:Al->Bool)(a:Wd):Prop:=∀(x:Al) (W:Wd),Bl a a W->Cs prog g #[.agg #[x.nd,x.wl]] W (an (q x:Bool) W)
theorem G0(g:FuncId)(B:Ad)(q:Al->Bool)(D:∀args w,(callFunc g args).run prog w=.ok (.enter g args) w)(A:OA)(n c:Nat)(l:List Al)(w:Wd)(m:Gg g B q w)(h:DD w A n l)(hn:n<=maxLen):
 Cs prog 236 #[.slice A n c,.func (.func g) #[] #[]] w (an (fc q l:Int) w):=by
 unfold maxLen at hn;have v:=h.cb;subst v;have r:=ah h;have p:=ah m;clear h m;go_in;go_wp2
 go_loopw [8] (fun i wr=>sl w q l i wr) (fun i _=>l.length-(intOf i).toNat)
 case atStart=>exact⟨0,by omega,rfl,by simp,cC _ _⟩
 case round=>
  obtain⟨k,F,rfl,o,a⟩:=hrel;have f:=ah o;clear o;by_cases y:k<l.length
  ·obtain⟨b,off,s,rfl,E,hs,z,C⟩:=cp.alt (r.ae a) y;have j:=ah hs;have d:=ah (p s wr a);clear hs;cases hq:q s
   ·rw[hq]at d;have t:=ah (eP (P:=fun x=>q x=false) f j hq);clear hq;go_wp2_with fail;refine av d fun u b2=> ?_;go_wp2_with fail;exact⟨⟨k+1,by omega,by go_num,t,aa a b2⟩,by simp[intOf];omega⟩
   ·rw[hq]at d;have e:=ah (sp f j hq);clear hq;go_wp2_with fail;refine av d fun u b2=> ?_;go_wp2;go_ret;exact⟨ax e.symm,aa a b2⟩
  ·obtain rfl:k=l.length:=by omega
   have e:=ah (pC (q:=q) (l:=l) (by have:=f.out;rwa [cT]at this));go_wp2;go_ret;exact⟨ax e.symm,a⟩
theorem GF(g:FuncId)(B:Ad)(q:Al->Bool)(d:∀args w,(callFunc g args).run prog w=.ok (.enter g args) w)(A:OA)(n c:Nat)(l:List Al)(w:Wd)(e:Gg g B q w)(h:DD w A n l)(hn:n<=maxLen):
 Cs prog 143 #[.slice A n c,.func (.func g) #[] #[]] w (an (l.any q:Bool) w):=by
 have b:=ah (G0 g B q d A n c l w e h hn);have a:=ah (qf q l);obtain⟨i,hi⟩:=nm (fc q l);rw[<-hi]at b a;clear h hi e d;go_in;go_wp2_with fail;refine av b fun w' b1=> ?_;go_wp2;go_ret;exact⟨ar a,b1⟩
def Gh(g:FuncId)(B:Ad)(q:Al->Bool)(a:Wd):Prop:=∀(x:Al) (W:Wd),Bl a a W->Cs prog g #[.agg #[x.nd,x.wl],.pointer (some B)] W (an (q x:Bool) W)
theorem G1(g:FuncId)(B:Ad)(q:Al->Bool)(D:∀args w,(callFunc g args).run prog w=.ok (.enter g args) w)(A:OA)(n c:Nat)(l:List Al)(w:Wd)(m:Gh g B q w)(h:DD w A n l)(hn:n<=maxLen):
 Cs prog 236 #[.slice A n c,.func (.func g) #[] #[.pointer (some B)]] w (an (fc q l:Int) w):=by
 unfold maxLen at hn;have v:=h.cb;subst v;have r:=ah h;have p:=ah m;clear h m;go_in;go_wp2
 go_loopw [8] (fun i wr=>sl w q l i wr) (fun i _=>l.length-(intOf i).toNat)
 case atStart=>exact⟨0,by omega,rfl,by simp,cC _ _⟩
 case round=>
  obtain⟨k,F,rfl,o,a⟩:=hrel;have f:=ah o;clear o;by_cases y:k<l.length
  ·obtain⟨b,off,s,rfl,E,hs,z,C⟩:=cp.alt (r.ae a) y;have j:=ah hs;have d:=ah (p s wr a);clear hs;cases hq:q s
   ·rw[hq]at d;have t:=ah (eP (P:=fun x=>q x=false) f j hq);clear hq;go_wp2_with fail;refine av d fun u b2=> ?_;go_wp2_with fail;exact⟨⟨k+1,by omega,by go_num,t,aa a b2⟩,by simp[intOf];omega⟩
   ·rw[hq]at d;have e:=ah (sp f j hq);clear hq;go_wp2_with fail;refine av d fun u b2=> ?_;go_wp2;go_ret;exact⟨ax e.symm,aa a b2⟩
  ·obtain rfl:k=l.length:=by omega
   have e:=ah (pC (q:=q) (l:=l) (by have:=f.out;rwa [cT]at this));go_wp2;go_ret;exact⟨ax e.symm,a⟩
theorem sL(g:FuncId)(B:Ad)(q:Al->Bool)(d:∀args w,(callFunc g args).run prog w=.ok (.enter g args) w)(A:OA)(n c:Nat)(l:List Al)(w:Wd)(e:Gh g B q w)(h:DD w A n l)(hn:n<=maxLen):
 Cs prog 143 #[.slice A n c,.func (.func g) #[] #[.pointer (some B)]] w (an (l.any q:Bool) w):=by
 have b:=ah (G1 g B q d A n c l w e h hn);have a:=ah (qf q l);obtain⟨i,hi⟩:=nm (fc q l);rw[<-hi]at b a;clear h hi e d;go_in;go_wp2_with fail;refine av b fun w' b1=> ?_;go_wp2;go_ret;exact⟨ar a,b1⟩
def Qy(l:List Al)(w:Wd)(e:Ed)(w':Wd):Prop:=∃A c,e=.returned (.slice A l.length c)/\DF w' w A l.length c l/\Bl w w w'
theorem sA(A:OA)(n c:Nat)(p:List Al)(w:Wd)(h:DD w A n p)(hn:n<=1000000)(hA:A=none->c=0):
 Cs prog 303 #[.slice A n c] w (Qy p w):=by
 have o:=h.cb;subst o
 cases A with
 |none=>
  have q:p=[]:=by
   cases p with
   |nil=>rfl
   |cons x r=>obtain⟨b,off,_,e,_⟩:=h.at_ (i:=0) (by simp);cases e
  subst q;obtain rfl:=hA rfl;clear h hA hn;have g:=fun(w:Wd)=>Lib.run_eql_slice_nil (P:=prog) w 46 139 none 0 0 0 0 underlying46;go_in;go_wp2;go_ret;exact⟨none,0,rfl,be.nil _ _ _ _,cC _ _⟩
 |some a=>
  obtain⟨k,m,t,d,j,f,_,_⟩:=dy qk (P:=prog) (w.alloc (.cells #[] 139)) w 46 46 139 _ 16 underlying46 oO rfl w 0 0 [] (be.none _ _ _ _ _) (some a) p.length c p (h.ae (bR.alloc lr _)) (by simp[maxLen];omega) (by omega) (by simp);simp only[cR,dH]at d j;have l:=ah d;have s:=((cC w w).alloc lr (.cells #[] 139)).trans f;clear d f h;have g:=fun(w:Wd)=>Lib.run_eql_slice_nil (P:=prog) w 46 139 (some a) p.length c 0 0 underlying46;simp only[iV]at g;go_in;go_wp2_with(at_builtin;refine au rfl _ _ rfl rfl rfl l ?_);go_ret;exact⟨k,m,rfl,j,s⟩
theorem Gm(A B:OA)(n m c d:Nat)(p q:List Al)(w:Wd)(h:DD w A n p)(g:DD w B m q)(hn:n<=maxLen)(F:m<=maxLen):
 Cs prog 333 #[.slice A n c,.slice B m d] w (mS (decide (p=q):Bool) w):=by
 unfold maxLen at hn F;have E:=h.cb;have D:=g.cb;subst E D;by_cases b:p.length=q.length
 ·have K:((p.length:Int) !=(q.length:Int))=false:=by simp[b]
  have G:(p.length !=q.length)=false:=by simp[b]
  have M:=ah b;have V:p.length<=q.length:=by omega
  have U:q.length<=p.length:=by omega
  clear b;go_in;go_wp2
  go_loopw [13] (fun i wr=>∃k d:Nat,k<=p.length/\i=.int .i64 k/\p.take k=q.take k/\wr=w.drewN d) (fun i _=>p.length-(intOf i).toNat)
  case atStart=>exact⟨0,0,by omega,rfl,by simp,rfl⟩
  case round=>
   obtain⟨j,dd,R,rfl,u,rfl⟩:=hrel;have t:=ah u;clear u;by_cases J:j<p.length
   ·obtain⟨b1,S,x,rfl,_,hx,N,O⟩:=cp.alt h J;obtain⟨b2,T,y,rfl,_,s,P,Q⟩:=cp.alt g (show j<q.length by omega);have o:=ah hx;have r:=ah s
    have f:Hid (x≠y->decide (p=q)=false):=by
     show _->_;intro H;rw[dS];intro e;rw[e,r.out]at o;have:=o.out;injection this with this
     exact H this.symm
    clear hx s h g;by_cases a:x.nd=y.nd
    case neg=>
     have e0:(x.nd !=y.nd)=true:=by simpa using a
     have L:(x.nd==y.nd)=false:=by simpa using a
     have l:=ah (f (fun e=>a (by rw[e])));clear a;go_wp2_with fail;go_quiet (fail);go_wp2;go_ret;exact⟨ar l.symm,_,World.drewN_drewN _ _ _⟩
    have e0:(x.nd !=y.nd)=false:=by simp[a]
    have L:(x.nd==y.nd)=true:=by simp[a]
    by_cases h1:x.wl=y.wl
    case neg=>
     have C:(x.wl !=y.wl)=true:=by simpa using h1
     have I:(x.wl==y.wl)=false:=by simpa using h1
     have l:=ah (f (fun e=>h1 (by rw[e])));clear a h1;go_wp2_with fail;go_quiet (fail);go_wp2;go_ret;exact⟨ar l.symm,_,World.drewN_drewN _ _ _⟩
    have C:(x.wl !=y.wl)=false:=by simp[h1]
    have I:(x.wl==y.wl)=true:=by simp[h1]
    have z:Hid (p.take (j+1)=q.take (j+1)):=by
     show _=_;rw[aM o.out,aM r.out,t.out,TW a h1]
    clear a h1;go_wp2_with fail;go_quiet (fail);go_wp2_with fail;exact⟨⟨j+1,_,by omega,by go_num,z,rfl⟩,by simp[intOf];omega⟩
   ·have v:Hid (decide (p=q)=true):=by
     show _=_;rw[iM];have:=t.out
     rwa [fG (by omega),fG (by omega)]at this
    go_wp2;go_ret;exact⟨ar v.symm,_,rfl⟩
 ·have K:((p.length:Int) !=(q.length:Int))=true:=by rw[oQ];omega
  have G:(p.length !=q.length)=true:=by rw[oQ];omega
  have f:Hid (decide (p=q)=false):=by
   show _=_;rw[dS];intro e;exact b (by rw[e])
  clear b;go_in;go_wp2;go_ret;exact⟨ar f.symm,0,rfl⟩
theorem kn(x:Al)(w:Wd):Cs prog 141 #[.agg #[x.nd,x.wl]] w (an (fu x:Bool) w):=by
 have b:Bl w w (w.alloc (.cells #[x.nd,x.wl] 139)):=bR.alloc lr _;by_cases h1:1<=x.nd
 case neg=>
  have a:Hid (fu x=false):=by show _=_;simp[fu,h1]
  have e:decide (1<=x.nd)=false:=by simpa using h1
  go_in;go_wp2;go_ret;exact⟨ar a.symm,b⟩
 have e:decide (1<=x.nd)=true:=by simpa using h1
 by_cases h2:x.nd<=48
 case neg=>
  have a:Hid (fu x=false):=by show _=_;simp[fu,h2]
  have f:decide (x.nd<=48)=false:=by simpa using h2
  go_in;go_wp2;go_ret;exact⟨ar a.symm,b⟩
 have f:decide (x.nd<=48)=true:=by simpa using h2
 by_cases c:1<=x.wl
 case neg=>
  have a:Hid (fu x=false):=by show _=_;simp[fu,c]
  have g:decide (1<=x.wl)=false:=by simpa using c
  go_in;go_wp2;go_ret;exact⟨ar a.symm,b⟩
 have g:decide (1<=x.wl)=true:=by simpa using c
 by_cases d:x.wl<=100000
 case neg=>
  have a:Hid (fu x=false):=by show _=_;simp[fu,d]
  have h:decide (x.wl<=100000)=false:=by simpa using d
  go_in;go_wp2;go_ret;exact⟨ar a.symm,b⟩
 have h:decide (x.wl<=100000)=true:=by simpa using d
 have a:Hid (fu x=true):=by show _=_;simp[fu,h1,h2,c,d]
 go_in;go_wp2;go_ret;exact⟨ar a.symm,b⟩
theorem Kd:∀args w,(callFunc 235 args).run prog w=.ok (.enter 235 args) w:=enters_of func235 (by kernel_rfl) rfl
theorem Gt(a:Al)(b:Nat)(c:Wd)(h:ai c b 139 #[a.nd,a.wl]):Gh 235 b (fun x=>a.nd==x.nd) c:=by
 intro x W d;obtain⟨e,f⟩:=QT ((h.ae d h.lt).alloc (.cells #[x.nd,x.wl] 139));have g:=(h.ae d h.lt).lt;go_in;go_wp2;go_ret;exact⟨rfl,bR.alloc lr _⟩
def ApRel(w:Wd)(l:List Al)(i:Vl)(wr:Wd):Prop:=∃k:Nat,k<=l.length/\i=.int .i64 k/\sk (l.take k)/\Bl w w wr
theorem Ke(A:OA)(n c:Nat)(l:List Al)(w:Wd)(h:DD w A n l)(hn:n<=1000)(K:n<=c):
 Cs prog 142 #[.slice A n c] w (an (mM l:Bool) w):=by
 have B:=h.cb;subst B;have p:=ah h;clear h;go_in;go_wp2
 go_loopw [7] (fun i wr=>ApRel w l i wr) (fun i _=>l.length-(intOf i).toNat)
 case atStart=>exact⟨0,by omega,rfl,by simp[sk],cC _ _⟩
 case round=>
  obtain⟨k,v,rfl,a,j⟩:=hrel;by_cases D:k<l.length
  ·obtain⟨b,off,s,rfl,G,hs,E,F⟩:=cp.alt (p.ae j) D;obtain⟨V,d,t,y⟩:=az wr #[s.nd,s.wl] 139;have o:=aa j t;have f:=ah (sL 235 wr (fun x=>s.nd==x.nd) Kd (some ⟨b,off,none⟩) k c (l.take k) V (Gt s wr V y) (((p.ae o).pre k v)) (by simp[maxLen];omega));have C:=ah a;have m:=Gu hs;have q:=ah m;have J:(k:Int)<(l.length:Int):=by omega
   have I:(k:Int)<=(c:Int):=by omega
   have H:k<=c:=by omega
   cases hq:(l.take k).any (fun x=>s.nd==x.nd)
   ·rw[hq]at f
    have r:Hid (sk (l.take (k+1))):=by
     refine q.2 ⟨C,fun x hx e=> ?_⟩;rw[iF]at hq;exact hq x hx (by simp[e])
    clear hq hs m a;go_wp2_with fail;rw[<-d];clear d;refine av f fun z b2=> ?_;go_wp2_with fail;exact⟨⟨k+1,by omega,by go_num,r,aa o b2⟩,by simp[intOf];omega⟩
   ·rw[hq]at f
    have g:Hid (mM l=false):=by
     show _=_;rw[mM,dS];intro u;obtain⟨x,hx,e⟩:=iZ.1 hq;exact(q.1 (Gv u)).2 x hx (iC.1 e).symm
    clear hq hs m a;go_wp2_with fail;rw[<-d];clear d;refine av f fun z b2=> ?_;go_wp2;go_ret;exact⟨ar g.symm,aa o b2⟩
  ·obtain rfl:k=l.length:=by omega
   have g:Hid (mM l=true):=by
    show _=_;rw[mM,iM]
    rwa [cT]at a
   clear a;go_wp2;go_ret;exact⟨ar g.symm,j⟩
theorem uo:∀args w,(callFunc 144 args).run prog w=.ok (.enter 144 args) w:=enters_of func144 (by kernel_rfl) rfl
theorem tz(b:Wd):Gg 144 (0:Nat) (fun x=> !fu x) b:=by
 intro x W c;have a:=ah (kn x);go_in;go_wp2_with fail;refine(a _).mono ?_;rintro e d ⟨rfl,b1⟩;go_wp2;go_ret;exact⟨rfl,aa (bR.alloc lr _) b1⟩
structure th(w:Wd)(A:OA)(n c:Nat)(s:Sh):Prop where
 st:DD w A n s.al
 cf:n<=1000
 le:n<=c
 cz:A=none->c=0
variable{w':Wd}
theorem th.ae{c:Nat}{s:Sh}(h:th w A n c s)(a:Bl w w w'):th w' A n c s:=⟨h.st.ae a,h.cf,h.le,h.cz⟩
abbrev JR(A:OA)(n c:Nat)(s:Sh):Vl:=.agg #[s.kd,.slice A n c,s.mn,s.mx,s.wl]
abbrev Tv(A:OA)(n c:Nat)(s:Sh):Obj:=.cells #[s.kd,.slice A n c,s.mn,s.mx,s.wl] 48
variable{g:Nat}{t:Ti}
theorem Cw{a b c d e:Vl}(h:ai w g t #[a,b,c,d,e]):w.cell? g=some a/\w.cell? ⟨g,1,none⟩=some b/\w.cell? ⟨g,2,none⟩=some c/\w.cell? ⟨g,3,none⟩=some d/\w.cell? ⟨g,4,none⟩=some e:=⟨h.cell 0,h.cell 1,h.cell 2,h.cell 3,h.cell 4⟩
theorem jK(A:OA)(n c:Nat)(s:Sh)(w:Wd)(h:th w A n c s):Cs prog 79 #[JR A n c s] w (an (gE s:Int) w):=by
 have yJ:=h.st.cb;have yH:=h.cf;have yP:=h.le;subst yJ;obtain⟨V,F⟩:=nm (w.alloc (Tv A s.al.length c s));have g:Bl w w V:=by rw[F];exact bR.alloc lr _
 have y:ai V w 48 #[s.kd,.slice A s.al.length c,s.mn,s.mx,s.wl]:=by rw[F];exact ai.new _ _ _
 obtain⟨x0,Q,x2,R,x4⟩:=Cw y;have K:=ah (h.st.ae g);clear h;go_in;go_upto_region 2 with fail;rw[<-F];clear F;go_cut [4] (fun X wx=>X=.bool (mz s)/\V=wx)
 case first=>
  by_cases h1:s.mn=0
  ·have v:(s.mn==0)=true:=by simp[h1]
   by_cases h2:s.mx=0
   ·have L:(s.mx==0)=true:=by simp[h2]
    have u:Hid (mz s=(s.wl==0)):=by show _=_;simp[mz,v,L]
    clear h1 h2;go_wp2;go_meet;exact⟨by rw[u.out],rfl⟩
   ·have L:(s.mx==0)=false:=by simpa using h2
    have u:Hid (mz s=false):=by show _=_;simp[mz,L]
    clear h1 h2;go_wp2;go_meet;exact⟨by rw[u.out],rfl⟩
  ·have v:(s.mn==0)=false:=by simpa using h1
   have u:Hid (mz s=false):=by show _=_;simp[mz,v]
   clear h1;go_wp2;go_meet;exact⟨by rw[u.out],rfl⟩
 case rest=>
  obtain⟨rfl,rfl⟩:=hcut;by_cases i:s.kd=1
  ·have T:(s.kd==1)=true:=by simp[i]
   have f:=chk_1 i;cases hb:mz s
   ·have d:=ah (dj (f.trans (AV hb)));clear i f hb;go_wp2;go_ret;exact⟨ax d.symm,g⟩
   ·by_cases r:s.al.length=1
    ·obtain⟨a,G⟩:=Sb r;have k:oz s 1=fu a:=by rw[Nb G,hb,lO]
     obtain⟨b,off,z,rfl,yV,I,S,v⟩:=cp.alt K (show 0<s.al.length by omega);obtain rfl:z=a:=by rw[G]at I;simpa using I.symm
     have o:=ah (kn z);have yN:((s.al.length:Int)==1)=true:=by simp[r]
     have yK:(s.al.length==1)=true:=by simp[r]
     have yU:(0:Int)<(s.al.length:Int):=by omega
     have yO:0<s.al.length:=by omega
     simp only[rG,fU]at S v;cases hfa:fu z
     ·have d:=ah (dj (f.trans (k.trans hfa)));rw[hfa]at o;clear i f hb k G I r;go_wp2_with fail;refine(o _).mono ?_;rintro e j ⟨rfl,b1⟩;go_wp2;go_ret;exact⟨ax d.symm,aa g b1⟩
     ·have d:=ah (gF (f.trans (k.trans hfa)));rw[hfa]at o;clear i f hb k G I r;go_wp2_with fail;refine(o _).mono ?_;rintro e j ⟨rfl,b1⟩;go_wp2;go_ret;exact⟨ax d.symm,aa g b1⟩
    ·have d:=ah (dj (f.trans (xx (m:=1) (by omega))));have yN:((s.al.length:Int)==1)=false:=by rw[dQ];omega
     have yK:(s.al.length==1)=false:=by simpa using r
     clear i f hb r;go_wp2;go_ret;exact⟨ax d.symm,g⟩
  have T:(s.kd==1)=false:=by simpa using i
  by_cases l:s.kd=2
  ·have U:(s.kd==2)=true:=by simp[l]
   have f:=chk_2 l;cases hb:mz s
   ·have d:=ah (dj (f.trans (AV hb)));clear i l f hb;go_wp2;go_ret;exact⟨ax d.symm,g⟩
   ·by_cases yS:1<=s.al.length
    case neg=>
     have d:=ah (dj (f.trans (xx (m:=6) (by omega))));have M:=dF ((1:Int)<=(s.al.length:Int)) (by omega);have P:¬(1:Int)<=(s.al.length:Int):=by omega
     clear i l f hb;go_wp2;go_ret;exact⟨ax d.symm,g⟩
    have M:=dT ((1:Int)<=(s.al.length:Int)) (by omega);have P:(1:Int)<=(s.al.length:Int):=by omega
    by_cases yT:s.al.length<=6
    case neg=>
     have d:=ah (dj (f.trans (xx (m:=6) (by omega))));have N:=dF ((s.al.length:Int)<=6) (by omega);have yR:¬(s.al.length:Int)<=6:=by omega
     clear i l f hb;go_wp2;go_ret;exact⟨ax d.symm,g⟩
    have N:=dT ((s.al.length:Int)<=6) (by omega);have yR:(s.al.length:Int)<=6:=by omega
    have B:=Kc hb yS yT;have C:=ah (Ke A s.al.length c s.al V K yH yP);cases hap:mM s.al
    ·have d:=ah (dj (f.trans (B.trans (by rw[hap,nI]))));rw[hap]at C;clear i l f hb B hap;go_wp2_with fail;refine C.out.mono ?_;rintro e j ⟨rfl,b1⟩;go_wp2;go_ret;exact⟨ax d.symm,aa g b1⟩
    ·have J:oz s 6=s.al.all fu:=B.trans (by rw[hap,lO]);have E:=ah fun(j:Wd) (b:Bl V V j)=>GF 144 (0:Nat) (fun x=> !fu x) uo A s.al.length c s.al j (tz j) (K.ae b) (by simp[maxLen];omega);have O:s.al.any (fun x=> !fu x)= !(s.al.all fu):=by rw[List.all_eq_not_any_not];simp
     rw[hap]at C;simp only[O]at E;cases hfa:s.al.all fu
     ·have d:=ah (dj (f.trans (J.trans hfa)));simp only[hfa]at E;clear i l f hb B hap J O hfa;go_wp2_with fail;refine C.out.mono ?_;rintro e j ⟨rfl,b1⟩;have yQ:=(b1.cell (p:=⟨w,1,none⟩) y.lt).trans Q;go_wp2_with fail;refine(E j b1).mono ?_;rintro e Z ⟨rfl,b2⟩;go_wp2;go_ret;exact⟨ax d.symm,aa (aa g b1) b2⟩
     ·have d:=ah (gF (f.trans (J.trans hfa)));simp only[hfa]at E;clear i l f hb B hap J O hfa;go_wp2_with fail;refine C.out.mono ?_;rintro e j ⟨rfl,b1⟩;have yQ:=(b1.cell (p:=⟨w,1,none⟩) y.lt).trans Q;go_wp2_with fail;refine(E j b1).mono ?_;rintro e Z ⟨rfl,b2⟩;go_wp2;go_ret;exact⟨ax d.symm,aa (aa g b1) b2⟩
  have U:(s.kd==2)=false:=by simpa using l
  by_cases t:s.kd=3
  case neg=>
   have W:(s.kd==3)=false:=by simpa using t
   have d:=ah (dj (chk_0 i l t));clear i l t;go_wp2;go_ret;exact⟨ax d.symm,g⟩
  have W:(s.kd==3)=true:=by simp[t]
  have f:=NC t;have D:=ah f;clear i l t f;by_cases q:s.al.length=0
  case neg=>
   have d:=ah (dj (D.trans (by simp[C2,q])));have M:((s.al.length:Int)==0)=false:=by rw[dQ];omega
   have P:(s.al.length==0)=false:=by simpa using q
   go_wp2;go_ret;exact⟨ax d.symm,g⟩
  have M:((s.al.length:Int)==0)=true:=by simp[q]
  have P:(s.al.length==0)=true:=by simp[q]
  by_cases H:s.mn<=s.mx
  case neg=>
   have d:=ah (dj (D.trans (by simp[C2,H])));have N:decide (s.mn<=s.mx)=false:=by simpa using H
   clear q;go_wp2;go_ret;exact⟨ax d.symm,g⟩
  have N:decide (s.mn<=s.mx)=true:=by simpa using H
  have o:=ah fun w'=>kn ⟨s.mn,s.wl⟩ w';cases k:fu ⟨s.mn,s.wl⟩
  ·have d:=ah (dj (D.trans (by simp[C2,k])));simp only[k]at o;clear q k;go_wp2_with fail;refine(o _).mono ?_;rintro e j ⟨rfl,b1⟩;go_wp2;go_ret;exact⟨ax d.symm,aa g b1⟩
  ·simp only[k]at o;by_cases hx:s.mx<=48
   ·have d:=ah (gF (D.trans (by simp[C2,k,q,H,hx])));have Y:decide (s.mx<=48)=true:=by simpa using hx
    clear q k;go_wp2_with fail;refine(o _).mono ?_;rintro e j ⟨rfl,b1⟩;have yM:=(b1.cell (p:=⟨w,3,none⟩) y.lt).trans R;go_wp2;go_ret;exact⟨ax d.symm,aa g b1⟩
   ·have d:=ah (dj (D.trans (by simp[C2,hx])));have Y:decide (s.mx<=48)=false:=by simpa using hx
    clear q k;go_wp2_with fail;refine(o _).mono ?_;rintro e j ⟨rfl,b1⟩;have yM:=(b1.cell (p:=⟨w,3,none⟩) y.lt).trans R;go_wp2;go_ret;exact⟨ax d.symm,aa g b1⟩
theorem kl(r:Int)(A:OA)(n c:Nat)(s:Sh)(w:Wd)(h:th w A n c s)(a:gE s=r):Cs prog 79 #[JR A n c s] w (an r w):=by rw[<-a];exact jK A n c s w h
set_option maxRecDepth 512
section
variable {α : Type} {f : α -> List Value} {k : Nat} (hL : wU f k)
include hL
theorem eW{base:Nat}{c:Nat}{l:List α}(h:be f k w base g n c l)(i p:Nat)(e:p<k){y x:α}(b:l[i]?=some y){v:Vl}(hx:f x=(f y).set p v):be f k (w.setCell ⟨g,i*k+p,none⟩ v) base g n c (l.set i x):=by
 have hi:=(cA.1 b).1;have m:i<n:=by rw[<-h.1];exact hi
 have o:=h.2.le;have h1:(i+1)*k<=c*k:=lU k (by omega);rw[l7,Nat.one_mul]at h1
 have:=j8 hL h (l':=l.set i x) (by rw[nB];exact h.1) (i*k+p) [v] (by simp;omega) (fun j _=>by
  rw[Eq hL l i x hi j];have q:=hL.cb y;by_cases a:i*k<=j/\j<i*k+k
  ·rw[cK a,hx];by_cases d:j=i*k+p
   ·subst d;rw[cK (by simp),Nat.add_sub_cancel_left,fH (by omega)];simp
   ·rw[cL (by simp;omega),iK (by omega)];have:=rj hL l i y (j-i*k) _ b (cE (show j-i*k<(f y).length by omega));rw[show i*k+(j-i*k)=j by omega]at this;rw[this,cE (by omega)]
  ·rw[cL a,cL (by simp;omega)])
 simpa [World.setCells]using this
end
structure aU(g:Nat)(w w':Wd):Prop where
 size:w.heap.size<=w'
 same:∀b,b<w.heap.size->b≠g->w'.heap[b]?=w.heap[b]?
theorem aU.refl(g:Nat)(w:World):aU g w w:=⟨cB _,fun _ _ _=>rfl⟩
theorem aU.trans{a b c:World}(h:aU g a b)(k:aU g b c):aU g a c:=⟨cF h.size k.size,fun x hx hn=>(k.same x (cD hx h.size) hn).trans (h.same x hx hn)⟩
theorem aU.aX(h:Bl w.heap.size w w'):aU g w w':=⟨h.size,fun b a _=>h.block b a⟩
theorem aU.set(w:World)(i:Nat)(u:Value):aU g w (w.setCell ⟨g,i,none⟩ u):=⟨by simp,fun b _ hn=>Below.heap_setCell w _ u b hn⟩
theorem aU.pM(w:World)(o:Nat)(a:List Value):aU g w (w.setCells g o a):=⟨by rw[gc];exact cB _,fun b _ hn=>jW w g a o b hn⟩
theorem aU.ae{a b c:Wd}(h:aU g a b)(k:Bl b.heap.size b c):aU g a c:=h.trans (aU.aX k)
theorem aU.UB{w w':World}(h:cg g w w'):aU g w w':=⟨h.size,h.same⟩
theorem aU.cells{α:Type}{f:α->List Vl}{l:List α}(h:aU g w w')(m:cp f k w A n l)(hA:0<n->∀b off,A=some ⟨b,off,none⟩->b≠g):cp f k w' A n l:=by
 refine⟨Cells.cb m,Cells.eZ m,fun hn=> ?_⟩;obtain⟨b,off,e,c,d⟩:=Cells.at_ m hn;exact⟨b,off,e,cD c h.size,fun i r o j v p=>(World.cell?_of_block (a:=⟨b,off+i*k+j,none⟩) (h.same b c (hA hn b off e))).trans (d i r o j v p)⟩
theorem bh{α:Type}{f:α->List Vl}(a:wU f k){base:Nat}{c:Nat}{l:List α}(h:be f k w base A n c l){i:Nat}(hi:i<n):∃g x,A=some ⟨g,0,none⟩/\base<=g/\g<w/\l[i]?=some x/\(∀j v,(f x)[j]?=some v->w.cell? ⟨g,i*k+j,none⟩=some v)/\∀j,j<k->(w.cell? ⟨g,i*k+j,none⟩).isSome=true/\w.frozen? ⟨g,i*k+j,none⟩=false:=by
 have s:=h.2.le;obtain⟨g,hA,m,p,h1,h2⟩:=h.2.room (by omega);have q:i<l.length:=by rw[h.1];exact hi
 have hx:=cE q;refine⟨g,l[i],hA,m,p,hx,fun j v o=> ?_,fun j r=>h2 _ ?_⟩
 ·have b:=rj a l i _ j v hx o;have d:=(cA.1 b).1;rw[gL a,h.1]at d;rw[h1 _ d,b]
 ·have e:(i+1)*k<=c*k:=lU k (by omega);rw[l7,Nat.one_mul]at e;omega
theorem Bz(W:Wd)(x y:Int)(t:Ti):fs (W.alloc (.cells #[x,y] t)).drew W 2 [x,y]:=(ip (l:=[x,y]) (ai.new W t #[x,y]) rfl).ae (Below.refl _ _).drew
theorem qh(W:Wd)(x y:Int)(t:Ti):fs (W.alloc (.cells #[x,y] t)) W 2 [x,y]:=ip (l:=[x,y]) (ai.new W t #[x,y]) rfl
open Go renaming Program->Pg
open Go.Maps
def Tu(v:Vl):Option (DataW Vl×List MemPlace):=some (.held v,[])
def gU(P:Pg)(k:Ti)(w:Wd)(b n:Nat)(m:Lit->Option Vl):Prop:=
 ∃D,w.ownsMap P k Tu b n D/\∀a,WideAt.IsKeyLit a->Maps.has D a=(m a).isSome/\∀z,D.atKey a z=((m a).map DataW.held).getD z
section
variable {P : Program} {k : TypeId} {w w' : World} {b n : Nat} {m : Lit -> Option Value}
theorem gU.made(P:Pg)(k:Ti)(w:Wd):gU P k (w.alloc (.map #[] 0)) w 0 (fun _=>none):=⟨_,World.ownsMap_made w P k Tu,fun a _=>⟨rfl,fun z=>by simp[DataW.atKey]⟩⟩
theorem gU.lt(h:gU P k w b n m):b<w:=by obtain⟨D,h1,-⟩:=h;exact h1.lt
theorem gU.mono(h:gU P k w b n m){a:Nat}(hn:n<=a):gU P k w b a m:=by obtain⟨D,h1,h2⟩:=h;exact⟨D,h1.mono hn,h2⟩
theorem gU.ij(h:gU P k w b n m)(d:w'.heap[b]?=w.heap[b]?):gU P k w' b n m:=by
 obtain⟨D,⟨a,clock,h1,h2⟩,c⟩:=h;exact⟨D,⟨a,clock,d.trans h1,h2⟩,c⟩
theorem gU.ae(h:gU P k w b n m)(a:Bl w w w'):gU P k w' b n m:=h.ij (a.block b h.lt)
theorem gU.congr(h:gU P k w b n m){d:Lit->Option Vl}(e:∀a,WideAt.IsKeyLit a->m a=d a):gU P k w b n d:=by
 obtain⟨D,h1,h2⟩:=h;exact⟨D,h1,fun a c=>by rw[<-e a c];exact h2 a c⟩
theorem xh{v u:Vl}{ps:List MemPlace}(h:Tu v=some (.held u,ps)):v=u:=by
 unfold Tu at h;injection h with h
 injection h with h1 h2;injection h1
variable{e:Ti}{z:Vl}
theorem gU.look(h:gU P k w b n m)(K:Keyed P k)(ht:P.underlying t=some (.map k e))(g:(zeroValue e).run P w=.ok z w){d:Vl}{c:Lit}(i:keyOf P k d=some c)(f:WideAt.IsKeyLit c):
 (Instr.lookup t (.map (some b)) d false).run P w=.ok ((m c).getD z) w:=by
 obtain⟨D,h1,h2⟩:=h;obtain⟨v,ps,j,a⟩:=h1.lookup K ht g (zd:=.held z) (zp:=[]) rfl i;rw[(h2 c f).2]at a;rw[j]
 cases hm:m c with
 |none=>rw[hm]at a;rw[xh a];rfl
 |some u=>rw[hm]at a;rw[xh a];rfl
theorem gU.look_ok(h:gU P k w b n m)(K:Keyed P k)(ht:P.underlying t=some (.map k e))(g:(zeroValue e).run P w=.ok z w){f:Vl}{a:Lit}(i:keyOf P k f=some a)(d:WideAt.IsKeyLit a):
 (Instr.lookup t (.map (some b)) f true).run P w=.ok (.tuple #[(m a).getD z,(m a).isSome]) w:=by
 obtain⟨D,h1,h2⟩:=h;obtain⟨v,ps,j,c⟩:=h1.look_ok K ht g (zd:=.held z) (zp:=[]) rfl i;rw[(h2 a d).2]at c;rw[j,(h2 a d).1]
 cases hm:m a with
 |none=>rw[hm]at c;rw[xh c];rfl
 |some u=>rw[hm]at c;rw[xh c];rfl
open Classical in
noncomputable def SN(m:Lit->Option Vl)(a:Lit)(v:Vl):Lit->Option Vl:=fun x=>if x=a then some v else m x
theorem gU.update(h:gU P k w b n m)(K:Keyed P k)(ht:P.underlying t=some (.map k e))(hn:n<maxLen){l val:Vl}{c:Lit}(p:keyOf P k l=some c)(f:WideAt.IsKeyLit c):
 ∃w',(Instr.mapUpdate t (.map (some b)) l val).run P w=.ok () w'/\gU P k w' b (n+1) (SN m c val)/\aU b w w'/\Bl b w w':=by
 obtain⟨D,h1,h2⟩:=h;obtain⟨w',q,o,a⟩:=h1.update K ht hn p (val:=val) (d:=.held val) (ps:=[]) rfl;refine⟨w',q,⟨_,o,fun x hx=> ?_⟩,⟨a.size,fun g j r=>a.block g j (by simpa using r)⟩,⟨a.os,a.tape,a.output,a.size,fun g j=>a.block g (by have:=h1.lt;omega) (by simp;omega)⟩⟩;have i:=h1.isMap;unfold SN;by_cases e:x=c
 ·subst e;rw[cK rfl];exact⟨has_put_same i f _,fun z=>atKey_put_same i f _ z⟩
 ·rw[cL e,has_put_other (fun h=>e h)];exact⟨(h2 x hx).1,fun z=>by rw[atKey_put_other (fun h=>e h)];exact(h2 x hx).2 z⟩
def TY(m:Int->Option Vl):Lit->Option Vl
 | .int .i64 n=>m n
 |_=>none
def eX(P:Pg)(k:Ti)(w:Wd)(b n:Nat)(m:Int->Option Vl):Prop:=gU P k w b n (TY m)
def zF(m:Int->Option Vl)(i:Int)(v:Vl):Int->Option Vl:=fun x=>if x=i then some v else m x
variable {mi : Int -> Option Value}
theorem eX.made(P:Pg)(k:Ti)(w:Wd):eX P k (w.alloc (.map #[] 0)) w 0 (fun _=>none):=(gU.made P k w).congr fun a _=>by unfold TY;split<;>rfl
theorem eX.lt(h:eX P k w b n mi):b<w:=gU.lt h
theorem eX.mono(h:eX P k w b n mi){a:Nat}(hn:n<=a):eX P k w b a mi:=gU.mono h hn
theorem eX.ij(h:eX P k w b n mi)(a:w'.heap[b]?=w.heap[b]?):eX P k w' b n mi:=gU.ij h a
theorem eX.ae(h:eX P k w b n mi)(a:Bl w w w'):eX P k w' b n mi:=gU.ae h a
variable{i:Int}
theorem wfI(h: -9223372036854775808<=i/\i<=9223372036854775807):(Lit.int .i64 i).wf=true:=WalkArith.wf_i64 h
theorem eX.look(h:eX P k w b n mi)(a:P.underlying k=some (.int .i64))(ht:P.underlying t=some (.map k e))(c:(zeroValue e).run P w=.ok z w)(hi: -9223372036854775808<=i/\i<=9223372036854775807):
 (Instr.lookup t (.map (some b)) i false).run P w=.ok ((mi i).getD z) w:=gU.look h (int_keyed a) ht c (keyOf_int_mk a (wfI hi)) trivial
theorem eX.look_ok(h:eX P k w b n mi)(a:P.underlying k=some (.int .i64))(ht:P.underlying t=some (.map k e))(c:(zeroValue e).run P w=.ok z w)(hi: -9223372036854775808<=i/\i<=9223372036854775807):
 (Instr.lookup t (.map (some b)) i true).run P w=.ok (.tuple #[(mi i).getD z,(mi i).isSome]) w:=gU.look_ok h (int_keyed a) ht c (keyOf_int_mk a (wfI hi)) trivial
theorem eX.update(h:eX P k w b n mi)(a:P.underlying k=some (.int .i64))(ht:P.underlying t=some (.map k e))(hn:n<maxLen)(hi: -9223372036854775808<=i/\i<=9223372036854775807)(val:Vl):
 ∃w',(Instr.mapUpdate t (.map (some b)) i val).run P w=.ok () w'/\eX P k w' b (n+1) (zF mi i val)/\aU b w w'/\Bl b w w':=by
 obtain⟨w',h1,h2,c,d⟩:=gU.update h (int_keyed a) ht hn (keyOf_int_mk a (wfI hi)) trivial (val:=val);refine⟨w',h1,h2.congr fun f g=> ?_,c,d⟩;unfold SN;by_cases e:f=.int .i64 i
 ·subst e;simp[TY,zF]
 ·rw[cL e];unfold TY zF;split
  ·rename_i x;rw[cL (fun h=>e (by rw[h]))]
  ·rfl
end
theorem kj{P:Pg}{e:Array Oper}{rest:List Oper}{o:Oper}{a:Act}{Q:Exit->Act->Wd->Prop}(f:o.guard=none)(m x v:Operand)(t:Ti)(k:o.op=Op.mapUpdate t m x v){c b d:Vl}(g:a.eval m=c)(hx:a.eval x=b)(i:a.eval v=d)
 (j:(Instr.mapUpdate t c b d).run P w=.ok () w')(h:wpList P e Q rest (a.put o.dst undef) w'):wpList P e Q (o::rest) a w:=by
 refine wpList_plain f fun n l=> ?_;unfold Oper.wp;simp[execOp,k,g,hx,i,j,Result.andThen];exact l _ _ h
set_option maxRecDepth 100000
theorem E5{l:List Bk}{b:Bk}(h:l[k]?=some b)(a:mD b=false):okB l k=false:=by simp[okB,h,a]
theorem Pb{l:List Bk}{a b:Bk}(h:l[k]?=some b)(c:l[k-1]?=some a)(e:0<k)(d:b.id<=a.id):okB l k=false:=by
 obtain⟨j,rfl⟩:∃j,k=j+1:=⟨k-1,by omega⟩;rw[Nat.add_sub_cancel]at c;rw[tW c h];have:decide (a.id<b.id)=false:=by simpa using d
 simp[this]
theorem JG{l:List Bk}{b:Bk}(h:l[k]?=some b)(d:mD b=true)(e:k=0\/(0<k/\∃a,l[k-1]?=some a/\a.id<b.id)):okB l k=true:=by
 rcases e with rfl|⟨g,a,c,f⟩
 ·rw[E6 h];exact d
 ·obtain⟨j,rfl⟩:∃j,k=j+1:=⟨k-1,by omega⟩;rw[Nat.add_sub_cancel]at c;rw[tW c h,d];simpa using f
def Ql(w:Wd)(l:List Bk)(i:Vl)(wr:Wd):Prop:=∃k:Nat,k<=l.length/\i=.int .i64 k/\(∀j,j<k->okB l j=true)/\Bl w w wr
theorem xA(A:OA)(n c:Nat)(l:List Bk)(w:Wd)(h:Mo w A n l)(hn:n<=maxLen):
 Cs prog 53 #[.slice A n c] w (MQ (Kq l:Int) w):=by
 unfold maxLen at hn;have yN:=h.cb;subst yN;by_cases h1:8<l.length
 ·have y:=ah (CB (NE h1));clear h;go_in;go_wp2;go_ret;exact⟨ax y.symm,cC _ _⟩
 ·have yU:l.length<=8:=by omega
  have R:=ah h;clear h1 h;go_in;go_wp2
  go_loopw [10] (fun i wr=>Ql w l i wr) (fun i _=>l.length-(intOf i).toNat)
  case atStart=>exact⟨0,by omega,rfl,by omega,cC _ _⟩
  case round=>
   obtain⟨k,hk,rfl,Y,K⟩:=hrel;have W:=ah Y;clear Y;by_cases Z:k<l.length
   ·obtain⟨b,off,s,rfl,d,hs,d0,d1,d2,d3⟩:=cp.four (R.ae K) Z;have z:=ah hs;clear hs;go_wp2_with fail;obtain⟨V,E⟩:=nm (wr.alloc (.cells #[s.id,s.fr,s.to,s.nd] 58));rw[<-E];have T:Bl wr wr V:=E▸aA;have F:ai V wr 58 #[s.id,s.fr,s.to,s.nd]:=E▸ai.new _ _ _;have N:=aa K T;clear E d0 d1 d2 d3;have f:Hid (∀w',Cs prog 111 #[.agg #[s.id,s.fr,s.to,s.nd]] w' (MQ (mD s:Bool) w')):=fun w'=>Oh s w';have B:=cC V V;go_cut [32] (fun X wx=>(X=.bool (!(okB l k)))/\Bl V V wx)
    case first=>
     by_cases G:k=0
     ·have v:decide (0<k)=false:=by simp[G]
      have u:¬0<k:=by omega
      have HK:=ah G;have x:Hid (∀w',Bl V V w'->(w'.cell? wr=some (s.id:Vl)/\w'.cell? ⟨wr,1,none⟩=some (s.fr:Vl)/\w'.cell? ⟨wr,2,none⟩=some (s.to:Vl)/\w'.cell? ⟨wr,3,none⟩=some (s.nd:Vl))):=fun w' H=>T4 (F.ae H F.lt);clear G;cases hf:mD s
      ·have g:=ah (E5 z hf);rw[hf]at f;clear hf;refine wq B.drew (by kernel_rfl) (by kernel_rfl) ?_
       repeat((first
        |refine bF rfl ?_
        |(refine cw rfl ⟨?_,fun w' a=> ?_,?_⟩
          rotate_left
          ·obtain⟨j,m,o,q⟩:=x w' a;simp[go_sem,j,m,o,q,v,u]
           try rfl)
        |(refine ee 111 #[.agg #[s.id,s.fr,s.to,s.nd]] false ?_ (fun w'=> ?_) (fun w' a=>(f w').mono fun e I ⟨t,d⟩=>⟨t,aa a d⟩) ?_
          ·rfl
          ·simp[go_sem]));simp only[aP])
       refine bM ?_;intro w' b3
       all_goals go_wp2_with fail
       all_goals go_meet
       all_goals exact⟨by rw[g.out];rfl,b3⟩
      ·have g:=ah (JG z hf (.inl HK));rw[hf]at f;clear hf;refine wq B.drew (by kernel_rfl) (by kernel_rfl) ?_
       repeat((first
        |refine bF rfl ?_
        |(refine cw rfl ⟨?_,fun w' a=> ?_,?_⟩
          rotate_left
          ·obtain⟨j,m,o,q⟩:=x w' a;simp[go_sem,j,m,o,q,v,u]
           try rfl)
        |(refine ee 111 #[.agg #[s.id,s.fr,s.to,s.nd]] true ?_ (fun w'=> ?_) (fun w' a=>(f w').mono fun e I ⟨t,d⟩=>⟨t,aa a d⟩) ?_
          ·rfl
          ·simp[go_sem]));simp only[aP])
       refine bM ?_;intro w' b3
       all_goals go_wp2_with fail
       all_goals go_meet
       all_goals exact⟨by rw[g.out];rfl,b3⟩
     ·have v:=dT (0<k) (by omega);have u:0<k:=by omega
      obtain⟨b',yV,r,e,_,U,f0,f1,f2,f3⟩:=cp.four (R.ae N) (show k-1<l.length by omega);injection e with e;injection e with e1 e2;subst e1 e2;have S:=ah U;have x:Hid (∀w',Bl V V w'->(w'.cell? ⟨b,off+(k-1)*4,none⟩=some (r.id:Vl))/\(w'.cell? wr=some (s.id:Vl)/\w'.cell? ⟨wr,1,none⟩=some (s.fr:Vl)/\w'.cell? ⟨wr,2,none⟩=some (s.to:Vl)/\w'.cell? ⟨wr,3,none⟩=some (s.nd:Vl))):=fun w' H=>⟨(H.cell (p:=⟨b,off+(k-1)*4,none⟩) (cD d T.size)).trans f0,T4 (F.ae H F.lt)⟩;have Q:IntKind.i64.wrap ((k:Int)-1)=(k:Int)-1:=lS _ (by omega);have P:(0:Int)<=(k:Int)-1:=by omega
      have O:(1:Int)<=(k:Int):=by omega
      have M:((k:Int)-1).toNat=k-1:=by omega
      have L:(k:Int)-1<(l.length:Int):=by omega
      clear G U f0 f1 f2 f3;cases hf:mD s
      ·have g:=ah (E5 z hf);rw[hf]at f;clear hf;refine wq B.drew (by kernel_rfl) (by kernel_rfl) ?_
       repeat((first
        |refine bF rfl ?_
        |(refine cw rfl ⟨?_,fun w' a=> ?_,?_⟩
          rotate_left
          ·obtain⟨C,j,m,o,q⟩:=x w' a;simp[go_sem,j,m,o,q,C,Q,P,O,M,L,v,u]
           try rfl)
        |(refine ee 111 #[.agg #[s.id,s.fr,s.to,s.nd]] false ?_ (fun w'=> ?_) (fun w' a=>(f w').mono fun e I ⟨t,d⟩=>⟨t,aa a d⟩) ?_
          ·rfl
          ·simp[go_sem]));simp only[aP])
       refine bM ?_;intro w' b3
       all_goals go_wp2_with fail
       all_goals go_meet
       all_goals exact⟨by rw[g.out];rfl,b3⟩
      ·rw[hf]at f;by_cases J:s.id<=r.id
       ·have D:decide (s.id<=r.id)=true:=by simpa using J
        have g:=ah (Pb z S u J);clear hf;refine wq B.drew (by kernel_rfl) (by kernel_rfl) ?_
        repeat((first
         |refine bF rfl ?_
         |(refine cw rfl ⟨?_,fun w' a=> ?_,?_⟩
           rotate_left
           ·obtain⟨C,j,m,o,q⟩:=x w' a;simp[go_sem,j,m,o,q,C,Q,P,O,M,L,v,u,D]
            try rfl)
         |(refine ee 111 #[.agg #[s.id,s.fr,s.to,s.nd]] true ?_ (fun w'=> ?_) (fun w' a=>(f w').mono fun e I ⟨t,d⟩=>⟨t,aa a d⟩) ?_
           ·rfl
           ·simp[go_sem]));simp only[aP])
        refine bM ?_;intro w' b3
        all_goals go_wp2_with fail
        all_goals go_meet
        all_goals exact⟨by rw[g.out];simp[D],b3⟩
       ·have D:decide (s.id<=r.id)=false:=by simpa using J
        have g:=ah (JG z hf (.inr ⟨u,r,S,by omega⟩));clear hf;refine wq B.drew (by kernel_rfl) (by kernel_rfl) ?_
        repeat((first
         |refine bF rfl ?_
         |(refine cw rfl ⟨?_,fun w' a=> ?_,?_⟩
           rotate_left
           ·obtain⟨C,j,m,o,q⟩:=x w' a;simp[go_sem,j,m,o,q,C,Q,P,O,M,L,v,u,D]
            try rfl)
         |(refine ee 111 #[.agg #[s.id,s.fr,s.to,s.nd]] true ?_ (fun w'=> ?_) (fun w' a=>(f w').mono fun e I ⟨t,d⟩=>⟨t,aa a d⟩) ?_
           ·rfl
           ·simp[go_sem]));simp only[aP])
        refine bM ?_;intro w' b3
        all_goals go_wp2_with fail
        all_goals go_meet
        all_goals exact⟨by rw[g.out];simp[D],b3⟩
    case rest=>
     obtain⟨rfl,b3⟩:=hcut;cases ho:okB l k
     ·have y:=ah (CB (Q0 Z ho));clear ho;go_wp2;go_ret;exact⟨ax y.symm,aa N b3⟩
     ·have HG:=ah (Gp W ho);clear ho;go_wp2_with fail;exact⟨⟨k+1,by omega,by go_num,HG,aa N b3⟩,by simp[intOf];omega⟩
   ·obtain rfl:k=l.length:=by omega
    have y:=ah (D3 (I7 yU W));go_wp2;go_ret;exact⟨ax y.symm,K⟩
set_option maxRecDepth 512
theorem Lz(x:Bk)(am:Int)(B:Nat)(W:Wd)(a:B<W)(b:W.cell? B=some (am:Vl)):
 Cs prog 166 #[.agg #[x.id,x.fr,x.to,x.nd],.pointer B] W (MQ (decide (x.to<=am):Bool) W):=by
 have c:B≠W:=by omega
 go_in;go_wp2;go_ret;exact⟨rfl,aA⟩
theorem Hw(am:Int)(B base:Nat)(a:Wd)(b:B<base)(d:base<=a)(c:a.cell? B=some (am:Vl)):IV 166 B (fun x=>decide (x.to<=am)) base a:=
 fun x W h=>Lz x am B W (by have:=h.size;omega) ((h.cell (p:=B) b).trans c)
theorem SB:∀args w,(callFunc 166 args).run prog w=.ok (.enter 166 args) w:=enters_of func166 (by kernel_rfl) rfl
theorem Px(A:OA)(n c:Nat)(l:List Bk)(am:Int)(w:Wd)(h:Mo w A n l)(hn:n<=maxLen)(hA:A=none->c=0):
 Cs prog 85 #[.slice A n c,am] w (TN (iw l am) w):=by
 have t:=h.cb;subst t;obtain⟨V,a,g,i⟩:=az w #[am] 3;have y:w.heap.size<V:=i.lt;have d:=ah (xA A l.length c l V (h.ae g) hn);cases hck:Ap l
 ·rw[CB hck]at d;have f:Hid (iw l am=[]):=by show _=_;rw[iw,cK hck]
  clear hck h hA;go_in;go_wp2_with fail;rw[<-a];clear a;refine av d fun b b1=> ?_;go_wp2;go_ret;rw[f.out];exact⟨none,0,rfl,be.nil _ _ _ _,aa g b1⟩
 ·rw[D3 hck]at d;have v:=(NF hck).cf
  have f:Hid (iw l am=l.filter (fun x=> !decide (x.to<=am))):=by
   show _=_;rw[iw,cL (by simp[hck])]
   congr 1
   funext x
   rw[<-nL,iD];omega
  have p:=ah h;have o:=ah hA;clear hck h hA;go_in;go_wp2_with fail;rw[<-a];clear a;refine av d fun b b1=> ?_;have k:=i.ae b1 i.lt;have j:=aa g b1;have z:=b1.size;have q:=ah (FU 166 w (fun x=>decide (x.to<=am)) SB A l.length c l b (Hw am w b b (by omega) lr (k.cell 0)) (p.ae j) (by omega) o);clear k;go_wp2_with fail;refine q.out.mono ?_;rintro e u ⟨m,r,rfl,s,b2⟩;go_wp2;go_ret;rw[f.out];exact⟨m,r,rfl,s.mono j.size,aa j b2⟩

attribute [local go_sem ↓] Go.wp_at_zero Go.wp_at_succ

def uk(P:Pg)(k:Ti)(w:Wd)(b r n:Nat)(m:Int->Option Vl)(left:Int->Bool)(ms:Nat):Prop:=
 ∃D c,w.ranges P k Tu b r n D c ms/\(∀a,WideAt.IsKeyLit a->Maps.has D a=(TY m a).isSome/\∀z,D.atKey a z=((TY m a).map DataW.held).getD z)/\∀i,c (.int .i64 i)=left i
section
variable {P : Program} {k : TypeId} {w w' : World} {b r n ms : Nat} {m : Int -> Option Value} {left : Int -> Bool}
theorem uk.mapI(h:uk P k w b r n m left ms):eX P k w b n m:=by
 obtain⟨D,a,h1,h2,-⟩:=h;exact⟨D,h1.owns,h2⟩
theorem uk.lt(h:uk P k w b r n m left ms):r<w:=by obtain⟨D,a,h1,-⟩:=h;exact h1.lt
theorem uk.left_eq(h:uk P k w b r n m left ms):w.rangeLeft b r=ms:=by obtain⟨D,a,h1,-⟩:=h;exact h1.left_eq
theorem uk.ae(h:uk P k w b r n m left ms)(a:Bl w w w'):uk P k w' b r n m left ms:=by
 have p:=h.mapI.lt;have q:=h.lt;obtain⟨D,s,⟨l,clock,t,u,c,d,e,f,g,i,j⟩,h2,o⟩:=h;exact⟨D,s,⟨l,clock,t,u,c,(a.block b p).trans d,e,f,g,(a.block r q).trans i,j⟩,h2,o⟩
theorem IJ{d:Array Oper}{rest:List Oper}{o:Oper}{a:Act}{Q:Exit->Act->Wd->Prop}(j:o.guard=none)(c:Operand)(t:Ti)(s:o.op=Op.range t c){e:Ti}(l:P.underlying k=some (.int .i64))(ht:P.underlying t=some (.map k e))(p:a.eval c=.map (some b))
 (h:eX P k w b n m)(f:∀w' ms,uk P k w' b w n m (fun i=>(m i).isSome) ms->Bl w w w'->wpList P d Q rest (a.put o.dst (.pointer w)) w'):wpList P d Q (o::rest) a w:=by
 obtain⟨D,h1,h2⟩:=h;refine wpList_range_own w j c t s k e (int_keyed l) ht Tu b n D p h1 fun w' q g1 u=> ?_;refine f w' _ ⟨D,_,q,h2,fun i=> ?_⟩ ⟨g1.os,g1.tape,g1.output,g1.size,fun g r=>g1.block g r (by simp)⟩;exact(h2 (.int .i64 i) trivial).1
theorem Mm{t:Array Oper}{rest:List Oper}{o:Oper}{a:Act}{Q:Exit->Act->Wd->Prop}(B:o.guard=none)(q:Operand)(M:o.op=Op.next q false)(l:P.underlying k=some (.int .i64))(N:a.eval q=.pointer r)(h:uk P k w b r n m left ms)
 (K:(∀i,left i=false)->wpList P t Q rest (a.put o.dst (.tuple #[false])) w)
 (J:∀(x:Int) (v:Vl) (w':Wd) (z:Nat),left x=true->m x=some v->uk P k w' b r n m (fun i=>left i&&i !=x) z->z<ms->aU r w w'->Bl r w w'->(Instr.entry (.pointer r)).run P w'=.ok (.tuple #[x,v]) w'->
   wpList P t Q rest (a.put o.dst (.tuple #[true,x,v])) w'):wpList P t Q (o::rest) a w:=by
 obtain⟨D,H,h1,h2,j⟩:=h;refine wpList_next_ranges w B q M k (int_keyed l) Tu (Value.int .i64) (fun v:Vl=>v) (fun W G s=>by obtain⟨x,rfl,_⟩:=Maps.keyOf_int_inv l s;exact⟨x,rfl⟩) (fun v y _=>⟨v,rfl⟩) b r n D H ms N h1 (fun _ p=>K fun i=>by rw[<-j];exact p _) ?_;intro x v G y I L s p f T E O d V S;obtain⟨U,e,rfl,X⟩:=Maps.keyOf_int_inv l s;injection e with _ e;subst e
 have F:y.1=.held v:=by
  unfold Tu at f;injection f with f
  rw[<-f]
 have C:m x=some v:=by
  have c:=T (.lit (.int .i64 0));rw[(h2 (.int .i64 x) trivial).2,F]at c;unfold TY at c;simp only at c
  cases hx:m x with
  |none=>rw[hx]at c;simp at c
  |some u=>rw[hx]at c;simp at c;rw[c]
 refine J x v I L (by rw[<-j];exact p) C ⟨D,_,E,h2,fun i=> ?_⟩ O ⟨d.size,fun g A R=>d.block g A (by simpa using R)⟩ ⟨d.os,d.tape,d.output,d.size,fun g A=>d.block g (by have:=h1.lt;omega) (by simp;omega)⟩ S
 dsimp only
 rw[j]
 congr 1
 by_cases e:i=x
 ·subst e;simp[Lit.sameKey]
 ·simp[Lit.sameKey,e]
end
end Go.Proofs.YthfhilggbbobmaaGreatDoor
