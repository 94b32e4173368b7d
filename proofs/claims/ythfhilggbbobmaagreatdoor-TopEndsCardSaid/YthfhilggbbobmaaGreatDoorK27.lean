/- Parts of the proof. -/
import Derived.Test.YthfhilggbbobmaaGreatDoorK26
set_option linter.all false
set_option maxHeartbeats 20000000
namespace Go.Proofs.YthfhilggbbobmaaGreatDoor
set_option maxRecDepth 100000
open Go.Proofs.Tryz
open Go renaming World->Wd,Value->Vl,Ending->Ed,Addr->Ad,Calls->Cs
open Go.RowKit renaming Below->Bl
open Go.RowKit
abbrev F3(s:Nd):Array Vl:= #[s.st,s.jb,s.ep,s.dr,s.wt,s.si,s.ak]
def MU(w:Wd)(q:Nd->Bool)(l:List Nd)(X Y:Vl)(wr:Wd):Prop:=∃(k:Nat) (A:OA) (n c:Nat),k<=l.length/\X=.slice A n c/\Y=.int .i64 k/\n<=k/\df wr w A n c (dL (pw q l k))/\Bl w w wr
def QD(q:Nd->Bool)(l:List Nd)(w:Wd)(e:Ed)(w':Wd):Prop:=∃A n c,e=.returned (.slice A n c)/\n<=l.length/\df w' w A n c (dL (pw q l l.length))/\Bl w w w'
theorem FK(g:FuncId)(P Q:Ad)(q:Nd->Bool)(eg:∀args w,(callFunc g args).run prog w=.ok (.enter g args) w)(x:Sr)(w:Wd)(h:db w x)(T:x.s.ag.length<=64)
 (F:∀(k:Nat) (s:Nd) (W:Wd),Bl w w W->Cs prog g #[k,.agg (F3 s),.pointer (some P),.pointer (some Q)] W (an (q s:Bool) W)):
 Cs prog 57 #[.agg (aY x),.func (.func g) #[] #[.pointer (some P),.pointer (some Q)]] w (an (.int .u64 (ia q x.s.ag:Int)) w):=by
 rcases x with⟨st,jr,⟨n,Nn,E⟩,J,R,B,L⟩;have hN:st.ag.length=Nn:=h.ag.cb;subst hN;have C:Hid (tm w n st.ag.length st.ag):=h.ag;have HC:=ah F;obtain⟨V0,y,S,M⟩:=az w (aY ⟨st,jr,⟨n,st.ag.length,E⟩,J,R,B,L⟩) 28;have x1:V0.cell? ⟨w,1,none⟩=some (.slice n st.ag.length E):=M.cell 1;have yP:=ah S;obtain⟨l,G⟩:=nm st.ag;simp only at T⊢;rw[<-G]at C T x1 y⊢;clear h F S M G;go_in;go_wp2_with(rw[<-y];clear y;go_step)
 go_loopw [5,13] (fun X Y wr=>MU w q l X Y wr) (fun _ Y _=>l.length-(intOf Y).toNat)
 case atStart=>exact⟨0,none,0,0,by omega,rfl,rfl,by omega,be.nil _ _ _ _,yP⟩
 case round=>
  obtain⟨k,m,f,r,hk,rfl,rfl,yT,H,v⟩:=hrel;have d:=ah H;clear H;by_cases yR:k<l.length
  ·obtain⟨b,off,s,rfl,hb,hs,d0,d1,d2,d3,d4,d5,d6⟩:=cp.seven (C.ae v) yR;have c:=ah (qy (q:=q) hs);have yS:=ah (cG hs);clear hs;go_wp2_with fail;obtain⟨V,t⟩:=nm (wr.alloc (.cells (F3 s) 34));rw[<-t];have p:Bl wr wr V:=t▸aA;have z:=aa v p;have j:=ah (HC k s V z);clear t d0 d1 d2 d3 d4 d5 d6;cases hq:q s
   ·rw[hq]at j c;rw[cL (by simp),fO]at c;clear hq;refine av j fun a b2=> ?_;go_wp2_with fail;exact⟨⟨k+1,m,f,r,by omega,rfl,by go_num,by omega,by rw[c.out];exact(d.ae p).ae b2,aa z b2⟩,by simp[intOf];omega⟩
   ·rw[hq]at j c;rw[cK rfl]at c;clear hq;refine av j fun a b2=> ?_;have Z:=aa z b2;obtain⟨U,e⟩:=nm (a.alloc (.cells #[k] 3));have o:Bl a a U:=e▸aA;have I:fs U a 1 [(k:Int)]:=e▸cp.new gi a (k:Int) #[k] 3 rfl;obtain⟨A2,c2,w3,K,u,b3,_,_⟩:=dy gi (P:=prog) U w 171 171 3 _ 8 underlying171 pf rfl m f r _ (((d.ae p).ae b2).ae o) a 1 1 [(k:Int)] I (by simp only[maxLen];omega) (by omega) (cF Z.size o.size);have O:dL (pw q l k)++[(k:Int)]=dL (pw q l (k+1)):=by rw[c.out,mG];rfl
    rw[O]at u;have D:=ah K;have yO:=ah u;rw[e]at D;have yQ:=(aa Z o).trans b3;clear K u I e O;go_wp2_with(at_builtin;refine au rfl _ _ rfl rfl rfl D ?_);exact⟨⟨k+1,A2,f+1,c2,by omega,rfl,by go_num,by omega,yO,yQ⟩,by simp[intOf];omega⟩
  ·obtain rfl:k=l.length:=by omega
   have A:=zG q l l.length lr;rw[cT]at A;have N:=ah (JD m f r (pw q l l.length) wr (d.et gi) (be.max d) (If q l _) (fun i hi=>by have:=Do i hi;omega));rw[A]at N;clear A;go_wp2_with fail;refine aQ N ?_;go_wp2;go_ret;exact⟨rfl,v⟩
theorem BH(g:FuncId)(am:Int)(q:Nd->Bool)(eg:∀args w,(callFunc g args).run prog w=.ok (.enter g args) w)(A:OA)(n c:Nat)(l:List Nd)(w:Wd)(h:tm w A n l)(yP:n<=1000)
 (z:∀(s:Nd) (W:Wd),s∈l->Bl w w W->Cs prog g #[am,.agg (F3 s)] W (an (q s:Bool) W)):
 Cs prog 92 #[.slice A n c,.func (.func g) #[am] #[]] w (QD q l w):=by
 have S:=h.cb;subst S;have I:=ah h;have H:=ah z;have yL:Hid (Bl w w w):=cC _ _;clear h z;go_in;go_wp2
 go_loopw [5,10] (fun X Y wr=>MU w q l X Y wr) (fun _ Y _=>l.length-(intOf Y).toNat)
 case atStart=>exact⟨0,none,0,0,by omega,rfl,rfl,by omega,be.nil _ _ _ _,yL⟩
 case round=>
  obtain⟨k,j,f,r,hk,rfl,rfl,yM,B,v⟩:=hrel;have m:=ah B;clear B;by_cases yO:k<l.length
  ·obtain⟨b,off,s,rfl,hb,hs,K,L,M,N,O,Q,R⟩:=cp.seven (I.ae v) yO;have d:=ah (qy (q:=q) hs);have T:=ah (cG hs);clear hs;go_wp2_with fail;obtain⟨V,t⟩:=nm (wr.alloc (.cells (F3 s) 34));rw[<-t];have p:Bl wr wr V:=t▸aA;have x:=aa v p;have i:=ah (H s V T x);clear t K L M N O Q R;cases hq:q s
   ·rw[hq]at i d;rw[cL (by simp),fO]at d;clear hq;refine av i fun a b2=> ?_;go_wp2_with fail;exact⟨⟨k+1,j,f,r,by omega,rfl,by go_num,by omega,by rw[d.out];exact(m.ae p).ae b2,aa x b2⟩,by simp[intOf];omega⟩
   ·rw[hq]at i d;rw[cK rfl]at d;clear hq;refine av i fun a b2=> ?_;have E:=aa x b2;obtain⟨U,e⟩:=nm (a.alloc (.cells #[k] 3));have o:Bl a a U:=e▸aA;have C:fs U a 1 [(k:Int)]:=e▸cp.new gi a (k:Int) #[k] 3 rfl;obtain⟨G,J,w3,D,u,b3,_,_⟩:=dy gi (P:=prog) U w 171 171 3 _ 8 underlying171 pf rfl j f r _ (((m.ae p).ae b2).ae o) a 1 1 [(k:Int)] C (by simp only[maxLen];omega) (by omega) (cF E.size o.size);have F:dL (pw q l k)++[(k:Int)]=dL (pw q l (k+1)):=by rw[d.out,mG];rfl
    rw[F]at u;have y:=ah D;have Z:=ah u;rw[e]at y;have yN:=(aa E o).trans b3;clear D u C e F;go_wp2_with(at_builtin;refine au rfl _ _ rfl rfl rfl y ?_);exact⟨⟨k+1,G,f+1,J,by omega,rfl,by go_num,by omega,Z,yN⟩,by simp[intOf];omega⟩
  ·obtain rfl:k=l.length:=by omega
   go_wp2;go_ret;exact⟨j,f,r,rfl,yM,m,v⟩
theorem Ka(am:Int)(x:Nd)(w:Wd)(h:0<=am/\am<=1000000)(e:0<=x.ak/\x.ak<=1000000):Cs prog 93 #[am,.agg (F3 x)] w (an (lp am x:Bool) w):=by
 have a:Hid (lp am x=(x.wt !=0&&decide ((3:Int)<=am-x.ak))):=rfl;have b:Hid (Bl w w (w.alloc (.cells (F3 x) 34))):=aA;have k:=ai.new w 34 (F3 x);have c:=k.cell 4;have d:=k.cell 6;simp at c d;cases h1:(x.wt !=0)
 case' true=>cases h2:decide ((3:Int)<=am-x.ak)
 all_goals
  rw[h1]at a
  try rw[h2]at a
  go_in;go_wp2;go_ret;exact⟨by rw[a.out];rfl,b⟩
theorem Sa:∀p1 a b p:Bool,((p1=false/\a=false/\b=false)\/(p1=true/\p=true))\/(p1=true/\p=false)\/((p1=false/\a=true/\p=true)\/(p1=false/\a=true/\p=false)\/(p1=false/\a=false/\b=true/\p=true)\/(p1=false/\a=false/\b=true/\p=false)):=by
 intro p1 a b p;cases p1<;>cases a<;>cases b<;>cases p<;>simp
theorem OP(am:Int)(x:Nd)(w:Wd)(h:0<=am/\am<=1000000)(j:0<=x.si/\x.si<=1000000):Cs prog 167 #[am,.agg (F3 x)] w (an (gA am x:Bool) w):=by
 have a:Hid (gA am x=((x.wt==1||x.wt==3||x.wt==5)&&decide ((12:Int)<=am-x.si))):=rfl;have b:Hid (Bl w w (w.alloc (.cells (F3 x) 34))):=aA;have k:=ai.new w 34 (F3 x);have g:=k.cell 4;have i:=k.cell 5;simp at g i;obtain⟨p1,h1⟩:∃p,(x.wt==1)=p:=⟨_,rfl⟩;obtain⟨e,c⟩:∃p,(x.wt==3)=p:=⟨_,rfl⟩;obtain⟨f,d⟩:∃p,(x.wt==5)=p:=⟨_,rfl⟩;obtain⟨p,h2⟩:∃p,decide ((12:Int)<=am-x.si)=p:=⟨_,rfl⟩;rw[h1,c,d,h2]at a;rcases Sa p1 e f p with(⟨rfl,rfl,rfl⟩|⟨rfl,rfl⟩)|⟨rfl,rfl⟩|(⟨rfl,rfl,rfl⟩|⟨rfl,rfl,rfl⟩|⟨rfl,rfl,rfl,rfl⟩|⟨rfl,rfl,rfl,rfl⟩)
 all_goals
  go_in;go_wp2;go_ret;exact⟨by rw[a.out];rfl,b⟩
set_option maxRecDepth 512
theorem PF(k:Nat)(x:Nd)(R Q:Nat)(r:Rz)(a:Int)(w:World)(hR:w.cell? ⟨R,0,none⟩=some (.int .i64 r.jb))(d:R<w.heap.size)(f:w.cell? ⟨Q,0,none⟩=some (.int .i64 a))(c:Q<w.heap.size):
 Calls prog 58 #[.int .i64 (k:Int),.agg (F3 x),.pointer (some ⟨R,0,none⟩),.pointer (some ⟨Q,0,none⟩)] w (an (.bool (wI r.jb a x)) w):=by
 have b:Hid (wI r.jb a x=(x.jb==r.jb&&x.wt==a)):=rfl;have g:Hid (Below w.heap.size w (w.alloc (.cells (F3 x) 34))):=aA;have e:=ai.new w 34 (F3 x);have h:=e.cell 1;have i:=e.cell 4;have j:(w.alloc (.cells (F3 x) 34)).cell? ⟨R,0,none⟩=some (.int .i64 r.jb):=by rw[World.cell?_alloc_lt _ _ _ d];exact hR
 have l:(w.alloc (.cells (F3 x) 34)).cell? ⟨Q,0,none⟩=some (.int .i64 a):=by rw[World.cell?_alloc_lt _ _ _ c];exact f
 simp at h i;clear hR f e;cases h1:(x.jb==r.jb)
 case' true=>cases h2:(x.wt==a)
 all_goals
  rw[h1]at b
  try rw[h2]at b
  go_enter func58,ntmps58;go_wp2_with fail;go_ret;exact⟨by rw[b.out];rfl,g.out⟩
theorem SJ:∀args w,(callFunc 58 args).run prog w=.ok (.enter 58 args) w:=enters_of func58 (by kernel_rfl) rfl
theorem OT:∀p1 p2 a b c:Bool,(p1=true\/(p1=false/\p2=true)\/(p1=false/\p2=false/\a=true)\/(p1=false/\p2=false/\a=false/\b=true)\/(p1=false/\p2=false/\a=false/\b=false/\c=true))\/(p1=false/\p2=false/\a=false/\b=false/\c=false):=by
 intro p1 p2 a b c;cases p1<;>cases p2<;>cases a<;>cases b<;>cases c<;>simp
theorem I6(a b:Nat):((a:Int) !=(b:Int))= !(a==b):=by
 by_cases h:a=b
 ·subst h;simp
 ·have:¬(a:Int)=(b:Int):=by omega
  rw[beq_eq_false_iff_ne.2 h,bne_iff_ne.2 this];rfl
theorem I3(a b:Nat):((a:Int)==(b:Int))=(a==b):=by
 by_cases h:a=b
 ·subst h;simp
 ·have:¬(a:Int)=(b:Int):=by omega
  rw[beq_eq_false_iff_ne.2 h,beq_eq_false_iff_ne.2 this]
theorem LM(ag:List Nd)(r:Rz)(j:Jb):vk ag r j=(!(j.sh.kd !=3)&& !((r.nd:Int)==0)&& !(((eH r.sd r.nd:Nat):Int) !=0)&& !decide (r.si<0)&& !decide (1000000<r.si)&& !(((ia (wI r.jb (mq r)) ag:Nat):Int) !=((eH r.nd r.sd:Nat):Int))&&kx ag r.sd&&
 (if r.gr then(((r.nd:Int)==((cd (xd r.jb 2) ag:Nat):Int))&&decide (ms j.nd+ms r.nd<=j.sh.mx))else((((eH r.nd j.nd:Nat):Int)==0)&&decide (j.sh.mn<=ms j.nd-ms r.nd)))):=by
 have e0:∀a:Nat,((a:Int)==0)=(a==0):=fun a=>I3 a 0;have b:∀a:Nat,((a:Int) !=0)= !(a==0):=fun a=>I6 a 0;have c:bZ r.si=(!decide (r.si<0)&& !decide (1000000<r.si)):=FO r.si;unfold vk;rw[c];simp only[e0,b,I6,I3,bne,Bool.not_not];generalize(if r.gr=true then _ else _:Bool)=t;generalize(j.sh.kd==3)=a1;generalize(r.nd==0)=a2;generalize(eH r.sd r.nd==0)=a3;generalize decide (r.si<0)=a4;generalize decide (1000000<r.si)=a5;generalize(ia (wI r.jb (mq r)) ag==eH r.nd r.sd)=a6;generalize kx ag r.sd=a7;cases a1<;>cases a2<;>cases a3<;>cases a4<;>cases a5<;>cases a6<;>cases a7<;>cases t<;>rfl
theorem NL{s:Nat}(h:s<2^64):0<=ms s/\ms s<=64:=by
 unfold ms
 have:(dw s).length<=64:=by
  unfold dw;have:=List.length_filter_le (fun i=>s.testBit i) (List.range 64);simpa using this
 omega
set_option maxRecDepth 100000 in
theorem Du(x:Sr)(r:Rz)(j:Jr)(w:World)(h:db w x)(h64:x.s.ag.length<=64)(hj:j.j.nd<2^64)(hr:r.nd<2^64/\r.sd<2^64):
 Calls prog 28 #[.agg (aY x),.agg (om r),.agg (bk j)] w (an (.bool (vk x.s.ag r j.j)) w):=by
 rcases x with⟨st,jr,⟨u,Nn,y⟩,J,Rr,B,L⟩;have hN:st.ag.length=Nn:=h.ag.cb;subst hN;simp only at h64⊢;obtain⟨V,z⟩:∃V,V=((w.alloc (.cells (aY ⟨st,jr,⟨u,st.ag.length,y⟩,J,Rr,B,L⟩) 28)).alloc (.cells (om r) 37)).alloc (.cells (bk j) 51):=⟨_,rfl⟩;have bV:Below w.heap.size w V:=z▸(aC).alloc (by simp;omega) _;have kS:ai V w.heap.size 28 (aY ⟨st,jr,⟨u,st.ag.length,y⟩,J,Rr,B,L⟩):=z▸((ai.new _ _ _).alloc _).alloc _
 have kR:ai V (w.heap.size+1) 37 (om r):=by
  rw[z];have:=ai.new (w.alloc (.cells (aY ⟨st,jr,⟨u,st.ag.length,y⟩,J,Rr,B,L⟩) 28)) 37 (om r);rw[World.size_alloc]at this;exact this.alloc _
 have kJ:ai V (w.heap.size+2) 51 (bk j):=by
  rw[z];have:=ai.new ((w.alloc (.cells (aY ⟨st,jr,⟨u,st.ag.length,y⟩,J,Rr,B,L⟩) 28)).alloc (.cells (om r) 37)) 51 (bk j);rw[World.size_alloc,World.size_alloc]at this;exact this
 have HB:=ah bV;have HSin:=ah h;have HKS:=ah kS;have HKR:=ah kR;have HKJ:=ah kJ;have hVs:V.heap.size=w.heap.size+3:=by rw[z];simp
 have HVs:=ah hVs
 have f:Hid (∀W,Below V.heap.size V W->W.cell? ⟨w.heap.size,1,none⟩=some (.slice u st.ag.length y)/\W.cell? ⟨w.heap.size+1,0,none⟩=some (.int .i64 r.jb)/\W.cell? ⟨w.heap.size+1,1,none⟩=some (.bool r.gr)/\W.cell? ⟨w.heap.size+1,2,none⟩=some (.int .u64 (r.nd:Int))/\W.cell? ⟨w.heap.size+1,3,none⟩=some (.int .u64 (r.sd:Int))/\W.cell? ⟨w.heap.size+1,4,none⟩=some (.int .i64 r.si)/\W.cell? ⟨w.heap.size+2,4,none⟩=some (.int .i64 j.j.sh.kd)/\W.cell? ⟨w.heap.size+2,6,none⟩=some (.int .i64 j.j.sh.mn)/\W.cell? ⟨w.heap.size+2,7,none⟩=some (.int .i64 j.j.sh.mx)/\W.cell? ⟨w.heap.size+2,18,none⟩=some (.int .u64 (j.j.nd:Int))):=fun W b=>
  ⟨(kS.ae b kS.lt).cell 1,(kR.ae b kR.lt).cell 0,(kR.ae b kR.lt).cell 1,(kR.ae b kR.lt).cell 2,(kR.ae b kR.lt).cell 3,(kR.ae b kR.lt).cell 4,(kJ.ae b kJ.lt).cell 4,(kJ.ae b kJ.lt).cell 6,(kJ.ae b kJ.lt).cell 7,(kJ.ae b kJ.lt).cell 18⟩
 obtain⟨E,F,G,C,y3,y4,z4,z6,H,d⟩:=f.out V (Below.refl _ _);have n:=ah (LM st.ag r j.j);have hb1:=jm r.sd r.nd;have hb2:=jm r.nd r.sd;have hb3:=jm r.nd j.j.nd;have HN3:=ah (NL hj);have HN4:=ah (NL hr.1);have HQ:=ah fun(W:World) (b:Below w.heap.size w W)=>LH u st.ag.length y st.ag r.sd W (h.ag.ae b) (by simp[maxLen];omega) hr.2;have HOf:=ah fun(W:World) (b:Below w.heap.size w W)=>CK u st.ag.length y st.ag r.jb 2 W (h.ag.ae b) (by simp[maxLen];omega);have K:=ah fun(W:World)=>jn j.j.nd W hj;have M:=ah fun(W:World)=>jn r.nd W hr.1;rw[show(((dw j.j.nd).length:Nat):Int)=ms j.j.nd from rfl]at K;rw[show(((dw r.nd).length:Nat):Int)=ms r.nd from rfl]at M;have HWh:=ah fun(Q:Nat) (m:Int) (W:World) (hQ:W.cell? ⟨Q,0,none⟩=some (.int .i64 m)) (hQl:Q<W.heap.size) (b:Below V.heap.size V W)=>FK 58 ⟨w.heap.size+1,0,none⟩ ⟨Q,0,none⟩ (wI r.jb m) SJ _ W (h.ae (aa bV b)) h64 (fun k s W2 A=>PF k s (w.heap.size+1) Q r m W2 ((kR.ae (aa b A) kR.lt).cell 0) (kR.ae (aa b A) kR.lt).lt ((World.cell?_of_block (a:=⟨Q,0,none⟩) (A.block Q hQl)).trans hQ) (Nat.lt_of_lt_of_le hQl A.size));obtain⟨O,R⟩:∃a,a=ms j.j.nd:=⟨_,rfl⟩;obtain⟨P,S⟩:∃a,a=ms r.nd:=⟨_,rfl⟩;obtain⟨d1,T⟩:∃a,a=eH r.sd r.nd:=⟨_,rfl⟩;obtain⟨d2,X⟩:∃a,a=eH r.nd r.sd:=⟨_,rfl⟩;obtain⟨d3,Y⟩:∃a,a=eH r.nd j.j.nd:=⟨_,rfl⟩;obtain⟨q,hq⟩:∃a,a=kx st.ag r.sd:=⟨_,rfl⟩
 obtain⟨v,hv⟩:∃a,a=cd (xd r.jb 2) st.ag:=⟨_,rfl⟩;obtain⟨s,hs⟩:∃a,a=ia (wI r.jb (mq r)) st.ag:=⟨_,rfl⟩;rw[<-R]at K HN3;rw[<-S]at M HN4;rw[<-T]at hb1;rw[<-X]at hb2;rw[<-Y]at hb3;rw[<-hq]at HQ;rw[<-hv]at HOf;rw[<-R,<-S,<-T,<-X,<-Y,<-hq,<-hv,<-hs]at n;obtain⟨p1,q1⟩:∃p,(j.j.sh.kd !=3)=p:=⟨_,rfl⟩;obtain⟨p2,q2⟩:∃p,((r.nd:Int)==0)=p:=⟨_,rfl⟩;obtain⟨p3,q3⟩:∃p,((d1:Int) !=0)=p:=⟨_,rfl⟩;obtain⟨p4,q4⟩:∃p,decide (r.si<0)=p:=⟨_,rfl⟩;obtain⟨p5,q5⟩:∃p,decide (1000000<r.si)=p:=⟨_,rfl⟩;obtain⟨p6,q6⟩:∃p,((s:Int) !=(d2:Int))=p:=⟨_,rfl⟩;rw[q1,q2,q3,q4,q5,q6]at n;have Q6:=ah q6;have HSd:=ah hs;clear h bV kS kR kJ R S T X Y hq hv hs q6 hVs;rcases OT p1 p2 p3 p4 p5 with(rfl|⟨rfl,rfl⟩|⟨rfl,rfl,rfl⟩|⟨rfl,rfl,rfl,rfl⟩|⟨rfl,rfl,rfl,rfl,rfl⟩)|⟨rfl,rfl,rfl,rfl,rfl⟩
 iterate 5
  ·go_enter func28,ntmps28;go_wp2_with(rw[<-z];clear z;go_step);go_ret;exact⟨by rw[n.out];simp,HB.out⟩
 cases hg:r.gr
 all_goals
  have HG:=ah hg;rw[hg]at n G f
  first
   |(have l:Hid (ia (wI r.jb 4) st.ag=s):=(by show _=_;rw[HSd.out,mq,HG.out];first|done|rfl);obtain⟨U,hU,bU,kU⟩:=az V #[.int .i64 4] 3;have N:=ah (HWh.out V.heap.size 4 U (kU.cell 0) kU.lt bU))
   |(have l:Hid (ia (wI r.jb 2) st.ag=s):=(by show _=_;rw[HSd.out,mq,HG.out];first|done|rfl);obtain⟨U,hU,bU,kU⟩:=az V #[.int .i64 2] 3;have N:=ah (HWh.out V.heap.size 2 U (kU.cell 0) kU.lt bU))
  rw[l.out]at N;have HKU:=ah (HKS.out.ae bU HKS.out.lt);have HBU:=ah bU;have E1:=fun o=>(f.out _ ((Below.refl V.heap.size V).alloc (Nat.le_refl _) o)).2.2.1;clear bU kU;go_enter func28,ntmps28;go_wp2_with(first|(rw[<-z];clear z;go_step)|(rw[<-hU];clear hU;refine cr rfl _ _ rfl HKU.out rfl underlying28 rfl aT rfl ?_));refine av N.out fun w2 b2=> ?_;have I:=ah (aa HBU.out b2);have g:=ah (aa HB.out I.out);have HQ2:=ah (HQ.out w2 g.out);clear b2 E F G C y3 y4 z4 z6 H d;obtain⟨E,F,G,C,y3,y4,z4,z6,H,d⟩:=f.out w2 I.out;have q6:=Q6.out;cases p6
  case true=>
   go_wp2_with fail;go_ret;exact⟨by rw[n.out];simp,g.out⟩
  go_wp2_with fail;refine av HQ2.out fun Z b3=> ?_;have HB3:=ah (aa I.out b3);have D:=ah (aa g.out b3);clear b3 E F G C y3 y4 z4 z6 H d q6;cases q
  ·go_wp2_with fail;go_ret;exact⟨by rw[n.out];simp,D.out⟩
  have HS3:Hid (∀W,Below Z.heap.size Z W->W.cell? ⟨w.heap.size+1,2,none⟩=some (.int .u64 (r.nd:Int))/\W.cell? ⟨w.heap.size+2,18,none⟩=some (.int .u64 (j.j.nd:Int))):=fun W b=>by
   obtain⟨E,F,G,C,y3,y4,z4,z6,H,d⟩:=f.out W (aa HB3.out b);exact⟨C,d⟩
  have b0:Below Z.heap.size Z Z:=Below.refl _ _;go_wp2_with fail;refine aw (fun w'=>Below Z.heap.size Z w') (by kernel_rfl) (by kernel_rfl) b0.drew ?_
  repeat(first
   |(refine bF ?_ ?_
     ·rfl
     simp only[Act.put,aE,aF,aG])
   |(refine cw ?_ ?_
     ·rfl
     apply Exists.intro;refine⟨fun w' c=> ?_,?_⟩
     ·obtain⟨e2,e18⟩:=HS3.out w' c;simp[go_sem,e2,e18]
      try rfl
     simp only[Act.put,aE,aF,aG])
   |(refine ee 60 #[.int .u64 (j.j.nd:Int)] (.int .i64 O) ?_ (fun w'=> ?_) (fun w' c=>(K.out w').mono fun e w'' ⟨he,hb⟩=>⟨he,hb▸c⟩) ?_
     ·rfl
     ·simp[go_sem]
     simp only[Act.put,aE,aF,aG])
   |(refine ee 60 #[.int .u64 (r.nd:Int)] (.int .i64 P) ?_ (fun w'=> ?_) (fun w' c=>(M.out w').mono fun e w'' ⟨he,hb⟩=>⟨he,hb▸c⟩) ?_
     ·rfl
     ·simp[go_sem]
     simp only[Act.put,aE,aF,aG]))
  refine bM ?_;intro t b4;have HB4:=ah (aa HB3.out b4);have i:=ah (aa D.out b4);obtain⟨E,F,G,C,y3,y4,z4,z6,H,d⟩:=f.out t HB4.out;have n3:=HN3.out;have n4:=HN4.out;clear b4
 ·have hw:IntKind.i64.wrap (O-P)=O-P:=IntWalk.i64_in _ (by omega);obtain⟨p8,q8⟩:∃p,((d3:Int)==0)=p:=⟨_,rfl⟩;obtain⟨p9,q9⟩:∃p,decide (j.j.sh.mn<=O-P)=p:=⟨_,rfl⟩;rw[if_neg (by simp),q8,q9]at n;cases p8
  all_goals
   go_wp2_with fail;go_ret;exact⟨by rw[n.out];simp,i.out⟩
 ·have HS4:Hid (∀W,Below t.heap.size t W->W.cell? ⟨w.heap.size,1,none⟩=some (.slice u st.ag.length y)/\W.cell? ⟨w.heap.size+1,0,none⟩=some (.int .i64 r.jb)/\W.cell? ⟨w.heap.size+1,2,none⟩=some (.int .u64 (r.nd:Int))/\W.cell? ⟨w.heap.size+2,7,none⟩=some (.int .i64 j.j.sh.mx)):=fun W b=>by
   obtain⟨E,F,G,C,y3,y4,z4,z6,H,d⟩:=f.out W (aa HB4.out b);exact⟨E,F,C,H⟩
  have HO4:=ah fun(W:World) (b:Below t.heap.size t W)=>HOf.out W (aa i.out b);have hw:IntKind.i64.wrap (O+P)=O+P:=IntWalk.i64_in _ (by omega);obtain⟨p8,q8⟩:∃p,((r.nd:Int)==(v:Int))=p:=⟨_,rfl⟩;obtain⟨p9,q9⟩:∃p,decide (O+P<=j.j.sh.mx)=p:=⟨_,rfl⟩;rw[if_pos trivial,q8,q9]at n;have b5:Below t.heap.size t t:=Below.refl _ _;go_wp2_with fail;clear E F G C y3 y4 z4 z6 H d;cases p8
  all_goals
   first|have q8':(r.nd:Int)=(v:Int):=by simpa using q8|have q8':¬(r.nd:Int)=(v:Int):=by simpa using q8
   refine aw (fun w'=>Below t.heap.size t w') (by kernel_rfl) (by kernel_rfl) b5.drew ?_
   repeat(first
    |(refine bF ?_ ?_
      ·rfl
      simp only[Act.put,aE,aF,aG])
    |(refine cw ?_ ?_
      ·rfl
      apply Exists.intro;refine⟨fun w' c=> ?_,?_⟩
      ·obtain⟨e1,e0,e2,e7⟩:=HS4.out w' c;simp[go_sem,e1,e0,e2,e7,q8',q8,hw,q9]
       try rfl
      simp only[Act.put,aE,aF,aG])
    |(refine ee 30 #[.slice u st.ag.length y,.int .i64 r.jb,.int .i64 2] (.int .u64 (v:Int)) ?_ (fun w'=> ?_) (fun w' c=>(HO4.out w' c).mono fun e w'' ⟨he,hb⟩=>⟨he,aa c hb⟩) ?_
      ·rfl
      ·simp[go_sem]
      simp only[Act.put,aE,aF,aG]))
   refine bM ?_;intro w6 b6;go_wp2_with fail;go_ret;exact⟨by rw[n.out];simp,aa i.out b6⟩
def Ib(l:List Rz):Int->Option Value:=fun id=>(l.find? (fun r=>r.jb==id)).map (fun r=> .agg (om r))
variable{l:List Rz}{k:Nat}
theorem PK{s:Rz}(hs:l[k]?=some s)(b:∀(i:Nat) (r:Rz),i<k->l[i]?=some r->r.jb<s.jb):Ib (l.take (k+1))=zF (Ib (l.take k)) s.jb (.agg (om s)):=by
 obtain⟨c,rfl⟩:=List.getElem?_eq_some_iff.1 hs
 funext id
 unfold Ib zF;rw[List.take_succ_eq_append_getElem c,List.find?_append];by_cases e:id=l[k].jb
 ·subst e
  have hn:(l.take k).find? (fun r=>r.jb==l[k].jb)=none:=by
   rw[List.find?_eq_none];intro x hx;obtain⟨a,d,rfl⟩:=List.mem_take_iff_getElem.1 hx;have:=b a _ (by omega) (List.getElem?_eq_getElem (by omega));simp;omega
  rw[hn];simp
 ·rw[if_neg e];have:(l[k].jb==id)=false:=by simp;exact fun h=>e h.symm
  simp[this]
def sj(ag:List Nd)(aj:List Jb)(l:List Rz)(i:Nat):Bool:=
 match l[i]? with
 |none=>true
 |some r=>(i==0||((l[i-1]?.map fun p=>decide (p.jb<r.jb)).getD true))&&(match runs aj r.jb with|none=>false|some j=>vk ag r j)
variable{ag:List Nd}{aj:List Jb}
theorem Tr(h:∀i,i<=k->sj ag aj l i=true){s:Rz}(hs:l[k]?=some s):∀(i:Nat) (r:Rz),i<k->l[i]?=some r->r.jb<s.jb:=by
 induction k generalizing s with
 |zero=>intro i r hi;omega
 |succ k ih=>
  intro i r hi b;have c:=(List.getElem?_eq_some_iff.1 hs).1;have a:=List.getElem?_eq_getElem (show k<l.length by omega);have h1:=h (k+1) (Nat.le_refl _);unfold sj at h1;rw[hs]at h1;simp[a]at h1;by_cases e:i=k
  ·subst e;rw[a]at b;cases b;exact h1.1
  ·have:=ih (fun i hi=>h i (by omega)) a i r (by omega) b;have:=h1.1;omega
theorem Fs:mI ag aj l=true↔∀i,i<l.length->sj ag aj l i=true:=by
 unfold mI;rw[Bool.and_eq_true,List.all_eq_true,decide_eq_true_iff];constructor
 ·rintro⟨h1,h2⟩ i hi;have hx:=List.getElem?_eq_getElem hi;unfold sj;rw[hx];simp only[Bool.and_eq_true];refine⟨?_,h1 _ (List.getElem_mem hi)⟩
  cases i with
  |zero=>rfl
  |succ k=>
   have d:=List.getElem?_eq_getElem (show k<l.length by omega);simp[d,List.pairwise_iff_getElem.1 h2 k (k+1) (by omega) hi (by omega)]
 ·intro h;refine⟨fun r e=> ?_,List.pairwise_iff_getElem.2 fun i j hi c b=> ?_⟩
  ·obtain⟨i,hi,rfl⟩:=List.mem_iff_getElem.1 e;have:=h i hi;unfold sj at this;rw[List.getElem?_eq_getElem hi]at this;simp only[Bool.and_eq_true]at this;exact this.2
  ·exact Tr (fun a f=>h a (by omega)) (List.getElem?_eq_getElem c) i _ b (List.getElem?_eq_getElem hi)
theorem JP{i:Nat}(hi:i<l.length)(h:sj ag aj l i=false):mI ag aj l=false:=by
 cases he:mI ag aj l
 ·rfl
 ·have:=Fs.1 he i hi;rw[h]at this;cases this
theorem zC(l:List Jr)(id:Int):runs (l.map Jr.j) id=(l.find? (fun r=>r.j.id==id&&r.j.st==2)).map Jr.j:=by
 unfold runs;rw[List.find?_map];rfl
theorem RC{l:List Jr}{id:Int}{s:Jr}(h:l.find? (fun r=>r.j.id==id&&r.j.st==2)=some s):ks l id=some (.agg (bk s))/\runs (l.map Jr.j) id=some s.j/\s∈l:=⟨by unfold ks;rw[h];rfl,by rw[zC,h];rfl,List.mem_of_find?_eq_some h⟩
theorem K7{l:List Jr}{id:Int}(h:l.find? (fun r=>r.j.id==id&&r.j.st==2)=none):ks l id=none/\runs (l.map Jr.j) id=none:=⟨by unfold ks;rw[h];rfl,by rw[zC,h];rfl⟩
theorem TB(w:World):(zeroValue 51).run prog w=.ok (.agg cP) w:=by kernel_rfl
def tp(x:Sr)(w:World)(e:Ending)(w':World):Prop:=(mI x.s.ag x.s.aj x.s.bx=false/\e=.returned (.tuple #[.map none,.bool false])/\Below w.heap.size w w')\/(mI x.s.ag x.s.aj x.s.bx=true/\∃b,e=.returned (.tuple #[.map (some b),.bool true])/\w.heap.size<=b/\eX prog 3 w' b 1000 (Ib x.s.bx)/\Below w.heap.size w w')
variable{g:Nat}
theorem UN{w:World}{t:TypeId}{s:Rz}(h:ai w g t (om s)):w.rangeAt g 0 (om s).toList:=fun j v a=>by
 rw[Nat.zero_add,h.cell j];simpa using a
theorem Im{w:World}{t:TypeId}{s:Sr}(h:ai w g t (aY s)):w.rangeAt g 0 (aY s).toList:=fun j v a=>by
 rw[Nat.zero_add,h.cell j];simpa using a
theorem sY:(prog.info? 37).map (·.size)=some 5:=by kernel_rfl
abbrev t37:=pk underlying37 rfl sY
theorem Sp{r:Rz}(a:l[k]?=some r):sj ag aj l k=((k==0||((l[k-1]?.map fun p=>decide (p.jb<r.jb)).getD true))&&(match runs aj r.jb with|none=>false|some j=>vk ag r j)):=by
 unfold sj;rw[a]
set_option maxRecDepth 100000 in
theorem Fp(x:Sr)(bj:Nat)(w:World)(h:db w x)(h64:x.s.ag.length<=64)(hm:eX prog 3 w bj 40 (ks x.jr))(u:∀r∈x.s.bx,-9223372036854775808<=r.jb/\r.jb<=9223372036854775807):
 Calls prog 16 #[.agg (aY x),.map (some bj)] w (tp x w):=by
 rcases x with⟨st,jr,N,J,⟨RA,Rn,Rc⟩,B,L⟩;have hN:st.bx.length=Rn:=h.bx.cb;subst hN;have hfew:st.bx.length<=1000:=h.Mr.cf;have hjr:jr.map Jr.j=st.aj:=h.jr;simp only at h64 u hm;obtain⟨x,hx⟩:∃x,x=(⟨st,jr,N,J,⟨RA,st.bx.length,Rc⟩,B,L⟩:Sr):=⟨_,rfl⟩;have A:x.s=st:=by rw[hx]
 rw[<-hx]at h⊢;have hmm:= @run_makeMap prog;have HIn:=ah h;have HRz:Hid (MT w RA st.bx.length st.bx):=by have:=h.bx;rw[hx]at this;exact this
 have HJn:Hid (∀s∈jr,eF w s):=by have:=h.aj.eZ;rw[hx]at this;exact this
 have HRn:Hid (∀r∈st.bx,r.nd<2^64/\r.sd<2^64):=by have:=h.kk;rw[hx]at this;exact this
 have HMj:=ah hm;have HJb:=ah u;obtain⟨V,hV,bV,kV⟩:=az w (aY x) 28;obtain⟨V1,G⟩:∃V1,V1=V.alloc (.map #[] 0):=⟨_,rfl⟩;have X:Below V.heap.size V V1:=G▸aA;have kV1:=kV.ae X kV.lt;have u3:V1.cell? ⟨w.heap.size,3,none⟩=some (.slice RA st.bx.length Rc):=by have:=kV1.cell 3;rw[this,hx];rfl
 have HK1:=ah kV1;have HB1:=ah (aa bV X);have HM1:Hid (eX prog 3 V1 V.heap.size 0 (Ib (st.bx.take 0))):=by show eX _ _ _ _ _ _;rw[G];exact eX.made _ _ _
 have hVs:w.heap.size<V.heap.size:=kV.lt;have HVs:=ah bV.size;have HP1:Hid (∀(e:Ending) (w':World),mI st.ag st.aj st.bx=false->e=.returned (.tuple #[.map none,.bool false])->Below w.heap.size w w'->tp x w e w'):=fun e w' h1 h2 h3=> .inl ⟨by rw[A];exact h1,h2,h3⟩;have HP2:Hid (∀(e:Ending) (w':World) (b:Nat),mI st.ag st.aj st.bx=true->e=.returned (.tuple #[.map (some b),.bool true])->w.heap.size<=b->eX prog 3 w' b 1000 (Ib st.bx)->Below w.heap.size w w'->tp x w e w'):=fun e w' b h1 h2 h3 h4 h5=> .inr ⟨by rw[A];exact h1,b,h2,h3,by rw[A];exact h4,h5⟩
 have HRez:Hid (∀(r:Rz) (s:Jr) (W:World),r∈st.bx->s∈jr->Below w.heap.size w W->Calls prog 28 #[.agg (aY x),.agg (om r),.agg (bk s)] W (an (.bool (vk st.ag r s.j)) W)):=fun r s W hr hs l=>by
  have:=Du x r s W (h.ae l) (by rw[A];exact h64) (HJn.out s hs).nd (HRn.out r hr);rw[A]at this;exact this
 have HJr:=ah hjr;have HX3:Hid ((aY x)[3]?=some (.slice RA st.bx.length Rc)):=by show _=_;rw[hx];rfl
 clear h hm u bV kV X kV1 hjr hx;go_enter func16,ntmps16;go_wp2_with(first|(rw[<-G];clear G;go_step)|(rw[<-hV];clear hV;go_step))
 go_loopw [15] (fun i wr=>∃k:Nat,k<=st.bx.length/\i=.int .i64 k/\eX prog 3 wr V.heap.size k (Ib (st.bx.take k))/\(∀i,i<k->sj st.ag st.aj st.bx i=true)/\ai wr w.heap.size 28 (aY x)/\Below w.heap.size w wr) (fun i _=>st.bx.length-(intOf i).toNat)
 case atStart=>exact⟨0,by omega,rfl,HM1.out,fun i hi=>absurd hi (Nat.not_lt_zero i),HK1.out,HB1.out⟩
 case round=>
  obtain⟨k,hk,rfl,hmr,m,hkb,O⟩:=hrel;have HMr:=ah hmr;have I:=ah m;have E:=ah hkb;have Q:=ah O;clear hmr m hkb O u3;by_cases hlt:k<st.bx.length
  ·obtain⟨b,off,r,rfl,hb,hr,d0,d1,d2,d3,d4⟩:=BZ (HRz.out.ae Q.out) hlt;have HR:=ah hr;have y:=List.mem_of_getElem? hr;have HMem:=ah y;have u:=HJb.out r y;obtain⟨U,hU,bU,kU⟩:=az wr (om r) 37;have P:=ah (aa Q.out bU);have r0:=kU.cell 0;simp at r0;have d:=(HMj.out.ae P.out).look_ok (t:=59) (e:=51) underlying3 underlying59 (TB U) (i:=r.jb) u;have HN:Hid (ai (U.alloc (.cells cP 51)) U.heap.size 51 cP):=ai.new _ _ _;have n:=ah (Sp (ag:=st.ag) (aj:=st.aj) hr);have z:∀W,Below U.heap.size U W->eX prog 3 W V.heap.size k (Ib (st.bx.take k))/\ai W w.heap.size 28 (aY x)/\ai W wr.heap.size 37 (om r)/\Below w.heap.size w W:=fun W l=>⟨(HMr.out.ae bU).ae l,(E.out.ae bU E.out.lt).ae l (E.out.ae bU E.out.lt).lt,kU.ae l kU.lt,aa P.out l⟩;have o:=ah z;have HKU:=ah kU;clear hr y bU kU z;cases hf:jr.find? (fun s=>s.j.id==r.jb&&s.j.st==2)with
   |none=>
    obtain⟨j1,j2⟩:=K7 hf;rw[j1]at d;rw[HJr.out]at j2;have hno:sj st.ag st.aj st.bx k=false:=by rw[n.out,j2];simp
    have S:=ah (JP hlt hno);simp only[Option.getD_none,Option.isSome_none]at d;obtain⟨c,f⟩:∃c,c=(U.alloc (.cells cP 51)).setRow U.heap.size cP:=⟨_,rfl⟩;have b2:Below U.heap.size U c:=f▸aD;have D:=ah (aa P.out b2);have b0:Below c.heap.size c c:=Below.refl _ _;clear hf j1 j2 hno b2;go_wp2_with(first|(rw[<-hU];clear hU;go_step)|(rw[<-f];clear f;go_step)|refine dp rfl _ _ _ rfl HN.out rfl rfl aK rfl rfl rfl ?_);rw[<-f];clear f;refine aw (fun w'=>Below c.heap.size c w') (by kernel_rfl) (by kernel_rfl) b0.drew ?_
    repeat(first
     |(refine bF ?_ ?_
       ·rfl
       simp only[Act.put,aE,aF,aG])
     |(refine cw ?_ ?_
       ·rfl
       apply Exists.intro;refine⟨fun w' g=> ?_,?_⟩
       ·simp[go_sem]
        try rfl
       simp only[Act.put,aE,aF,aG]))
    refine bM ?_;intro w5 b5;go_wp2_with fail;go_ret2;exact HP1.out _ _ S.out rfl (aa D.out b5)
   |some s=>
    obtain⟨j1,j2,hsm⟩:=RC hf;rw[j1]at d;rw[HJr.out]at j2;simp only[Option.getD_some,Option.isSome_some]at d;obtain⟨c,f⟩:∃c,c=(U.alloc (.cells cP 51)).setRow U.heap.size (bk s):=⟨_,rfl⟩;have b2:Below U.heap.size U c:=f▸aD;have kJ:ai c U.heap.size 51 (bk s):=f▸ai.row HN.out _;have HKJ:=ah kJ;have K:=ah b2;obtain⟨m2,BB,H,Y⟩:=o.out c b2;have D:=ah Y;have u3:c.cell? ⟨w.heap.size,3,none⟩=some (.slice (some ⟨b,off,none⟩) st.bx.length Rc):=by have:=BB.cell 3;rw[this];exact HX3.out
    have b0:Below c.heap.size c c:=Below.refl _ _;have v:=ah fun(W:World) (l:Below c.heap.size c W)=>HRez.out r s W HMem.out hsm (aa Y l);have T:Hid (∀W,Below c.heap.size c W->W.rangeAt w.heap.size 0 (aY x).toList/\W.rangeAt wr.heap.size 0 (om r).toList/\W.rangeAt U.heap.size 0 (bk s).toList):=fun W l=>⟨Im (BB.ae l BB.lt),UN (H.ae l H.lt),G6 (kJ.ae l kJ.lt)⟩;have HJ2:=ah j2
    have R:Hid (∀W,Below c.heap.size c W->sj st.ag st.aj st.bx k=true->∃C,(Instr.mapUpdate 61 (.map (some V.heap.size)) (.int .i64 r.jb) (.agg (om r))).run prog W=.ok () C/\eX prog 3 C V.heap.size (k+1) (Ib (st.bx.take (k+1)))/\(∀i,i<k+1->sj st.ag st.aj st.bx i=true)/\ai C w.heap.size 28 (aY x)/\Below w.heap.size w C):=fun W l hok=>by
     obtain⟨q1,q2,q3,q4⟩:=o.out W (aa K.out l);obtain⟨C,e1,e2,e3,e4⟩:=q1.update (t:=61) (e:=37) underlying3 underlying61 (by unfold maxLen;omega) (i:=r.jb) u (.agg (om r))
     have m:∀i,i<k+1->sj st.ag st.aj st.bx i=true:=fun i hi=>by
      by_cases e:i=k
      ·subst e;exact hok
      ·exact I.out i (by omega)
     refine⟨C,e1,?_,m,?_,q4.trans (e4.mono HVs.out)⟩
     ·rw[PK HR.out (Tr (fun i hi=>m i (by omega)) HR.out)];exact e2
     ·exact(e3.same w.heap.size q2.lt (by omega)).trans q2
    have M:=ah H;clear hf j1 j2 b2 kJ m2 BB H Y;go_wp2_with(first|(rw[<-hU];clear hU;go_step)|(rw[<-f];clear f;go_step)|refine dp rfl _ _ _ rfl HN.out rfl rfl aK rfl rfl rfl ?_);rw[<-f];clear f;by_cases Z:k=0
    all_goals
     first
      |(have F:Hid (sj st.ag st.aj st.bx k=vk st.ag r s.j):=by show _=_;rw[n.out,HJ2.out,Z];simp
        have hk1:decide ((0:Int)<(k:Int))=false:=by simp;omega
        have hk2:¬0<k:=by omega
        clear Z d d0 d1 d2 d3 d4)
      |(obtain⟨b',off',p,e,hbp,hp,g0,-⟩:=BZ (HRz.out.ae D.out) (show k-1<st.bx.length by omega)
        injection e with e;injection e with e1 e2;subst e1 e2;obtain⟨p6,q6⟩:∃q,decide (r.jb<=p.jb)=q:=⟨_,rfl⟩
        have F:Hid (sj st.ag st.aj st.bx k=(!p6&&vk st.ag r s.j)):=by
         show _=_;rw[n.out,HJ2.out,hp,<-q6,<-decide_not];have:(k==0)=false:=by simpa using Z
         rw[this];simp only[Option.map_some,Option.getD_some,Bool.false_or]
         congr 1
         exact decide_eq_decide.2 (by omega)
        have hk1:decide ((0:Int)<(k:Int))=true:=by simp;omega
        have hk2:0<k:=by omega
        have hw1:IntKind.i64.wrap ((k:Int)-1)=(k:Int)-1:=IntWalk.i64_in _ (by omega);have hw2:(0:Int)<=(k:Int)-1:=by omega
        have hw3:(1:Int)<=(k:Int):=by omega
        have hw4:((k:Int)-1).toNat=k-1:=by omega
        have hw5:(k:Int)-1<(st.bx.length:Int):=by omega
        have HS3:Hid (∀W,Below c.heap.size c W->W.cell? ⟨w.heap.size,3,none⟩=some (.slice (some ⟨b,off,none⟩) st.bx.length Rc)/\W.cell? ⟨b,off+(k-1)*5,none⟩=some (.int .i64 p.jb)/\W.cell? ⟨wr.heap.size,0,none⟩=some (.int .i64 r.jb)):=fun W l=>by
         obtain⟨-,kS,kR,-⟩:=o.out W (aa K.out l);exact⟨by have:=kS.cell 3;rw[this];exact HX3.out,(World.cell?_of_block (a:=⟨b,off+(k-1)*5,none⟩) (l.block b hbp)).trans g0,kR.cell 0⟩
        clear d d0 d1 d2 d3 d4 g0;cases p6)
     all_goals
      cases hz:vk st.ag r s.j
      all_goals
       rw[hz]at v F;refine aw (fun w'=>Below c.heap.size c w') (by kernel_rfl) (by kernel_rfl) b0.drew ?_
       repeat(first
        |(refine bF ?_ ?_
          ·rfl
          simp only[Act.put,aE,aF,aG])
        |(refine mN ?_ _ _ rfl rfl (fun w' g=>(T.out w' g).1) underlying28 rfl aT rfl ?_
          ·rfl
          simp only[Act.put,aE,aF,aG])
        |(refine mN ?_ _ _ rfl rfl (fun w' g=>(T.out w' g).2.1) underlying37 rfl sY rfl ?_
          ·rfl
          simp only[Act.put,aE,aF,aG])
        |(refine mN ?_ _ _ rfl rfl (fun w' g=>(T.out w' g).2.2) underlying51 rfl aK rfl ?_
          ·rfl
          simp only[Act.put,aE,aF,aG])
        |(refine il 28 #[.agg (aY x),.agg (om r),.agg (bk s)] (.bool _) ?_ ?_ (fun w'=> ?_) (fun w' g=>(v.out w' g).mono fun e w'' ⟨he,hb⟩=>⟨he,aa g hb⟩) ?_
          ·rfl
          ·rfl
          ·simp[go_sem]
          simp only[Act.put,aE,aF,aG])
        |(refine cw ?_ ?_
          ·rfl
          apply Exists.intro;refine⟨fun w' g=> ?_,?_⟩
          ·first
            |(obtain⟨g1,g2,g3⟩:=HS3.out w' g;simp[go_sem,g1,g2,g3,hk1,hk2,hw1,hw2,hw3,hw4,hw5,q6])
            |simp[go_sem,hk1,hk2]
           try rfl
          simp only[Act.put,aE,aF,aG]))
       refine bM ?_;intro w5 b5
       first
        |(have S:=ah (JP hlt (F.out.trans rfl))
          go_wp2_with fail;go_ret2;exact HP1.out _ _ S.out rfl (aa D.out b5))
        |(obtain⟨C,e1,e2,e3,e4,e5⟩:=R.out w5 b5 (F.out.trans rfl)
          have HK5:=ah (M.out.ae b5 M.out.lt);have r5:=HK5.out.cell 0;simp at r5;have HRun:=ah e1;have HFin:Hid (∃q:Nat,q<=st.bx.length/\Value.int .i64 ((k:Int)+1)=.int .i64 q/\eX prog 3 C V.heap.size q (Ib (st.bx.take q))/\(∀i,i<q->sj st.ag st.aj st.bx i=true)/\ai C w.heap.size 28 (aY x)/\Below w.heap.size w C):=⟨k+1,by omega,by rw[Int.natCast_succ],e2,e3,e4,e5⟩;clear e1 e2 e3 e4 e5;go_wp2_with(first|(refine cr rfl _ _ rfl HK5.out rfl underlying37 rfl sY rfl ?_)|(at_mapUpdate;refine kj rfl _ _ _ _ rfl rfl rfl rfl HRun.out ?_));exact⟨HFin.out,by simp[intOf];omega⟩)
  ·obtain rfl:k=st.bx.length:=by omega
   have hm2:=HMr.out;rw[List.take_length]at hm2;have HM2:=ah (hm2.mono hfew);have HYes:=ah (Fs.2 I.out);have hw:=HVs.out;clear hm2;go_wp2_with fail;go_ret2;exact HP2.out _ _ _ HYes.out rfl hw HM2.out Q.out
theorem OF(l:List Jr)(id:Int)(hw:∀r∈l,r.j.nd<2^64):∃(s:Jr) (f:Bool),(ks l id).getD (.agg cP)=.agg (bk s)/\(ks l id).isSome=f/\(runs (l.map Jr.j) id).isSome=f/\s.j.nd<2^64/\∀n:Int,(((runs (l.map Jr.j) id).map fun j=>hasB j.nd n).getD false)=(f&&hasB s.j.nd n):=by
 rw[zC];unfold ks;cases hf:l.find? (fun r=>r.j.id==id&&r.j.st==2)with
 |none=>
  refine⟨⟨⟨0,⟨#[]⟩,⟨#[]⟩,⟨#[]⟩,⟨0,[],0,0,0⟩,0,[],0,false,0,0,0,0,0,0,0⟩,none,0,0,none,0,0⟩,false,rfl,rfl,rfl,by decide,fun n=>rfl⟩
 |some s=>exact⟨s,true,rfl,rfl,rfl,hw s (List.mem_of_find?_eq_some hf),fun n=>by simp⟩
theorem SM(l:List Rz)(id:Int)(hw:∀r∈l,r.nd<2^64):∃s:Rz,(Ib l id).getD (.agg (om ⟨0,false,0,0,0⟩))=.agg (om s)/\s.nd<2^64/\s.nd=((qw l id).map Rz.nd).getD 0:=by
 unfold Ib qw;cases hf:l.find? (fun r=>r.jb==id)with
 |none=>exact⟨⟨0,false,0,0,0⟩,rfl,by decide,rfl⟩
 |some s=>exact⟨s,rfl,hw s (List.mem_of_find?_eq_some hf),rfl⟩
theorem UV(w:World):(zeroValue 37).run prog w=.ok (.agg (om ⟨0,false,0,0,0⟩)) w:=by kernel_rfl
theorem Sj{x:Nd}(h:fb x=true):0<=x.jb/\x.jb<=99999:=by
 rcases eb.1 (gY.1 h).2.2.2.2 with h|h|h|h|h<;>omega
theorem PL(z:Rz)(W:World):(Instr.field 37 (.agg (om z)) 2).run prog W=.ok (.int .u64 (z.nd:Int)) W:=by kernel_rfl
def Da(ag:List Nd)(aj:List Jb)(bx:List Rz)(nj:Int)(k:Nat):Bool:=(ag[k]?.map (BL aj bx nj k)).getD true
theorem O5{bx:List Rz}{nj:Int}(a:k<ag.length)(h:Da ag aj bx nj k=false):kv ag aj bx nj=false:=by
 cases he:kv ag aj bx nj
 ·rfl
 ·unfold kv at he;rw[List.all_eq_true]at he;have:=he k (List.mem_range.2 a);unfold Da at h;rw[h]at this;cases this
theorem Lt{bx:List Rz}{nj:Int}(h:∀k,k<ag.length->Da ag aj bx nj k=true):kv ag aj bx nj=true:=by
 unfold kv;rw[List.all_eq_true];intro k a;exact h k (List.mem_range.1 a)
theorem So{bx:List Rz}{nj:Int}{k:Nat}{x:Nd}(hx:ag[k]?=some x){f h1 h2:Bool}(a:(((runs aj x.jb).map fun j=>hasB j.nd (k:Int)).getD false)=(f&&h1))(b:(runs aj x.jb).isSome=f)(c:hasB (((qw bx x.jb).map Rz.nd).getD 0) (k:Int)=h2):
 Da ag aj bx nj k=(!(x.st==1&& !(f&&h1))&& !(x.st==2&& !f)&& !((x.st==2||x.wt==4)&& !h2)&& !(x.st==3&&decide (nj<=x.jb))):=by
 unfold Da;rw[hx];simp only[Option.map_some,Option.getD_some];unfold BL;rw[a,c];have:(runs aj x.jb).isNone= !f:=by rw[<-b];cases runs aj x.jb<;>rfl
 rw[this]
set_option maxRecDepth 100000 in
theorem FJ(x:Sr)(bj br:Nat)(w:Wd)(h:db w x)(hc:aO x.s.ag=true)(hm:eX prog 3 w bj 40 (ks x.jr))(hz:eX prog 3 w br 1000 (Ib x.s.bx)):
 Cs prog 18 #[.agg (aY x),.map (some bj),.map (some br)] w (an (.bool (kv x.s.ag x.s.aj x.s.bx x.s.nj)) w):=by
 rcases x with⟨st,jr,⟨NA,Nn,Nc⟩,J,R,B,L⟩;have hN:st.ag.length=Nn:=h.ag.cb;subst hN;have hfew:st.ag.length<=1000:=h.BP.cf;have P:jr.map Jr.j=st.aj:=h.jr;simp only at hc hm hz⊢;have HNd:Hid (tm w NA st.ag.length st.ag):=h.ag;have Z:Hid (∀r∈jr,r.j.nd<2^64):=fun r hr=>(h.aj.eZ r hr).nd;have HRw:Hid (∀r∈st.bx,r.nd<2^64):=fun r hr=>(h.kk r hr).1;have v:Hid (∀s∈st.ag,fb s=true):=(cQ.1 hc).m6;have HMj:=ah hm;have HMr:=ah hz;rw[<-P];obtain⟨V,hV,bV,X⟩:=az w (aY ⟨st,jr,⟨NA,st.ag.length,Nc⟩,J,R,B,L⟩) 28;have u1:V.cell? ⟨w.heap.size,1,none⟩=some (.slice NA st.ag.length Nc):=X.cell 1;have HU6:Hid (∀W,Bl V.heap.size V W->W.cell? ⟨w.heap.size,6,none⟩=some (st.nj:Vl)):=fun W hW=>(X.ae hW X.lt).cell 6;have HB:=ah bV;clear h hm hz P bV X hc;go_enter func18,ntmps18;go_wp2_with(rw[<-hV];clear hV;go_step)
 go_loopw [15] (fun i wr=>∃k:Nat,k<=st.ag.length/\i=.int .i64 k/\(∀i,i<k->Da st.ag (jr.map Jr.j) st.bx st.nj i=true)/\Bl V.heap.size V wr) (fun i _=>st.ag.length-(intOf i).toNat)
 case atStart=>exact⟨0,by omega,rfl,fun i hi=>absurd hi (n8 i),cC _ _⟩
 case round=>
  obtain⟨k,hk,rfl,u,g⟩:=hrel;have o:=ah u;have I:=ah g;have m:=aa HB.out g;have Y:=ah m;clear u g u1;by_cases G:k<st.ag.length
  ·obtain⟨b,off,s,rfl,hb,hs,d0,d1,d2,d3,d4,d5,d6⟩:=cp.seven (HNd.out.ae m) G;have a:=v.out s (cG hs);have hjb:=Sj a;have l:=eb.1 (gY.1 a).2.2.2.2;obtain⟨U,hU,O,T⟩:=az wr (F3 s) 34;obtain⟨t,f,j1,j2,j3,j4,j5⟩:=OF jr s.jb Z.out;obtain⟨z,z1,z2,z3⟩:=SM st.bx s.jb HRw.out;have F:=(HMj.out.ae (aa m O)).look_ok (t:=59) (e:=51) underlying3 underlying59 (TB U) (i:=s.jb) (by omega);rw[j1,j2]at F;have HN:Hid (ai (U.alloc (.cells cP 51)) U.heap.size 51 cP):=ai.new _ _ _;obtain⟨A,d⟩:∃A,A=(U.alloc (.cells cP 51)).setRow U.heap.size (bk t):=⟨_,rfl⟩;have b2:Bl U.heap.size U A:=d▸aD;have kJ:ai A U.heap.size 51 (bk t):=d▸ai.row HN.out _;have n:=(HMr.out.ae (aa (aa m O) b2)).look (t:=61) (e:=37) underlying3 underlying61 (UV A) (i:=s.jb) (by omega);rw[z1]at n;have S:=PL z;have kN:=T.ae b2 T.lt;have n0:=kN.cell 0;have n1:=kN.cell 1;have n4:=kN.cell 4;have m1:=T.cell 1;have v18:=kJ.cell 18;simp at n0 n1 n4 m1 v18;have v6:=HU6.out A (aa (aa I.out O) b2);obtain⟨h1,D⟩:∃h1,hasB t.j.nd (k:Int)=h1:=⟨_,rfl⟩;obtain⟨h2,E⟩:∃h2,hasB z.nd (k:Int)=h2:=⟨_,rfl⟩;have K:=ah fun(W:Wd)=>Jq t.j.nd (k:Int) W j4;have M:=ah fun(W:Wd)=>Jq z.nd (k:Int) W z2;rw[D]at K;rw[E]at M;have c:=ah (So (nj:=st.nj) (aj:=jr.map Jr.j) (bx:=st.bx) hs (f:=f) (h1:=h1) (h2:=h2) (by rw[j5,D]) j3 (by rw[<-z3,E]));have H:=ah (aa (aa I.out O) b2)
   obtain⟨p,hp⟩:∃p,decide (st.nj<=s.jb)=p:=⟨_,rfl⟩;rw[hp]at c;have HNo:Hid (Da st.ag (jr.map Jr.j) st.bx st.nj k=false->kv st.ag (jr.map Jr.j) st.bx st.nj=false):=O5 G
   have y:Hid (Da st.ag (jr.map Jr.j) st.bx st.nj k=true->∃q:Nat,q<=st.ag.length/\Value.int .i64 ((k:Int)+1)=.int .i64 q/\(∀i,i<q->Da st.ag (jr.map Jr.j) st.bx st.nj i=true)/\Bl V.heap.size V A):=fun hok=>⟨k+1,G,by rw[lI],fun i hi=>by
    by_cases e:i=k
    ·subst e;exact hok
    ·exact o.out i (by omega),H.out⟩
   have HWs:=ah d
   have C:((s.st==1)=false/\(s.st==2)=false/\(s.st==3)=false/\(s.wt==4)=false)\/((s.st==1)=true/\(s.st==2)=false/\(s.st==3)=false/\(s.wt==4)=true)\/((s.st==1)=true/\(s.st==2)=false/\(s.st==3)=false/\(s.wt==4)=false)\/((s.st==1)=false/\(s.st==2)=true/\(s.st==3)=false)\/((s.st==1)=false/\(s.st==2)=false/\(s.st==3)=true/\(s.wt==4)=false):=by
    simp only[iC,dQ,ne_eq];rcases l with h|h|h|h|h
    ·exact .inl ⟨by omega,by omega,by omega,by omega⟩
    ·by_cases e:s.wt=4
     ·exact .inr (.inl ⟨by omega,by omega,by omega,e⟩)
     ·exact .inr (.inr (.inl ⟨by omega,by omega,by omega,e⟩))
    ·exact .inr (.inr (.inr (.inl ⟨by omega,by omega,by omega⟩)))
    ·exact .inr (.inr (.inr (.inr ⟨by omega,by omega,by omega,by omega⟩)))
    ·exact .inl ⟨by omega,by omega,by omega,by omega⟩
   clear hs a hjb l O T j1 j2 j3 j4 j5 z1 z2 z3 b2 kJ kN D E;rcases C with⟨g1,g2,g3,Q⟩|⟨g1,g2,g3,Q⟩|⟨g1,g2,g3,Q⟩|⟨g1,g2,g3⟩|⟨g1,g2,g3,Q⟩
   case' inr.inl=>cases f
   case' inr.inl.true=>cases h1
   case' inr.inl.true.true=>cases h2
   case' inr.inr.inl=>cases f
   case' inr.inr.inl.true=>cases h1
   case' inr.inr.inr.inl=>cases f
   case' inr.inr.inr.inl.true=>cases h2
   case' inr.inr.inr.inr=>cases p
   all_goals
    rw[g1,g2,g3]at c
    try rw[Q]at c
    go_wp2_with(first|(rw[<-hU];clear hU;go_step)|(rw[<-d];clear d;go_step)|refine dp rfl _ _ _ rfl HN.out rfl rfl aK rfl rfl rfl ?_|(go_at_call 29;with_reducible refine(K.out _).mono ?_;rintro e w9 ⟨rfl,rfl⟩)|(go_at_call 29;with_reducible refine(M.out _).mono ?_;rintro e w9 ⟨rfl,rfl⟩))
    first
     |(refine⟨y.out (by rw[c.out];simp),by simp[intOf];omega⟩)
     |(go_ret;exact⟨by rw[HNo.out (by rw[c.out];simp)];rfl,aa HB.out H.out⟩)
  ·obtain rfl:k=st.ag.length:=by omega
   have N:=ah (Lt o.out);go_wp2_with fail;go_ret;exact⟨by rw[N.out];rfl,Y.out⟩
def yp(l:List Jr):Int:=mF (l.map Jr.j)
theorem Hc{l:List Jr}{s:Jr}(h:l[k]?=some s):yp (l.take (k+1))=s.j.id:=by
 unfold yp;rw[aM h];simp[mF]
theorem Hb{l:List Bk}{s:Bk}(h:l[k]?=some s):ma (l.take (k+1))=s.id:=by
 rw[aM h];simp[ma]
theorem K8{l:List Jr}{id:Int}{v:Value}(h:ks l id=some v):∃r∈l,v=.agg (bk r)/\r.j.id=id/\r.j.st=2:=by
 unfold ks at h;obtain⟨r,a,rfl⟩:=Option.map_eq_some_iff.1 h;have h1:=List.find?_some a;simp at h1;exact⟨r,List.mem_of_find?_eq_some a,rfl,h1.1,h1.2⟩
theorem yk{l:List Jr}(c:l.Pairwise (fun a b=>a.j.id<b.j.id)){r:Jr}(e:r∈l)(h2:r.j.st=2):ks l r.j.id=some (.agg (bk r)):=by
 unfold ks;cases hf:l.find? (fun x=>x.j.id==r.j.id&&x.j.st==2)with
 |none=>exact absurd (List.find?_eq_none.1 hf r e) (by simp[h2])
 |some k=>
  have f:=List.mem_of_find?_eq_some hf;have g:=List.find?_some hf;simp at g;obtain⟨i,hi,rfl⟩:=List.mem_iff_getElem.1 e;obtain⟨j,d,rfl⟩:=List.mem_iff_getElem.1 f;rcases Nat.lt_trichotomy i j with h|h|h
  ·have:=List.pairwise_iff_getElem.1 c i j hi d h;omega
  ·subst h;rfl
  ·have:=List.pairwise_iff_getElem.1 c j i d hi h;omega
def Ub(ag:List Nd)(l:List Jr)(id:Int):Prop:=∀r∈l,r.j.id=id->r.j.st=2->jq ag id=r.j.nd
theorem Oz{l:List Jr}(h:∀r∈l,r.j.st=2->Ub ag l r.j.id):ly ag (l.map Jr.j)=true:=by
 unfold ly;rw[List.all_eq_true];intro j b;obtain⟨r,a,rfl⟩:=List.mem_map.1 b;by_cases h2:r.j.st=2
 ·simp[h r a h2 r a rfl h2]
 ·simp[h2]
theorem Ro{l:List Jr}{r:Jr}(b:r∈l)(h2:r.j.st=2)(a:jq ag r.j.id≠r.j.nd):ly ag (l.map Jr.j)=false:=by
 cases he:ly ag (l.map Jr.j)
 ·rfl
 ·unfold ly at he;rw[List.all_eq_true]at he;have:=he r.j (List.mem_map.2 ⟨r,b,rfl⟩);simp[h2]at this;exact absurd this a
theorem Ku(s:St):mA s=if fy s then(if mI s.ag s.aj s.bx then(if kg s.nj (mF s.aj)then(if kg s.nb (ma s.aZ)then(if kv s.ag s.aj s.bx s.nj then(if ly s.ag s.aj then 0 else 141)else 141)else 141)else 141)else 141)else 141:=by
 unfold mA Ks;cases fy s<;>cases mI s.ag s.aj s.bx<;>cases kg s.nj (mF s.aj)<;>cases kg s.nb (ma s.aZ)<;>cases kv s.ag s.aj s.bx s.nj<;>cases ly s.ag s.aj<;>rfl
theorem Py{s:St}(h:fy s=true):aO s.ag=true/\gC s.aj=true:=by
 unfold fy ie at h;simp only[Bool.and_eq_true]at h;exact⟨h.1.1.1.2,h.1.1.2⟩
abbrev ML{α:Type}(a:World)(l:List α)(f:List α->Int)(X Y:Value)(wr:World):Prop:=∃k:Nat,k<=l.length/\X=.int .i64 (f (l.take k))/\Y=.int .i64 k/\Below a.heap.size a wr
abbrev TL(a:World)(ag:List Nd)(l:List Jr)(b r:Nat)(wr:World):Prop:=∃(left:Int->Bool) (ms:Nat),uk prog 3 wr b r 40 (ks l) left ms/\(∀s∈l,s.j.st=2->left s.j.id=false->jq ag s.j.id=s.j.nd)/\Below a.heap.size a wr
set_option maxRecDepth 100000 in
theorem qP(x:Sr)(w:World)(h:db w x)(K:∀r∈x.s.bx,-9223372036854775808<=r.jb/\r.jb<=9223372036854775807):Calls prog 6 #[.agg (aY x)] w (an (.int .i64 (mA x.s)) w):=by
 rcases x with⟨st,jr,⟨NA,T,Nc⟩,⟨JA,Jn,Jc⟩,R,⟨BA,Bn,Bc⟩,L⟩;obtain⟨x,hx⟩:∃x,x=(⟨st,jr,⟨NA,T,Nc⟩,⟨JA,Jn,Jc⟩,R,⟨BA,Bn,Bc⟩,L⟩:Sr):=⟨_,rfl⟩;have z:x.s=st:=by rw[hx]
 have hxj:x.jr=jr:=by rw[hx]
 rw[<-hx]at h K⊢;have HN:Hid (ai (w.alloc (.cells (aY x) 28)) w.heap.size 28 (aY x)):=ai.new _ _ _;have bV:Below w.heap.size w (w.alloc (.cells (aY x) 28)):=aA;have HPc:=ah (jT x _ (h.ae bV));have q:Hid (mA x.s=_):=Ku x.s;have HB:=ah bV;obtain⟨p1,N⟩:∃p,fy x.s=p:=⟨_,rfl⟩;rw[N]at q;rw[tY,N]at HPc;cases p1
 ·clear h K bV N hx;go_enter func6,ntmps6;go_wp2_with(refine cr rfl _ _ rfl HN.out rfl underlying28 rfl aT rfl ?_);refine av HPc.out fun w2 b2=> ?_;go_wp2_with fail;go_ret;exact⟨ax (by rw[q.out];rfl),aa HB.out b2⟩
 ·have y:=Py N;rw[z]at y q⊢;have hJl:jr.length=Jn:=by have:=h.aj.rows.cb;rw[hx]at this;exact this
  have hBl:st.aZ.length=Bn:=by have:=h.aZ.cb;rw[hx]at this;exact this
  subst hJl hBl;have E:jr.map Jr.j=st.aj:=by have:=h.jr;rw[hx]at this;exact this
  have HJo:Hid (pO w JA jr.length jr):=by have:=h.aj;rw[hx]at this;exact this
  have HBo:Hid (Mo w BA st.aZ.length st.aZ):=by have:=h.aZ;rw[hx]at this;exact this
  have HNo:Hid (tm w NA T st.ag):=by have:=h.ag;rw[hx]at this;exact this
  have hnn:T<=maxLen:=by have:=h.BP.cf;rw[hx]at this;simp only at this;unfold maxLen;omega
  have hjf:jr.length<=1000:=by have:=h.fg.cf;rw[hx]at this;exact this
  have hbf:st.aZ.length<=1000:=by have:=h.okB.cf;rw[hx]at this;exact this
  have h64:st.ag.length<=64:=by have:=(cQ.1 y.1).cf;omega
  have HUp:Hid (jr.Pairwise (fun a b=>a.j.id<b.j.id)):=(pc (by rw[E];exact y.2)).2;have I:Hid (∀W,Below (w.alloc (.cells (aY x) 28)).heap.size (w.alloc (.cells (aY x) 28)) W->ai W w.heap.size 28 (aY x)):=fun W l=>HN.out.ae l HN.out.lt;have HX:Hid ((aY x)[1]?=some (.slice NA T Nc)/\(aY x)[2]?=some (.slice JA jr.length Jc)/\(aY x)[4]?=some (.slice BA st.aZ.length Bc)/\(aY x)[6]?=some (.int .i64 st.nj)/\(aY x)[7]?=some (.int .i64 st.nb)):=by show _/\_;rw[hx];exact⟨rfl,rfl,rfl,rfl,rfl⟩
  have HSr:=ah h;have HRun:=ah fun(W:World) (l:Below w.heap.size w W)=>Ma JA jr.length Jc jr W (HJo.out.ae l) (by rw[E];exact y.2);have HRez:=ah fun(b:Nat) (W:World) (l:Below w.heap.size w W) (hm:eX prog 3 W b 40 (ks jr))=>Fp x b W (h.ae l) (by rw[z];exact h64) (by rw[hxj];exact hm) K;have S:=ah fun(b r:Nat) (W:World) (l:Below w.heap.size w W) (hm:eX prog 3 W b 40 (ks jr)) (hz:eX prog 3 W r 1000 (Ib st.bx))=>FJ x b r W (h.ae l) (by rw[z];exact y.1) (by rw[hxj];exact hm) (by rw[z];exact hz);have HPost:Hid (∀W e W',tp x W e W'->(mI st.ag st.aj st.bx=false/\e=.returned (.tuple #[.map none,.bool false])/\Below W.heap.size W W')\/(mI st.ag st.aj st.bx=true/\∃b,e=.returned (.tuple #[.map (some b),.bool true])/\W.heap.size<=b/\eX prog 3 W' b 1000 (Ib st.bx)/\Below W.heap.size W W')):=fun W e W' hp=>by unfold tp at hp;rw[z]at hp;exact hp
  rw[z]at S;have HLj:Hid (mF (jr.map Jr.j)=mF st.aj):=by show _=_;rw[E]
  have HJr:=ah E;clear h K bV N hx hxj E y;go_enter func6,ntmps6;go_wp2_with(refine cr rfl _ _ rfl HN.out rfl underlying28 rfl aT rfl ?_);refine av HPc.out fun w2 b2=> ?_;have HV2:=ah b2;have HB2:=ah (aa HB.out b2);have u2:w2.cell? ⟨w.heap.size,2,none⟩=some (.slice JA jr.length Jc):=by rw[(I.out w2 b2).cell 2];exact HX.out.2.1
  have hsz2:w.heap.size<w2.heap.size:=(I.out w2 b2).lt;clear b2;go_wp2_with fail
  go_loopw [3,20] (fun X Y wr=>ML w2 jr yp X Y wr) (fun _ Y _=>jr.length-(intOf Y).toNat)
  case atStart=>exact⟨0,Nat.zero_le _,rfl,rfl,Below.refl _ _⟩
  case round=>
   obtain⟨k,hk,rfl,rfl,c⟩:=hrel;have d:=ah c;clear c;by_cases u:k<jr.length
   ·obtain⟨b,off,s,rfl,hb,hs,hin,hr⟩:=ir (HJo.out.ae (aa HB2.out d.out)) u;have HR:=ah hr;have f:Hid (ai (wr.alloc (.cells cP 51)) wr.heap.size 51 cP):=ai.new _ _ _;obtain⟨U,n⟩:∃U,U=(wr.alloc (.cells cP 51)).setRow wr.heap.size (bk s):=⟨_,rfl⟩;have D:Below wr.heap.size wr U:=n▸aD;have M:ai U wr.heap.size 51 (bk s):=n▸ai.row f.out _;have x0:=M.cell 0;simp at x0;have C:=ah (Hc hs);have o:=ah (aa d.out D);clear hr hs hin M D;go_wp2_with(first|(rw[<-n];clear n;go_step)|refine ld rfl _ _ rfl rfl HR.out underlying51 rfl aK rfl ?_|refine dp rfl _ _ _ rfl f.out rfl rfl aK rfl rfl rfl ?_);exact⟨⟨k+1,by omega,by rw[C.out],by go_num,o.out⟩,by simp[intOf];omega⟩
   ·obtain rfl:k=jr.length:=by omega
    obtain⟨w3,rfl⟩:∃w3,w3=wr:=⟨_,rfl⟩;have u4:w3.cell? ⟨w.heap.size,4,none⟩=some (.slice BA st.aZ.length Bc):=by rw[(I.out w3 (aa HV2.out d.out)).cell 4];exact HX.out.2.2.1
    have HLk:Hid (yp (jr.take jr.length)=mF st.aj):=by show _=_;rw[List.take_length];exact HLj.out
    obtain⟨lj,hlj⟩:∃lj,lj=mF st.aj:=⟨_,rfl⟩;have B:Hid (yp (jr.take jr.length)=lj):=by show _=_;rw[hlj];exact HLk.out
    rw[B.out];rw[<-hlj]at q;clear u2 hlj HLk B HLj;have HV3:=ah (aa HV2.out d.out);have HB3:=ah (aa HB2.out d.out);clear d;go_wp2_with fail
    go_loopw [4,30] (fun X Y wr=>ML w3 st.aZ ma X Y wr) (fun _ Y _=>st.aZ.length-(intOf Y).toNat)
    case atStart=>exact⟨0,Nat.zero_le _,rfl,rfl,Below.refl _ _⟩
    case round=>
     obtain⟨k,hk,rfl,rfl,c⟩:=hrel;have d:=ah c;clear c;by_cases u:k<st.aZ.length
     ·obtain⟨b,off,s,rfl,hb,hs,d0,d1,d2,d3⟩:=cp.four (HBo.out.ae (aa HB3.out d.out)) u;obtain⟨U,n,D,M⟩:=az wr #[.int .i64 s.id,.int .i64 s.fr,.int .i64 s.to,.int .i64 s.nd] 58;have x0:=M.cell 0;simp at x0;have C:=ah (Hb hs);have o:=ah (aa d.out D);clear hs M D;go_wp2_with(rw[<-n];clear n;go_step);exact⟨⟨k+1,by omega,by rw[C.out],by go_num,o.out⟩,by simp[intOf];omega⟩
     ·obtain rfl:k=st.aZ.length:=by omega
      obtain⟨w4,rfl⟩:∃w4,w4=wr:=⟨_,rfl⟩;have kS4:=I.out w4 (aa HV3.out d.out);have HKS:=ah kS4;have u2:w4.cell? ⟨w.heap.size,2,none⟩=some (.slice JA jr.length Jc):=by rw[kS4.cell 2];exact HX.out.2.1
      obtain⟨lb,hlb⟩:∃lb,lb=ma st.aZ:=⟨_,rfl⟩;have B:Hid (ma (st.aZ.take st.aZ.length)=lb):=by show _=_;rw[hlb,List.take_length]
      rw[B.out];rw[<-hlb]at q;have HB4:=ah (aa HB3.out d.out);clear hlb B d kS4 u4;go_wp2_with fail;refine(HRun.out w4 HB4.out).mono ?_;rintro e w5 ⟨bj,rfl,hbj,hmj,b5⟩;have HMj:=ah hmj;have HB5:=ah (aa HB4.out b5);have A:=ah (HKS.out.ae b5 HKS.out.lt);clear hbj hmj b5 u2;go_wp2_with(refine cr rfl _ _ rfl A.out rfl underlying28 rfl aT rfl ?_);refine(HRez.out bj w5 HB5.out HMj.out).mono ?_;intro e w6 hp;rcases HPost.out _ _ _ hp with⟨r0,rfl,b6⟩|⟨r0,br,rfl,hbr,hmr,b6⟩
      ·rw[r0]at q;clear hp;go_wp2_with fail;go_ret;exact⟨ax (by rw[q.out];rfl),aa HB5.out b6⟩
      ·rw[r0]at q;have HMr:=ah hmr;have G:=ah (aa HB5.out b6);have g:=ah (A.out.ae b6 A.out.lt);have Q:=ah (HMj.out.ae b6);have v6:w6.cell? ⟨w.heap.size,6,none⟩=some (.int .i64 st.nj):=by rw[g.out.cell 6];exact HX.out.2.2.2.1
       have v7:w6.cell? ⟨w.heap.size,7,none⟩=some (.int .i64 st.nb):=by rw[g.out.cell 7];exact HX.out.2.2.2.2
       have HN1:=ah (zT st.nj lj w6);have f:=ah (zT st.nb lb w6);have HNd:=ah (S.out bj br w6 G.out Q.out HMr.out);obtain⟨p1,N⟩:∃p,kg st.nj lj=p:=⟨_,rfl⟩;obtain⟨p2,q2⟩:∃p,kg st.nb lb=p:=⟨_,rfl⟩;obtain⟨p3,q3⟩:∃p,kv st.ag st.aj st.bx st.nj=p:=⟨_,rfl⟩;rw[N,q2,q3]at q;rw[N]at HN1;rw[q2]at f;rw[q3]at HNd;clear hp hmr hbr b6 r0 N q2 q3;cases p1
       case' true=>cases p2
       case' true.true=>cases p3
       case true.true.true=>
        obtain⟨w8,hw8⟩:∃w8,w8=w6:=⟨_,rfl⟩;go_wp2_with(first|(go_guarded;refine me _ _ rfl rfl (Im g.out) underlying28 rfl aT rfl ?_)|(go_at_call 17;with_reducible refine HN1.out.mono ?_;rintro e F ⟨rfl,rfl⟩)|(go_at_call 17;with_reducible refine f.out.mono ?_;rintro e F ⟨rfl,rfl⟩)|(go_at_call 18;refine HNd.out.mono ?_;rintro e F ⟨rfl,b9⟩)|(refine IJ rfl _ _ rfl underlying3 underlying59 rfl (Q.out.ae b9) ?_;intro wq ms hrng hbq));have HBq:=ah (aa G.out b9);have HBs:=ah hbq;have H:=ah (g.out.ae b9 g.out.lt);have HRq:=ah hrng;clear hrng hbq hw8;simp only[Act.put,aE,aF,aG]
        go_loopw [12] (fun _ wr=>TL F st.ag jr bj F.heap.size wr) (fun _ wr=>wr.rangeLeft bj F.heap.size)
        case atStart=>exact⟨_,ms,HRq.out,(fun s hs h2 hl=>by rw[yk HUp.out hs h2]at hl;simp at hl),HBs.out⟩
        case round=>
         obtain⟨left,cn,hr,V,c⟩:=hrel;have P:=ah V;have d:=ah (aa HBq.out c);have HQr:=ah c;have HCn:Hid (wr.rangeLeft bj F.heap.size=cn):=hr.left_eq;have HOkY:Hid ((∀i,left i=false)->ly st.ag st.aj=true):=fun Z=>by rw[<-HJr.out];exact Oz fun r hr h2 s hs he J=>by have:=P.out s hs J (Z _);rw[he]at this;exact this
         have HKr:=ah (H.out.ae c H.out.lt);have HRg:=ah hr;clear V c hr;go_wp2_with(at_next;refine Mm rfl _ rfl underlying3 rfl HRg.out ?_ ?_)
         ·intro Z;have HY:=ah (HOkY.out Z);clear Z;go_wp2_with fail;go_ret;exact⟨ax (by rw[q.out,HY.out];rfl),d.out⟩
         ·intro id v O cn' hl hm hr' u hon hbl hen;obtain⟨s,hs,rfl,rfl,h2⟩:=K8 hm;have hlt9:F.heap.size<=O.heap.size:=Nat.le_trans HQr.out.size hon.size;have HB7:=ah (HQr.out.trans hbl);have HBw:=ah (aa HBq.out HB7.out);have k7:=H.out.ae HB7.out H.out.lt;have f:Hid (ai (O.alloc (.cells cP 51)) O.heap.size 51 cP):=ai.new _ _ _;obtain⟨U,n⟩:∃U,U=(O.alloc (.cells cP 51)).setRow O.heap.size (bk s):=⟨_,rfl⟩;have D:Below O.heap.size O U:=n▸aD;have M:ai U O.heap.size 51 (bk s):=n▸ai.row f.out _;have kSU:=k7.ae D k7.lt;have HSu:Hid (∀W,Below U.heap.size U W->W.cell? ⟨w.heap.size,1,none⟩=some (.slice NA T Nc)/\W.cell? ⟨O.heap.size,18,none⟩=some (.int .u64 (s.j.nd:Int))):=fun W l=>⟨((kSU.ae l kSU.lt).cell 1).trans HX.out.1,(M.ae l M.lt).cell 18⟩;have HCh:=ah fun(W:World) (l:Below U.heap.size U W)=>Oy NA T Nc st.ag s.j.id W (HNo.out.ae (aa (aa HBw.out D) l)) hnn;have b0:Below U.heap.size U U:=Below.refl _ _;have HRU:=ah (hr'.ae D);have o:=ah D;have C:Hid (cn'<cn):=u;have HNoH:Hid (jq st.ag s.j.id≠s.j.nd->ly st.ag st.aj=false):=fun hne=>by rw[<-HJr.out];exact Ro hs h2 hne
          have HNx:Hid (jq st.ag s.j.id=s.j.nd->∀t∈jr,t.j.st=2->(left t.j.id&&t.j.id !=s.j.id)=false->jq st.ag t.j.id=t.j.nd):=fun he t ht J hf=>by
           by_cases e:t.j.id=s.j.id
           ·have:=yk HUp.out ht J;rw[e,yk HUp.out hs h2]at this;injection this with this
            injection this with this;have e18:(bk s)[18]?=(bk t)[18]?:=by rw[this]
            have m:some (Value.int .u64 (s.j.nd:Int))=some (Value.int .u64 (t.j.nd:Int)):=e18;injection m with m
            injection m with _ m;rw[e];omega
           ·refine P.out t ht J ?_;simpa [e]using hf
          clear hs h2 hm hl hr' u hon hbl k7 D M kSU;by_cases he:jq st.ag s.j.id=s.j.nd
          ·have Z:(((jq st.ag s.j.id:Nat):Int) !=(s.j.nd:Int))=false:=by simp[he]
           have HN8:=ah (HNx.out he);clear he;go_wp2_with(refine dp rfl _ _ _ rfl f.out rfl rfl aK rfl rfl rfl ?_);rw[<-n];clear n;refine aw (fun W=>Below U.heap.size U W) (by kernel_rfl) (by kernel_rfl) b0.drew ?_
           repeat(first
            |(refine bF ?_ ?_
              ·rfl
              simp only[Act.put,aE,aF,aG])
            |(refine cw ?_ ?_
              ·rfl
              apply Exists.intro;refine⟨fun w' hw'=> ?_,?_⟩
              ·obtain⟨y1,y2⟩:=HSu.out w' hw';simp[go_sem,y1,y2,Z]
               try rfl
              simp only[Act.put,aE,aF,aG])
            |(refine ee 19 #[.slice NA T Nc,.int .i64 s.j.id] (.int .u64 (jq st.ag s.j.id:Int)) ?_ ?_ (fun W l=>(HCh.out W l).mono fun e w'' h=>⟨h.1,aa l h.2⟩) ?_
              ·rfl
              ·simp[go_sem]
              simp only[Act.put,aE,aF,aG]))
           refine bM ?_;intro w5 b5;go_wp2_with fail;exact⟨⟨_,cn',HRU.out.ae b5,HN8.out,HB7.out.trans ((aa o.out b5).mono hlt9)⟩,by rw[(HRU.out.ae b5).left_eq,HCn.out];exact C.out⟩
          ·have Z:(((jq st.ag s.j.id:Nat):Int) !=(s.j.nd:Int))=true:=by simp;omega
           have HN8:=ah (HNoH.out he);clear he;go_wp2_with(refine dp rfl _ _ _ rfl f.out rfl rfl aK rfl rfl rfl ?_);rw[<-n];clear n;refine aw (fun W=>Below U.heap.size U W) (by kernel_rfl) (by kernel_rfl) b0.drew ?_
           repeat(first
            |(refine bF ?_ ?_
              ·rfl
              simp only[Act.put,aE,aF,aG])
            |(refine cw ?_ ?_
              ·rfl
              apply Exists.intro;refine⟨fun w' hw'=> ?_,?_⟩
              ·obtain⟨y1,y2⟩:=HSu.out w' hw';simp[go_sem,y1,y2,Z]
               try rfl
              simp only[Act.put,aE,aF,aG])
            |(refine ee 19 #[.slice NA T Nc,.int .i64 s.j.id] (.int .u64 (jq st.ag s.j.id:Int)) ?_ ?_ (fun W l=>(HCh.out W l).mono fun e w'' h=>⟨h.1,aa l h.2⟩) ?_
              ·rfl
              ·simp[go_sem]
              simp only[Act.put,aE,aF,aG]))
           refine bM ?_;intro w5 b5;go_wp2_with fail;go_ret;exact⟨ax (by rw[q.out,HN8.out];rfl),aa HBw.out (aa o.out b5)⟩
       all_goals
        go_wp2_with(first|(go_guarded;refine me _ _ rfl rfl (Im g.out) underlying28 rfl aT rfl ?_)|(go_at_call 17;with_reducible refine HN1.out.mono ?_;rintro e F ⟨rfl,rfl⟩)|(go_at_call 17;with_reducible refine f.out.mono ?_;rintro e F ⟨rfl,rfl⟩)|(go_at_call 18;refine HNd.out.mono ?_;rintro e F ⟨rfl,b9⟩));go_ret
        first|exact⟨ax (by rw[q.out];rfl),G.out⟩|exact⟨ax (by rw[q.out];rfl),aa G.out b9⟩
set_option maxRecDepth 100000
theorem Ov{s:St}(g:bt s):∀r∈s.bx,1<=r.jb/\r.jb<=99999:=fun r b=>by
 obtain⟨j,a,c,-,-⟩:=g.bx r b;have:=gz.1 (no (g.aj.ok j a));omega
theorem da(x:Sr)(w:Wd)(h:db w x)(g:bt x.s):Cs prog 6 #[.agg (aY x)] w (an () w):=by
 have:=qP x w h fun r a=>by have:=Ov g r a;omega
 have e:mA x.s=0:=by unfold mA;rw[(mX g.wide).2 g];rfl
 rwa [e]at this
def Cm(l:List Int)(w:Wd)(e:Ed)(w':Wd):Prop:=∃A n c,e=.returned (.slice A n c)/\n<=1000/\df w' w A n c l/\Bl w w w'
theorem Jv:∀args w,(callFunc 167 args).run prog w=.ok (.enter 167 args) w:=enters_of func167 (by kernel_rfl) rfl
theorem DP:∀args w,(callFunc 93 args).run prog w=.ok (.enter 93 args) w:=enters_of func93 (by kernel_rfl) rfl
theorem xX{x:Nd}(h:fb x=true):(0<=x.si/\x.si<=1000000)/\(0<=x.ak/\x.ak<=1000000):=by
 have:=gY.1 h;exact⟨ej.1 this.2.2.1,ej.1 this.2.2.2.1⟩
theorem wh(x:Sr)(w:Wd)(h:db w x)(g:bt x.s):Cs prog 86 #[.agg (aY x)] w (Cm (dL (ey x.s)) w):=by
 have a:Hid (ai (w.alloc (.cells (aY x) 28)) w 28 (aY x)):=ai.new _ _ _;have b:Bl w w (w.alloc (.cells (aY x) 28)):=aA;have j:=ah (da x _ (h.ae b) g);have l:=ah fun(W:Wd) (o:Bl w w W)=>BH 167 x.s.am (gA x.s.am) Jv x.N.A x.N.n x.N.c x.s.ag W (h.ag.ae o) h.BP.cf fun s m hs z=>OP x.s.am s m (ej.1 g.am) (xX ((cQ.1 g.ag).m6 s hs)).1;have k:Hid (ey x.s=pw (gA x.s.am) x.s.ag x.s.ag.length):=rfl;have v:x.s.ag.length<=1000:=by have:=h.ag.cb;have:=h.BP.cf;omega
 have i:=ah b;have y:=Jv;clear h g b;go_in;go_wp2_with(refine wA a t28 rfl ?_);refine av j fun t b2=> ?_;have d:=a.ae b2 a.lt;have q:=d.cell 0;have r:=d.cell 1;simp at q r;have f:=ah (aa i b2);clear d b2;go_wp2_with fail;refine(l _ f).mono ?_;rintro e u ⟨A,n,c,rfl,hn,p,b3⟩;go_wp2;go_ret;exact⟨A,n,c,rfl,by omega,by rw[k.out];exact aS p f.size,aa f b3⟩
section
variable {α : Type} {q : α -> Bool} {g : α -> Int} {l : List α} {k : Nat} {s : α}
theorem Jo(hs:l[k]?=some s)(h:q s=false):((l.take (k+1)).filter q).map g=((l.take k).filter q).map g:=by
 rw[aM hs,iB];simp[h]
theorem El(hs:l[k]?=some s)(h:q s=true):((l.take (k+1)).filter q).map g=((l.take k).filter q).map g++[g s]:=by
 rw[aM hs,iB];simp[h]
end
abbrev MD{α:Type}(a:Wd)(q:α->Bool)(g:α->Int)(l:List α)(X Y:Vl)(wr:Wd):Prop:=∃(k:Nat) (A:OA) (n c:Nat),k<=l.length/\X=.slice A n c/\Y=.int .i64 k/\n<=k/\df wr a A n c (((l.take k).filter q).map g)/\Bl a a wr
theorem IY(W:Wd)(base:Nat)(A:OA)(n c:Nat)(l:List Int)(i:Int)(q:df W base A n c l)(hn:n<=1000000)(g:base<=W):
 ∃e f a,(Builtin.append_ #[171,171] 171 #[.slice A n c,.slice W 1 1]).run prog (W.alloc (.cells #[i] 3))=.ok (.slice e (n+1) f) a/\df a base e (n+1) f (l++[i])/\Bl base W a:=by
 obtain⟨U,d⟩:=nm (W.alloc (.cells #[i] 3));have b:Bl W W U:=d▸aA;have m:fs U W 1 [i]:=d▸cp.new gi W i #[i] 3 rfl;obtain⟨h,j,o,p,k,b3,_,_⟩:=dy gi (P:=prog) U base 171 171 3 _ 8 underlying171 pf rfl A n c _ (q.ae b) W 1 1 [i] m (by simp only[maxLen];omega) (by omega) (cF g b.size);rw[<-d];exact⟨h,j,o,p,k,(b.mono g).trans b3⟩
theorem UJ{s:St}(g:bt s):∀r∈s.bx,0<=r.si/\r.si<=1000000:=fun r a=>by
 obtain⟨j,-,-,-,R⟩:=g.bx r a;exact ej.1 R.si
theorem C4(x:Sr)(w:Wd)(h:db w x)(g:bt x.s):Cs prog 89 #[.agg (aY x)] w (Cm (cy x.s) w):=by
 rcases x with⟨st,jr,N,J,⟨f,d,u⟩,B,L⟩;obtain⟨x,hx⟩:=nm (⟨st,jr,N,J,⟨f,d,u⟩,B,L⟩:Sr);have O:x.s=st:=by rw[hx]
 rw[<-hx]at h g⊢;have o:Hid (ai (w.alloc (.cells (aY x) 28)) w 28 (aY x)):=ai.new _ _ _;have v:Bl w w (w.alloc (.cells (aY x) 28)):=aA;have T:=ah (da x _ (h.ae v) g);have S:=ah v;rw[O]at g⊢;have yQ:=ej.1 g.am;have yR:=ah (UJ g);have Z:st.bx.length=d:=by have:=h.bx.cb;rw[hx]at this;exact this
 have hf:d<=1000:=by have:=h.Mr.cf;rw[hx]at this;exact this
 have yP:Hid (MT w f d st.bx):=by have:=h.bx;rw[hx]at this;exact this
 have E:Hid ((aY x)[0]?=some (st.am:Vl)/\(aY x)[3]?=some (.slice f d u)):=by show _/\_;rw[hx];exact⟨rfl,rfl⟩
 have V:Hid (cy st=(st.bx.filter (fun r=>decide ((12:Int)<=st.am-r.si))).map Rz.jb):=rfl;subst Z;clear h g v hx O;go_in;go_wp2_with(refine wA o t28 rfl ?_);refine av T fun a b2=> ?_;have C:=ah (o.ae b2 o.lt);have y3:a.cell? ⟨w,3,none⟩=some (.slice f st.bx.length u):=by rw[C.out.cell 3];exact E.2
 have R:=ah (aa S b2);clear b2;go_wp2
 go_loopw [3,12] (fun X Y wr=>MD a (fun r:Rz=>decide ((12:Int)<=st.am-r.si)) Rz.jb st.bx X Y wr) (fun _ Y _=>st.bx.length-(intOf Y).toNat)
 case atStart=>exact⟨0,none,0,0,fK _,rfl,rfl,cB _,be.nil _ _ _ _,cC _ _⟩
 case round=>
  obtain⟨k,e,c,j,hk,rfl,rfl,yT,G,z⟩:=hrel;have t:=ah G;have yM:=ah z;have P:=ah (aa R z);clear G z y3;by_cases yS:k<st.bx.length
  ·obtain⟨b,off,s,rfl,hb,hs,d0,d1,d2,d3,d4⟩:=BZ (yP.ae P) yS;have yU:=yR.out s (cG hs);obtain⟨U,l,i,m⟩:=az wr (om s) 37;have u0:=m.cell 0;have u4:=m.cell 4;simp at u0 u4;have n:=ah (aa yM i);have v0:U.cell? w=some (st.am:Vl):=by rw[(C.ae n C.lt).cell 0];exact E.1
   obtain⟨p,H⟩:∃p,decide ((12:Int)<=st.am-s.si)=p:=⟨_,rfl⟩;have M:=ah (t.ae i);have Q:a.heap.size<=U:=n.size;cases p
   ·have A:=ah (Jo (g:=Rz.jb) (q:=fun r:Rz=>decide ((12:Int)<=st.am-r.si)) hs H);clear hs i m;go_wp2_with(rw[<-l];clear l;go_step);exact⟨⟨k+1,e,c,j,by omega,rfl,by go_num,by omega,by rw[A.out];exact M,n⟩,by simp[intOf];omega⟩
   ·have A:=ah (El (g:=Rz.jb) (q:=fun r:Rz=>decide ((12:Int)<=st.am-r.si)) hs H);obtain⟨D,F,I,K,y,b3⟩:=IY U a e c j _ s.jb M (by omega) Q;have W:=ah K;have yL:Hid (df I a D (c+1) F (((st.bx.take (k+1)).filter (fun r:Rz=>decide ((12:Int)<=st.am-r.si))).map Rz.jb)):=by rw[<-A.out]at y;exact y
    have yO:Hid (Bl a a I):=n.trans b3;clear hs i m K y b3 Q;go_wp2_with(first|(rw[<-l];clear l;go_step)|(at_builtin;refine au rfl _ _ rfl rfl rfl W ?_));exact⟨⟨k+1,D,c+1,F,by omega,rfl,by go_num,by omega,yL,yO⟩,by simp[intOf];omega⟩
  ·obtain rfl:k=st.bx.length:=by omega
   have yN:Hid (df wr w e c j (cy st)):=by have:=t.out;rw[cT]at this;rw[V.out];exact aS this R.size
   clear t;go_wp2;go_ret;exact⟨e,c,j,rfl,by omega,yN,P⟩
theorem EW(x:Sr)(w:Wd)(h:db w x)(g:bt x.s):Cs prog 91 #[.agg (aY x)] w (Cm (fp x.s) w):=by
 rcases x with⟨st,jr,N,⟨l,e,v⟩,R,B,L⟩;obtain⟨x,hx⟩:=nm (⟨st,jr,N,⟨l,e,v⟩,R,B,L⟩:Sr);have T:x.s=st:=by rw[hx]
 rw[<-hx]at h g⊢;have t:Hid (ai (w.alloc (.cells (aY x) 28)) w 28 (aY x)):=ai.new _ _ _;have y:Bl w w (w.alloc (.cells (aY x) 28)):=aA;have HC:=ah (da x _ (h.ae y) g);have HB:=ah y;rw[T]at g⊢;have yW:=ej.1 g.am;have hl:jr.length=e:=by have:=h.aj.rows.cb;rw[hx]at this;exact this
 have hf:e<=1000:=by have:=h.fg.cf;rw[hx]at this;exact this
 have yV:Hid (pO w l e jr):=by have:=h.aj;rw[hx]at this;exact this
 have Z:jr.map Jr.j=st.aj:=by have:=h.jr;rw[hx]at this;exact this
 have J:Hid ((aY x)[0]?=some (st.am:Vl)/\(aY x)[2]?=some (.slice l e v)):=by show _/\_;rw[hx];exact⟨rfl,rfl⟩
 have HL:Hid (fp st=(jr.filter (fun r=>r.j.st==2&&decide (r.j.li<=st.am))).map (fun r=>r.j.id)):=by show _=_;unfold fp;rw[<-Z,List.filter_map,nO];rfl
 subst hl;clear h g y hx T Z;go_in;go_wp2_with(refine wA t t28 rfl ?_);refine av HC fun a b2=> ?_;have F:=ah (t.ae b2 t.lt);have y2:a.cell? ⟨w,2,none⟩=some (.slice l jr.length v):=by rw[F.out.cell 2];exact J.2
 have yN:=ah (aa HB b2);clear b2;go_wp2
 go_loopw [3,12] (fun X Y wr=>MD a (fun r:Jr=>r.j.st==2&&decide (r.j.li<=st.am)) (fun r:Jr=>r.j.id) jr X Y wr) (fun _ Y _=>jr.length-(intOf Y).toNat)
 case atStart=>exact⟨0,none,0,0,fK _,rfl,rfl,cB _,be.nil _ _ _ _,cC _ _⟩
 case round=>
  obtain⟨k,i,d,n,hk,rfl,rfl,uA,M,C⟩:=hrel;have u:=ah M;have yP:=ah C;have V:=ah (aa yN C);clear M C y2;by_cases yZ:k<jr.length
  ·obtain⟨b,off,s,rfl,hb,hs,Q,z⟩:=ir (yV.ae V) yZ;have I:=ah z;have D:Hid (ai (wr.alloc (.cells cP 51)) wr 51 cP):=ai.new _ _ _;obtain⟨U,c⟩:=nm ((wr.alloc (.cells cP 51)).setRow wr (bk s));have m:Bl wr wr U:=c▸aD;have f:ai U wr 51 (bk s):=c▸ai.row D _;have u0:=f.cell 0;have yS:=f.cell 11;have yX:=f.cell 17;simp at u0 yS yX;have o:=ah (aa yP m);have v0:U.cell? w=some (st.am:Vl):=by rw[(F.ae o F.lt).cell 0];exact J.1
   obtain⟨p1,yU⟩:∃p,(s.j.st==2)=p:=⟨_,rfl⟩;obtain⟨p2,yY⟩:∃p,decide (s.j.li<=st.am)=p:=⟨_,rfl⟩;have H:Hid ((s.j.st==2&&decide (s.j.li<=st.am))=(p1&&p2)):=by show _=_;rw[yU,yY]
   have S:=ah (u.ae m);have W:a.heap.size<=U:=o.size;cases p1
   case' true=>cases p2
   case true.true=>
    have E:=ah (El (g:=fun r:Jr=>r.j.id) (q:=fun r:Jr=>r.j.st==2&&decide (r.j.li<=st.am)) hs H);obtain⟨G,K,O,P,A,b3⟩:=IY U a i d n _ s.j.id S (by omega) W;have yT:=ah P;have yO:Hid (df O a G (d+1) K (((jr.take (k+1)).filter (fun r:Jr=>r.j.st==2&&decide (r.j.li<=st.am))).map (fun r:Jr=>r.j.id))):=by rw[<-E.out]at A;exact A
    have yR:Hid (Bl a a O):=o.trans b3;clear z hs Q m f P A b3 W;go_wp2_with(first|(rw[<-c];clear c;go_step)|refine wC I t51 rfl ?_|refine wB D aK rfl ?_|(at_builtin;refine au rfl _ _ rfl rfl rfl yT ?_));exact⟨⟨k+1,G,d+1,K,by omega,rfl,by go_num,by omega,yO,yR⟩,by simp[intOf];omega⟩
   all_goals
    have E:=ah (Jo (g:=fun r:Jr=>r.j.id) (q:=fun r:Jr=>r.j.st==2&&decide (r.j.li<=st.am)) hs H);clear z hs Q m f;go_wp2_with(first|(rw[<-c];clear c;go_step)|refine wC I t51 rfl ?_|refine wB D aK rfl ?_);exact⟨⟨k+1,i,d,n,by omega,rfl,by go_num,by omega,by rw[E.out];exact S,o⟩,by simp[intOf];omega⟩
  ·obtain rfl:k=jr.length:=by omega
   have yQ:Hid (df wr w i d n (fp st)):=by have:=u.out;rw[cT]at this;rw[HL.out];exact aS this yN.size
   clear u;go_wp2;go_ret;exact⟨i,d,n,rfl,by omega,yQ,V⟩
set_option maxRecDepth 512
theorem yc{w:Wd}{n:Nat}{d:Array Int}{os:Array Obj}(a:k≠g)(b:k<w):(Go.Sort.grow (Go.Sort.putRow (Value.int .i64) (Go.Sort.ahead w n) g 0 d) os).heap[k]?=w.heap[k]?:=by
 have hs:k<(Go.Sort.putRow (Value.int .i64) (Go.Sort.ahead w n) g 0 d).heap.size:=by simpa [Go.Sort.putRow,Go.Sort.mapBlock,Go.Sort.ahead]using b
 rw[Go.Sort.heap_grow_old _ _ hs];simp[Go.Sort.putRow,Go.Sort.mapBlock,Go.Sort.ahead,oP,sC a]
theorem qN{w:Wd}{n:Nat}{d:Array Int}{os:Array Obj}:w.heap.size<=(Go.Sort.grow (Go.Sort.putRow (Value.int .i64) (Go.Sort.ahead w n) g 0 d) os).heap.size:=by
 simp[Go.Sort.grow,Go.Sort.putRow,Go.Sort.mapBlock,Go.Sort.ahead]
def MY(base:Nat)(A:OA)(n c:Nat)(l:List Int)(w:Wd)(e:Ed)(w':Wd):Prop:=∃l',e=.returned (.tuple #[])/\l'.Perm l/\df w' base A n c l'/\Bl base w w'
theorem K6(base:Nat)(A:OA)(n c:Nat)(l:List Int)(w:Wd)(h:df w base A n c l)(hn:n<=1000000):Cs prog 368 #[.slice A n c] w (MY base A n c l w):=by
 have s:=h.1;subst s;rcases dX l.length with o|o
 ·have e0:l=[]:=dJ o;subst e0;refine(slices_Sort_int_none A c w).mono ?_;rintro e w' ⟨rfl,rfl⟩;exact⟨[],rfl,List.Perm.refl _,h,Below.refl _ _⟩
 ·obtain⟨g,hA,r,d,h1,h2⟩:=h.2.room (by have:=h.2.le;omega);subst hA
  have i:∀(m:List Int) (j:Nat) (a:j<m.length),(m.flatMap gl)[j]?=some (.int .i64 m[j]):=fun m j a=>by
   have:=rj gi m j m[j] 0 (.int .i64 m[j]) (cE a) rfl;simpa using this
  have p:Go.Sort.Holds (Value.int .i64) w g 0 l.toArray:=fun j a=>by
   have f:j<l.length:=by simpa using a
   rw[cR];refine⟨?_,(h2 j (by have:=h.2.le;omega)).2⟩;rw[h1 j (by omega),i l j f];simp[f]
  refine(slices_Sort_int g 0 c l w p d (by omega)).mono ?_;rintro e w' ⟨rfl,k,os,rfl⟩;have t:(l.mergeSort fun x y=>decide (x<=y)).toArray.size=l.toArray.size:=by simp
  have b:(l.mergeSort fun x y=>decide (x<=y)).length=l.length:=by simp
  have u:Go.Sort.Holds (Value.int .i64) (Go.Sort.ahead w k) g 0 l.toArray:=p
  have q:∀j,(Go.Sort.grow (Go.Sort.putRow (Value.int .i64) (Go.Sort.ahead w k) g 0 (l.mergeSort fun x y=>decide (x<=y)).toArray) os).cell? ⟨g,j,none⟩=if j<l.length then((l.mergeSort fun x y=>decide (x<=y)).flatMap gl)[j]? else w.cell? ⟨g,j,none⟩:=fun j=>by
   rw[Go.Sort.cell?_grow _ _ _ (by simpa [Go.Sort.putRow,Go.Sort.mapBlock,Go.Sort.ahead]using d)];by_cases a:j<l.length
   ·rw[cK a];have:=Go.Sort.cell?_putRow (Value.int .i64) (Go.Sort.ahead w k) g 0 l.toArray _ u t j (by simpa using a);rw[cR]at this;rw[this,i _ j (by rw[b];exact a)];simp[a,b]
   ·rw[cL a];exact Go.Sort.cell?_putRow_other _ _ _ _ _ _ (.inr (.inr (by simp;omega)))
  refine⟨_,rfl,List.mergeSort_perm l _,⟨b,⟨by rw[gL gi,b],h.2.le,h.2.max,fun _=>⟨g,rfl,r,cD d qN,fun j a=> ?_,fun j a=>⟨?_,?_⟩⟩,fun e=>by cases e⟩⟩,⟨rfl,rfl,rfl,qN,fun x hx=>yc (by omega) (by omega)⟩⟩
  ·rw[q j,cK (by omega)]
  ·rw[q j];split
   ·rename_i f;rw[i _ j (by rw[b];exact f)];rfl
   ·exact(h2 j a).1
  ·rw[Go.Sort.frozen?_grow _ _ _ (by simpa [Go.Sort.putRow,Go.Sort.mapBlock,Go.Sort.ahead]using d)];unfold Go.Sort.putRow;rw[Go.Sort.frozen?_mapBlock];exact(h2 j a).2
end Go.Proofs.YthfhilggbbobmaaGreatDoor
