/- Parts of the proof. -/
import Derived.Test.YthfhilggbbobmaaGreatDoorK15
set_option linter.all false
set_option maxHeartbeats 20000000
namespace Go.Proofs.YthfhilggbbobmaaGreatDoor
set_option maxRecDepth 100000
open Go.Proofs.Tryz
open Go renaming World->Wd,Value->Vl,Calls->Cs
open Go.RowKit
structure Nt where
 kd:Int
 nd:Int
 jb:Int
 ep:Int
deriving DecidableEq
def sr(l:List Nd)(n:Int):Nt×Bool:=
 if aO l=false then(⟨0,0,0,0⟩,false)else
 match if 0<=n then l[n.toNat]? else none with
 |none=>(⟨0,0,0,0⟩,false)
 |some x=>if x.wt=0 then(⟨0,0,0,0⟩,false)else(⟨x.wt,n,x.jb,x.ep⟩,true)
theorem Lu{l:List Nd}{n:Int}(h:aO l=false):sr l n=(⟨0,0,0,0⟩,false):=by rw[sr,cK h]
theorem BN{l:List Nd}{n:Int}(h:n<0\/(l.length:Int)<=n):sr l n=(⟨0,0,0,0⟩,false):=by
 unfold sr;split
 ·rfl
 ·rcases h with h|h
  ·rw[cL (by omega)]
  ·by_cases a:0<=n
   ·rw[cK a,dP (by omega)]
   ·rw[cL a]
theorem O6{l:List Nd}{k:Nat}{x:Nd}(a:aO l=true)(h:l[k]?=some x):sr l (k:Int)=if x.wt=0 then(⟨0,0,0,0⟩,false)else(⟨x.wt,(k:Int),x.jb,x.ep⟩,true):=by
 unfold sr;rw[cL (by simp[a]),cK (by omega),iA,h]
abbrev S5(r:Nt×Bool):Vl:=.tuple #[.agg #[r.1.kd,r.1.nd,r.1.jb,r.1.ep],r.2]
theorem O7(A:OA)(n c:Nat)(l:List Nd)(m:Int)(w:Wd)(h:tm w A n l)(hn:n<=maxLen):
 Cs prog 177 #[.slice A n c,m] w (an (S5 (sr l m)) w):=by
 have R:=h.cb;subst R;obtain⟨V,e,r,f⟩:=az w #[(),(),(),()] 42;have t:=ah (jJ A l.length c l V (h.ae r) hn);cases hck:aO l
 ·rw[eM hck]at t;have d:=ah (Lu (n:=m) hck);rw[d.out];clear hck h;go_in;go_wp2_with fail;rw[<-e];clear e;refine av t fun y b1=> ?_;have a:=f.ae b1 f.lt;obtain⟨z,B,C,D⟩:=bT a;have u:=a.ao 0;have g1:=a.ao 1;have g2:=a.ao 2;have g3:=a.ao 3;go_wp2_with fail;obtain⟨i,j,o,p⟩:=bT ((((a.set 0 ()).set 1 ()).set 2 ()).set 3 ());refine cU (v:=.tuple #[.agg #[(),(),(),()],false]) (by simp[results,results177,go_sem,i,j,o,p]) rfl ⟨rfl,?_⟩;exact bP (g:=w.heap.size) (aa r b1) lr [(),(),(),()] 0
 rw[fh hck]at t;have Y:=(cQ.1 hck).cf;by_cases h1:m<0
 ·have d:=ah (BN (l:=l) (.inl h1));rw[d.out];clear hck h;go_in;go_wp2_with fail;rw[<-e];clear e;refine av t fun y b1=> ?_;have a:=f.ae b1 f.lt;obtain⟨z,B,C,D⟩:=bT a;have u:=a.ao 0;have g1:=a.ao 1;have g2:=a.ao 2;have g3:=a.ao 3;go_wp2_with fail;obtain⟨i,j,o,p⟩:=bT ((((a.set 0 ()).set 1 ()).set 2 ()).set 3 ());refine cU (v:=.tuple #[.agg #[(),(),(),()],false]) (by simp[results,results177,go_sem,i,j,o,p]) rfl ⟨rfl,?_⟩;exact bP (g:=w.heap.size) (aa r b1) lr [(),(),(),()] 0
 have S:0<=m:=by omega
 by_cases h2:(l.length:Int)<=m
 ·have d:=ah (BN (l:=l) (.inr h2));rw[d.out];clear hck h h1;go_in;go_wp2_with fail;rw[<-e];clear e;refine av t fun y b1=> ?_;have a:=f.ae b1 f.lt;obtain⟨z,B,C,D⟩:=bT a;have u:=a.ao 0;have g1:=a.ao 1;have g2:=a.ao 2;have g3:=a.ao 3;go_wp2_with fail;obtain⟨i,j,o,p⟩:=bT ((((a.set 0 ()).set 1 ()).set 2 ()).set 3 ());refine cU (v:=.tuple #[.agg #[(),(),(),()],false]) (by simp[results,results177,go_sem,i,j,o,p]) rfl ⟨rfl,?_⟩;exact bP (g:=w.heap.size) (aa r b1) lr [(),(),(),()] 0
 obtain⟨k,rfl⟩:∃k:Nat,m=(k:Int):=⟨m.toNat,by omega⟩;have L:k<l.length:=by omega
 have Z:(k:Int)<(l.length:Int):=by omega
 have yM:=dF (l.length<=k) (by omega);have yL:¬l.length<=k:=by omega
 clear h1 S h2;obtain⟨b,off,x,rfl,W,hx,_⟩:=cp.seven h L;have d:=ah (O6 hck hx);have N:=ah hx;have M:=ah h;clear hck hx h;by_cases hw:x.wt=0
 ·rw[cK hw]at d;rw[d.out];have T:(x.wt==0)=true:=by simp[hw]
  clear hw;go_in;go_wp2_with fail;rw[<-e];clear e;refine av t fun y b1=> ?_;obtain⟨O,Q,P,s,U,q,E,F,G,H,I,J,K⟩:=cp.seven (M.ae (aa r b1)) L;injection s with s
  injection s with e1 e2;subst e1 e2;rw[N.out]at q;injection q with q;subst q;have a:=f.ae b1 f.lt;obtain⟨z,B,C,D⟩:=bT a;have u:=a.ao 0;have g1:=a.ao 1;have g2:=a.ao 2;have g3:=a.ao 3;go_wp2_with fail;clear E F G H I J K;obtain⟨i,j,o,p⟩:=bT ((((a.set 0 ()).set 1 ()).set 2 ()).set 3 ());refine cU (v:=.tuple #[.agg #[(),(),(),()],false]) (by simp[results,results177,go_sem,i,j,o,p]) rfl ⟨rfl,?_⟩;exact bP (g:=w.heap.size) (aa r b1) lr [(),(),(),()] 0
 ·rw[cL hw]at d;rw[d.out];have T:(x.wt==0)=false:=by simpa using hw
  clear hw;go_in;go_wp2_with fail;rw[<-e];clear e;refine av t fun y b1=> ?_;obtain⟨O,Q,P,s,U,q,E,F,G,H,I,J,K⟩:=cp.seven (M.ae (aa r b1)) L;injection s with s
  injection s with e1 e2;subst e1 e2;rw[N.out]at q;injection q with q;subst q;have a:=f.ae b1 f.lt;have yN:w≠b:=by omega
  have X:b≠w:=by omega
  obtain⟨z,B,C,D⟩:=bT a;have u:=a.ao 0;have g1:=a.ao 1;have g2:=a.ao 2;have g3:=a.ao 3;go_wp2_with fail;go_region
  all_goals go_wp2_with fail
  all_goals clear E F G H I J K
  obtain⟨i,j,o,p⟩:=bT ((((a.set 0 x.wt).set 1 k).set 2 x.jb).set 3 x.ep);refine cU (v:=.tuple #[.agg #[x.wt,k,x.jb,x.ep],true]) (by simp[results,results177,go_sem,i,j,o,p]) rfl ⟨rfl,?_⟩;exact(bP (g:=w.heap.size) (aa r b1) lr [x.wt,k,x.jb,x.ep] 0).drew
end Go.Proofs.YthfhilggbbobmaaGreatDoor
