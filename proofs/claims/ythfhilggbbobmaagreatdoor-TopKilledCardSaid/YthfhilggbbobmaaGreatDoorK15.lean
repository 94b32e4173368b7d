/- Parts of the proof. -/
import Derived.Test.YthfhilggbbobmaaGreatDoorK11
import Derived.BigGuardPart
set_option linter.all false
set_option maxHeartbeats 20000000
namespace Go.Proofs.YthfhilggbbobmaaGreatDoor
set_option maxRecDepth 100000
open Go.Proofs.Tryz
open Go renaming World->Wd,Calls->Cs
open Go.RowKit
abbrev Qx(x:Nd)(act bD:Int)(w:Wd):Prop:=Cs prog 194 #[.agg #[x.st,x.jb,x.ep,x.dr,x.wt,x.si,x.ak],act,bD] w (an (jx x act bD:Bool) w)
theorem Sg(x:Nd)(act bD:Int)(w:Wd):Qx x act bD w:=by
 obtain⟨st,jb,ep,a,wt,si,ak⟩:=x;unfold Qx;simp only;go_in;go_wp2_with fail
 all_goals
  go_ret;exact⟨ar (by unfold jx;simp_all<;>omega),(Below.refl _ _).alloc lr _⟩
open Go renaming Value->Vl,Ending->Ed
open Go.RowKit renaming Below->Bl
def S4(r:List Nd×Int)(w:Wd)(e:Ed)(w':Wd):Prop:=∃A c,e=.returned (.tuple #[.slice A r.1.length c,r.2])/\mK w' w A r.1.length c r.1/\Bl w w w'
variable{l:List Nd}
theorem Ly{w:Wd}{base g n c:Nat}(h:mK w base g n c l){i:Nat}(hi:i<n):∃s,l[i]?=some s/\(w.cell? ⟨g,i*7,none⟩=some (s.st:Vl)/\w.cell? ⟨g,i*7+1,none⟩=some (s.jb:Vl)/\w.cell? ⟨g,i*7+2,none⟩=some (s.ep:Vl)/\w.cell? ⟨g,i*7+3,none⟩=some (s.dr:Vl)/\w.cell? ⟨g,i*7+4,none⟩=some (s.wt:Vl)/\w.cell? ⟨g,i*7+5,none⟩=some (s.si:Vl)/\w.cell? ⟨g,i*7+6,none⟩=some (s.ak:Vl))/\
 ∀j,j<7->w.frozen? ⟨g,i*7+j,none⟩=false:=by
 obtain⟨p,r,s,a,t,hs,b,d,e,f,k,m,o⟩:=cp.seven (h.et mb) hi;injection a with a;injection a with e1 e2;subst e1 e2;rw[cR]at b d e f k m o;have u:=h.2.le;obtain⟨p,a,_,_,_,h2⟩:=h.2.room (by omega);injection a with a;injection a with e1 e2;subst e1;exact⟨s,hs,⟨b,d,e,f,k,m,o⟩,fun j q=>(h2 _ (by omega)).2⟩
theorem Jd{n act bD am:Int}(h:aO l=false):rg l n act bD am=([],120):=by rw[rg,cK h]
theorem CH{n act bD am:Int}(h:n<0\/(l.length:Int)<=n):rg l n act bD am=([],120):=by
 unfold rg;split
 ·rfl
 ·rcases h with h|h
  ·rw[cL (by omega)]
  ·by_cases a:0<=n
   ·rw[cK a,dP (by omega)]
   ·rw[cL a]
theorem CG{k:Nat}{x:Nd}{act bD am:Int}(a:aO l=true)(h:l[k]?=some x):rg l (k:Int) act bD am=if bZ am=false then([],120)else if jx x act bD=false then([],120)else(l.set k (bH x act bD am),0):=by
 unfold rg;rw[cL (by simp[a]),cK (by omega),iA,h]
theorem GL(A:OA)(n c:Nat)(l:List Nd)(m act bD am:Int)(w:Wd)(h:tm w A n l)(hn:n<=maxLen)(hA:A=none->c=0):
 Cs prog 103 #[.slice A n c,m,act,bD,am] w (S4 (rg l m act bD am) w):=by
 have V:=h.cb;subst V;have j:=ah (jJ A l.length c l w h hn);cases hck:aO l
 ·rw[eM hck]at j;have a:=ah (Jd (n:=m) (act:=act) (bD:=bD) (am:=am) hck);clear hck h hA;go_in;go_wp2_with fail;refine j.out.mono ?_;rintro e D ⟨rfl,b1⟩;go_wp2;go_ret2;rw[a.out];exact⟨none,0,rfl,be.nil _ _ _ _,b1⟩
 rw[fh hck]at j;have yM:=(cQ.1 hck).cf;by_cases h1:m<0
 ·have a:=ah (CH (l:=l) (act:=act) (bD:=bD) (am:=am) (.inl h1));clear hck h hA;go_in;go_wp2_with fail;refine j.out.mono ?_;rintro e D ⟨rfl,b1⟩;go_wp2;go_ret2;rw[a.out];exact⟨none,0,rfl,be.nil _ _ _ _,b1⟩
 have W:0<=m:=by omega
 by_cases h2:(l.length:Int)<=m
 ·have a:=ah (CH (l:=l) (act:=act) (bD:=bD) (am:=am) (.inr h2));clear hck h hA h1;go_in;go_wp2_with fail;refine j.out.mono ?_;rintro e D ⟨rfl,b1⟩;go_wp2
  all_goals
   go_ret2;rw[a.out];exact⟨none,0,rfl,be.nil _ _ _ _,b1⟩
 obtain⟨k,rfl⟩:∃k:Nat,m=(k:Int):=⟨m.toNat,by omega⟩;have p:k<l.length:=by omega
 have yU:=dF (l.length<=k) (by omega);have yV:¬l.length<=k:=by omega
 clear h1 W h2;obtain⟨b,off,x,rfl,hb,hx,_⟩:=cp.seven h p;have a:=ah (CG (act:=act) (bD:=bD) (am:=am) hck hx);obtain⟨X,yP,_⟩:=gY.1 ((cQ.1 hck).m6 x (vg hx));have q:=ah (Ac am);have J:=ah hx;have F:=ah h;clear hck hx h hA;cases ht:bZ am
 ·rw[ht]at q;rw[ht,cK rfl]at a;clear ht;go_in;go_wp2_with fail;refine j.out.mono ?_;rintro e D ⟨rfl,b1⟩;go_wp2_with fail;refine(q _).mono ?_;rintro e E ⟨rfl,rfl⟩;go_wp2;go_ret2;rw[a.out];exact⟨none,0,rfl,be.nil _ _ _ _,b1⟩
 rw[ht]at q;rw[ht,cL (by simp)]at a;clear ht;have o:=ah (Sg x act bD);cases hm:jx x act bD
 ·rw[hm,cK rfl]at a;unfold Qx at o;rw[hm]at o;clear hm;go_in;go_wp2_with fail;refine j.out.mono ?_;rintro e D ⟨rfl,b1⟩;obtain⟨L,O,N,f,P,d,r,t,u,v,z,B,C⟩:=cp.seven (F.ae b1) p;injection f with f
  injection f with e1 e2;subst e1 e2;rw[J.out]at d;injection d with d;subst d;go_wp2_with fail;refine(q _).mono ?_;rintro e E ⟨rfl,rfl⟩;go_wp2_with fail;refine(o _).mono ?_;rintro e E ⟨rfl,b2⟩;clear r t u v z B C;go_wp2;go_ret2;rw[a.out];exact⟨none,0,rfl,be.nil _ _ _ _,aa b1 b2⟩
 ·rw[hm,cL (by simp)]at a;unfold Qx at o;rw[hm]at o;clear hm;have I:=ah (N1 x act bD am);unfold Mz at I;obtain⟨y,M⟩:=nm (bH x act bD am);rw[<-M]at I a;clear M;go_in;go_wp2_with fail;refine j.out.mono ?_;rintro e D ⟨rfl,b1⟩;obtain⟨L,O,N,f,P,d,r,t,u,v,z,B,C⟩:=cp.seven (F.ae b1) p;injection f with f
  injection f with e1 e2;subst e1 e2;rw[J.out]at d;injection d with d;subst d;go_wp2_with fail;refine(q _).mono ?_;rintro e E ⟨rfl,rfl⟩;go_wp2_with fail;refine(o _).mono ?_;rintro e E ⟨rfl,b2⟩;have H:=aa b1 b2;clear r t u v z B C;have Y:=ah (Hl (some ⟨b,off,none⟩) l.length c l E (F.ae H) (by omega) (fun h=>by cases h));go_wp2_with fail;refine Y.out.mono ?_;rintro e U ⟨A3,T,rfl,G,b3⟩;have Q:=aa H b3;obtain⟨L,O,N,f,P,d,r,t,u,v,z,B,C⟩:=cp.seven (F.ae Q) p;injection f with f;injection f with e1 e2;subst e1 e2;rw[J.out]at d;injection d with d;subst d;have yS:=G.2.le;obtain⟨g,rfl,yO,yR,_,_⟩:=G.2.room (by omega);have Z:=ah G;clear G;go_wp2_with fail;refine(I U yP X).mono ?_;rintro e w4 ⟨rfl,b4⟩;have K:=Z.ae b4;obtain⟨s,_,⟨q0,q1,q2,q3,q4,q5,q6⟩,i⟩:=Ly K p;have f0:=i 0 (by omega);have f1:=i 1 (by omega);have f2:=i 2 (by omega);have f3:=i 3 (by omega);have f4:=i 4 (by omega);have f5:=i 5 (by omega);have f6:=i 6 (by omega);rw[fU]at f0;have S:=ah (i0 mb K k p y);have yQ:=aa Q b4;have R:Hid ((l.set k y).length=l.length):=by show _=_;simp
  have yT:(k:Int)<(l.length:Int):=by omega
  clear K i r t u v z B C;go_wp2;go_ret2;rw[a.out];unfold S4;rw[R.out];exact⟨_,T,rfl,S.out.mono H.size,bP yQ (cF H.size yO) (wi y) (k*7)⟩
end Go.Proofs.YthfhilggbbobmaaGreatDoor
