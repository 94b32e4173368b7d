/- Parts of the proof. -/
import Derived.Test.YthfhilggbbobmaaGreatDoorK3
import Derived.Lib.SmallJoins
set_option linter.all false
set_option maxHeartbeats 20000000
namespace Go.Proofs.YthfhilggbbobmaaGreatDoor
open Go.Proofs.Tryz
open Go.ChangeShapes Go.WideShapes Go.ChangeAt Go.RowKit Go.Deep
section
variable {H : Type} {enc : TypeId × Value -> H} {w : World} {base : Nat} {spare : Nat -> Bool} {held : Bool}
end



open Go renaming World->Wd,Calls->Cs
def DC(n a b:Int):Bool:=decide (a<=n)&&decide (n<=b)
theorem te(n a b:Int)(w:Wd):Cs prog 405 #[n,a,b] w fun e w'=>e=.returned (DC n a b:Bool)/\w=w':=by
 by_cases h1:a<=n
 ·go_in;go_wp2;go_ret;exact⟨ar (by simp[DC,h1]),rfl⟩
 ·have h2:decide (a<=n)=false:=by simpa using h1
  have d:n<a:=by omega
  have c:Hid (DC n a b=false):=by show _=_;simp[DC,h2]
  go_in;go_wp2;go_ret;exact⟨ar c.symm,rfl⟩
theorem ts(long ag:Int)(w:Wd):Cs prog 384 #[long,ag] w fun e w'=>e=.returned (pV long ag:Bool)/\w=w':=by
 have a:=te ag 1 1000000;have f:=ah (te long 1 1000000);have b:Hid (pV long ag=(DC ag 1 1000000&&DC long 1 1000000)):=by show _=_;simp[pV,DC,Bool.and_assoc]
 cases hq:DC ag 1 1000000
 ·rw[hq]at a b;have c:=ah a;clear a hq;go_in;go_wp2_with fail;refine(c _).mono ?_;rintro e d ⟨rfl,rfl⟩;go_wp2;go_ret;exact⟨ar (by rw[b.out];rfl),rfl⟩
 ·rw[hq]at a b;have c:=ah a;clear a hq;go_in;go_wp2_with fail;refine(c _).mono ?_;rintro e d ⟨rfl,rfl⟩;go_wp2_with fail;refine(f _).mono ?_;rintro e d ⟨rfl,rfl⟩;go_wp2;go_ret;exact⟨ar (by rw[b.out];rfl),rfl⟩
theorem GT(A:OA)(n c:Nat)(p:List bC)(t long ag:Int)(w:Wd)(h:Steps w A n p)(hn:n<=maxLen):
 Cs prog 360 #[.slice A n c,t,long,ag] w (MQ (fj p t long ag:Bool) w):=by
 have f:=ah (eU A n c p w h hn);have a:=ts long ag;have o:=ah h;cases hc:gW p
 ·rw[dh hc]at f;have b:Hid (fj p t long ag=false):=by show _=_;simp[fj,hc]
  clear hc h a;go_in;go_wp2_with fail;refine f.out.mono ?_;rintro e g ⟨rfl,b1⟩;go_wp2;go_ret;exact⟨ar b.symm,b1⟩
 ·rw[ec hc]at f;cases ha:pV long ag
  ·rw[ha]at a;have b:Hid (fj p t long ag=false):=by show _=_;simp[fj,ha]
   have j:=ah a;clear hc h a ha;go_in;go_wp2_with fail;refine f.out.mono ?_;rintro e g ⟨rfl,b1⟩;go_wp2_with fail;refine(j _).mono ?_;rintro e i ⟨rfl,rfl⟩;go_wp2;go_ret;exact⟨ar b.symm,b1⟩
  ·rw[ha]at a;have j:=ah a;obtain⟨u,v,x,y⟩:=kH.1 ha;have d:=te t 0 (1000000-long);have l:DC t 0 (1000000-long)=atB t long:=rfl;rw[l]at d;cases hat:atB t long
   ·rw[hat]at d;have m:=ah d;have b:Hid (fj p t long ag=false):=by show _=_;simp[fj,hat]
    clear hc h a ha d hat l;go_in;go_wp2_with fail;refine f.out.mono ?_;rintro e g ⟨rfl,b1⟩;go_wp2_with fail;refine(j _).mono ?_;rintro e i ⟨rfl,rfl⟩;go_wp2_with fail;refine(m _).mono ?_;rintro e i ⟨rfl,rfl⟩;go_wp2;go_ret;exact⟨ar b.symm,b1⟩
   ·rw[hat]at d;have m:=ah d;obtain⟨r,s⟩:=Nk.1 hat;obtain⟨L,k⟩:=nm (least p t (t+long));have b:Hid (fj p t long ag=decide (ag<=L)):=by show _=_;simp only[fj,hc,ha,hat,lO,k]
    have q:Hid (ku p t (t+long)=L):=by show _=_;rw[k,ku,cK ⟨hc,by simp[eE];omega,by omega⟩]
    clear hc h a ha d hat l k;go_in;go_wp2_with fail;refine f.out.mono ?_;rintro e g ⟨rfl,b1⟩;go_wp2_with fail;refine(j _).mono ?_;rintro e i ⟨rfl,rfl⟩;go_wp2_with fail;refine(m _).mono ?_;rintro e i ⟨rfl,rfl⟩;go_wp2_with fail;refine(OS L A n c p t (t+long) g (o.ae b1) hn q).mono ?_;rintro e z ⟨rfl,b3⟩;go_wp2;go_ret;exact⟨ar (by rw[b.out]),aa b1 b3⟩
def nA(p:List bC)(t long ag:Int):List bC×Int:=if fj p t long ag=true then add p t (t+long) (-ag)else([],130)
theorem FL(A:OA)(n c:Nat)(p:List bC)(t long ag:Int)(w:Wd)(h:Steps w A n p)(hn:n<=maxLen)(o:n<=c)(hA:A=none->c=0):
 Cs prog 296 #[.slice A n c,t,long,ag] w (Cl (nA p t long ag) w):=by
 have a:=ah (GT A n c p t long ag w h hn);cases hf:fj p t long ag
 ·rw[hf]at a;have b:Hid (nA p t long ag=([],130)):=by show _=_;simp[nA,hf]
  clear hf h hA;go_in;go_wp2_with fail;refine av a fun g b1=> ?_;go_wp2;go_ret2;rw[b.out];exact⟨none,0,rfl,be.nil _ _ _ _,b1⟩
 ·rw[hf]at a;obtain⟨i,f⟩:=tF hf;obtain⟨x,y,z,B⟩:=kH.1 f;obtain⟨u,v,_⟩:=(kf i f).1 hf;obtain⟨r,d⟩:=nm (add p t (t+long) (-ag));have s:=ah d;have b:Hid (nA p t long ag=r):=by show _=_;rw[d];simp[nA,hf]
  have l:=ah h;have k:=ah hA;clear hf h i f d hA;go_in;go_wp2_with fail;refine av a fun g b1=> ?_;go_wp2_with fail;refine(Cu A n c p t (t+long) (-ag) g (l.ae b1) hn o k).mono ?_;rw[<-s.out];rintro e C ⟨j,m,rfl,q,b2⟩;go_wp2;go_ret2;rw[b.out];exact⟨j,m,rfl,q.mono b1.size,aa b1 b2⟩
set_option maxRecDepth 100000
open Go renaming Value->Vl,Ending->Ed
open Go.RowKit renaming Below->Bl
def Tb(o:Option Int):Vl:=.tuple #[(o.getD 0:Int),o.isSome]
def DK(o:Option Int)(w:Wd)(e:Ed)(w':Wd):Prop:=e=.returned (Tb o)/\Bl w w w'
theorem sR{p:List bC}(e:p.Pairwise (fun a b=>a.1<b.1)){j:Nat}{s:bC}{b:Int}(hs:p[j]?=some s)(c:b<=s.1):∀k r,j<=k->p[k]?=some r->b<=r.1:=by
 intro k r f d;have:=Bp e hs c r (dE.2 ⟨k-j,by rw[iO];rw[show j+(k-j)=k by omega];exact d⟩);exact this
def EJ(w:Wd)(A:OA)(c:Nat)(p:List bC)(f0 long ag:Int)(f:Act)(w':Wd):Prop:=
 ∃(t:Int) (i:Nat) (x y g yV L M yP X yB Z yO yF E Y yN a I h yJ V b n H W N yL d S j u yZ k R s G v yS yC yQ P yU K F m yW r O z yH yE yR l yM yK yD yX J yI U o yG e Q q D T yY C B yT:Vl),f={tmps:= #[.slice A p.length c,.int .i64 f0,.int .i64 long,.int .i64 ag,undef,undef,undef,undef,x,y,.int .i64 t,.int .i64 i,g,yV,L,M,yP,X,yB,Z,yO,yF,E,Y,yN,a,I,h,yJ,V,b,n,H,W,N,yL,d,S,j,u,yZ,k,R,s,G,v,yS,yC,yQ,P,yU,K,F,m,yW,r,O,z,yH,yE,yR,l,yM,yK,yD,yX,J,yI,U,o,yG,e,Q,q,D,T,yY,C,B,yT,undef],defers:=[]}/\pU p (max f0 0) long ag t i/\i<=p.length/\t<=1000000/\Bl w.heap.size w w'
def EM(p:List bC)(a:Act)(_:Wd):Nat:=p.length-(intOf (a.tmps.getD 11 undef)).toNat
theorem KV(A:OA)(c:Nat)(p:List bC)(f0 long ag:Int)(w:Wd)(h:Steps w A p.length p)(K:gW p=true)(L:pV long ag=true):
 Cs prog 385 #[.slice A p.length c,f0,long,ag] w (DK (uv p f0 long ag) w):=by
 have hC:=es K;have uC:=hC.cf;obtain⟨uF,hn2,O,hl2⟩:=kH.1 L;have uD:=ah (Nv 0 A p.length c p w h (by simp[maxLen];omega) (ec K));have N:=ts long ag;rw[L]at N;have yS:=ah N;have q:=ah hC;have E:=ah h;have m:=ah K;have n:=ah L;clear h hC K L N;go_in;go_wp2_with fail;refine wp_scope_jumps 0 (EJ w A c p f0 long ag) (EM p) rfl ?_ ?_
 ·go_wp2_with fail;refine uD.out.mono ?_;rintro e w1 ⟨rfl,b⟩;go_wp2_with fail;refine(yS _).mono ?_;rintro e w2 ⟨rfl,rfl⟩;by_cases uB:1000000<f0
  ·have u:Hid (pU p (max f0 0) long ag f0 0):=by have:=tb p (max f0 0) long ag;rw[show max f0 0=f0 by omega]at this⊢;exact this
   have a:=ah (vy m n u (by omega));have hm:0<f0:=by omega
   have qJ:1000000-long<f0:=by omega
   go_wp2;go_step3;go_wp2_with fail;simp only[Exit.jump]
   try rw[dM]
   go_ret2;rw[a.out];exact⟨rfl,b⟩
  ·by_cases hf:0<=f0
   ·have hi:0<=p.length:=by omega
    have u:Hid (pU p (max f0 0) long ag f0 0):=by have:=tb p (max f0 0) long ag;rw[show max f0 0=f0 by omega]at this⊢;exact this
    have J:0<=f0:=hf;go_upto_region 5 with(go_step3)
    by_cases M:1000000-long<f0
    ·have a:=ah (vy m n u M);go_wp2_with fail;simp only[Exit.jump]
     try rw[dM]
     go_ret2;rw[a.out];exact⟨rfl,b⟩
    ·have z:f0<=1000000-long:=by omega
     go_wp2
     go_loop [10,11] (fun y x=>∃j:Nat,0<=j/\j<=p.length/\y=.int .i64 f0/\x=.int .i64 j/\pU p (max f0 0) long ag f0 j) (fun _ x=>p.length-(intOf x).toNat)
     case atStart=>exact⟨0,cB _,hi,rfl,rfl,u⟩
     case round=>
      obtain⟨j,X,S,rfl,rfl,l⟩:=hrel;have d:=ah l;clear l;by_cases I:j<p.length
      ·obtain⟨P,off,s,rfl,Y,hs,Q,R⟩:=cp.two (E.ae b) I;have g:=ah hs;clear hs;by_cases B:s.1<f0+long
       ·by_cases G:ag<=s.2
        ·have f:=ah (ln d g (.inl G));go_wp2_with fail
         go_round
         case rel=>exact⟨j+1,by omega,by omega,rfl,by go_num,f⟩
         case measure=>simp[intOf];omega
        ·by_cases C:j+1=p.length
         ·have F:(((j:Int)+1)==(p.length:Int))=true:=by rw[iC];omega
          have a:=ah (vx m n d g B (by omega) (dP (by omega)));clear C;go_wp2_with fail;simp only[Exit.jump]
          try rw[dM]
          go_ret2;rw[a.out];exact⟨rfl,b⟩
         ·have F:(((j:Int)+1)==(p.length:Int))=false:=by rw[dQ];omega
          obtain⟨W,V,r,e,_,o,Z,yY⟩:=cp.two (E.ae b) (show j+1<p.length by omega);injection e with e;injection e with e1 e2;subst e1 e2;have yZ:((j:Int)+1).toNat=j+1:=by omega
          have U:(j:Int)+1<(p.length:Int):=by omega
          have v:=ah o;have D:=q.le r (cG o);unfold End at D;clear o C;by_cases H:r.1<=f0
          ·have f:=ah (ln d g (.inr ⟨r,v,H⟩));go_wp2_with fail
           go_round
           case rel=>exact⟨j+1,by omega,by omega,rfl,by go_num,f⟩
           case measure=>simp[intOf];omega
          ·have f:=ah (vz q.nf.up d J O g B (by omega) v (by omega));go_wp2;go_step3;exact⟨rfl,r.1,j+1,_,_,_,_,_,_,_,_,_,_,_,_,_,_,_,_,_,_,_,_,_,_,_,_,_,_,_,_,_,_,_,_,_,_,_,_,_,_,_,_,_,_,_,_,_,_,_,_,_,_,_,_,_,_,_,_,_,_,_,_,_,_,_,_,_,_,_,_,_,_,rfl,f,by omega,D,b⟩
       ·have a:=ah (nP m n d z (sR q.nf.up.pairwise g (by omega)));go_wp2_with fail;simp only[Exit.jump]
        try rw[dM]
        go_ret2;rw[a.out];exact⟨rfl,b⟩
      ·have a:=ah (nP m n d z (fun k s T hs=>by have:=(cA.1 hs).1;omega));go_wp2_with fail;simp only[Exit.jump]
       try rw[dM]
       go_ret2;rw[a.out];exact⟨rfl,b⟩
   ·have uE:f0<0:=by omega
    have hi:0<=p.length:=by omega
    have u:Hid (pU p (max f0 0) long ag 0 0):=by have:=tb p (max f0 0) long ag;rw[show max f0 0=0 by omega]at this⊢;exact this
    have J:(0:Int)<=0:=by omega
    go_upto_region 5 with(go_step3)
    ·have z:0<=1000000-long:=by omega
     go_wp2
     go_loop [10,11] (fun y x=>∃j:Nat,0<=j/\j<=p.length/\y=.int .i64 0/\x=.int .i64 j/\pU p (max f0 0) long ag 0 j) (fun _ x=>p.length-(intOf x).toNat)
     case atStart=>exact⟨0,cB _,hi,rfl,rfl,u⟩
     case round=>
      obtain⟨j,X,S,rfl,rfl,l⟩:=hrel;have d:=ah l;clear l;by_cases I:j<p.length
      ·obtain⟨P,off,s,rfl,Y,hs,Q,R⟩:=cp.two (E.ae b) I;have g:=ah hs;clear hs;by_cases B:s.1<0+long
       ·by_cases G:ag<=s.2
        ·have f:=ah (ln d g (.inl G));go_wp2_with fail
         go_round
         case rel=>exact⟨j+1,by omega,by omega,rfl,by go_num,f⟩
         case measure=>simp[intOf];omega
        ·by_cases C:j+1=p.length
         ·have F:(((j:Int)+1)==(p.length:Int))=true:=by rw[iC];omega
          have a:=ah (vx m n d g B (by omega) (dP (by omega)));clear C;go_wp2_with fail;simp only[Exit.jump]
          try rw[dM]
          go_ret2;rw[a.out];exact⟨rfl,b⟩
         ·have F:(((j:Int)+1)==(p.length:Int))=false:=by rw[dQ];omega
          obtain⟨W,V,r,e,_,o,Z,yY⟩:=cp.two (E.ae b) (show j+1<p.length by omega);injection e with e;injection e with e1 e2;subst e1 e2;have yZ:((j:Int)+1).toNat=j+1:=by omega
          have U:(j:Int)+1<(p.length:Int):=by omega
          have v:=ah o;have D:=q.le r (cG o);unfold End at D;clear o C;by_cases H:r.1<=0
          ·have f:=ah (ln d g (.inr ⟨r,v,H⟩));go_wp2_with fail
           go_round
           case rel=>exact⟨j+1,by omega,by omega,rfl,by go_num,f⟩
           case measure=>simp[intOf];omega
          ·have f:=ah (vz q.nf.up d J O g B (by omega) v (by omega));go_wp2;go_step3;exact⟨rfl,r.1,j+1,_,_,_,_,_,_,_,_,_,_,_,_,_,_,_,_,_,_,_,_,_,_,_,_,_,_,_,_,_,_,_,_,_,_,_,_,_,_,_,_,_,_,_,_,_,_,_,_,_,_,_,_,_,_,_,_,_,_,_,_,_,_,_,_,_,_,_,_,_,_,rfl,f,by omega,D,b⟩
       ·have a:=ah (nP m n d z (sR q.nf.up.pairwise g (by omega)));go_wp2_with fail;simp only[Exit.jump]
        try rw[dM]
        go_ret2;rw[a.out];exact⟨rfl,b⟩
      ·have a:=ah (nP m n d z (fun k s T hs=>by have:=(cA.1 hs).1;omega));go_wp2_with fail;simp only[Exit.jump]
       try rw[dM]
       go_ret2;rw[a.out];exact⟨rfl,b⟩
 ·rintro a' w' ⟨t,i,u8,u9,u12,uT,u14,u15,uP,u17,qM,qF,uO,u21,u22,u23,uN,u25,u26,u27,uJ,qD,qL,u31,u32,qE,u34,u35,qK,u37,qG,u39,uV,u41,qB,u43,uX,u45,uR,uG,u48,qA,uS,uY,uW,u53,u54,u55,uZ,u57,uI,u59,uQ,qH,uM,uK,u64,u65,u66,u67,qC,qI,uH,u71,u72,u73,u74,u75,uU,u77,u78,u79,rfl,l,hi,uL,b⟩;have J:0<=t:=by have:=l.le;omega
  have u:=ah l;clear l;by_cases M:1000000-long<t
  ·have a:=ah (vy m n u M);go_wp2_with fail;simp only[Exit.jump]
   try rw[dM]
   go_ret2;rw[a.out];exact⟨rfl,b⟩
  ·have z:t<=1000000-long:=by omega
   go_wp2_with fail
   go_loop [10,11] (fun y x=>∃j:Nat,i<=j/\j<=p.length/\y=.int .i64 t/\x=.int .i64 j/\pU p (max f0 0) long ag t j) (fun _ x=>p.length-(intOf x).toNat)
   case atStart=>exact⟨i,cB _,hi,rfl,rfl,u⟩
   case round=>
    obtain⟨j,X,S,rfl,rfl,l⟩:=hrel;have d:=ah l;clear l;by_cases I:j<p.length
    ·obtain⟨P,off,s,rfl,Y,hs,Q,R⟩:=cp.two (E.ae b) I;have g:=ah hs;clear hs;by_cases B:s.1<t+long
     ·by_cases G:ag<=s.2
      ·have f:=ah (ln d g (.inl G));go_wp2_with fail
       go_round
       case rel=>exact⟨j+1,by omega,by omega,rfl,by go_num,f⟩
       case measure=>simp[intOf];omega
      ·by_cases C:j+1=p.length
       ·have F:(((j:Int)+1)==(p.length:Int))=true:=by rw[iC];omega
        have a:=ah (vx m n d g B (by omega) (dP (by omega)));clear C;go_wp2_with fail;simp only[Exit.jump]
        try rw[dM]
        go_ret2;rw[a.out];exact⟨rfl,b⟩
       ·have F:(((j:Int)+1)==(p.length:Int))=false:=by rw[dQ];omega
        obtain⟨W,V,r,e,_,o,Z,yY⟩:=cp.two (E.ae b) (show j+1<p.length by omega);injection e with e;injection e with e1 e2;subst e1 e2;have yZ:((j:Int)+1).toNat=j+1:=by omega
        have U:(j:Int)+1<(p.length:Int):=by omega
        have v:=ah o;have D:=q.le r (cG o);unfold End at D;clear o C;by_cases H:r.1<=t
        ·have f:=ah (ln d g (.inr ⟨r,v,H⟩));go_wp2_with fail
         go_round
         case rel=>exact⟨j+1,by omega,by omega,rfl,by go_num,f⟩
         case measure=>simp[intOf];omega
        ·have f:=ah (vz q.nf.up d J O g B (by omega) v (by omega));go_wp2;go_step3;exact⟨rfl,⟨r.1,j+1,_,_,_,_,_,_,_,_,_,_,_,_,_,_,_,_,_,_,_,_,_,_,_,_,_,_,_,_,_,_,_,_,_,_,_,_,_,_,_,_,_,_,_,_,_,_,_,_,_,_,_,_,_,_,_,_,_,_,_,_,_,_,_,_,_,_,_,_,_,_,rfl,f,by omega,D,b⟩,by simp[EM,intOf];omega⟩
     ·have a:=ah (nP m n d z (sR q.nf.up.pairwise g (by omega)));go_wp2_with fail;simp only[Exit.jump]
      try rw[dM]
      go_ret2;rw[a.out];exact⟨rfl,b⟩
    ·have a:=ah (nP m n d z (fun k s T hs=>by have:=(cA.1 hs).1;omega));go_wp2_with fail;simp only[Exit.jump]
     try rw[dM]
     go_ret2;rw[a.out];exact⟨rfl,b⟩
theorem N9(A:OA)(n c:Nat)(p:List bC)(f0 long ag:Int)(w:Wd)(h:Steps w A n p)(hn:n<=maxLen):
 Cs prog 385 #[.slice A n c,f0,long,ag] w (DK (uv p f0 long ag) w):=by
 have f:=h.cb;subst f;have a:=ah (eU A p.length c p w h hn);cases hck:gW p
 ·rw[dh hck]at a;have b:=ah (Jf (f0:=f0) (long:=long) (ag:=ag) (.inl hck));clear hck h;go_in;go_wp2;go_step3;go_wp2_with fail;refine a.out.mono ?_;rintro e g ⟨rfl,b1⟩;go_wp2_with fail;rw[dM];go_ret2;rw[b.out];exact⟨rfl,b1⟩
 ·have d:=ts long ag;cases hak:pV long ag
  ·rw[ec hck]at a;rw[hak]at d;have i:=ah d;have b:=ah (Jf (p:=p) (f0:=f0) (.inr hak));clear hck h hak d;go_in;go_wp2;go_step3;go_wp2_with fail;refine a.out.mono ?_;rintro e g ⟨rfl,b1⟩;go_wp2_with fail;refine(i _).mono ?_;rintro e j ⟨rfl,rfl⟩;go_wp2_with fail;rw[dM];go_ret2;rw[b.out];exact⟨rfl,b1⟩
  ·exact KV A c p f0 long ag w h hck hak
def eq(p:List bC)(fr latest b:Int)(a:bC):Int×Bool:=
 if pV a.2 a.1=true/\b<=1000000-a.2 then((uv p fr (a.2+b) a.1).getD 0,(uv p fr (a.2+b) a.1).isSome&&decide ((uv p fr (a.2+b) a.1).getD 0<=latest))else(0,false)
structure F9(w:Wd)(bg bp bf bl:Nat)(A:OA)(n c:Nat)(fr latest grace:Int):Prop where
 g:ai w bg 3 #[grace]
 p:ai w bp 327 #[.slice A n c]
 f:ai w bf 3 #[fr]
 l:ai w bl 3 #[latest]
theorem F9.ae{w w':Wd}{d e b bl:Nat}{A:OA}{n c:Nat}{fr latest i:Int}(h:F9 w d e b bl A n c fr latest i)(a:Bl w w w'):F9 w' d e b bl A n c fr latest i:=
 ⟨h.g.ae a h.g.lt,h.p.ae a h.p.lt,h.f.ae a h.f.lt,h.l.ae a h.l.lt⟩
def Ret2(v:Int)(b:Bool)(w:Wd)(e:Ed)(w':Wd):Prop:=e=.returned (.tuple #[v,b])/\Bl w w w'
theorem Kg(t u s bl:Nat)(A:OA)(n c:Nat)(p:List bC)(fr latest b:Int)(a:bC)(w:Wd)(h:Steps w A n p)(hn:n<=maxLen)(B:F9 w t u s bl A n c fr latest b)(M:0<=b):
 Cs prog 383 #[.agg #[a.1,a.2],.pointer t,.pointer u,.pointer s,.pointer bl] w (Ret2 (eq p fr latest b a).1 (eq p fr latest b a).2 w):=by
 obtain⟨V,m⟩:=nm (w.alloc (.cells #[a.1,a.2] 139));have j:Bl w w V:=by rw[m];exact aA
 have C:ai V w 139 #[a.1,a.2]:=by rw[m];exact ai.new _ _ _
 have k:=B.ae j;have F:=ah (h.ae j);have r:=ah m;have i:=ts a.2 a.1;have K:V.cell? w=some (a.1:Vl):=C.cell 0;have L:V.cell? ⟨w,1,none⟩=some (a.2:Vl):=C.cell 1;have H:V.cell? t=some (b:Vl):=k.g.cell 0;have p0:V.cell? u=some (.slice A n c):=k.p.cell 0;have f0:V.cell? s=some (fr:Vl):=k.f.cell 0;have I:V.cell? bl=some (latest:Vl):=k.l.cell 0;clear h B m;cases hak:pV a.2 a.1
 ·rw[hak]at i;have q:=ah i;have d:Hid (eq p fr latest b a=(0,false)):=by show _=_;rw[eq,cL (by simp[hak])]
  clear i hak;go_in;go_wp2_with fail;rw[<-r.out];refine(q _).mono ?_;rintro e D ⟨rfl,rfl⟩;go_wp2;go_ret2;rw[d.out];exact⟨rfl,j⟩
 ·rw[hak]at i;have q:=ah i;obtain⟨O,P,Q,R⟩:=kH.1 hak;by_cases z:b<=1000000-a.2
  ·obtain⟨o,x⟩:=nm (uv p fr (a.2+b) a.1);have G:=ah x;have d:Hid (eq p fr latest b a=(o.getD 0,o.isSome&&decide (o.getD 0<=latest))):=by show _=_;rw[eq,cK ⟨hak,z⟩,x]
   obtain⟨v,y⟩:=nm (o.getD 0);have E:Hid (Tb o=.tuple #[v,o.isSome]):=by rw[y];rfl
   rw[<-y]at d;clear i hak x y;cases hs:o.isSome
   iterate 2
    ·rw[hs]at d E;clear hs;go_in;go_wp2_with fail;rw[<-r.out];refine(q _).mono ?_;rintro e D ⟨rfl,rfl⟩;go_wp2_with fail;refine(N9 A n c p fr (a.2+b) a.1 V F hn).mono ?_;rw[<-G.out];rintro e J ⟨rfl,b2⟩;rw[E.out];have N:J.cell? bl=some (latest:Vl):=(k.ae b2).l.cell 0;clear K L H p0 f0 I;go_wp2_with fail;go_quiet (fail);go_wp2;go_ret2;rw[d.out];exact⟨rfl,below_drewN (aa j b2) _⟩
  ·have d:Hid (eq p fr latest b a=(0,false)):=by show _=_;rw[eq,cL (fun h=>z h.2)]
   have S:1000000-a.2<b:=by omega
   clear i hak z;go_in;go_wp2_with fail;rw[<-r.out];refine(q _).mono ?_;rintro e D ⟨rfl,rfl⟩;go_wp2;go_ret2;rw[d.out];exact⟨rfl,j⟩
theorem Nm(w:Wd)(A:OA)(n c:Nat)(fr latest a:Int):F9 ((((w.alloc (.cells #[.slice A n c] 327)).alloc (.cells #[fr] 3)).alloc (.cells #[latest] 3)).alloc (.cells #[a] 3)) (w+1+1+1) w (w+1) (w+1+1) A n c fr latest a:=by
 refine⟨?_,(((ai.new w _ _).alloc _).alloc _).alloc _,?_,?_⟩
 ·have:=ai.new (((w.alloc (.cells #[.slice A n c] 327)).alloc (.cells #[fr] 3)).alloc (.cells #[latest] 3)) 3 #[a];simpa using this
 ·have:=((ai.new (w.alloc (.cells #[.slice A n c] 327)) 3 #[fr]).alloc (.cells #[latest] 3)).alloc (.cells #[a] 3);simpa using this
 ·have:=(ai.new ((w.alloc (.cells #[.slice A n c] 327)).alloc (.cells #[fr] 3)) 3 #[latest]).alloc (.cells #[a] 3);simpa using this
structure Bst where
 ch:Nat
 st:Int
 fd:Bool
def Dc(a:List bC)(k:Nat):Int:=(a.getD k (0,0)).2
def tt(b:bC->Int×Bool)(a:List bC)(s:Bst)(k:Nat):Bst:=
 if(b (a.getD k (0,0))).2=true/\(s.fd=false\/(b (a.getD k (0,0))).1+Dc a k<s.st+Dc a s.ch)then⟨k,(b (a.getD k (0,0))).1,true⟩else s
def jD(a:bC->Int×Bool)(b:List bC)(n:Nat):Bst:=(List.range n).foldl (tt a b) ⟨0,0,false⟩
theorem xB(a:bC->Int×Bool)(b:List bC)(n:Nat):jD a b (n+1)=tt a b (jD a b n) n:=by simp[jD,List.range_succ,lP]
theorem BU{p:List bC}{fr latest b:Int}{a:bC}(k:0<=b)(h:(eq p fr latest b a).2=true):0<=(eq p fr latest b a).1/\(eq p fr latest b a).1<=1000000/\1<=a.2/\a.2<=1000000:=by
 unfold eq at h⊢;split at h
 ·rename_i d;rw[cK d];obtain⟨_,_,f,g⟩:=kH.1 d.1;simp only[cH]at h;have c:=tC p fr (a.2+b) a.1
  cases ho:uv p fr (a.2+b) a.1 with
  |none=>rw[ho]at h;simp at h
  |some x=>
   rw[ho]at c;obtain⟨h1,h2,_⟩:=c;obtain⟨j,i⟩:=tF h2;obtain⟨e,g1,_⟩:=(kf j i).1 h2;exact⟨e,by show x<=1000000;omega,f,g⟩
 ·cases h
theorem No{p:List bC}{fr latest b:Int}(f:0<=b)(a:List bC)(n:Nat)(hn:n<=a.length):(jD (eq p fr latest b) a n).fd=true->(jD (eq p fr latest b) a n).ch<n/\0<=(jD (eq p fr latest b) a n).st/\(jD (eq p fr latest b) a n).st<=1000000/\1<=Dc a (jD (eq p fr latest b) a n).ch/\Dc a (jD (eq p fr latest b) a n).ch<=1000000:=by
 induction n with
 |zero=>intro h;simp[jD]at h
 |succ n ih=>
  rw[xB];generalize hs:jD (eq p fr latest b) a n=s at*;intro h;unfold tt at h⊢;split
  ·rename_i c;obtain⟨h1,h2,d,e⟩:=BU f c.1;exact⟨by show n<n+1;omega,h1,h2,d,e⟩
  ·rename_i c;rw[cL c]at h;obtain⟨h1,h2⟩:=ih (by omega) h;exact⟨by omega,h2⟩
def Qm(w:Wd)(e f d bl:Nat)(A:OA)(n c:Nat)(p:List bC)(fr latest a:Int)(b:List bC)(x y z k:Vl)(wr:Wd):Prop:=
 ∃j:Nat,j<=b.length/\k=.int .i64 j/\x=.int .i64 (jD (eq p fr latest a) b j).ch/\y=.int .i64 (jD (eq p fr latest a) b j).st/\z=.bool (jD (eq p fr latest a) b j).fd/\
  F9 wr e f d bl A n c fr latest a/\Bl w w wr
def DG(s:Bst)(w:Wd)(e:Ed)(w':Wd):Prop:=e=.returned (.tuple #[s.ch,s.st,s.fd])/\Bl w w w'
theorem Gx(A:OA)(n c:Nat)(p:List bC)(B:OA)(d:Nat)(f:List bC)(fr latest:Int)(w:Wd)(h:Steps w A n p)(hn:n<=maxLen)(g:Steps w B f.length f)(hm:f.length<=48):
 Cs prog 294 #[.slice A n c,.slice B f.length d,fr,latest,(12:Int)] w (DG (jD (eq p fr latest 12) f f.length) w):=by
 have T:=ah h;have I:=ah g;clear h g;have E:(0:Int)<=12:=by omega
 go_in;go_wp2;go_step3;go_wp2_with fail;obtain⟨V,t⟩:=nm ((((w.alloc (.cells #[.slice A n c] 327)).alloc (.cells #[fr] 3)).alloc (.cells #[latest] 3)).alloc (.cells #[(12:Int)] 3));have J:Bl w w V:=t▸((aC).alloc (by simp;omega) _).alloc (by simp;omega) _;have m:F9 V (w+1+1+1) w (w+1) (w+1+1) A n c fr latest 12:=t▸Nm w A n c fr latest 12;rw[<-t];clear t;go_step3;go_wp2
 go_loopw [14,15,16,31] (fun x y z k wr=>Qm w (w+1+1+1) w (w+1) (w+1+1) A n c p fr latest 12 f x y z k wr) (fun _ _ _ k _=>f.length-(intOf k).toNat)
 case atStart=>exact⟨0,by omega,rfl,rfl,rfl,rfl,m,J⟩
 case round=>
  clear m J;obtain⟨j,hj,rfl,rfl,rfl,rfl,m,l⟩:=hrel;have G:=No (p:=p) (fr:=fr) (latest:=latest) E f j hj;have D:=xB (eq p fr latest 12) f j;obtain⟨s,hs⟩:=nm (jD (eq p fr latest 12) f j);rw[<-hs]at G D;rw[<-hs];have U:=ah hs;have yU:=ah G;have S:=ah D;clear hs G D;by_cases yT:j<f.length
  ·obtain⟨ab,off,a,rfl,yW,K,X,Y⟩:=cp.two (I.ae l) yT;have H:Hid (f.getD j (0,0)=a):=by show _=_;simp[List.getD,K]
   have W:Hid (Dc f j=a.2):=by show _=_;rw[Dc,H.out]
   have i:Hid (jD (eq p fr latest 12) f (j+1)=if((eq p fr latest 12) a).2=true/\(s.fd=false\/((eq p fr latest 12) a).1+a.2<s.st+Dc f s.ch)then⟨j,((eq p fr latest 12) a).1,true⟩else s):=by show _=_;rw[S.out,tt,H.out,W.out]
   obtain⟨r,L⟩:=nm ((eq p fr latest 12) a);have q:=ah (Kg _ _ _ _ A n c p fr latest 12 a (wr.alloc (.cells #[a.1,a.2] 139)) (T.ae (l.alloc l.size _)) hn (m.ae (aA)) E);have F:=fun h=>BU (p:=p) (fr:=fr) (latest:=latest) (a:=a) E h;rw[<-L]at q i F;have R:=ah F;have C:=ai.new wr 139 #[a.1,a.2];have P:=l.alloc l.size (.cells #[a.1,a.2] 139);have O:=m.ae (bR.alloc lr (.cells #[a.1,a.2] 139));clear L K F S;obtain⟨v,b⟩:=r;simp only at q i R;go_wp2_with fail;refine av q fun w2 b2=> ?_;have o:=aa P b2;have u:=O.ae b2;have Q:=C.ae b2 C.lt;have y1:w2.cell? ⟨wr,1,none⟩=some (a.2:Vl):=Q.cell 1;clear X Y m O l P b2 C Q q;cases b
   ·rw[cL (by simp)]at i;go_wp2_with fail;go_quiet (fail);go_wp2_with fail;exact⟨⟨j+1,by omega,by go_num,by rw[i.out],by rw[i.out],by rw[i.out],u.ae (below_drewN bR _),below_drewN o _⟩,by simp[intOf];omega⟩
   ·obtain⟨h1,h2,h3,h4⟩:=R rfl;obtain⟨ch,st,Z⟩:=s;cases Z
    ·rw[cK ⟨rfl,.inl rfl⟩]at i;go_wp2_with fail;go_quiet (fail);go_wp2_with fail;exact⟨⟨j+1,by omega,by go_num,by rw[i.out],by rw[i.out],by rw[i.out],u.ae (below_drewN bR _),below_drewN o _⟩,by simp[intOf];omega⟩
    ·obtain⟨k1,k2,k3,M,N⟩:=yU rfl;simp only at k1 k2 k3 M N;obtain⟨yV,yR,x,e,_,hx,e0,e1⟩:=cp.two (I.ae o) (show ch<f.length by omega);injection e with e;injection e with e1' e2';subst e1' e2';have yQ:Hid (Dc f ch=x.2):=by show _=_;simp[Dc,List.getD,hx]
     rw[yQ.out]at M N i;have yX:(ch:Int)<(f.length:Int):=by omega
     clear hx;by_cases yJ:v+a.2<st+x.2
     ·have yS:=dF (st+x.2<=v+a.2) (by omega);rw[cK ⟨rfl,.inr yJ⟩]at i;go_wp2_with fail;go_quiet (fail);go_wp2_with fail;exact⟨⟨j+1,by omega,by go_num,by rw[i.out],by rw[i.out],by rw[i.out],u.ae (below_drewN bR _),below_drewN o _⟩,by simp[intOf];omega⟩
     ·have yS:=dT (st+x.2<=v+a.2) (by omega);rw[cL (by simp;omega)]at i;go_wp2_with fail;go_quiet (fail);go_wp2_with fail;exact⟨⟨j+1,by omega,by go_num,by rw[i.out],by rw[i.out],by rw[i.out],u.ae (below_drewN bR _),below_drewN o _⟩,by simp[intOf];omega⟩
  ·obtain rfl:j=f.length:=by omega
   go_wp2_with fail
   try rw[dM]
   go_ret3;rw[<-U.out];exact⟨rfl,l⟩
def tu(p:List bC)(fr latest b:Int)(a:List bC):Bst:=jD (eq p fr latest (max b 0)) (a.take 48) (min a.length 48)
theorem xC(A:OA)(n c:Nat)(p:List bC)(B:OA)(m d:Nat)(b:List bC)(fr latest:Int)(w:Wd)(h:Steps w A n p)(hn:n<=maxLen)(g:Steps w B m b)(a:m<=48)(f:m<=d):
 Cs prog 294 #[.slice A n c,.slice B m d,fr,latest,(12:Int)] w (DG (tu p fr latest 12 b) w):=by
 have e:=g.cb;subst e;have:=Gx A n c p B d b fr latest w h hn g a;rw[tu,fG a,nQ a];exact this
end Go.Proofs.YthfhilggbbobmaaGreatDoor
