/- Parts of the proof. -/
import Derived.Test.YthfhilggbbobmaaGreatDoorK39
set_option linter.all false
set_option maxHeartbeats 20000000
namespace Go.Proofs.YthfhilggbbobmaaGreatDoor
set_option maxRecDepth 100000
open Go.Proofs.Tryz
open Go renaming World->Wd,Value->Vl,Ending->Ed,Calls->Cs
open Go.RowKit renaming Below->Bl
open Go.RowKit
def Qp(s:St)(w:Wd)(e:Ed)(w':Wd):Prop:=∃(z:Sr) (T:Vl),e=.returned (.tuple #[.agg (aY z),T,()])/\Bl w w w'/\(∃n,pS s z.s n)/\gV w w' z
theorem Oe(z:Sr)(w:Wd)(h:db w z)(g:bt z.s)(hn:z.s.am<1000000):Cs prog 8 #[.agg (aY z),.agg sn] w (Qp z.s w):=
 (vt z w h g hn).mono fun e w' ⟨y,T,i,n,h1,h2,a,c,d,f,b⟩=>⟨y,_,h1,b,⟨n,a⟩,h2⟩
theorem FQ(x:Sr)(w:Wd)(h:xr w x):Cs prog 3 #[.agg (aY x)] w (an (.bool true) w):=by
 obtain⟨V,D⟩:∃V,V=w.alloc (.cells (aY x) 28):=⟨_,rfl⟩;have C:Bl w.heap.size w V:=by rw[D];exact aA
 have M:ai V w.heap.size 28 (aY x):=by rw[D];exact ai.new _ _ _
 have S:=ah (h.cf V C);have qB:=ah fun(u:xV x=true) (W:Wd) (d:Bl V.heap.size V W)=>qP x W (((h.mE u).ae C).ae d) h.rjb;have uL:=ah fun(u:xV x=true)=>(h.mE u).ae C;have HW:=ah h.kk;have Q:=ah C;have U:=ah M;clear h C M;go_enter func3,ntmps3;go_wp2_with(first|(rw[<-D];clear D)|refine cr rfl _ _ rfl U.out rfl underlying28 rfl aT rfl ?_);cases u:xV x
 ·rw[u]at S;refine S.out.mono ?_;rintro e B ⟨rfl,b1⟩;have yR:=ah (aa Q.out b1);clear b1;go_wp2_with fail;refine(eV B).mono ?_;rintro e f ⟨rfl,b2⟩;go_wp2_with fail;go_ret;exact⟨rfl,aa yR.out b2⟩
 ·rw[u]at S;refine S.out.mono ?_;rintro e B ⟨rfl,b1⟩;have yR:=ah b1;have uH:=U.out.ae b1 U.out.lt;have uX:Hid (B.rangeAt w.heap.size 0 (aY x).toList):=fun j v hj=>by rw[cR,uH.cell j,<-iS];exact hj
  have yN:=ah (qB.out u B b1);have HI:=ah (uL.out u);clear b1 uH;go_wp2_with(go_guarded;refine me _ _ rfl rfl uX.out underlying28 rfl aT rfl ?_);cases F:Ks x.s
  ·have e1:mA x.s=141:=by simp[mA,F]
   rw[e1]at yN;refine yN.out.mono ?_;rintro e f ⟨rfl,b2⟩;have K:=ah (aa (aa Q.out yR.out) b2);clear b2;go_wp2_with fail;refine(eV f).mono ?_;rintro e w3 ⟨rfl,b3⟩;go_wp2_with fail;go_ret;exact⟨rfl,aa K.out b3⟩
  ·have e1:mA x.s=0:=by simp[mA,F]
   rw[e1]at yN;refine yN.out.mono ?_;rintro e f ⟨rfl,b2⟩;have K:=ah (aa yR.out b2);clear b2;have yX:=U.out.ae K.out U.out.lt;have n0:=yX.cell 0;simp at n0;by_cases k1:999950<x.s.am
   ·go_wp2_with fail;refine(eV f).mono ?_;rintro e w3 ⟨rfl,b3⟩;go_wp2_with fail;go_ret;exact⟨rfl,aa (aa Q.out K.out) b3⟩
   ·replace k1:=oW k1;go_wp2_with fail;have O:=ah (HI.out.ae K.out);have o:=ah yX;have qI:=O.out.BP.cf;clear n0 yX
    go_loopw [3] (fun X W=>∃q:Nat,q<=x.N.n/\X=.int .i64 (q:Int)/\(∀y∈x.s.ag.take q,y.ep<999999979)/\Bl f.heap.size f W) (fun X _=>x.N.n-(intOf X).toNat)
    case atStart=>exact⟨0,by omega,rfl,by simp,cC _ _⟩
    case round=>
     obtain⟨q,hq,rfl,yD,k⟩:=hrel;have yK:=ah yD;clear yD;by_cases L:q<x.N.n
     ·obtain⟨b,off,y,hA,yI,H,-,-,c2,-,-,c5,-⟩:=cp.seven O.out.ag L;have HY:=ah H;have f2:∀W,Bl f.heap.size f W->W.cell? ⟨b,off+q*7+2,none⟩=some (y.ep:Vl):=fun W d=>(dI (a:=⟨b,off+q*7+2,none⟩) (d.block b yI)).trans c2;have f5:∀W,Bl f.heap.size f W->W.cell? ⟨b,off+q*7+5,none⟩=some (y.si:Vl):=fun W d=>(dI (a:=⟨b,off+q*7+5,none⟩) (d.block b yI)).trans c5;have f0:∀W,Bl f.heap.size f W->W.cell? ⟨w.heap.size,0,none⟩=some (x.s.am:Vl):=fun W d=>(o.out.ae d o.out.lt).cell 0
      have f1:∀W,Bl f.heap.size f W->W.cell? ⟨w.heap.size,1,none⟩=some (.slice (some ⟨b,off,none⟩) x.N.n x.N.c):=fun W d=>by
       rw[(o.out.ae d o.out.lt).cell 1,<-hA];rfl
      have I:=f1 _ k;clear hA H c2 c5;obtain⟨p,hp⟩:∃p,decide ((999999979:Int)<=y.ep)=p:=⟨_,rfl⟩;obtain⟨g,hg⟩:∃g,decide (x.s.am<y.si)=g:=⟨_,rfl⟩;have E:=ah hp;have G:=ah hg;clear hp hg;have h3:p=true\/(p=false/\g=true)\/(p=false/\g=false):=by cases p<;>cases g<;>simp
      rcases h3 with rfl|⟨rfl,rfl⟩|⟨rfl,rfl⟩
      all_goals
       go_wp2_with fail;refine aw (fun W=>Bl f.heap.size f W) (by kernel_rfl) (by kernel_rfl) k.drew ?_
       repeat(first
        |(refine bF ?_ ?_
          ·rfl
          simp only[Act.put,aE,aF,aG])
        |(refine cw ?_ ?_
          ·rfl
          apply Exists.intro;refine⟨fun W d=> ?_,?_⟩
          ·simp[go_sem,f0 W d,f1 W d,f2 W d,f5 W d,E.out,G.out,L]
           try rfl
          simp only[Act.put,aE,aF,aG]))
       refine bM ?_;intro W d;have yJ:=ah d;clear d f0 f1 f2 f5;go_wp2_with fail
      rotate_left 2
      ·have e:¬999999979<=y.ep:=by simpa using E.out
       exact⟨⟨q+1,by omega,by go_num,eP (P:=fun y=>y.ep<999999979) yK.out HY.out (by omega),yJ.out⟩,by simp[intOf];omega⟩
      all_goals
       refine(eV W).mono ?_;rintro e w3 ⟨rfl,b3⟩;go_wp2_with fail;go_ret;exact⟨rfl,aa (aa Q.out (aa K.out yJ.out)) b3⟩
     ·obtain rfl:q=x.N.n:=by omega
      have uZ:Hid (∀y∈x.s.ag,y.ep<999999979):=by
       have h1:=yK.out;rw[<-O.out.ag.cb,cT]at h1;exact h1
      have uU:=ah k;have qH:=O.out.Mr.cf;have I:=(o.out.ae k o.out.lt).cell 1;simp at I;clear k;go_wp2_with fail;clear I
      go_loopw [4] (fun X W=>∃q:Nat,q<=x.R.n/\X=.int .i64 (q:Int)/\(∀y∈x.s.bx.take q,y.si<=x.s.am)/\Bl f.heap.size f W) (fun X _=>x.R.n-(intOf X).toNat)
      case atStart=>exact⟨0,by omega,rfl,by simp,uU.out⟩
      case round=>
       obtain⟨q,hq,rfl,yD,k⟩:=hrel;have yF:=ah yD;clear yD;by_cases L:q<x.R.n
       ·obtain⟨b,off,y,hA,yI,H,-,-,-,-,c4⟩:=BZ O.out.bx L;have HY:=ah H;have f4:∀W,Bl f.heap.size f W->W.cell? ⟨b,off+q*5+4,none⟩=some (y.si:Vl):=fun W d=>(dI (a:=⟨b,off+q*5+4,none⟩) (d.block b yI)).trans c4;have f0:∀W,Bl f.heap.size f W->W.cell? ⟨w.heap.size,0,none⟩=some (x.s.am:Vl):=fun W d=>(o.out.ae d o.out.lt).cell 0
        have f3:∀W,Bl f.heap.size f W->W.cell? ⟨w.heap.size,3,none⟩=some (.slice (some ⟨b,off,none⟩) x.R.n x.R.c):=fun W d=>by
         rw[(o.out.ae d o.out.lt).cell 3,<-hA];rfl
        have j3:=f3 _ k;clear hA H c4;obtain⟨g,hg⟩:∃g,decide (x.s.am<y.si)=g:=⟨_,rfl⟩;have G:=ah hg;clear hg;cases g
        all_goals
         go_wp2_with fail;refine aw (fun W=>Bl f.heap.size f W) (by kernel_rfl) (by kernel_rfl) k.drew ?_
         repeat(refine cw ?_ ?_
                ·rfl
                apply Exists.intro;refine⟨fun W d=> ?_,?_⟩
                ·simp[go_sem,f0 W d,f3 W d,f4 W d,G.out,L]
                 try rfl
                simp only[Act.put,aE,aF,aG])
         refine bM ?_;intro W d;have yJ:=ah d;clear d f0 f3 f4;go_wp2_with fail
        ·have e:¬x.s.am<y.si:=by simpa using G.out
         exact⟨⟨q+1,by omega,by go_num,eP (P:=fun y=>y.si<=x.s.am) yF.out HY.out (by omega),yJ.out⟩,by simp[intOf];omega⟩
        ·refine(eV W).mono ?_;rintro e w3 ⟨rfl,b3⟩;go_wp2_with fail;go_ret;exact⟨rfl,aa (aa Q.out (aa K.out yJ.out)) b3⟩
       ·obtain rfl:q=x.R.n:=by omega
        have uO:Hid (∀y∈x.s.bx,y.si<=x.s.am):=by
         have h1:=yF.out;rw[<-O.out.bx.cb,cT]at h1;exact h1
        have yY:Hid (bt x.s):=(mX HI.out.wide).1 F;have uV:=ah (O.out.ae k);have qA:=ah (o.out.ae k o.out.lt);have uY:=ah (aa Q.out (aa K.out k));have uN:x.s.am<=999950:=by have:¬999950<x.s.am:=of_eq_false k1;omega
        have j3:=(o.out.ae k o.out.lt).cell 3;simp at j3;clear F u e1 k;go_wp2_with fail;clear j3
        go_loopw [5] (fun X wr=>∃(i:Nat) (z:Sr),X=.int .i64 (i:Int)/\i<=13/\xt i x.s z.s/\db wr z/\ai wr w.heap.size 28 (aY z)/\Bl w.heap.size w wr) (fun X _=>13-(intOf X).toNat)
        case atStart=>exact⟨0,x,rfl,by omega,.nil _,uV.out,qA.out,uY.out⟩
        case round=>
         obtain⟨i,z,rfl,qE,yQ,uC,yV,uG⟩:=hrel
         rename Wd=>wr
         have uI:=ah yQ;have yL:Hid (bt z.s):=(vv yQ yY.out).1;have yZ:z.s.am=x.s.am+i:=(vv yQ yY.out).2.1;have yM:=ah uC;have m:=ah yV;have uA:=ah uG;have uJ:=yV.lt;clear yQ uC yV uG;by_cases qF:i<13
         ·go_upto_region 16 with fail
          go_cut [6,8] (fun Z Er W=>∃(J:Nat) (l:Sr),Z=.pointer (some ⟨J,0,none⟩)/\Er=.int .i64 0/\ai W J 28 (aY l)/\Bl wr.heap.size wr W/\wr.heap.size<=J/\(∃n,pS z.s l.s n)/\gV wr.heap.size W l)
          case first=>
           have uS:=ah fun(W:Wd) (d:Bl wr.heap.size wr W)=>Oe z W (yM.out.ae d) yL.out (by omega);have k0:Bl wr.heap.size wr wr.drew:=bR.drew;refine bW (fun W=>Bl wr.heap.size wr W) (fun _=>True) #[] [1,2,7,8] 10 [0,1,2,3,4,5,6,7,8,9,10] (by kernel_rfl) (by kernel_rfl) k0 trivial ?_;refine jE rfl (some 74) rfl rfl rfl (fun _ _ _ _ h=>h) _ _ rfl (fun W d _=>m.out.ae d m.out.lt) rfl underlying28 rfl aT rfl ?_;refine mP 10 rfl ?_;obtain⟨W,yW⟩:∃W,W=wr.drew:=⟨_,rfl⟩;have bl:Bl wr.heap.size wr W:=by rw[yW];exact k0
           rw[<-yW];clear yW k0
           iterate 3
            all_goals
             refine qY [1,2,7] (by kernel_rfl) ?_;intro q hq F;simp only[dK,lF,oV]at hq;rcases hq with rfl|rfl|rfl
            all_goals first
             |(refine C7 F ?_;decide+kernel)
             |(clear F
               rename Wd=>U1
               refine ea 9 #[] (some 75) rfl rfl (a8 rfl _) (by go_simp) ?_;refine(qS U1).mono ?_;rintro e W ⟨rfl,t⟩
               try replace r:=r.ae t r.lt
               replace bl:=aa bl t;refine⟨_,rfl,bl,?_⟩;clear t)
             |(clear F
               rename Wd=>U1
               obtain⟨J,Y⟩:∃J,J=U1.heap.size:=⟨_,rfl⟩;refine eS (.pointer (some ⟨J,0,none⟩)) (U1.alloc (.cells dz 28)) (some 6) rfl rfl (a8 rfl _) (by rw[Y];go_simp) fun W d=> ?_;have t:Bl U1.heap.size U1 W:=by rw[d];exact aA
               have r:ai W J 28 dz:=by rw[d,Y];exact ai.new _ _ _
               have z6:wr.heap.size<=J:=by rw[Y];exact bl.size
               try have iq:gV wr.heap.size (W.setRow J (aY l)) l:=c.ae (aH t (by omega) _)
               replace bl:=aa bl t;refine⟨bl,?_⟩;clear d t Y)
             |(clear F
               rename Wd=>U1
               refine ea 8 #[.agg (aY z),.agg sn] (some 76) rfl rfl (a8 rfl _) (by go_simp) ?_;refine(uS.out U1 bl).mono ?_;rintro e W ⟨l,T,rfl,t,qD,c0⟩;have yT:=bl.size;have c:gV wr.heap.size W l:=c0.mono yT
               try have zl:=r.lt
               try replace r:=r.ae t r.lt
               try have iq:gV wr.heap.size (W.setRow J (aY l)) l:=(c0.on (aU.row _ _) zl).mono yT
               replace bl:=aa bl t;refine⟨_,rfl,bl,?_⟩;clear t yT c0;refine cx (i:=3) (some 73) rfl rfl (by kernel_rfl) rfl (fun _ _ _ _ h=>h) bl ?_;apply Exists.intro;refine⟨fun W d=> ?_,?_⟩
               ·go_simp
                try rfl
               refine cx (i:=4) (some 77) rfl rfl (by kernel_rfl) rfl (fun _ _ _ _ h=>h) bl ?_;apply Exists.intro;refine⟨fun W d=> ?_,?_⟩
               ·go_simp
                try rfl
               refine cx (i:=5) (some 78) rfl rfl (by kernel_rfl) rfl (fun _ _ _ _ h=>h) bl ?_;apply Exists.intro;refine⟨fun W d=> ?_,?_⟩
               ·go_simp
                try rfl
               refine cx (i:=6) (some 79) rfl rfl (by kernel_rfl) rfl (fun _ _ _ _ h=>h) bl ?_;apply Exists.intro;refine⟨fun W d=> ?_,?_⟩
               ·go_simp
                try rfl)
           all_goals
            refine dg (i:=8) (by kernel_rfl) (cv 28 (.tmp 6) (.tmp 77) J (aY l) rfl rfl rfl (a8 rfl _) (by go_simp) (by go_simp;try rfl) r aT rfl rfl ?_);intro W4 yO;have uW:Hid (ai W4 J 28 (aY l)):=by show ai _ _ _ _;rw[yO];exact ai.row r _
            have b4:Bl wr.heap.size wr W4:=by rw[yO];exact aH bl z6 _
            have uM:Hid (gV wr.heap.size W4 l):=by show gV _ _ _;rw[yO];exact iq
            refine⟨b4,?_⟩;refine cx (i:=9) (some 7) rfl rfl (by kernel_rfl) rfl (fun _ _ _ _ h=>h) b4 ?_;apply Exists.intro;refine⟨fun W d=> ?_,?_⟩
            ·go_simp
             try rfl
            refine cx (i:=10) (some 8) rfl rfl (by kernel_rfl) rfl (fun _ _ _ _ h=>h) b4 ?_;apply Exists.intro;refine⟨fun W d=> ?_,?_⟩
            ·go_simp
             try rfl
            refine wpAnyH_done (by kernel_rfl) ?_ _;have uQ:=ah b4;clear bl r b4 yO iq c;simp only[Act.put,aE,aF,aG,cM,cJ,cI];go_wp2_with fail;go_meet;exact⟨J,l,rfl,rfl,uW.out,uQ.out,z6,qD,uM.out⟩
          case rest=>
           obtain⟨J,l,rfl,rfl,hF,hB,Y,⟨n,hx⟩,yU⟩:=hcut;have S:=ah hF;have qG:=ah hB;have uB:=ah (m.out.ae hB m.out.lt);have uK:=ah (xt.snoc uI.out (FM yL.out hx));have qK:=ah yU;obtain⟨X,hX⟩:∃X,X=wc.setRow w.heap.size (aY l):=⟨_,rfl⟩;have qC:Hid (ai X w.heap.size 28 (aY l)):=by show ai _ _ _ _;rw[hX];exact ai.row uB.out _
           have uT:Hid (db X l):=by
            show db _ _;rw[hX];exact(yU.on (aU.row _ _) uJ).am
           have uP:Hid (Bl w.heap.size w X):=by show Bl _ _ _;rw[hX];exact aH (aa uA.out hB) lr _
           clear hF hB hx yU yZ;go_wp2_with(first|(rw[<-hX];clear hX)|refine cr rfl _ _ rfl S.out rfl underlying28 rfl aT rfl ?_|refine dp rfl _ _ _ rfl uB.out rfl rfl aT rfl rfl rfl ?_);exact⟨⟨i+1,l,by go_num,by omega,uK.out,uT.out,qC.out,uP.out⟩,by simp[intOf];omega⟩
         ·have hi:i=13:=by omega
          have HL:=ah (Of yY.out (hi▸uI.out) uO.out uZ.out);clear hi;have I:=m.out.cell 1;simp at I;clear yZ;have qJ:z.N.n<=1000:=yM.out.BP.cf;go_wp2_with fail;clear I
          go_loopw [9] (fun X W=>∃q:Nat,q<=z.N.n/\X=.int .i64 (q:Int)/\Bl wr.heap.size wr W) (fun X _=>z.N.n-(intOf X).toNat)
          case atStart=>exact⟨0,by omega,rfl,cC _ _⟩
          case round=>
           obtain⟨q,hq,rfl,k⟩:=hrel
           rename Wd=>Wq
           have uD:=ah k;by_cases L:q<z.N.n
           ·obtain⟨b,off,y,hA,yI,H,d0,d1,d2,d3,d4,d5,d6⟩:=cp.seven (yM.out.ag.ae k) L
            have I:Wq.cell? ⟨w.heap.size,1,none⟩=some (.slice (some ⟨b,off,none⟩) z.N.n z.N.c):=by
             rw[(m.out.ae k m.out.lt).cell 1,<-hA];rfl
            have j0:Wq.cell? ⟨w.heap.size,0,none⟩=some (z.s.am:Vl):=(m.out.ae k m.out.lt).cell 0;obtain⟨yE,uE⟩:=HL.out.2 y (cG H);have HN:Hid (ai (Wq.alloc (.cells UZ 34)) Wq.heap.size 34 UZ):=ai.new _ _ _;obtain⟨V2,D⟩:∃V,V=(Wq.alloc (.cells UZ 34)).setRow Wq.heap.size (UY y):=⟨_,rfl⟩;have C:Bl Wq.heap.size Wq V2:=by rw[D];exact aD
            have M:ai V2 Wq.heap.size 34 (UY y):=by rw[D];exact ai.row HN.out _
            have uR:=ah C;have z0:=M.cell 0;have z4:=M.cell 4;have r:=M.cell 5;have k0:V2.cell? ⟨w.heap.size,0,none⟩=some (z.s.am:Vl):=(m.out.ae (aa k C) m.out.lt).cell 0;simp at z0 z4 r
            have uF:bZ y.si=true:=by
             have u:=eR yL.out.ag H;cases h:bZ y.si
             ·simp[fb,h]at u
             ·rfl
            have hw:wrap64 (z.s.am-y.si)=z.s.am-y.si:=by
             have h1:=ej.1 uF;have h2:=ej.1 yL.out.am;unfold wrap64;omega
            clear uF
            have yS:¬((y.wt=1\/y.wt=3\/y.wt=5)/\12<=z.s.am-y.si):=by
             intro⟨h1,h2⟩;simp[gA]at yE;omega
            replace uE:(y.st==2)=false:=by simpa using uE
            clear yE H hA M C k;have h4:(y.wt=1/\¬12<=z.s.am-y.si)\/(y.wt=3/\¬12<=z.s.am-y.si)\/(y.wt=5/\¬12<=z.s.am-y.si)\/(y.wt==1)=false/\(y.wt==3)=false/\(y.wt==5)=false:=by simp;omega
            clear yS;rcases h4 with⟨B,yP⟩|⟨B,yP⟩|⟨B,yP⟩|⟨B,w3,w5⟩
            all_goals
             try
              replace yP:=oW yP;simp only[B]at z4;clear B
             go_wp2_with(first|(rw[<-D];clear D;go_step)|refine dp rfl _ _ _ rfl HN.out rfl rfl Hm rfl rfl rfl ?_);exact⟨⟨q+1,by omega,by go_num,aa uD.out uR.out⟩,by simp[intOf];omega⟩
           ·obtain rfl:q=z.N.n:=by omega
            have hz:=yM.out.bx.cb;rw[HL.out.1]at hz;simp at hz
            have j3:Wq.cell? ⟨w.heap.size,3,none⟩=some (.slice z.R.A 0 z.R.c):=by
             rw[(m.out.ae k m.out.lt).cell 3,hz];rfl
            have I:Wq.cell? ⟨w.heap.size,1,none⟩=some (.slice z.N.A z.N.n z.N.c):=(m.out.ae k m.out.lt).cell 1;clear k hz;go_wp2_with fail;refine(eV Wq).mono ?_;rintro e w3 ⟨rfl,b3⟩;go_wp2_with fail;go_ret;exact⟨rfl,aa (aa uA.out uD.out) b3⟩
end Go.Proofs.YthfhilggbbobmaaGreatDoor
