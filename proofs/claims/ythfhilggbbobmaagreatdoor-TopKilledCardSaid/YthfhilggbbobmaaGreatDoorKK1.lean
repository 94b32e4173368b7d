/- Parts of the proof. -/
import Derived.Test.YthfhilggbbobmaaGreatDoorK39
set_option linter.all false
set_option maxHeartbeats 20000000
namespace Go.Proofs.YthfhilggbbobmaaGreatDoor
set_option maxRecDepth 100000
open Go.Proofs.Tryz
open Go renaming World->Wd,Value->Vl,Ending->Ed,Calls->Cs
open Go.RowKit renaming Below->Bl
open Go.RowKit
theorem AI(x:Sr)(k:Int)(w:Wd)(h:xr w x):Cs prog 4 #[.agg (aY x),.int .i64 k] w (an (.bool true) w):=by
 obtain⟨V,N⟩:∃V,V=w.alloc (.cells (aY x) 28):=⟨_,rfl⟩;have D:Bl w.heap.size w V:=by rw[N];exact aA
 have kV:ai V w.heap.size 28 (aY x):=by rw[N];exact ai.new _ _ _
 have m:=ah (h.cf V D);have uM:=ah fun(u:xV x=true) (W:Wd) (f:Bl V.heap.size V W)=>qP x W (((h.mE u).ae D).ae f) h.rjb;have uD:=ah fun(u:xV x=true)=>(h.mE u).ae D;have HW:=ah h.kk;have B:=ah D;have C:=ah kV;clear h D kV;go_enter func4,ntmps4;go_wp2_with(first|(rw[<-N];clear N)|refine cr rfl _ _ rfl C.out rfl underlying28 rfl aT rfl ?_);cases u:xV x
 ·rw[u]at m;refine m.out.mono ?_;rintro e O ⟨rfl,b1⟩;have S:=ah (aa B.out b1);clear b1;go_wp2_with fail;refine(eV O).mono ?_;rintro e K ⟨rfl,b2⟩;go_wp2_with fail;go_ret;exact⟨rfl,aa S.out b2⟩
 ·rw[u]at m;refine m.out.mono ?_;rintro e O ⟨rfl,b1⟩;have S:=ah b1;have yQ:=C.out.ae b1 C.out.lt;have uJ:Hid (O.rangeAt w.heap.size 0 (aY x).toList):=fun j v hj=>by rw[cR,yQ.cell j,<-iS];exact hj
  have Q:=ah (uM.out u O b1);have HI:=ah (uD.out u);clear b1 yQ;go_wp2_with(go_guarded;refine me _ _ rfl rfl uJ.out underlying28 rfl aT rfl ?_);cases o:Ks x.s
  ·have M:mA x.s=141:=by simp[mA,o]
   rw[M]at Q;refine Q.out.mono ?_;rintro e K ⟨rfl,b2⟩;have y:=ah (aa (aa B.out S.out) b2);clear b2;go_wp2_with fail;refine(eV K).mono ?_;rintro e P ⟨rfl,b3⟩;go_wp2_with fail;go_ret;exact⟨rfl,aa y.out b3⟩
  ·have M:mA x.s=0:=by simp[mA,o]
   rw[M]at Q;refine Q.out.mono ?_;rintro e K ⟨rfl,b2⟩;have y:=ah (aa S.out b2);clear b2;by_cases I:k<1
   ·go_wp2_with fail;refine(eV K).mono ?_;rintro e P ⟨rfl,b3⟩;go_wp2_with fail;go_ret;exact⟨rfl,aa (aa B.out y.out) b3⟩
   ·by_cases k2:20<k
    ·replace I:=oW I;go_wp2_with fail;refine(eV K).mono ?_;rintro e P ⟨rfl,b3⟩;go_wp2_with fail;go_ret;exact⟨rfl,aa (aa B.out y.out) b3⟩
    ·replace I:=oW I;replace k2:=oW k2;go_wp2_with fail;have uP:Hid (bt x.s):=(mX HI.out.wide).1 o;have uG:=ah (HI.out.ae y.out);have uL:=ah (C.out.ae y.out C.out.lt);clear o u M;have uA:k<=20:=by have:¬20<k:=of_eq_false k2;omega
     go_loopw [5] (fun X wr=>∃(i:Nat) (z:Sr),X=.int .i64 (i:Int)/\(i:Int)<=k/\bt z.s/\db wr z/\ai wr w.heap.size 28 (aY z)/\Bl w.heap.size w wr) (fun X _=>(k-intOf X).toNat)
     case atStart=>exact⟨0,x,rfl,by have:¬k<1:=of_eq_false I;omega,uP.out,uG.out,uL.out,aa B.out y.out⟩
     case round=>
      obtain⟨i,z,rfl,uS,A,yT,yL,yP⟩:=hrel;have yJ:=ah A;have uF:=ah yT;have R:=ah yL;have yI:=ah yP;have yZ:=yL.lt;clear A yT yL yP;by_cases uU:(i:Int)<k
      ·go_upto_region 6 with fail
       go_cut [6,8] (fun Z Er W=>∃(J:Nat) (d:Sr) (l:Int),Z=.pointer (some ⟨J,0,none⟩)/\Er=.int .i64 l/\ai W J 28 (aY d)/\Bl wr.heap.size wr W/\wr.heap.size<=J/\((l=0/\(∃n,pS z.s d.s n)/\gV wr.heap.size W d)\/l=153))
       case first=>
        have uB:=ah fun(W:Wd) (f:Bl wr.heap.size wr W)=>P1 z W (uF.out.ae f) yJ.out;have k0:Bl wr.heap.size wr wr.drew:=bR.drew;refine bW (fun W=>Bl wr.heap.size wr W) (fun _=>True) #[] [1,2,7,8] 10 [0,1,2,3,4,5,6,7,8,9,10] (by kernel_rfl) (by kernel_rfl) k0 trivial ?_;refine jE rfl (some 33) rfl rfl rfl (fun _ _ _ _ h=>h) _ _ rfl (fun W f _=>R.out.ae f R.out.lt) rfl underlying28 rfl aT rfl ?_;refine mP 10 rfl ?_;obtain⟨W,yM⟩:∃W,W=wr.drew:=⟨_,rfl⟩;have bl:Bl wr.heap.size wr W:=by rw[yM];exact k0
        rw[<-yM];clear yM k0
        iterate 3
         all_goals
          refine qY [1,2,7] (by kernel_rfl) ?_;intro q hq o;simp only[dK,lF,oV]at hq;rcases hq with rfl|rfl|rfl
         all_goals first
          |(refine C7 o ?_;decide+kernel)
          |(clear o
            rename Wd=>U1
            refine ea 9 #[] (some 34) rfl rfl (a8 rfl _) (by go_simp) ?_;refine(qS U1).mono ?_;rintro e W ⟨rfl,p⟩
            try replace t:=t.ae p t.lt
            replace bl:=aa bl p;refine⟨_,rfl,bl,?_⟩;clear p)
          |(clear o
            rename Wd=>U1
            obtain⟨J,F⟩:∃J,J=U1.heap.size:=⟨_,rfl⟩;refine eS (.pointer (some ⟨J,0,none⟩)) (U1.alloc (.cells dz 28)) (some 6) rfl rfl (a8 rfl _) (by rw[F];go_simp) fun W f=> ?_;have p:Bl U1.heap.size U1 W:=by rw[f];exact aA
            have t:ai W J 28 dz:=by rw[f,F];exact ai.new _ _ _
            have z6:wr.heap.size<=J:=by rw[F];exact bl.size
            try have iq:(l=0/\(∃n,pS z.s d.s n)/\gV wr.heap.size (W.setRow J (aY d)) d)\/l=153:=dq.imp (fun⟨a,b,c⟩=>⟨a,b,c.ae (aH p (by omega) _)⟩) id
            replace bl:=aa bl p;refine⟨bl,?_⟩;clear f p F)
          |(clear o
            rename Wd=>U1
            refine ea 8 #[.agg (aY z),.agg sn] (some 35) rfl rfl (a8 rfl _) (by go_simp) ?_;refine(uB.out U1 bl).mono ?_;rintro e W ⟨d,T,l,rfl,p,d0⟩;have yK:=bl.size;have dq:(l=0/\(∃n,pS z.s d.s n)/\gV wr.heap.size W d)\/l=153:=d0.imp (fun⟨a,b,c⟩=>⟨a,b,c.mono yK⟩) id
            try have zl:=t.lt
            try replace t:=t.ae p t.lt
            try have iq:(l=0/\(∃n,pS z.s d.s n)/\gV wr.heap.size (W.setRow J (aY d)) d)\/l=153:=d0.imp (fun⟨a,b,c⟩=>⟨a,b,(c.on (aU.row _ _) zl).mono yK⟩) id
            replace bl:=aa bl p;refine⟨_,rfl,bl,?_⟩;clear p yK d0;refine cx (i:=3) (some 32) rfl rfl (by kernel_rfl) rfl (fun _ _ _ _ h=>h) bl ?_;apply Exists.intro;refine⟨fun W f=> ?_,?_⟩
            ·go_simp
             try rfl
            refine cx (i:=4) (some 36) rfl rfl (by kernel_rfl) rfl (fun _ _ _ _ h=>h) bl ?_;apply Exists.intro;refine⟨fun W f=> ?_,?_⟩
            ·go_simp
             try rfl
            refine cx (i:=5) (some 37) rfl rfl (by kernel_rfl) rfl (fun _ _ _ _ h=>h) bl ?_;apply Exists.intro;refine⟨fun W f=> ?_,?_⟩
            ·go_simp
             try rfl
            refine cx (i:=6) (some 38) rfl rfl (by kernel_rfl) rfl (fun _ _ _ _ h=>h) bl ?_;apply Exists.intro;refine⟨fun W f=> ?_,?_⟩
            ·go_simp
             try rfl)
        all_goals
         refine dg (i:=8) (by kernel_rfl) (cv 28 (.tmp 6) (.tmp 36) J (aY d) rfl rfl rfl (a8 rfl _) (by go_simp) (by go_simp;try rfl) t aT rfl rfl ?_);intro Y U;have uI:Hid (ai Y J 28 (aY d)):=by show ai _ _ _ _;rw[U];exact ai.row t _
         have b4:Bl wr.heap.size wr Y:=by rw[U];exact aH bl z6 _
         have uK:Hid ((l=0/\(∃n,pS z.s d.s n)/\gV wr.heap.size Y d)\/l=153):=by show _\/_;rw[U];exact iq
         refine⟨b4,?_⟩;refine cx (i:=9) (some 7) rfl rfl (by kernel_rfl) rfl (fun _ _ _ _ h=>h) b4 ?_;apply Exists.intro;refine⟨fun W f=> ?_,?_⟩
         ·go_simp
          try rfl
         refine cx (i:=10) (some 8) rfl rfl (by kernel_rfl) rfl (fun _ _ _ _ h=>h) b4 ?_;apply Exists.intro;refine⟨fun W f=> ?_,?_⟩
         ·go_simp
          try rfl
         refine wpAnyH_done (by kernel_rfl) ?_ _;have uQ:=ah b4;clear bl t b4 U iq dq;simp only[Act.put,aE,aF,aG,cM,cJ,cI];go_wp2_with fail;go_meet;exact⟨J,d,l,rfl,rfl,uI.out,uQ.out,z6,uK.out⟩
       case rest=>
        obtain⟨J,d,l,rfl,rfl,hF,hB,F,hD⟩:=hcut;have m:=ah hF;have yX:=ah hB;have uT:=hF.lt;have yS:=ah (R.out.ae hB R.out.lt);clear hF hB;rcases hD with⟨rfl,⟨n,hx⟩,yV⟩|rfl
        ·have hT:=FN yJ.out (FM yJ.out hx);have HT:=ah hT;have yW:=ah yV;clear hx hT yV;go_wp2_with fail;have yN:=ah yW.out.am
         go_loopw [9] (fun X W=>∃q:Nat,q<=d.J.n/\X=.int .i64 (q:Int)/\Bl wc.heap.size wc W) (fun X _=>d.J.n-(intOf X).toNat)
         case atStart=>exact⟨0,by omega,rfl,cC _ _⟩
         case round=>
          obtain⟨q,hq,rfl,hb⟩:=hrel
          rename Wd=>Wq
          have L:=ah hb;have j2:=(m.out.ae hb m.out.lt).cell 2;simp at j2;clear hb;by_cases hl:q<d.J.n
          ·obtain⟨b,off,r,hA,yR,hr,o⟩:=(yN.out.aj.rows).at_ hl;have hm:r.j∈d.s.aj:=by rw[<-yN.out.jr];exact cS.2 ⟨r,cG hr,rfl⟩
           have yC:=HT.out.run r.j hm;have uR:d.J.n<=1000:=yN.out.fg.cf;have yU:∀W,Bl wc.heap.size wc W->W.cell? ⟨b,off+q*20+11,none⟩=some (r.j.st:Vl):=fun W f=>(dI (a:=⟨b,off+q*20+11,none⟩) (f.block b yR)).trans (o 11 _ rfl);have yY:∀W,Bl wc.heap.size wc W->W.cell? ⟨b,off+q*20+17,none⟩=some (r.j.li:Vl):=fun W f=>(dI (a:=⟨b,off+q*20+17,none⟩) (f.block b yR)).trans (o 17 _ rfl);have f0:∀W,Bl wc.heap.size wc W->W.cell? ⟨J,0,none⟩=some (d.s.am:Vl):=fun W f=>(m.out.ae f m.out.lt).cell 0
           have f2:∀W,Bl wc.heap.size wc W->W.cell? ⟨J,2,none⟩=some (.slice (some ⟨b,off,none⟩) d.J.n d.J.c):=fun W f=>by
            rw[(m.out.ae f m.out.lt).cell 2,<-hA];rfl
           clear o hr hm hA;obtain⟨s,hs⟩:∃s,(r.j.st==2)=s:=⟨_,rfl⟩;obtain⟨g,A⟩:∃g,decide (r.j.li<=d.s.am)=g:=⟨_,rfl⟩;have E:=ah hs;have G:=ah A
           have h3:(s=true/\g=false)\/s=false:=by
            cases s
            ·exact .inr rfl
            ·exact .inl ⟨rfl,by rw[<-A];simpa using yC (by simpa using hs)⟩
           clear hs A yC;rcases h3 with⟨rfl,rfl⟩|rfl
           all_goals
            go_wp2_with fail;refine aw (fun W=>Bl wc.heap.size wc W) (by kernel_rfl) (by kernel_rfl) L.out.drew ?_
            repeat(first
             |(refine bF ?_ ?_
               ·rfl
               simp only[Act.put,aE,aF,aG])
             |(refine cw ?_ ?_
               ·rfl
               apply Exists.intro;refine⟨fun W f=> ?_,?_⟩
               ·simp[go_sem,f0 W f,f2 W f,yU W f,yY W f,E.out,G.out,hl]
                try rfl
               simp only[Act.put,aE,aF,aG]))
            refine bM ?_;intro W f;have uC:=ah f;clear f f0 f2 yU yY j2;go_wp2_with fail;exact⟨⟨q+1,by omega,by go_num,uC.out⟩,by simp[intOf];omega⟩
          ·obtain rfl:q=d.J.n:=by omega
           have uH:=ah (m.out.ae L.out m.out.lt);have yO:=ah (yS.out.ae L.out yS.out.lt);obtain⟨X,H⟩:∃X,X=Wq.setRow w.heap.size (aY d):=⟨_,rfl⟩;have uO:Hid (ai X w.heap.size 28 (aY d)):=by show ai _ _ _ _;rw[H];exact ai.row yO.out _
           have uE:Hid (db X d):=by
            show db _ _;rw[H];exact((yW.out.ae L.out).on (aU.row _ _) yZ).am
           have uN:Hid (Bl w.heap.size w X):=by show Bl _ _ _;rw[H];exact aH (aa yI.out (aa yX.out L.out)) lr _
           go_wp2_with(first|(rw[<-H];clear H)|refine cr rfl _ _ rfl uH.out rfl underlying28 rfl aT rfl ?_|refine dp rfl _ _ _ rfl yO.out rfl rfl aT rfl rfl rfl ?_);exact⟨⟨i+1,d,by go_num,by omega,HT.out.kq,uE.out,uO.out,uN.out⟩,by simp[intOf];omega⟩
        ·go_wp2_with fail;refine(eV wc).mono ?_;rintro e P ⟨rfl,b3⟩;go_wp2_with fail;go_ret;exact⟨rfl,aa (aa yI.out yX.out) b3⟩
      ·obtain rfl:(i:Int)=k:=by omega
       go_wp2_with fail;refine(eV wr).mono ?_;rintro e P ⟨rfl,b3⟩;go_wp2_with fail;go_ret;exact⟨rfl,aa yI.out b3⟩
end Go.Proofs.YthfhilggbbobmaaGreatDoor
