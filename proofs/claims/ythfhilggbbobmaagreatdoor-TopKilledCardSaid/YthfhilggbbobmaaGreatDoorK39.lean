/- Parts of the proof. -/
import Derived.Test.YthfhilggbbobmaaGreatDoorK38
import Derived.Great.BuildSlice
set_option linter.all false
set_option maxHeartbeats 20000000
namespace Go.Proofs.YthfhilggbbobmaaGreatDoor
set_option maxRecDepth 100000
open Go.Proofs.Tryz
open Go renaming World->Wd,Value->Vl,Ending->Ed,TypeId->Ti,Program->Pg,Calls->Cs
open Go.RowKit renaming Below->Bl
open Go.RowKit
section
variable {P : Program} {ops : Array Oper} {Q : Exit -> Act -> World -> Prop} {R S : World -> Prop} {T : Array Bool} {H : List Nat} {m k : Nat} {o : Oper} {r : List Nat} {a : Act} {w : World}
theorem Tp(g:Nat.ble m r.length=true)(f:ops[k]?=some o)(hw:Region.wanted o (yielded ops a.tmps)=true)(d:∀c a w v,Q (.panic c) (a.put o.dst v) w->Q (.panic c) a w)(t:Ti)(b:Array (Nat×Operand))(j:o.op=.build t b)(cells:Array Vl)
 (e:P.built t (b.map fun(i,x)=>(i,a.eval x)).toList=some cells)(h:LQ P ops Q R S T H m r (a.put o.dst (.agg cells)) w):LQ P ops Q R S T H m (k::r) a w:=
 C0 (.agg cells) g f hw (fun c a w h=>d c a w _ h) (fun W _ _=>by
  unfold execOp;simp only[j,nU,run_build W t _ cells e,o0];rfl) h
end
theorem kdo(x:Sr)(g D:Nat)(a w:Wd)(h:db a x)(i:Bl a a w)(u:a<=D)(k:ai w D 168 (DX x g 0))(j:ai w g 139 #[(2:Int),(1:Int)])(hn:g≠D)(hx:x.s=Ha):
 Cs prog 82 #[.pointer D] w (Cp x g D w):=by
 have m:=ah (RR x g D a w h i u k j hn hx);have t:=k.cell 9;simp at t;have y:=k.lt;clear h i k j hn hx;go_in;go_wp2_with fail;refine m.out.mono ?_;rintro e v ⟨b,bK,rfl,h1,h2,c,d,f⟩;have l:=ah (⟨b,bK,rfl,h1,h2,c,d,f⟩:Cp x g D w (.returned ()) v);clear h1 h2 c d f;go_wp2;go_ret;obtain⟨b,bK,-,n,o,p,q,r⟩:=l;exact⟨b,bK,rfl,n,o,p,q,r⟩
theorem Fq{P:Pg}{f:Func}{R:Ed->Wd->Prop}{a:Act}{w:Wd}{p q c e:Tmp}{b:Ti}(k:f.results= #[.cell p b,.tmp q,.tmp c,.tmp e]){g:Nat}{t:Ti}{cs:Array Vl}(h:ai w g t cs)
 (i:a.tmps.getD p undef=.pointer g){v u z:Vl}(j:a.tmps.getD q undef=v)(y:a.tmps.getD c undef=u)(x:a.tmps.getD e undef=z){d:TypeDesc}(l:P.underlying b=some d)(B:d.isRow=true){n:Nat}(hi:(P.info? b).map (·.size)=some n)(hn:cs.size=n)
 (r:a.defers=[])(hR:R (.returned (.tuple #[.agg cs,v,u,z])) w):bodyPost P f R .ret a w:=by
 refine cU ?_ r hR;have A:a.tmps[p]?.getD undef=.pointer g:=by simpa using i
 have s:a.tmps[q]?.getD undef=v:=by simpa using j
 have m:a.tmps[c]?.getD undef=u:=by simpa using y
 have o:a.tmps[e]?.getD undef=z:=by simpa using x
 simp[results,k,A,s,m,o,asAddr,rI w g t b cs (0,0) d h l (by cases d<;>simp_all) (by rw[hi,hn])]
def DoW(w:Wd)(e:Ed)(w':Wd):Prop:=∃(y:Sr) (bK:List Us) (s:ByteArray) (T:Sl) (a:List Ou),e=.returned (.tuple #[.agg (aY y),.string s,T.v,()])/\fm bK=true/\y.s=BB bK/\gV w w' y/\fY w' w T.A T.n T.c a/\T.n=4/\Bl w w w'
theorem kDo(x:Sr)(g:Nat)(w:Wd)(h:db w x)(u:ai w g 139 #[.int .i64 2,.int .i64 1])(hx:x.s=Ha):Cs prog 36 #[.agg (aY x),.agg (DE g)] w (DoW w):=by
 obtain⟨V,I⟩:∃V,V=((w.alloc (.cells (aY x) 28)).alloc (.cells (DE g) 95)).alloc (.cells dz 28):=⟨_,rfl⟩;have G:Bl w.heap.size w V:=by rw[I];exact(aC).alloc (by simp;omega) _
 have kV:ai V w.heap.size 28 (aY x):=by rw[I];exact((ai.new _ _ _).alloc _).alloc _
 have qV:ai V (w.heap.size+1) 95 (DE g):=by rw[I];have:=(ai.new (w.alloc (.cells (aY x) 28)) 95 (DE g)).alloc (.cells dz 28);simpa using this
 have zV:ai V (w.heap.size+2) 28 dz:=by rw[I];have:=ai.new ((w.alloc (.cells (aY x) 28)).alloc (.cells (DE g) 95)) 28 dz;simpa using this
 have hVs:V.heap.size=w.heap.size+3:=by rw[I];simp
 have qH:=ah (da x V (h.ae G) (by rw[hx];exact CS));have uU:=ah fun(W:Wd) (c:Bl V.heap.size V W)=>Js g W ((u.ae G u.lt).ae c (u.ae G u.lt).lt);have qJ:=ah fun(W:Wd) (c:Bl V.heap.size V W)=>gQ x W ((h.ae G).ae c);have HG:Hid (ai V g 139 #[.int .i64 2,.int .i64 1]):=u.ae G u.lt;have hgl:=u.lt;have HB:=ah G;have HK:=ah kV;have HQ:=ah qV;have HZ:=ah zV;have HX:=ah hx;clear h u hx G kV qV zV;go_enter func36,ntmps36;go_wp2_with(first|(rw[<-I];clear I)|refine cr rfl _ _ rfl HK.out rfl underlying28 rfl aT rfl ?_);refine qH.out.mono ?_;rintro e w1 ⟨rfl,b1⟩;have uQ:=ah b1;have yU:=ah (HQ.out.ae b1 HQ.out.lt);clear b1;go_wp2_with(refine cr rfl _ _ rfl yU.out rfl underlying95 rfl fi rfl ?_);refine(uU.out w1 uQ.out).mono ?_;rintro e w2 ⟨rfl,b2⟩;have yW:=ah (aa uQ.out b2);have uD:=yU.out.ae b2 yU.out.lt;have c0:=uD.cell 0;simp at c0;clear b2 uD;go_wp2_with fail;clear c0;refine bW (fun W=>Bl V.heap.size V W) (fun _=>True) #[] [1,4] 0 [0,2,1,3,4,5] (by kernel_rfl) (by kernel_rfl) yW.out.drew trivial ?_;refine jE rfl (some 47) rfl rfl rfl (fun _ _ _ _ h=>h) _ _ rfl (fun W c _=>HK.out.ae c HK.out.lt) rfl underlying28 rfl aT rfl ?_;refine jE rfl (some 49) rfl rfl rfl (fun _ _ _ _ h=>h) _ _ rfl (fun W c _=>HQ.out.ae c HQ.out.lt) rfl underlying95 rfl fi rfl ?_;refine el 31 #[.agg (aY x)] rfl rfl (some 48) rfl rfl rfl (by go_simp) ?_
 refine(qJ.out w2.drew yW.out.drew).mono ?_;rintro e d ⟨y,b1,b2,b3,b4,b5,rfl,uK,uJ,-,uI⟩;have L:Bl V.heap.size V d:=aa yW.out.drew uI;refine⟨_,rfl,L,trivial,?_⟩;refine Tp rfl rfl rfl (fun _ _ _ _ h=>h) 168 _ rfl (DX y g 0) (by kernel_rfl) ?_;refine JB (.pointer (some ⟨d.heap.size,0,none⟩)) (d.alloc (.cells (DX y g 0) 168)) rfl rfl (some 51) rfl rfl rfl (by go_simp) fun W c=> ?_;have kD:ai W d.heap.size 168 (DX y g 0):=by rw[c];exact ai.new _ _ _
 have R:Bl d.heap.size d W:=by rw[c];exact aA
 refine⟨aa L R,trivial,?_⟩;refine lqe rfl (fun _ _ _ _ h=>h) ?_;apply Exists.intro;refine⟨fun W c _=> ?_,?_⟩
 ·go_simp
  try rfl
 refine ew ?_;simp only[Act.put,aE,aF,aG,cM,cJ,cI];have uR:=uJ.Tw.am;have uM:=L.size;have qD:=ah (kdo y g d.heap.size d W uR R lr kD ((HG.out.ae L HG.out.lt).ae R (HG.out.ae L HG.out.lt).lt) (by have:=HB.out.size;omega) (by rw[uK,HX.out]));have qE:=ah (aa L R);have hDl:=kD.lt;clear uK uJ uI L kD R c uR;go_wp2_with fail;refine qD.out.mono ?_;rintro e a ⟨A,bK,rfl,yQ,uP,uB,uF,yS⟩;have yP:=ah yQ;have uO:=ah uP;have Q:=ah uB;have uZ:=ah uF;have HS4:=ah yS;have yV:Hid (Bl V.heap.size V a):=qE.out.trans (yS.du.mono uM);have h4:=yS.size;have uL:=ah (HZ.out.ae yV.out HZ.out.lt);clear yQ uP uB uF yS;go_upto_region 16 with fail
 go_cut [14,15,16] (fun Z Y U wr=>∃J z k l f,Z=.pointer (some ⟨J,0,none⟩)/\Y=.slice k 4 l/\U=.int .i64 0/\a.heap.size<=J/\ai wr J 28 (aY z)/\z.s=BB bK/\gV a.heap.size wr z/\fY wr a.heap.size k 4 l f/\Bl a.heap.size a wr)
 case first=>
  have yY:=ah fun(W:Wd) (c:Bl a.heap.size a W)=>zH A false W (uZ.out.ae c) (by rw[uO.out];exact Ue yP.out);rw[uO.out]at yY;have O:Bl a.heap.size a a.drew:=bR.drew;refine bW (fun W=>Bl a.heap.size a W) (fun _=>True) #[] [8,13,14] 9 [0,1,2,3,4,5,6,7,8,9,10,11,12,13,14,15,16] (by kernel_rfl) (by kernel_rfl) O trivial ?_
  iterate 8
   first
   |(refine yw rfl rfl rfl (fun _ _ _ _ h=>h) 28 _ rfl (b:=d.heap.size) (off:=1) (by simp[go_sem];done) (cs:=aY A) (fun W c j v hj=>by
      rw[(Q.out.ae c Q.out.lt).cell (1+j)];exact N7 hj) underlying28 rfl aT rfl ?_)
   |(refine lqe rfl (fun _ _ _ _ h=>h) ?_
     apply Exists.intro;refine⟨fun W c _=> ?_,?_⟩
     ·have uT:=(Q.out.ae c Q.out.lt).cell 28;simp at uT;go_simp
      try rfl)
  refine mP 9 rfl ?_;refine wpAnyH_all (rs:=[8,13]) (by kernel_rfl) (by simp) ?_;intro i hi;simp only[dK,lF,oV]at hi;rcases hi with rfl|rfl
  ·refine ea 42 #[.agg (aY A),.bool false] (some 67) rfl rfl (a8 rfl _) (by go_simp) ?_;refine(yY.out a.drew O).mono ?_;rintro e W ⟨z,⟨k,Tn,l⟩,f,n,rfl,C,T,H,hn,-,t⟩;obtain⟨B,rfl⟩:=wa T;have yX:Tn=4:=by have:=H.1;dsimp only at this;omega
   subst yX;have yH:=t.size;clear T hn;have K:=aa O t;refine⟨_,rfl,K,?_⟩;refine cx (i:=9) (some 58) rfl rfl (by kernel_rfl) rfl (fun _ _ _ _ h=>h) K ?_;apply Exists.intro;refine⟨fun W c=> ?_,?_⟩
   ·go_simp
    try rfl
   refine cx (i:=10) (some 68) rfl rfl (by kernel_rfl) rfl (fun _ _ _ _ h=>h) K ?_;apply Exists.intro;refine⟨fun W c=> ?_,?_⟩
   ·go_simp
    try rfl
   refine cx (i:=11) (some 69) rfl rfl (by kernel_rfl) rfl (fun _ _ _ _ h=>h) K ?_;apply Exists.intro;refine⟨fun W c=> ?_,?_⟩
   ·go_simp
    try rfl
   refine cx (i:=12) (some 70) rfl rfl (by kernel_rfl) rfl (fun _ _ _ _ h=>h) K ?_;apply Exists.intro;refine⟨fun W c=> ?_,?_⟩
   ·go_simp
    try rfl
   refine dg (i:=13) (by kernel_rfl) (eS (.pointer (some ⟨W.heap.size,0,none⟩)) (W.alloc (.cells dz 28)) (some 14) rfl rfl (a8 rfl _) (by go_simp) fun D q=> ?_);have uN:=K.size;have b2:Bl a.heap.size a D:=by rw[q];exact K.alloc uN _
   have p:ai D W.heap.size 28 dz:=by rw[q];exact ai.new W _ _
   refine⟨b2,?_⟩;refine dg (i:=14) (by kernel_rfl) (cv 28 (.tmp 14) (.tmp 68) W.heap.size (aY z) rfl rfl rfl (a8 rfl _) (by go_simp) (by go_simp;try rfl) p aT rfl rfl ?_);intro m r;have yZ:Hid (ai m W.heap.size 28 (aY z)):=by show ai _ _ _ _;rw[r];exact ai.row p _
   have b4:Bl a.heap.size a m:=by rw[r];exact aH b2 (by omega) _
   have bz:Bl W.heap.size W m:=by rw[r,q];exact aD
   have yO:Hid (gV a.heap.size m z):=C.ae bz;have yN:Hid (fY m a.heap.size k 4 l f):=be.ae H bz;refine⟨b4,?_⟩;refine cx (i:=15) (some 15) rfl rfl (by kernel_rfl) rfl (fun _ _ _ _ h=>h) b4 ?_;apply Exists.intro;refine⟨fun W c=> ?_,?_⟩
   ·go_simp
    try rfl
   refine cx (i:=16) (some 16) rfl rfl (by kernel_rfl) rfl (fun _ _ _ _ h=>h) b4 ?_;apply Exists.intro;refine⟨fun W c=> ?_,?_⟩
   ·go_simp
    try rfl
   refine wpAnyH_done (by kernel_rfl) ?_ _;have yK:=ah b4;have yR:=ah B;clear O b2 p b4 r q H yH t B C;simp only[Act.put,aE,aF,aG,cM,cJ,cI];go_wp2_with fail;go_meet;exact⟨W.heap.size,z,k,l,f,rfl,rfl,rfl,by omega,yZ.out,yR.out,yO.out,yN.out,yK.out⟩
  ·refine eS (.pointer (some ⟨a.heap.size,0,none⟩)) (a.drew.alloc (.cells dz 28)) (some 14) rfl rfl (a8 rfl _) (by go_simp) fun D q=> ?_;have b2:Bl a.heap.size a D:=by rw[q];exact O.alloc lr _
   have p:ai D a.heap.size 28 dz:=by rw[q];exact ai.new a.drew _ _
   refine⟨b2,?_⟩;refine dg (i:=8) (by kernel_rfl) (ea 42 #[.agg (aY A),.bool false] (some 67) rfl rfl (a8 rfl _) (by go_simp) ?_);have b2s:=b2.size;refine(yY.out D b2).mono ?_;rintro e W ⟨z,⟨k,Tn,l⟩,f,n,rfl,C,T,H,hn,-,t⟩;obtain⟨B,rfl⟩:=wa T;have yX:Tn=4:=by have:=H.1;dsimp only at this;omega
   subst yX;have yH:=t.size;clear T hn;replace p:=p.ae t p.lt;have uN:=p.lt;replace b2:=aa b2 t;refine⟨_,rfl,b2,?_⟩;refine cx (i:=9) (some 58) rfl rfl (by kernel_rfl) rfl (fun _ _ _ _ h=>h) b2 ?_;apply Exists.intro;refine⟨fun W c=> ?_,?_⟩
   ·go_simp
    try rfl
   refine cx (i:=10) (some 68) rfl rfl (by kernel_rfl) rfl (fun _ _ _ _ h=>h) b2 ?_;apply Exists.intro;refine⟨fun W c=> ?_,?_⟩
   ·go_simp
    try rfl
   refine cx (i:=11) (some 69) rfl rfl (by kernel_rfl) rfl (fun _ _ _ _ h=>h) b2 ?_;apply Exists.intro;refine⟨fun W c=> ?_,?_⟩
   ·go_simp
    try rfl
   refine cx (i:=12) (some 70) rfl rfl (by kernel_rfl) rfl (fun _ _ _ _ h=>h) b2 ?_;apply Exists.intro;refine⟨fun W c=> ?_,?_⟩
   ·go_simp
    try rfl
   refine dg (i:=14) (by kernel_rfl) (cv 28 (.tmp 14) (.tmp 68) a.heap.size (aY z) rfl rfl rfl (a8 rfl _) (by go_simp) (by go_simp;try rfl) p aT rfl rfl ?_);intro m r;have yZ:Hid (ai m a.heap.size 28 (aY z)):=by show ai _ _ _ _;rw[r];exact ai.row p _
   have b4:Bl a.heap.size a m:=by rw[r];exact aH b2 (by omega) _
   have N:aU a.heap.size W m:=by rw[r];exact aU.row _ _
   have qA:a.heap.size<D.heap.size:=by rw[q];simp
   have yO:Hid (gV a.heap.size m z):=(C.on N qA).mono (by omega);have yN:Hid (fY m a.heap.size k 4 l f):=aS (aV N H (by omega)) (by omega);refine⟨b4,?_⟩;refine cx (i:=15) (some 15) rfl rfl (by kernel_rfl) rfl (fun _ _ _ _ h=>h) b4 ?_;apply Exists.intro;refine⟨fun W c=> ?_,?_⟩
   ·go_simp
    try rfl
   refine cx (i:=16) (some 16) rfl rfl (by kernel_rfl) rfl (fun _ _ _ _ h=>h) b4 ?_;apply Exists.intro;refine⟨fun W c=> ?_,?_⟩
   ·go_simp
    try rfl
   refine wpAnyH_done (by kernel_rfl) ?_ _;have yK:=ah b4;have yR:=ah B;clear O b2 p b4 r q H yH t B C;simp only[Act.put,aE,aF,aG,cM,cJ,cI];go_wp2_with fail;go_meet;exact⟨a.heap.size,z,k,l,f,rfl,rfl,rfl,by omega,yZ.out,yR.out,yO.out,yN.out,yK.out⟩
 case rest=>
  obtain⟨J,z,k,l,f,rfl,rfl,rfl,hJ,hF,B,C,uE,S⟩:=hcut;have HF:=ah hF;have yR:=ah B;have yO:=ah C;have yN:=ah uE;have qB:=ah S;have hBs:=S.size;have uA:=ah (Q.out.ae S Q.out.lt);have uH:=ah (uL.out.ae S uL.out.lt);have qL:=yV.out.size;have qG:V.heap.size<=d.heap.size:=uM;have hFl:=hF.lt
  have qI:Hid (∀W,Cs prog 35 #[.int .i64 1] W fun e w'=>e=.returned (.string ⟨#[49]⟩)/\w'=W):=fun W=>by
   have h:=strconv_Itoa_small 1 (by omega) W;rw[show(Lib.decDigits 1).toArray= #[49] by kernel_rfl]at h;exact h
  clear hF B C uE S;have uG:=uA.out.cell 29;simp at uG;go_wp2_with fail;refine(qI.out wc).mono ?_;rintro e wd ⟨rfl,uC⟩;rw[uC];clear uC;have qC:=ah fun(U:Wd) (o:fY U a.heap.size k 4 l f)=>dy jg (P:=prog) U U.heap.size 38 38 92 _ 80 underlying38 ja rfl none 0 0 [] (Ca _ _ _ _ _) k 4 l f (o.et jg) (by simp[maxLen]) (by omega) lr;clear uG;go_wp2_with fail;have r0:ai wc.drew J 28 (aY z)/\ai wc.drew d.heap.size 168 (DX A g 1):=⟨HF.out.drew,uA.out.drew⟩;refine bW (fun W=>ai W J 28 (aY z)/\ai W d.heap.size 168 (DX A g 1)) (fun _=>True) #[] [7,8] 0 [0,1,2,3,4,5,6,7,8,9,10,11] (by kernel_rfl) (by kernel_rfl) r0 trivial ?_;refine jE rfl (some 88) rfl rfl rfl (fun _ _ _ _ h=>h) _ _ rfl (fun W c _=>c.1) rfl underlying28 rfl aT rfl ?_
  iterate 6
   refine lqe rfl (fun _ _ _ _ h=>h) ?_;apply Exists.intro;refine⟨fun W c _=> ?_,?_⟩
   ·have qF:=c.2.cell 27;simp at qF;go_simp
    try rfl
  obtain⟨A9,c9,w9,yI,o9,F,-,-⟩:=qC.out wc.drew (yN.out.ae bR.drew);simp only[cR,dH]at yI o9;refine gN rfl rfl (rq (some 95) (.tmp 93) (.tmp 94) rfl rfl rfl rfl (by go_simp) (by go_simp) yI fun M qK=> ?_);subst qK;have s9:=F.size;have r9:ai M J 28 (aY z)/\ai M d.heap.size 168 (DX A g 1):=⟨r0.1.ae F r0.1.lt,r0.2.ae F r0.2.lt⟩;have uS:Hid (ai M (w.heap.size+2) 28 dz):=uH.out.drew.ae F uH.out.drew.lt;have yT:Hid (gV a.heap.size M z):=yO.out.ae (aa bR.drew F);have uY:Hid (Bl a.heap.size a M):=aa qB.out (aa bR.drew F);have uV:=ah o9;refine⟨r9,trivial,?_⟩;refine qn rfl rfl rfl rfl rfl 28 (.tmp 4) (.tmp 88) rfl (w.heap.size+2) (aY z) (by go_simp) (by go_simp) uS.out aT rfl rfl rfl ?_;intro E X;have N:aU (w.heap.size+2) M E:=by rw[X];exact aU.row _ _
  have rn:ai E J 28 (aY z)/\ai E d.heap.size 168 (DX A g 1):=by rw[X];exact⟨ai.gu r9.1 (by omega) _,ai.gu r9.2 (by omega) _⟩
  have HR:Hid (ai E (w.heap.size+2) 28 (aY z)):=by show ai _ _ _ _;rw[X];exact ai.row uS.out _
  have uX:Hid (gV w.heap.size E z):=(yT.out.on N (by omega)).mono (by omega);have uW:Hid (fY E w.heap.size A9 4 c9 f):=aS (aV N uV.out (by show w.heap.size+2<wc.heap.size;omega)) (by show w.heap.size<=wc.heap.size;omega)
  have qM:Hid (Bl w.heap.size w E):=by
   show Bl _ _ _;rw[X];exact aH (aa HB.out (yV.out.trans (uY.out.mono qL))) (by omega) _
  refine⟨rn,trivial,?_⟩
  iterate 3
   refine lqe rfl (fun _ _ _ _ h=>h) ?_;apply Exists.intro;refine⟨fun W c _=> ?_,?_⟩
   ·go_simp
    try rfl
  refine ew ?_;clear r0 r9 rn o9 F yI X N;simp only[Act.put,aE,aF,aG,cM,cJ,cI];go_wp2_with fail;refine Fq (cs:=aY z) rfl HR.out rfl rfl rfl rfl underlying28 rfl aT rfl rfl ?_;exact⟨z,bK,_,⟨A9,4,c9⟩,f,rfl,yP.out,yR.out,uX.out,uW.out,rfl,qM.out⟩
def AnsW(w:Wd)(e:Ed)(w':Wd):Prop:=∃A c a,e=.returned (.slice A 5 c)/\fY w' w A 5 c a/\Bl w w w'
theorem kl1(s:ByteArray)(A:OA)(c:Nat)(g:List Ou)(w:Wd)(h:TS w A 4 g):Cs prog 33 #[.string s,.slice A 4 c] w (AnsW w):=by
 obtain⟨U,b⟩:=nm (w.alloc (.cells (IQ ⟨1,s,⟨0,0,0,0⟩,0,0,false⟩) 92));have a:Bl w w U:=b▸aA;have f:fY U w w 1 1 [⟨1,s,⟨0,0,0,0⟩,0,0,false⟩]:=⟨rfl,by rw[b];exact eY.Hq w w 9 _ (IQ ⟨1,s,⟨0,0,0,0⟩,0,0,false⟩) 1 lr (by simp[maxLen]) rfl⟩;obtain⟨i,m,n,d,e,b3,-,-⟩:=dy jg (P:=prog) U w 38 38 92 _ 80 underlying38 ja rfl _ 1 1 _ f A 4 c g (h.ae a) (by simp[maxLen]) (by omega) a.size;rw[b]at d;have l:=ah d;have k:=ah e;have j:=ah (a.trans b3);clear d e f b a b3 h;go_in;go_wp2_with(at_builtin;refine au rfl _ _ rfl rfl rfl l ?_);go_ret;exact⟨i,m,_,rfl,k,j⟩
def S3(w:Wd)(e:Ed)(w':Wd):Prop:=∃(y:Sr) (bK:List Us) (T:Sl) (a:List Ou),e=.returned (.tuple #[.agg (aY y),T.v,()])/\fm bK=true/\y.s=BB bK/\gV w w' y/\fY w' w T.A T.n T.c a/\T.n=5/\Bl w w w'
theorem kln(x:Sr)(w:Wd)(h:db w x)(hx:x.s=Ha):Cs prog 22 #[.agg (aY x),.string m8] w (S3 w):=by
 obtain⟨V,d⟩:=nm ((w.alloc (.cells (aY x) 28)).alloc (.cells dz 28));have o:Bl w w V:=d▸aC;have I:ai V w 28 (aY x):=d▸(ai.new _ _ _).alloc _;have Z:ai V (w+1) 28 dz:=by rw[d];have:=ai.new (w.alloc (.cells (aY x) 28)) 28 dz;simpa using this
 have uG:V.heap.size=w+2:=by rw[d];simp
 have yY:=ah (da x V (h.ae o) (by rw[hx];exact CS));have yS:=ah fun(W:Wd) (j:Bl V V W) (g:Nat) (k:ai W g 139 #[(2:Int),(1:Int)])=>kDo x g W ((h.ae o).ae j) k hx;have HB:=ah o;have u:=ah I;have n:=ah Z;clear h hx o I Z;go_in;go_wp2_with(first|(rw[<-d];clear d)|refine wA u t28 rfl ?_);refine av yY fun w1 b1=> ?_;have uA:=ah b1;clear b1;go_wp2_with fail;refine(Uo w1).mono ?_;rintro e b ⟨g,rfl,k,-,b2⟩;have Q:=aa uA b2;have D:Hid (ai (b.alloc (.cells wT 95)) b 95 wT):=ai.new _ _ _;obtain⟨X,p⟩:=nm ((b.alloc (.cells wT 95)).setRow b (DE g));have z:Bl b b X:=p▸aD;have yT:Hid (ai X b 95 (DE g)):=by rw[p];exact ai.row D _
 have m:=ah (aa Q z);have yX:=ah (k.ae z k.lt);have uB:=ah (u.ae m u.lt);have uH:=ah (n.ae m n.lt);have yZ:=ah (yS X m g yX);clear Q z k b2;rw[show qW (kQ g)=DE g from rfl];go_wp2_with(first|(rw[<-p];clear p D)|refine wB D fi rfl ?_|refine wA uB t28 rfl ?_|refine wA yT t95 rfl ?_);refine yZ.out.mono ?_;rintro e a ⟨y,bK,s,⟨v,Tn,F⟩,M,rfl,N,H,U,R,O,b4⟩
 dsimp only at O
 subst O;have yW:=m.size;have C:Hid (ai (a.alloc (.cells dz 28)) a 28 dz):=ai.new _ _ _;obtain⟨Y,q⟩:=nm ((a.alloc (.cells dz 28)).setRow a (aY y));have i:Bl a a Y:=q▸aD;have t:Hid (ai Y a 28 (aY y)):=by rw[q];exact ai.row C.out _
 have uK:=b4.size;have uE:=i.size;have T:=ah (aa m (aa b4 i));have uC:Hid (gV X Y y):=U.ae i;have yR:Hid (TS Y v 4 M):=(R.et jg).ae i;have P:=ah (n.ae T n.lt);have Hy:=ah H;have yI:=ah N;have uF:=t.lt;clear U R b4 i H N;go_wp2_with(first|(rw[<-q];clear q C)|refine wB C.out aT rfl ?_);have r0:ai Y.drew a 28 (aY y):=t.drew;refine bW (fun W=>ai W a 28 (aY y)) (fun _=>True) #[] [4,5] 0 [0,1,2,3,4,5,6,7] (by kernel_rfl) (by kernel_rfl) r0 trivial ?_;refine jE rfl (some 57) rfl rfl rfl (fun _ _ _ _ h=>h) _ _ rfl (fun W j _=>j) rfl underlying28 rfl aT rfl ?_
 iterate 3
  refine lqe rfl (fun _ _ _ _ h=>h) ⟨?_,fun W j _=> ?_,?_⟩;rotate_left
  ·go_simp
   try rfl
 refine el 33 #[.string s,.slice v 4 F] rfl rfl (some 61) rfl rfl rfl (by go_simp) ?_;refine(kl1 s v F M Y.drew (yR.ae bR.drew)).mono ?_;rintro e r ⟨E,G,L,rfl,J,b5⟩;have f:Bl Y Y r:=aa bR.drew b5;have uI:=f.size;have B:ai r a 28 (aY y):=t.ae f t.lt;refine⟨_,rfl,B,trivial,?_⟩;have S:Hid (ai r (w+1) 28 dz):=P.ae f P.lt;have uJ:V.heap.size<=X:=yW;refine qn rfl rfl rfl rfl rfl 28 (.tmp 4) (.tmp 57) rfl (w+1) (aY y) (by go_simp) (by go_simp) S aT rfl rfl rfl ?_;intro c l;have A:aU (w+1) r c:=l▸aU.row _ _;have K:ai c a 28 (aY y):=l▸ai.gu B (by omega) _;have HR:Hid (ai c (w+1) 28 (aY y)):=by rw[l];exact ai.row S _
 have yV:Hid (gV w c y):=((uC.ae f).on A (by omega)).mono (by omega);have yU:Hid (fY c w E 5 G L):=aS (aV A J (by show w.heap.size+1<Y;omega)) (by show w.heap.size<=Y;omega)
 have uD:Hid (Bl w w c):=by
  show Bl _ _ _;rw[l];exact aH (aa HB (aa T f)) (by omega) _
 refine⟨K,trivial,?_⟩
 iterate 2
  refine lqe rfl (fun _ _ _ _ h=>h) ⟨?_,fun W j _=> ?_,?_⟩;rotate_left
  ·go_simp
   try rfl
 refine ew ?_;clear r0 B K J b5 f l A;simp only[aP,aW];go_wp2;refine fV (cs:=aY y) rfl HR rfl rfl rfl underlying28 rfl aT rfl rfl ?_;exact⟨y,bK,⟨E,5,G⟩,L,rfl,yI,Hy,yV,yU,rfl,uD⟩
abbrev Bs:Array Vl:= #[(1:Int),.string m8,(),(),(),()]
theorem Ej(w:Wd):Cs prog 32 #[.agg Bs] w (an () w):=by
 have hs:m8.size=40:=by kernel_rfl
 go_in;go_wp2;go_ret;refine⟨rfl,?_⟩;exact aC
theorem Sm(w:Wd):Cs prog 21 #[.agg Bs] w (an (.iface 73 (.string m8)) w):=by
 have b:=ah (Ej (w.alloc (.cells Bs 44)));go_in;go_wp2_with fail;refine av b fun a b2=> ?_;have k:ai (w.alloc (.cells Bs 44)) w 44 Bs:=ai.new _ _ _;have d:a.cell? w=some (.int .i64 1):=(k.ae b2 k.lt).cell 0;have e:a.cell? ⟨w,1,none⟩=some (.string m8):=(k.ae b2 k.lt).cell 1;have c:=ah b2;clear b2;go_wp2;go_ret;exact⟨rfl,aa (aA) c⟩
theorem Nj(w:Wd):(Instr.typeAssert (.iface 73 (.string m8)) 71 73 true).run prog w=.ok (.tuple #[.string m8,true]) w:=by rfl
theorem L9(x:Sr)(w:Wd)(h:db w x)(hx:x.s=Ha):Cs prog 8 #[.agg (aY x),.agg Bs] w (S3 w):=by
 obtain⟨V,d⟩:=nm (((w.alloc (.cells (aY x) 28)).alloc (.cells Bs 44)).alloc (.cells dz 28));have i:Bl w w V:=by rw[d];exact(aC).alloc (by simp;omega) _
 have v:ai V w 28 (aY x):=by rw[d];exact((ai.new _ _ _).alloc _).alloc _
 have r:ai V (w+1) 44 Bs:=by rw[d];have:=(ai.new (w.alloc (.cells (aY x) 28)) 44 Bs).alloc (.cells dz 28);simpa using this
 have m:ai V (w+2) 28 dz:=by rw[d];have:=ai.new ((w.alloc (.cells (aY x) 28)).alloc (.cells Bs 44)) 28 dz;simpa using this
 have R:=ah (da x V (h.ae i) (by rw[hx];exact CS));have N:=ah fun(W:Wd) (b:Bl V V W)=>kln x W ((h.ae i).ae b) hx;have Q:=ah fun W=>Sm W;have o:=ah i;have k:=ah v;have p:=ah r;have q:=ah m;have yW:=m.lt;clear h hx i v r m;go_in;go_wp2_with(first|(rw[<-d];clear d)|refine wA k t28 rfl ?_);refine R.out.mono ?_;rintro e a ⟨rfl,b2⟩;have yU:=ah b2;have F:=ah (k.ae b2 k.lt);have f:=ah (p.ae b2 p.lt);have e0:a.cell? (w+1:Nat)=some (.int .i64 1):=f.cell 0;have G:a.cell? ⟨w.heap.size+1,1,none⟩=some (.string m8):=f.cell 1;have H:a.cell? ⟨w.heap.size+1,2,none⟩=some (():Vl):=f.cell 2;have I:a.cell? ⟨w.heap.size+1,3,none⟩=some (():Vl):=f.cell 3;have J:a.cell? ⟨w.heap.size+1,4,none⟩=some (():Vl):=f.cell 4;have K:a.cell? ⟨w.heap.size+1,5,none⟩=some (():Vl):=f.cell 5;clear b2;go_wp2_with fail;refine(Q a).mono ?_;rintro e y ⟨rfl,b3⟩;have j:=ah (aa yU b3);have yT:=ah (F.ae b3 F.lt);have E:=ah (q.ae j q.lt);clear b3 e0 G H I J K;have P:=Nj y;have S:=ah (N y j);go_wp2_with(first|rw[P]|refine wA yT t28 rfl ?_);refine S.out.mono ?_;rintro e B ⟨z,bK,T,C,rfl,D,hx,u,t,L,b5⟩;obtain⟨X,g⟩:=nm (B.setRow (w+2) (aY z));have on:aU (w+2) B X:=by rw[g];exact aU.row _ _
 have l:=E.ae b5 E.lt;have Z:=ah l;have yR:Hid (ai X (w+2) 28 (aY z)):=by rw[g];exact ai.row l _
 have yX:=j.size;have yV:=o.size;have yS:Hid (gV w X z):=(u.on on (by omega)).mono (by omega);have O:Hid (fY X w T.A T.n T.c C):=aS (aV on t (by omega)) (by omega);have U:Hid (Bl w w X):=by rw[g];exact aH (aa (aa o j) b5) (by omega) _
 have Y:=ah hx;have M:=ah D;clear on l u hx t b5 D;go_wp2_with(first|(rw[<-g];clear g)|refine wB Z aT rfl ?_)
 try rw[dM]
 refine fV (cs:=aY z) rfl yR rfl rfl rfl underlying28 rfl aT rfl rfl ?_;exact⟨z,bK,T,C,rfl,M,Y,yS,O,L,U⟩
theorem RF:bt (BB kL):=(mX ⟨by simp[BB,jB,kP,ix,kJ],by simp[BB],by simp[BB]⟩).1 (by kernel_rfl)
theorem Uf{bK:List Us}(h:fm bK=true):bt (BB bK):=Ew RF h
def StW(p:St->Prop)(k:Nat)(w:Wd)(e:Ed)(w':Wd):Prop:=∃(z:Sr) (A:OA) (c:Nat) (a:List Ou),e=.returned (.tuple #[.agg (aY z),.slice A k c,()])/\p z.s/\gV w w' z/\fY w' w A k c a/\Bl w w w'
def p0(s:St):Prop:=s=Ha
def p1(s:St):Prop:=∃bK,fm bK=true/\s=BB bK
def p2(s:St):Prop:=s.aj=[kE]
theorem UP(x:Sr)(w:Wd)(h:db w x)(hx:p0 x.s):Cs prog 8 #[.agg (aY x),.agg Bs] w (StW p1 5 w):=(L9 x w h hx).mono fun e w' ⟨y,bK,T,i,h1,h2,b,d,f,a,g⟩=>by
 obtain⟨A,n,c⟩:=T
 dsimp only at a
 subst a;exact⟨y,A,c,i,h1,⟨bK,h2,b⟩,d,f,g⟩
theorem UQ(x:Sr)(w:Wd)(h:db w x)(hx:p1 x.s):Cs prog 8 #[.agg (aY x),.agg sn] w (StW p2 3 w):=by
 obtain⟨bK,g,hx⟩:=hx;refine(vt x w h (by rw[hx];exact Uf g) (by rw[hx];show(0:Int)<1000000;omega)).mono fun e w' ⟨y,T,i,n,h1,h2,a,b,j,k,d⟩=> ?_;rw[hx]at a;obtain⟨h8,rfl⟩:=Lb a;obtain⟨A,n,c⟩:=T;have f:=b.1
 dsimp only at f
 obtain rfl:n=3:=by omega
 exact⟨y,A,c,i,h1,h8,h2,b,d⟩
def Gc(p:St->Prop)(k B Q:Nat)(V:Wd)(X Y:Vl)(i:Int)(W:Wd):Prop:=X=.int .i64 i/\∃(z:Sr) (A:OA) (c:Nat) (a:List Ou),Y=.slice A k c/\p z.s/\ai W Q 28 (aY z)/\db W z/\(k=0->A=none)/\(0<k->gV B W z)/\fY W B A k c a/\Bl V V W
def RunW(w:Wd)(e:Ed)(w':Wd):Prop:=∃(z:Sr) (A:OA) (c:Nat),e=.returned (.tuple #[.agg (aY z),.slice A 8 c,(2:Int),()])/\z.s.aj=[kE]/\gV w w' z/\Bl w w w'
theorem ev_rg{W:Wd}{E:Nat}(h:ai W E 44 (Bs++sn)):W.rangeAt E 0 (Bs:Array Vl).toList/\W.rangeAt E 6 (sn:Array Vl).toList:=⟨fun j v a=>by
  rw[h.cell (0+j)]
  match j,a with
  |0,a|1,a|2,a|3,a|4,a|5,a=>exact a,fun j v a=>by
  rw[h.cell (6+j)]
  match j,a with
  |0,a|1,a|2,a|3,a|4,a|5,a=>exact a⟩
theorem krun(x:Sr)(E:Nat)(w:Wd)(h:db w x)(hx:x.s=Ha)(L:ai w E 44 (Bs++sn)):Cs prog 20 #[.agg (aY x),.slice E 2 2] w (RunW w):=by
 obtain⟨V,v⟩:=nm ((w.alloc (.cells (aY x) 28)).alloc (.cells dz 28));have C:Bl w w V:=v▸aC;have kV:ai V w 28 (aY x):=v▸(ai.new _ _ _).alloc _;have zV:ai V (w+1) 28 dz:=by rw[v];have:=ai.new (w.alloc (.cells (aY x) 28)) 28 dz;simpa using this
 have hVs:V.heap.size=w+2:=by rw[v];simp
 have uY:=ah (da x V (h.ae C) (by rw[hx];exact CS));have qI:=ah fun(W:Wd) (b:Bl V V W)=>gQ x W ((h.ae C).ae b);have HB:=ah C;have T:=ah kV;have HZ:=ah zV;have HE:=ah (L.ae C L.lt);have HX:=ah hx;have hEl:=L.lt;clear h hx C kV zV L;go_in;go_wp2_with(first|(rw[<-v];clear v)|refine wA T t28 rfl ?_);refine av uY fun w1 b1=> ?_;have uO:=ah b1;have qA:=ah (T.ae b1 T.lt);clear b1;go_wp2_with(refine wA qA t28 rfl ?_);refine(qI w1 uO).mono ?_;rintro e a ⟨y,b1,b2,b3,b4,b5,rfl,uD,uI,-,uK⟩;have yP:Hid (ai (a.alloc (.cells dz 28)) a 28 dz):=ai.new _ _ _;obtain⟨X,D⟩:=nm ((a.alloc (.cells dz 28)).setRow a (aY y));have U:Bl a a X:=D▸aD;have uU:Hid (ai X a 28 (aY y)):=by rw[D];exact ai.row yP _
 have yU:=aa uO uK;have qM:=yU.size;have qG:Hid (db X y):=uI.Tw.am.ae U;have qB:Hid (p0 y.s):=by show y.s=Ha;rw[uD,HX.out]
 have uM:=ah (aa yU U);have hXs:X.heap.size=a+1:=by rw[D,fE];simp
 clear uD uI uK yU U;go_wp2_with(first|(rw[<-D];clear D yP)|refine wB yP aT rfl ?_)
 go_loopw [26,9] (fun i t wr=>Gc p0 0 (a+1) a V i t 0 wr\/Gc p1 5 (a+1) a V i t 1 wr\/Gc p2 8 (a+1) a V i t 2 wr) (fun i _ _=>2-(intOf i).toNat)
 case atStart=>exact .inl ⟨rfl,y,none,0,[],rfl,qB.out,uU,qG.out,fun _=>rfl,fun h=>absurd h (by omega),be.nil _ _ _ _,uM⟩
 case round=>
  rcases hrel with⟨rfl,z,A,c,F,rfl,r,o,hi,G,J,q,n⟩|⟨rfl,z,A,c,F,rfl,r,o,hi,G,J,q,n⟩|⟨rfl,z,A,c,F,rfl,r,o,hi,G,J,q,n⟩
  iterate 2
   ·have N:=ah o;have uE:=ah hi;have uV:=ah q;have yS:=ah n;have uZ:=n.size;have qK:=o.lt
    have uJ:∀g,A=some ⟨g,0,none⟩->a<g/\g<wr:=fun g e=>by
     have:=sV q.2 (by first|exact .inl (G rfl)|exact .inr (by have:=q.2.le;omega)) e;omega
    have uA:=ah uJ;have yW:=HE.ae n HE.lt;have uG:=ah (ev_rg yW);have M:Hid (ai (wr.alloc (.cells #[(),.string ⟨#[]⟩,(),(),(),()] 44)) wr 44 #[(),.string ⟨#[]⟩,(),(),(),()]):=ai.new _ _ _
    first
     |(have uN:=ah fun(W:Wd) (b:Bl wr wr W)=>UP z W (hi.ae b) r;obtain⟨m,B⟩:∃m,m=(wr.alloc (.cells #[(),.string ⟨#[]⟩,(),(),(),()] 44)).setRow wr Bs:=⟨_,rfl⟩;have uH:Hid (ai m wr 44 Bs):=by rw[B];exact ai.row M _)
     |(have uN:=ah fun(W:Wd) (b:Bl wr wr W)=>UQ z W (hi.ae b) r;obtain⟨m,B⟩:∃m,m=(wr.alloc (.cells #[(),.string ⟨#[]⟩,(),(),(),()] 44)).setRow wr sn:=⟨_,rfl⟩;have uH:Hid (ai m wr 44 sn):=by rw[B];exact ai.row M _)
    have H:Bl wr wr m:=B▸aD;have qH:=ah (o.ae H o.lt);have uX:=ah (uN m H);have yT:=ah H;have h1s:=H.size;clear r o hi q n J G yW H uJ;go_wp2_with(first|(rw[<-B];clear B M)|refine wB M GO rfl ?_|refine wC uG.1 t44 rfl ?_|refine wC uG.2 t44 rfl ?_|refine wA qH t28 rfl ?_|refine wA uH t44 rfl ?_);refine uX.out.mono ?_;rintro e k ⟨d,A',c',t',rfl,uL,uC,uP,b5⟩;have yR:Hid (ai (k.alloc (.cells dz 28)) k 28 dz):=ai.new _ _ _;obtain⟨p,R⟩:=nm ((k.alloc (.cells dz 28)).setRow k (aY d));have I:Bl k k p:=R▸aD;have yY:Hid (ai p k 28 (aY d)):=by rw[R];exact ai.row yR _
    have S:Bl wr wr p:=aa yT (aa b5 I);have qL:=b5.size;have h3s:=I.size;have qC:=yY.lt;obtain⟨A9,c9,u,yI,o9,K,yQ,-⟩:=dy jg (P:=prog) p.drew (a+1) 38 38 92 _ 80 underlying38 ja rfl A _ c F ((uV.ae S).ae bR.drew) A' _ c' t' ((uP.et jg).ae (I.drew)) (by simp[maxLen]) (by omega) (by show a.heap.size+1<=p;omega);have qF:=ah yI;have r0:ai p.drew k 28 (aY d):=yY.drew;have Z:ai u k 28 (aY d):=(yQ k qC fun e=>by have:=uA.out _ e;omega).trans r0;have uQ:Hid (ai u a 28 (aY z)):=((N.ae S N.lt).drew).ae K (by omega);have qD:=K.size;have uS:p.heap.size<=u.heap.size:=qD
    have yZ:Hid (∀W,u.heap.size<=W.heap.size->(∀b,a.heap.size+1<=b->b<u.heap.size->W.heap[b]?=u.heap[b]?)->db W d):=fun W s f=>uC W (by omega) fun b h1 h2=>by
     rw[f b (by omega) (by omega)];exact(yQ b (by show b<p;omega) fun e=>by have:=uA.out _ e;omega).trans (I.block b h2)
    have uW:=ah o9;have uT:Hid (Bl V V u):=(yS.trans (S.drew.mono uZ)).trans (K.mono (by omega));have uB:=ah uL;clear yI o9 K yQ uP uC b5 S uL I;go_wp2_with(first|(rw[<-R];clear R yR)|refine wB yR aT rfl ?_);refine lqb (fun W=>ai W k 28 (aY d)) [3,4] [0,1,2,3,4,5] (by kernel_rfl) (by kernel_rfl) r0 ?_;refine jE rfl (some 44) rfl rfl rfl (fun _ _ _ _ h=>h) _ _ rfl (fun W Y _=>Y) rfl underlying28 rfl aT rfl ?_
    iterate 2
     refine lqe rfl (fun _ _ _ _ h=>h) ⟨?_,fun W Y _=> ?_,?_⟩;rotate_left
     ·go_simp
      try rfl
    refine gN rfl rfl (rq (some 47) (.tmp 45) (.tmp 46) rfl rfl rfl rfl (by go_simp) (by go_simp) qF fun Wm qE=> ?_);subst qE;refine⟨Z,trivial,?_⟩;refine qn rfl rfl rfl rfl rfl 28 (.tmp 10) (.tmp 44) rfl a (aY d) (by go_simp) (by go_simp) uQ aT rfl rfl rfl ?_;intro j l;have on:aU a Wm j:=l▸aU.row _ _;have rn:ai j k 28 (aY d):=l▸ai.gu Z (by omega) _;have yV:Hid (ai j a 28 (aY d)):=by rw[l];exact ai.row uQ _
    have Q:Hid (db j d):=yZ.out j on.size fun b h1 h2=>on.same b h2 (by omega);have uR:Hid (gV (a+1) j d):=gV.on (w:=Wm) yZ on (oS _);have uF:=ah (aV on uW (by omega));have O:Hid (Bl V V j):=by rw[l];exact aH uT (by omega) _
    refine⟨rn,trivial,?_⟩;refine lqe rfl (fun _ _ _ _ h=>h) ⟨?_,fun W Y _=> ?_,?_⟩;rotate_left
    ·go_simp
     try rfl
    refine ew ?_;clear r0 Z rn l on;simp only[aP,aW];go_wp2_with fail;exact⟨.inr (by first|exact .inl ⟨rfl,d,A9,c9,F++t',rfl,uB,yV,Q,fun h=>by omega,fun _=>uR,uF,O⟩|exact .inr ⟨rfl,d,A9,c9,F++t',rfl,uB,yV,Q,fun h=>by omega,fun _=>uR,uF,O⟩),by simp[intOf]⟩
  ·have N:=ah o;have uE:=ah (J (by omega));have qJ:=uM.size;have yS:=ah n;have Hp:=ah r;have yX:=ah (HZ.ae n HZ.lt);clear r o hi q n J G;obtain⟨j,l⟩:=nm (wr.setRow (w+1) (aY z));have on:aU (w+1) wr j:=l▸aU.row _ _;have HR:Hid (ai j (w+1) 28 (aY z)):=by rw[l];exact ai.row yX _
   have Q:Hid (gV w j z):=(uE.on on (by omega)).mono (by omega);have O:Hid (Bl w w j):=by rw[l];exact aH (aa HB yS) (by omega) _
   clear on;go_wp2_with(first|(rw[<-l];clear l)|refine wA N t28 rfl ?_|refine wB yX aT rfl ?_);refine Fq (cs:=aY z) rfl HR rfl rfl rfl rfl underlying28 rfl aT rfl rfl ?_;exact⟨z,A,c,rfl,Hp,Q,O⟩
abbrev U3:Array Vl:= #[(),(),(),false,(),(),(),(),(),(),false,(),(),(),(),(),(),false,(),(),(),(),(),(),false,(),(),()]
def Tf(g:Nat):Sr:=⟨Ha,[],⟨some g,4,4⟩,⟨none,0,0⟩,⟨none,0,0⟩,⟨none,0,0⟩,⟨none,0,0⟩⟩
theorem Ui(w:Wd):db (w.alloc (.cells U3 34)) (Tf w):=by
 have o:mK (w.alloc (.cells U3 34)) w w 4 4 [kN,kN,kN,kN]:=⟨rfl,eY.Hq w w 7 _ U3 4 lr (by simp[maxLen]) rfl⟩;refine⟨o.et mb,⟨cp.nil _ _ _ _,fun r a=>by cases a⟩,rfl,cp.nil _ _ _ _,cp.nil _ _ _ _,cp.nil _ _ _ _,⟨cB _,by show 4<=1000;omega,fun e=>by cases e⟩,⟨cB _,by show 0<=1000;omega,fun _=>rfl⟩,⟨cB _,by show 0<=1000;omega,fun _=>rfl⟩,⟨cB _,by show 0<=1000;omega,fun _=>rfl⟩,⟨cB _,by show 0<=1000;omega,fun _=>rfl⟩,fun r a=>by simp[Tf,Ha]at a⟩
theorem Lo(W:Wd):(Instr.makeSlice 22 (4:Int) (4:Int)).run prog W=.ok (.slice W 4 4) (W.alloc (.cells U3 34)):=by
 obtain⟨b,hi,c,d,e⟩:=sB nodeInfo;have:=run_make (P:=prog) W 22 34 b _ underlying22 hi c .i64 .i64 4 4 (by omega) (by omega) (by rw[e];omega) (by omega);rw[d]at this;rw[this];have a:madeCells (Value.agg #[(),(),(),false,(),(),()]).cells (Int.toNat 4*7)=U3:=by kernel_rfl
 rw[a];rfl
def KRel(B:Nat)(b:Wd)(Z Y N a:Vl)(W:Wd):Prop:=∃J z A c,Z=.pointer (some ⟨J,0,none⟩)/\Y=.slice A 8 c/\N=.int .i64 2/\a=.int .i64 0/\ai W J 28 (aY z)/\z.s.aj=[kE]/\db W z/\Bl B b W
theorem eV(w:Wd):Cs prog 7 #[] w (an true w):=by
 obtain⟨U,k⟩:=nm (w.alloc (.cells U3 34));have D:Bl w w U:=by rw[k];exact aA
 have K:db U (Tf w):=by rw[k];exact Ui w
 obtain⟨V,o⟩:=nm (U.alloc (.cells (aY (Tf w)) 28));have t:Bl U U V:=by rw[o];exact aA
 have C:Hid (ai V (w+1) 28 (aY (Tf w))):=by rw[o,show w.heap.size+1=U.heap.size by rw[k];simp];exact ai.new _ _ _
 have S:=ah (K.ae t);have R:=ah (aa D t);have yQ:U.heap.size=w+1:=by rw[k];simp
 clear D K t;go_in;have O:=Lo w;go_upto_region 2 with(first|(rw[O];clear O)|(rw[<-k];clear k)|(rw[<-o];clear o)|(refine Qb rfl 28 _ rfl (aY (Tf w)) ?_ ?_;·kernel_rfl))
 go_cut [2,3,4,5] (fun Z Y N Q wr=>KRel V V Z Y N Q wr)
 case first=>
  have X:=ah fun(W:Wd) (a:Bl V V W) (E:Nat) (T:ai W E 44 (Bs++sn))=>krun (Tf w) E W (S.ae a) rfl T;have y:Bl V V V.drew:=bR.drew;refine bW (fun W=>Bl V V W) (fun _=>True) #[] [2,3,4,10,11] 13 [0,1,2,3,4,5,6,7,8,9,10,11,12,13,14] (by kernel_rfl) (by kernel_rfl) y trivial ?_;refine jE rfl (some 9) rfl rfl rfl (fun _ _ _ _ h=>h) _ _ rfl (fun W a _=>C.ae a C.lt) rfl underlying28 rfl aT rfl ?_;refine Tp rfl rfl rfl (fun _ _ _ _ h=>h) 44 _ rfl Bs (by kernel_rfl) ?_;refine mP 13 rfl ?_;obtain⟨W,B⟩:=nm V.drew;have bl:Bl V V W:=by rw[B];exact y
  rw[<-B];clear B y
  iterate 4
   all_goals
    refine qY [2,3,4,10] (by kernel_rfl) ?_;intro i hi g;simp only[dK,lF,oV]at hi;rcases hi with rfl|rfl|rfl|rfl
   all_goals first
    |(refine C7 g ?_;decide+kernel)
    |(clear g
      rename Wd=>U1
      refine ea 9 #[] (some 11) rfl rfl (a8 rfl _) (by go_simp) ?_;refine(qS U1).mono ?_;rintro e W ⟨rfl,d⟩
      try replace f:=f.ae d f.lt
      replace bl:=aa bl d;refine⟨_,rfl,bl,?_⟩;clear d)
    |(clear g
      rename Wd=>U1
      obtain⟨E,u⟩:=nm U1.heap.size;refine eS (.slice U1 2 2) (U1.alloc (.cells (Bs++sn) 44)) (some 12) rfl rfl (a8 rfl _) (by first|(go_simp;done)|(go_simp;rw[mk_evs];rfl)|(go_simp;rw[mk_evs])) fun W a=> ?_;have d:Bl U1 U1 W:=by rw[a];exact aA
      have l:ai W E 44 (Bs++sn):=by rw[a,u];exact ai.new _ _ _
      rw[<-u]
      try replace f:=f.ae d f.lt
      replace bl:=aa bl d;refine⟨bl,?_⟩;clear a d u)
    |(clear g
      rename Wd=>U1
      obtain⟨J,m⟩:=nm U1.heap.size;refine eS (.pointer J) (U1.alloc (.cells dz 28)) (some 2) rfl rfl (a8 rfl _) (by rw[m];go_simp) fun W a=> ?_;have d:Bl U1 U1 W:=by rw[a];exact aA
      have f:ai W J 28 dz:=by rw[a,m];exact ai.new _ _ _
      have z6:V.heap.size<=J:=by rw[m];exact bl.size
      try replace l:=l.ae d l.lt
      try have v:db (W.setRow J (aY z)) z:=x.am.ae (aH d (by omega) _)
      replace bl:=aa bl d;refine⟨bl,?_⟩;clear a d m)
    |(clear g
      rename Wd=>U1
      refine ea 20 #[.agg (aY (Tf w)),.slice E 2 2] (some 13) rfl rfl (a8 rfl _) (by go_simp) ?_;refine(X U1 bl E l).mono ?_;rintro e W ⟨z,A,c,rfl,L,x,d⟩
      try have zl:=f.lt
      try replace f:=f.ae d f.lt
      try have v:db (W.setRow J (aY z)) z:=(x.on (aU.row _ _) zl).am
      replace bl:=aa bl d;refine⟨_,rfl,bl,?_⟩;clear d l;refine cx (i:=5) (some 8) rfl rfl (by kernel_rfl) rfl (fun _ _ _ _ h=>h) bl ⟨?_,fun W a=> ?_,?_⟩;rotate_left
      ·go_simp
       try rfl
      refine cx (i:=6) (some 14) rfl rfl (by kernel_rfl) rfl (fun _ _ _ _ h=>h) bl ⟨?_,fun W a=> ?_,?_⟩;rotate_left
      ·go_simp
       try rfl
      refine cx (i:=7) (some 15) rfl rfl (by kernel_rfl) rfl (fun _ _ _ _ h=>h) bl ⟨?_,fun W a=> ?_,?_⟩;rotate_left
      ·go_simp
       try rfl
      refine cx (i:=8) (some 16) rfl rfl (by kernel_rfl) rfl (fun _ _ _ _ h=>h) bl ⟨?_,fun W a=> ?_,?_⟩;rotate_left
      ·go_simp
       try rfl
      refine cx (i:=9) (some 17) rfl rfl (by kernel_rfl) rfl (fun _ _ _ _ h=>h) bl ⟨?_,fun W a=> ?_,?_⟩;rotate_left
      ·go_simp
       try rfl)
  all_goals
   refine dg (i:=11) (by kernel_rfl) (cv 28 (.tmp 2) (.tmp 14) J (aY z) rfl rfl rfl (a8 rfl _) (by go_simp) (by go_simp;try rfl) f aT rfl rfl ?_);intro s q;have yN:Hid (ai s J 28 (aY z)):=by rw[q];exact ai.row f _
   have b4:Bl V V s:=by rw[q];exact aH bl z6 _
   have yJ:Hid (db s z):=by rw[q];exact v
   have yM:=ah L;refine⟨b4,?_⟩;refine cx (i:=12) (some 3) rfl rfl (by kernel_rfl) rfl (fun _ _ _ _ h=>h) b4 ⟨?_,fun W a=> ?_,?_⟩;rotate_left
   ·go_simp
    try rfl
   refine cx (i:=13) (some 4) rfl rfl (by kernel_rfl) rfl (fun _ _ _ _ h=>h) b4 ⟨?_,fun W a=> ?_,?_⟩;rotate_left
   ·go_simp
    try rfl
   refine cx (i:=14) (some 5) rfl rfl (by kernel_rfl) rfl (fun _ _ _ _ h=>h) b4 ⟨?_,fun W a=> ?_,?_⟩;rotate_left
   ·go_simp
    try rfl
   refine wpAnyH_done (by kernel_rfl) ?_ _;have yI:=ah b4;clear bl f b4 q v x L;simp only[aP,aW];go_wp2;go_meet;exact⟨J,z,A,c,rfl,rfl,rfl,rfl,yN,yM,yJ,yI⟩
 case rest=>
  obtain⟨J,z,A,c,rfl,rfl,rfl,rfl,F,H,hi,G⟩:=hcut;have p:=hi.jr;rw[H]at p
  have yL:z.J.n=1:=by
   have h1:=hi.aj.rows.cb;have h2:=cO List.length p;simp at h2;omega
  obtain⟨b,off,r,M,yP,I,g⟩:=(hi.aj.rows).at_ (i:=0) (by omega)
  have P:r.j=kE:=by
   have h1:z.jr.map Jr.j=[kE]:=p;have h2:(z.jr.map Jr.j)[0]?=some r.j:=by rw[dD,I];rfl
   rw[h1]at h2;simpa using h2.symm
  have yO:wc.cell? ⟨b,off+11,none⟩=some (.int .i64 5):=by
   have:=g 11 r.j.st rfl;rw[P,kE_st]at this;simpa using this
  have j2:wc.cell? ⟨J,2,none⟩=some (.slice (some ⟨b,off,none⟩) 1 z.J.c):=by
   have:=F.cell 2;rw[this];show some (Value.slice z.J.A z.J.n z.J.c)=_;rw[M,yL]
  have yK:=ah (aa R G);clear F H hi G p g I P M;go_wp2_with fail;go_ret;exact⟨rfl,yK⟩
def QI(s:St)(w:Wd)(e:Ed)(w':Wd):Prop:=∃(z:Sr) (T:Vl) (a:Int),e=.returned (.tuple #[.agg (aY z),T,a])/\Bl w w w'/\((a=0/\(∃n,pS s z.s n)/\gV w w' z)\/a=153)
theorem P1(z:Sr)(w:Wd)(h:db w z)(g:bt z.s):Cs prog 8 #[.agg (aY z),.agg sn] w (QI z.s w):=by
 by_cases hn:z.s.am<1000000
 ·exact(vt z w h g hn).mono fun e w' ⟨y,T,i,n,h1,h2,a,c,d,f,b⟩=>⟨y,_,0,h1,b,.inl ⟨rfl,⟨n,a⟩,h2⟩⟩
 ·have:=g.am;simp[bZ]at this;exact(PV z w h g (by omega)).mono fun e w' ⟨h1,h2⟩=>⟨⟨⟨0,[],[],[],[],[],0,0⟩,[],⟨none,0,0⟩,⟨none,0,0⟩,⟨none,0,0⟩,⟨none,0,0⟩,⟨none,0,0⟩⟩,_,153,h1,h2,.inr rfl⟩
end Go.Proofs.YthfhilggbbobmaaGreatDoor
