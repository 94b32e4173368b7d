/- Parts of the proof. -/
import Derived.Test.YthfhilggbbobmaaGreatDoorK33
import Derived.Test.YthfhilggbbobmaaGreatDoorK35
import Derived.Test.YthfhilggbbobmaaGreatDoorK36
set_option linter.all false
set_option maxHeartbeats 20000000
namespace Go.Proofs.YthfhilggbbobmaaGreatDoor
set_option maxRecDepth 100000
open Go.Proofs.Tryz
open Go renaming World->Wd,Ending->Ed,Calls->Cs
open Go.RowKit renaming Below->Bl
open Go.RowKit
def EF(am:Int)(aj:List Jb)(id:Int):Bool:=((eh aj id).map fun j=>decide (am<j.pm)).getD false
theorem Rf:∀args w,(callFunc 188 args).run prog w=.ok (.enter 188 args) w:=enters_of func188 (by kernel_rfl) rfl
theorem N6(x:Sr)(b:Nat)(id:Int)(w:Wd)(g:ai w b 28 (aY x))(h:db w x)(t:0<=x.s.am):Cs prog 188 #[id,.pointer b] w (an (EF x.s.am x.s.aj id:Bool) w):=by
 have i:=ah (m4 x.J.A x.J.n x.J.c x.jr id w h.aj (by have:=h.fg.cf;omega) h.fg.le);rw[h.jr]at i;have k:=ah g;have o:=g.cell 2;simp at o;have B:=ah t;clear h g t;go_in;go_wp2_with fail;refine i.out.mono ?_;rintro e a ⟨r,rfl,y,b4,p,q,-⟩;have f:Hid (ai (a.alloc (.cells cP 51)) a 51 cP):=ai.new _ _ _;obtain⟨U,d⟩:=nm ((a.alloc (.cells cP 51)).setRow a (bk r));have l:Bl a a U:=d▸aD;have m:ai U a 51 (bk r):=d▸ai.row f _;have u:=ah (aa b4 l);have C:=m.cell 14;have z:=(k.ae u k.lt).cell 0;simp at C z
 have v:Hid (EF x.s.am x.s.aj id=decide (x.s.am<r.j.pm)):=by
  show _=_;unfold EF
  cases hf:eh x.s.aj id with
  |none=>
   have hn:=B.out;rw[q hf];show false=decide (x.s.am<0);rw[decide_eq_false (by omega)]
  |some j=>rw[p j hf];rfl
 clear b4 l m y o p q;go_wp2_with(first|(rw[<-d];clear d f)|refine wB f aK rfl ?_);go_ret;exact⟨ar v.symm,u⟩
def Qn(s:St)(w:Wd)(e:Ed)(w':Wd):Prop:=∃A n c a,e=.returned (.slice A n c)/\df w' w A n c (KQ s.am a s.aj)/\n<=40/\eT s.aj a/\Bl w w w'
theorem Rg(x:Sr)(w:Wd)(h:db w x)(d:fy x.s=true):Cs prog 99 #[.agg (aY x)] w (Qn x.s w):=by
 have p:0<=x.s.am:=by
  simp only[fy,ie,cH]at d;exact(ej.1 d.1.1.1.1).1
 obtain⟨V,l,a,g⟩:=az w (aY x) 28;have t:=ah (jT x V (h.ae a));have H:=ah fun(W:Wd) (b:Bl V V W)=>t7 x W ((h.ae a).ae b) d;rw[tY,d,cK rfl]at t;have F:=ah fun(W:Wd) (b:Bl V V W) (id:Int)=>N6 x w id W (g.ae b g.lt) ((h.ae a).ae b) p;have k:=ah a;have j:=ah g;have y:=Rf;clear h d a g p;go_in;go_wp2_with(first|(rw[<-l];clear l)|refine wA j t28 rfl ?_);refine av t fun z b1=> ?_;have f:=ah b1;have G:=ah (j.ae b1 j.lt);clear b1;go_wp2_with(refine wA G t28 rfl ?_);refine(H _ f).mono ?_;rintro e o ⟨A,n,c,i,rfl,m,hn,r,b2⟩;have L:=ah (aa f b2);have D:=ah r;have C:=ah (Ez 188 w (EF x.s.am x.s.aj) z A c o y (fun id W fr=>F W (aa f ((b2.trans fr.du))) id) n _ o (Fr.refl b2.size _ _) m (by omega));have v:Hid ((eu i x.s.aj).length=n):=m.1;have B:=ah b2;clear b2 r;go_wp2_with fail;refine C.out.mono ?_;rintro e K ⟨rfl,q,u⟩;have I:=ah q;have J:=ah u.du;clear q u;go_wp2;go_ret;refine⟨A,_,c,i,rfl,aS I (cF k.size f.size),?_,D,aa k (aa f (B.trans J))⟩;have h1:((eu i x.s.aj).filter (fun E=> !EF x.s.am x.s.aj E)).length<=(eu i x.s.aj).length:=l8 _ _;have:=v.out;omega
theorem FA(a b1 b2 b3 b4 b5 P Q:Nat)(x:Sr)(T:Sl)(b:List Ou)(id:Int)(w:Wd)(h:gT w a b1 b2 b3 b4 b5 P x T b)(c:ai w Q 179 #[.pointer P])(hn:T.n+1<=1000000):
 Cs prog 96 #[id,.pointer Q] w (S7 a b1 b2 b3 b4 b5 P x T.A (b++[Pq 5 id 6]) w):=by
 have d:=ah (rh a b1 b2 b3 b4 b5 P x T b 5 id 6 w h hn);have j:=c.cell 0;simp at j;clear h c hn;go_in;go_wp2_with fail;refine d.out.mono ?_;rintro e k ⟨T2,rfl,g,f,i⟩;go_wp2_with fail
 first|go_end0|((try simp only[Exit.inBlock,Exit.then]);refine cU (lE rfl _ _ _) rfl ?_)
 exact⟨T2,rfl,g,f,i⟩
def QE(s:St)(b:Bool)(w:Wd)(e:Ed)(w':Wd):Prop:=∃(z:Sr) (T:Sl) (a:List Ou) (n:Int),e=.returned (.tuple #[.agg (aY z),T.v,()])/\gV w w' z/\tq s b z.s n/\fY w' w T.A T.n T.c a/\(a.length:Int)=n/\a.length<=10000/\Bl w w w'
theorem zH(x:Sr)(yD:Bool)(w:Wd)(h:db w x)(g:bt x.s):Cs prog 42 #[.agg (aY x),yD] w (QE x.s yD w):=by
 obtain⟨V,hV⟩:=nm ((w.alloc (.cells (aY x) 28)).alloc (.cells dz 28));have bV:Bl w w V:=hV▸aC;have kV:ai V w 28 (aY x):=hV▸(ai.new _ _ _).alloc _;have zV:ai V (w+1) 28 dz:=by rw[hV];have:=ai.new (w.alloc (.cells (aY x) 28)) 28 dz;simpa using this
 have HCk:=ah (da x V (h.ae bV) g);have HCp:=ah fun(W:Wd) (b:Bl V V W)=>gQ x W ((h.ae bV).ae b);have HB:=ah bV;have HK:=ah kV;have HZ:=ah zV;have HG:=ah g;have hzl:=zV.lt;clear h g bV kV zV;go_in;go_wp2_with(first|(rw[<-hV];clear hV)|refine wA HK t28 rfl ?_);refine av HCk fun r b2=> ?_;have uJ:=ah b2;have HK2:=ah (HK.ae b2 HK.lt);clear b2;go_wp2_with(refine wA HK2 t28 rfl ?_);refine(HCp _ uJ).mono ?_;rintro e a ⟨y,b1,b2,b3,b4,b5,rfl,uC,uB,qK,bb⟩;obtain⟨F,yS⟩:=nm ((a.alloc (.cells (vF y ⟨none,0,0⟩) 181)).alloc (.cells #[.pointer a] 179));have s2:=uJ.size;have bq:Bl (a.alloc (.cells (vF y ⟨none,0,0⟩) 181)).heap.size (a.alloc (.cells (vF y ⟨none,0,0⟩) 181)) F:=yS▸aA;have E:Hid (gT F r b1 b2 b3 b4 b5 a y ⟨none,0,0⟩ []):=(gT.of uB qK).ae bq
 have HQ:Hid (ai F (a+1) 179 #[.pointer a]):=by
  show ai _ _ _ _;rw[yS];have:=ai.new (a.alloc (.cells (vF y ⟨none,0,0⟩) 181)) 179 #[.pointer a];simpa using this
 have b3q:Bl a a F:=yS▸aC;have S:=ah (aa (aa uJ bb) b3q);have uN:=ah uC;have hs3:=bb.size;have x0:=HQ.cell 0;have x2:=E.ce.cell 2;simp at x0 x2;have qE:gC (y.jr.map Jr.j)=true:=by rw[uB.jr,uC];exact ds.2 HG.aj
 have qM:=ah (N2 y.J.A y.J.n y.J.c y.jr F E.mE.aj E.aj.2.le E.aj.2.cz qE);rw[uB.jr,uC]at qM;clear uC uB qK bb bq b3q qE;go_wp2_with(rw[<-yS];clear yS);refine qM.out.mono ?_;rintro e w5 ⟨A,n,c,f,B,m,d,bO,rfl,hjb,uP,hn,hm,yJ,R⟩;obtain⟨H,yV⟩:=nm (w5.setCell ⟨a,2,none⟩ (.slice A n c));have HD6:=ah (E.bD R hjb (by omega) yV);have k5:=E.ce.ae R E.ce.lt;have y2:w5.cell? ⟨a,2,none⟩=some y.J.v:=k5.cell 2;have f2:=k5.ao 2;have uD:aU a w5 H:=yV▸aU.set _ _ _;have yZ:=HQ.ae R HQ.lt;have q5:=yZ.cell 0;simp at q5;have qJ:Hid (ai H (a+1) 179 #[.pointer a]):=(uD.same _ yZ.lt (by omega)).trans yZ;have hV4s:=HQ.lt;have HI6:Hid (df H F B m d bO):=aV uD uP (by omega);have uG:=E.du
 have U:Hid (Bl r F H):=by
  show Bl _ _ _;rw[yV];exact(R.mono (by omega)).setCell (p:=⟨a,2,none⟩) uG _
 have hsX6:F.heap.size<=H:=cF R.size uD.size;have HDo:=ah yJ;have hlm:=uP.1;clear hjb uP yJ R k5 uD yZ x0 x2;subst hlm;go_wp2_with(rw[<-yV];clear yV)
 go_loopw [43] (fun Z wr=>∃(k:Nat) (T:Sl) (G:List Ou),k<=bO.length/\Z=.int .i64 k/\gT wr r b1 b2 b3 b4 b5 a (y.bD f ⟨A,n,c⟩) T G/\G.length=k/\Fd a none T.A H wr/\Bl r H wr) (fun Z _=>bO.length-(intOf Z).toNat)
 case atStart=>exact⟨0,⟨none,0,0⟩,[],fK _,rfl,HD6,rfl,Fd.aX bR,cC _ _⟩
 case round=>
  obtain⟨k,T,G,hk,rfl,I,yT,N,qF⟩:=hrel;have u:=ah I;have uT:=ah N;have Y:=ah qF;have hsr:=N.size;have hTn:T.n=k:=by rw[<-yT];exact I.fe.1.symm
  have hI:=bS HI6 N.size fun g h1 h2=>N.same g (by omega) h2 (by simp);have Q:=ah (N.ce qJ (by omega) (by simp));clear I N qF;by_cases hlt:k<bO.length
  ·obtain⟨bl,ol,i,rfl,hb,hi,uV⟩:=(hI.et gi).int hlt;have HS1:=ah (FA r b1 b2 b3 b4 b5 a (a+1) _ T G i wr u Q (by omega));clear hI hi;go_wp2_with fail;refine HS1.out.mono ?_;rintro e w7 ⟨T2,rfl,C,yW,M⟩;have uA:=ah C;have uR:=ah (uT.trans M);have uS:=ah (Y.trans yW);clear C yW M uV;go_wp2_with fail;exact⟨⟨k+1,T2,_,by omega,by go_num,uA,by rw[cY,yT];rfl,uR,uS⟩,by simp[intOf];omega⟩
  ·obtain rfl:k=bO.length:=by omega
   obtain⟨wq,rfl⟩:=nm wr;have uY:=ru HG (uu HG.aj HG.wide.aj HDo);have uW:(y.bD f ⟨A,n,c⟩).s={x.s with aj:=f.map Jr.j}:=by show{y.s with aj:=f.map Jr.j}=_;rw[uN.out]
   have uF:Hid (bt (y.bD f ⟨A,n,c⟩).s):=by rw[uW];exact uY
   have HSy:=ah uW;have HPn:=ah (CI r b1 b2 b3 b4 b5 a (y.bD f ⟨A,n,c⟩) T G yD wq u uF (by omega));have L:=Q.cell 0;simp at L;clear hI uY uW;go_wp2_with fail;refine HPn.out.mono ?_;rintro e w7 ⟨l,J,T2,more,rfl,C,uK,yR,hm40,yW,M⟩;have uA:=ah C;have uR:=ah (uT.trans M);have uS:=ah (Y.trans yW);have HPr:=ah uK;have uX:=ah yR;have uQ:=ah ((uT.trans M).ce qJ (by omega) (by simp));have q7:=uQ.cell 0;simp at q7;have qC:=Dh uF uK;have uU:=ru uF qC;have qA:T2.n=bO.length+more.length:=by rw[<-C.fe.1,cY,yT]
   have HG3:=ah uU;have HDu:=ah (Rg ((y.bD f ⟨A,n,c⟩).bD l J) w7 C.mE (ya uU));have HRw:=ah C.row;have hP7:=C.ce.lt;clear C uK yR yW M qC uU L;go_wp2_with(refine wC HRw t28 rfl ?_);refine HDu.out.mono ?_;rintro e w8 ⟨DA,dn,dc,yH,rfl,uE,hdn,hor,b8⟩;obtain⟨D,yK⟩:=nm (KQ ((y.bD f ⟨A,n,c⟩).bD l J).s.am yH ((y.bD f ⟨A,n,c⟩).bD l J).s.aj);rw[<-yK]at uE;have hdl:=uE.1;have uZ:=ah uE;have uO:=ah yK;have HOr:=ah hor;have HD8:=ah (uA.ae b8);have X:=ah (uS.trans (b8.mono (by omega)));have HQ8:=ah (uQ.ae b8 uQ.lt);have hs8:=b8.size;have yQ:∀g,T2.A=some ⟨g,0,none⟩->g<w7:=uA.hT;have HTA:=ah yQ
   have hTQ:T2.A≠some ⟨a.heap.size+1,0,none⟩:=fun e=>by
    rcases uR.ta with e2|K
    ·rw[e2]at e;cases e
    ·have:=K _ e;omega
   have HTQ:=ah hTQ;clear uE hor b8 yK yQ hTQ;subst hdl;go_wp2
   go_loopw [60] (fun Z wr=>∃(o:Nat) (z:Sr) (q:Sl) (t:List Ou),o<=D.length/\Z=.int .i64 o/\gT wr r b1 b2 b3 b4 b5 a z q t/\bt z.s/\la (D.drop o) z.s t.length=la D ((y.bD f ⟨A,n,c⟩).bD l J).s ((G++more).length:Int)/\t.length<=100+65*o/\Fd a T2.A q.A w8 wr/\Bl r w8 wr) (fun Z _=>D.length-(intOf Z).toNat)
   case atStart=>exact⟨0,_,T2,_,fK _,rfl,HD8,HG3,rfl,by rw[cY,yT];omega,Fd.aX bR,cC _ _⟩
   case round=>
    obtain⟨o,z,q,t,hk2,rfl,I,hgz,qL,htl',O,hb'⟩:=hrel;have u:=ah I;have qD:=ah hgz;have HSt:=ah qL;have HF':=ah O;have uI:=ah hb';have hs':=O.size
    have hI:=ib (P:=fun b=>b<=a\/T2.A=some ⟨b,0,none⟩) O.size (fun b h1 h2=>O.same b (by have:¬b<=a:=(fun e=>h2 (.inl e));omega) h1 fun e=>h2 (.inr e)) uZ fun h0 b e K=>by
     obtain⟨g',e',q1,-⟩:=uZ.2.room h0;rw[e]at e';injection e' with e';injection e' with e';rcases K with K|K
     ·omega
     ·have:=HTA.out b K;omega
    have Q:=ah (O.ce HQ8 (by omega) HTQ);have hTn':q.n=t.length:=I.fe.1.symm;have L:=Q.cell 0;simp at L;clear I hgz qL O hb';by_cases uH:o<D.length
    ·obtain⟨bl,ol,i,rfl,hb,hi,uV⟩:=(hI.et gi).int uH
     have yI:D.drop o=i::D.drop (o+1):=by
      obtain⟨h1,h2⟩:=cA.1 hi;rw[dR h1,h2]
     have yX:=ah yI;have HS2:=ah (FG r b1 b2 b3 b4 b5 a z q t i wr u qD (by omega));clear hI hi yI;go_wp2_with fail;refine HS2.out.mono ?_;rintro e w9 ⟨z2,T3,more3,rfl,qG,hz3,hm3,hm65,hb3,hf3⟩;have HD3:=ah qG;have qB:=ah hz3;have HM3:=ah hm3;have HF3:=ah (HF'.trans hf3);have uM:=ah (uI.trans hb3);clear qG hz3 hm3 hb3 hf3 uV L;go_wp2_with fail;refine⟨⟨o+1,z2,T3,_,by omega,by go_num,HD3,?_,?_,by rw[cY];omega,HF3,uM⟩,by simp[intOf];omega⟩
     ·rw[qB.out];exact(zP (su z.s i) qD).kq
     ·have h1:=HSt.out;rw[yX.out,la]at h1;rw[qB.out,cY,Int.natCast_add,HM3.out];exact h1
    ·obtain rfl:o=D.length:=by omega
     have yY:(z.s,(t.length:Int))=la D ((y.bD f ⟨A,n,c⟩).bD l J).s ((G++more).length:Int):=by
      have h1:=HSt.out;rw[lH]at h1;exact h1
     have HX:Hid (tq x.s yD z.s (t.length:Int)):=by
      refine⟨f.map Jr.j,bO,l.map Jr.j,yH,HDo,?_,HOr,?_⟩
      ·rw[<-HSy.out];exact HPr
      ·rw[yY,uO.out];have e1:((y.bD f ⟨A,n,c⟩).bD l J).s={x.s with aj:=l.map Jr.j}:=by show{y.s with aj:=l.map Jr.j}=_;rw[uN.out]
       rw[e1]
       have e2:((G++more).length:Int)=(bO.length:Int)+changed (f.map Jr.j) (l.map Jr.j):=by
        rw[cY,yT,Int.natCast_add,uX.out]
       rw[e2,show y.s.am=x.s.am by rw[uN.out]]
     have qI:Hid (ai wr (w+1) 28 dz):=by
      have h1:=HZ.ae S HZ.lt;have h2:=(U.block _ (by omega)).trans h1;have h3:=(X.block _ (by omega)).trans h2;exact(uI.block _ (by omega)).trans h3
     have HBr:Hid (Bl w w wr):=(aa HB S).trans ((U.trans (X.trans uI)).mono (by have:=HB.size;omega));have hP:=u.du;have hne:a.heap.size≠w+1:=by omega
     have uL:a.heap.size+1≠w+1:=by omega
     clear hI yY L;go_wp2;refine bW (fun W=>ai W a 181 (vF z q)/\ai W (a+1) 179 #[.pointer a]) (fun _=>True) #[] [8] 0 [0,1,2,3,4,5,6,7,8,9,10] (by kernel_rfl) (by kernel_rfl) ⟨u.ce,Q⟩ trivial ?_;have k0:ai wr.drew a 181 (vF z q)/\ai wr.drew (a+1) 179 #[.pointer a]:=⟨u.ce,Q⟩
     iterate 8
      refine lqe rfl (fun _ _ _ _ h=>h) ⟨?_,fun W hW _=> ?_,?_⟩;rotate_left
      ·obtain⟨c0,c1,c2,c3,c4,c5,c6,c7,c8⟩:=Nq hW.1;have cq:=hW.2.cell 0;simp at cq;go_simp
       try rfl
     refine qn rfl rfl rfl rfl rfl 28 (.tmp 4) (.tmp 71) rfl (w+1) (aY z) (by go_simp) (by go_simp) qI aT rfl rfl rfl ?_;intro W9 yU;have k9:ai W9 a 181 (vF z q)/\ai W9 (a+1) 179 #[.pointer a]:=yU▸⟨ai.gu k0.1 hne _,ai.gu k0.2 uL _⟩;have HZ9:Hid (ai W9 (w+1) 28 (aY z)):=by rw[yU];exact ai.row qI _
     have qH:Hid (aU (w+1) wr W9):=by rw[yU];exact⟨(aU.row wr.drew (aY z)).size,(aU.row wr.drew (aY z)).same⟩
     have HB9:Hid (Bl w w W9):=by rw[yU];exact aH (nT HBr) (by omega) _
     refine⟨k9,trivial,?_⟩
     iterate 2
      refine lqe rfl (fun _ _ _ _ h=>h) ⟨?_,fun W hW _=> ?_,?_⟩;rotate_left
      ·go_simp
       try rfl
     refine ew ?_;clear k0 k9 yU;simp only[aP,aW];go_wp2;refine fV (cs:=aY z) rfl HZ9 rfl rfl rfl underlying28 rfl aT rfl rfl ?_;exact⟨z,q,t,_,rfl,((u.Tw.on qH (by omega)).mono (by have:=HB.size;omega)),HX,aS (aV qH u.fe (by omega)) (by omega),rfl,by omega,HB9⟩
theorem kIdle(bK:List Us):yd (qj bK):=by
 refine⟨by simp[qj,kN],rfl,fun j a=> ?_⟩;simp[qj]at a;subst a
 kernel_rfl
def SomeW(w:Wd)(e:Ed)(w':Wd):Prop:=∃a b:Int,e=.returned (.tuple #[a,b,true])/\Bl w w w'
theorem kone(x:Sr)(r:Jr)(w:Wd)(h:db w x)(B:eF w r)(bK:List Us)(hl:fm bK=true)(hx:x.s=qj bK)(d:r.j=kJ):Cs prog 258 #[.agg (aY x),.agg (bk r),(1000000:Int)] w (SomeW w):=by
 obtain⟨V,q⟩:=nm ((w.alloc (.cells (aY x) 28)).alloc (.cells (bk r) 51));have i:Bl w w V:=q▸aC;have Q:ai V w 28 (aY x):=q▸(ai.new _ _ _).alloc _;have C:ai V (w+1) 51 (bk r):=by rw[q];have:=ai.new (w.alloc (.cells (aY x) 28)) 51 (bk r);simpa using this
 have Y:=ah (jT x V (h.ae i));rw[show tY x.s=0 by rw[hx,tY,fy,show ie (qj bK)=true by kernel_rfl,show fm (qj bK).bK=true from hl];rfl]at Y;have T:=ah fun(W:Wd) (a:Bl V V W)=>je r W ((B.ae i).ae a);rw[show F5 r.j=0 by rw[d];kernel_rfl]at T;have yK:=ah fun(W:Wd) (a:Bl V V W) (g:Nat) (k:fs W g 1 [r.j.id])=>zy x g 1 1 [r.j.id] W ((h.ae i).ae a) (by rw[hx];kernel_rfl) k (by simp[maxLen]);have yN:=ah fun(W:Wd) (a:Bl V V W)=>fx r.A r.n r.c r.j.sh W ((B.ae i).ae a).sh;have K:=ah hx;have HJ:=ah d;have HB:=ah i;have o:=ah Q;have m:=ah C;have yP:=C.lt;clear h B hx d i Q C;go_in;go_wp2_with(first|(rw[<-q];clear q)|refine wA o t28 rfl ?_);refine av Y fun S b2=> ?_;have yO:=ah b2;have X:=m.ae b2 m.lt;have yJ:Hid (S.rangeAt (w+1) 0 (bk r).toList):=fun j v d=>by rw[cR,X.cell j,<-iS];exact d
 have yD:=ah (T S b2);clear b2 X;go_wp2_with(go_guarded;refine me _ _ rfl rfl yJ underlying51 rfl aK rfl ?_);refine ay yO yD fun f yL=> ?_;go_wp2_with fail;have D:Bl V V f.drew:=yL.drew;refine bW (fun W=>Bl V V W) (fun _=>True) #[] [3,4,7,11] 0 [0,1,2,5,6,8,9,10,3,4,7,11,12,13,14,15,16,17] (by kernel_rfl) (by kernel_rfl) D trivial ?_;refine jE rfl (some 17) rfl rfl rfl (fun _ _ _ _ h=>h) _ _ rfl (fun W a _=>o.ae a o.lt) rfl underlying28 rfl aT rfl ?_
 iterate 3
  refine lqe rfl (fun _ _ _ _ h=>h) ⟨?_,fun W a _=> ?_,?_⟩;rotate_left
  ·have z:=(m.ae a m.lt).cell 0;simp at z;go_simp
   try rfl
 refine yw rfl rfl rfl (fun _ _ _ _ h=>h) 48 _ rfl (b:=w.heap.size+1) (off:=4) (by simp[go_sem]) (cs:= #[r.j.sh.kd,.slice r.A r.n r.c,r.j.sh.mn,r.j.sh.mx,r.j.sh.wl]) (fun W a j v d=>by
  rw[(m.ae a m.lt).cell (4+j)]
  match j,d with
  |0,d=>exact d
  |1,d=>exact d
  |2,d=>exact d
  |3,d=>exact d
  |4,d=>exact d) underlying48 rfl zI rfl ?_
 iterate 3
  refine lqe rfl (fun _ _ _ _ h=>h) ⟨?_,fun W a _=> ?_,?_⟩;rotate_left
  ·have z:=(o.ae a o.lt).cell 0;simp at z;go_simp
   try rfl
 refine JB (.slice f 1 1) (f.drew.alloc (.cells #[r.j.id] 3)) rfl rfl (some 20) rfl rfl rfl (by go_simp) fun W a=> ?_;have b1:Bl f.drew f.drew W:=a▸aA;have P:fs W f 1 [r.j.id]:=a▸ip (l:=[r.j.id]) (ai.new f.drew 3 #[r.j.id]) rfl;have t:=aa D b1;refine⟨t,trivial,?_⟩;refine el 291 #[.agg (aY x),.slice f 1 1] rfl rfl (some 21) rfl rfl rfl (by go_simp) ?_;refine(yK W t _ P).mono ?_;rintro e W2 ⟨I,R,M,p,rfl,O,yR,yQ,-,b2,hR⟩;have u:=aa t b2;refine⟨_,rfl,u,trivial,?_⟩;refine el 189 #[JR r.A r.n r.c r.j.sh] rfl rfl (some 24) rfl rfl rfl (by go_simp) ?_;refine(yN W2 u).mono ?_;rintro e W8 ⟨J,N,rfl,G,y⟩;have E:=aa u y;refine⟨_,rfl,E,trivial,?_⟩
 have H:(tu p x.s.am 1000000 12 (AF r.j.sh)).fd=true:=by
  rw[hR (by rw[K.out];exact kIdle bK),K.out,HJ.out]
  kernel_rfl
 have Z:=ah (xC I R M p J (eO r.j.sh).length N (AF r.j.sh) x.s.am 1000000 W8 (O.ae y) (by unfold maxLen;omega) (ul (G.et qk)) (by have:=kY (s:=r.j.sh);omega) G.2.le);obtain⟨bs,U⟩:=nm (tu p x.s.am 1000000 12 (AF r.j.sh));rw[<-U]at Z H;have HF:=ah H;refine el 294 #[.slice I R M,.slice J (eO r.j.sh).length N,x.s.am,(1000000:Int),(12:Int)] rfl rfl (some 28) rfl rfl rfl (by go_simp) ?_;refine av Z fun W9 L=> ?_;rw[HF.out];have F:=aa E L;refine⟨_,rfl,F,trivial,?_⟩;have yM:=ah F;clear D t u E F b1 b2 y L G U O hR P H a
 iterate 6
  refine lqe rfl (fun _ _ _ _ h=>h) ⟨?_,fun W a _=> ?_,?_⟩;rotate_left
  ·go_simp
   try rfl
 refine ew ?_;simp only[aP,aW];go_wp2;go_ret3;exact⟨_,_,rfl,aa HB yM⟩
open Go renaming Value->Vl
abbrev DX(x:Sr)(g:Nat)(id:Int):Array Vl:= #[.nilFunc,x.s.am,x.N.v,x.J.v,x.R.v,x.B.v,x.L.v,x.s.nj,x.s.nb,(1:Int),(),.string ⟨#[97]⟩,.string ⟨#[117]⟩,.string ⟨#[120]⟩,(1:Int),.slice g 1 1,(),(),(),(),false,(),false,.slice none 0 0,(),(),(),.slice none 0 0,false,id]
theorem N7{x:Sr}{g:Nat}{id:Int}{j:Nat}{v:Vl}(h:(aY x).toList[j]?=some v):(DX x g id)[1+j]?=some v:=by
 match j,h with
 |0,h=>exact h
 |1,h=>exact h
 |2,h=>exact h
 |3,h=>exact h
 |4,h=>exact h
 |5,h=>exact h
 |6,h=>exact h
 |7,h=>exact h
theorem kfits(x:Sr)(n:Int)(w:Wd)(h:x.s.am=0):Cs prog 253 #[.agg (aY x),n] w (an (decide (n<=999988):Bool) w):=by
 obtain⟨V,b,a,c⟩:=az w (aY x) 28;have e:=c.cell 0;simp[h]at e;have d:=ah a;clear a c;go_in;go_wp2_with(rw[<-b];clear b);go_ret;exact⟨rfl,d⟩
theorem ksub3(a:Al)(B:Nat)(w:Wd)(b:w.cell? B=some (.int .i64 4))(c:B<w):Cs prog 256 #[.agg #[a.nd,a.wl],.pointer B] w (an (decide (a.nd<=4):Bool) w):=by
 go_in;go_wp2;go_ret;exact⟨rfl,aA⟩
theorem ksub2(x:Sr)(g D P:Nat)(a:Al)(w:Wd)(h:ai w P 165 #[.pointer D])(f:ai w D 168 (DX x g 0))(hx:x.s.am=0):
 Cs prog 252 #[.agg #[a.nd,a.wl],.pointer P] w (an (decide (a.wl<=999988):Bool) w):=by
 obtain⟨V,m,d,o⟩:=az w #[a.nd,a.wl] 139;have r:=ah fun W=>kfits x a.wl W hx;have i:=ah o;have l:=ah (h.ae d h.lt);have k:=ah (f.ae d f.lt);have q:=ah d;clear d o h f hx;go_in;go_wp2_with fail;rw[<-m];clear m;refine wq bR.drew (by kernel_rfl) (by kernel_rfl) ?_
 repeat((first
  |(refine mN ?_ 28 _ rfl (b:=D) (off:=1) (cs:=aY x) ?_ (fun w' c j v y=> ?_) underlying28 rfl aT rfl ?_
    ·rfl
    ·simp[go_sem]
    ·rw[(k.ae c k.lt).cell (1+j)];exact N7 y)
  |(refine ee 253 #[.agg (aY x),a.wl] (decide (a.wl<=999988):Bool) ?_ (fun w'=> ?_) (fun w' c=>(r w').mono fun e A ⟨u,t⟩=>⟨u,aa c t⟩) ?_
    ·rfl
    ·simp[go_sem])
  |(refine cw rfl ⟨?_,fun w' c=> ?_,?_⟩
    rotate_left
    ·have p:=(i.ae c i.lt).cell 1;have p0:=(l.ae c l.lt).cell 0;simp at p p0;simp[go_sem,p,p0]
     try rfl));simp only[aP])
 refine bM ?_;intro W n;have z:=ah n;clear n;go_wp2;go_ret;exact⟨rfl,aa q z⟩
theorem J6.only{D:Nat->Prop}{P:Nat}{w W:Wd}{z:Sr}(h:J6 D w z)(k:aU P w W)(d:¬D P):J6 D W z:=fun X h1 h2=>h X (cF k.size h1) fun c a b=>(h2 c a (cD b k.size)).trans (k.same c b fun e=>d (e▸a))
def Mv(s:St)(w:Wd)(e:Ed)(w':Wd):Prop:=∃(z:Sr) (T:Sl) (a:List Ou) (n:Int),e=.returned (.tuple #[.agg (aY z),T.v,()])/\gV w w' z/\pS s z.s n/\fY w' w T.A T.n T.c a/\(a.length:Int)=n/\a.length<=500000/\Bl w w w'
theorem CF(x:Sr)(w:Wd)(h:db w x)(g:bt x.s)(yS:x.s.am<1000000):Cs prog 23 #[.agg (aY x)] w (Mv x.s w):=by
 obtain⟨V,hV⟩:=nm ((w.alloc (.cells (aY x) 28)).alloc (.cells dz 28));have bV:Bl w.heap.size w V:=hV▸aC;have kV:ai V w.heap.size 28 (aY x):=hV▸(ai.new _ _ _).alloc _;have zV:ai V (w.heap.size+1) 28 dz:=by rw[hV];have:=ai.new (w.alloc (.cells (aY x) 28)) 28 dz;simpa using this
 have HCl:=ah (Kx x V (h.ae bV) g yS);have HB:=ah bV;have HK:=ah kV;have HZ:=ah zV;have HG:=ah g;have qB:=ah yS;have hzl:=zV.lt;clear h g bV kV zV yS;go_in;go_wp2_with(first|(rw[<-hV];clear hV)|refine wA HK t28 rfl ?_);refine HCl.out.mono ?_;rintro e a ⟨z0,bK,rfl,hz0,yT,uD,b2⟩;have uK:Hid (ai (a.alloc (.cells dz 28)) a.heap.size 28 dz):=ai.new _ _ _;obtain⟨f,qG⟩:=nm ((a.alloc (.cells dz 28)).setRow a.heap.size (aY z0));have qD:Bl a.heap.size a f:=qG▸aD;have qI:Hid (ai f a.heap.size 28 (aY z0)):=by rw[qG];exact ai.row uK.out _
 have yV:bt z0.s:=yT▸sK HG qB.out uD;have G:=qI.out.lt;have hsV:=b2.size;have HLo:=ah (CE (fun c=>V.heap.size<=c/\c≠a.heap.size) z0 f (fun W h1 h2=>hz0 W (cF qD.size h1) fun c a1 a2=>(h2 c ⟨a1,by omega⟩ (cD a2 qD.size)).trans (qD.block c a2)) (fun c hc=>⟨by omega,by omega⟩) yV);have S:=ah (aa b2 qD);have yO:=ah yT;have HLed:=ah uD;have HG0:=ah yV;clear hz0 yT uD b2 qD yV;go_upto_region 4 with(first|(rw[<-qG];clear qG uK)|refine wB uK.out aT rfl ?_)
 go_wp2_with(refine wA qI.out t28 rfl ?_);refine HLo.out.mono ?_;rintro e w3 ⟨z1,d,N,v1,rfl,hz1,yZ,ho1,⟨lb,rfl,htl1,uT⟩,b3,uC⟩;obtain⟨r,uM⟩:=nm (w3.setRow a.heap.size (aY z1));have uP:aU a.heap.size w3 r:=uM▸aU.row _ _;have H:=qI.out.ae b3 qI.out.lt;have y:Hid (ai r a.heap.size 28 (aY z1)):=by rw[uM];exact ai.row H _
 have X:=ah H;have HZ1:=ah (hz1.only uP (fun e=>e.1.2 rfl));have HO1:Hid (fY r f.heap.size d.A d.n d.c N):=aV uP ho1 (by omega);have yQ:Hid (∀q,d.A=some ⟨q,0,none⟩->f.heap.size<=q/\q<r.heap.size):=fun q e=>⟨(uC q e).1,cD (uC q e).2 uP.size⟩;have HB3:Hid (Bl V.heap.size V r):=by rw[uM];exact aH (aa S b3) (by omega) _
 have qA:=ah yZ;have qM:=ah uT;have hs3:f.heap.size<=r.heap.size:=cF b3.size uP.size;have yU:bt z1.s:=yZ▸yv HG0;have HG1:=ah yU;have HEn:=ah (AA (fun c=>(V.heap.size<=c/\c≠a.heap.size)/\d.A≠some ⟨c,0,none⟩) z1 r HZ1 (fun c hc=>⟨⟨by omega,by omega⟩,fun e=>by have:=(yQ.out c e).2;omega⟩) yU);clear hz1 yZ ho1 uT b3 uC H yU uP;go_wp2_with(first|(rw[<-uM];clear uM)|refine wB X aT rfl ?_|refine wA y t28 rfl ?_);refine HEn.out.mono ?_;rintro e w4 ⟨o,T2,yD,rfl,hz2,yR,ho2,hn2,htl2,b4,hta2⟩;obtain⟨D,uV⟩:=nm (w4.setRow a.heap.size (aY o));have uX:aU a.heap.size w4 D:=uV▸aU.row _ _;have qJ:=y.ae b4 y.lt;have Y:=ah qJ;have I:ai D a.heap.size 28 (aY o):=uV▸ai.row qJ _;have d4:=hz2.only uX (fun e=>e.1.1.2 rfl);have J:fY D f.heap.size d.A d.n d.c N:=aV uX (HO1.ae b4) (by omega);have K:fY D r.heap.size T2.A T2.n T2.c yD:=aV uX ho2 (by omega);have hl1:=J.1;have hl2:=K.1;have hs4:r.heap.size<=D.heap.size:=cF b4.size uX.size;have HB4:Hid (Bl V.heap.size V D):=by rw[uV];exact aH (aa HB3 b4) (by omega) _
 obtain⟨A6,c6,k,yG,o6,uN,E,hA6⟩:=xz jg (P:=prog) D f.heap.size 38 38 92 _ 80 underlying38 ja rfl d.A d.n d.c _ J T2.A T2.n T2.c _ (K.et jg) (by simp only[maxLen];omega) (by omega) (by omega);have hT1:∀b,b<f.heap.size->d.A≠some ⟨b,0,none⟩:=fun b hb e=>by have:=(yQ.out b e).1;omega
 have z:Hid (ai k a.heap.size 28 (aY o)):=(E _ I.lt (hT1 _ G)).trans I;have hz6:db k o:=d4 k uN.size fun c a1 a2=>E c a2 a1.1.2;have uB:bt o.s:=yR▸vT HG1;have HRe:=ah (H7 o k hz6 uB);have uG:=ah yG;have HO6:=ah o6
 have Q:Hid (∀q,A6=some ⟨q,0,none⟩->f.heap.size<=q/\q<k.heap.size):=fun q e=>by
  have:=uN.size;rcases hA6 with j|⟨j,q1⟩
  ·have:=yQ.out q (by rw[<-j];exact e);omega
  ·rw[e]at j;injection j with j;injection j with j;omega
 have HB6:Hid (Bl V.heap.size V k):=HB4.trans (uN.mono (by omega));have uJ:=ah yR;have T:=ah uB;have uK:=ah hn2;have hs6:=uN.size;have hlen6:d.n+T2.n<=400000:=by omega
 clear hz2 yR ho2 hn2 b4 hta2 uX qJ I d4 J K yG o6 uN E hA6 hT1 hz6 uB;go_wp2_with(first|(rw[<-uV];clear uV)|(at_builtin;refine au rfl _ _ rfl rfl rfl uG.out ?_)|refine wB Y aT rfl ?_|refine wA z t28 rfl ?_);refine HRe.out.mono ?_;rintro e w7 ⟨L,NA,nc,rfl,hz3,uL,qK,b7⟩;obtain⟨u,uO⟩:=nm (w7.setRow a.heap.size (aY L));have uR:aU a.heap.size w7 u:=uO▸aU.row _ _;have qL:=z.ae b7 z.lt;have Z:=ah qL;have qH:Hid (ai u a.heap.size 28 (aY L)):=by rw[uO];exact ai.row qL _
 have z37:gV k.heap.size u L:=hz3.on uR (by omega);have o67:fY u f.heap.size A6 (d.n+T2.n) c6 (N++yD):=aV uR (HO6.ae b7) (by omega);obtain⟨l,yL⟩:=nm (gm (ef o.s).ag (oy o.s));rw[<-yL]at qK⊢;have nt7:xn u k.heap.size NA l.length nc l:=aV uR qK (by omega);have hs7:k.heap.size<=u.heap.size:=cF b7.size uR.size;have HB7:Hid (Bl V.heap.size V u):=by rw[uO];exact aH (aa HB6 b7) (by omega) _
 have hnl:l.length<=1000:=by
  rw[yL];refine cF (pn _ _) ?_
  have h1:(oy o.s).length<=o.s.ag.length:=by
   unfold oy dL pw;rw[dB];refine cF (l8 _ _) ?_;rw[List.length_range];exact cB _
  have:=(cQ.1 T.ag).cf;omega
 have HSe:=ah (j7 NA nc l u (nt7.et EG) hnl);have HZ3:=ah z37;have HO7:=ah o67;have HNts:=ah yL;have qE:=ah uL;clear hz3 uL qK b7 uR qL z37 o67 nt7 yL;go_wp2_with(first|(rw[<-uO];clear uO)|refine wB Z aT rfl ?_);refine HSe.out.mono ?_;rintro e w8 ⟨SA,sc,rfl,hso,v⟩;have hl6:=HO7.1;obtain⟨A9,c9,p,yM,o9,qF,F,hA9⟩:=xz jg (P:=prog) w8 f.heap.size 38 38 92 _ 80 underlying38 ja rfl A6 (d.n+T2.n) c6 _ (HO7.ae v) SA l.length sc _ (hso.et jg) (by simp only[maxLen];omega) (by omega) (by have:=v.size;omega);have hs8:=v.size;have hs9:=qF.size;have yP:∀b,(b<f.heap.size\/k.heap.size<=b)->A6≠some ⟨b,0,none⟩:=fun b hb e=>by have:=Q.out b e;omega
 have B:Hid (ai p a.heap.size 28 (aY L)):=(F _ (qH.out.ae v qH.out.lt).lt (yP _ (.inl G))).trans (qH.out.ae v qH.out.lt);have z39:gV k.heap.size p L:=(HZ3.ae v).fr qF.size fun b h1 h2=>F b h2 (yP b (.inr h1));have hgz3:bt L.s:=by rw[qE.out];exact qv T
 have HSt:=ah (zH L lb p z39.am hgz3);have uH:=ah yM;have HO9:=ah o9
 have HA9:Hid (∀q,A9=some ⟨q,0,none⟩->f.heap.size<=q/\q<p.heap.size):=fun q e=>by
  rcases hA9 with j|⟨j,q1⟩
  ·have:=Q.out q (by rw[<-j];exact e);omega
  ·rw[e]at j;injection j with j;injection j with j;omega
 have HB9:Hid (Bl V.heap.size V p):=(aa HB7 v).trans (qF.mono (by omega));clear hso v yM o9 qF F hA9 yP z39;go_wp2_with(first|(at_builtin;refine au rfl _ _ rfl rfl rfl uH.out ?_)|refine wA B t28 rfl ?_);refine HSt.out.mono ?_;rintro e w10 ⟨m,t,yN,n5,rfl,hz4,uW,ho5,hn5,htl5,uY⟩;obtain⟨i,yF⟩:=nm (w10.setRow a.heap.size (aY m));have yI:aU a.heap.size w10 i:=yF▸aU.row _ _;have yW:=B.ae uY B.lt;have uU:=ah yW;have yY:Hid (ai i a.heap.size 28 (aY m)):=by rw[yF];exact ai.row yW _
 have HZ4:=ah (hz4.on yI (by omega));have uQ:Hid (fY i f.heap.size A9 (d.n+T2.n+l.length) c9 (N++yD++l.map zk)):=aV yI (HO9.ae uY) (by omega);have HO5:Hid (fY i p.heap.size t.A t.n t.c yN):=aV yI ho5 (by omega);have hs10:p.heap.size<=i.heap.size:=cF uY.size yI.size;have uI:Hid (Bl V.heap.size V i):=by rw[yF];exact aH (aa HB9 uY) (by omega) _
 have HSet:=ah uW;have HN5:=ah hn5;have hl9:=uQ.out.1;have hl5:=HO5.1;clear hz4 uW ho5 hn5 uY yI yW;obtain⟨O,c11,qC,yG,o11,yX,yJ,hA11⟩:=xz jg (P:=prog) i.drew f.heap.size 38 38 92 _ 80 underlying38 ja rfl A9 (d.n+T2.n+l.length) c9 _ (uQ.out.ae (cC i.heap.size i).drew) t.A t.n t.c _ ((HO5.ae (cC i.heap.size i).drew).et jg) (by simp only[maxLen];omega) (by omega) (by show f.heap.size<=i.heap.size;omega);have hd10:i.drew.heap.size=i.heap.size:=rfl;have yK:∀b,(b<f.heap.size\/p.heap.size<=b)->A9≠some ⟨b,0,none⟩:=fun b hb e=>by have:=HA9.out b e;omega
 have k11:ai qC a.heap.size 28 (aY m):=(yJ _ yY.out.lt (yK _ (.inl G))).trans yY.out;have C:ai i (w.heap.size+1) 28 dz:=HZ.ae uI.out HZ.lt;have kz:ai qC (w.heap.size+1) 28 dz:=(yJ _ C.lt (yK _ (.inl (by omega)))).trans C;have uZ:gV p.heap.size qC m:=(HZ4.ae (cC i.heap.size i).drew).fr yX.size fun b h1 h2=>yJ b h2 (yK b (.inr h1));obtain⟨uE,yH⟩:=nm (qC.setRow (w.heap.size+1) (aY m));have uA:aU (w.heap.size+1) qC uE:=yH▸aU.row _ _;have U:Hid (ai uE (w.heap.size+1) 28 (aY m)):=by rw[yH];exact ai.row kz _
 have HZ12:Hid (gV w.heap.size uE m):=(uZ.on uA (by omega)).mono (by have:=HB.size;omega);have HO12:Hid (fY uE w.heap.size O (d.n+T2.n+l.length+t.n) c11 (N++yD++l.map zk++yN)):=aS (aV uA o11 (by omega)) (by have:=HB.size;omega)
 have R:Hid (Bl w.heap.size w uE):=by
  show Bl _ _ _;rw[yH];exact aH (((aa HB uI.out).drew).trans (yX.mono (by have:=HB.size;omega))) (by omega) _
 have HX12:=ah yH;have uS:=ah k11;have Hkz:=ah kz;have uG:=ah yG;have HNw:=ah (show a.heap.size≠w.heap.size+1 by omega);clear o11 yX yJ hA11 yK k11 C kz uZ yH uA yG hl9 hl5 hd10;go_wp2_with(first|(rw[<-yF];clear yF)|refine wB uU.out aT rfl ?_);refine lqb (fun W=>ai W a.heap.size 28 (aY m)) [3,4] [0,1,2,3,4,5,6] (by kernel_rfl) (by kernel_rfl) yY.out ?_;refine jE rfl (some 54) rfl rfl rfl (fun _ _ _ _ h=>h) 28 (.tmp 5) rfl (fun W M _=>M) (by go_simp) underlying28 rfl aT rfl ?_
 iterate 2
  refine lqe rfl (fun _ _ _ _ h=>h) ⟨?_,fun W M hS=> ?_,?_⟩;rotate_left
  ·go_simp
   try rfl
 refine sT rfl rfl (some 57) rfl rfl rfl (.tmp 55) (.tmp 56) rfl (by go_simp) (by go_simp) uG.out ?_;intro W M;rw[M];refine⟨uS.out,trivial,?_⟩;refine qn rfl rfl rfl rfl rfl 28 (.tmp 2) (.tmp 54) rfl (w.heap.size+1) (aY m) (by go_simp) (by go_simp) Hkz aT rfl rfl rfl ?_;intro W13 uF;refine⟨by rw[uF];exact ai.gu uS.out HNw _,trivial,?_⟩;rw[<-HX12.out]at uF;subst uF
 iterate 2
  refine lqe rfl (fun _ _ _ _ h=>h) ⟨?_,fun W M hS=> ?_,?_⟩;rotate_left
  ·go_simp
   try rfl
 refine ew ?_;simp only[Act.put,aE,aF,aG,cM,cJ,cI];clear M;go_wp2_with fail;refine fV (cs:=aY m) rfl U rfl rfl rfl underlying28 rfl aT rfl rfl ?_;refine⟨m,⟨O,d.n+T2.n+l.length+t.n,c11⟩,_,_,rfl,HZ12,?_,HO12,rfl,?_,R⟩
 ·refine⟨qB.out,bK,HLed,lb,(N.length:Int),n5,?_,?_,?_⟩
  ·rw[<-yO.out,<-qA.out,<-uJ.out,<-qE.out];exact HSet
  ·rw[<-yO.out];intro h0;obtain⟨q1,q2⟩:=qM.out h0;exact⟨q1,by rw[q2];rfl⟩
  ·rw[<-yO.out,<-qA.out,<-uK.out,<-uJ.out,Dl,<-HNts.out];simp only[cY,dB,Int.natCast_add];rw[HN5.out]
 ·simp only[cY,dB];omega
abbrev sn:Array Vl:= #[(2:Int),.string ByteArray.empty,(),(),(),()]
theorem Ek(w:Wd):Cs prog 32 #[.agg sn] w (an () w):=by
 go_in;go_wp2;go_ret;exact⟨rfl,aC⟩
theorem JF(w:Wd):Cs prog 21 #[.agg sn] w (an (.iface 76 (.agg #[])) w):=by
 have a:=ah (Ek (w.alloc (.cells sn 44)));go_in;go_wp2_with fail;refine av a fun b b2=> ?_
 have d:b.cell? w=some (.int .i64 2):=by
  have k:ai (w.alloc (.cells sn 44)) w 44 sn:=ai.new _ _ _;exact(k.ae b2 k.lt).cell 0
 have c:=ah b2;clear b2;go_wp2;go_ret;exact⟨rfl,aa (aA) c⟩
theorem I0(w:Wd):∃v,(Instr.typeAssert (.iface 76 (.agg #[])) 71 73 true).run prog w=.ok (.tuple #[v,false]) w:=⟨_,by rfl⟩
theorem I1(w:Wd):(Instr.typeAssert (.iface 76 (.agg #[])) 71 76 true).run prog w=.ok (.tuple #[.agg #[],true]) w:=by rfl
theorem vt(x:Sr)(w:Wd)(h:db w x)(g:bt x.s)(G:x.s.am<1000000):Cs prog 8 #[.agg (aY x),.agg sn] w (Mv x.s w):=by
 obtain⟨V,d⟩:=nm (((w.alloc (.cells (aY x) 28)).alloc (.cells sn 44)).alloc (.cells dz 28));have k:Bl w w V:=by rw[d];exact(aC).alloc (by simp;omega) _
 have D:ai V w 28 (aY x):=by rw[d];exact((ai.new _ _ _).alloc _).alloc _
 have y:ai V (w+1) 44 sn:=by rw[d];have:=(ai.new (w.alloc (.cells (aY x) 28)) 44 sn).alloc (.cells dz 28);simpa using this
 have r:ai V (w+2) 28 dz:=by rw[d];have:=ai.new ((w.alloc (.cells (aY x) 28)).alloc (.cells sn 44)) 28 dz;simpa using this
 have yO:=ah (da x V (h.ae k) g);have Z:=ah fun(W:Wd) (b:Bl V V W)=>CF x W ((h.ae k).ae b) g G;have S:=ah fun W=>JF W;have t:=ah k;have m:=ah D;have u:=ah y;have v:=ah r;have yZ:=r.lt;clear h g k D y r G;go_in;go_wp2_with(first|(rw[<-d];clear d)|refine wA m t28 rfl ?_);refine yO.out.mono ?_;rintro e a ⟨rfl,b2⟩;have yX:=ah b2;have I:=ah (m.ae b2 m.lt);have f:=ah (u.ae b2 u.lt);have e0:a.cell? (w+1:Nat)=some (.int .i64 2):=f.cell 0;have K:a.cell? ⟨w.heap.size+1,1,none⟩=some (.string ByteArray.empty):=f.cell 1;have L:a.cell? ⟨w.heap.size+1,2,none⟩=some (():Vl):=f.cell 2;have M:a.cell? ⟨w.heap.size+1,3,none⟩=some (():Vl):=f.cell 3;have N:a.cell? ⟨w.heap.size+1,4,none⟩=some (():Vl):=f.cell 4;have O:a.cell? ⟨w.heap.size+1,5,none⟩=some (():Vl):=f.cell 5;clear b2;go_wp2_with fail;refine(S a).mono ?_;rintro e j ⟨rfl,b3⟩;have yP:=ah (aa yX b3);have J:=ah (I.ae b3 I.lt);clear b3 e0 K L M N O;obtain⟨vl,yS⟩:=I0 j;have R:=I1 j;obtain⟨U,p⟩:=nm (j.alloc (.cells #[] 76));have o:Bl j j U:=by rw[p];exact aA
 have l:=ah (aa yP o);have Y:=ah (J.ae o J.lt);have H:=ah (v.ae l v.lt);have yQ:=ah (Z U l);clear o;go_wp2_with(first|rw[yS]|rw[R]|(rw[<-p];clear p)|refine wA Y t28 rfl ?_);refine yQ.out.mono ?_;rintro e E ⟨z,T,F,n,rfl,C,hx,B,hn,P,b5⟩;obtain⟨X,i⟩:=nm (E.setRow (w+2) (aY z));have on:aU (w+2) E X:=by rw[i];exact aU.row _ _
 have q:=H.ae b5 H.lt;have yU:=ah q;have yV:Hid (ai X (w+2) 28 (aY z)):=by rw[i];exact ai.row q _
 have uA:=l.size;have yY:=t.size;have yW:Hid (gV w X z):=(C.on on (by omega)).mono (by omega);have Q:Hid (fY X w T.A T.n T.c F):=aS (aV on B (by omega)) (by omega);have yR:Hid (Bl w w X):=by rw[i];exact aH (aa (aa t l) b5) (by omega) _
 have yT:=ah hx;clear on q C hx B b5;go_wp2_with(first|(rw[<-i];clear i)|refine wB yU aT rfl ?_)
 try rw[dM]
 refine fV (cs:=aY z) rfl yV rfl rfl rfl underlying28 rfl aT rfl rfl ?_;exact⟨z,T,F,n,rfl,yW,yT,Q,hn,P,yR⟩
theorem GO:(prog.info? 44).map (·.size)=some 6:=by kernel_rfl
abbrev t44:=pk underlying44 rfl GO
theorem qS(w:Wd):Cs prog 9 #[] w (an (.agg sn) w):=by
 go_in;go_wp2_with fail;have k:ai (w.alloc (.cells sn 44)) w 44 sn:=ai.new _ _ _;refine j6 (cs:=sn) rfl k rfl underlying44 rfl GO rfl rfl ?_;exact⟨rfl,aA⟩
theorem Ky(x:Sr)(w:Wd)(h:db w x)(g:bt x.s)(f:x.s.am=1000000):Cs prog 37 #[.agg (aY x)] w (an (.tuple #[.agg dz,(153:Int)]) w):=by
 obtain⟨V,a⟩:=nm ((w.alloc (.cells (aY x) 28)).alloc (.cells dz 28));have c:Bl w w V:=a▸aC;have e:ai V w 28 (aY x):=a▸(ai.new _ _ _).alloc _;have j:ai V (w+1) 28 dz:=by rw[a];have:=ai.new (w.alloc (.cells (aY x) 28)) 28 dz;simpa using this
 have l:=ah (da x V (h.ae c) g);have k:=ah c;have b:=ah e;have d:=ah j;have e0:(x.s.am==1000000)=true:=by simp[f]
 clear h g c e j f;go_in;go_wp2_with fail;rw[<-a];clear a;go_wp2_with(refine wA b t28 rfl ?_);refine av l fun p b2=> ?_;have o:=ah (aa k b2);have n:=ah (b.ae b2 b.lt);have i:=ah (d.ae b2 d.lt);have m:=n.cell 0;simp at m;clear b2;go_wp2_with(refine wB i aT rfl ?_);refine eC (cs:=dz) rfl (ai.row i dz) rfl rfl underlying28 rfl aT rfl rfl ?_;exact⟨rfl,aH o (by omega) _⟩
theorem PY(x:Sr)(w:Wd)(h:db w x)(g:bt x.s)(j:x.s.am=1000000):Cs prog 23 #[.agg (aY x)] w (an (.tuple #[.agg dz,.slice none 0 0,(153:Int)]) w):=by
 obtain⟨V,b⟩:=nm ((w.alloc (.cells (aY x) 28)).alloc (.cells dz 28));have c:Bl w w V:=b▸aC;have i:ai V w 28 (aY x):=b▸(ai.new _ _ _).alloc _;have m:ai V (w+1) 28 dz:=by rw[b];have:=ai.new (w.alloc (.cells (aY x) 28)) 28 dz;simpa using this
 have o:=ah (Ky x V (h.ae c) g j);have n:=ah c;have p:=ah i;have f:=ah m;clear h g c i m j;go_in;go_wp2_with(first|(rw[<-b];clear b)|refine wA p t28 rfl ?_);refine av o fun a b2=> ?_;have k:Hid (ai (a.alloc (.cells dz 28)) a 28 dz):=ai.new _ _ _;obtain⟨q,d⟩:=nm ((a.alloc (.cells dz 28)).setRow a dz);have e:Bl a a q:=d▸aD;have r:=ah (aa n (aa b2 e));have l:=ah (f.ae (aa b2 e) f.lt);clear b2 e;go_upto_region 3 with(first|(rw[<-d];clear d k)|refine wB k aT rfl ?_)
 go_wp2_with(refine wB l aT rfl ?_);refine fV (cs:=dz) rfl (ai.row l dz) rfl rfl rfl underlying28 rfl aT rfl rfl ?_;exact⟨rfl,aH r (by omega) _⟩
theorem PV(x:Sr)(w:Wd)(h:db w x)(g:bt x.s)(t:x.s.am=1000000):Cs prog 8 #[.agg (aY x),.agg sn] w (an (.tuple #[.agg dz,.slice none 0 0,(153:Int)]) w):=by
 obtain⟨V,c⟩:=nm (((w.alloc (.cells (aY x) 28)).alloc (.cells sn 44)).alloc (.cells dz 28));have i:Bl w w V:=by rw[c];exact(aC).alloc (by simp;omega) _
 have r:ai V w 28 (aY x):=by rw[c];exact((ai.new _ _ _).alloc _).alloc _
 have q:ai V (w+1) 44 sn:=by rw[c];have:=(ai.new (w.alloc (.cells (aY x) 28)) 44 sn).alloc (.cells dz 28);simpa using this
 have n:ai V (w+2) 28 dz:=by rw[c];have:=ai.new ((w.alloc (.cells (aY x) 28)).alloc (.cells sn 44)) 28 dz;simpa using this
 have K:=ah (da x V (h.ae i) g);have J:=ah fun(W:Wd) (b:Bl V V W)=>PY x W ((h.ae i).ae b) g t;have H:=ah fun W=>JF W;have A:=ah i;have j:=ah r;have o:=ah q;have p:=ah n;have S:=n.lt;clear h g i r q n t;go_in;go_wp2_with(first|(rw[<-c];clear c)|refine wA j t28 rfl ?_);refine K.out.mono ?_;rintro e a ⟨rfl,b2⟩;have P:=ah b2;have v:=ah (j.ae b2 j.lt);have d:=ah (o.ae b2 o.lt);have e0:a.cell? (w+1:Nat)=some (.int .i64 2):=d.cell 0;have B:a.cell? ⟨w.heap.size+1,1,none⟩=some (.string ByteArray.empty):=d.cell 1;have C:a.cell? ⟨w.heap.size+1,2,none⟩=some (():Vl):=d.cell 2;have D:a.cell? ⟨w.heap.size+1,3,none⟩=some (():Vl):=d.cell 3;have E:a.cell? ⟨w.heap.size+1,4,none⟩=some (():Vl):=d.cell 4;have F:a.cell? ⟨w.heap.size+1,5,none⟩=some (():Vl):=d.cell 5;clear b2;go_wp2_with fail;refine(H a).mono ?_;rintro e f ⟨rfl,b3⟩;have M:=ah (aa P b3);have z:=ah (v.ae b3 v.lt);clear b3 e0 B C D E F;obtain⟨Q,L⟩:=I0 f;have G:=I1 f;obtain⟨U,l⟩:=nm (f.alloc (.cells #[] 76));have k:Bl f f U:=by rw[l];exact aA
 have m:=ah (aa M k);have I:=ah (z.ae k z.lt);have u:=ah (p.ae m p.lt);have N:=ah (J U m);clear k;go_wp2_with(first|rw[L]|rw[G]|(rw[<-l];clear l)|refine wA I t28 rfl ?_);refine N.out.mono ?_;rintro e R ⟨rfl,b5⟩;have y:=ah (u.ae b5 u.lt);have O:=ah (aa (aa A m) b5);clear b5;go_wp2_with(refine wB y aT rfl ?_)
 try rw[dM]
 refine fV (cs:=dz) rfl (ai.row y dz) rfl rfl rfl underlying28 rfl aT rfl rfl ?_;exact⟨rfl,aH O (by omega) _⟩
end Go.Proofs.YthfhilggbbobmaaGreatDoor
