/- Parts of the proof. -/
import Derived.Test.YthfhilggbbobmaaGreatDoorK34
set_option linter.all false
set_option maxHeartbeats 20000000
namespace Go.Proofs.YthfhilggbbobmaaGreatDoor
set_option maxRecDepth 100000
open Go.Proofs.Tryz
open Go renaming World->Wd,Value->Vl,Ending->Ed,Calls->Cs
open Go.RowKit renaming Below->Bl
open Go.RowKit
def MZ(a b1 b2 b3 b4 b5 P:Nat)(x:Sr)(A:OA)(b:List Ou)(id:Int)(w:Wd)(e:Ed)(w':Wd):Prop:=
 ∃z T more,e=.returned (.tuple #[])/\gT w' a b1 b2 b3 b4 b5 P z T (b++more)/\z.s=(ji x.s id).1/\(more.length:Int)=(ji x.s id).2/\more.length<=65/\Bl a w w'/\Fd P A T.A w w'
variable{P:Nat}{w:Wd}
theorem vr{b b1 b2 b3 b4 b5:Nat}{x:Sr}{T:Sl}{d:List Ou}{id:Int}{w':Wd}(h:gT w b b1 b2 b3 b4 b5 P x T d)(a:Bl w w w')(c:ji x.s id=(x.s,0)):MZ b b1 b2 b3 b4 b5 P x T.A d id w (.returned (.tuple #[])) w':=
 ⟨x,T,[],rfl,by rw[fO];exact h.ae a,by rw[c],by rw[c];rfl,by simp,a.mono (by have:=h.du;have:=h.ce.lt;omega),Fd.aX a⟩
theorem De{j:Jb}(h:0<=j.ch):(fw j.sh j.ch).isNone=decide (((eO j.sh).length:Int)<=j.ch):=by
 unfold fw;rw[cK h]
 cases hq:(eO j.sh)[j.ch.toNat]? with
 |none=>
  have:=List.getElem?_eq_none_iff.1 hq;simp;omega
 |some a=>
  have:=(cA.1 hq).1;simp;omega
theorem Nu{j:Jb}(h:fg j=true):0<=j.ch:=by
 have b:=(fv.1 h).2.2;unfold ka at b;split at b
 ·obtain⟨-,-,-,q⟩:=gn b;rcases q with⟨-,q⟩|⟨-,q,-⟩
  ·omega
  ·obtain⟨a,c⟩:=l9.1 q;exact(zj c).1
 ·split at b
  ·obtain⟨a,c,-⟩:=vn b;exact(zj c).1
  ·split at b
   ·simp[zm]at b;omega
   ·cases b
theorem GU{s:St}{ag act bD am:Int}(h:(ii s.ag ag act bD am).2.2.2=0)(hn:s.ag.length<=48):(ii s.ag ag act bD am).1.length<=1000/\(ii s.ag ag act bD am).2.1<2^64/\(ii s.ag ag act bD am).2.2.1.length<=64:=by
 obtain⟨N,m,-,G,e⟩:=Ex h;rw[e];refine⟨?_,rz _ 64 (qR _ _) (Ab hn),?_⟩
 ·show m.length<=1000;rw[G.done.cb];omega
 ·show(gm m _).length<=64;refine cF (pn _ _) ?_;simp only[dL,dB,G.cb];have:=G.cf;omega
abbrev KeptR(V:Wd)(j:Jb)(b:Int)(Z F:Vl)(a:Wd):Prop:=∃(g:Nat) (r:Jr),Z=.pointer g/\F=.int .i64 b/\ai a g 51 (bk r)/\jk a V r/\(b=0->r.j=j)/\V<=g/\Bl V V a
theorem FG(b0 b1 b2 b3 b4 b5 P:Nat)(x:Sr)(T:Sl)(yB:List Ou)(id:Int)(w:Wd)(h:gT w b0 b1 b2 b3 b4 b5 P x T yB)(g:bt x.s)(hn:T.n+100<=1000000):
 Cs prog 100 #[.pointer P,id] w (MZ b0 b1 b2 b3 b4 b5 P x T.A yB id w):=by
 have HF:=ah (m4 x.J.A x.J.n x.J.c x.jr id w h.mE.aj (by have:=h.fJ;omega) h.aj.2.le);rw[h.jr]at HF;have HH:=ah h;have HG:=ah g;have HN':=ah hn;have x2:=h.ce.cell 2;simp at x2;have hPw:=h.ce.lt;clear h g hn;go_in;go_wp2_with fail;refine HF.out.mono ?_;rintro e K ⟨r,rfl,hr,qF,yQ,yM,-⟩;have HN:Hid (ai (K.alloc (.cells cP 51)) K 51 cP):=ai.new _ _ _;obtain⟨V,hV⟩:=nm ((K.alloc (.cells cP 51)).setRow K (bk r));have bV:Bl K K V:=hV▸aD;have kV:ai V K 51 (bk r):=hV▸ai.row HN _;have HB:=ah (aa qF bV);have HK:=ah kV;have HJ:=ah (hr.ae bV);have hgw:w.heap.size<=K:=qF.size;have HS:=ah yQ;have HNo:=ah yM;have HOp:=ah (fx r.A r.n r.c r.j.sh V HJ.sh);have y4:=kV.cell 4;have y5:=kV.cell 5;have y6:=kV.cell 6;have y7:=kV.cell 7;have y8:=kV.cell 8;simp at y4 y5 y6 y7 y8;clear qF bV kV hr yQ yM x2;go_upto_region 1 with(first|(rw[<-hV];clear hV HN)|refine wB HN aK rfl ?_)
 go_wp2_with fail;refine HOp.out.mono ?_;rintro e m ⟨A2,c2,rfl,o2,uT⟩;have HO:=ah o2;have qC:=ah uT;have uG:=ah (HK.ae uT HK.lt);have x15:=uG.cell 15;simp at x15;have HOl:=ah (kY (s:=r.j.sh));clear o2 uT y4 y5 y6 y7 y8;obtain⟨q,hq⟩:∃q,decide (((eO r.j.sh).length:Int)<=r.j.ch)=q:=⟨_,rfl⟩;cases q
 case true=>
  have M:Hid (ji x.s id=(x.s,0)):=by
   show _=_;unfold ji
   cases hf:eh x.s.aj id with
   |none=>rfl
   |some j=>
    have u:=HS.out j hf;simp only;rw[<-u,cK (by rw[De (Nu (by rw[u];exact(fq hf).2.2.2))];exact hq)]
  go_wp2_with fail
  (try simp only[Exit.inBlock,Exit.then])
  refine cU (lE rfl _ _ _) rfl ?_;exact vr HH (aa HB qC) M
 case false=>
  have uP:r.j.ch<((eO r.j.sh).length:Int):=by simpa using hq
  obtain⟨j,u⟩:∃j,eh x.s.aj id=some j:=by
   cases hf:eh x.s.aj id with
   |some j=>exact⟨j,rfl⟩
   |none=>
    exfalso;rw[HNo.out hf]at uP;have:eO zJ.sh=[]:=by decide
    rw[this]at uP;simp[zJ]at uP
  have uQ:=HS.out j u;obtain⟨-,hm,hid,hok⟩:=fq u;subst hid;have hch:0<=r.j.ch:=uQ▸Nu hok;obtain⟨I,uH⟩:∃I:Nat,r.j.ch=(I:Int):=⟨r.j.ch.toNat,by omega⟩;have hcl:I<(eO r.j.sh).length:=by omega
  obtain⟨ob,oo,a,hA2,hob,ha,yO,-⟩:=cp.alt (HO.et qk) hcl;subst hA2
  have yH:Hid (fw j.sh j.ch=some a):=by
   show _=_;unfold fw;rw[<-uQ,cK hch,uH,iA];exact ha
  have S:Hid (sizeOf j=a.nd):=by show _=_;rw[sizeOf,yH.out];rfl
  have Q:=ah u;have uN:=ah uQ;have HM:=ah hm;have HOk:=ah hok;rw[uH]at x15;have U:=aa HB qC;have z:=ah (HH.ae U);have HJ2:=ah (HJ.ae qC);have HGr:=ah fun(W:Wd) (b:Bl m m W)=>K2 x.N.A x.N.n x.N.c x.s.ag a.nd 1 j.id x.s.am W ((z.ae b).ag.et mb) (by have:x.N.n<=1000:=z.fN;unfold maxLen;omega) z.ag.2.cz;have yW:Hid (∀W,Bl m m W->W.cell? ⟨ob,oo+I*2,none⟩=some (a.nd:Vl)):=fun W b=>(b.cell (p:=⟨ob,oo+I*2,none⟩) hob).trans yO;have uL:=ah U;have hci':((I:Int)<((eO r.j.sh).length:Int)):=by omega
  have hcn:decide ((eO r.j.sh).length<=I)=false:=decide_eq_false (by omega);have hci48:I<48:=by have:=HOl.out;omega
  rw[uH]at hq;have HCi:=ah uH;clear uP u uQ hm hok hch uH U ha yO;go_wp2;refine bW (fun W=>Bl m m W) (fun _=>True) #[] [17] 0 [0,1,2,3,4,5,6,7,8,9,10,11,12,13,14,15,16,17,18,19,20,21,22,23,24,25,26] (by kernel_rfl) (by kernel_rfl) bR.drew trivial ?_;have C:Bl m m m.drew:=bR.drew
  iterate 17
   refine lqe rfl (fun _ _ _ _ h=>h) ⟨?_,fun W f hS=> ?_,?_⟩;rotate_left
   ·obtain⟨c0',c1',c2',c3',c8'⟩:=Ki (z.ce.ae f z.ce.lt);have c15:=(uG.ae f uG.lt).cell 15;simp at c15;rw[HCi.out]at c15;have ca:=yW.out W f;go_simp
    try rfl
  refine el 190 #[x.N.v,a.nd,(1:Int),j.id,x.s.am] rfl rfl (some 48) rfl rfl rfl (by go_simp) ?_;obtain⟨k,qI⟩:=nm (ii x.s.ag a.nd 1 j.id x.s.am);rw[<-qI]at HGr;have L:=ah qI;clear qI;refine(HGr _ C).mono ?_;rintro e d ⟨A3,c3,B3,d3,rfl,hno,hnt,uY⟩;refine⟨_,rfl,aa C uY,trivial,?_⟩;have HNd:=ah hno;have HNt:=ah hnt;have yS:=ah (aa C uY);clear C uY hno hnt
  iterate 9
   refine lqe rfl (fun _ _ _ _ h=>h) ⟨?_,fun W f hS=> ?_,?_⟩;rotate_left
   ·go_simp
    try rfl
  refine ew ?_;simp only[aP,aW];by_cases G:k.2.2.2=0
  case neg=>
   have e0:(k.2.2.2==0)=false:=by simpa using G
   have e1:(k.2.2.2 !=0)=true:=by simpa using G
   have M:Hid (ji x.s j.id=(x.s,0)):=by
    show _=_;unfold ji;rw[Q.out];simp only;rw[cL (by rw[yH.out];simp),S.out,cK (by rw[<-L.out];exact G)]
   clear G;go_wp2_with fail
   (try simp only[Exit.inBlock,Exit.then])
   refine cU (lE rfl _ _ _) rfl ?_;exact vr HH (aa uL yS) M
  case pos=>
   have e0:(k.2.2.2==0)=true:=by simpa using G
   have e1:(k.2.2.2 !=0)=false:=by simpa using G
   obtain⟨uZ,uR,hf3⟩:=GU (s:=x.s) (ag:=a.nd) (act:=1) (bD:=j.id) (am:=x.s.am) (by rw[<-L.out];exact G) (cQ.1 HG.ag).cf;rw[<-L.out]at uZ uR hf3;have HG0:=ah G;have HF2:=ah uR;clear G uR;have hs3:=yS.size;have hK3:=uG.ae yS uG.lt;have HK3:=ah hK3;have yR:=ah fun(W:Wd) (b:Bl d d W)=>L6 r x.s.am k.2.1 W ((HJ2.ae yS).ae b) HF2;have HD3:=ah (z.ae yS);obtain⟨er,qM⟩:=nm (mQ r.j x.s.am k.2.1);rw[<-qM]at yR;have qJ:=ah qM;clear qM hK3;go_wp2_with fail;go_cut [11,10] (fun Z F wx=>KeptR d (jB r.j x.s.am (fl r.j) k.2.1) er Z F wx)
   case first=>
    refine bW (fun W=>Bl d d W) (fun _=>True) #[] [] 7 [0,1,2,3,4,5,6,7,8,9,10,11,12,13] (by kernel_rfl) (by kernel_rfl) bR.drew trivial ?_;have C:Bl d d d.drew:=bR.drew;refine jE rfl (some 56) rfl rfl rfl (fun _ _ _ _ h=>h) 51 (.tmp 4) rfl (fun W f _=>HK3.ae f HK3.lt) (by go_simp) underlying51 rfl aK rfl ?_
    iterate 6
     refine lqe rfl (fun _ _ _ _ h=>h) ⟨?_,fun W f hS=> ?_,?_⟩;rotate_left
     ·obtain⟨c0',c1',c2',c3',c8'⟩:=Ki (HD3.ce.ae f HD3.ce.lt);go_simp
      try rfl
    refine mP 7 rfl ?_;refine wpAnyH_all (rs:=[7,11]) (by kernel_rfl) (by simp) ?_;intro i hi;simp only[dK,lF,oV]at hi;rcases hi with rfl|rfl
    ·refine ea 191 #[.agg (bk r),x.s.am,.int .u64 (k.2.1:Int)] (some 63) rfl rfl (a8 rfl _) (by go_simp) ?_;refine(yR _ C).mono ?_;rintro e W ⟨t,rfl,bw,uC,uA⟩;have qL:=ah uA;have HR:=ah uC;have o:=aa C bw;clear uA uC bw;refine⟨_,rfl,o,?_⟩;refine cx (i:=8) (some 55) rfl rfl (by kernel_rfl) rfl (fun _ _ _ _ h=>h) o ⟨?_,fun W f=> ?_,?_⟩;rotate_left
     ·go_simp
      try rfl
     refine cx (i:=9) (some 64) rfl rfl (by kernel_rfl) rfl (fun _ _ _ _ h=>h) o ⟨?_,fun W f=> ?_,?_⟩;rotate_left
     ·go_simp
      try rfl
     refine cx (i:=10) (some 65) rfl rfl (by kernel_rfl) rfl (fun _ _ _ _ h=>h) o ⟨?_,fun W f=> ?_,?_⟩;rotate_left
     ·go_simp
      try rfl
     refine dg (i:=11) (by kernel_rfl) (eS (.pointer W) (W.alloc (.cells cP 51)) (some 11) rfl rfl (a8 rfl _) (by go_simp) fun U uK=> ?_);have D:Bl d d U:=uK▸o.alloc o.size _;have z2:ai U W 51 cP:=uK▸ai.new _ _ _;refine⟨D,?_⟩;refine dg (i:=12) (by kernel_rfl) (cv 51 (.tmp 11) (.tmp 64) W (bk t) rfl rfl rfl (a8 rfl _) (by go_simp) (by go_simp) z2 aK rfl rfl ?_);intro Y H;have E:Bl d d Y:=H▸aH D o.size _;have uU:Hid (ai Y W 51 (bk t)):=by rw[H];exact ai.row z2 _
     have R:Hid (jk Y d t):=by
      show jk _ _ _;rw[H,uK];have bn:=aH ((cC W W).alloc lr (.cells cP 51)) lr (bk t);exact HR.hi bn.size fun c _ h2=>bn.block c h2
     refine⟨E,?_⟩;refine cx (i:=13) (some 10) rfl rfl (by kernel_rfl) rfl (fun _ _ _ _ h=>h) E ⟨?_,fun W f=> ?_,?_⟩;rotate_left
     ·go_simp
      try rfl
     refine wpAnyH_done (by kernel_rfl) ?_ _;have qB:=ah E;have HG4:=ah o.size;clear C o D E z2 H uK;simp only[aP,aW];go_wp2;go_meet;exact⟨W,t,rfl,rfl,uU,R,qL,HG4,qB⟩
    ·refine eS (.pointer d) (d.drew.alloc (.cells cP 51)) (some 11) rfl rfl (a8 rfl _) (by go_simp) fun W f=> ?_;have o:Bl d d W:=f▸C.alloc lr _;have HZ1:Hid (ai W d 51 cP):=by rw[f];exact ai.new d.drew _ _
     refine⟨o,?_⟩;refine dg (i:=7) (by kernel_rfl) (ea 191 #[.agg (bk r),x.s.am,.int .u64 (k.2.1:Int)] (some 63) rfl rfl (a8 rfl _) (by go_simp) ?_);refine(yR _ o).mono ?_;rintro e U ⟨t,rfl,bw,uC,uA⟩;have qL:=ah uA;have D:=aa o bw;have z2:=HZ1.ae bw HZ1.lt;refine⟨_,rfl,D,?_⟩;refine cx (i:=8) (some 55) rfl rfl (by kernel_rfl) rfl (fun _ _ _ _ h=>h) D ⟨?_,fun W f=> ?_,?_⟩;rotate_left
     ·go_simp
      try rfl
     refine cx (i:=9) (some 64) rfl rfl (by kernel_rfl) rfl (fun _ _ _ _ h=>h) D ⟨?_,fun W f=> ?_,?_⟩;rotate_left
     ·go_simp
      try rfl
     refine cx (i:=10) (some 65) rfl rfl (by kernel_rfl) rfl (fun _ _ _ _ h=>h) D ⟨?_,fun W f=> ?_,?_⟩;rotate_left
     ·go_simp
      try rfl
     refine dg (i:=12) (by kernel_rfl) (cv 51 (.tmp 11) (.tmp 64) d (bk t) rfl rfl rfl (a8 rfl _) (by go_simp) (by go_simp) z2 aK rfl rfl ?_);intro Y H;have E:Bl d d Y:=H▸aH D lr _;have uU:Hid (ai Y d 51 (bk t)):=by rw[H];exact ai.row z2 _
     have R:Hid (jk Y d t):=by
      show jk _ _ _;rw[H];exact jk.mono (uC.hi (by rw[fE];exact cB _) fun b h1 h2=>f9 _ _ _ _ (by have:W.heap.size=d+1:=(by rw[f];simp);omega)) o.size
     refine⟨E,?_⟩;refine cx (i:=13) (some 10) rfl rfl (by kernel_rfl) rfl (fun _ _ _ _ h=>h) E ⟨?_,fun W f=> ?_,?_⟩;rotate_left
     ·go_simp
      try rfl
     refine wpAnyH_done (by kernel_rfl) ?_ _;have qB:=ah E;clear C o D E z2 H uA bw uC f;simp only[aP,aW];go_wp2;go_meet;exact⟨d,t,rfl,rfl,uU,R,qL,cB _,qB⟩
   case rest=>
    obtain⟨gj,t,rfl,rfl,hk,hr,u,hg,hb⟩:=hcut;by_cases he:er=0
    case neg=>
     have e2:(er==0)=false:=by simpa using he
     have e3:(er !=0)=true:=by simpa using he
     have M:Hid (ji x.s j.id=(x.s,0)):=by
      show _=_;unfold ji;rw[Q.out];simp only;rw[cL (by rw[yH.out];simp),S.out,cL (by rw[<-L.out];simp[HG0.out]),cK (by rw[<-L.out,<-uN.out,<-qJ.out];exact he)]
     clear he hk hr u;go_wp2_with fail
     (try simp only[Exit.inBlock,Exit.then])
     refine cU (lE rfl _ _ _) rfl ?_;exact vr HH (aa (aa uL yS) hb) M
    case pos=>
     subst he;replace u:=u rfl
     have M:Hid (ji x.s j.id=(zO x.s j k.1 k.2.1,1+(k.2.2.1.length:Int))):=by
      show _=_;unfold ji;rw[Q.out];simp only;rw[cL (by rw[yH.out];simp),S.out,cL (by rw[<-L.out];simp[HG0.out]),cL (by rw[<-L.out,<-uN.out,<-qJ.out];simp),<-L.out]
     have HJ5:=ah u;have qA:=ah hb;have yV:=aa yS hb;obtain⟨X4,uE⟩:=nm (wc.setCell ⟨P,1,none⟩ (.slice A3 k.1.length c3));have yT:aU P wc X4:=uE▸aU.set _ _ _;have uV:=z.ce.lt;have yU:=z.du;have kc:=z.ce.ae yV uV;have y1:wc.cell? ⟨P,1,none⟩=some x.N.v:=kc.cell 1;have f1:=kc.ao 1;have HD4:=ah (gT.BK z yV (aS (bS HNd hb.size fun g _ h2=>hb.block g h2) (show m.heap.size<=m.drew.heap.size from cB _)) uZ uE);have hP3:P<d:=by omega
     have HK5:Hid (ai X4 gj 51 (bk t)):=(yT.same _ hk.lt (by omega)).trans hk;have HR5:Hid (jk X4 d t):=hr.hi yT.size fun c h1 h2=>yT.same c h2 (by omega);have HF5:=ah ((Fd.aX yV:Fd P T.A T.A m wc).trans (Fd.xe yT));have FC0:=ah (Fd.xe yT:Fd P T.A T.A wc X4)
     have HB5:Hid (Bl b0 m X4):=by
      show Bl _ _ _;rw[uE];exact(yV.mono (by omega)).setCell (p:=⟨P,1,none⟩) yU _
     have HTg:Hid (T.A≠some ⟨gj,0,none⟩):=fun e=>by have:=z.hT gj e;omega
     have uW:Hid (sW x.s.aj (jB r.j x.s.am (fl r.j) k.2.1)=0):=by
      show _=_;have he0:=qJ.out;rw[uN.out]at he0⊢;exact zw HG.aj (ue he0.symm).1 HM rfl
     have HPt:=ah (Eg b0 b1 b2 b3 b4 b5 P _ T yB t X4 HD4 HR5.mE (by rw[u];exact uW));have hgP:P<gj:=by omega
     clear hk hr u hb yT kc uZ;go_wp2_with(first|(rw[<-uE];clear uE)|refine wA HK5 t51 rfl ?_);refine HPt.out.mono ?_;rintro e W5 ⟨l,J,rfl,hl,hd5,-,bw5,uM⟩;have HL5:=ah hl;have kj5:=uM.ce HK5 hgP HTg;have x17:=kj5.cell 17;simp at x17;have HTl:=ah (rh b0 b1 b2 b3 b4 b5 P _ T yB 4 j.id t.j.li W5 hd5 (by have:=HN'.out;omega));have F6:=ah (HF5.trans uM);have B6:=ah (HB5.trans bw5);have FC:=ah (FC0.out.trans uM);clear hl hd5 bw5 uM kj5;go_wp2_with fail;refine HTl.out.mono ?_;rintro e B ⟨y,rfl,hd9,bw9,fd9⟩;have uO:=ah hd9;have HF9:=ah (F6.out.trans fd9);have HB9:=ah (B6.out.trans bw9);have qK:Fd P T.A y.A wc B:=FC.out.trans fd9;clear hd9 bw9 fd9 x17;have hl5:=uO.fe.1;have hl0:=HH.fe.1;rw[cY,List.length_singleton,hl0]at hl5;have hnn:=HN'.out;have HSe:=ah (j7 B3 d3 k.2.2.1 B.drew (((bS HNt (cF qA.size qK.size) fun g h1 h2=>(qK.same g (by have:m.drew.heap.size=m:=rfl;omega) (cD h2 qA.size) (fun e=>by have:=z.hT g e;have:m.drew.heap.size=m:=rfl;omega)).trans (qA.block g h2)).et EG).ae (bR.drew:Bl B B B.drew)) (by omega));clear yV qK;go_wp2_with fail;have y8:B.cell? ⟨P,8,none⟩=some y.v:=uO.ce.cell 8;refine bW (fun _=>True) (fun W=>W.cell? ⟨P,8,none⟩=some y.v) #[false,false,false,false,false,false,false,false,false,false,true] [6,7,10] 0 [0,1,2,3,4,5,6,7,8,9,10] (by kernel_rfl) (by kernel_rfl) trivial y8 ?_
     iterate 6
      refine lqe rfl (fun _ _ _ _ h=>h) ⟨?_,fun W f hS=> ?_,?_⟩;rotate_left
      ·have c8:=hS (by kernel_rfl);go_simp
       try rfl
     refine el 41 #[.slice B3 k.2.2.1.length d3] rfl rfl (some 87) rfl rfl rfl (by go_simp) ?_;refine HSe.out.mono ?_;rintro e uJ ⟨A10,c10,rfl,yX,uI⟩;have yK:Bl B B uJ:=(bR.drew:Bl B B B.drew).trans uI;have O:=uO.ae yK;have z8:uJ.cell? ⟨P,8,none⟩=some y.v:=O.ce.cell 8;refine⟨_,rfl,trivial,z8,?_⟩;obtain⟨yZ,c11,uF,uB,uD,yD,yI,yY⟩:=dy jg (P:=prog) uJ (P+1) 38 38 92 _ 80 underlying38 ja rfl y.A y.n y.c _ O.fe A10 k.2.2.1.length c10 _ (yX.et jg) (by simp only[maxLen];omega) (by omega) (by have:=O.ce.lt;omega);have uS:y.A≠some ⟨P,0,none⟩:=fun e=>by have:=O.sg P e;omega
     have qE:ai uF P 181 _:=(yI P O.ce.lt uS).trans O.ce;have u8:uF.cell? ⟨P,8,none⟩=some y.v:=qE.cell 8;have g8:=qE.ao 8;obtain⟨X12,yE⟩:=nm (uF.setCell ⟨P,8,none⟩ (.slice yZ (y.n+k.2.2.1.length) c11));have yF:yZ=y.A\/∃g,yZ=some ⟨g,0,none⟩/\uJ<=g:=yY.imp id fun e=>⟨_,e,cB _⟩;have qH:=ah (gT.tell O uD (by omega) yD.size yI yF yE (by omega))
     have qG:Hid (Fd P T.A yZ m X12):=by
      show Fd _ _ _ _ _;refine(HF9.trans (Fd.aX yK)).trans ?_;have on:aU P uF X12:=yE▸aU.set _ _ _;refine⟨cF yD.size on.size,fun b q1 q2 q3=>(on.same b (cD q2 yD.size) (by omega)).trans (yI b q2 q3),?_⟩;rcases yF with e|⟨g,e,hg⟩
      ·exact .inl e
      ·exact .inr fun g' e'=>by rw[e]at e';injection e' with e';injection e' with e';omega
     have uX:Hid (Bl b0 m X12):=by
      show Bl _ _ _;rw[yE];exact((HB9.trans (yK.mono (by have:=uO.ce.lt;omega))).trans (yD.mono (by omega))).setCell (p:=⟨P,8,none⟩) yU _
     refine sT rfl rfl (some 88) rfl rfl rfl (.tmp 85) (.tmp 87) rfl (by go_simp) (by go_simp) uB ?_;intro W f;rw[f];refine⟨trivial,u8,?_⟩;have qD:=ah yE;clear uB uD yD yI yY yF qE O yK uI yX yE f
     iterate 2
      refine lqe rfl (fun _ _ _ _ h=>h) ⟨?_,fun W f hS=> ?_,?_⟩;rotate_left
      ·go_simp
       try rfl
     refine CY (uF.setCell ⟨P,8,none⟩ (.slice yZ (y.n+k.2.2.1.length) c11)) rfl rfl rfl (by kernel_rfl) rfl rfl (by go_simp) ?_;intro X hX;refine⟨trivial,?_⟩;rw[<-qD.out]at hX;subst hX;simp only[aP,aW];clear u8 g8 y8 z8;go_wp2_with fail
     (try simp only[Exit.inBlock,Exit.then])
     refine cU (lE rfl _ _ _) rfl ?_;have hd:=qH.out;rw[fX,List.singleton_append]at hd;refine⟨_,_,_,rfl,hd,?_,?_,?_,(uL.out.mono (by omega)).trans uX,(Fd.aX uL).trans qG⟩
     ·rw[M.out,zO];show{x.s with ag:=k.1,aj:=l.map Jr.j}=_;rw[HL5.out,HJ5.out,uN.out]
     ·rw[M.out];simp only[dV,dB];omega
     ·simp only[dV,dB];omega
theorem KK:∀args w,(callFunc 170 args).run prog w=.ok (.enter 170 args) w:=enters_of func170 (by kernel_rfl) rfl
theorem GK(o:Ou)(n:Int)(b:Nat)(w:Wd)(h:w.cell? b=some (n:Vl))(g:b<w):Cs prog 170 #[.agg (IQ o),.pointer b] w (an (o.kd==2&&o.nt.nd==n:Bool) w):=by
 have a:Hid (ai (w.alloc (.cells (IQ o) 92)) w 92 (IQ o)):=ai.new _ _ _;have e:=a.cell 0;have f:=a.cell 3;simp at e f;obtain⟨p,d⟩:∃p,(o.kd==2)=p:=⟨_,rfl⟩;obtain⟨q,c⟩:∃q,(o.nt.nd==n)=q:=⟨_,rfl⟩;rw[d,c];cases p<;>
 ·go_in;go_wp2;go_ret;exact⟨ar (by first|rfl|simp[c]),aA⟩
variable{n:Nat}
theorem Sd{s:St}(g:bt s)(w:n∈ey s)(i:tM s n=0):∃x f,s.ag[n]?=some x/\
 wg s n=pA f n/\(rg f.ag (n:Int) 9 0 f.am).2=0/\(rg f.ag (n:Int) 9 0 f.am).1.length<=1000/\
 ((x.st=1/\∃j,eh s.aj x.jb=some j/\j.st=2/\kK j 7=0/\f=gJ s j 7)\/(x.st=3/\f=s)):=by
 obtain⟨x,hx,z⟩:=pl.1 w;have u:=eR g.ag hx;have D:=(cQ.1 g.ag).cf;obtain⟨k,y,e,o,C,ht,h,r⟩:=ur i;obtain rfl:n=k:=by omega
 rw[hx]at o;cases o;unfold wg;rw[hx];simp only;rcases CT u z with h1|t
 ·obtain⟨j,a,b,c,d⟩:=g.busy n x hx h1;have q:eh s.aj x.jb=some j:=by rw[<-b];exact m5 g.aj a
  rw[q];simp only;have l:=tE (why:=7) (g.aj.ok j a) c rfl;have g1:=m0 g a l;have p:=lk g c (why:=7) n;rw[hx]at p;have A:(gJ s j 7).ag[n]?=some (bH x 7 0 s.am):=by simpa [b,h1]using p
  have B:jx (bH x 7 0 s.am) 9 0=true:=by
   have v:x.ep<999999999:=by
    unfold jx at h;simp at h;exact h.2
   simp[jx,bH,eL,v]
  have m:=wZ g1.ag A g1.am B;have E:=(cQ.1 g1.ag).cf;exact⟨x,_,rfl,by rw[cK h1],by rw[m],by rw[m,nB];omega,.inl ⟨h1,j,q,c,l,rfl⟩⟩
 ·exact⟨x,s,rfl,by rw[cL (by omega)],i,by rw[r,nB];omega,.inr ⟨t,rfl⟩⟩
def LoseW(s:St)(n:Nat)(w:Wd)(e:Ed)(w':Wd):Prop:=
 (tM s n≠0/\(∃k:Int,k≠0/\e=.returned (.tuple #[.agg dz,.slice none 0 0,k]))/\Bl w w w')\/(tM s n=0/\∃m,m<=200/\SW (wg s n) m w e w')
theorem KL(x:Sr)(n:Nat)(w:Wd)(h:db w x)(g:bt x.s)(hl:n∈ey x.s):Cs prog 88 #[.agg (aY x),n] w (LoseW x.s n w):=by
 obtain⟨V,E⟩:=nm (((w.alloc (.cells (aY x) 28)).alloc (.cells #[n] 3)).alloc (.cells dz 28));have D:Bl w w V:=E▸(aC).alloc (by simp;omega) _;have kV:ai V w 28 (aY x):=E▸((ai.new _ _ _).alloc _).alloc _;have nV:ai V (w+1) 3 #[n]:=by rw[E];have:=(ai.new (w.alloc (.cells (aY x) 28)) 3 #[n]).alloc (.cells dz 28);simpa using this
 have zV:ai V (w+2) 28 dz:=by rw[E];have:=ai.new ((w.alloc (.cells (aY x) 28)).alloc (.cells #[n] 3)) 28 dz;simpa using this
 have HCk:=ah (da x V (h.ae D) g);have HCp:=ah fun(W:Wd) (b:Bl V V W)=>gQ x W ((h.ae D).ae b);have HDo:=ah fun(W:Wd) (b:Bl V V W)=>GL x.N.A x.N.n x.N.c x.s.ag n 9 0 x.s.am W (((h.ae D).ae b).ag) (by have:=h.BP.cf;unfold maxLen;omega) h.BP.cz;have HB:=ah D;have Q:=ah kV;have qI:=ah nV;have HZ:=ah zV;have HG:=ah g;have HL:=ah hl;have HIn:=ah (h.ae D);have hzl:=zV.lt;clear h g D kV nV zV hl;go_in;go_wp2_with(first|(rw[<-E];clear E)|refine wA Q t28 rfl ?_);refine av HCk fun w2 b2=> ?_;have O:=ah b2;have uJ:=ah (Q.ae b2 Q.lt);have yJ:=ah (qI.ae b2 qI.lt);have x0:=uJ.cell 0;have I:=uJ.cell 1;have q:=yJ.cell 0;simp at x0 I q;clear b2;go_wp2_with fail;refine(HDo _ O).mono ?_;rintro e m ⟨A3,c3,rfl,-,b3⟩;have yZ:=ah (aa O b3);have HK3:=ah (uJ.ae b3 uJ.lt);have yE:=ah (yJ.ae b3 yJ.lt);have uM:=ah (HZ.ae yZ HZ.lt);clear b3 x0 I q;by_cases r:tM x.s n=0
 case neg=>
  obtain⟨k,hk⟩:∃k,(rg x.s.ag (n:Int) 9 0 x.s.am).2=k:=⟨_,rfl⟩;have K:k≠0:=by rw[<-hk];exact r
  have e0:(k==0)=false:=by simpa using K
  have e1:(k !=0)=true:=by simpa using K
  rw[hk];have uS:=ah r;clear hk K r;go_wp2_with(refine wB uM aT rfl ?_);refine fV (cs:=dz) rfl (ai.row uM dz) rfl rfl rfl underlying28 rfl aT rfl rfl ?_;exact .inl ⟨uS,⟨k,by simpa using e0,rfl⟩,aH (aa HB yZ) (by omega) _⟩
 case pos=>
  have K:(rg x.s.ag (n:Int) 9 0 x.s.am).2=0:=r;rw[K];have uS:=ah r;obtain⟨nd,s1,uY,U,qH,yW,yI⟩:=Sd HG HL r;have HCs:=ah yI;have HLs:=ah U;have P:=ah qH;have qL:=ah yW;clear K r yI U qH yW;go_wp2_with(refine wA HK3 t28 rfl ?_);refine(HCp _ yZ).mono ?_;rintro e a ⟨y,b1,b2,b3,b4,b5,rfl,hys,qA,qM,bb⟩;obtain⟨V4,uG⟩:=nm (a.alloc (.cells (vF y ⟨none,0,0⟩) 181));have R:Bl a a V4:=uG▸aA;have uT:Bl m m V4:=aa bb R;have HD:Hid (gT V4 m b1 b2 b3 b4 b5 a y ⟨none,0,0⟩ []):=by rw[uG];exact gT.of qA qM
  have HT:=ah (rh _ _ _ _ _ _ _ y ⟨none,0,0⟩ [] 6 n 4 V4 HD (by show 0+1<=1000000;omega));have yY:=ah hys;have HYn:=ah qA.hN;have hb04:m.heap.size<=a:=bb.size;have HB4:=ah (aa yZ uT);have uA:=ah (yE.ae uT yE.lt);have q:=uA.cell 0;simp at q;clear hys qA qM bb R uT;go_wp2_with(rw[<-uG];clear uG);refine HT.out.mono ?_;rintro e H ⟨T5,rfl,S,qD,-⟩;have s3:=yZ.size;have HD5:=ah S;have uP:=ah (HB4.trans (qD.mono (by omega)));have yL:Hid (ai H (w+1) 3 #[n]):=(qD.block _ yE.lt).trans uA;clear S qD q;have q:=yL.cell 0;have HK5:=ah (Q.ae uP Q.lt);have I:=HK5.cell 1;simp at q I;have uC:=(HIn.ae uP).ag;have hnl:n<x.N.n:=by rw[<-uC.cb];exact(cA.1 uY).1
  obtain⟨bn,on,nd',hNA,hbn,yU,d0,d1,d2,d3,d4,d5,d6⟩:=cp.seven uC hnl;rw[uY]at yU;cases yU
  have hN48:x.N.n<=1000:=by
   have:=(cQ.1 HG.ag).cf;rw[uC.cb]at this;omega
  clear uC;have x1':H.cell? ⟨w,1,none⟩=some (.slice (some ⟨bn,on,none⟩) x.N.n x.N.c):=by rw[I,<-hNA]
  clear I;go_upto_block 0 with fail
  obtain⟨V6,uD⟩:=nm (H.alloc (.cells #[nd.st,nd.jb,nd.ep,nd.dr,nd.wt,nd.si,nd.ak] 34));rw[<-uD];have uE:Bl H H V6:=uD▸aA;have uV:ai V6 H 34 #[nd.st,nd.jb,nd.ep,nd.dr,nd.wt,nd.si,nd.ak]:=uD▸ai.new _ _ _;have n0:=uV.cell 0;have n1:=uV.cell 1;simp at n0 n1;have uN:=ah (HD5.ae uE);have HB6:=ah (aa uP uE);have qG:=ah (yL.ae uE yL.lt);clear uD uV uE uY x1' q d0 d1 d2 d3 d4 d5 d6;go_cut [12] (fun X wx=>X=.int .i64 0/\∃z T J,gT wx m b1 b2 b3 b4 b5 a z T J/\z.s=s1/\J.length<=100/\Bl m V6 wx)
  case first=>
   rcases HCs with⟨L,j,hj,uZ,uX,rfl⟩|⟨L,rfl⟩
   ·have HEd:=ah (xJ _ _ _ _ _ _ _ y T5 _ nd.jb 7 j V6 uN (by rw[yY.out];exact HG) (by rw[yY.out];exact hj) uZ uX HYn (by have:=uN.fe.1;simp at this;omega));have e1:(nd.st==1)=true:=by simpa using L
    have HJs:=ah uZ;have HM:=ah (fq hj).2.1;have HE:=ah uX;clear L hj uZ uX;go_wp2_with fail;refine HEd.out.mono ?_;rintro e w7 ⟨z,T,rfl,G,uF,b7,-⟩;obtain⟨-,-,yT⟩:=xT HG HM HE;have i:=ah G;have HZs:=ah uF;have uH:=ah b7;have uU:=ah yT;clear G uF b7 yT;go_wp2;go_meet;refine⟨rfl,z,T,_,i,by rw[HZs.out,yY.out],?_,uH⟩;have:=uU.out;rw[yY.out];simp;omega
   ·have e1:(nd.st==1)=false:=by simp[L]
    have e2:(nd.st==2)=false:=by simp[L]
    clear L;go_wp2;go_meet;exact⟨rfl,y,T5,_,uN,yY,by simp,cC _ _⟩
  case rest=>
   obtain⟨rfl,z,T,J,G,uF,Z,bw⟩:=hcut;subst uF;have hP:=G.du;have i:=ah G;have uW:=ah Z;have uH:=ah (HB6.trans (bw.mono (by omega)));have yN:Hid (ai wc (w+1) 3 #[n]):=(bw.block _ yE.lt).trans qG;have yS:=ah fun(W:Wd) (b:Bl wc wc W)=>GL z.N.A z.N.n z.N.c z.s.ag n 9 0 z.s.am W ((i.ae b).ag.et mb) (by have:z.N.n<=1000:=i.fN;unfold maxLen;omega) i.ag.2.cz;obtain⟨d,qB⟩:=nm (rg z.s.ag (n:Int) 9 0 z.s.am);rw[<-qB]at yS P qL;have HGr:=ah qB;clear qB G Z bw;go_wp2;refine bW (fun W=>Bl wc wc W) (fun _=>True) #[] [11] 0 [0,1,2,3,4,5,6,7,8,9,10,11,12,13,14,15,16] (by kernel_rfl) (by kernel_rfl) bR.drew trivial ?_;have u:Bl wc wc wc.drew:=bR.drew
   iterate 11
    refine lqe rfl (fun _ _ _ _ h=>h) ⟨?_,fun W F hS=> ?_,?_⟩;rotate_left
    ·obtain⟨c0',c1',c2',c3',c8'⟩:=Ki (i.ce.ae F i.ce.lt);have cn:=(yN.ae F yN.lt).cell 0;simp at cn;go_simp
     try rfl
   refine el 103 #[z.N.v,n,(9:Int),(),z.s.am] rfl rfl (some 97) rfl rfl rfl (by go_simp) ?_;refine(yS _ u).mono ?_;rintro e W8 ⟨l,f,rfl,Y,qC⟩;refine⟨_,rfl,aa u qC,trivial,?_⟩;have HNd:=ah Y;have qF:=ah (aa u qC);clear qC Y;rw[P.out]
   iterate 5
    refine lqe rfl (fun _ _ _ _ h=>h) ⟨?_,fun W F hS=> ?_,?_⟩;rotate_left
    ·go_simp
     try rfl
   refine ew ?_;clear u;simp only[aP,aW];obtain⟨C,yX⟩:=nm (W8.setCell ⟨a,1,none⟩ (.slice l d.1.length f));have M:=ah (gT.BK i qF (aS HNd (show wc.heap.size<=wc.drew.heap.size from cB _)) qL yX);have qE:=i.ce.ae qF i.ce.lt;have y1:W8.cell? ⟨a,1,none⟩=some z.N.v:=qE.cell 1;have f1:=qE.ao 1;have on9:aU a W8 C:=yX▸aU.set _ _ _
   have qK:Hid (Bl m wc C):=by
    show Bl _ _ _;rw[yX];exact(qF.out.mono (by have:=i.ce.lt;omega)).setCell (p:=⟨a,1,none⟩) hP _
   have uQ:Hid (ai C (w+1) 3 #[n]):=(qK.block _ yE.lt).trans yN;have y8:C.cell? ⟨a,8,none⟩=some T.v:=M.ce.cell 8;have eg:=KK;have hl9:=M.fe.1;have hP9:=M.ce.lt
   have yV:=ah (E4 170 (w+1:Nat) (fun o=>o.kd==2&&o.nt.nd==(n:Int)) (a+1) T.A T.c C eg (fun o W fr=>by
    have kI:=(fr.du.block (w+1) (by omega)).trans uQ;have:=ai.cell (t:=3) (cs:= #[n]) kI 0;simp at this;exact GK o n (w+1) W this (ai.lt (t:=3) (cs:= #[n]) kI)) T.n J C (Fr.refl hP9 _ _) M.fe (by have:=uW.out;omega))
   obtain⟨lf,uL⟩:=nm (J.filter (fun o=> !((fun o:Ou=>o.kd==2&&o.nt.nd==(n:Int)) o)));rw[<-uL]at yV;have yT:lf.length<=J.length:=uL▸l8 _ _;clear qE on9 uL;go_wp2_with(rw[<-yX];clear yX);refine yV.out.mono ?_;rintro e uO ⟨rfl,yW,yF⟩;obtain⟨B,yG⟩:=nm (uO.setCell ⟨a,8,none⟩ (.slice T.A lf.length T.c));have yH:=ah (gT.del M yW yF (by have:=uW.out;omega) yG);have yM:ai uO a 181 _:=(yF.du.block _ (by omega)).trans M.ce;have z8:uO.cell? ⟨a,8,none⟩=some T.v:=yM.cell 8;have f8:=yM.ao 8
   have yR:Hid (Bl m wc B):=by
    show Bl _ _ _;rw[yG];exact(qK.trans (yF.du.mono (by omega))).setCell (p:=⟨a,8,none⟩) hP _
   have HBX:Hid (Bl w w B):=(aa HB uH).trans (yR.out.mono (by have:=HB.size;omega));have qJ:Hid (ai B (w+2) 28 dz):=(yR.block _ uM.lt).trans (HZ.ae uH HZ.lt);have uU:=ah yT;have hne:a.heap.size≠w+2:=by omega
   clear yM yW yF yT;go_wp2_with(rw[<-yG];clear yG);refine bW (fun W=>ai W a 181 (vF (z.BK d.1 ⟨l,d.1.length,f⟩) ⟨T.A,lf.length,T.c⟩)) (fun _=>True) #[] [8] 0 [0,1,2,3,4,5,6,7,8,9,10] (by kernel_rfl) (by kernel_rfl) yH.ce trivial ?_;have u:ai B.drew a 181 (vF (z.BK d.1 ⟨l,d.1.length,f⟩) ⟨T.A,lf.length,T.c⟩):=yH.ce
   iterate 8
    refine lqe rfl (fun _ _ _ _ h=>h) ⟨?_,fun W F _=> ?_,?_⟩;rotate_left
    ·obtain⟨c0,c1,c2,c3',c4,c5,c6,c7,f⟩:=Nq F;go_simp
     try rfl
   refine qn rfl rfl rfl rfl rfl 28 (.tmp 4) (.tmp 121) rfl (w+2) (aY (z.BK d.1 ⟨l,d.1.length,f⟩)) (by go_simp) (by go_simp) qJ aT rfl rfl rfl ?_;intro uI yD;have k9:ai uI a 181 (vF (z.BK d.1 ⟨l,d.1.length,f⟩) ⟨T.A,lf.length,T.c⟩):=yD▸ai.gu u hne _;have uK:Hid (ai uI (w+2) 28 (aY (z.BK d.1 ⟨l,d.1.length,f⟩))):=by rw[yD];exact ai.row qJ _
   have uB:Hid (aU (w+2) B uI):=by rw[yD];exact⟨(aU.row B.drew (aY (z.BK d.1 ⟨l,d.1.length,f⟩))).size,(aU.row B.drew (aY (z.BK d.1 ⟨l,d.1.length,f⟩))).same⟩
   have uR:Hid (Bl w w uI):=by rw[yD];exact aH (nT HBX) (by omega) _
   refine⟨k9,trivial,?_⟩
   iterate 2
    refine lqe rfl (fun _ _ _ _ h=>h) ⟨?_,fun W F _=> ?_,?_⟩;rotate_left
    ·go_simp
     try rfl
   refine ew ?_;clear u k9 yD;simp only[aP,aW];go_wp2;refine fV (cs:=aY (z.BK d.1 ⟨l,d.1.length,f⟩)) rfl uK rfl rfl rfl underlying28 rfl aT rfl rfl ?_;refine .inr ⟨uS,_,?_,z.BK d.1 ⟨l,d.1.length,f⟩,⟨T.A,_,T.c⟩,_,rfl,((yH.Tw.on uB (by omega)).mono (by omega)),?_,aS (aV uB yH.fe (by omega)) (by omega),rfl,uR⟩
   ·have h1:=uW.out;have h2:=uU.out;omega
   ·rw[HLs.out,HGr.out];rfl
set_option maxRecDepth 512
open Go renaming TypeId->Ti,Program->Pg
def J6(D:Nat->Prop)(w:Wd)(z:Sr):Prop:=∀W,w.heap.size<=W.heap.size->(∀b,D b->b<w.heap.size->W.heap[b]?=w.heap[b]?)->db W z
variable{D:Nat->Prop}{z:Sr}
theorem J6.am(h:J6 D w z):db w z:=h w lr fun _ _ _=>rfl
def Av(D:Nat->Prop)(P:Nat)(w:Wd)(z:Sr):Prop:=∀W,w.heap.size<=W.heap.size->(∀b,D b->b<w.heap.size->b≠P->b≠P+1->W.heap[b]?=w.heap[b]?)->db W z
theorem Av.of{V:Wd}(h:J6 D w z)(b:Bl w.heap.size w V):Av D w.heap.size V z:=fun W h1 h2=>h W (cF b.size h1) fun c d a=>(h2 c d (cD a b.size) (by omega) (by omega)).trans (b.block c a)
theorem Av.am{w:World}(h:Av D P w z):db w z:=h w lr fun _ _ _ _ _=>rfl
theorem Av.only{w W:World}(h:Av D P w z)(k:aU P w W):Av D P W z:=fun X h1 h2=>h X (cF k.size h1) fun c d a b e=>(h2 c d (cD a k.size) b e).trans (k.same c a b)
theorem Av.Ts{w W:World}(h:Av D P w z)(k:aU (P+1) w W):Av D P W z:=fun X h1 h2=>h X (cF k.size h1) fun c d a e b=>(h2 c d (cD a k.size) e b).trans (k.same c a b)
theorem Av.ae{W:Wd}(h:Av D P w z)(k:Bl w w W):Av D P W z:=h.only ⟨k.size,fun b a _=>k.block b a⟩
theorem Av.srd{w:World}(h:Av D P w z):J6 D w z:=fun W h1 h2=>h W h1 fun c a b _ _=>h2 c a b
theorem gV.fr{B:Nat}{W:Wd}(h:gV B w z)(hs:w.heap.size<=W)(k:∀b,B<=b->b<w->W.heap[b]?=w.heap[b]?):gV B W z:=fun X h1 h2=>h X (cF hs h1) fun b a c=>(h2 b a (cD c hs)).trans (k b a c)
theorem JH{W:Wd}(k:Bl w w W):aU P w W:=⟨k.size,fun b a _=>k.block b a⟩
section
variable {α : Type} {f : α -> List Value} {k : Nat}
theorem xz(x:wU f k){P:Pg}(W:Wd)(base:Nat)(t s e:Ti)(z:Vl)(v:Nat)(ht:P.underlying t=some (.slice e))(C:(P.info? e).map (fun i=>(i.zero,i.size,i.bytes))=some (some z,k,v))(R:z.cells.size=k)
 (A:OA)(n c:Nat)(l:List α)(p:be f k W base A n c l)(B:OA)(m d:Nat)(r:List α)(w:cp f k W B m r)(M:n+m<=maxLen)(J:(n+m)*v<=140737488355328)(K:base<=W):
 ∃h q a,(Builtin.append_ #[t,t] s #[.slice A n c,.slice B m d]).run P W=.ok (.slice h (n+m) q) a/\be f k a base h (n+m) q (l++r)/\Bl base W a/\
  (∀b,b<W.heap.size->A≠some ⟨b,0,none⟩->a.heap[b]?=W.heap[b]?)/\(h=A\/h=some ⟨W.heap.size,0,none⟩/\W.heap.size<a.heap.size):=by
 by_cases S:0<n+m
 ·obtain⟨h,q,a,h1,h2,D,E,F⟩:=dy x W base t s e z v ht C R A n c l p B m d r w M J K;refine⟨h,q,a,h1,h2,D,E,F.imp id fun e=>⟨e,?_⟩⟩;obtain⟨g,o,-,N,-⟩:=h2.2.room (by have:=h2.2.le;omega);rw[e]at o;injection o with o;injection o with o;omega
 ·have hn:n=0:=by omega
  have I:m=0:=by omega
  subst hn I;obtain⟨y,hi,X,O,Y⟩:=sB C;have H:l=[]:=dJ p.1;have Q:r=[]:=dJ w.cb;subst H Q;have hs:=cp.src x w d ht;subst O;by_cases G:c=0
  ·subst G;exact⟨A,0,W,run_append_nothing W t t s e y ht hi A 0 0 lr _ hs,by simpa using p,cC _ _,fun _ _ _=>rfl,.inl rfl⟩
  ·obtain⟨g,rfl,T,N,U,V⟩:=p.2.room (by omega);have L:=run_append_room_src (P:=P) W t t s e y ht hi g 0 0 c _ 0 _ hs (by omega) (fun j u=>by simp at u) (fun j u=>by simp at u);exact⟨_,c,W,by simpa [World.setCells]using L,by simpa using p,cC _ _,fun _ _ _=>rfl,.inl rfl⟩
end
def OutW(D:Nat->Prop)(s:St)(n:List Ou->Vl->Prop)(w:Wd)(e:Ed)(w':Wd):Prop:=
 ∃(z:Sr) (T:Sl) (a:List Ou) (v:Vl),e=.returned (.tuple #[.agg (aY z),T.v,v])/\J6 (fun q=>D q/\T.A≠some ⟨q,0,none⟩) w' z/\z.s=s/\fY w' w T.A T.n T.c a/\n a v/\Bl w w w'/\∀g,T.A=some ⟨g,0,none⟩->w<=g/\g<w'
abbrev LostN(s:St)(a:List Ou)(v:Vl):Prop:=∃b,v=.bool b/\a.length<=200000/\(ey s=[]->b=false/\a=[])
structure LoRel(D:Nat->Prop)(s:St)(w w2:Wd)(X Y Z:Vl)(wr:Wd):Prop where
 ex:∃(k:Nat) (z:Sr) (T:Sl) (fe:List Ou) (b:Bool),k<=(ey s).length/\X=T.v/\Y=.bool b/\Z=.int .i64 k/\ai wr w 28 (aY z)/\Av (fun q=>D q/\T.A≠some ⟨q,0,none⟩) w wr z/\bt z.s/\kB ((ey s).drop k) z.s=ql s/\fY wr w2 T.A T.n T.c fe/\(∀g,T.A=some ⟨g,0,none⟩->w2<=g/\g<wr)/\fe.length<=200*k/\(ey s=[]->b=false/\fe=[])/\aU w w2 wr/\Bl w w2 wr
set_option maxRecDepth 100000 in
theorem CE(D:Nat->Prop)(x:Sr)(w:Wd)(h:J6 D w x)(hD:∀c,w.heap.size<=c->D c)(g:bt x.s):Cs prog 38 #[.agg (aY x)] w (OutW D (ql x.s) (LostN x.s) w):=by
 obtain⟨V,Q⟩:=nm ((w.alloc (.cells (aY x) 28)).alloc (.cells dz 28));have bV:Bl w w V:=Q▸aC;have kV:ai V w 28 (aY x):=Q▸(ai.new _ _ _).alloc _;have zV:ai V (w+1) 28 dz:=by rw[Q];have:=ai.new (w.alloc (.cells (aY x) 28)) 28 dz;simpa using this
 have HSP:=ah (Av.of h bV);have uK:=ah (wh x V (h.am.ae bV) g);have HB:=ah bV;have HK:=ah kV;have HZ:=ah zV;have HG:=ah g;have hzl:=zV.lt;clear h g bV kV zV;go_in;go_wp2_with(first|(rw[<-Q];clear Q)|refine wA HK t28 rfl ?_);refine uK.out.mono ?_;rintro e u ⟨A2,n2,c2,rfl,hn2,uL,b2⟩;have uE:=uL.1;have K:=ah b2;have HO2:=ah uL;have HK2:=ah (HK.ae b2 HK.lt);have uY:=ah (HZ.ae b2 HZ.lt);have s2:=b2.size;have uQ:(ey x.s).length=n2:=by rw[<-uE];simp[dL]
 clear b2 uL uE;subst uQ;go_wp2
 go_loopw [5,6,15] (fun X Y Z wr=>LoRel D x.s w u X Y Z wr) (fun _ _ Z _=>(ey x.s).length-(intOf Z).toNat)
 case atStart=>exact⟨0,x,⟨none,0,0⟩,[],false,fK _,rfl,rfl,rfl,HK2,(fun W h1 h2=>(HSP.ae K) W h1 fun q a1=>h2 q ⟨a1,fun e=>(by cases e)⟩),HG,rfl,be.nil _ _ _ _,fun g e=>(by cases e),by simp,fun _=>⟨rfl,rfl⟩,aU.refl _ _,cC _ _⟩
 case round=>
  obtain⟨k,z,T,H,b,hk,rfl,rfl,rfl,qB,qL,S,U,ho,qE,htl,yV,yY,qA⟩:=hrel.ex;have r:=ah qB;have I:=ah qL;have yQ:=ah S;have yZ:=ah U;have yS:=ah ho;have o:=ah qE;have yT:=ah htl;have yJ:=ah yV;have uA:=ah yY;have uB:=ah qA;have hwr:=yY.size;have uR:k<=1000:=by omega
  have hI:=(aV yY HO2 (by omega)).et gi;clear qB qL S U ho qE htl yV yY qA hrel;by_cases uM:k<(ey x.s).length
  ·obtain⟨bl,ol,i,rfl,hb,hi,hci⟩:=hI.int uM
   obtain⟨n,hn,rfl⟩:∃n:Nat,(ey x.s)[k]?=some n/\i=(n:Int):=by
    unfold dL at hi;rw[dD]at hi;obtain⟨n,h1,h2⟩:=i6.1 hi;exact⟨n,h1,h2.symm⟩
   have yH:(ey x.s).drop k=n::(ey x.s).drop (k+1):=by
    obtain⟨h1,h2⟩:=cA.1 hn;rw[dR h1,h2]
   have qC:ey x.s≠[]:=by intro h;rw[h]at uM;simp at uM
   have uK:=ah (wh z wr I.am yQ);have HNe:=ah qC;have uW:=ah yH;clear hI hi hn yH qC;go_wp2_with(refine wA r t28 rfl ?_);refine uK.out.mono ?_;rintro e w4 ⟨A4,n4,c4,rfl,hn4,qI,b4⟩;have qF:=ah (gs A4 n4 c4 (dL (ey z.s)) (n:Int) w4 (qI.et gi) (by unfold maxLen;omega));obtain⟨p,hp⟩:∃p,(dL (ey z.s)).contains (n:Int)=p:=⟨_,rfl⟩;rw[hp]at qF
   have HP:Hid (p=decide (n∈ey z.s)):=by
    show _=_;rw[<-hp,nS,List.contains_iff_mem,iM];unfold dL;rw[cS];exact⟨fun⟨a,h1,h2⟩=>by have:a=n:=(by omega);rw[<-this];exact h1,fun h=>⟨n,h,rfl⟩⟩
   have v:=ah b4;have yW:=ah (r.ae b4 r.lt);clear qI hp b4 hci;go_wp2_with fail;refine qF.out.mono ?_;rintro e j ⟨rfl,rfl⟩;cases p
   case false=>
    have HNo:Hid (n∉ey z.s):=by show n∉ey z.s;have:=HP.out;simpa using this.symm
    go_wp2_with fail;refine⟨⟨⟨k+1,z,T,H,b,by omega,rfl,rfl,by go_num,yW,I.ae v,yQ,?_,yS.ae v,fun g e=>⟨(o g e).1,cD (o g e).2 v.size⟩,by have:=yT.out;omega,yJ,uA.trans (JH v),uB.trans (v.out.mono (by omega))⟩⟩,by simp[intOf];omega⟩;have:=yZ.out;rw[uW.out,kB,cL HNo.out]at this;exact this
   case true=>
    have uD:Hid (n∈ey z.s):=by show n∈ey z.s;have:=HP.out;simpa using this.symm
    have HLo:=ah (KL z n w4 (I.ae v).am yQ uD);go_wp2_with(refine wA yW t28 rfl ?_);refine HLo.out.mono ?_;rintro e j yP;rcases yP with⟨O,⟨er,uT,rfl⟩,b5⟩|⟨O,m,hm,t,T2,yC,rfl,qJ,hzs,qG,uN,b5⟩
    ·have e0:(er==0)=false:=by simpa using uT
     have f:(er !=0)=true:=by simpa using uT
     have HE:=ah O;have HN:Hid (ai (j.alloc (.cells dz 28)) j 28 dz):=ai.new _ _ _;obtain⟨l,y⟩:=nm ((j.alloc (.cells dz 28)).setRow j dz);have d:Hid (Bl wr wr l):=by rw[y];exact aa v (aa b5 (aD))
     clear uT O b5;go_wp2_with(first|(rw[<-y];clear y)|refine wB HN aT rfl ?_);refine⟨⟨⟨k+1,z,T,H,b,by omega,rfl,rfl,by go_num,r.ae d r.lt,I.ae d,yQ,?_,yS.ae d,fun g e=>⟨(o g e).1,cD (o g e).2 d.size⟩,by have:=yT.out;omega,yJ,uA.trans (JH d),uB.trans (d.out.mono (by omega))⟩⟩,by simp[intOf];omega⟩;have:=yZ.out;rw[uW.out,kB,cK uD.out,cL HE.out]at this;exact this
    ·have HN:Hid (ai (j.alloc (.cells dz 28)) j 28 dz):=ai.new _ _ _;obtain⟨l,y⟩:=nm ((j.alloc (.cells dz 28)).setRow j (aY t));have yX:Bl j j l:=y▸aD;have uG:Hid (ai l j 28 (aY t)):=by rw[y];exact ai.row HN _
     have uJ:=aa b5 yX;have HB45:=ah uJ;have d:=ah (aa v uJ);have qH:=ah (qJ.ae yX);have qD:=ah (qG.ae yX);have HE:=ah O;have L:=ah hzs;have HM:Hid (yC.length<=200):=by show yC.length<=200;omega
     have h5s:=b5.size;have h4s:=v.size;clear O qJ hzs qG b5 uJ yX hm uN;go_wp2_with(first|(rw[<-y];clear y)|refine wB HN aT rfl ?_);have hl1:=yS.1;have uE:=qD.1;have hm1:=yT.out;have uN:=HM.out;have qM:=yS.out.ae d.out.drew;obtain⟨A6,c6,B,yU,ho6,C,J,uU⟩:=xz jg (P:=prog) l.drew u 38 38 92 _ 80 underlying38 ja rfl T.A T.n T.c _ qM T2.A T2.n T2.c _ ((qD.ae (cC l l).drew).et jg) (by simp only[maxLen];omega) (by omega) (by have:=d.size;show u.heap.size<=l;omega);have uV:∀b,b<u.heap.size->T.A≠some ⟨b,0,none⟩:=fun b hb e=>by have:=(o.out b e).1;omega
     have on6:aU w.heap.size u B:=⟨cF hwr (cF d.out.size C.size),fun b h1 h2=>(J b (cD h1 (cF hwr d.out.size)) (uV b h1)).trans ((d.out.block b (by omega)).trans (uA.out.same b h1 h2))⟩;have uI:ai B w.heap.size 28 (aY z):=(J _ (cD r.out.lt d.out.size) (uV _ (by omega))).trans (r.out.ae d.out.drew r.out.lt);have hz6:gV w4 B t:=qH.fr C.size fun b h1 h2=>J b h2 fun e=>by have:=(o b e).2;omega
     have kn6:ai B j 28 (aY t):=(J _ uG.lt fun e=>by have:=(o _ e).2;omega).trans uG;obtain⟨F,yR⟩:=nm (B.setRow w (aY t));have E:aU w B F:=yR▸aU.row _ _;have uH:Hid (ai F w 28 (aY t)):=by rw[yR];exact ai.row uI _
     have hd5:l.drew.heap.size=l:=rfl
     have HZ7:Hid (Av (fun q=>D q/\A6≠some ⟨q,0,none⟩) w F t):=fun W h1 h2=>qH W (cF (cF C.size E.size) h1) fun q a1 a2=>by
      have uZ:q<B:=cD a2 C.size;refine(h2 q ⟨hD q (by omega),fun e=> ?_⟩ (cD uZ E.size) (by omega) (by omega)).trans ((E.same q uZ (by omega)).trans (J q a2 fun e=> ?_))
      ·rcases uU with f|⟨f,q1⟩
       ·have:=(o q (by rw[<-f];exact e)).2;omega
       ·rw[e]at f;injection f with f;injection f with f;omega
      ·have:=(o q e).2;omega
     have HO7:Hid (fY F u A6 (T.n+T2.n) c6 (H++yC)):=aV E ho6 (by omega)
     have uP:Hid (∀g,A6=some ⟨g,0,none⟩->u<=g/\g<F):=fun g e=>by
      have q:=E.size;have hd:l.drew.heap.size=l:=rfl;rcases uU with f|⟨f,q1⟩
      ·have:=o.out g (by rw[<-f,e]);have:=d.size;have:=C.size;omega
      ·rw[e]at f;injection f with f;injection f with f
       have:=d.size;omega
     have uS:=ah (on6.trans E)
     have uF:Hid (Bl w u F):=by
      show Bl _ _ _;rw[yR];exact aH ((uB.trans (d.drew.mono (by omega))).trans (C.mono (by omega))) lr _
     have M:=ah kn6;have Hkx:=ah uI;have qK:=ah yR;have HNw:=ah (show j.heap.size≠w.heap.size by omega);clear qM ho6 C J uU uV on6 uI hz6 kn6 yR E hl1 uE hm1 uN;refine lqb (fun W=>ai W j 28 (aY t)) [3,4] [0,1,2,3,4,5,6] (by kernel_rfl) (by kernel_rfl) uG ?_;refine jE rfl (some 33) rfl rfl rfl (fun _ _ _ _ h=>h) 28 (.tmp 9) rfl (fun W G _=>G) (by go_simp) underlying28 rfl aT rfl ?_
     iterate 2
      refine lqe rfl (fun _ _ _ _ h=>h) ⟨?_,fun W G hS=> ?_,?_⟩;rotate_left
      ·go_simp
       try rfl
     refine sT rfl rfl (some 36) rfl rfl rfl (.tmp 34) (.tmp 35) rfl (by go_simp) (by go_simp) yU ?_;intro W G;rw[G];refine⟨M,trivial,?_⟩;refine qn rfl rfl rfl rfl rfl 28 (.tmp 1) (.tmp 33) rfl w (aY t) (by go_simp) (by go_simp) Hkx aT rfl rfl rfl ?_;intro W9 R;rw[<-qK.out]at R;subst R;refine⟨?_,trivial,?_⟩
     ·rw[qK.out];exact ai.gu M HNw _
     iterate 2
      refine lqe rfl (fun _ _ _ _ h=>h) ⟨?_,fun W G _=> ?_,?_⟩;rotate_left
      ·go_simp
       try rfl
     refine ew ?_;simp only[aP,aW];clear yU G;go_wp2_with fail;refine⟨⟨⟨k+1,t,⟨A6,T.n+T2.n,c6⟩,H++yC,true,by omega,rfl,rfl,by go_num,uH,HZ7,?_,?_,HO7,uP,?_,?_,uS,uF⟩⟩,by simp[intOf];omega⟩
     ·rw[L.out];exact(CV yQ uD HE).kq
     ·have:=yZ.out;rw[uW.out,kB,cK uD.out,cK HE.out]at this;rw[L.out];exact this
     ·have:=yT.out;have:=HM.out;rw[cY];omega
     ·exact fun h=>absurd h HNe
  ·obtain rfl:k=(ey x.s).length:=by omega
   have uX:Hid (ai wr (w+1) 28 dz):=(uA.same _ uY.lt (by omega)).trans uY;obtain⟨N,yO⟩:=nm (wr.setRow (w+1) (aY z));have HK8:Hid (ai N (w+1) 28 (aY z)):=by rw[yO];exact ai.row uX _
   have uC:aU (w+1) wr N:=yO▸aU.row _ _;have uO:=ah uC.size;have HFin:Hid (db wr z):=I.am
   have HBw:Hid (Bl w w N):=by
    show Bl _ _ _;rw[yO];exact aH ((aa HB K).trans uB) (by omega) _
   have HBx8:=r.out;have HO8:Hid (fY N u T.A T.n T.c H):=aV uC yS (by omega);have HS8:Hid (J6 (fun q=>D q/\T.A≠some ⟨q,0,none⟩) N z):=(I.Ts uC).srd
   have HLl:Hid (z.s=ql x.s):=by
    have:=yZ.out;rw[lH]at this;exact this
   clear uC hI;go_wp2_with(first|(rw[<-yO];clear yO)|refine wA r t28 rfl ?_|refine wB uX aT rfl ?_);refine fV (cs:=aY z) rfl HK8 rfl rfl rfl underlying28 rfl aT rfl rfl ?_;refine⟨z,T,H,_,rfl,HS8,HLl,aS HO8 (by have:=HB.size;omega),⟨b,rfl,?_,yJ⟩,HBw,fun g e=>⟨by have:=(o g e).1;have:=HB.size;omega,cD (o g e).2 uO⟩⟩;have:=yT.out;omega
set_option maxRecDepth 100000
structure SY(D:Nat->Prop)(P base gI:Nat)(w:Wd)(bO:List Int)(I:Sl)(R:Nat->St->List Ou->Prop)(X Z:Vl)(wr:Wd):Prop where
 ex:∃(k:Nat) (z:Sr) (T:Sl) (fe:List Ou),k<=bO.length/\X=T.v/\Z=.int .i64 k/\ai wr P 28 (aY z)/\ai wr (P+1) 28 dz/\Av (fun q=>D q/\T.A≠some ⟨q,0,none⟩) P wr z/\df wr gI I.A I.n I.c bO/\fY wr base T.A T.n T.c fe/\
  (∀g,T.A=some ⟨g,0,none⟩->base<=g/\g<wr/\(0<I.c->I.A≠some ⟨g,0,none⟩))/\Bl w w wr/\base<=wr/\R k z.s fe
theorem Jg{base l:Nat}{wr V:Wd}{bO:List Int}{I:Sl}{i:Sr}{T T2:Sl}{p B:List Ou}(hP:w=P)(o:P+1<base)(hg:P+1<l)(O:∀c,P<=c->D c)(yQ:base<=wr)
 (hx:ai wr P 28 (aY z))(y:ai wr (P+1) 28 dz)(hi:df wr l I.A I.n I.c bO)(ht:fY wr base T.A T.n T.c p)(s:∀g,T.A=some ⟨g,0,none⟩->base<=g/\g<wr/\(0<I.c->I.A≠some ⟨g,0,none⟩))
 (hw:Bl w w wr)(f:Bl wr wr V)(G:gV wr V i)(L:TS V T2.A T2.n B)(hn:T.n+T2.n<=1000000):
 ∃d k W,(Builtin.append_ #[38,38] 38 #[T.v,T2.v]).run prog V=.ok (.slice d (T.n+T2.n) k) W/\ai W P 28 (aY z)/\(∀g t cs,wr.heap.size<=g->ai V g t cs->ai W g t cs)/\
  ∀X,X=W.setRow P (aY i)->ai X P 28 (aY i)/\ai X (P+1) 28 dz/\Av (fun q=>D q/\d≠some ⟨q,0,none⟩) P X i/\df X l I.A I.n I.c bO/\fY X base d (T.n+T2.n) k (p++B)/\
   (∀g,d=some ⟨g,0,none⟩->base<=g/\g<X/\(0<I.c->I.A≠some ⟨g,0,none⟩))/\Bl w w X/\base<=X/\(p++B).length=p.length+T2.n:=by
 have F:=f.size;obtain⟨d,k,W,S,Q,bl,fr,hA⟩:=xz jg (P:=prog) V base 38 38 92 _ 80 underlying38 ja rfl T.A T.n T.c _ (ht.ae f) T2.A T2.n T2.c _ L (by simp only[maxLen];omega) (by omega) (by omega);have K:∀b,b<base->T.A≠some ⟨b,0,none⟩:=fun b o e=>by have:=(s b e).1;omega
 have r:∀b,wr.heap.size<=b->T.A≠some ⟨b,0,none⟩:=fun b o e=>by have:=(s b e).2.1;omega
 have C:ai W P 28 (aY z):=(fr _ (cD hx.lt F) (K _ (by omega))).trans (hx.ae f hx.lt);have E:ai W (P+1) 28 dz:=(fr _ (cD y.lt F) (K _ (by omega))).trans (y.ae f y.lt);refine⟨d,k,W,S,C,fun g t cs h1 h2=>(fr g h2.lt (r g h1)).trans h2,fun X x=> ?_⟩;have on:aU P W X:=x▸aU.row _ _;have yN:=bl.size;have yO:=on.size;have yP:gV wr.heap.size W i:=G.fr bl.size fun b h1 h2=>fr b h2 (r b h1)
 have U:df W l I.A I.n I.c bO:=by
  have h1:=hi.ae f;refine⟨h1.1,h1.2.cb,h1.2.le,h1.2.max,fun m=> ?_,h1.2.cz⟩;exact(h1.2.ij bl.size fun b o J=>fr b J fun e=>(s b e).2.2 m (by rw[o])).room m
 refine⟨by rw[x];exact ai.row C _,(on.same _ E.lt (by omega)).trans E,?_,aV on U (by omega),aV on Q (by omega),fun g e=> ?_,?_,by omega,by rw[cY,L.cb]⟩
 ·refine fun Y h1 h2=>G Y (cF (cF bl.size on.size) h1) fun q j u=> ?_;have H:q<W:=cD u bl.size;refine(h2 q ⟨O q (by omega),fun e=> ?_⟩ (cD H on.size) (by omega) (by omega)).trans ((on.same q H (by omega)).trans (fr q u (r q j)));rcases hA with a|⟨a,R⟩
  ·exact r q j (by rw[<-a];exact e)
  ·rw[e]at a;injection a with a;injection a with a;omega
 ·rcases hA with a|⟨a,R⟩
  ·obtain⟨j,u,M⟩:=s g (by rw[<-a,e]);exact⟨j,by omega,M⟩
  ·rw[e]at a;injection a with a;injection a with a
   refine⟨by omega,by omega,fun m N=> ?_⟩;obtain⟨Z,h,-,J,-⟩:=hi.2.room m;rw[N]at h;injection h with h;injection h with h
   omega
 ·rw[x];exact aH ((hw.trans (f.mono (by omega))).trans (bl.mono (by omega))) (by omega) _
def TI(D:Nat->Prop)(s:St)(w:Wd)(e:Ed)(w':Wd):Prop:=
 ∃(z:Sr) (T:Sl) (a:List Ou),e=.returned (.tuple #[.agg (aY z),T.v])/\J6 (fun q=>D q/\T.A≠some ⟨q,0,none⟩) w' z/\z.s=lw s/\fY w' w T.A T.n T.c a/\(a.length:Int)=xU s/\a.length<=200000/\Bl w w w'/\∀g,T.A=some ⟨g,0,none⟩->w<=g/\g<w'
abbrev AbR(s:St)(k:Nat)(z:St)(a:List Ou):Prop:=tg ((cy s).drop k) z/\bt z/\eI ((cy s).drop k) z=eI (cy s) s/\(a.length:Int)+ov ((cy s).drop k) z=ov (cy s) s/\a.length<=64*k
abbrev OvR(s:St)(n:Int)(k:Nat)(z:St)(a:List Ou):Prop:=wR ((fp s).drop k) z/\bt z/\kG ((fp s).drop k) z=kG (fp s) s/\(a.length:Int)+wo ((fp s).drop k) z=n+wo (fp s) s/\a.length<=64000+65*k
theorem AA(D:Nat->Prop)(x:Sr)(w:Wd)(h:J6 D w x)(hD:∀c,w.heap.size<=c->D c)(g:bt x.s):Cs prog 39 #[.agg (aY x)] w (TI D x.s w):=by
 obtain⟨V,hV⟩:∃V,V=(w.alloc (.cells (aY x) 28)).alloc (.cells dz 28):=⟨_,rfl⟩;have bV:Bl w.heap.size w V:=hV▸aC;have kV:ai V w.heap.size 28 (aY x):=hV▸(ai.new _ _ _).alloc _;have zV:ai V (w.heap.size+1) 28 dz:=by rw[hV];have:=ai.new (w.alloc (.cells (aY x) 28)) 28 dz;simpa using this
 have HSP:=ah (Av.of h bV);have HLt:=ah (C4 x V (h.am.ae bV) g);have HB:=ah bV;have HK:=ah kV;have HZ:=ah zV;have HG:=ah g;have hzl:=zV.lt;clear h g bV kV zV;go_enter func39,ntmps39;go_wp2_with(first|(rw[<-hV];clear hV)|refine cr rfl _ _ rfl HK.out rfl underlying28 rfl aT rfl ?_);refine HLt.out.mono ?_;rintro e w2 ⟨A2,n2,c2,rfl,hn2,qD,b2⟩;have hl2:=qD.1;have HB2:=ah (aa HB.out b2);have HO2:=ah qD;have HK2:=ah (HK.out.ae b2 HK.out.lt);have HZ2:=ah (HZ.out.ae b2 HZ.out.lt);have uY:=ah (HSP.out.ae b2);have s2:=b2.size;clear b2 qD;subst hl2;go_wp2_with fail
 go_loopw [4,18] (fun X Z wr=>SY D w.heap.size w2.heap.size V.heap.size w (cy x.s) ⟨A2,(cy x.s).length,c2⟩ (AbR x.s) X Z wr) (fun _ Z _=>(cy x.s).length-(intOf Z).toNat)
 case atStart=>exact⟨0,x,⟨none,0,0⟩,[],fK _,rfl,rfl,HK2.out,HZ2.out,(fun W h1 h2=>uY.out W h1 fun q a1=>h2 q ⟨a1,fun e=>(by cases e)⟩),HO2.out,be.nil _ _ _ _,fun g e=>(by cases e),HB2.out,cB _,⟨Dt HG.out,HG.out,rfl,by simp,by simp⟩⟩
 case round=>
  obtain⟨k,z,T,yF,hk,rfl,rfl,yT,yV,yZ,hI,ho,yU,uL,hbs,uB,uH,uK,yY,uA⟩:=hrel.ex;have H:=ah yT;have uX:=ah yV;have qF:=ah yZ;have HI:=ah hI;have qH:=ah ho;have HTa:=ah yU;have R:=ah uL;have uT:=ah uB;have M:=ah uH;have O:=ah uK;have P:=ah yY;have B:=ah uA;clear yT yV yZ hI ho yU uL uB uH uK yY uA hrel;by_cases hlt:k<(cy x.s).length
  ·obtain⟨bl,ol,i,rfl,hb,hi,hci⟩:=(HI.out.et gi).int hlt
   have yB:(cy x.s).drop k=i::(cy x.s).drop (k+1):=by
    obtain⟨h1,h2⟩:=cA.1 hi;rw[dR h1,h2]
   have f:=uT.out;have m:=O.out;have p:=P.out;rw[yB]at f m p;obtain⟨r,hr,f⟩:=f;rw[eI,hr]at m;rw[ov,hr]at p;have qA:=ah f;have qK:=ah m;have qC:=ah p;have HM:=ah ((gP M.out.iy).1 hr).1;have HAb:=ah (Dm z i r wr qF.out.am M.out hr);clear hi yB f m p hr;go_wp2_with(refine cr rfl _ _ rfl H.out rfl underlying28 rfl aT rfl ?_);refine HAb.out.mono ?_;rintro e t ⟨b,⟨SA,Sn,Sc⟩,rfl,yX,uD,uV,b5⟩;have hl5:=uV.1;simp only at hl5;subst hl5;have HN:Hid (ai (t.alloc (.cells dz 28)) t.heap.size 28 dz):=ai.new _ _ _;obtain⟨o,uS⟩:∃o,o=(t.alloc (.cells dz 28)).setRow t.heap.size (aY b):=⟨_,rfl⟩;have uO:Bl t.heap.size t o:=uS▸aD;have uZ:Hid (ai o t.heap.size 28 (aY b)):=by show ai _ _ _ _;rw[uS];exact ai.row HN.out _
   have HB5:=ah (aa b5 uO);have HZ5:=ah (yX.ae uO);have E:=ah uD;have h5s:=b5.size;have hPw:=H.out.lt
   have uN:(bv z.s r).2.1.length<=64:=by
    unfold bv;split
    ·exact lu _ _ _ _ _
    ·exact lu _ _ _ _ _
   have uC:=ah uN;have HSe:=ah (j7 SA Sc (bv z.s r).2.1 o.drew (((uV.ae uO).et EG).ae (bR.drew:Bl o.heap.size o o.drew)) (by omega));clear yX uD b5 uO uV uN;go_wp2_with(first|(rw[<-uS];clear uS)|refine dp rfl _ _ _ rfl HN.out rfl rfl aT rfl rfl rfl ?_);refine bW (fun W=>ai W t.heap.size 28 (aY b)) (fun _=>True) #[] [3,4,5] 0 [0,1,2,3,4,5,6] (by kernel_rfl) (by kernel_rfl) uZ.out trivial ?_;refine jE rfl (some 31) rfl rfl rfl (fun _ _ _ _ h=>h) 28 (.tmp 7) rfl (fun W d _=>d) (by go_simp) underlying28 rfl aT rfl ?_
   iterate 2
    refine lqe rfl (fun _ _ _ _ h=>h) ?_;apply Exists.intro;refine⟨fun W d hS=> ?_,?_⟩
    ·go_simp
     try rfl
   refine el 41 #[.slice SA (bv z.s r).2.1.length Sc] rfl rfl (some 34) rfl rfl rfl (by go_simp) ?_;refine HSe.out.mono ?_;rintro e W6 ⟨A6,c6,rfl,Q,uQ⟩;have K:Bl wr.heap.size wr W6:=aa HB5.out.drew uQ;have k6:ai W6 t.heap.size 28 (aY b):=ai.ae (w:=o.drew) uZ.out uQ uZ.out.lt;refine⟨_,rfl,k6,trivial,?_⟩;have uW:=qH.out.1;have N:=B.out;have qL:=uC.out;obtain⟨A7,c7,W7,yE,kx7,uJ,hX⟩:=Jg (I:=⟨some ⟨bl,ol,none⟩,(cy x.s).length,c2⟩) (T2:=⟨A6,(bv z.s r).2.1.length,c6⟩) rfl (by omega) (by omega) hD (by omega) H.out uX.out HI.out qH.out HTa.out R.out K (gV.ae (w:=o.drew) HZ5.out uQ) (Q.et jg) (by show T.n+(bv z.s r).2.1.length<=1000000;omega);have G:=uJ _ _ _ h5s k6;obtain⟨a,l⟩:∃a,a=W7.setRow w.heap.size (aY b):=⟨_,rfl⟩;have HX:=ah (hX a l);have C:=ah (show t.heap.size≠w.heap.size by omega);refine sT rfl rfl (some 35) rfl rfl rfl (.tmp 32) (.tmp 34) rfl (by go_simp) (by go_simp) yE ?_;intro W d;rw[d];refine⟨G,trivial,?_⟩;refine qn rfl rfl rfl rfl rfl 28 (.tmp 1) (.tmp 31) rfl w.heap.size (aY b) (by go_simp) (by go_simp) kx7 aT rfl rfl rfl ?_;intro W9 F;refine⟨by rw[F];exact ai.gu G C.out _,trivial,?_⟩;rw[<-l]at F;subst F
   iterate 1
    refine lqe rfl (fun _ _ _ _ h=>h) ?_;apply Exists.intro;refine⟨fun W d hS=> ?_,?_⟩
    ·go_simp
     try rfl
   refine ew ?_;simp only[Act.put,aE,aF,aG,cM,cJ,cI];clear yE d G uJ hX kx7 l k6 K Q uQ uW N qL;go_wp2_with fail;obtain⟨y1,y2,y3,y4,y5,y6,y7,y9,y8⟩:=HX.out;refine⟨⟨⟨k+1,b,⟨A7,T.n+(bv z.s r).2.1.length,c7⟩,_,by omega,rfl,by go_num,y1,y2,y3,y4,y5,y6,y7,y9,?_⟩⟩,by simp[intOf];omega⟩;rw[E.out];refine⟨qA.out,ox M.out HM.out,qK.out,?_,?_⟩
   ·have:=qC.out;rw[y8];simp only;omega
   ·have:=B.out;have:=uC.out;rw[y8];simp only;omega
  ·obtain rfl:k=(cy x.s).length:=by omega
   obtain⟨wq,rfl⟩:∃q,q=wr:=⟨_,rfl⟩;have HZ1:Hid (z.s=eI (cy x.s) x.s):=by have:=O.out;rw[lH]at this;exact this
   have HC1:Hid ((yF.length:Int)=ov (cy x.s) x.s):=by have:=P.out;rw[lH]at this;simp[ov]at this;exact this
   have HT1:Hid (yF.length<=64000):=by show yF.length<=64000;have:=B.out;omega
   have HOv:=ah (EW z wq qF.out.am M.out);clear uT O P B;go_wp2_with(refine cr rfl _ _ rfl H.out rfl underlying28 rfl aT rfl ?_);refine HOv.out.mono ?_;rintro e w6 ⟨A6,n6,c6,rfl,hn6,Q,K⟩;have hl6:=Q.1;have uI:=ah K;have HO6:=ah Q;have hs6:=K.size;have hPw:=H.out.lt;clear K Q;subst hl6;go_wp2_with fail
   go_loopw [4,40] (fun X Z wr2=>SY D w.heap.size w2.heap.size wq.heap.size w (fp z.s) ⟨A6,(fp z.s).length,c6⟩ (OvR z.s (ov (cy x.s) x.s)) X Z wr2) (fun _ Z _=>(fp z.s).length-(intOf Z).toNat)
   case atStart=>
    refine⟨0,z,T,yF,fK _,rfl,rfl,H.out.ae uI.out H.out.lt,uX.out.ae uI.out uX.out.lt,qF.out.ae uI.out,HO6.out,qH.out.ae uI.out,fun g e=> ?_,aa R.out uI.out,by omega,⟨Fb M.out,M.out,rfl,?_,HT1.out⟩⟩
    ·obtain⟨f,q2,-⟩:=HTa.out g e;refine⟨f,by omega,fun h0 e2=> ?_⟩;obtain⟨g',e3,m,-⟩:=HO6.out.2.room h0;simp only at e2;rw[e2]at e3;injection e3 with e3;injection e3 with e3;omega
    ·have:=HC1.out;simp only[List.drop_zero];omega
   case round=>
    obtain⟨HG0,HZ0⟩:True/\True:=⟨trivial,trivial⟩;obtain⟨k2,v,J,yC,hk2,rfl,rfl,yT,yV,yZ,hI,ho,yU,uL,hbs2,uB,uH,uK,yY,uA⟩:=hrel.ex;have yG:=ah yT;have yI:=ah yV;have yS:=ah yZ;have S:=ah hI;have yK:=ah ho;have yJ:=ah yU;have yW:=ah uL;have uT:=ah uB;have qG:=ah uH;have O:=ah uK;have P:=ah yY;have B:=ah uA;clear yT yV yZ hI ho yU uL uB uH uK yY uA hrel HG0 HZ0;by_cases qB:k2<(fp z.s).length
    ·obtain⟨bl2,ol2,i,rfl,hb,hi,hci⟩:=(S.out.et gi).int qB
     have yB:(fp z.s).drop k2=i::(fp z.s).drop (k2+1):=by
      obtain⟨h1,h2⟩:=cA.1 hi;rw[dR h1,h2]
     have f:=uT.out;have m:=O.out;have p:=P.out;rw[yB]at f m p;obtain⟨j,L,qJ,uG,f⟩:=f;rw[kG,L]at m;rw[wo,L]at p;simp only[uG,oT]at m p;have qA:=ah f;have qK:=ah m;have qC:=ah p;have HM:=ah (fq L).2.1;have HJe:=ah uG;have HEn:=ah (NY v i 5 j wr yS.out.am qG.out L qJ uG)
     have uM:Oc v.s j<=65:=by
      have:=(xT qG.out (fq L).2.1 uG).2.2;unfold Oc;rw[cK qJ];omega
     have uE:=ah uM;clear hi yB f m p L qJ uG uM;go_wp2_with(refine cr rfl _ _ rfl yG.out rfl underlying28 rfl aT rfl ?_);refine HEn.out.mono ?_;rintro e u ⟨b,T2,told2,rfl,yX,uD,ho7,N,b7⟩;have HN:Hid (ai (u.alloc (.cells dz 28)) u.heap.size 28 dz):=ai.new _ _ _;obtain⟨y,uP⟩:∃y,y=(u.alloc (.cells dz 28)).setRow u.heap.size (aY b):=⟨_,rfl⟩;have uU:Bl u.heap.size u y:=uP▸aD;have U:Hid (ai y u.heap.size 28 (aY b)):=by show ai _ _ _ _;rw[uP];exact ai.row HN.out _
     have HB7:=ah (aa b7 uU);have HZ7:=ah (yX.ae uU);have E:=ah uD;have qM:=ah (ho7.ae uU);have Y:=ah N;have h7s:=b7.size;have hP1:=yG.out.lt;clear yX uD b7 uU ho7 N;go_wp2_with(first|(rw[<-uP];clear uP)|refine dp rfl _ _ _ rfl HN.out rfl rfl aT rfl rfl rfl ?_);have uW:=yK.out.1;have N:=B.out;have qL:=uE.out;have hm4:=Y.out;have hm5:=qM.out.1;obtain⟨A9,c9,W9,yE,kx9,uF,hX⟩:=Jg (V:=y.drew) (I:=⟨some ⟨bl2,ol2,none⟩,(fp z.s).length,c6⟩) (T2:=T2) rfl (by omega) (by omega) hD hbs2 yG.out yI.out S.out yK.out yJ.out yW.out HB7.out.drew (gV.ae (w:=y) HZ7.out bR.drew) ((qM.out.ae (cC y.heap.size y).drew).et jg) (by omega);have qE:=uF _ _ _ h7s U.out;obtain⟨a,l⟩:∃a,a=W9.setRow w.heap.size (aY b):=⟨_,rfl⟩;have HX:=ah (hX a l);have C:=ah (show u.heap.size≠w.heap.size by omega);refine bW (fun W=>ai W u.heap.size 28 (aY b)) (fun _=>True) #[] [3,4] 0 [0,1,2,3,4,5] (by kernel_rfl) (by kernel_rfl) U.out trivial ?_;refine jE rfl (some 53) rfl rfl rfl (fun _ _ _ _ h=>h) 28 (.tmp 12) rfl (fun W d _=>d) (by go_simp) underlying28 rfl aT rfl ?_
     iterate 2
      refine lqe rfl (fun _ _ _ _ h=>h) ?_;apply Exists.intro;refine⟨fun W d hS=> ?_,?_⟩
      ·go_simp
       try rfl
     refine sT rfl rfl (some 56) rfl rfl rfl (.tmp 54) (.tmp 55) rfl (by go_simp) (by go_simp) yE ?_;intro W d;rw[d];refine⟨qE,trivial,?_⟩;refine qn rfl rfl rfl rfl rfl 28 (.tmp 1) (.tmp 53) rfl w.heap.size (aY b) (by go_simp) (by go_simp) kx9 aT rfl rfl rfl ?_;intro W10 yM;refine⟨by rw[yM];exact ai.gu qE C.out _,trivial,?_⟩;rw[<-l]at yM;subst yM
     iterate 1
      refine lqe rfl (fun _ _ _ _ h=>h) ?_;apply Exists.intro;refine⟨fun W d hS=> ?_,?_⟩
      ·go_simp
       try rfl
     refine ew ?_;simp only[Act.put,aE,aF,aG,cM,cJ,cI];clear yE d qE uF hX kx9 l uW N qL hm4 hm5;go_wp2_with fail;obtain⟨y1,y2,y3,y4,y5,y6,y7,y9,y8⟩:=HX.out;refine⟨⟨⟨k2+1,b,⟨A9,J.n+T2.n,c9⟩,_,by omega,rfl,by go_num,y1,y2,y3,y4,y5,y6,y7,y9,?_⟩⟩,by simp[intOf];omega⟩;have hm4:=Y.out;have hm5:=qM.out.1;rw[E.out];refine⟨qA.out,m0 qG.out HM.out HJe.out,qK.out,?_,?_⟩
     ·have:=qC.out;rw[y8];omega
     ·have:=B.out;have:=uE.out;rw[y8];omega
    ·obtain rfl:k2=(fp z.s).length:=by omega
     obtain⟨a,l⟩:∃a,a=wr.setRow (w.heap.size+1) (aY v):=⟨_,rfl⟩;have HK8:Hid (ai a (w.heap.size+1) 28 (aY v)):=by show ai _ _ _ _;rw[l];exact ai.row yI.out _
     have uR:aU (w.heap.size+1) wr a:=l▸aU.row _ _
     have HBX:Hid (Bl w.heap.size w a):=by
      show Bl _ _ _;rw[l];exact aH yW.out (by omega) _
     have HO8:Hid (fY a w2.heap.size J.A J.n J.c yC):=aV uR yK.out (by omega);have HS8:Hid (J6 (fun q=>D q/\J.A≠some ⟨q,0,none⟩) a v):=(yS.out.Ts uR).srd
     have HL1:Hid (v.s=lw x.s):=by
      have:=O.out;rw[lH]at this;rw[lw,<-HZ1.out];exact this
     have HC2:Hid ((yC.length:Int)=xU x.s):=by
      have:=P.out;rw[lH]at this;rw[show wo [] v.s=0 from rfl]at this;show(yC.length:Int)=_;rw[xU,<-HZ1.out];omega
     have qI:=ah uR.size;clear uR;go_wp2_with(first|(rw[<-l];clear l)|refine cr rfl _ _ rfl yG.out rfl underlying28 rfl aT rfl ?_|refine dp rfl _ _ _ rfl yI.out rfl rfl aT rfl rfl rfl ?_);refine eC (cs:=aY v) rfl HK8.out rfl rfl underlying28 rfl aT rfl rfl ?_;refine⟨v,J,yC,rfl,HS8.out,HL1.out,aS HO8.out (by omega),HC2.out,?_,HBX.out,fun g e=>⟨by have:=(yJ.out g e).1;omega,cD (yJ.out g e).2.1 qI.out⟩⟩;have:=B.out;omega
open Go.ChangeShapes Go.WideShapes Go.ChangeAt Go.Deep
section
variable {H : Type} {enc : TypeId × Value -> H} {P : Program} {w : World} {base : Nat} {spare : Nat -> Bool} {held : Bool}
variable{d:DataW H}{p:List MemPlace}
theorem jR{t e:Ti}{f:OA}{c g:Nat}(ht:P.underlying t=some (.slice e))
 (h:DataW.Trod enc P w base spare held t (.slice f c g) d p):Sl.Raw ⟨f,c,g⟩:=by
 obtain⟨fuel,i⟩:=h;rcases open_slice ht i with⟨b,_⟩|⟨a,cb,o,m,n,D,Pl,b,_,j,l,k,_,hi⟩
 ·simp[Value.cells]at b;obtain⟨rfl,rfl,rfl⟩:=b;exact⟨cB _,by simp[maxLen],fun _=>rfl⟩
 ·simp[Value.cells]at b;obtain⟨rfl,rfl,rfl⟩:=b;exact⟨j,(by show c<=maxLen;have:c<=m:=by{rw[k];split<;>omega};omega),fun h=>by cases h⟩
theorem jh{t e:Ti}{K:Nat}{q:OA}{f A:Nat}(ht:P.underlying t=some (.slice e))(hC:P.cellsOf e=K)(J:0<K)
 (h:DataW.Trod enc P w base spare held t (.slice q f A) d p):
 ∃rows,Cells w q f K rows/\∀r∈rows,∃n y,DataW.trod enc P w base spare held n e r=some y:=by
 obtain⟨fuel,x⟩:=h;rcases open_slice ht x with⟨g,_⟩|⟨a,cb,Q,m,n,D,Pl,g,_,L,M,F,_,hi⟩
 ·simp[Value.cells]at g;obtain⟨rfl,rfl,rfl⟩:=g;exact⟨[],⟨rfl,by simp,fun h=>absurd h (by omega)⟩,by simp⟩
 ·simp[Value.cells]at g;obtain⟨rfl,rfl,rfl⟩:=g;have N:f<=m:=by rw[F];split<;>omega
  have B:∀i,i<f->∃r:List Vl,r.length=K/\(∀j v,r[j]?=some v->w.cell? (a.add (i*K+j))=some v)/\∃n y,DataW.trod enc P w base spare held n e r=some y:=by
   intro i O;obtain⟨E,s,G⟩:=hi i (by omega);rw[hC]at s;obtain⟨_,u,I⟩:=World.cells?_some s;refine⟨E,u,fun j v k=> ?_,_,_,G⟩;have z:j<K:=by rw[<-u];exact(cA.1 k).1
   rw[<-add_add,I j z,k]
  obtain⟨rows,C,l⟩:=vU _ f B;refine⟨rows,⟨C,fun r c=> ?_,fun hn=> ?_⟩,fun r c=> ?_⟩
  ·obtain⟨i,hi⟩:=dE.1 c;exact(l i r hi).1
  ·obtain⟨r,c⟩:∃r,rows[0]?=some r:=⟨_,cE (by omega)⟩;obtain⟨g1,g2,_⟩:=l 0 r c;have o:=g2 0 _ (cE (show 0<r.length by omega));rw[rG,cR]at o;obtain⟨b,off,rfl⟩:=Gl o;rw[BW]at o;refine⟨b,off,rfl,QV o,fun i r c j v k=> ?_⟩;have:=(l i r c).2.1 j v k;rw[BW,<-oD]at this;exact this
  ·obtain⟨i,hi⟩:=dE.1 c;exact(l i r hi).2.2
variable{cs:List Vl}
theorem fields{t:Ti}{a:Array Field}{fuel:Nat}{x:DataW H×List MemPlace}(ht:P.underlying t=some (.struct a))(h:DataW.trod enc P w base spare held fuel t cs=some x):
 ∃n,∀(i:Nat) (f:Field),a[i]?=some f->∃y,DataW.trod enc P w base spare held n f.type ((cs.drop f.offset).take (P.cellsOf f.type))=some y:=by
 obtain⟨xs,n,_,_,_,c,b⟩:=DataW.trod_struct ht h;refine⟨n,fun i f hi=> ?_⟩;have d:i<xs.length:=c▸(fC.1 hi).1;exact⟨_,(b i f hi).trans (cE d)⟩
theorem Si{n:Int}(h:(Lit.int .u64 n).wf=true):∃k:Nat,n=k/\k<2^64:=by
 obtain⟨h1,h2⟩:=bounds_u64 h;exact⟨n.toNat,by omega,by omega⟩
end
section
variable {H : Type} {enc : TypeId × Value -> H} {w : World} {base : Nat} {spare : Nat -> Bool} {held : Bool}
variable{k:Nat}{v:Vl}{cs:List Vl}
theorem dt(h:∃y,DataW.trod enc prog w base spare held n 3 ((cs.drop k).take (prog.cellsOf 3))=some y)(e:(cs.drop k).take 1=[v]):∃z,v=.int .i64 z/\(Lit.int .i64 z).wf=true:=by
 obtain⟨y,t⟩:=h;rw[show prog.cellsOf 3=1 by kernel_rfl,e]at t;obtain⟨z,q,_,h⟩:=DataW.trod_int underlying3 t;exact⟨z,by simpa using q,h⟩
theorem C9(h:∃y,DataW.trod enc prog w base spare held n 35 ((cs.drop k).take (prog.cellsOf 35))=some y)(e:(cs.drop k).take 1=[v]):∃z:Nat,v=.int .u64 z/\z<2^64:=by
 obtain⟨y,t⟩:=h;rw[show prog.cellsOf 35=1 by kernel_rfl,e]at t;obtain⟨z,q,_,h⟩:=DataW.trod_int underlying35 t;obtain⟨m,rfl,b⟩:=Si h;exact⟨m,by simpa using q,b⟩
theorem C8(h:∃y,DataW.trod enc prog w base spare held n 4 ((cs.drop k).take (prog.cellsOf 4))=some y)(e:(cs.drop k).take 1=[v]):∃z,v=.bool z:=by
 obtain⟨y,t⟩:=h;rw[show prog.cellsOf 4=1 by kernel_rfl,e]at t;obtain⟨z,q,_⟩:=DataW.trod_bool underlying4 t;exact⟨z,by simpa using q⟩
theorem tS(h:∃y,DataW.trod enc prog w base spare held n 9 ((cs.drop k).take (prog.cellsOf 9))=some y)(e:(cs.drop k).take 1=[v]):∃z,v=.string z:=by
 obtain⟨y,t⟩:=h;rw[show prog.cellsOf 9=1 by kernel_rfl,e]at t;obtain⟨z,q,_⟩:=DataW.trod_string underlying9 t;exact⟨z,by simpa using q⟩
variable{d:DataW H}{p:List MemPlace}
theorem oalts{c:OA}{i o:Nat}(h:DataW.Trod enc prog w base spare held 46 (.slice c i o) d p):
 ∃l,cp tr 2 w c i l/\∀r∈l,(fun _=>True) r:=by
 obtain⟨rows,g,j⟩:=jh (K:=2) underlying46 (by kernel_rfl) (by decide) h
 obtain⟨l,rfl,k⟩:=gK tr (fun _=>True) rows (fun r f=>by
  obtain⟨a,b,rfl⟩:∃a b,r=[a,b]:=by match r,g.eZ r f with|[a,b],_=>exact⟨a,b,rfl⟩
  obtain⟨n,y,ht⟩:=j _ f;obtain⟨m,e⟩:=fields underlying139 ht;obtain⟨q,rfl,t⟩:=dt (e 0 _ rfl) rfl;obtain⟨s,rfl,u⟩:=dt (e 1 _ rfl) rfl;exact⟨⟨q,s⟩,rfl,trivial⟩)
 exact⟨l,g,k⟩
theorem odeps{c:OA}{i o:Nat}(h:DataW.Trod enc prog w base spare held 49 (.slice c i o) d p):
 ∃l,cp xP 2 w c i l/\∀r∈l,(fun _=>True) r:=by
 obtain⟨rows,g,j⟩:=jh (K:=2) underlying49 (by kernel_rfl) (by decide) h
 obtain⟨l,rfl,k⟩:=gK xP (fun _=>True) rows (fun r f=>by
  obtain⟨a,b,rfl⟩:∃a b,r=[a,b]:=by match r,g.eZ r f with|[a,b],_=>exact⟨a,b,rfl⟩
  obtain⟨n,y,ht⟩:=j _ f;obtain⟨m,e⟩:=fields underlying142 ht;obtain⟨q,rfl,t⟩:=dt (e 0 _ rfl) rfl;obtain⟨s,rfl,u⟩:=dt (e 1 _ rfl) rfl;exact⟨⟨q,s⟩,rfl,trivial⟩)
 exact⟨l,g,k⟩
theorem UE{k:OA}{s v:Nat}(h:DataW.Trod enc prog w base spare held 22 (.slice k s v) d p):
 ∃l,cp wi 7 w k s l/\∀r∈l,(fun _=>True) r:=by
 obtain⟨rows,q,t⟩:=jh (K:=7) underlying22 (by kernel_rfl) (by decide) h
 obtain⟨l,rfl,u⟩:=gK wi (fun _=>True) rows (fun r o=>by
  obtain⟨b,c,e,f,g,i,j,rfl⟩:∃b c e f g i j,r=[b,c,e,f,g,i,j]:=by match r,q.eZ r o with|[b,c,e,f,g,i,j],_=>exact⟨b,c,e,f,g,i,j,rfl⟩
  obtain⟨n,y,ht⟩:=t _ o;obtain⟨m,a⟩:=fields underlying34 ht;obtain⟨x,rfl,F⟩:=dt (a 0 _ rfl) rfl;obtain⟨z,rfl,G⟩:=dt (a 1 _ rfl) rfl;obtain⟨A,rfl,I⟩:=dt (a 2 _ rfl) rfl;obtain⟨B,rfl⟩:=C8 (a 3 _ rfl) rfl;obtain⟨C,rfl,J⟩:=dt (a 4 _ rfl) rfl;obtain⟨D,rfl,L⟩:=dt (a 5 _ rfl) rfl;obtain⟨E,rfl,M⟩:=dt (a 6 _ rfl) rfl;exact⟨⟨x,z,A,B,C,D,E⟩,rfl,trivial⟩)
 exact⟨l,q,u⟩
theorem Uy{g:OA}{s:Nat}(h:DataW.Trod enc prog w base spare held 25 (.slice g k s) d p):
 ∃l,cp vL 4 w g k l/\∀r∈l,(fun _=>True) r:=by
 obtain⟨rows,j,o⟩:=jh (K:=4) underlying25 (by kernel_rfl) (by decide) h
 obtain⟨l,rfl,q⟩:=gK vL (fun _=>True) rows (fun r i=>by
  obtain⟨b,c,e,f,rfl⟩:∃b c e f,r=[b,c,e,f]:=by match r,j.eZ r i with|[b,c,e,f],_=>exact⟨b,c,e,f,rfl⟩
  obtain⟨n,y,ht⟩:=o _ i;obtain⟨m,a⟩:=fields underlying58 ht;obtain⟨t,rfl,z⟩:=dt (a 0 _ rfl) rfl;obtain⟨u,rfl,A⟩:=dt (a 1 _ rfl) rfl;obtain⟨v,rfl,B⟩:=dt (a 2 _ rfl) rfl;obtain⟨x,rfl,C⟩:=dt (a 3 _ rfl) rfl;exact⟨⟨t,u,v,x⟩,rfl,trivial⟩)
 exact⟨l,j,q⟩
theorem ouses{g:OA}{s:Nat}(h:DataW.Trod enc prog w base spare held 26 (.slice g k s) d p):
 ∃l,cp Ai 4 w g k l/\∀r∈l,(fun _=>True) r:=by
 obtain⟨rows,j,o⟩:=jh (K:=4) underlying26 (by kernel_rfl) (by decide) h
 obtain⟨l,rfl,q⟩:=gK Ai (fun _=>True) rows (fun r i=>by
  obtain⟨b,c,e,f,rfl⟩:∃b c e f,r=[b,c,e,f]:=by match r,j.eZ r i with|[b,c,e,f],_=>exact⟨b,c,e,f,rfl⟩
  obtain⟨n,y,ht⟩:=o _ i;obtain⟨m,a⟩:=fields underlying83 ht;obtain⟨t,rfl⟩:=tS (a 0 _ rfl) rfl;obtain⟨u,rfl⟩:=tS (a 1 _ rfl) rfl;obtain⟨v,rfl,z⟩:=dt (a 2 _ rfl) rfl;obtain⟨x,rfl,A⟩:=dt (a 3 _ rfl) rfl;exact⟨⟨t,u,v,x⟩,rfl,trivial⟩)
 exact⟨l,j,q⟩
theorem orezs{i:OA}{o x:Nat}(h:DataW.Trod enc prog w base spare held 24 (.slice i o x) d p):
 ∃l,cp mJ 5 w i o l/\∀r∈l,(fun r:Rz=>(r.nd<2^64/\r.sd<2^64)/\(-9223372036854775808<=r.jb/\r.jb<=9223372036854775807)) r:=by
 obtain⟨rows,k,q⟩:=jh (K:=5) underlying24 (by kernel_rfl) (by decide) h
 obtain⟨l,rfl,s⟩:=gK mJ (fun r:Rz=>(r.nd<2^64/\r.sd<2^64)/\(-9223372036854775808<=r.jb/\r.jb<=9223372036854775807)) rows (fun r j=>by
  obtain⟨b,c,e,f,g,rfl⟩:∃b c e f g,r=[b,c,e,f,g]:=by match r,k.eZ r j with|[b,c,e,f,g],_=>exact⟨b,c,e,f,g,rfl⟩
  obtain⟨n,y,ht⟩:=q _ j;obtain⟨m,a⟩:=fields underlying37 ht;obtain⟨z,rfl,v⟩:=dt (a 0 _ rfl) rfl;obtain⟨A,rfl⟩:=C8 (a 1 _ rfl) rfl;obtain⟨t,rfl,b2⟩:=C9 (a 2 _ rfl) rfl;obtain⟨u,rfl,b3⟩:=C9 (a 3 _ rfl) rfl;obtain⟨B,rfl,C⟩:=dt (a 4 _ rfl) rfl;exact⟨⟨z,A,t,u,B⟩,rfl,⟨b2,b3⟩,bounds_i64 v⟩)
 exact⟨l,k,s⟩
theorem ojobs{L:OA}{Z yO:Nat}(h:DataW.Trod enc prog w base spare held 23 (.slice L Z yO) d p):
 ∃l,Qf w L Z l/\∀r∈l,MI w r:=by
 obtain⟨rows,Y,hf⟩:=jh (K:=20) underlying23 (by kernel_rfl) (by decide) h
 obtain⟨l,rfl,hq⟩:=gK yl (MI w) rows (fun r S=>by
  obtain⟨c,e,f,g,i,j,k,o,q,s,x,B,C,D,E,u,z,v,A,t,rfl⟩:∃c e f g i j k o q s x B C D E u z v A t,r=[c,e,f,g,i,j,k,o,q,s,x,B,C,D,E,u,z,v,A,t]:=by match r,Y.eZ r S with|[c,e,f,g,i,j,k,o,q,s,x,B,C,D,E,u,z,v,A,t],_=>exact⟨c,e,f,g,i,j,k,o,q,s,x,B,C,D,E,u,z,v,A,t,rfl⟩
  obtain⟨n,y,ht⟩:=hf _ S;obtain⟨m,a⟩:=fields underlying51 ht;obtain⟨y4,U⟩:=a 4 _ rfl;simp[show prog.cellsOf 48=5 by kernel_rfl]at U;obtain⟨m2,b⟩:=fields underlying48 U;obtain⟨z0,rfl,w0⟩:=dt (a 0 _ rfl) rfl;obtain⟨z1,rfl⟩:=tS (a 1 _ rfl) rfl;obtain⟨z2,rfl⟩:=tS (a 2 _ rfl) rfl;obtain⟨z3,rfl⟩:=tS (a 3 _ rfl) rfl;obtain⟨z4,rfl,w4⟩:=dt (b 0 _ rfl) rfl;obtain⟨z6,rfl,w6⟩:=dt (b 2 _ rfl) rfl;obtain⟨z7,rfl,w7⟩:=dt (b 3 _ rfl) rfl;obtain⟨z8,rfl,w8⟩:=dt (b 4 _ rfl) rfl;obtain⟨X,G⟩:=b 1 _ rfl;simp[show prog.cellsOf 46=1 by kernel_rfl]at G;obtain⟨J,O,N,T⟩:=Joins.slice_form underlying46 G;simp at T;subst T;obtain⟨z9,rfl,w9⟩:=dt (a 5 _ rfl) rfl;obtain⟨yR,I⟩:=a 6 _ rfl;simp[show prog.cellsOf 49=1 by kernel_rfl]at I;obtain⟨F,R,Q,yQ⟩:=Joins.slice_form underlying49 I;simp at yQ;subst yQ;obtain⟨yS,rfl,uE⟩:=dt (a 7 _ rfl) rfl;obtain⟨yY,rfl⟩:=C8 (a 8 _ rfl) rfl;obtain⟨uA,rfl,uI⟩:=dt (a 9 _ rfl) rfl;obtain⟨yW,rfl,uD⟩:=dt (a 10 _ rfl) rfl;obtain⟨uB,rfl,uG⟩:=dt (a 11 _ rfl) rfl;obtain⟨yT,rfl,uC⟩:=dt (a 12 _ rfl) rfl;obtain⟨yZ,rfl,uH⟩:=dt (a 13 _ rfl) rfl;obtain⟨yU,rfl,yV⟩:=C9 (a 14 _ rfl) rfl;obtain⟨yX,rfl,uF⟩:=dt (a 15 _ rfl) rfl;have V:DataW.Trod enc prog w base spare held 46 (.slice J O N) X.1 X.2:=⟨_,G⟩;have W:DataW.Trod enc prog w base spare held 49 (.slice F R Q) yR.1 yR.2:=⟨_,I⟩;obtain⟨al,a1,-⟩:=oalts V;obtain⟨dl,d1,-⟩:=odeps W;have M:=jR underlying46 V;have P:=jR underlying49 W
  exact⟨⟨⟨z0,z1,z2,z3,⟨z4,al,z6,z7,z8⟩,z9,dl,yS,yY,uA,yW,uB,yT,yZ,yU,yX⟩,J,O,N,F,R,Q⟩,rfl,⟨a1,M.le,M.cz,d1,P.le,P.cz,yV⟩⟩)
 exact⟨l,Y,hq⟩
theorem TX{α:Type}{cs:Array α}(h:cs.size=8):∃a b c d e f g i,cs= #[a,b,c,d,e,f,g,i]:=by
 obtain⟨l⟩:=cs
 match l,h with
 |[a,b,c,d,e,f,g,i],_=>exact⟨a,b,c,d,e,f,g,i,rfl⟩
theorem zi{r:Reach}{b0:Nat}(hv:Value.okWide prog w r b0 28 v)(h:DataW.Trod enc prog w base spare held 28 v d p):
 ∃x:Sr,v=.agg (aY x)/\xr w x:=by
 obtain⟨cs,rfl,yH⟩:=okWide_struct underlying28 hv;have hC:prog.cellsOf 28=8:=by kernel_rfl
 obtain⟨v0,v1,v2,v3,v4,v5,v6,v7,rfl⟩:=TX (yH.trans hC);obtain⟨fuel,hf⟩:=h;obtain⟨m,a⟩:=fields underlying28 hf;have yB:prog.cellsOf 3=1:=by kernel_rfl
 have yD:prog.cellsOf 22=1:=by kernel_rfl
 have yE:prog.cellsOf 23=1:=by kernel_rfl
 have yC:prog.cellsOf 24=1:=by kernel_rfl
 have yF:prog.cellsOf 25=1:=by kernel_rfl
 have yG:prog.cellsOf 26=1:=by kernel_rfl
 obtain⟨y0,T⟩:=a 0 _ rfl;obtain⟨W,c⟩:=a 1 _ rfl;obtain⟨X,e⟩:=a 2 _ rfl;obtain⟨Y,f⟩:=a 3 _ rfl;obtain⟨Z,g⟩:=a 4 _ rfl;obtain⟨y5,i⟩:=a 5 _ rfl;obtain⟨y6,U⟩:=a 6 _ rfl;obtain⟨y7,V⟩:=a 7 _ rfl;simp[Value.cells,yB,yD,yE,yC,yF,yG]at T c e f g i U V;obtain⟨z0,L,_,w0⟩:=DataW.trod_int underlying3 T;obtain⟨z6,R,_,w6⟩:=DataW.trod_int underlying3 U;obtain⟨z7,S,_,w7⟩:=DataW.trod_int underlying3 V;obtain⟨z,B,A,M⟩:=Joins.slice_form underlying22 c;obtain⟨o,s,q,N⟩:=Joins.slice_form underlying23 e;obtain⟨C,E,D,O⟩:=Joins.slice_form underlying24 f;obtain⟨k,n,l,P⟩:=Joins.slice_form underlying25 g;obtain⟨t,y,u,Q⟩:=Joins.slice_form underlying26 i;simp at L M N O P Q R S;subst L M N O P Q R S;have J:DataW.Trod enc prog w base spare held 22 (.slice z B A) W.1 W.2:=⟨_,c⟩;obtain⟨lN,aN,bN⟩:=UE J;have rN:=jR underlying22 J;have G:DataW.Trod enc prog w base spare held 23 (.slice o s q) X.1 X.2:=⟨_,e⟩;obtain⟨K,aJ,bJ⟩:=ojobs G;have rJ:=jR underlying23 G;have hR:DataW.Trod enc prog w base spare held 24 (.slice C E D) Y.1 Y.2:=⟨_,f⟩;obtain⟨lR,aR,bR⟩:=orezs hR;have rR:=jR underlying24 hR;have F:DataW.Trod enc prog w base spare held 25 (.slice k n l) Z.1 Z.2:=⟨_,g⟩;obtain⟨lB,aB,bB⟩:=Uy F;have rB:=jR underlying25 F;have I:DataW.Trod enc prog w base spare held 26 (.slice t y u) y5.1 y5.2:=⟨_,i⟩;obtain⟨lL,aL,bL⟩:=ouses I;have rL:=jR underlying26 I
 exact⟨⟨⟨z0,lN,K.map Jr.j,lR,lB,lL,z6,z7⟩,K,⟨z,B,A⟩,⟨o,s,q⟩,⟨C,E,D⟩,⟨k,n,l⟩,⟨t,y,u⟩⟩,rfl,⟨aN,aJ,bJ,rfl,aR,aB,aL,rN,rJ,rR,rB,rL,fun r b=>(bR r b).1,fun r b=>(bR r b).2⟩⟩
end
end Go.Proofs.YthfhilggbbobmaaGreatDoor
