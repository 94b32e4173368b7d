/- Parts of the proof. -/
import Derived.Test.YthfhilggbbobmaaGreatDoorK37
set_option linter.all false
set_option maxHeartbeats 20000000
namespace Go.Proofs.YthfhilggbbobmaaGreatDoor
open Go.Proofs.Tryz
open Go.RowKit
theorem kdepi(v:Value)(w:World):Calls prog 318 #[.slice none 0 0,v] w fun e w'=>e=.returned (.int .i64 (-1))/\w=w':=by
 go_enter func318,ntmps318;go_wp2_with fail
 go_loopw [8] (fun i wr=>i=.int .i64 0/\w=wr) (fun _ _=>0)
 case atStart=>exact⟨rfl,rfl⟩
 case round=>
  obtain⟨rfl,rfl⟩:=hrel;go_wp2_with fail;go_ret;exact⟨rfl,rfl⟩
theorem kdepc(v:Value)(w:World):Calls prog 206 #[.slice none 0 0,v] w fun e w'=>e=.returned (.bool false)/\w=w':=by
 go_enter func206,ntmps206;go_wp2_with fail;refine(kdepi v w).mono ?_;rintro e w' ⟨rfl,rfl⟩;go_wp2_with fail;go_ret;exact⟨rfl,rfl⟩
def Cp(x:Sr)(g D:Nat)(w:World)(e:Ending)(w':World):Prop:=∃(a:Sr) (bK:List Us),e=.returned (.int .i64 0)/\fm bK=true/\a.s=qj bK/\ai w' D 168 (DX a g 1)/\db w' a/\cg D w w'
theorem Th(x:Sr)(g:Nat)(id:Int){w:World}{D:Nat}(h:ai w D 168 (DX x g id)):w.cell? ⟨D,1,none⟩=some (.int .i64 x.s.am)/\w.cell? ⟨D,2,none⟩=some x.N.v/\w.cell? ⟨D,3,none⟩=some x.J.v/\w.cell? ⟨D,6,none⟩=some x.L.v/\w.cell? ⟨D,7,none⟩=some (.int .i64 x.s.nj)/\w.cell? ⟨D,12,none⟩=some (.string ⟨#[117]⟩)/\w.cell? ⟨D,13,none⟩=some (.string ⟨#[120]⟩)/\w.cell? ⟨D,23,none⟩=some (.slice none 0 0):=
 ⟨h.cell 1,h.cell 2,h.cell 3,h.cell 6,h.cell 7,h.cell 12,h.cell 13,h.cell 23⟩
theorem OI(x:Sr)(g:Nat)(id:Int){w:World}{D:Nat}(h:ai w D 168 (DX x g id)):w.rangeAt D 14 (Uh g).toList:=fun j v a=>by
 rw[h.cell (14+j)]
 match j,a with
 |0,a=>exact a
 |1,a=>exact a
 |2,a=>exact a
 |3,a=>exact a
 |4,a=>exact a
theorem RI(x:Sr)(g:Nat)(id:Int){w:World}{D:Nat}(h:ai w D 168 (DX x g id)):w.rangeAt D 9 (DE g).toList:=fun j v a=>by
 rw[h.cell (9+j)]
 match j,a with
 |0,a=>exact a
 |1,a=>exact a
 |2,a=>exact a
 |3,a=>exact a
 |4,a=>exact a
 |5,a=>exact a
 |6,a=>exact a
 |7,a=>exact a
 |8,a=>exact a
 |9,a=>exact a
 |10,a=>exact a
 |11,a=>exact a
 |12,a=>exact a
 |13,a=>exact a
 |14,a=>exact a
 |15,a=>exact a
 |16,a=>exact a
 |17,a=>exact a
theorem Tg(w:World)(g:Nat)(h:ai w g 139 #[.int .i64 2,.int .i64 1]):th w (some ⟨g,0,none⟩) 1 1 tL:=(vZ h).sh
set_option maxRecDepth 100000 in
theorem RR(x:Sr)(g D:Nat)(w0 w:World)(h:db w0 x)(hb:Below w0.heap.size w0 w)(hD:w0.heap.size<=D)(k:ai w D 168 (DX x g 0))(hg:ai w g 139 #[.int .i64 2,.int .i64 1])(hn:g≠D)(hx:x.s=Ha):
 Calls prog 151 #[.pointer (some ⟨D,0,none⟩)] w (Cp x g D w):=by
 obtain⟨V,hV⟩:∃V,V=w.alloc (.cells #[.pointer (some ⟨D,0,none⟩)] 165):=⟨_,rfl⟩;have bV:Below w.heap.size w V:=by rw[hV];exact aA
 have C:Hid (ai V w.heap.size 165 #[.pointer (some ⟨D,0,none⟩)]):=by show ai _ _ _ _;rw[hV];exact ai.new _ _ _
 have t:Hid (ai V D 168 (DX x g 0)):=k.ae bV k.lt;have HG:Hid (ai V g 139 #[.int .i64 2,.int .i64 1]):=hg.ae bV hg.lt;have HB:=ah bV;have hDl:=k.lt;have hVs:V.heap.size=w.heap.size+1:=by rw[hV];simp
 have HRs:=ah (OI x g 0 t.out);have HOp:=ah (fx (some ⟨g,0,none⟩) 1 1 tL V (Tg V g HG.out));have M:=ah hx;have HN:=ah hn;have HI:=ah h;have P:=ah hb;clear bV k hg hx hn h hb;have p0:=C.out.cell 0;simp at p0;have hLs:=fun(W:World) (d:Below V.heap.size V W)=>vd (some ⟨g,0,none⟩) 1 1 tL W (Tg W g (HG.out.ae d HG.out.lt));rw[show ik (eO tL)=2 by kernel_rfl]at hLs;have HLs:=ah hLs;clear hLs;have HN0:Hid (x.N.n=4):=by have:=HI.out.ag.cb;rw[M.out]at this;exact this.symm
 go_enter func151,ntmps151;go_wp2_with(first|(rw[<-hV];clear hV)|refine ld rfl _ _ rfl rfl HRs.out underlying48 rfl zI rfl ?_);refine HOp.out.mono ?_;rintro e w1 ⟨A1,c1,rfl,o1,b1⟩;have HO1:=ah (o1.et qk)
 have hA1:Hid (∀b off,A1=some ⟨b,off,none⟩->b≠D):=fun b off e=>by
  have h1:=sV o1.2 (.inr (by have h2:=o1.2.le;have h3:(eO tL).length=1:=(by kernel_rfl);omega)) e;omega
 have Q:=ah b1;clear b1 o1 p0;go_wp2_with fail;refine aw (fun w'=>Below w1.heap.size w1 w') (by kernel_rfl) (by kernel_rfl) (Below.refl _ _).drew ?_
 repeat(first
  |(refine mN ?_ 48 _ rfl (b:=D) (off:=14) (cs:=Uh g) ?_ (fun w' K=>OI x g 0 (t.out.ae (aa Q.out K) t.out.lt)) underlying48 rfl zI rfl ?_
    ·rfl
    ·simp[go_sem]
    simp only[Act.put,aE,aF,aG])
  |(refine ee 251 #[JR (some ⟨g,0,none⟩) 1 1 tL] (.int .i64 2) ?_ (fun w'=> ?_) (fun w' K=>(HLs.out w' (aa Q.out K)).mono fun e w'' ⟨he,hb⟩=>⟨he,aa K hb⟩) ?_
    ·rfl
    ·simp[go_sem,tL]
    simp only[Act.put,aE,aF,aG])
  |(refine cw ?_ ?_
    ·rfl
    apply Exists.intro;refine⟨fun w' K=> ?_,?_⟩
    ·have p:=(Th x g 0 (t.out.ae (aa Q.out K) t.out.lt)).2.1;have p0:=(C.out.ae (aa Q.out K) C.out.lt).cell 0;simp at p p0;have h4:=HN0.out;simp[go_sem,p,p0,h4]
     try rfl
    simp only[Act.put,aE,aF,aG]))
 refine bM ?_;intro w3 d;have U:=ah d;replace d:=aa Q.out d;have HB3:=ah d;have p0:=(C.out.ae d C.out.lt).cell 0;simp at p0;obtain⟨-,-,-,-,d7,-,-,d23⟩:=Th x g 0 (t.out.ae d t.out.lt);rw[show x.s.nj=1 by rw[M.out];rfl]at d7;have hDw:D<w3.heap.size:=(t.out.ae d t.out.lt).lt;clear d;go_wp2_with fail;refine(kdepc _ w3).mono ?_;rintro e _ ⟨rfl,rfl⟩;clear d23;have hfew:(eO tL).length<=maxLen:=by have:=kY (s:=tL);unfold maxLen;omega
 have HC2:=ah (sL 252 ⟨w.heap.size,0,none⟩ (fun a=>decide (a.wl<=999988)) (enters_of func252 (by kernel_rfl) rfl) A1 (eO tL).length c1 (eO tL) w3 (fun a W d=>ksub2 x g D w.heap.size a W (C.out.ae (aa HB3.out d) C.out.lt) (t.out.ae (aa HB3.out d) t.out.lt) (by rw[M.out];rfl)) (HO1.out.ae (U.out)) hfew);rw[show(eO tL).any (fun a=>decide (a.wl<=999988))=true by kernel_rfl]at HC2;go_wp2_with fail;refine HC2.out.mono ?_;rintro e w4 ⟨rfl,b4⟩;have q:=ah (aa HB3.out b4);have HW41:=ah (U.out.trans (b4.mono U.out.size));obtain⟨-,-,-,-,d7,-,-,-⟩:=Th x g 0 (t.out.ae q.out t.out.lt);rw[show x.s.nj=1 by rw[M.out];rfl]at d7;have p0:=(C.out.ae q.out C.out.lt).cell 0;simp at p0;clear b4;have HCh:=ah fun(W:World) (d:Below V.heap.size V W)=>sq x.L.A x.L.n x.L.c x.s.bK ⟨#[117]⟩ ⟨#[120]⟩ 0 W (HI.out.bK.ae (P.out.trans ((HB.out.trans (d.mono (by omega))).mono P.out.size))) HI.out.Hs.le HI.out.Hs.cz (by rw[M.out];rfl);have hch:sb x.s.bK ⟨#[117]⟩ ⟨#[120]⟩ 0=0:=by rw[M.out];kernel_rfl
 unfold wS at HCh;rw[hch]at HCh;go_wp2_with fail;clear d7;refine bW (fun W=>Below w4.heap.size w4 W) (fun _=>True) #[] [15] 0 [0,1,2,3,4,5,6,7,8,9,10,11,12,13,14,15,16,17,18,19,20] (by kernel_rfl) (by kernel_rfl) (Below.refl _ _).drew trivial ?_
 iterate 15
  refine lqe rfl (fun _ _ _ _ h=>h) ?_;apply Exists.intro;refine⟨fun W d _=> ?_,?_⟩
  ·obtain⟨-,-,-,d6,-,d12,d13,-⟩:=Th x g 0 (t.out.ae (aa q.out d) t.out.lt);have p0:=(C.out.ae (aa q.out d) C.out.lt).cell 0;simp at p0;go_simp
   try rfl
 refine el 162 #[x.L.v,.string ⟨#[117]⟩,.string ⟨#[120]⟩,.int .i64 0] rfl rfl (some 71) rfl rfl rfl (by go_simp) ?_;refine(HCh.out w4.drew (aa q.out (Below.refl _ _).drew)).mono ?_;rintro e f ⟨A5,n5,c5,bK,rfl,b5,h5⟩;obtain⟨o5,hled⟩:=h5 trivial;have b5':Below w4.heap.size w4 f:=aa (Below.refl _ _).drew b5;have G:=ah (aa q.out b5');have HO5:Hid (mL f w4.heap.size A5 n5 c5 bK):=o5;have X:=ah hled;have h45:=b5'.size;have HW5:=ah b5';refine⟨_,rfl,b5',trivial,?_⟩;clear b5 b5' o5 h5 hled
 iterate 5
  refine lqe rfl (fun _ _ _ _ h=>h) ?_;apply Exists.intro;refine⟨fun W d _=> ?_,?_⟩
  ·go_simp
   try rfl
 refine ew ?_;simp only[Act.put,aE,aF,aG,List.getElem_toArray,List.getElem_cons_succ,List.getElem_cons_zero];go_upto_region 14 with fail
 go_cut [7,6] (fun Z Y wr=>∃J r,Z=.pointer (some ⟨J,0,none⟩)/\Y=.int .i64 0/\f.heap.size<=J/\ai wr J 51 (bk r)/\r.j=kJ/\jk wr f.heap.size r/\Below f.heap.size f wr)
 case first=>
  have HJn:=ah fun(W:World) (d:Below f.heap.size f W)=>kjnew g W (HG.out.ae (aa G.out d) HG.out.lt);have k0:Below f.heap.size f f.drew:=(Below.refl _ _).drew;refine bW (fun W=>Below f.heap.size f W) (fun _=>True) #[] [14,18,19] 7 [0,1,2,3,4,5,6,7,8,9,10,11,12,13,14,15,16,17,18,19,20] (by kernel_rfl) (by kernel_rfl) k0 trivial ?_
  iterate 14
   first
   |(refine yw rfl rfl rfl (fun _ _ _ _ h=>h) 95 _ rfl (b:=D) (off:=9) (by simp[go_sem];done) (cs:=DE g) (fun W d=>RI x g 0 (t.out.ae (aa G.out d) t.out.lt)) underlying95 rfl fi rfl ?_)
   |(refine lqe rfl (fun _ _ _ _ h=>h) ?_
     apply Exists.intro;refine⟨fun W d _=> ?_,?_⟩
     ·obtain⟨d1,-,-,-,d7,-,-,-⟩:=Th x g 0 (t.out.ae (aa G.out d) t.out.lt);rw[show x.s.nj=1 by rw[M.out];rfl]at d7;rw[show x.s.am=0 by rw[M.out];rfl]at d1;have p0:=(C.out.ae (aa G.out d) C.out.lt).cell 0;simp at p0;go_simp
      try rfl)
  refine mP 7 rfl ?_;refine wpAnyH_all (rs:=[14,18]) (by kernel_rfl) (by simp) ?_;intro i hi;simp only[List.mem_cons,List.not_mem_nil,or_false]at hi;rcases hi with rfl|rfl
  ·refine ea 254 #[.int .i64 1,.agg (DE g),.int .i64 0] (some 91) rfl rfl (a8 rfl _) (by go_simp) ?_;refine(HJn.out f.drew k0).mono ?_;rintro e W ⟨r,rfl,F,hro,bj⟩;have k1:=aa k0 bj;refine⟨_,rfl,k1,?_⟩;refine cx (i:=15) (some 76) rfl rfl (by kernel_rfl) rfl (fun _ _ _ _ h=>h) k1 ?_;apply Exists.intro;refine⟨fun W d=> ?_,?_⟩
   ·go_simp
    try rfl
   refine cx (i:=16) (some 92) rfl rfl (by kernel_rfl) rfl (fun _ _ _ _ h=>h) k1 ?_;apply Exists.intro;refine⟨fun W d=> ?_,?_⟩
   ·go_simp
    try rfl
   refine cx (i:=17) (some 93) rfl rfl (by kernel_rfl) rfl (fun _ _ _ _ h=>h) k1 ?_;apply Exists.intro;refine⟨fun W d=> ?_,?_⟩
   ·go_simp
    try rfl
   refine dg (i:=18) (by kernel_rfl) (eS (.pointer (some ⟨W.heap.size,0,none⟩)) (W.alloc (.cells cP 51)) (some 7) rfl rfl (a8 rfl _) (by go_simp) fun W2 u=> ?_);have hws:=k1.size;have b2:Below f.heap.size f W2:=by rw[u];exact k1.alloc hws _
   have z2:ai W2 W.heap.size 51 cP:=by rw[u];exact ai.new W _ _
   refine⟨b2,?_⟩;refine dg (i:=19) (by kernel_rfl) (cv 51 (.tmp 7) (.tmp 92) W.heap.size (bk r) rfl rfl rfl (a8 rfl _) (by go_simp) (by go_simp;try rfl) z2 aK rfl rfl ?_);intro W4 y;have HF4:Hid (ai W4 W.heap.size 51 (bk r)):=by show ai _ _ _ _;rw[y];exact ai.row z2 _
   have b4:Below f.heap.size f W4:=by rw[y];exact aH b2 (by omega) _
   have bz:Below W.heap.size W W4:=by rw[y,u];exact aD
   have HJ4:Hid (jk W4 f.heap.size r):=hro.hi bz.size fun b _ h2=>bz.block b h2;refine⟨b4,?_⟩;refine cx (i:=20) (some 6) rfl rfl (by kernel_rfl) rfl (fun _ _ _ _ h=>h) b4 ?_;apply Exists.intro;refine⟨fun W d=> ?_,?_⟩
   ·go_simp
    try rfl
   refine wpAnyH_done (by kernel_rfl) ?_ _;have q:=ah b4;have HRJ:=ah F;clear k0 b2 z2 b4 y u hro F bj;simp only[Act.put,aE,aF,aG,List.getElem_toArray,List.getElem_cons_succ,List.getElem_cons_zero];go_wp2_with fail;go_meet;exact⟨W.heap.size,r,rfl,rfl,by omega,HF4.out,HRJ.out,HJ4.out,q.out⟩
  ·refine eS (.pointer (some ⟨f.heap.size,0,none⟩)) (f.drew.alloc (.cells cP 51)) (some 7) rfl rfl (a8 rfl _) (by go_simp) fun W2 u=> ?_;have b2:Below f.heap.size f W2:=by rw[u];exact k0.alloc (Nat.le_refl _) _
   have z2:ai W2 f.heap.size 51 cP:=by rw[u];exact ai.new f.drew _ _
   refine⟨b2,?_⟩;refine dg (i:=14) (by kernel_rfl) (ea 254 #[.int .i64 1,.agg (DE g),.int .i64 0] (some 91) rfl rfl (a8 rfl _) (by go_simp) ?_);refine(HJn.out W2 b2).mono ?_;rintro e W ⟨r,rfl,F,hro,bj⟩;replace z2:=z2.ae bj z2.lt;have hws:=z2.lt;replace b2:=aa b2 bj;refine⟨_,rfl,b2,?_⟩;refine cx (i:=15) (some 76) rfl rfl (by kernel_rfl) rfl (fun _ _ _ _ h=>h) b2 ?_;apply Exists.intro;refine⟨fun W d=> ?_,?_⟩
   ·go_simp
    try rfl
   refine cx (i:=16) (some 92) rfl rfl (by kernel_rfl) rfl (fun _ _ _ _ h=>h) b2 ?_;apply Exists.intro;refine⟨fun W d=> ?_,?_⟩
   ·go_simp
    try rfl
   refine cx (i:=17) (some 93) rfl rfl (by kernel_rfl) rfl (fun _ _ _ _ h=>h) b2 ?_;apply Exists.intro;refine⟨fun W d=> ?_,?_⟩
   ·go_simp
    try rfl
   refine dg (i:=19) (by kernel_rfl) (cv 51 (.tmp 7) (.tmp 92) f.heap.size (bk r) rfl rfl rfl (a8 rfl _) (by go_simp) (by go_simp;try rfl) z2 aK rfl rfl ?_);intro W4 y;have HF4:Hid (ai W4 f.heap.size 51 (bk r)):=by show ai _ _ _ _;rw[y];exact ai.row z2 _
   have b4:Below f.heap.size f W4:=by rw[y];exact aH b2 (by omega) _
   have HJ4:Hid (jk W4 f.heap.size r):=jk.mono (hro.hi (by rw[y,setRow_size];exact Nat.le_refl _) fun b h1 h2=>by rw[y];exact setRow_other _ _ _ b (by rw[u]at h1;simp at h1;omega)) (by rw[u];simp);refine⟨b4,?_⟩;refine cx (i:=20) (some 6) rfl rfl (by kernel_rfl) rfl (fun _ _ _ _ h=>h) b4 ?_;apply Exists.intro;refine⟨fun W d=> ?_,?_⟩
   ·go_simp
    try rfl
   refine wpAnyH_done (by kernel_rfl) ?_ _;have q:=ah b4;have HRJ:=ah F;clear k0 b2 z2 b4 y u hro F bj;simp only[Act.put,aE,aF,aG,List.getElem_toArray,List.getElem_cons_succ,List.getElem_cons_zero];go_wp2_with fail;go_meet;exact⟨f.heap.size,r,rfl,rfl,by omega,HF4.out,HRJ.out,HJ4.out,q.out⟩
 case rest=>
  obtain⟨J,r,rfl,rfl,hJ,hF,F,hri,hB⟩:=hcut;have HF6:=ah hF;have H:=ah F;have HRi:=ah hri;have HB6:=ah (aa G.out hB);have hJl:=hF.lt;have h56:=hB.size;have HO6:=ah (HO5.out.ae hB);have HBl:=ah hB
  have hJ0:x.J.v=.slice x.J.A 0 x.J.c:=by
   have h1:=HI.out.aj.rows.cb;have h2:=HI.out.jr;rw[M.out]at h2;have h3:=congrArg List.length h2;simp[Ha]at h3;rw[h3]at h1;show Value.slice x.J.A x.J.n x.J.c=_;rw[<-h1];rfl
  have HJ0:=ah hJ0;have HAd:=ah fun(W:World) (d:Below wc.heap.size wc W)=>kadd r x.J.A x.J.c W (HRi.out.mE.ae d) H.out HI.out.fg.cz;clear hF F hri hB hJ0;go_wp2_with fail;refine bW (fun W=>Below wc.heap.size wc W) (fun _=>True) #[] [6] 0 [0,1,2,3,4,5,6,7,8,9,10,11] (by kernel_rfl) (by kernel_rfl) (Below.refl _ _).drew trivial ?_
  iterate 6
   first
   |(refine jE rfl (some 103) rfl rfl rfl (fun _ _ _ _ h=>h) _ _ rfl (fun W d _=>HF6.out.ae d HF6.out.lt) rfl underlying51 rfl aK rfl ?_)
   |(refine lqe rfl (fun _ _ _ _ h=>h) ?_
     apply Exists.intro;refine⟨fun W d _=> ?_,?_⟩
     ·obtain⟨-,-,d3,-,-,-,-,-⟩:=Th x g 0 (t.out.ae (aa HB6.out d) t.out.lt);rw[HJ0.out]at d3;have p0:=(C.out.ae (aa HB6.out d) C.out.lt).cell 0;simp at p0;go_simp
      try rfl)
  refine el 255 #[.slice x.J.A 0 x.J.c,.agg (bk r)] rfl rfl (some 104) rfl rfl rfl (by go_simp) ?_;refine(HAd.out wc.drew (Below.refl _ _).drew).mono ?_;rintro e w6 ⟨A6,c6,l2,rfl,oj,hl2,b6⟩;have I:Below wc.heap.size wc w6:=aa (Below.refl _ _).drew b6;refine⟨_,rfl,I,trivial,?_⟩
  iterate 5
   refine lqe rfl (fun _ _ _ _ h=>h) ?_;apply Exists.intro;refine⟨fun W d _=> ?_,?_⟩
   ·go_simp
    try rfl
  refine ew ?_;simp only[Act.put,aE,aF,aG,List.getElem_toArray,List.getElem_cons_succ,List.getElem_cons_zero];have HOJ:Hid (vG w6 wc.heap.size A6 1 c6 l2):=oj;have HL2:=ah hl2;have HF7:=ah (HF6.out.ae I HF6.out.lt);have HO7:=ah (HO6.out.ae I);have S:=ah (aa HB6.out I);have h67:=I.size;have HW6:=ah I;clear b6 I oj hl2;have r0:=HF7.out.cell 0;simp at r0;rw[show r.j.id=1 by rw[H.out];rfl]at r0;have HD7:=ah (t.out.ae S.out t.out.lt);have HP7:=ah (C.out.ae S.out C.out.lt);have l:=HP7.out;have m:=HF7.out;have hJD:w.heap.size<=J:=by have h1:=G.out.size;have h2:=HB.out.size;omega
  go_wp2_with fail;refine bW (fun W=>ai W w.heap.size 165 #[.pointer (some ⟨D,0,none⟩)]/\ai W J 51 (bk r)) (fun _=>True) #[] [10,14,17] 0 [0,1,2,3,4,5,6,7,8,9,10,11,12,13,14,15,16,17] (by kernel_rfl) (by kernel_rfl) ⟨l.drew,m.drew⟩ trivial ?_;replace l:=l.drew;replace m:=m.drew;have hDa:=HD7.out.drew
  iterate 10
   refine lqe rfl (fun _ _ _ _ h=>h) ?_;apply Exists.intro;refine⟨fun W d _=> ?_,?_⟩
   ·have p0:=d.1.cell 0;have q0:=d.2.cell 0;simp at p0 q0;rw[show r.j.id=1 by rw[H.out];rfl]at q0;go_simp
    try rfl
  have z0:=hDa.cell 6;have z1:=hDa.ao 6;simp at z0;refine CZ (w6.drew.setCell ⟨D,6,none⟩ (.slice A5 n5 c5)) rfl rfl rfl rfl rfl (by go_simp) fun Xa hXa=> ?_;have hDb:ai Xa D 168 ((DX x g 0).setIfInBounds 6 (.slice A5 n5 c5)):=by rw[hXa];exact hDa.set 6 _
  have pXa:ai Xa w.heap.size 165 #[.pointer (some ⟨D,0,none⟩)]:=by rw[hXa];exact l.ll (by show w.heap.size≠D;omega) _
  have qXa:ai Xa J 51 (bk r):=by rw[hXa];exact m.ll (by show J≠D;omega) _
  have l:=pXa;have m:=qXa;refine⟨⟨l,m⟩,trivial,?_⟩;have HXa:=ah hXa;clear hXa z0 z1
  iterate 3
   refine lqe rfl (fun _ _ _ _ h=>h) ?_;apply Exists.intro;refine⟨fun W d _=> ?_,?_⟩
   ·have p0:=d.1.cell 0;have q0:=d.2.cell 0;simp at p0 q0;rw[show r.j.id=1 by rw[H.out];rfl]at q0;go_simp
    try rfl
  have z0:=hDb.cell 3;have z1:=hDb.ao 3;simp at z0;refine CZ (Xa.setCell ⟨D,3,none⟩ (.slice A6 1 c6)) rfl rfl rfl rfl rfl (by go_simp) fun Xb hXb=> ?_;have hDc:ai Xb D 168 (((DX x g 0).setIfInBounds 6 (.slice A5 n5 c5)).setIfInBounds 3 (.slice A6 1 c6)):=by rw[hXb];exact hDb.set 3 _
  have pXb:ai Xb w.heap.size 165 #[.pointer (some ⟨D,0,none⟩)]:=by rw[hXb];exact l.ll (by show w.heap.size≠D;omega) _
  have qXb:ai Xb J 51 (bk r):=by rw[hXb];exact m.ll (by show J≠D;omega) _
  have l:=pXb;have m:=qXb;refine⟨⟨l,m⟩,trivial,?_⟩;have HXb:=ah hXb;clear hXb z0 z1
  iterate 2
   refine lqe rfl (fun _ _ _ _ h=>h) ?_;apply Exists.intro;refine⟨fun W d _=> ?_,?_⟩
   ·have p0:=d.1.cell 0;have q0:=d.2.cell 0;simp at p0 q0;rw[show r.j.id=1 by rw[H.out];rfl]at q0;go_simp
    try rfl
  have z0:=hDc.cell 29;have z1:=hDc.ao 29;simp at z0;refine CZ (Xb.setCell ⟨D,29,none⟩ (.int .i64 1)) rfl rfl rfl rfl rfl (by go_simp) fun Xc hXc=> ?_;have hDd:ai Xc D 168 ((((DX x g 0).setIfInBounds 6 (.slice A5 n5 c5)).setIfInBounds 3 (.slice A6 1 c6)).setIfInBounds 29 (.int .i64 1)):=by rw[hXc];exact hDc.set 29 _
  have pXc:ai Xc w.heap.size 165 #[.pointer (some ⟨D,0,none⟩)]:=by rw[hXc];exact l.ll (by show w.heap.size≠D;omega) _
  have qXc:ai Xc J 51 (bk r):=by rw[hXc];exact m.ll (by show J≠D;omega) _
  have l:=pXc;have m:=qXc;refine⟨⟨l,m⟩,trivial,?_⟩;have HXc:=ah hXc;clear hXc z0 z1;refine ew ?_;simp only[Act.put,aE,aF,aG,List.getElem_toArray,List.getElem_cons_succ,List.getElem_cons_zero];obtain⟨o,hX2⟩:∃o,o=Xc.setCell ⟨D,7,none⟩ (.int .i64 2):=⟨_,rfl⟩
  have O:cg D w6 o:=by
   rw[hX2,HXc.out,HXb.out,HXa.out];exact(((cg.aX (Below.refl _ _).drew (by omega)).trans (cg.set 6 _)).trans (cg.set 3 _)).trans ((cg.set 29 _).trans (cg.set 7 _))
  have h4V:=q.out.size;have h5V:=G.out.size;have h7V:=S.out.size;have e0:x.s.am=0:=by rw[M.out];rfl
  have e1:x.s.nb=1:=by rw[M.out];rfl
  have e2:x.s.nj=1:=by rw[M.out];rfl
  obtain⟨p,hx1⟩:∃p:Sr,p=⟨qj bK,l2,x.N,⟨A6,1,c6⟩,x.R,x.B,⟨A5,n5,c5⟩⟩:=⟨_,rfl⟩;have hx1s:p.s=qj bK:=by rw[hx1]
  have kD2:ai o D 168 (DX p g 1):=by
   have hk:=hDd.set 7 (.int .i64 2);rw[<-hX2]at hk
   have e:((((DX x g 0).setIfInBounds 6 (.slice A5 n5 c5)).setIfInBounds 3 (.slice A6 1 c6)).setIfInBounds 29 (.int .i64 1)).setIfInBounds 7 (.int .i64 2)=DX p g 1:=by
    rw[hx1];simp[e0,e1,qj]
   rw[<-e];exact hk
  have bw:Below w0.heap.size w0 o:=((P.out.trans (HB.out.mono P.out.size)).trans (S.out.mono (by have:=P.out.size;omega))).trans (O.du.mono hD);have hS:=HI.out.ae bw
  have hS1:db o p:=by
   have a1:=hS.ag;have a2:=hS.bx;have a3:=hS.aZ;rw[M.out]at a1 a2 a3;rw[hx1];refine⟨a1,(HOJ.out.hi O.size fun b h1 h2=>O.same b h2 (by omega)).RB,HL2.out,a2,a3,(bS HO7.out O.size fun b h1 h2=>O.same b h2 (by omega)).et na,hS.BP,⟨HOJ.out.rows.2.le,by show 1<=1000;omega,HOJ.out.rows.2.cz⟩,hS.Mr,hS.okB,⟨HO7.out.2.le,by have:=(gh.1 X.out).cf;have:=HO7.out.1;show n5<=1000;omega,HO7.out.2.cz⟩,fun r hr=>by simp[qj]at hr⟩
  have d7:=hDd.cell 7;have z7:=hDd.ao 7;have p0:=l.cell 0;simp[e2]at d7 p0;have E:=ah hS1;have z:=ah kD2;have HX1:=ah hx1s;have HSv:=ah O;have T:Hid (ai o w.heap.size 165 #[.pointer (some ⟨D,0,none⟩)]):=O.ce HP7.out (by omega);have HFX:Hid (ai o J 51 (bk r)):=O.ce HF7.out (by omega);have HUp:=ah fun(W:World) (d:Below o.heap.size o W)=>P4 p.N.A p.N.n p.N.c p.s.ag W (E.out.ag.ae d) (by have:=E.out.BP.cf;unfold maxLen;omega);rw[show cd F8 p.s.ag=15 by rw[hx1s];kernel_rfl]at HUp;have HCn:=ah fun(W:World)=>jn 15 W (by omega);rw[show(dw 15).length=4 by kernel_rfl]at HCn
  have HAl:Hid (DD o A1 (eO tL).length (eO tL)):=by
   have a1:=HO1.out.ae (aa HW41.out (aa HW5.out (aa HBl.out HW6.out)));exact O.cells a1 fun _ b off e=>hA1.out b off e
  have hDX:D<o.heap.size:=z.out.lt;have HRX:Hid (eF o r):=(HRi.out.hi (Nat.le_trans HW6.out.size O.size) fun b h1 h2=>(O.same b (Nat.lt_of_lt_of_le h2 HW6.out.size) (by omega)).trans (HW6.out.block b h2)).mE;clear O hS hS1 kD2 hx1 hx1s e0 e1 hDa hDb hDc m;have y2:=(Th p g 1 z.out).2.1;have y0:=T.out.cell 0;simp at y0;go_wp2_with(rw[<-hX2];clear hX2 HXa HXb HXc hDd l d7 z7 p0);refine(HUp.out o (Below.refl _ _)).mono ?_;rintro e w7 ⟨rfl,b7⟩;have HB7':=ah b7;go_wp2_with fail;refine(HCn.out w7).mono ?_;rintro e _ ⟨rfl,rfl⟩;obtain⟨Y,hY⟩:∃Y,Y=w7.alloc (.cells #[.int .i64 4] 3):=⟨_,rfl⟩;have hYB:ai Y w7.heap.size 3 #[.int .i64 4]:=by rw[hY];exact ai.new _ _ _
  have bY:Below w7.heap.size w7 Y:=by rw[hY];exact aA
  have bX:=aa b7 bY;have HBY:=ah bX;have HC3:=ah (sL 256 ⟨w7.heap.size,0,none⟩ (fun a=>decide (a.nd<=4)) (enters_of func256 (by kernel_rfl) rfl) A1 (eO tL).length c1 (eO tL) Y (fun a W d=>ksub3 a w7.heap.size W (by rw[(hYB.ae d hYB.lt).cell 0];rfl) (hYB.ae d hYB.lt).lt) (HAl.out.ae bX) hfew);rw[show(eO tL).any (fun a=>decide (a.nd<=4))=true by kernel_rfl]at HC3;clear b7 bY hYB bX y2 y0;go_wp2_with(rw[<-hY];clear hY);refine HC3.out.mono ?_;rintro e w8 ⟨rfl,b8⟩;have HB8:=ah (aa HBY.out b8);clear b8;have HEl:=ah fun(W:World) (d:Below o.heap.size o W)=>oR p.J.A p.J.n p.J.c p.jr W ((E.out.ae d).aj) (by have:=E.out.fg.cf;unfold maxLen;omega) (by rw[E.out.jr,HX1.out];kernel_rfl);go_wp2_with fail;refine bW (fun W=>Below o.heap.size o W) (fun _=>True) #[] [7,10] 0 [0,1,2,3,4,5,6,8,9,7,10,11] (by kernel_rfl) (by kernel_rfl) HB8.out.drew trivial ?_
  iterate 9
   refine cj rfl rfl (by kernel_rfl) (fun _ _ _ _ h=>h) ?_;apply Exists.intro;refine⟨fun W d _=> ?_,?_⟩
   ·have y3:=(Th p g 1 (z.out.ae d z.out.lt)).2.2.1;have y0:=(T.out.ae d T.out.lt).cell 0;have q0:=(HFX.out.ae d HFX.out.lt).cell 0;simp at y0 q0;rw[show r.j.id=1 by rw[H.out];rfl]at q0;go_simp
    try rfl
  refine el 257 #[p.J.v] rfl rfl (some 151) rfl rfl (by kernel_rfl) (by go_simp) ?_;refine(HEl.out w8.drew HB8.out.drew).mono ?_;rintro e w9 ⟨A9,n9,c9,out,rfl,o9,hn9,ho9,b9⟩;have b9':Below o.heap.size o w9:=aa HB8.out.drew b9
  have eo:out=[1]:=by
   have:=ho9.2 kJ (by rw[E.out.jr,HX1.out];rfl) rfl rfl rfl;exact this
  subst eo;have HI9:=ah (gs A9 n9 c9 [1] 1 w9 (o9.et gi) (by unfold maxLen;omega));refine⟨_,rfl,b9',trivial,?_⟩;refine el 87 #[.slice A9 n9 c9,.int .i64 1] rfl rfl (some 154) rfl rfl (by kernel_rfl) (by go_simp) ?_;refine HI9.out.mono ?_;rintro e _ ⟨rfl,rfl⟩;refine⟨_,rfl,b9',trivial,?_⟩;refine cj rfl rfl (by kernel_rfl) (fun _ _ _ _ h=>h) ?_;apply Exists.intro;refine⟨fun W d _=> ?_,?_⟩
  ·go_simp
   try rfl
  refine ew ?_;simp only[Act.put,aE,aF,aG,List.getElem_toArray,List.getElem_cons_succ,List.getElem_cons_zero];have HB9:=ah b9';clear b9 b9' o9 ho9 HI9;have HOn:=ah fun(W:World) (d:Below o.heap.size o W)=>kone p r W (E.out.ae d) (HRX.out.ae d) bK X.out HX1.out H.out;go_wp2_with fail;refine bW (fun W=>Below o.heap.size o W) (fun _=>True) #[] [5] 0 [0,1,2,3,4,5,6,7,8,9,10,11,12] (by kernel_rfl) (by kernel_rfl) HB9.out.drew trivial ?_
  iterate 5
   first
   |(refine jE rfl (some 161) rfl rfl rfl (fun _ _ _ _ h=>h) _ _ rfl (fun W d _=>HFX.out.ae d HFX.out.lt) rfl underlying51 rfl aK rfl ?_)
   |(refine yw rfl rfl rfl (fun _ _ _ _ h=>h) 28 _ rfl (b:=D) (off:=1) (by simp[go_sem];done) (cs:=aY p) (fun W d j v hj=>by
      rw[(z.out.ae d z.out.lt).cell (1+j)];exact N7 hj) underlying28 rfl aT rfl ?_)
   |(refine lqe rfl (fun _ _ _ _ h=>h) ?_
     apply Exists.intro;refine⟨fun W d _=> ?_,?_⟩
     ·have y0:=(T.out.ae d T.out.lt).cell 0;simp at y0;go_simp
      try rfl)
  refine el 258 #[.agg (aY p),.agg (bk r),.int .i64 1000000] rfl rfl (some 162) rfl rfl rfl (by go_simp) ?_;refine(HOn.out w9.drew HB9.out.drew).mono ?_;rintro e w10 ⟨oa,ob,rfl,b10⟩;have b10':Below o.heap.size o w10:=aa HB9.out.drew b10;refine⟨_,rfl,b10',trivial,?_⟩
  iterate 7
   refine lqe rfl (fun _ _ _ _ h=>h) ?_;apply Exists.intro;refine⟨fun W d _=> ?_,?_⟩
   ·go_simp
    try rfl
  refine ew ?_;simp only[Act.put,aE,aF,aG,List.getElem_toArray,List.getElem_cons_succ,List.getElem_cons_zero];have HBe:=ah b10';clear b10 b10';go_wp2_with fail;go_ret;refine⟨p,bK,rfl,X.out,HX1.out,z.out.ae HBe.out z.out.lt,E.out.ae HBe.out,?_⟩;exact((cg.aX (aa HB.out S.out) (by omega)).trans HSv.out).trans (cg.aX HBe.out (by omega))
end Go.Proofs.YthfhilggbbobmaaGreatDoor
