/- Parts of the proof. -/
import Derived.Test.YthfhilggbbobmaaGreatDoorK22
set_option linter.all false
set_option maxHeartbeats 20000000
namespace Go.Proofs.YthfhilggbbobmaaGreatDoor
open Go.Proofs.Tryz
open Go renaming World->Wd,Ending->Ed,Calls->Cs
open Go.RowKit renaming Below->Bl
open Go.RowKit
def NewJ0(l:List Jr)(w:Wd)(e:Ed)(w':Wd):Prop:=∃A c,e=.returned (.slice A l.length c)/\gB w' w A l.length c l/\Bl w w w'
theorem ED(A:OA)(n c:Nat)(p:List Jr)(w:Wd)(h:Qf w A n p)(hn:n<=1000000)(s:n<=c)(hA:A=none->c=0):
 Cs prog 287 #[.slice A n c] w (NewJ0 p w):=by
 have o:=h.cb;subst o
 cases A with
 |none=>
  have q:p=[]:=by
   cases p with
   |nil=>rfl
   |cons x r=>obtain⟨b,off,_,e,_⟩:=h.at_ (i:=0) (by simp);cases e
  subst q;obtain rfl:=hA rfl;obtain⟨g,k,m,d,f,l,_,_⟩:=dy ek (P:=prog) w w 23 23 51 _ 216 underlying23 sP rfl none 0 0 [] (be.nil _ _ _ _) none 0 0 [] h (by simp[maxLen]) (by omega) lr;simp only[cR,dH]at d f;have j:=ah d;clear d h hA hn;go_in;go_wp2_with(at_builtin;refine au rfl _ _ rfl rfl rfl j ?_);go_ret;exact⟨g,k,rfl,f,l⟩
 |some a=>
  obtain⟨g,k,m,d,f,l,_,_⟩:=dy ek (P:=prog) w w 23 23 51 _ 216 underlying23 sP rfl (some a) 0 0 [] (be.none _ _ _ _ _) (some a) p.length c p h (by simp[maxLen];omega) (by omega) lr;simp only[cR,dH]at d f;have j:=ah d;have t:(0:Int)<=(c:Int):=by omega
  clear d h;go_in;go_wp2_with(at_builtin;refine au rfl _ _ rfl rfl rfl j ?_);go_ret;exact⟨g,k,rfl,f,l⟩
def NewA0(l:List Al)(w:Wd)(e:Ed)(w':Wd):Prop:=∃A c,e=.returned (.slice A l.length c)/\DF w' w A l.length c l/\Bl w w w'
theorem M7(A:OA)(n c:Nat)(p:List Al)(w:Wd)(h:DD w A n p)(hn:n<=1000000)(s:n<=c)(hA:A=none->c=0):
 Cs prog 341 #[.slice A n c] w (NewA0 p w):=by
 have o:=h.cb;subst o
 cases A with
 |none=>
  have q:p=[]:=by
   cases p with
   |nil=>rfl
   |cons x r=>obtain⟨b,off,_,e,_⟩:=h.at_ (i:=0) (by simp);cases e
  subst q;obtain rfl:=hA rfl;obtain⟨g,k,m,d,f,l,_,_⟩:=dy qk (P:=prog) w w 46 46 139 _ 16 underlying46 oO rfl none 0 0 [] (be.nil _ _ _ _) none 0 0 [] h (by simp[maxLen]) (by omega) lr;simp only[cR,dH]at d f;have j:=ah d;clear d h hA hn;go_in;go_wp2_with(at_builtin;refine au rfl _ _ rfl rfl rfl j ?_);go_ret;exact⟨g,k,rfl,f,l⟩
 |some a=>
  obtain⟨g,k,m,d,f,l,_,_⟩:=dy qk (P:=prog) w w 46 46 139 _ 16 underlying46 oO rfl (some a) 0 0 [] (be.none _ _ _ _ _) (some a) p.length c p h (by simp[maxLen];omega) (by omega) lr;simp only[cR,dH]at d f;have j:=ah d;have t:(0:Int)<=(c:Int):=by omega
  clear d h;go_in;go_wp2_with(at_builtin;refine au rfl _ _ rfl rfl rfl j ?_);go_ret;exact⟨g,k,rfl,f,l⟩
def NewD0(l:List Dp)(w:Wd)(e:Ed)(w':Wd):Prop:=∃A c,e=.returned (.slice A l.length c)/\KN w' w A l.length c l/\Bl w w w'
theorem NR(A:OA)(n c:Nat)(p:List Dp)(w:Wd)(h:KM w A n p)(hn:n<=1000000)(s:n<=c)(hA:A=none->c=0):
 Cs prog 342 #[.slice A n c] w (NewD0 p w):=by
 have o:=h.cb;subst o
 cases A with
 |none=>
  have q:p=[]:=by
   cases p with
   |nil=>rfl
   |cons x r=>obtain⟨b,off,_,e,_⟩:=h.at_ (i:=0) (by simp);cases e
  subst q;obtain rfl:=hA rfl;obtain⟨g,k,m,d,f,l,_,_⟩:=dy vc (P:=prog) w w 49 49 142 _ 16 underlying49 xO rfl none 0 0 [] (be.nil _ _ _ _) none 0 0 [] h (by simp[maxLen]) (by omega) lr;simp only[cR,dH]at d f;have j:=ah d;clear d h hA hn;go_in;go_wp2_with(at_builtin;refine au rfl _ _ rfl rfl rfl j ?_);go_ret;exact⟨g,k,rfl,f,l⟩
 |some a=>
  obtain⟨g,k,m,d,f,l,_,_⟩:=dy vc (P:=prog) w w 49 49 142 _ 16 underlying49 xO rfl (some a) 0 0 [] (be.none _ _ _ _ _) (some a) p.length c p h (by simp[maxLen];omega) (by omega) lr;simp only[cR,dH]at d f;have j:=ah d;have t:(0:Int)<=(c:Int):=by omega
  clear d h;go_in;go_wp2_with(at_builtin;refine au rfl _ _ rfl rfl rfl j ?_);go_ret;exact⟨g,k,rfl,f,l⟩
open Go renaming Value->Vl
variable{k base n c:Nat}{w w':Wd}{A:OA}
theorem bS{α:Type}{f:α->List Vl}{l:List α}(h:be f k w base A n c l)(b:w.heap.size<=w')(a:∀g,base<=g->g<w->w'.heap[g]?=w.heap[g]?):be f k w' base A n c l:=⟨h.1,jS h.2 b a⟩
theorem aS{α:Type}{f:α->List Vl}{a:Nat}{l:List α}(h:be f k w base A n c l)(b:a<=base):be f k w a A n c l:=⟨h.1,h.2.mono b⟩
structure jk(w:Wd)(base:Nat)(r:Jr):Prop where
 sh:DF w base r.A r.n r.c r.j.sh.al
 af:KN w base r.F r.m r.d r.j.af
 cf:r.n<=1000
 GP:r.m<=1000
 nm:r.j.nm.size<=1000000
 us:r.j.us.size<=1000000
 ac:r.j.ac.size<=1000000
 nd:r.j.nd<2^64
variable{r:Jr}
theorem jk.mE(h:jk w base r):eF w r:=⟨⟨h.sh.et qk,h.cf,h.sh.2.le,h.sh.2.cz⟩,h.af.et vc,h.GP,h.af.2.le,h.af.2.cz,h.nm,h.us,h.ac,h.nd⟩
theorem jk.hi(h:jk w base r)(b:w.heap.size<=w')(a:∀g,base<=g->g<w->w'.heap[g]?=w.heap[g]?):jk w' base r:=⟨bS h.sh b a,bS h.af b a,h.cf,h.GP,h.nm,h.us,h.ac,h.nd⟩
theorem jk.mono{b:Nat}(h:jk w base r)(a:b<=base):jk w b r:=⟨aS h.sh a,aS h.af a,h.cf,h.GP,h.nm,h.us,h.ac,h.nd⟩
theorem jk.with_(h:jk w base r){j:Jb}(h1:j.sh=r.j.sh)(h2:j.af=r.j.af)(a:j.nm=r.j.nm)(b:j.us=r.j.us)(e:j.ac=r.j.ac)(f:j.nd<2^64):jk w base {r with j:=j}:=
 ⟨by show DF w base r.A r.n r.c j.sh.al;rw[h1];exact h.sh,by show KN w base r.F r.m r.d j.af;rw[h2];exact h.af,h.cf,h.GP,by show j.nm.size<=_;rw[a];exact h.nm,by show j.us.size<=_;rw[b];exact h.us,by show j.ac.size<=_;rw[e];exact h.ac,f⟩
variable{g:Nat}
theorem cg.Dn{bl:Nat}{a b:World}(h:cg bl a b)(cells:Array Value)(d:a.heap.size<=g)(c:bl<=g):cg bl a (b.setRow g cells):=
 ⟨by rw[setRow_size];exact h.size,fun x hx hn=>(setRow_other b g cells x (by omega)).trans (h.same x hx hn),aH h.du c _⟩
def zJ:Jb:=⟨0,⟨#[]⟩,⟨#[]⟩,⟨#[]⟩,⟨0,[],0,0,0⟩,0,[],0,false,0,0,0,0,0,0,0⟩
def zR:Jr:=⟨zJ,none,0,0,none,0,0⟩
theorem FY(w:Wd)(base:Nat):jk w base zR:=⟨be.nil _ _ _ _,be.nil _ _ _ _,by simp[zR],by simp[zR],by decide,by decide,by decide,by decide⟩
def pG(b:Bool):Int:=if b then 0 else 141
theorem Aj(b:Bool)(w:Wd):Cs prog 273 #[b] w fun e w'=>e=.returned (pG b:Int)/\w=w':=by
 cases b
 all_goals
  go_in;go_wp2;go_ret;exact⟨rfl,rfl⟩
def CopyJ(r:Jr)(w:Wd)(e:Ed)(w':Wd):Prop:=∃a,e=.returned (.agg (bk a))/\a.j=r.j/\jk w' w a/\Bl w w w'
theorem vY(r:Jr)(w:Wd)(h:eF w r):Cs prog 347 #[.agg (bk r)] w (CopyJ r w):=by
 obtain⟨V,q⟩:=nm ((w.alloc (.cells (bk r) 51)).alloc (.cells cP 51));have u:Bl w w V:=q▸aC;have x:ai V w 51 (bk r):=q▸(ai.new _ _ _).alloc _;have R:ai V (w+1) 51 cP:=by rw[q];have:=ai.new (w.alloc (.cells (bk r) 51)) 51 cP;simpa using this
 have O:V.heap.size=w+2:=by rw[q];simp
 have G:=ah O;have T:=ah u;have E:=ah x;have H:=ah R;have o:=ah h;have S:=ah (sA r.A r.n r.c r.j.sh.al V (h.sh.st.ae u) (by have:=h.sh.cf;omega) h.sh.cz);have U:=ah fun(W:Wd) (b:Bl w w W)=>vR r.F r.m r.d r.j.af W (h.af.ae b) (by have:=h.cf;omega) h.cz;have L:=x.cell 5;simp at L;clear h u x R O;go_in;go_wp2_with fail;rw[<-q];clear q;refine S.out.mono ?_;rintro e s ⟨i,k,rfl,J,b2⟩;have yJ:=ah J;have t:=E.ae b2 E.lt;have Q:=H.ae b2 H.lt;have yM:=ah t;have z:=ah Q;have P:=ah (aa T b2);have M:=t.cell 5;have B:=t.cell 10;have X:=t.ao 5;simp at M B;clear J t Q b2 L;go_wp2_with fail;refine(U _ (P.setCell (p:=⟨w,5,none⟩) lr _)).mono ?_;rintro e l ⟨a,f,rfl,K,b3,I⟩;have yP:=ah K;have v:ai (s.setCell ⟨w,5,none⟩ (.slice i r.j.sh.al.length k)) w 51 (bk ⟨r.j,i,r.j.sh.al.length,k,r.F,r.m,r.d⟩):=yM.set 5 _;have D:ai (s.setCell ⟨w,5,none⟩ (.slice i r.j.sh.al.length k)) (w+1) 51 cP:=z.ll (by simp) _;have C:=ah (v.ae b3 v.lt);have yL:=ah (D.ae b3 D.lt);have y:=ah b3;have yR:=ah I;have B:=C.cell 10;have yS:=C.ao 10;simp at B;clear K v D b3 M X I;have yK:Hid (ai (l.setCell ⟨w,10,none⟩ (.slice a r.j.af.length f)) w 51 (bk ⟨r.j,i,r.j.sh.al.length,k,a,r.j.af.length,f⟩)):=C.set 10 _;have N:Hid (ai (l.setCell ⟨w,10,none⟩ (.slice a r.j.af.length f)) (w+1) 51 cP):=yL.ll (by simp) _;go_wp2_with(first|refine wA yK t51 rfl ?_|refine wB N aK rfl ?_)
 have Y:Bl w.heap.size w l:=aa (P.out.setCell (p:=⟨w.heap.size,5,none⟩) lr _) (by simpa using y.out);have yQ:Bl w w ((l.setCell ⟨w,10,none⟩ (.slice a r.j.af.length f)).setRow (w+1) (bk ⟨r.j,i,r.j.sh.al.length,k,a,r.j.af.length,f⟩)):=aH (Y.setCell (p:=⟨w,10,none⟩) lr _) (by omega) _;refine j6 (cs:=bk ⟨r.j,i,r.j.sh.al.length,k,a,r.j.af.length,f⟩) rfl (ai.row N _) rfl underlying51 rfl aK rfl rfl ?_
 have Z:∀g,w.heap.size+2<=g->g<s.heap.size->((l.setCell ⟨w.heap.size,10,none⟩ (.slice a r.j.af.length f)).setRow (w.heap.size+1) (bk ⟨r.j,i,r.j.sh.al.length,k,a,r.j.af.length,f⟩)).heap[g]?=s.heap[g]?:=by
  intro g h1 h2;rw[f9 _ _ _ _ (by omega),dN _ _ _ _ (by show g≠w;omega),y.out.block g (by simpa using h2),dN _ _ _ _ (by show g≠w;omega)]
 have yO:∀g,w.heap.size+2<=g->g<l.heap.size->((l.setCell ⟨w.heap.size,10,none⟩ (.slice a r.j.af.length f)).setRow (w.heap.size+1) (bk ⟨r.j,i,r.j.sh.al.length,k,a,r.j.af.length,f⟩)).heap[g]?=l.heap[g]?:=by
  intro g h1 h2;rw[f9 _ _ _ _ (by omega),dN _ _ _ _ (by show g≠w;omega)]
 have yN:s.heap.size<=l:=by have:=y.size;simpa using this
 refine⟨_,rfl,rfl,⟨aS (bS yJ (by rw[fE];simpa using yN) (fun g h1 h2=>Z g (by rw[<-G.out];exact h1) h2)) (by rw[G.out];omega),aS (bS yP (by rw[fE];simp) (fun g h1 h2=>yO g (by have:(s.setCell ⟨w,5,none⟩ (.slice i r.j.sh.al.length k)).heap.size<=g:=h1;rw[lT]at this;have:=z.lt;omega) h2)) (by have:=z.lt;simp;omega),?_,?_,o.nm,o.us,o.ac,o.nd⟩,yQ⟩
 ·have:=o.sh.st.cb;have:=o.sh.cf;show r.j.sh.al.length<=1000;omega
 ·have:=o.af.cb;have:=o.cf;show r.j.af.length<=1000;omega
def ml(j:Jb)(E:Int):Int:=if fg j then E else 140
def M5(f:Jb->Jb)(b:Int)(R:Nat)(r:Jr)(w:Wd)(e:Ed)(w':Wd):Prop:=∃a,e=.returned (.tuple #[.agg (bk a),b])/\cg R w w'/\jk w' w a/\(b=0->a.j=f r.j)
theorem qT(g1 g2:FuncId)(S T:Array Vl)(uR:∀args w,(callFunc g1 args).run prog w=.ok (.enter g1 args) w)(uP:∀args w,(callFunc g2 args).run prog w=.ok (.enter g2 args) w)
 (f:Jb->Jb)(E:Int)(R:Nat)(v:Wd->Prop)(r:Jr)(C w:Wd)(h:eF C r)(H:Bl C C w)(hR:C<=R)(o:R<w)
 (yG:fg r.j=true->∀W,Bl w w W->Cs prog g1 (#[.agg (bk r)]++S) W (fun e i=>e=.returned E/\cg R W i/\v i))
 (yZ:fg r.j=true->E=0->∀W a (B:Nat),cg R w W->v W->w<=B->ai W B 51 (bk a)->a.j=r.j->Cs prog g2 (#[.pointer B]++T) W (fun e i=>e=.returned (.tuple #[])/\cg B W i/\ai i B 51 (bk {a with j:=f a.j})))
 (hf:fg r.j=true->E=0->(f r.j).sh=r.j.sh/\(f r.j).af=r.j.af/\(f r.j).nm=r.j.nm/\(f r.j).us=r.j.us/\(f r.j).ac=r.j.ac/\(f r.j).nd<2^64)
 (yM:∀W i,v W->Bl w W i->v i):
 Cs prog 271 #[.agg (bk r),.func (.func g1) #[] S,.func (.func g2) #[] T] w (M5 f (ml r.j E) R r w):=by
 obtain⟨V,c⟩:=nm ((w.alloc (.cells (bk r) 51)).alloc (.cells cP 51));have I:Bl w w V:=by rw[c];exact aC
 have k:Hid (ai ((w.alloc (.cells (bk r) 51)).alloc (.cells cP 51)) w 51 (bk r)):=(ai.new w _ _).alloc _;have zV:ai V (w+1) 51 cP:=by rw[c];have:=ai.new (w.alloc (.cells (bk r) 51)) 51 cP;simpa using this
 have kV:ai V w 51 (bk r):=by rw[c];exact k
 have d:=ah (cg.aX I (iY o));have A:=ah kV;have m:=ah zV;have uI:Hid (∀W,cg R w W->eF W r):=fun W q=>h.ae (H.trans (q.du.mono hR));have z:=ah fun(W:Wd) (q:cg R w W)=>je r W (h.ae (H.trans (q.du.mono hR)));have HR:=ah hR;have b:=ah o;have yH:=ah yG;have yW:=ah yZ;have P:=ah hf;have yR:=ah yM;have yX:=ah I;clear h H I zV kV hR o yG yZ hf yM;cases hok:fg r.j
 ·have e0:F5 r.j=140:=by simp[F5,hok]
  have p:ml r.j E=140:=by simp[ml,hok]
  rw[e0]at z;rw[p];clear e0 p hok;go_in;go_wp2_with(refine wA k t51 rfl ?_);rw[<-c];clear c k;refine(z _ d).mono ?_;rintro e w1 ⟨rfl,b1⟩;have z1:=m.ae b1 m.lt;go_wp2_with(refine wB z1 aK rfl ?_);refine eC (cs:=cP) rfl (ai.row z1 _) rfl rfl underlying51 rfl aK rfl rfl ⟨zR,rfl,?_,FY _ _,by simp⟩;exact(d.ae b1 (cF (iY b) d.size)).Dn _ (by omega) (by have:=b.out;omega)
 have e0:F5 r.j=0:=by simp[F5,hok]
 have p:ml r.j E=E:=by simp[ml,hok]
 rw[e0]at z;rw[p];have Q:=ah (yH hok);have HD:=ah (yW hok);have uN:=ah (P hok);have uJ:=ah fun(W:Wd) (q:cg R w W)=>vY r W (uI W q);clear e0 p hok yH yW P;by_cases n:E=0
 ·have uK:=ah (HD n);have yQ:=ah (uN n);subst n;go_in;go_wp2_with(refine wA k t51 rfl ?_);rw[<-c];clear c k;refine(z _ d).mono ?_;rintro e w1 ⟨rfl,b1⟩;have M:=ah (d.ae b1 (cF (iY b) d.size));have F:=ah (A.ae b1 A.lt);have N:=ah (m.ae b1 m.lt);have O:=ah (aa yX b1);clear b1;go_wp2_with(refine wA F t51 rfl ?_);refine(Q _ O).mono ?_;rintro e w2 ⟨rfl,l,K⟩;have D:=ah (M.trans l);have y:=ah (l.ce F (by have:=b.out;omega));have L:=ah (l.ce N (by have:=b.out;omega));have uO:=ah K;clear l K;go_wp2_with(refine wA y t51 rfl ?_);refine(uJ _ D).mono ?_;rintro e s ⟨a,rfl,hj,o3,b3⟩;have G:=ah hj;have uG:=ah o3;have uM:=ah (D.ae b3 (cF (iY b) D.size));have uA:=ah (y.ae b3 y.lt);have uD:=ah (L.ae b3 L.lt);have uF:=ah b3;clear hj o3 b3;go_wp2_with(refine wB uA aK rfl ?_);have u:Hid (cg R w (s.setRow w (bk a))):=uM.Dn _ lr (iY b);have uC:Hid (ai (s.setRow w (bk a)) w 51 (bk a)):=ai.row uA _;have uL:Hid (ai (s.setRow w (bk a)) (w+1) 51 cP):=ai.gu uD (by omega) _;have uE:Hid (v (s.setRow w (bk a))):=yR.out _ _ uO (aH (uF.out.mono D.size) lr _);have uB:Hid (jk (s.setRow w (bk a)) w2 a):=uG.hi (by rw[fE];exact cB _) (fun g h1 h2=>f9 _ _ _ _ (by have:=y.lt;omega));refine(uK _ a _ u uE lr uC G).mono ?_;rintro e w5 ⟨rfl,J,k5⟩;have uH:=ah k5;have yY:=ah (J.ce uL (by omega));have t:=ah J;clear J k5;go_wp2_with(first|refine wA uH t51 rfl ?_|refine wB yY aK rfl ?_);obtain⟨U,X,Y,Z,f5,f6⟩:=yQ;rw[<-G.out]at U X Y Z f5 f6;have yS:=y.lt
  have hZ:=L.lt;have o:=b.out;refine eC (cs:=bk {a with j:=f a.j}) rfl (ai.row yY _) rfl rfl underlying51 rfl aK rfl rfl ⟨{a with j:=f a.j},rfl,?_,?_,fun _=>by show f a.j=f r.j;rw[G.out]⟩
  ·refine cg.Dn ⟨cF u.size t.size,fun x hx hn=>(t.same x (cD hx u.size) (by omega)).trans (u.same x hx hn),u.du.trans (t.du.mono (iY o))⟩ _ (by omega) (by omega)
  ·refine((uB.with_ U X Y Z f5 f6).hi (by have:=t.size;simpa only[fE]using this) (fun g h1 h2=> ?_)).mono (iY yS);rw[f9 _ _ _ _ (by omega)];exact t.same g h2 (by omega)
 ·have uQ:(E !=0)=true:=by simpa using n
  have HE:=ah n;clear n;go_in;go_wp2_with(refine wA k t51 rfl ?_);rw[<-c];clear c k;refine(z _ d).mono ?_;rintro e w1 ⟨rfl,b1⟩;have M:=ah (d.ae b1 (cF (iY b) d.size));have F:=ah (A.ae b1 A.lt);have N:=ah (m.ae b1 m.lt);have O:=ah (aa yX b1);clear b1;go_wp2_with(refine wA F t51 rfl ?_);refine(Q _ O).mono ?_;rintro e w2 ⟨rfl,l,K⟩;have o:=b.out;have z2:=l.ce N (by omega);go_wp2_with(refine wB z2 aK rfl ?_);refine eC (cs:=cP) rfl (ai.row z2 _) rfl rfl underlying51 rfl aK rfl rfl ⟨zR,rfl,?_,FY _ _,fun e=>absurd e HE⟩;exact(M.trans l).Dn _ (by omega) (by omega)
set_option maxRecDepth 100000
theorem ES{α:Type}{f:α->List Vl}{W:Wd}{l:List α}(h:cp f k w A n l)(hs:w.heap.size<=W.heap.size)(g:∀b,b<w.heap.size->W.heap[b]?=w.heap[b]?):cp f k W A n l:=by
 refine⟨Cells.cb h,Cells.eZ h,fun hn=> ?_⟩;obtain⟨b,off,e,c,d⟩:=Cells.at_ h hn;exact⟨b,off,e,cD c hs,fun i r m j v o=>(dI (a:=⟨b,off+i*k+j,none⟩) (g b c)).trans (d i r m j v o)⟩
def mT(g:Nat)(w:Wd)(r:Jr):Prop:=∀W,aU g w W->eF W r
theorem mT.am(h:mT g w r):eF w r:=h w (aU.refl _ _)
theorem mT.only(h:mT g w r)(k:aU g w w'):mT g w' r:=fun W a=>h W (k.trans a)
theorem mT.old{e:Wd}(h:eF e r)(a:Bl e.heap.size e w)(f:e.heap.size<=g):mT g w r:=fun W d=>by
 refine⟨⟨?_,h.sh.cf,h.sh.le,h.sh.cz⟩,?_,h.cf,h.le,h.cz,h.nm,h.us,h.ac,h.nd⟩
 ·exact ES h.sh.st (cF a.size d.size) fun b c=>(d.same b (cD c a.size) (by omega)).trans (a.block b c)
 ·exact ES h.af (cF a.size d.size) fun b c=>(d.same b (cD c a.size) (by omega)).trans (a.block b c)
theorem mT.own(h:jk w base r)(c:g<base):mT g w r:=fun W a=>(h.hi a.size fun b h1 h2=>a.same b h2 (by omega)).mE
structure vG(w:Wd)(base:Nat)(A:OA)(n c:Nat)(l:List Jr):Prop where
 rows:gB w base A n c l
 own:∀g,A=some ⟨g,0,none⟩->∀r∈l,jk w (g+1) r
variable{l:List Jr}
theorem vG.at_(h:vG w base A n c l)(a:r∈l):∃g,A=some ⟨g,0,none⟩/\base<=g/\jk w (g+1) r:=by
 obtain⟨i,hi⟩:=dE.1 a;have d:=(cA.1 hi).1;obtain⟨g,x,hA,b,-⟩:=bh ek h.rows (i:=i) (by rw[<-h.rows.1];exact d);exact⟨g,hA,b,h.own g hA r a⟩
theorem vG.eZ(h:vG w base A n c l):∀r∈l,eF w r:=fun r b=>by
 obtain⟨g,-,-,a⟩:=h.at_ b;exact a.mE
theorem vG.RB(h:vG w base A n c l):pO w A n l:=⟨h.rows.et ek,h.eZ⟩
theorem vG.hi(h:vG w base A n c l)(f:w.heap.size<=w')(a:∀g,base<=g->g<w->w'.heap[g]?=w.heap[g]?):vG w' base A n c l:=by
 refine⟨bS h.rows f a,fun g hA r j=> ?_⟩;obtain⟨k,d,m,i⟩:=h.at_ j;rw[hA]at d;have e:=aI d;subst e;exact i.hi f fun b h1 h2=>a b (by omega) h2
theorem vG.ae(h:vG w base A n c l)(a:Bl w w w'):vG w' base A n c l:=h.hi a.size fun g _ h2=>a.block g h2
theorem vG.mono{a:Nat}(h:vG w base A n c l)(b:a<=base):vG w a A n c l:=⟨aS h.rows b,h.own⟩
def Qz(l:List Jb)(w:Wd)(e:Ed)(w':Wd):Prop:=∃A c a,e=.returned (.slice A l.length c)/\vG w' w A l.length c a/\a.map Jr.j=l/\Bl w w w'
theorem ro{r':Jr}(b:l[k]?=some r)(e:r'.j=r.j):(l.set k r').map Jr.j=l.map Jr.j:=by
 rw[List.map_set,e];obtain⟨a,rfl⟩:=cA.1 b;apply nY;intro i;rw[lX];split
 ·rename_i h;subst h;simp[a]
 ·rfl
def ou(w:Wd)(g:Nat)(n c:Nat)(l:List Jr)(i:Vl)(wr:Wd):Prop:=∃(k:Nat) (a:List Jr),k<=n/\i=.int .i64 k/\gB wr w g n c a/\a.map Jr.j=l.map Jr.j/\(∀r∈a,mT g wr r)/\(∀i r,i<k->a[i]?=some r->jk wr (g+1) r)/\Bl w w wr
theorem vE(A:OA)(n c:Nat)(l:List Jr)(w:Wd)(h:pO w A n l)(hn:n<=1000000)(uB:n<=c)(hA:A=none->c=0):
 Cs prog 243 #[.slice A n c] w (Qz (l.map Jr.j) w):=by
 have yR:=h.rows.cb;subst yR;have yT:=ah (ED A l.length c l w h.rows hn uB hA);have HH:=ah h;clear h;go_in;go_wp2_with fail;refine yT.out.mono ?_;rintro e w1 ⟨A1,z,rfl,C,b1⟩;rcases dX l.length with K|K
 ·have e0:l=[]:=dJ K;subst e0;have HO:=ah C;clear C hn uB hA K yT HH;go_wp2
  go_loopw [9] (fun i wr=>i=.int .i64 0/\wr=w1) (fun _ _=>0)
  case atStart=>exact⟨rfl,rfl⟩
  case round=>
   obtain⟨rfl,rfl⟩:=hrel;go_wp2;go_ret;exact⟨A1,z,[],rfl,⟨HO,fun g _ r a=>(by simp at a)⟩,rfl,b1⟩
 ·obtain⟨g,x,rfl,R,yI,-⟩:=bh ek C K;have uK:Hid (ou w g l.length z l () w1):=⟨0,l,by omega,rfl,C,rfl,fun r a=>mT.old (HH.eZ r a) b1 R,fun i r hi=>absurd hi (n8 i),b1⟩;have uA:w<=g:=R;clear C b1 R yI yT;go_wp2
  go_loopw [9] (fun i wr=>ou w g l.length z l i wr) (fun i _=>l.length-(intOf i).toNat)
  case atStart=>exact uK
  case round=>
   obtain⟨k,L,hk,rfl,o2,hm,hf,yK,yJ⟩:=hrel;have G:=ah o2;have HM:=ah hm;have HF:=ah hf;have I:=ah yJ;have uC:=ah yK;clear o2 hm hf yJ yK;by_cases yU:k<l.length
   ·obtain⟨P,r,f,-,yI,a,Q,Z⟩:=bh ek G yU;replace f:=aI f;subst f;have N:=ah a;have c5:=Q 5 _ rfl;have uI:=Q 10 _ rfl;have f5:=(Z 5 (by omega)).2;have uN:=(Z 10 (by omega)).2;have B:=HF.out r (cG a);have H:=ah B;have uM:=ah (M7 r.A r.n r.c r.j.sh.al wr B.am.sh.st (by have:=B.am.sh.cf;omega) B.am.sh.le B.am.sh.cz);clear Q Z a B;go_wp2_with fail;refine uM.out.mono ?_;rintro e D ⟨q,s,rfl,oa,ba⟩;have uO:=ah oa;have W:=ah ba;have S:gB D w g l.length z L:=⟨G.1,G.2.ae ba⟩;have yW:=ah (eW ek S k 5 (by omega) N (x:={r with A:=q,n:=r.j.sh.al.length,c:=s}) (v:=.slice q r.j.sh.al.length s) rfl);obtain⟨P,r',f,-,yX,M,X,V⟩:=bh ek S yU;replace f:=aI f;subst f;rw[N.out]at M;injection M with M;subst M;have d5:=X 5 _ rfl;have uG:=X 10 _ rfl;have e5:=(V 5 (by omega)).2;have uJ:=(V 10 (by omega)).2;have yF:Hid (aU g wr (D.setCell ⟨g,k*20+5,none⟩ (.slice q r.j.sh.al.length s))):=(aU.aX ba).trans (aU.set _ _ _);have uH:=ah (NR r.F r.m r.d r.j.af _ (H _ yF).af (by have:=H.am.cf;omega) H.am.le H.am.cz);clear oa ba S X V c5 uI f5 uN;go_wp2_with fail;refine uH.out.mono ?_;rintro e E ⟨t,u,rfl,od,J⟩;have uL:=ah od;have Y:=ah J;have T:gB E w g l.length z (L.set k {r with A:=q,n:=r.j.sh.al.length,c:=s}):=⟨yW.1,yW.2.ae J⟩;have uD:(L.set k {r with A:=q,n:=r.j.sh.al.length,c:=s})[k]?=some {r with A:=q,n:=r.j.sh.al.length,c:=s}:=fH (cA.1 N).1
    have uF:=ah (eW ek T k 10 (by omega) uD (x:={r with A:=q,n:=r.j.sh.al.length,c:=s,F:=t,m:=r.j.af.length,d:=u}) (v:=.slice t r.j.af.length u) rfl);obtain⟨P,r',f,-,yZ,O,uE,yH⟩:=bh ek T yU;replace f:=aI f;subst f;rw[uD]at O;injection O with O
    subst O;have uG:=uE 10 _ rfl;have uJ:=(yH 10 (by omega)).2;have U:Hid (aU g wr (E.setCell ⟨g,k*20+10,none⟩ (.slice t r.j.af.length u))):=(yF.ae J).trans (aU.set _ _ _);have yV:Hid (Bl w w (E.setCell ⟨g,k*20+10,none⟩ (.slice t r.j.af.length u))):=(((I.trans (W.out.mono I.size)).setCell (p:=⟨g,k*20+5,none⟩) uA _).trans (Y.out.mono (by rw[lT];exact cF I.size W.size))).setCell (p:=⟨g,k*20+10,none⟩) uA _
    have yY:Hid (jk (E.setCell ⟨g,k*20+10,none⟩ (.slice t r.j.af.length u)) (g+1) {r with A:=q,n:=r.j.sh.al.length,c:=s,F:=t,m:=r.j.af.length,d:=u}):=by
     have a:=H.am;have s3:D.heap.size<=E:=by have:=Y.size;simpa using this
     have uP:g<wr:=by omega
     have s1:=W.size;refine⟨aS (bS uO (by simpa using s3) fun b h1 h2=> ?_) (by omega),aS (bS uL (by simp) fun b h1 h2=> ?_) (by simp;omega),?_,?_,a.nm,a.us,a.ac,a.nd⟩
     ·rw[dN _ _ _ _ (by show b≠g;omega),Y.out.block b (by simpa using h2),dN _ _ _ _ (by show b≠g;omega)]
     ·have h3:D<=b:=by have:(D.setCell ⟨g,k*20+5,none⟩ (.slice q r.j.sh.al.length s)).heap.size<=b:=h1;simpa using this
      rw[dN _ _ _ _ (by show b≠g;omega)]
     ·have:=a.sh.st.cb;have:=a.sh.cf;show r.j.sh.al.length<=1000;omega
     ·have:=a.af.cb;have:=a.cf;show r.j.af.length<=1000;omega
    clear od J T uE yH d5 e5;go_wp2_with fail;refine⟨⟨k+1,_,by omega,by go_num,uF,?_,?_,?_,yV⟩,by simp[intOf];omega⟩
    ·rw[nN];exact(ro (r':={r with A:=q,n:=r.j.sh.al.length,c:=s,F:=t,m:=r.j.af.length,d:=u}) N rfl).trans HM
    ·intro y o;rw[nN]at o;rcases fP o with o|rfl
     ·exact(HF y o).only U
     ·exact mT.own yY (oS g)
    ·intro i y hi o;rw[nN,lX]at o;split at o
     ·split at o
      ·cases o;exact yY
      ·cases o
     ·exact(uC i y (by omega) o).hi U.size fun b h1 h2=>U.same b h2 (by omega)
   ·obtain rfl:k=l.length:=by omega
    go_wp2;go_ret
    exact⟨_,z,L,by rw[dB];rfl,⟨by rw[dB];exact G,fun P e r a=>by
     replace e:=aI e;subst e;obtain⟨i,hi⟩:=dE.1 a;exact uC i r (by have:=(cA.1 hi).1;have:=G.1;omega) hi⟩,HM,I⟩
set_option maxRecDepth 512
theorem KO(r:Jr)(w:Wd):Cs prog 378 #[.agg (bk r)] w (an (pG (r.j.st==1):Int) w):=by
 have a:Hid (ai (w.alloc (.cells (bk r) 51)) w 51 (bk r)):=ai.new _ _ _;have d:=a.cell 11;simp at d;have c:=ah fun b W=>Aj b W;go_in;go_wp2_with fail;refine(c _ _).mono ?_;rintro e w' ⟨rfl,rfl⟩;go_wp2;go_ret;exact⟨rfl,aA⟩
theorem DZ(r:Jr)(w:Wd):Cs prog 272 #[.agg (bk r)] w (an (pG (r.j.st==2):Int) w):=by
 have a:Hid (ai (w.alloc (.cells (bk r) 51)) w 51 (bk r)):=ai.new _ _ _;have d:=a.cell 11;simp at d;have c:=ah fun b W=>Aj b W;go_in;go_wp2_with fail;refine(c _ _).mono ?_;rintro e w' ⟨rfl,rfl⟩;go_wp2;go_ret;exact⟨rfl,aA⟩
def KY(j:Jb)(s:Int):Int:=if pK s=false then 2 else pG (j.st==2||(j.st==1&&s==6))
theorem Oa(r:Jr)(s:Int)(b:Nat)(w:Wd)(d:w.cell? b=some (s:Vl))(i:b<w):Cs prog 285 #[.agg (bk r),.pointer b] w (an (KY r.j s:Int) w):=by
 have f:Hid (ai (w.alloc (.cells (bk r) 51)) w 51 (bk r)):=ai.new _ _ _;have k:=f.cell 11;simp at k;have l:(w.alloc (.cells (bk r) 51)).cell? b=some (s:Vl):=by rw[lM _ _ _ i];exact d
 have h:=ah fun b W=>Aj b W;have c:=ah fun W=>Br s W;have a:Hid (KY r.j s=if pK s=false then 2 else pG (r.j.st==2||(r.j.st==1&&s==6))):=rfl;clear d;cases he:pK s
 ·have g:Hid (KY r.j s=2):=by show _=_;rw[a.out,he];rfl
  rw[he]at c;clear he;go_in;go_wp2_with fail;refine(c _).mono ?_;rintro e w' ⟨rfl,rfl⟩;go_wp2;go_ret;exact⟨ax g.symm,aA⟩
 rw[he]at a c;clear he;simp only[Bool.true_eq_false,rO]at a;cases e2:(r.j.st==2)
 case' false=>cases e1:(r.j.st==1)
 case' false.true=>cases e6:(s==6)
 all_goals
  rw[e2]at a
  try rw[e1]at a
  try rw[e6]at a
  go_in;go_wp2_with fail;refine(c _).mono ?_;rintro e w' ⟨rfl,rfl⟩;go_wp2_with fail;refine(h _ _).mono ?_;rintro e w' ⟨rfl,rfl⟩;go_wp2;go_ret;exact⟨ax a.symm,aA⟩
def xl(B:Nat)(a:Jr)(j:Jb)(w:Wd)(e:Ed)(w':Wd):Prop:=e=.returned (.tuple #[])/\cg B w w'/\ai w' B 51 (bk {a with j:=j})
theorem KP(r:Jr)(B:Nat)(w:Wd)(h:ai w B 51 (bk r)):Cs prog 379 #[.pointer B] w (xl B r (Bo r.j) w):=by
 have a:=ah h;have b:=h.cell 14;have c:=h.cell 15;have e:=h.ao 14;have d:=h.ao 15;simp at b c;clear h;go_in;go_wp2;go_end0;exact⟨rfl,(cg.set 14 _).trans (cg.set 15 _),(a.set 14 _).set 15 _⟩
theorem Ob(r:Jr)(s:Int)(b B:Nat)(w:Wd)(h:ai w B 51 (bk r))(n:w.cell? b=some (s:Vl))(g:b≠B):Cs prog 286 #[.pointer B,.pointer b] w (xl B r (gX r.j s) w):=by
 have c:=ah h;have k:=h.cell 11;have m:=h.cell 12;have f:=h.cell 14;have i:=h.cell 15;have l:=h.cell 18;have t:=h.ao 11;have u:=h.ao 12;have v:=h.ao 14;have q:=h.ao 15;have p:=h.ao 18;simp at k m f i l;have o:B≠b:=fun e=>g e.symm;clear h;by_cases h1:r.j.st=1
 ·have d:(r.j.st==1)=true:=by simpa using h1
  have a:Hid (gX r.j s={r.j with hd:=false,pm:= -1,ch:=0,st:=s,nd:=0}):=by show _=_;rw[gX,cK h1]
  clear h1;go_in;go_wp2;go_end0;refine⟨rfl,((((cg.set 12 _).trans (cg.set 14 _)).trans (cg.set 15 _)).trans (cg.set 11 _)).trans (cg.set 18 _),?_⟩;rw[a.out];exact((((c.set 12 _).set 14 _).set 15 _).set 11 _).set 18 _
 ·have d:(r.j.st==1)=false:=by simpa using h1
  have a:Hid (gX r.j s={r.j with st:=s,nd:=0}):=by show _=_;rw[gX,cL h1]
  clear h1;go_in;go_wp2;go_end0;refine⟨rfl,(cg.set 11 _).trans (cg.set 18 _),?_⟩;rw[a.out];exact(c.set 11 _).set 18 _
theorem N3:∀args w,(callFunc 378 args).run prog w=.ok (.enter 378 args) w:=enters_of func378 (by kernel_rfl) rfl
theorem N4:∀args w,(callFunc 379 args).run prog w=.ok (.enter 379 args) w:=enters_of func379 (by kernel_rfl) rfl
theorem Rh:∀args w,(callFunc 285 args).run prog w=.ok (.enter 285 args) w:=enters_of func285 (by kernel_rfl) rfl
theorem Ri:∀args w,(callFunc 286 args).run prog w=.ok (.enter 286 args) w:=enters_of func286 (by kernel_rfl) rfl
def tf(f:Jb->Jb)(b:Int)(r:Jr)(w:Wd)(e:Ed)(w':Wd):Prop:=∃a,e=.returned (.tuple #[.agg (bk a),b])/\Bl w w w'/\jk w' w a/\(b=0->a.j=f r.j)
theorem GM(j:Jb):ml j (pG (j.st==1))=Bm j:=by
 unfold ml Bm pG;by_cases h:j.st=1<;>simp[h]
theorem KW(j:Jb)(s:Int):ml j (KY j s)=kK j s:=by
 unfold ml kK KY pG;by_cases h:fg j=true<;>by_cases h1:pK s=true<;>by_cases h2:j.st=2<;>by_cases a:j.st=1<;>by_cases b:s=6<;>simp[h,h1,h2,a,b]
theorem N5(r:Jr)(w:Wd)(h:eF w r):Cs prog 289 #[.agg (bk r)] w (tf Bo (Bm r.j) r w):=by
 obtain⟨V,a⟩:=nm ((w.alloc (.cells (bk r) 51)).alloc (.cells cP 51));have d:Bl w w V:=a▸aC;have k:Hid (ai ((w.alloc (.cells (bk r) 51)).alloc (.cells cP 51)) w 51 (bk r)):=(ai.new w _ _).alloc _;have c:ai V (w+1) 51 cP:=by rw[a];have:=ai.new (w.alloc (.cells (bk r) 51)) 51 cP;simpa using this
 have l:=ah (qT 378 379 #[] #[] N3 N4 Bo (pG (r.j.st==1)) w (fun _=>True) r w V h d lr (by have:=c.lt;omega)
  (fun _ W n=>(KO r W).mono fun e z ⟨x,v⟩=>⟨x,cg.aX v (by have:=n.size;have:=c.lt;omega),trivial⟩)
  (fun _ _ W b B n _ _ y _=>KP b B W y)
  (fun _ _=>⟨rfl,rfl,rfl,rfl,rfl,h.nd⟩) (fun _ _ _ _=>trivial))
 rw[GM]at l;have i:=ah d;have m:=ah c;clear h d c;go_in;go_wp2_with(refine wA k t51 rfl ?_);rw[<-a];clear a k;refine l.out.mono ?_;rintro e A ⟨b,rfl,f,p,o⟩;have u:=ah f;have t:=ah p;have s:=ah o;have q:=ah (f.ce m (by omega));clear f p o;go_wp2_with(refine wB q aK rfl ?_);refine eC (cs:=bk b) rfl (ai.row q _) rfl rfl underlying51 rfl aK rfl rfl ⟨b,rfl,?_,(t.hi (by rw[fE];exact cB _) (fun g h1 h2=>f9 _ _ _ _ (by have:=m.lt;omega))).mono i.size,s⟩;exact aH (i.trans u.du) (by omega) _
theorem Jk(r:Jr)(s:Int)(w:Wd)(h:eF w r):Cs prog 180 #[.agg (bk r),s] w (tf (fun j=>gX j s) (kK r.j s) r w):=by
 obtain⟨V,b⟩:=nm (((w.alloc (.cells (bk r) 51)).alloc (.cells #[s] 3)).alloc (.cells cP 51));have f:Bl w w V:=b▸(aC).alloc (by simp;omega) _;have m:Hid (ai (((w.alloc (.cells (bk r) 51)).alloc (.cells #[s] 3)).alloc (.cells cP 51)) w 51 (bk r)):=((ai.new w _ _).alloc _).alloc _;have u:ai V (w+1) 3 #[s]:=by rw[b];have:=(ai.new (w.alloc (.cells (bk r) 51)) 3 #[s]).alloc (.cells cP 51);simpa using this
 have k:ai V (w+1+1) 51 cP:=by rw[b];have:=ai.new ((w.alloc (.cells (bk r) 51)).alloc (.cells #[s] 3)) 51 cP;simpa using this
 have E:=k.lt;have d:∀W,cg w V W->W.cell? (w+1:Nat)=some (s:Vl)/\w.heap.size+1<W:=fun W a=>⟨(a.cell (p:=(w+1:Nat)) (by show w.heap.size+1<V;omega) (by show w.heap.size+1≠w;omega)).trans (u.cell 0),by have:=a.size;omega⟩
 have n:=ah (qT 285 286 #[.pointer (w+1:Nat)] #[.pointer (w+1:Nat)] Rh Ri (fun j=>gX j s) (KY r.j s) w (fun _=>True) r w V h f lr (by omega)
  (fun _ W a=>(Oa r s _ W (d W (cg.aX a (by omega))).1 (d W (cg.aX a (by omega))).2).mono fun e F ⟨C,A⟩=>⟨C,cg.aX A (by have:=a.size;omega),trivial⟩)
  (fun _ _ W c B a _ G D _=>Ob c s _ B W D (d W a).1 (by omega))
  (fun _ _=>by unfold gX;split<;>exact⟨rfl,rfl,rfl,rfl,rfl,(by decide:(0:Nat)<2^64)⟩) (fun _ _ _ _=>trivial))
 rw[KW]at n;have l:=ah f;have o:=ah k;clear h f k u d E;go_in;go_wp2_with(refine wA m t51 rfl ?_);rw[<-b];clear b m;refine n.out.mono ?_;rintro e H ⟨c,rfl,i,t,q⟩;have z:=ah i;have y:=ah t;have x:=ah q;have v:=ah (i.ce o (by omega));clear i t q;go_wp2_with(refine wB v aK rfl ?_);refine eC (cs:=bk c) rfl (ai.row v _) rfl rfl underlying51 rfl aK rfl rfl ⟨c,rfl,?_,(y.hi (by rw[fE];exact cB _) (fun g h1 h2=>f9 _ _ _ _ (by have:=o.lt;omega))).mono l.size,x⟩;exact aH (l.trans z.du) (by omega) _
theorem CA(j:Jb):ml j (pG (j.st==2))=jV j:=by
 unfold ml jV pG;by_cases h:j.st=2<;>simp[h]
theorem GA:∀args w,(callFunc 272 args).run prog w=.ok (.enter 272 args) w:=enters_of func272 (by kernel_rfl) rfl
theorem GB:∀args w,(callFunc 274 args).run prog w=.ok (.enter 274 args) w:=enters_of func274 (by kernel_rfl) rfl
theorem D0(r:Jr)(n:Int)(b B:Nat)(w:Wd)(h:ai w B 51 (bk r))(i:w.cell? b=some (n:Vl))(g:b<w)(d:b≠B):Cs prog 274 #[.pointer B,.pointer b] w (xl B r (rb r.j n) w):=by
 have a:=ah h;have f:=h.cell 19;have o:=h.ao 19;simp at f;have m:=h.lt;have l:B≠b:=fun e=>d e.symm;have c:=ah fun A (W:Wd) (h:fs W A 2 [r.j.ud,n])=>nr r.j.ud n A 2 W h;clear h;go_in;go_wp2_with fail
 go_region_with (go_at_call 275;refine(c _ _ (Bz _ _ _ _)).mono ?_;rintro e k ⟨rfl,rfl⟩)
 all_goals go_wp2_with fail
 all_goals go_end0
 all_goals exact⟨rfl,(cg.set 19 _).ae ((aA).drew) (by rw[lT];omega),((a.set 19 _).alloc _).drew⟩
theorem GC(r:Jr)(n:Int)(w:Wd)(h:eF w r):Cs prog 161 #[.agg (bk r),n] w (tf (fun j=>rb j n) (jV r.j) r w):=by
 obtain⟨V,b⟩:=nm (((w.alloc (.cells (bk r) 51)).alloc (.cells #[n] 3)).alloc (.cells cP 51));have d:Bl w w V:=b▸(aC).alloc (by simp;omega) _;have m:Hid (ai (((w.alloc (.cells (bk r) 51)).alloc (.cells #[n] 3)).alloc (.cells cP 51)) w 51 (bk r)):=((ai.new w _ _).alloc _).alloc _;have u:ai V (w+1) 3 #[n]:=by rw[b];have:=(ai.new (w.alloc (.cells (bk r) 51)) 3 #[n]).alloc (.cells cP 51);simpa using this
 have k:ai V (w+1+1) 51 cP:=by rw[b];have:=ai.new ((w.alloc (.cells (bk r) 51)).alloc (.cells #[n] 3)) 51 cP;simpa using this
 have E:=k.lt;have i:∀W,cg w V W->W.cell? (w+1:Nat)=some (n:Vl)/\w.heap.size+1<W:=fun W a=>⟨(a.cell (p:=(w+1:Nat)) (by show w.heap.size+1<V;omega) (by show w.heap.size+1≠w;omega)).trans (u.cell 0),by have:=a.size;omega⟩
 have o:=ah (qT 272 274 #[] #[.pointer (w+1:Nat)] GA GB (fun j=>rb j n) (pG (r.j.st==2)) w (fun _=>True) r w V h d lr (by omega)
  (fun _ W a=>(DZ r W).mono fun e F ⟨C,A⟩=>⟨C,cg.aX A (by have:=a.size;omega),trivial⟩)
  (fun _ _ W c B a _ G D _=>D0 c n _ B W D (i W a).1 (i W a).2 (by omega))
  (fun _ _=>⟨rfl,rfl,rfl,rfl,rfl,h.nd⟩) (fun _ _ _ _=>trivial))
 rw[CA]at o;have l:=ah d;have q:=ah k;clear h d k u i E;go_in;go_wp2_with(refine wA m t51 rfl ?_);rw[<-b];clear b m;refine o.out.mono ?_;rintro e H ⟨c,rfl,f,t,s⟩;have z:=ah f;have y:=ah t;have x:=ah s;have v:=ah (f.ce q (by omega));clear f t s;go_wp2_with(refine wB v aK rfl ?_);refine eC (cs:=bk c) rfl (ai.row v _) rfl rfl underlying51 rfl aK rfl rfl ⟨c,rfl,?_,(y.hi (by rw[fE];exact cB _) (fun g h1 h2=>f9 _ _ _ _ (by have:=q.lt;omega))).mono l.size,x⟩;exact aH (l.trans z.du) (by omega) _
set_option maxRecDepth 100000
def Fg(j:Jb)(a c:Int):Int:=if j.st=1/\j.hd=false then(if(fw j.sh c).isSome&&bZ a then 0 else 2)else 141
theorem H1(j:Jb)(a c:Int):ml j (Fg j a c)=pE j a c:=rfl
theorem PA(j:Jb)(a c:Int):Fg j a c=if(j.st !=1)||j.hd then 141 else if !(fw j.sh c).isSome|| !bZ a then 2 else 0:=by
 unfold Fg;by_cases h:j.st=1<;>cases j.hd<;>cases(fw j.sh c).isSome<;>cases bZ a<;>simp[h]
theorem R6:∀p1 p2 a b:Bool,(p1=true\/(p1=false/\p2=true))\/(p1=false/\p2=false/\a=false)\/(p1=false/\p2=false/\a=true/\b=false)\/(p1=false/\p2=false/\a=true/\b=true):=by
 intro p1 p2 a b;cases p1<;>cases p2<;>cases a<;>cases b<;>simp
theorem Fh:∀args w,(callFunc 386 args).run prog w=.ok (.enter 386 args) w:=enters_of func386 (by kernel_rfl) rfl
theorem Fi:∀args w,(callFunc 387 args).run prog w=.ok (.enter 387 args) w:=enters_of func387 (by kernel_rfl) rfl
theorem Di(r:Jr)(a c:Int)(ba f:Nat)(w:Wd)(h:eF w r)(t:w.cell? ba=some (a:Vl))(u:w.cell? f=some (c:Vl))(I:ba<w)(G:f<w):
 Cs prog 386 #[.agg (bk r),.pointer f,.pointer ba] w (an (Fg r.j a c:Int) w):=by
 have d:Hid (ai (w.alloc (.cells (bk r) 51)) w 51 (bk r)):=ai.new _ _ _;obtain⟨V,b⟩:=nm (w.alloc (.cells (bk r) 51));have k:Bl w w V:=by rw[b];exact aA
 rw[<-b]at d;have H:=d.cell 11;have A:=d.cell 12;simp at H A;have K:V.cell? f=some (c:Vl):=(k.cell (p:=f) G).trans u;have B:Hid (∀W,Bl w w W->W.cell? ba=some (a:Vl)):=fun W C=>(C.cell (p:=ba) I).trans t;have m:=ah (pp r c V (h.ae k));have s:=ah fun W=>gt a W;have i:=ah (PA r.j a c);have g:=ah k;obtain⟨p1,E⟩:∃p,(r.j.st !=1)=p:=⟨_,rfl⟩;obtain⟨p2,n⟩:∃p,r.j.hd=p:=⟨_,rfl⟩;obtain⟨z,o⟩:∃p,(fw r.j.sh c).isSome=p:=⟨_,rfl⟩;obtain⟨D,q⟩:∃p,bZ a=p:=⟨_,rfl⟩;obtain⟨x,hx⟩:=nm (((fw r.j.sh c).map Al.nd).getD 0);obtain⟨y,v⟩:=nm (((fw r.j.sh c).map Al.wl).getD 0);have e:Hu (fw r.j.sh c)=.tuple #[.agg #[x,y],z]:=by rw[Hu,o,hx,v]
 rw[e]at m;rw[q]at s;rw[E,n,o,q]at i;rw[n]at A;clear e hx v n o q h t u k;rcases R6 p1 p2 z D with(rfl|⟨rfl,rfl⟩)|⟨rfl,rfl,rfl⟩|⟨rfl,rfl,rfl,rfl⟩|⟨rfl,rfl,rfl,rfl⟩
 iterate 2
  ·go_in;go_wp2_with(rw[<-b];clear b;go_step);go_ret;exact⟨ax i.symm,g⟩
 ·go_in;go_wp2_with(first|(rw[<-b];clear b;go_step)|refine wA d t51 rfl ?_);refine m.out.mono ?_;rintro e F ⟨rfl,b2⟩;go_wp2;go_ret;exact⟨ax i.symm,(aa g b2).alloc (aa g b2).size _⟩
 all_goals
  go_in;go_wp2_with(first|(rw[<-b];clear b;go_step)|refine wA d t51 rfl ?_);refine m.out.mono ?_;rintro e F ⟨rfl,b2⟩;have l:=ah (aa g b2);have J:=B.out _ (l.alloc l.size (.cells #[x,y] 139));clear b2;go_wp2_with fail;refine(s _).mono ?_;rintro e L ⟨rfl,rfl⟩;go_wp2;go_ret;exact⟨ax i.symm,l.alloc l.size _⟩
theorem Dj(r:Jr)(a c:Int)(ba b B:Nat)(w:Wd)(h:ai w B 51 (bk r))(l:w.cell? ba=some (a:Vl))(m:w.cell? b=some (c:Vl))(k:ba≠B)(i:b≠B):
 Cs prog 387 #[.pointer B,.pointer ba,.pointer b] w (xl B r (ix r.j a c) w):=by
 have d:=ah h;have f:=h.cell 14;have g:=h.cell 15;have s:=h.ao 14;have q:=h.ao 15;simp at f g;have o:B≠ba:=fun e=>k e.symm;have n:B≠b:=fun e=>i e.symm;have p:=h.lt;clear h;go_in;go_wp2_with fail;go_region
 all_goals go_wp2_with fail
 all_goals go_end0
 all_goals exact⟨rfl,((cg.set 14 _).trans (cg.set 15 _)).ae bR.drew (by rw[lT,lT];omega),((d.set 14 _).set 15 _).drew⟩
theorem wv(r:Jr)(a c:Int)(w:Wd)(h:eF w r):Cs prog 295 #[.agg (bk r),a,c] w (tf (fun j=>ix j a c) (pE r.j a c) r w):=by
 obtain⟨V,f⟩:=nm ((((w.alloc (.cells (bk r) 51)).alloc (.cells #[a] 3)).alloc (.cells #[c] 3)).alloc (.cells cP 51));have i:Bl w w V:=f▸((aC).alloc (by simp;omega) _).alloc (by simp;omega) _;have o:Hid (ai ((((w.alloc (.cells (bk r) 51)).alloc (.cells #[a] 3)).alloc (.cells #[c] 3)).alloc (.cells cP 51)) w 51 (bk r)):=(((ai.new w _ _).alloc _).alloc _).alloc _;have v:ai V (w+1) 3 #[a]:=by rw[f];have:=((ai.new (w.alloc (.cells (bk r) 51)) 3 #[a]).alloc (.cells #[c] 3)).alloc (.cells cP 51);simpa using this
 have x:ai V (w+1+1) 3 #[c]:=by rw[f];have:=(ai.new ((w.alloc (.cells (bk r) 51)).alloc (.cells #[a] 3)) 3 #[c]).alloc (.cells cP 51);simpa using this
 have m:ai V (w+1+1+1) 51 cP:=by rw[f];have:=ai.new (((w.alloc (.cells (bk r) 51)).alloc (.cells #[a] 3)).alloc (.cells #[c] 3)) 51 cP;simpa using this
 have G:=m.lt;have d:∀W,cg w V W->W.cell? (w+1:Nat)=some (a:Vl)/\W.cell? (w+1+1:Nat)=some (c:Vl)/\w.heap.size+1+1<W:=fun W b=>⟨(b.cell (p:=(w+1:Nat)) (by show w.heap.size+1<V;omega) (by show w.heap.size+1≠w;omega)).trans (v.cell 0),(b.cell (p:=(w+1+1:Nat)) (by show w.heap.size+1+1<V;omega) (by show w.heap.size+1+1≠w;omega)).trans (x.cell 0),by have:=b.size;omega⟩
 have q:=ah (qT 386 387 #[.pointer (w+1+1:Nat),.pointer (w+1:Nat)] #[.pointer (w+1:Nat),.pointer (w+1+1:Nat)] Fh Fi (fun j=>ix j a c) (Fg r.j a c) w (fun _=>True) r w V h i lr (by omega)
  (fun _ W b=>(Di r a c _ _ W (h.ae (aa i b)) (d W (cg.aX b (by omega))).1 (d W (cg.aX b (by omega))).2.1 (by have:=(d W (cg.aX b (by omega))).2.2;omega) (d W (cg.aX b (by omega))).2.2).mono fun e H ⟨E,D⟩=>⟨E,cg.aX D (by have:=b.size;omega),trivial⟩)
  (fun _ _ W k B b _ I F _=>Dj k a c _ _ B W F (d W b).1 (d W b).2.1 (by omega) (by omega))
  (fun _ _=>⟨rfl,rfl,rfl,rfl,rfl,h.nd⟩) (fun _ _ _ _=>trivial))
 rw[H1]at q;have n:=ah i;have s:=ah m;clear h i m v x d G;go_in;go_wp2_with(refine wA o t51 rfl ?_);rw[<-f];clear f o;refine q.out.mono ?_;rintro e J ⟨k,rfl,l,u,t⟩;have C:=ah l;have A:=ah u;have z:=ah t;have y:=ah (l.ce s (by omega));clear l u t;go_wp2_with(refine wB y aK rfl ?_);refine eC (cs:=bk k) rfl (ai.row y _) rfl rfl underlying51 rfl aK rfl rfl ⟨k,rfl,?_,(A.hi (by rw[fE];exact cB _) (fun g h1 h2=>f9 _ _ _ _ (by have:=s.lt;omega))).mono n.size,z⟩;exact aH (n.trans C.du) (by omega) _
def vq(j:Jb)(am:Int)(set:Nat):Int:=
 if(j.st !=1)||decide (j.pm<0)||decide (j.pm<am)then 141 else if !nw set||(((dw set).length:Int) !=sizeOf j)then 152 else if !bZ am||decide (1000000<I8 am+I8 (fl j))then 153 else 0
theorem wD(j:Jb)(am:Int)(set:Nat):ml j (vq j am set)=mQ j am set:=by
 unfold ml mQ vq;cases fg j
 ·simp
 ·simp only[oT,Bool.true_eq_false,rO];by_cases h1:j.st=1<;>by_cases h2:j.pm<0<;>by_cases a:j.pm<am<;>simp[h1,h2,a]
  all_goals(by_cases b:nw set=true<;>by_cases c:((dw set).length:Int)=sizeOf j<;>simp[b,c])
  all_goals(by_cases d:bZ am=true<;>simp[d])
theorem R8:∀p1 p2 a b c d e:Bool,(p1=true\/(p1=false/\p2=true)\/(p1=false/\p2=false/\a=true))\/((p1=false/\p2=false/\a=false/\b=false)\/(p1=false/\p2=false/\a=false/\b=true/\c=true))\/
 (p1=false/\p2=false/\a=false/\b=true/\c=false/\d=false)\/((p1=false/\p2=false/\a=false/\b=true/\c=false/\d=true/\e=true)\/(p1=false/\p2=false/\a=false/\b=true/\c=false/\d=true/\e=false)):=by
 intro p1 p2 a b c d e;cases p1<;>cases p2<;>cases a<;>cases b<;>cases c<;>cases d<;>cases e<;>simp
def J7(R:Nat)(j:Jb)(am:Int)(set:Nat)(w:Wd)(e:Ed)(w':Wd):Prop:=e=.returned (vq j am set:Int)/\cg R w w'/\ai w' R 3 #[(fl j:Int)]
theorem L4:∀args w,(callFunc 306 args).run prog w=.ok (.enter 306 args) w:=enters_of func306 (by kernel_rfl) rfl
theorem L5:∀args w,(callFunc 310 args).run prog w=.ok (.enter 310 args) w:=enters_of func310 (by kernel_rfl) rfl
theorem Io(r:Jr)(am:Int)(set:Nat)(v:Vl)(R m n:Nat)(w:Wd)(h:eF w r)(hR:ai w R 3 #[v])(hn:w.cell? m=some (am:Vl))(hs:w.cell? n=some (.int .u64 (set:Int)))(yX:m<w)(uB:n<w)(yY:m≠R)(uA:n≠R)(uE:set<2^64):
 Cs prog 306 #[.agg (bk r),.pointer R,.pointer m,.pointer n] w (J7 R r.j am set w):=by
 have M:Hid (ai (w.alloc (.cells (bk r) 51)) w 51 (bk r)):=ai.new _ _ _;obtain⟨V,F⟩:=nm (w.alloc (.cells (bk r) 51));have P:Bl w w V:=by rw[F];exact aA
 have Q:ai V w 51 (bk r):=by rw[F];exact M
 have yV:=Q.cell 15;simp at yV;have yG:=hR.lt;have HO:=ah (pp r r.j.ch V (h.ae P));have l:Hid (vq r.j am set=if(r.j.st !=1)||decide (r.j.pm<0)||decide (r.j.pm<am)then 141 else if !nw set||(((dw set).length:Int) !=sizeOf r.j)then 152 else if !bZ am||decide (1000000<I8 am+I8 (fl r.j))then 153 else 0):=rfl;have HB:=ah P;have HK:=ah Q;have HW:=ah hR;have yO:=ah hn;have yL:=ah hs;obtain⟨x,hx⟩:=nm (sizeOf r.j);obtain⟨y,G⟩:=nm (fl r.j);obtain⟨p0,hp⟩:∃p,(fw r.j.sh r.j.ch).isSome=p:=⟨_,rfl⟩;have e:Hu (fw r.j.sh r.j.ch)=.tuple #[.agg #[x,y],p0]:=by rw[Hu,hp,hx,G];rfl
 have D:Hid (fl r.j=y):=G.symm;rw[e]at HO;rw[<-hx,<-G]at l;obtain⟨p1,H⟩:∃p,(r.j.st !=1)=p:=⟨_,rfl⟩;obtain⟨p2,I⟩:∃p,decide (r.j.pm<0)=p:=⟨_,rfl⟩;obtain⟨p3,J⟩:∃p,decide (r.j.pm<am)=p:=⟨_,rfl⟩;obtain⟨p4,S⟩:∃p,nw set=p:=⟨_,rfl⟩;obtain⟨p5,T⟩:∃p,(((dw set).length:Int) !=x)=p:=⟨_,rfl⟩;obtain⟨p6,U⟩:∃p,bZ am=p:=⟨_,rfl⟩;obtain⟨p7,X⟩:∃p,decide (1000000<I8 am+I8 y)=p:=⟨_,rfl⟩;rw[H,I,J,S,T,U,X]at l;have K:=ah fun W=>BM set W;have Z:=ah fun W=>jn set W uE;have yQ:=ah fun W=>gt am W;have yW:=ah fun A (W:Wd) (h:fs W A 2 [am,y])=>Pt am y A 2 W h;rw[S]at K;rw[U]at yQ;rw[X]at yW;have Q1:=ah H;have Q2:=ah I;have Q3:=ah J;have N:=ah T;clear e hx G hp H I J S T U X h hn hs P Q hR;go_in;go_wp2_with(refine wA M t51 rfl ?_;rw[<-F];clear F M);refine HO.out.mono ?_;rintro e k ⟨rfl,b2⟩;have uF:=b2.size;have yU:=ah (aa HB b2);have yP:=ah (HK.ae b2 HK.lt);obtain⟨O,g⟩:=nm (k.alloc (.cells #[x,y] 139));have L:Bl k k O:=by rw[g];exact aA
 have yS:Hid (ai O k 139 #[x,y]):=by rw[g];exact ai.new _ _ _
 have yR:=ah (HW.ae (aa yU L) yG);have y1:=yS.cell 1;simp at y1;have C:=yR.cell 0;have E:=yR.ao 0;simp at C;obtain⟨b,c⟩:=nm (O.setCell R y);have yN:Hid (ai b R 3 #[y]):=by rw[c];exact yR.set 0 _
 have yT:Hid (ai b w 51 (bk r)):=by rw[c];exact(yP.ae L yP.lt).ll (show w.heap.size≠R by omega) _
 have Y:Hid (ai b k 139 #[x,y]):=by rw[c];exact yS.ll (show k.heap.size≠R by have:=yU.size;omega) _
 have q:Hid (cg R w b):=by rw[c];exact(cg.aX (aa yU L) (iY yG)).trans (cg.set 0 _)
 have s:Hid (∀W,Bl b b W->W.cell? m=some (am:Vl)/\W.cell? n=some (.int .u64 (set:Int))/\W.cell? k=some (x:Vl)):=fun W o=>⟨((q.ae o (by have:=q.size;omega)).cell (p:=m) yX yY).trans yO,((q.ae o (by have:=q.size;omega)).cell (p:=n) uB uA).trans yL,(Y.ae o Y.lt).cell 0⟩;obtain⟨n3,s3,a3⟩:=s b bR;have yZ:=yT.cell 11;have uD:=yT.cell 14;have uw:=yN.cell 0;simp at yZ uD uw;have i:Hid (∀W,Bl b b W->cg R w W/\ai W R 3 #[y]):=fun W o=>⟨q.ae o (by have:=q.size;omega),yN.ae o yN.lt⟩;clear b2 L yV yT Y yP yS;have H:=Q1.out;have I:=Q2.out;have J:=Q3.out;rcases R8 p1 p2 p3 p4 p5 p6 p7 with(rfl|⟨rfl,rfl⟩|⟨rfl,rfl,rfl⟩)|(⟨rfl,rfl,rfl,rfl⟩|⟨rfl,rfl,rfl,rfl,rfl⟩)|⟨rfl,rfl,rfl,rfl,rfl,rfl⟩|(⟨rfl,rfl,rfl,rfl,rfl,rfl,rfl⟩|⟨rfl,rfl,rfl,rfl,rfl,rfl,rfl⟩)
 iterate 3
  ·go_wp2_with(first|(rw[<-g];clear g;go_step)|(rw[<-c];clear c C E;go_step));go_ret;exact⟨ax (by rw[l.out];rfl),(i _ bR).1,by rw[D.out];exact(i _ bR).2⟩
 iterate 2
  ·go_wp2_with(first|(rw[<-g];clear g;go_step)|(rw[<-c];clear c C E;go_step));refine aw (fun w'=>Bl b b w') (by kernel_rfl) (by kernel_rfl) bR.drew ?_
   repeat(first
    |(refine bF ?_ ?_
      ·rfl
      simp only[aP])
    |(refine il 308 #[.int .u64 (set:Int)] _ ?_ ?_ (fun w'=> ?_) (fun w' a=>(K w').mono fun e B ⟨f,d⟩=>⟨f,d▸a⟩) ?_
      ·rfl
      ·rfl
      ·simp[go_sem]
      simp only[aP])
    |(refine il 60 #[.int .u64 (set:Int)] ((dw set).length:Int) ?_ ?_ (fun w'=> ?_) (fun w' a=>(Z w').mono fun e B ⟨f,d⟩=>⟨f,d▸a⟩) ?_
      ·rfl
      ·rfl
      ·simp[go_sem]
      simp only[aP])
    |(refine cw rfl ⟨?_,fun w' a=> ?_,?_⟩
      rotate_left
      ·obtain⟨t,u,z⟩:=s w' a;simp[go_sem,t,u,z,N.out]
       try rfl
      simp only[aP]))
   refine bM ?_;intro w5 b5;go_wp2;go_ret;exact⟨ax (by rw[l.out];rfl),(i _ b5).1,by rw[D.out];exact(i _ b5).2⟩
 ·go_wp2_with(first|(rw[<-g];clear g;go_step)|(rw[<-c];clear c C E;go_step));refine aw (fun w'=>Bl b b w') (by kernel_rfl) (by kernel_rfl) bR.drew ?_
  repeat(first
   |(refine bF ?_ ?_
     ·rfl
     simp only[aP])
   |(refine il 308 #[.int .u64 (set:Int)] _ ?_ ?_ (fun w'=> ?_) (fun w' a=>(K w').mono fun e B ⟨f,d⟩=>⟨f,d▸a⟩) ?_
     ·rfl
     ·rfl
     ·simp[go_sem]
     simp only[aP])
   |(refine il 60 #[.int .u64 (set:Int)] ((dw set).length:Int) ?_ ?_ (fun w'=> ?_) (fun w' a=>(Z w').mono fun e B ⟨f,d⟩=>⟨f,d▸a⟩) ?_
     ·rfl
     ·rfl
     ·simp[go_sem]
     simp only[aP])
   |(refine cw rfl ⟨?_,fun w' a=> ?_,?_⟩
     rotate_left
     ·obtain⟨t,u,z⟩:=s w' a;simp[go_sem,t,u,z,N.out]
      try rfl
     simp only[aP]))
  refine bM ?_;intro w5 b5;obtain⟨n5,s5,a5⟩:=s _ b5;go_wp2_with fail;refine(yQ _).mono ?_;rintro e w6 ⟨rfl,rfl⟩;go_wp2;go_ret;exact⟨ax (by rw[l.out];rfl),(i _ b5).1,by rw[D.out];exact(i _ b5).2⟩
 iterate 2
  ·go_wp2_with(first|(rw[<-g];clear g;go_step)|(rw[<-c];clear c C E;go_step));refine aw (fun w'=>Bl b b w') (by kernel_rfl) (by kernel_rfl) bR.drew ?_
   repeat(first
    |(refine bF ?_ ?_
      ·rfl
      simp only[aP])
    |(refine il 308 #[.int .u64 (set:Int)] _ ?_ ?_ (fun w'=> ?_) (fun w' a=>(K w').mono fun e B ⟨f,d⟩=>⟨f,d▸a⟩) ?_
      ·rfl
      ·rfl
      ·simp[go_sem]
      simp only[aP])
    |(refine il 60 #[.int .u64 (set:Int)] ((dw set).length:Int) ?_ ?_ (fun w'=> ?_) (fun w' a=>(Z w').mono fun e B ⟨f,d⟩=>⟨f,d▸a⟩) ?_
      ·rfl
      ·rfl
      ·simp[go_sem]
      simp only[aP])
    |(refine cw rfl ⟨?_,fun w' a=> ?_,?_⟩
      rotate_left
      ·obtain⟨t,u,z⟩:=s w' a;simp[go_sem,t,u,z,N.out]
       try rfl
      simp only[aP]))
   refine bM ?_;intro w5 b5;obtain⟨n5,s5,a5⟩:=s _ b5;have uC:=(i _ b5).2.cell 0;simp at uC;go_wp2_with fail;refine(yQ _).mono ?_;rintro e w6 ⟨rfl,rfl⟩;go_wp2_with fail;refine(yW _ _ (qh _ _ _ _)).mono ?_;rintro e w7 ⟨rfl,rfl⟩;go_wp2;go_ret;have b7:=b5.alloc b5.size (.cells #[am,y] 3);exact⟨ax (by rw[l.out];rfl),(i _ b7).1,by rw[D.out];exact(i _ b7).2⟩
theorem Ip(r:Jr)(am y:Int)(set:Nat)(a R b B:Nat)(w:Wd)(h:ai w B 51 (bk r))(hn:w.cell? a=some (am:Vl))(n:w.cell? R=some (y:Vl))(hs:w.cell? b=some (.int .u64 (set:Int)))(h1:a≠B)(h2:R≠B)(g:b≠B)(hw:0<=am+y/\am+y<=1000000):
 Cs prog 310 #[.pointer B,.pointer a,.pointer R,.pointer b] w (xl B r (jB r.j am y set) w):=by
 have d:=ah h;have k:=h.cell 11;have m:=h.cell 16;have i:=h.cell 17;have l:=h.cell 18;have u:=h.ao 11;have s:=h.ao 16;have v:=h.ao 17;have q:=h.ao 18;simp at k m i l;have o:B≠a:=fun e=>h1 e.symm;have x:B≠R:=fun e=>h2 e.symm;have p:B≠b:=fun e=>g e.symm;have c:IntKind.i64.wrap (am+y)=am+y:=by rw[IntKind.wrap_i64];omega
 have f:Hid (wrap64 (am+y)=am+y):=by show _=_;first|exact c|(unfold wrap64;omega)
 clear c;have t:=h.lt;clear h hw;go_in;go_wp2_with fail;go_region
 all_goals go_wp2_with fail
 all_goals go_end0
 all_goals
  refine⟨rfl,((((cg.set 11 _).trans (cg.set 16 _)).trans (cg.set 17 _)).trans (cg.set 18 _)).ae bR.drew (by simp only[lT];omega),?_⟩;have:=((((d.set 11 (2:Int)).set 16 am).set 17 (am+y:Int)).set 18 (.int .u64 (set:Int))).drew
  first|exact this|(rw[f.out];exact this)
theorem L7{j:Jb}{am:Int}{set:Nat}(e:fg j=true)(h:vq j am set=0):0<=am+fl j/\am+fl j<=1000000:=by
 have b:mQ j am set=0:=by rw[<-wD,ml,cK e,h]
 have:=(ue b).1;have d:=Pd this rfl;obtain⟨a,-,-,-,-,-,c,-⟩:=vn d;exact ej.1 c
theorem L6(r:Jr)(am:Int)(set:Nat)(w:Wd)(h:eF w r)(z:set<2^64):Cs prog 191 #[.agg (bk r),am,.int .u64 (set:Int)] w (tf (fun j=>jB j am (fl j) set) (mQ r.j am set) r w):=by
 obtain⟨V,b⟩:=nm (((((w.alloc (.cells (bk r) 51)).alloc (.cells #[am] 3)).alloc (.cells #[.int .u64 (set:Int)] 35)).alloc (.cells cP 51)).alloc (.cells #[()] 3));have c:Bl w w V:=b▸(((aC).alloc (by simp;omega) _).alloc (by simp;omega) _).alloc (by simp;omega) _;have s:Hid (ai (((((w.alloc (.cells (bk r) 51)).alloc (.cells #[am] 3)).alloc (.cells #[.int .u64 (set:Int)] 35)).alloc (.cells cP 51)).alloc (.cells #[()] 3)) w 51 (bk r)):=((((ai.new w _ _).alloc _).alloc _).alloc _).alloc _;have x:ai V (w+1) 3 #[am]:=by rw[b];have:=(((ai.new (w.alloc (.cells (bk r) 51)) 3 #[am]).alloc (.cells #[.int .u64 (set:Int)] 35)).alloc (.cells cP 51)).alloc (.cells #[()] 3);simpa using this
 have y:ai V (w+1+1) 35 #[.int .u64 (set:Int)]:=by rw[b];have:=((ai.new ((w.alloc (.cells (bk r) 51)).alloc (.cells #[am] 3)) 35 #[.int .u64 (set:Int)]).alloc (.cells cP 51)).alloc (.cells #[()] 3);simpa using this
 have C:ai V (w+1+1+1) 51 cP:=by rw[b];have:=(ai.new (((w.alloc (.cells (bk r) 51)).alloc (.cells #[am] 3)).alloc (.cells #[.int .u64 (set:Int)] 35)) 51 cP).alloc (.cells #[()] 3);simpa using this
 have i:ai V (w+1+1+1+1) 3 #[()]:=by rw[b];have:=ai.new ((((w.alloc (.cells (bk r) 51)).alloc (.cells #[am] 3)).alloc (.cells #[.int .u64 (set:Int)] 35)).alloc (.cells cP 51)) 3 #[()];simpa using this
 have L:=i.lt;have k:∀W,cg (w+1+1+1+1) V W->W.cell? (w+1:Nat)=some (am:Vl)/\W.cell? (w+1+1:Nat)=some (.int .u64 (set:Int))/\w.heap.size+1+1+1+1<W:=fun W a=>⟨(a.cell (p:=(w+1:Nat)) (by show w.heap.size+1<V;omega) (by show w.heap.size+1≠w+1+1+1+1;omega)).trans (x.cell 0),(a.cell (p:=(w+1+1:Nat)) (by show w.heap.size+1+1<V;omega) (by show w.heap.size+1+1≠w+1+1+1+1;omega)).trans (y.cell 0),by have:=a.size;omega⟩
 have t:=ah (qT 306 310 #[.pointer (w+1+1+1+1:Nat),.pointer (w+1:Nat),.pointer (w+1+1:Nat)] #[.pointer (w+1:Nat),.pointer (w+1+1+1+1:Nat),.pointer (w+1+1:Nat)] L4 L5 (fun j=>jB j am (fl j) set) (vq r.j am set) (w+1+1+1+1) (fun W=>ai W (w+1+1+1+1) 3 #[(fl r.j:Int)]) r w V h c (by omega) (by omega)
  (fun _ W a=>by
    obtain⟨H,I,N⟩:=k W (cg.aX a (by omega));exact(Io r am set _ _ _ _ W (h.ae (aa c a)) (i.ae a i.lt) H I (by omega) (by omega) (by omega) (by omega) z).mono fun e G ⟨K,m,n⟩=>⟨K,m,n⟩)
  (fun M J W f B a l O n d=>by
    have:=Ip f am (fl r.j) set (w+1) (w+1+1+1+1) (w+1+1) B W n (k W a).1 (l.cell 0) (k W a).2.1 (by omega) (by omega) (by omega) (L7 M J);rw[<-d]at this;exact this)
  (fun _ _=>⟨rfl,rfl,rfl,rfl,rfl,z⟩) (fun W G l m=>l.ae m (by omega)))
 rw[wD]at t;have q:=ah c;have u:=ah C;clear h c C x y i k L;go_in;go_wp2_with(refine wA s t51 rfl ?_);rw[<-b];clear b s;refine t.out.mono ?_;rintro e P ⟨f,rfl,o,v,d⟩;have F:=ah o;have E:=ah v;have D:=ah d;have A:=ah (o.ce u (by omega));clear o v d;go_wp2_with(refine wB A aK rfl ?_);refine eC (cs:=bk f) rfl (ai.row A _) rfl rfl underlying51 rfl aK rfl rfl ⟨f,rfl,?_,(E.hi (by rw[fE];exact cB _) (fun g h1 h2=>f9 _ _ _ _ (by have:=u.lt;omega))).mono q.size,D⟩;exact aH (q.trans (F.du.mono (by omega))) (by omega) _
end Go.Proofs.YthfhilggbbobmaaGreatDoor
