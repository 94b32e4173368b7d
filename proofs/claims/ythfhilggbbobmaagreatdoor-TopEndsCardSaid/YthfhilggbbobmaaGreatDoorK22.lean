/- Parts of the proof. -/
import Derived.Test.YthfhilggbbobmaaGreatDoorK14
import Derived.Test.YthfhilggbbobmaaGreatDoorK21
set_option linter.all false
set_option maxHeartbeats 20000000
namespace Go.Proofs.YthfhilggbbobmaaGreatDoor
open Go.Proofs.Tryz
open Go renaming World->Wd,Calls->Cs
open Go.RowKit
def jC(n a b:Int):Bool:=decide (a<=n)&&decide (n<=b)
theorem jo(n a b:Int)(w:Wd):Cs prog 220 #[n,a,b] w fun e w'=>e=.returned (jC n a b:Bool)/\w=w':=by
 cases h1:decide (a<=n)
 ·have c:Hid (jC n a b=false):=by show _=_;simp[jC,h1]
  go_in;go_wp2;go_ret;exact⟨ar c.symm,rfl⟩
 ·cases h2:decide (n<=b)
  ·have c:Hid (jC n a b=false):=by show _=_;simp[jC,h2]
   go_in;go_wp2;go_ret;exact⟨ar c.symm,rfl⟩
  ·have c:Hid (jC n a b=true):=by show _=_;simp[jC,h1,h2]
   go_in;go_wp2;go_ret;exact⟨ar c.symm,rfl⟩
theorem Q4(n:Int)(w:Wd):Cs prog 130 #[n] w fun e w'=>e=.returned (By n:Bool)/\w=w':=by
 have H:=ah (jo n 1 99999 w);have a:Hid (jC n 1 99999=By n):=rfl;go_in;go_wp2_with fail;refine aQ H ?_;go_wp2;go_ret;exact⟨ar a,rfl⟩
theorem Bg(s:ByteArray)(w:Wd)(hs:s.size<=1000000):Cs prog 231 #[.string s] w (an (ki s:Bool) w):=by
 have H:=ah (Hd s w hs)
 cases hw:ki s with
 |true=>
  have a:ng s=0:=by simp[ng,hw]
  rw[a]at H;clear a hw;go_in;go_wp2_with fail;refine av H fun w' b=> ?_;go_wp2;go_ret;exact⟨rfl,b⟩
 |false=>
  have a:ng s=50:=by simp[ng,hw]
  rw[a]at H;clear a hw;go_in;go_wp2_with fail;refine av H fun w' b=> ?_;go_wp2;go_ret;exact⟨rfl,b⟩
theorem mY(s:ByteArray)(w:Wd)(hs:s.size<=1000000):Cs prog 127 #[.string s] w (an (jv s:Bool) w):=by
 have H:=ah (zB s w (by omega))
 cases hw:(bc s).all pB with
 |false=>
  have c:zx (bc s)=40:=by simp[zx,hw]
  have a:Hid (jv s=false):=by show _=_;simp[jv,hw]
  rw[c]at H;clear c hw;go_in;go_wp2_with fail;refine H.out.mono ?_;rintro e w' ⟨rfl,b⟩;go_wp2;go_ret;exact⟨ar a.symm,b⟩
 |true=>
  obtain⟨h1,h2⟩:=Ev (dC.1 hw);rw[h1,h2]at H
  have a:Hid (jv s=jC ((bc s).length:Int) 1 16):=by
   show _=_;rw[jv,hw,jC,lO]
   congr 1
   ·exact iD.2 (by omega)
   ·exact iD.2 (by omega)
  have d:=ah (fun W=>jo ((bc s).length:Int) 1 16 W);clear h1 h2 hw;go_in;go_wp2_with fail;refine H.out.mono ?_;rintro e w' ⟨rfl,b⟩;go_wp2_with fail;refine(d _).mono ?_;rintro e w' ⟨rfl,rfl⟩;go_wp2;go_ret;exact⟨ar a.symm,b⟩
set_option maxRecDepth 100000
open Go renaming Value->Vl,Ending->Ed,Addr->Ad
open Go.RowKit renaming Below->Bl
def EB{α:Type}(q:α->Bool)(l:List α):Int:=if l.any q then(l.findIdx q:Int)else -1
theorem K3{α:Type}{q:α->Bool}{l:List α}(h:∀x∈l,q x=false):EB q l= -1:=by
 have:l.any q=false:=by rw[iF];intro x hx;rw[h x hx];simp
 simp[EB,this]
variable{k:Nat}
theorem Ru{α:Type}{q:α->Bool}{l:List α}{s:α}(h:∀x∈l.take k,q x=false)(hs:l[k]?=some s)(b:q s=true):EB q l=(k:Int):=by
 obtain⟨a,rfl⟩:=cA.1 hs;have c:l.any q=true:=iZ.2 ⟨_,iH a,b⟩
 have:l.findIdx q=k:=by
  rw[oH a];refine⟨b,fun j d=> ?_⟩;have:=h l[j] (by rw[dO];exact⟨j,by omega,rfl⟩);exact this
 simp[EB,c,this]
theorem Rv{α:Type}(q:α->Bool)(l:List α):decide (0<=EB q l)=l.any q:=by
 unfold EB;cases l.any q<;>simp
def xP(x:Dp):List Vl:=[x.uz,x.bD]
abbrev UW(x:Dp):Array Vl:= #[x.uz,x.bD]
abbrev KM:=cp xP 2
abbrev KN:=be xP 2
theorem vc:wU xP 2:=⟨fun _=>rfl,fun x u a=>by simp[xP]at a;rcases a with rfl|rfl<;>rfl,by omega⟩
theorem xO:(prog.info? 142).map (fun i=>(i.zero,i.size,i.bytes))=some (some (.agg #[(),()]),2,16):=by kernel_rfl
variable{w:Wd}{n:Nat}
theorem Bj{A:OA}{l:List Dp}(h:KM w A n l){i:Nat}(hi:i<n):∃b off s,A=some ⟨b,off,none⟩/\b<w/\l[i]?=some s/\w.cell? ⟨b,off+i*2,none⟩=some (s.uz:Vl)/\w.cell? ⟨b,off+i*2+1,none⟩=some (s.bD:Vl):=by
 obtain⟨b,off,s,hA,c,hs,a⟩:=h.at_ hi;exact⟨b,off,s,hA,c,hs,a 0 _ rfl,a 1 _ rfl⟩
def Cr(g:FuncId)(B:Ad)(q:Dp->Bool)(a:Wd):Prop:=∀(x:Dp) (W:Wd),Bl a a W->Cs prog g #[.agg #[x.uz,x.bD],.pointer (some B)] W (an (q x:Bool) W)
theorem Ef(g:FuncId)(B:Ad)(q:Dp->Bool)(D:∀args w,(callFunc g args).run prog w=.ok (.enter g args) w)(A:OA)(n c:Nat)(l:List Dp)(w:Wd)(m:Cr g B q w)(h:KM w A n l)(hn:n<=maxLen):
 Cs prog 318 #[.slice A n c,.func (.func g) #[] #[.pointer (some B)]] w (an (EB q l:Int) w):=by
 unfold maxLen at hn;have v:=h.cb;subst v;have r:=ah h;have p:=ah m;clear h m;go_in;go_wp2
 go_loopw [8] (fun i wr=>∃k:Nat,k<=l.length/\i=.int .i64 k/\(∀x∈l.take k,q x=false)/\Bl w w wr) (fun i _=>l.length-(intOf i).toNat)
 case atStart=>exact⟨0,by omega,rfl,by simp,cC _ _⟩
 case round=>
  obtain⟨k,F,rfl,o,a⟩:=hrel;have f:=ah o;clear o;by_cases y:k<l.length
  ·obtain⟨b,off,s,rfl,E,hs,z,C⟩:=Bj (r.ae a) y;have j:=ah hs;have d:=ah (p s wr a);clear hs;cases hq:q s
   ·rw[hq]at d;have t:=ah (eP (P:=fun x=>q x=false) f j hq);clear hq;go_wp2_with fail;refine av d fun u b2=> ?_;go_wp2_with fail;exact⟨⟨k+1,by omega,by go_num,t,aa a b2⟩,by simp[intOf];omega⟩
   ·rw[hq]at d;have e:=ah (Ru f j hq);clear hq;go_wp2_with fail;refine av d fun u b2=> ?_;go_wp2;go_ret;exact⟨ax e.symm,aa a b2⟩
  ·obtain rfl:k=l.length:=by omega
   have e:=ah (K3 (q:=q) (l:=l) (by have:=f.out;rwa [cT]at this));go_wp2;go_ret;exact⟨ax e.symm,a⟩
theorem vS(g:FuncId)(B:Ad)(q:Dp->Bool)(d:∀args w,(callFunc g args).run prog w=.ok (.enter g args) w)(A:OA)(n c:Nat)(l:List Dp)(w:Wd)(e:Cr g B q w)(h:KM w A n l)(hn:n<=maxLen):
 Cs prog 206 #[.slice A n c,.func (.func g) #[] #[.pointer (some B)]] w (an (l.any q:Bool) w):=by
 have b:=ah (Ef g B q d A n c l w e h hn);have a:=ah (Rv q l);obtain⟨i,hi⟩:=nm (EB q l);rw[<-hi]at b a;clear h hi e d;go_in;go_wp2_with fail;refine av b fun w' b1=> ?_;go_wp2;go_ret;exact⟨ar a,b1⟩
def TP(l:List Dp)(w:Wd)(e:Ed)(w':Wd):Prop:=∃A c,e=.returned (.slice A l.length c)/\KN w' w A l.length c l/\Bl w w w'/\(A=none->c=0)
theorem vR(A:OA)(n c:Nat)(p:List Dp)(w:Wd)(h:KM w A n p)(hn:n<=1000000)(hA:A=none->c=0):
 Cs prog 377 #[.slice A n c] w (TP p w):=by
 have o:=h.cb;subst o
 cases A with
 |none=>
  have q:p=[]:=by
   cases p with
   |nil=>rfl
   |cons x r=>obtain⟨b,off,_,e,_⟩:=h.at_ (i:=0) (by simp);cases e
  subst q;obtain rfl:=hA rfl;clear h hA hn;have j:=fun(w:Wd)=>Lib.run_eql_slice_nil (P:=prog) w 49 142 none 0 0 0 0 underlying49;go_in;go_wp2;go_ret;exact⟨none,0,rfl,be.nil _ _ _ _,cC _ _,fun _=>rfl⟩
 |some a=>
  obtain⟨k,m,t,d,f,g,_,_⟩:=dy vc (P:=prog) (w.alloc (.cells #[] 142)) w 49 49 142 _ 16 underlying49 xO rfl w 0 0 [] (be.none _ _ _ _ _) (some a) p.length c p (h.ae (bR.alloc lr _)) (by simp[maxLen];omega) (by omega) (by simp);simp only[cR,dH]at d f;have l:=ah d;have s:=((cC w w).alloc lr (.cells #[] 142)).trans g;clear d g h;have j:=fun(w:Wd)=>Lib.run_eql_slice_nil (P:=prog) w 49 142 (some a) p.length c 0 0 underlying49;simp only[iV]at j;go_in;go_wp2_with(at_builtin;refine au rfl _ _ rfl rfl rfl l ?_);go_ret;exact⟨k,m,rfl,f,s,f.2.cz⟩
theorem T7{x y:Dp}(a:x.uz=y.uz)(h1:x.bD=y.bD):x=y:=by
 cases x;cases y;simp_all
theorem Ee(A B:OA)(n m c d:Nat)(p q:List Dp)(w:Wd)(h:KM w A n p)(g:KM w B m q)(hn:n<=maxLen)(F:m<=maxLen):
 Cs prog 234 #[.slice A n c,.slice B m d] w (mS (decide (p=q):Bool) w):=by
 unfold maxLen at hn F;have E:=h.cb;have D:=g.cb;subst E D;by_cases b:p.length=q.length
 ·have K:((p.length:Int) !=(q.length:Int))=false:=by simp[b]
  have G:(p.length !=q.length)=false:=by simp[b]
  have M:=ah b;have V:p.length<=q.length:=by omega
  have U:q.length<=p.length:=by omega
  clear b;go_in;go_wp2
  go_loopw [13] (fun i wr=>∃k d:Nat,k<=p.length/\i=.int .i64 k/\p.take k=q.take k/\wr=w.drewN d) (fun i _=>p.length-(intOf i).toNat)
  case atStart=>exact⟨0,0,by omega,rfl,by simp,rfl⟩
  case round=>
   obtain⟨j,dd,R,rfl,u,rfl⟩:=hrel;have t:=ah u;clear u;by_cases J:j<p.length
   ·obtain⟨b1,S,x,rfl,_,hx,N,O⟩:=Bj h J;obtain⟨b2,T,y,rfl,_,s,P,Q⟩:=Bj g (show j<q.length by omega);have o:=ah hx;have r:=ah s
    have f:Hid (x≠y->decide (p=q)=false):=by
     show _->_;intro H;rw[dS];intro e;rw[e,r.out]at o;have:=o.out;injection this with this
     exact H this.symm
    clear hx s h g;by_cases a:x.uz=y.uz
    case neg=>
     have e0:(x.uz !=y.uz)=true:=by simpa using a
     have L:(x.uz==y.uz)=false:=by simpa using a
     have l:=ah (f (fun e=>a (by rw[e])));clear a;go_wp2_with fail;go_quiet (fail);go_wp2;go_ret;exact⟨ar l.symm,_,World.drewN_drewN _ _ _⟩
    have e0:(x.uz !=y.uz)=false:=by simp[a]
    have L:(x.uz==y.uz)=true:=by simp[a]
    by_cases h1:x.bD=y.bD
    case neg=>
     have C:(x.bD !=y.bD)=true:=by simpa using h1
     have I:(x.bD==y.bD)=false:=by simpa using h1
     have l:=ah (f (fun e=>h1 (by rw[e])));clear a h1;go_wp2_with fail;go_quiet (fail);go_wp2;go_ret;exact⟨ar l.symm,_,World.drewN_drewN _ _ _⟩
    have C:(x.bD !=y.bD)=false:=by simp[h1]
    have I:(x.bD==y.bD)=true:=by simp[h1]
    have z:Hid (p.take (j+1)=q.take (j+1)):=by
     show _=_;rw[aM o.out,aM r.out,t.out,T7 a h1]
    clear a h1;go_wp2_with fail;go_quiet (fail);go_wp2_with fail;exact⟨⟨j+1,_,by omega,by go_num,z,rfl⟩,by simp[intOf];omega⟩
   ·have v:Hid (decide (p=q)=true):=by
     show _=_;rw[iM];have:=t.out
     rwa [fG (by omega),fG (by omega)]at this
    go_wp2;go_ret;exact⟨ar v.symm,_,rfl⟩
 ·have K:((p.length:Int) !=(q.length:Int))=true:=by rw[oQ];omega
  have G:(p.length !=q.length)=true:=by rw[oQ];omega
  have f:Hid (decide (p=q)=false):=by
   show _=_;rw[dS];intro e;exact b (by rw[e])
  clear b;go_in;go_wp2;go_ret;exact⟨ar f.symm,0,rfl⟩
def Ta(d:Dp):Bool:=jC d.uz 1 3&&By d.bD
theorem Ja(l:List Dp):AB l=(l.all Ta&&decide (l.Pairwise (fun a b=>a.bD≠b.bD))&&decide (l.length<=4)):=by
 have:(fun d:Dp=>decide (1<=d.uz)&&decide (d.uz<=3)&&By d.bD)=Ta:=rfl;rw[AB,this]
theorem KI{l:List Dp}{a:Dp}(h:l[k]?=some a):(l.take (k+1)).Pairwise (fun a b=>a.bD≠b.bD)↔(l.take k).Pairwise (fun a b=>a.bD≠b.bD)/\∀b∈l.take k,b.bD≠a.bD:=by
 rw[List.take_add_one,h,Option.toList_some,fA];simp
theorem NZ:∀args w,(callFunc 332 args).run prog w=.ok (.enter 332 args) w:=enters_of func332 (by kernel_rfl) rfl
theorem KH(a:Dp)(b:Nat)(d:Wd)(h:ai d b 142 (UW a)):Cr 332 b (fun x=>x.bD==a.bD) d:=by
 intro x W c;obtain⟨g,i⟩:=QT (h.ae c h.lt);obtain⟨e,f⟩:=QT ((h.ae c h.lt).alloc (.cells #[x.uz,x.bD] 142));have j:=(h.ae c h.lt).lt;go_in;go_wp2;go_ret;exact⟨rfl,bR.alloc lr _⟩
def DeRel(w:Wd)(l:List Dp)(i:Vl)(wr:Wd):Prop:=∃k:Nat,k<=l.length/\i=.int .i64 k/\(l.take k).Pairwise (fun a b=>a.bD≠b.bD)/\(∀x∈l.take k,Ta x=true)/\Bl w w wr
theorem N0(A:OA)(n c:Nat)(l:List Dp)(w:Wd)(h:KM w A n l)(hn:n<=1000)(Y:n<=c):
 Cs prog 232 #[.slice A n c] w (an (AB l:Bool) w):=by
 have H:=h.cb;subst H;have p:=ah h;clear h;go_in;go_wp2
 go_loopw [8] (fun i wr=>DeRel w l i wr) (fun i _=>l.length-(intOf i).toNat)
 case atStart=>exact⟨0,by omega,rfl,by simp,by simp,cC _ _⟩
 case round=>
  obtain⟨k,E,rfl,g,j,m⟩:=hrel;by_cases J:k<l.length
  ·obtain⟨b,off,s,rfl,O,hs,M,N⟩:=Bj (p.ae m) J;obtain⟨V,q,D,r⟩:=az wr (UW s) 142;have o:=aa m D;have z:=ah (vS 332 wr (fun x=>x.bD==s.bD) NZ (some ⟨b,off,none⟩) k c (l.take k) V (KH s wr V r) (((p.ae o).pre k E)) (by simp[maxLen];omega));have I:=ah g;have K:=ah j;have y:=ah (KI hs);have C:=ah hs;have X:(k:Int)<(l.length:Int):=by omega
   have U:(k:Int)<=(c:Int):=by omega
   have T:k<=c:=by omega
   have v:=ah (fun W=>jo s.uz 1 3 W);have t:=ah (fun W=>Q4 s.bD W);have u:=ah r
   have L:Hid (((l.take k).any (fun x=>x.bD==s.bD)=true\/Ta s=false)->AB l=false):=by
    show _->_;intro G;rw[Ja];rcases G with d|d
    ·have:decide (l.Pairwise (fun a b=>a.bD≠b.bD))=false:=by
      rw[dS];intro F;obtain⟨x,hx,e⟩:=iZ.1 d;exact(y.1 (F.sublist (nX _ _))).2 x hx (iC.1 e)
     rw[this];simp
    ·have:l.all Ta=false:=by
      rw[nZ];exact⟨s,cG hs,by simp[d]⟩
     rw[this];simp
   clear hs g j;cases d:(l.take k).any (fun x=>x.bD==s.bD)<;>cases h1:jC s.uz 1 3<;>cases h2:By s.bD
   all_goals
    rw[d]at z;rw[h1]at v;rw[h2]at t;have f:=ah (And.intro d (And.intro h1 h2));clear d h1 h2;go_wp2_with fail;rw[<-q];clear q;refine av z fun Q b2=> ?_;obtain⟨R,S⟩:=QT (u.ae b2 u.lt);go_wp2_with fail;refine(v _).mono ?_;rintro e w' ⟨rfl,rfl⟩;go_wp2_with fail
    try
     refine(t _).mono ?_;rintro e w' ⟨rfl,rfl⟩;go_wp2_with fail
   case roundEnd=>
    exact⟨⟨k+1,by omega,by go_num,y.2 ⟨I,fun x hx e=>by
     have:=f.1;rw[iF]at this;exact this x hx (by simp[e])⟩,eP (P:=fun x=>Ta x=true) K C (by simp[Ta,f.out.2.1,f.out.2.2]),aa o b2⟩,by simp[intOf];omega⟩
   all_goals
    go_ret;exact⟨ar (L (by simp[Ta,f.out.1,f.out.2.1,f.out.2.2])).symm,aa o b2⟩
  ·obtain rfl:k=l.length:=by omega
   have B:Hid (AB l=decide (l.length<=4)):=by
    show _=_;rw[cT]at g j;rw[Ja,dC.2 j,decide_eq_true g];simp
   clear g j;go_wp2;go_ret;exact⟨ar (by rw[B.out];exact iD.2 (by omega)),m⟩
set_option maxRecDepth 512
open Go renaming TypeId->Ti
variable{g:Nat}{t:Ti}{cs:Array Vl}
theorem ai.row(h:ai w g t cs)(cells:Array Vl):ai (w.setRow g cells) g t cells:=setRow_heap w g cs cells t (0,0) h
theorem setRow_other(w:Wd)(k:Nat)(cells:Array Vl)(g:Nat)(a:g≠k):(w.setRow k cells).heap[g]?=w.heap[g]?:=by
 simp[World.setRow,oP,sC a]
theorem setRow_size(w:Wd)(k:Nat)(cells:Array Vl):(w.setRow k cells).heap.size=w.heap.size:=by simp[World.setRow]
theorem ai.gu(h:ai w g t cs)(a:g≠k)(cells:Array Vl):ai (w.setRow k cells) g t cs:=(setRow_other w k cells g a).trans h
theorem aH{B:Nat}{a:Wd}(h:Bl B a w)(c:B<=g)(cells:Array Vl):Bl B a (w.setRow g cells):=
 ⟨h.os,h.tape,h.output,by rw[setRow_size];exact h.size,fun k b=>(setRow_other w g cells k (by omega)).trans (h.block k b)⟩
variable {P : Program}
variable{c:Array Oper}{rest:List Oper}{o:Oper}{a:Act}{Q:Exit->Act->Wd->Prop}{d:TypeDesc}
theorem cr(j:o.guard=none)(b:Ti)(x:Operand)(f:o.op=.load b x)
 (e:ai w g t cs)(hx:a.eval x=.pointer g)
 (i:P.underlying b=some d)(k:d.isRow=true)(hi:(P.info? b).map (·.size)=some n)(hn:cs.size=n)
 (h:wpList P c Q rest (a.put o.dst (.agg cs)) w):wpList P c Q (o::rest) a w:=
 wpList_load_row j b x f g hx t cs (0,0) d e i (by cases d<;>simp_all) (by rw[hi,hn]) h
variable{cells:Array Vl}
theorem dp(j:o.guard=none)(b:Ti)(x y:Operand)(e:o.op=.store b x y)
 {old:Array Vl}(d:ai w g t old)(hx:a.eval x=.pointer g)(f:a.eval y=.agg cells)
 (hi:(P.info? b).map (·.size)=some n)(hn:cells.size=n)(i:old.size=n)(h1:cells.toList.all (·.oneCell')=true)
 (h:wpList P c Q rest (a.put o.dst undef) (w.setRow g cells)):wpList P c Q (o::rest) a w:=
 wpList_store_row j b x y e g cells hx f t old d (by rw[hi,hn]) (by rw[i,hn]) (by simpa using h1) h
variable{b:Ti}{x:Operand}
theorem wl(i:o.guard=none)(f:o.op=.load b x)(e:ai w g t cs)(hx:a.eval x=.pointer g)(T:P.underlying b=some d/\d.isRow=true/\(P.info? b).map (·.size)=some n)(hn:cs.size=n)(h:wpList P c Q rest (a.put o.dst (.agg cs)) w):wpList P c Q (o::rest) a w:=cr i b x f e hx T.1 T.2.1 T.2.2 hn h
theorem ws{y:Operand}(j:o.guard=none)(e:o.op=.store b x y){old:Array Vl}(d:ai w g t old)(hx:a.eval x=.pointer g)(f:a.eval y=.agg cells)(hi:(P.info? b).map (·.size)=some n)(hn:cells.size=n)(i:old.size=n)(h1:cells.toList.all (·.oneCell')=true)(h:wpList P c Q rest (a.put o.dst undef) (w.setRow g cells)):wpList P c Q (o::rest) a w:=dp j b x y e d hx f hi hn i h1 h
theorem wA(f:ai w g t cs)(T:P.underlying b=some d/\d.isRow=true/\(P.info? b).map (·.size)=some n)(e:(o.guard,o.op,a.eval x,cs.size)=(none,.load b x,.pointer (some ⟨g,0,none⟩),n))(h:wpList P c Q rest (a.put o.dst (.agg cs)) w):wpList P c Q (o::rest) a w:=by
 simp only[Prod.mk.injEq]at e;exact wl e.1 e.2.1 f e.2.2.1 T e.2.2.2 h
theorem wB{y:Operand}{old:Array Vl}(d:ai w g t old)(hi:(P.info? b).map (·.size)=some n)(e:(o.guard,o.op,a.eval x,a.eval y,cells.size,old.size,cells.toList.all (·.oneCell'))=(none,.store b x y,.pointer (some ⟨g,0,none⟩),.agg cells,n,n,true))(h:wpList P c Q rest (a.put o.dst undef) (w.setRow g cells)):wpList P c Q (o::rest) a w:=by
 simp only[Prod.mk.injEq]at e;exact ws e.1 e.2.1 d e.2.2.1 e.2.2.2.1 hi e.2.2.2.2.1 e.2.2.2.2.2.1 e.2.2.2.2.2.2 h
theorem pk{e:Ti}(a:P.underlying e=some d)(b:d.isRow=true)(c:(P.info? e).map (·.size)=some n):P.underlying e=some d/\d.isRow=true/\(P.info? e).map (·.size)=some n:=⟨a,b,c⟩
theorem j6{c:Func}{R:Ed->Wd->Prop}{p:Tmp}(h:c.results= #[.cell p b])(e:ai w g t cs)
 (f:a.tmps.getD p undef=.pointer g)(i:P.underlying b=some d)(k:d.isRow=true)(hi:(P.info? b).map (·.size)=some n)(hn:cs.size=n)
 (j:a.defers=[])(hR:R (.returned (.agg cs)) w):bodyPost P c R .ret a w:=
 bodyPost_ret (results_cell_row h a.tmps w g t cs (0,0) d f e i (by cases d<;>simp_all) (by rw[hi,hn])) j hR
theorem aD{o:Obj}{c:Array Vl}:Bl w w ((w.alloc o).setRow w c):=aH aA lr _
set_option maxRecDepth 100000
structure Cq where
 nm:ByteArray
 us:ByteArray
 ac:ByteArray
 sh:Sh
 A:OA
 n:Nat
 c:Nat
 pr:Int
 hp:Bool
 af:List Dp
 F:OA
 m:Nat
 d:Nat
abbrev qW(q:Cq):Array Vl:= #[(1:Int),(),.string q.nm,.string q.us,.string q.ac,q.sh.kd,.slice q.A q.n q.c,q.sh.mn,q.sh.mx,q.sh.wl,q.pr,q.hp,(),false,.slice q.F q.m q.d,(),(),()]
structure Aq(w:Wd)(q:Cq):Prop where
 sh:th w q.A q.n q.c q.sh
 af:KM w q.F q.m q.af
 cf:q.m<=1000
 le:q.m<=q.d
 cz:q.F=none->q.d=0
 nm:q.nm.size<=1000000
 us:q.us.size<=1000000
 ac:q.ac.size<=1000000
 pz:q.hp=false->q.pr=0
variable{w':Wd}
theorem Aq.ae{q:Cq}(h:Aq w q)(a:Bl w w w'):Aq w' q:=⟨h.sh.ae a,h.af.ae a,h.cf,h.le,h.cz,h.nm,h.us,h.ac,h.pz⟩
theorem tw{a b c d e f i j k l m p s o r q n u:Vl}(h:ai w g t #[a,b,c,d,e,f,i,j,k,l,m,p,s,o,r,q,n,u]):
 w.cell? g=some a/\w.cell? ⟨g,1,none⟩=some b/\w.cell? ⟨g,2,none⟩=some c/\w.cell? ⟨g,3,none⟩=some d/\w.cell? ⟨g,4,none⟩=some e/\w.cell? ⟨g,5,none⟩=some f/\w.cell? ⟨g,6,none⟩=some i/\w.cell? ⟨g,7,none⟩=some j/\w.cell? ⟨g,8,none⟩=some k/\w.cell? ⟨g,9,none⟩=some l/\w.cell? ⟨g,10,none⟩=some m/\w.cell? ⟨g,11,none⟩=some p/\w.cell? ⟨g,12,none⟩=some s/\w.cell? ⟨g,13,none⟩=some o/\w.cell? ⟨g,14,none⟩=some r/\w.cell? ⟨g,15,none⟩=some q/\w.cell? ⟨g,16,none⟩=some n/\w.cell? ⟨g,17,none⟩=some u:=
 ⟨h.cell 0,h.cell 1,h.cell 2,h.cell 3,h.cell 4,h.cell 5,h.cell 6,h.cell 7,h.cell 8,h.cell 9,h.cell 10,h.cell 11,h.cell 12,h.cell 13,h.cell 14,h.cell 15,h.cell 16,h.cell 17⟩
abbrev wT:Array Vl:= #[(),(),.string ⟨#[]⟩,.string ⟨#[]⟩,.string ⟨#[]⟩,(),.slice none 0 0,(),(),(),(),false,(),false,.slice none 0 0,(),(),()]
theorem fi:(prog.info? 95).map (·.size)=some 18:=by kernel_rfl
abbrev t95:=pk underlying95 rfl fi
theorem Nl(q:Cq)(w:Wd):Cs prog 140 #[.agg (qW q)] w (an (.agg (qW q)) w):=by
 obtain⟨V,a⟩:=nm ((w.alloc (.cells (qW q) 95)).alloc (.cells wT 95));have d:Bl w w V:=a▸aC;have b:ai V w 95 (qW q):=a▸(ai.new _ _ _).alloc _;have e:ai V (w+1) 95 wT:=by rw[a];have:=ai.new (w.alloc (.cells (qW q) 95)) 95 wT;simpa using this
 have hs:Hid (w.heap.size+1+1=V):=by show _=_;rw[a];simp
 have c:=ah e;have f:=ah d;go_in;go_wp2_with fail;rw[<-a,hs.out];clear a e d;obtain⟨g,h,i,j,k,l,m,n,o,p,r,x,y,v,t,u,z,s⟩:=tw b;have B:=b.lt;have C:w.heap.size≠V:=by omega
 have A:V.heap.size≠w:=by omega
 clear b;go_region;go_wp2_with fail;go_region;clear g h i j k l m n o p r x y v t u z s
 go_wp2_with(first
  |refine cr rfl _ _ rfl (ai.drew (ai.drew (ai.new V _ _))) rfl underlying95 rfl fi rfl ?_
  |refine dp rfl _ _ _ rfl (ai.drew (ai.drew (ai.alloc c _))) rfl rfl fi rfl rfl rfl ?_)
 refine j6 (cs:=qW q) rfl (ai.row (ai.drew (ai.drew (ai.alloc c _))) _) rfl underlying95 rfl fi rfl rfl ⟨rfl,?_⟩;exact aH ((f.alloc (by have:=hs.out;omega) _).drew.drew) (by omega) _
open Go renaming Program->Pg
theorem KC(q:Cq)(w:Wd)(h:Aq w q):Cs prog 139 #[.agg (qW q),.agg (qW q)] w (an true w):=by
 obtain⟨V,a⟩:=nm ((w.alloc (.cells (qW q) 95)).alloc (.cells (qW q) 95));have g:Bl w w V:=by rw[a];exact aC
 have l:ai V w 95 (qW q):=by rw[a];exact(ai.new _ _ _).alloc _
 have o:ai V (w+1) 95 (qW q):=by rw[a];have:=ai.new (w.alloc (.cells (qW q) 95)) 95 (qW q);simpa using this
 have j:=ah (PM q.A q.A q.n q.n q.c q.c q.sh q.sh V (h.sh.ae g) (h.sh.ae g));have i:=ah (fun W (k:Bl w w W)=>Ee q.F q.F q.m q.m q.d q.d q.af q.af W (h.af.ae k) (h.af.ae k) (by have:=h.cf;simp[maxLen];omega) (by have:=h.cf;simp[maxLen];omega));simp only[decide_true]at j i;have f:=ah l;have b:=ah o;clear h l o;go_in;go_wp2_with fail;rw[<-a];clear a;refine j.out.mono ?_;rintro e w1 ⟨rfl,b1⟩;have yT:=aa g b1;obtain⟨p,r,s,t,u,v,x,y,z,B,O,yP,Q,Z,X,P,yU,T⟩:=tw (f.ae b1 f.lt);obtain⟨C,D,E,G,H,I,J,K,L,M,yR,Y,R,yO,yQ,yS,U,S⟩:=tw (b.ae b1 b.lt);go_wp2_with fail;refine((i _ yT).mono fun e w h=>mS.ae h).mono ?_;rintro e w2 ⟨rfl,b2⟩;clear p r s t u v x y z B O yP Q Z X P yU T C D E G H I J K L M yR Y R yO yQ yS U S;have N:=aa b1 b2;obtain⟨p,r,s,t,u,v,x,y,z,B,O,yP,Q,Z,X,P,yU,T⟩:=tw (f.ae N f.lt);obtain⟨C,D,E,G,H,I,J,K,L,M,yR,Y,R,yO,yQ,yS,U,S⟩:=tw (b.ae N b.lt);go_wp2;go_ret;exact⟨rfl,aa yT b2⟩
def Eo(q:Cq):Bool:=jC q.pr 0 100&&jv q.nm&&jv q.us&&jv q.ac&&ki q.us&&ki q.ac&&AB q.af&&bQ q.sh
theorem Oj(q:Cq)(w:Wd)(h:Aq w q):Cs prog 138 #[.agg (qW q)] w (an (.bool (Eo q)) w):=by
 obtain⟨V,I⟩:∃V,V=w.alloc (.cells (qW q) 95):=⟨_,rfl⟩;have G:Bl w.heap.size w V:=by rw[I];exact aA
 have J:ai V w.heap.size 95 (qW q):=by rw[I];exact ai.new _ _ _
 have g:=ah J;have L:=h.pz;have Q:=ah (fun W (_:Bl V.heap.size V W)=>(jo q.pr 0 100 W).mono fun e w' (h:_/\_)=>(⟨h.1,h.2▸cC _ _⟩:an _ W e w'));have X:=ah (fun W (_:Bl V.heap.size V W)=>mY q.nm W h.nm);have T:=ah (fun W (_:Bl V.heap.size V W)=>mY q.us W h.us);have S:=ah (fun W (_:Bl V.heap.size V W)=>mY q.ac W h.ac);have Y:=ah (fun W (_:Bl V.heap.size V W)=>Bg q.us W h.us);have R:=ah (fun W (_:Bl V.heap.size V W)=>Bg q.ac W h.ac);have U:=ah (fun W (b:Bl V.heap.size V W)=>N0 q.F q.m q.d q.af W (h.af.ae (aa G b)) h.cf h.le);have M:=ah (fun W (b:Bl V.heap.size V W)=>jK q.A q.n q.c q.sh W (h.sh.ae (aa G b)));have O:Hid (gE q.sh=if bQ q.sh then 0 else 70):=rfl;rw[O.out]at M;have a:=ah (cC V.heap.size V);obtain⟨i,j,k,l,o,p,r,s,t,u,v,D,y,C,B,x,E,z⟩:=tw J;clear h J;go_enter func138,ntmps138;cases hh:q.hp
 all_goals
  try
   have P:=L hh;have K:Hid (jC q.pr 0 100=true):=by show _=_;rw[P];rfl
  clear L;go_wp2_with(rw[<-I];clear I)
  try
   with_reducible refine(Q.out _ a.out).mono ?_
   rintro e w' ⟨rfl,f⟩;clear i j k l o p r s t u v D y C B x E z;replace a:=ah (aa a.out f);obtain⟨i,j,k,l,o,p,r,s,t,u,v,D,y,C,B,x,E,z⟩:=tw (g.out.ae a.out g.out.lt);cases b:jC q.pr 0 100
   ·go_wp2_with fail;go_ret;exact⟨ar (by simp[Eo,b]),aa G a.out⟩
   have K:=ah b;clear b f;go_wp2_with fail
  have H:Hid (Eo q=(jv q.nm&&jv q.us&&jv q.ac&&ki q.us&&ki q.ac&&AB q.af&&bQ q.sh)):=by show _=_;simp[Eo,K.out]
  iterate 6
   first
    |(with_reducible refine(X.out _ a.out).mono ?_;cases b:jv q.nm)
    |(with_reducible refine(T.out _ a.out).mono ?_;cases b:jv q.us)
    |(with_reducible refine(S.out _ a.out).mono ?_;cases b:jv q.ac)
    |(with_reducible refine(Y.out _ a.out).mono ?_;cases b:ki q.us)
    |(with_reducible refine(R.out _ a.out).mono ?_;cases b:ki q.ac)
    |(with_reducible refine(U.out _ a.out).mono ?_;cases b:AB q.af)
   all_goals
    rintro e w' ⟨rfl,f⟩;clear i j k l o p r s t u v D y C B x E z;replace a:=ah (aa a.out f);clear f;obtain⟨i,j,k,l,o,p,r,s,t,u,v,D,y,C,B,x,E,z⟩:=tw (g.out.ae a.out g.out.lt);rw[b]at H;clear b;go_wp2_with fail
   ·go_ret;exact⟨ar (by rw[H.out];simp),aa G a.out⟩
  refine(M.out _ a.out).mono ?_;rintro e w' ⟨rfl,f⟩;have N:=ah (aa a.out f);clear i j k l o p r s t u v D y C B x E z f;obtain⟨i,j,k,l,o,p,r,s,t,u,v,D,y,C,B,x,E,z⟩:=tw (g.out.ae N.out g.out.lt);cases hs:bQ q.sh
  all_goals
   rw[hs]at H;clear hs;go_wp2_with fail;go_ret;exact⟨ar H.out.symm,aa G N.out⟩
theorem D9{P:Pg}{C:Wd->Prop}{Q:Act->Prop}(hw:Region.wanted o (yielded c a.tmps)=true)(b:Ti)(x:Operand)(f:o.op=.load b x)
 (hC:∀w,C w->ai w g t cs)(hx:a.eval x=.pointer g)
 (i:P.underlying b=some d)(k:d.isRow=true)(hi:(P.info? b).map (·.size)=some n)(hn:cs.size=n)(h:WQ P c C Q rest (a.put o.dst (.agg cs))):WQ P c C Q (o::rest) a:=
 GH _ hw (fun w j=>by
  unfold execOp;have e:=rI (P:=P) w g t b cs (0,0) d (hC w j) i (by cases d<;>simp_all) (by rw[hi,hn]);simp[f,hx,Instr.loadAt,Instr.sureAddr,nU,e]) h
def QY(q:Cq):Bool:=decide (q.n<=6)&&decide (q.m<=4)&&Eo q
def xG(q:Cq):Int:=if QY q then 0 else 80
def SP(nm d a:ByteArray)(sh:Sh)(c:Int)(b:List Dp):Int:=if Dv nm d a sh c b then 0 else 80
theorem Ny{q:Cq}(h:Aq w q):QY q=Dv q.nm q.us q.ac q.sh q.pr q.af:=by
 have h1:=h.sh.st.cb;have h2:=h.af.cb;simp only[QY,Eo,Dv,jC,h1,h2];cases decide (q.n<=6)<;>cases decide (q.m<=4)<;>cases decide (0<=q.pr)<;>cases decide (q.pr<=100)<;>simp
theorem sJ(q:Cq)(w:Wd)(h:Aq w q):Cs prog 78 #[.agg (qW q)] w (an (xG q:Int) w):=by
 obtain⟨V,v,l,g⟩:=az w (qW q) 95;have I:Hid (∀w',Bl V V w'->w'.cell? ⟨w,6,none⟩=some (.slice q.A q.n q.c)/\w'.cell? ⟨w,14,none⟩=some (.slice q.F q.m q.d)):=fun w' a=>⟨(g.ae a g.lt).cell 6,(g.ae a g.lt).cell 14⟩;have K:Hid (∀w',Bl V V w'->ai w' w 95 (qW q)):=fun w' a=>g.ae a g.lt;have t:=ah (fun W (a:Bl V V W)=>Oj q W (h.ae (aa l a)));have y:=ah (fun W (_:Bl V V W)=>Nl q W);have J:=ah (fun W (a:Bl V V W)=>KC q W (h.ae (aa l a)));have u:Hid (QY q=(decide (q.n<=6)&&decide (q.m<=4)&&Eo q)):=rfl;obtain⟨f,r⟩:∃p,decide ((6:Int)<(q.n:Int))=p:=⟨_,rfl⟩;obtain⟨i,o⟩:∃p,decide ((4:Int)<(q.m:Int))=p:=⟨_,rfl⟩;obtain⟨k,s⟩:∃p,Eo q=p:=⟨_,rfl⟩
 have z:Hid (xG q=if f||i|| !k then 80 else 0):=by
  show _=_;have C:decide (q.n<=6)= !f:=by rw[<-r,<-nL];exact iD.2 (by omega)
  have B:decide (q.m<=4)= !i:=by rw[<-o,<-nL];exact iD.2 (by omega)
  rw[xG,u.out,C,B,s];cases f<;>cases i<;>cases k<;>rfl
 rw[s]at t;have G:=ah r;have E:=ah o;clear h g r o s u;have H:f=true\/(f=false/\i=true)\/(f=false/\i=false/\k=false)\/(f=false/\i=false/\k=true):=by cases f<;>cases i<;>cases k<;>simp
 rcases H with rfl|⟨rfl,rfl⟩|⟨rfl,rfl,rfl⟩|⟨rfl,rfl,rfl⟩
 all_goals
  go_in;go_wp2_with fail;rw[<-v];clear v;refine wq bR.drew (by kernel_rfl) (by kernel_rfl) ?_
  repeat((first
   |refine bF rfl ?_
   |(refine D9 ?_ _ _ rfl K rfl underlying95 rfl fi rfl ?_
     ·rfl)
   |(refine ee 138 #[.agg (qW q)] _ ?_ (fun w'=> ?_) (fun w' b=>(t w' b).mono fun e x ⟨j,a⟩=>⟨j,aa b a⟩) ?_
     ·rfl
     ·simp[go_sem])
   |(refine ee 140 #[.agg (qW q)] (.agg (qW q)) ?_ (fun w'=> ?_) (fun w' b=>(y w' b).mono fun e x ⟨j,a⟩=>⟨j,aa b a⟩) ?_
     ·rfl
     ·simp[go_sem])
   |(refine ee 139 #[.agg (qW q),.agg (qW q)] true ?_ (fun w'=> ?_) (fun w' b=>(J w' b).mono fun e x ⟨j,a⟩=>⟨j,aa b a⟩) ?_
     ·rfl
     ·simp[go_sem])
   |(refine cw rfl ⟨?_,fun w' b=> ?_,?_⟩
     rotate_left
     ·obtain⟨D,L⟩:=I w' b;simp[go_sem,D,L,G.out,E.out]
      try rfl));simp only[aP])
  refine bM ?_;intro M b1;go_wp2;go_ret;exact⟨ax (by rw[z.out];rfl),aa l b1⟩
theorem Gz(q:Cq)(w:Wd)(h:Aq w q):Cs prog 78 #[.agg (qW q)] w (an (SP q.nm q.us q.ac q.sh q.pr q.af:Int) w):=by
 have a:SP q.nm q.us q.ac q.sh q.pr q.af=xG q:=by rw[SP,xG,Ny h]
 rw[a];exact sJ q w h
structure Jr where
 j:Jb
 A:OA
 n:Nat
 c:Nat
 F:OA
 m:Nat
 d:Nat
abbrev bk(r:Jr):Array Vl:= #[r.j.id,.string r.j.nm,.string r.j.us,.string r.j.ac,r.j.sh.kd,.slice r.A r.n r.c,r.j.sh.mn,r.j.sh.mx,r.j.sh.wl,r.j.pr,.slice r.F r.m r.d,r.j.st,r.j.hd,r.j.bo,r.j.pm,r.j.ch,r.j.sa,r.j.li,.int .u64 (r.j.nd:Int),r.j.ud]
structure eF(w:Wd)(r:Jr):Prop where
 sh:th w r.A r.n r.c r.j.sh
 af:KM w r.F r.m r.j.af
 cf:r.m<=1000
 le:r.m<=r.d
 cz:r.F=none->r.d=0
 nm:r.j.nm.size<=1000000
 us:r.j.us.size<=1000000
 ac:r.j.ac.size<=1000000
 nd:r.j.nd<2^64
theorem eF.ae{r:Jr}(h:eF w r)(a:Bl w w w'):eF w' r:=⟨h.sh.ae a,h.af.ae a,h.cf,h.le,h.cz,h.nm,h.us,h.ac,h.nd⟩
abbrev Mb(r:Jr):Cq:=⟨r.j.nm,r.j.us,r.j.ac,r.j.sh,r.A,r.n,r.c,r.j.pr,true,r.j.af,r.F,r.m,r.d⟩
theorem eF.sub{r:Jr}(h:eF w r):Aq w (Mb r):=⟨h.sh,h.af,h.cf,h.le,h.cz,h.nm,h.us,h.ac,fun e=>by cases e⟩
theorem xD{a b c d e f i j k l m r x o u s p v q n:Vl}(h:ai w g t #[a,b,c,d,e,f,i,j,k,l,m,r,x,o,u,s,p,v,q,n]):
 w.cell? g=some a/\w.cell? ⟨g,1,none⟩=some b/\w.cell? ⟨g,2,none⟩=some c/\w.cell? ⟨g,3,none⟩=some d/\w.cell? ⟨g,4,none⟩=some e/\w.cell? ⟨g,5,none⟩=some f/\w.cell? ⟨g,6,none⟩=some i/\w.cell? ⟨g,7,none⟩=some j/\w.cell? ⟨g,8,none⟩=some k/\w.cell? ⟨g,9,none⟩=some l/\w.cell? ⟨g,10,none⟩=some m/\w.cell? ⟨g,11,none⟩=some r/\w.cell? ⟨g,12,none⟩=some x/\w.cell? ⟨g,13,none⟩=some o/\w.cell? ⟨g,14,none⟩=some u/\w.cell? ⟨g,15,none⟩=some s/\w.cell? ⟨g,16,none⟩=some p/\w.cell? ⟨g,17,none⟩=some v/\w.cell? ⟨g,18,none⟩=some q/\w.cell? ⟨g,19,none⟩=some n:=
 ⟨h.cell 0,h.cell 1,h.cell 2,h.cell 3,h.cell 4,h.cell 5,h.cell 6,h.cell 7,h.cell 8,h.cell 9,h.cell 10,h.cell 11,h.cell 12,h.cell 13,h.cell 14,h.cell 15,h.cell 16,h.cell 17,h.cell 18,h.cell 19⟩
theorem aK:(prog.info? 51).map (·.size)=some 20:=by kernel_rfl
abbrev t51:=pk underlying51 rfl aK
theorem IE:(prog.info? 285).map (·.size)=some 20:=by kernel_rfl
abbrev Iz:=pk underlying285 rfl IE
theorem gt(n:Int)(w:Wd):Cs prog 204 #[n] w fun e w'=>e=.returned (bZ n:Bool)/\w=w':=by
 have b:Hid (bZ n=(decide (0<=n)&&decide (n<=1000000))):=rfl;cases h1:decide (0<=n)
 ·have a:Hid (bZ n=false):=by show _=_;rw[b.out,h1];rfl
  go_in;go_wp2;go_ret;exact⟨ar a.symm,rfl⟩
 ·have a:Hid (bZ n=decide (n<=1000000)):=by show _=_;rw[b.out,h1];rfl
  go_in;go_wp2;go_ret;exact⟨ar a.symm,rfl⟩
theorem Br(n:Int)(w:Wd):Cs prog 210 #[n] w fun e w'=>e=.returned (pK n:Bool)/\w=w':=by
 have b:Hid (pK n=(decide (3<=n)&&decide (n<=7))):=rfl;cases h1:decide (3<=n)
 ·have a:Hid (pK n=false):=by show _=_;rw[b.out,h1];rfl
  go_in;go_wp2;go_ret;exact⟨ar a.symm,rfl⟩
 ·have a:Hid (pK n=decide (n<=7)):=by show _=_;rw[b.out,h1];rfl
  go_in;go_wp2;go_ret;exact⟨ar a.symm,rfl⟩
theorem Kb(w:Wd):Cs prog 344 #[(48:Int)] w fun e w'=>e=.returned (.int .u64 281474976710655)/\w=w':=by
 have H:=ah (Db 281474976710656 48 w (by omega) (by decide));go_in;go_wp2_with fail;refine aQ H ?_;go_wp2;go_ret;exact⟨rfl,rfl⟩
theorem BM(s:Nat)(w:Wd):Cs prog 308 #[.int .u64 (s:Int)] w fun e w'=>e=.returned (nw s:Bool)/\w=w':=by
 have a:=ah (Kb w)
 have c:Hid (nw s=(((eH s 281474976710655:Nat):Int)==0)):=by
  show _=_;have e:nw s=(eH s 281474976710655==0):=rfl;rw[e];cases hd:eH s 281474976710655<;>simp;omega
 have b:Hid (bits .andNot .u64 (s:Int) (281474976710655:Int)=((eH s 281474976710655:Nat):Int)):=jm s 281474976710655;go_in;go_wp2_with fail;refine aQ a ?_;go_wp2;go_ret;exact⟨ar (by rw[c.out,b.out]),rfl⟩
theorem zY(r:Jr)(w:Wd):Cs prog 205 #[.agg (bk r)] w (an (.agg (qW (Mb r))) w):=by
 obtain⟨V,a⟩:=nm ((w.alloc (.cells (bk r) 285)).alloc (.cells wT 95));have c:Bl w w V:=a▸aC;have d:ai V w 285 (bk r):=a▸(ai.new _ _ _).alloc _;have e:ai V (w+1) 95 wT:=by rw[a];have:=ai.new (w.alloc (.cells (bk r) 285)) 95 wT;simpa using this
 have b:=ah e;have f:=ah c;have g:=ah d;clear c d e;go_in;go_wp2_with(rw[<-a];clear a;obtain⟨h,i,j,k,l,m,n,o,p,q,s,y,B,x,u,v,C,t,A,z⟩:=xD g;refine wB b fi rfl ?_);refine j6 (cs:=qW (Mb r)) rfl (ai.row b _) rfl underlying95 rfl fi rfl rfl ⟨rfl,?_⟩;exact aH f (by omega) _
def Hu(o:Option Al):Vl:=.tuple #[.agg #[((o.map Al.nd).getD 0:Int),((o.map Al.wl).getD 0:Int)],o.isSome]
set_option maxRecDepth 512
abbrev AlX(x:Al):Array Vl:= #[x.nd,x.wl]
abbrev Mn:Array Vl:= #[(),()]
theorem Gn:(prog.info? 139).map (·.size)=some 2:=by kernel_rfl
theorem rr:Hu none=.tuple #[.agg Mn,false]:=rfl
theorem vh(a:Al):Hu (some a)=.tuple #[.agg (AlX a),true]:=rfl
theorem pp(r:Jr)(ch:Int)(w:Wd)(h:eF w r):Cs prog 307 #[.agg (bk r),ch] w (an (Hu (fw r.j.sh ch)) w):=by
 obtain⟨V,d⟩:=nm ((w.alloc (.cells (bk r) 285)).alloc (.cells Mn 139));have G:Bl w w V:=d▸aC;have q:ai V w 285 (bk r):=d▸(ai.new _ _ _).alloc _;have M:ai V (w+1) 139 Mn:=by rw[d];have:=ai.new (w.alloc (.cells (bk r) 285)) 139 Mn;simpa using this
 have o:=ah M;have F:=ah G;have x:=q.cell 4;have y:=q.cell 5;have z:=q.cell 6;have B:=q.cell 7;have C:=q.cell 8;simp at x y z B C;have E:=ah (fx r.A r.n r.c r.j.sh V (h.sh.ae G));have D:Hid (fw r.j.sh ch=if 0<=ch then(eO r.j.sh)[ch.toNat]? else none):=rfl;obtain⟨l,H⟩:=nm (eO r.j.sh);have T:Hid (l.length<=48):=by show _;rw[H];exact kY
 rw[<-H]at E D;clear h H G q M;by_cases u:ch<0
 ·have t:Hid (fw r.j.sh ch=none):=by show _=_;rw[D.out,cL (by omega)]
  have e0:decide (ch<0)=true:=by simpa using u
  rw[t.out,rr];go_in;go_wp2_with fail;rw[<-d];clear d x y z B C;refine E.out.mono ?_;rintro e K ⟨I,J,rfl,s,b2⟩;clear s;have k:=o.ae b2 o.lt;go_wp2_with(refine wB k Gn rfl ?_);have m:=ai.row k Mn;have f:=ai.cell m 0;have g:=ai.cell m 1;simp at f g;refine cU (v:=.tuple #[.agg Mn,false]) (by simp[results,results307,go_sem,f,g]) rfl ⟨rfl,?_⟩;exact aH (aa F b2) (by omega) _
 have e0:decide (ch<0)=false:=by simpa using u
 obtain⟨i,rfl⟩:∃i:Nat,ch=(i:Int):=⟨ch.toNat,by omega⟩;by_cases h1:l.length<=i
 ·have t:Hid (fw r.j.sh (i:Int)=none):=by show _=_;rw[D.out,cK (by omega),iA];exact dP h1
  have O:=dT ((l.length:Int)<=(i:Int)) (by omega);rw[t.out,rr];clear u;go_in;go_wp2_with fail;rw[<-d];clear d x y z B C;refine E.out.mono ?_;rintro e K ⟨I,J,rfl,s,b2⟩;clear s;have k:=o.ae b2 o.lt;go_wp2_with(refine wB k Gn rfl ?_);have m:=ai.row k Mn;have f:=ai.cell m 0;have g:=ai.cell m 1;simp at f g;refine cU (v:=.tuple #[.agg Mn,false]) (by simp[results,results307,go_sem,f,g]) rfl ⟨rfl,?_⟩;exact aH (aa F b2) (by omega) _
 have O:=dF ((l.length:Int)<=(i:Int)) (by omega);have W:¬(l.length:Int)<=(i:Int):=by omega
 have U:(i:Int)<(l.length:Int):=by omega
 have L:i<l.length:=by omega
 obtain⟨a,p⟩:∃a,l[i]?=some a:=⟨_,cE L⟩;have t:Hid (fw r.j.sh (i:Int)=some a):=by show _=_;rw[D.out,cK (by omega),iA,p]
 have N:=ah p;rw[t.out,vh];clear u p;go_in;go_wp2_with fail;rw[<-d];clear d x y z B C;refine E.out.mono ?_;rintro e K ⟨I,J,rfl,s,b2⟩;obtain⟨b,off,P,rfl,S,p,Q,R⟩:=cp.alt (s.et qk) L;rw[N.out]at p;cases p;clear s;have k:=o.ae b2 o.lt;go_wp2_with(refine wB k Gn rfl ?_);have m:=ai.row k (AlX a);have f:=ai.cell m 0;have g:=ai.cell m 1;simp at f g;refine cU (v:=.tuple #[.agg (AlX a),true]) (by simp[results,results307,go_sem,f,g]) rfl ⟨rfl,?_⟩;exact aH (aa F b2) (by omega) _
theorem Lw(r:Jr)(w:Wd):Cs prog 207 #[.agg (bk r)] w (an (zm r.j:Bool) w):=by
 obtain⟨V,f,d,a⟩:=az w (bk r) 285;have b:(r.j.nd==0)=((r.j.nd:Int)==0):=by cases r.j.nd<;>simp;omega
 have c:Hid (zm r.j=(((r.j.nd:Int)==0)&&bZ r.j.sa&&bZ r.j.li&&decide (-1<=r.j.pm)&&decide (r.j.pm<=1000000)&&decide (0<=r.j.ch)&&decide (r.j.ch<=48))):=by show _=_;rw[<-b];rfl
 obtain⟨g,h,i,k,l,m,n,o,p,q,s,y,B,x,u,v,C,t,A,z⟩:=xD a;subst f;clear a b;go_in;go_wp2_with fail
 iterate 2
  all_goals try(refine(gt _ _).mono ?_;rintro e w' ⟨rfl,rfl⟩;go_wp2_with fail)
 all_goals
  go_ret;exact⟨ar (by rw[c.out];simp[*]<;>omega),d⟩
theorem LG(r:Jr)(b:Bool)(a:(fw r.j.sh r.j.ch).isSome=b):jZ r.j=(r.j.sa==0&&r.j.li==0&&((r.j.nd:Int)==0)&&(r.j.pm== -1&&r.j.ch==0||bZ r.j.pm&&b&& !r.j.hd)):=by
 have c:(r.j.nd==0)=((r.j.nd:Int)==0):=by cases r.j.nd<;>simp;omega
 rw[jZ,a,c]
theorem H4(r:Jr)(w:Wd)(h:eF w r):Cs prog 208 #[.agg (bk r)] w (an (jZ r.j:Bool) w):=by
 obtain⟨V,i,g,d⟩:=az w (bk r) 285;have b:=ah (pp r r.j.ch V (h.ae g));have a:=ah d;have f:=ai.cell d 15;simp at f;clear h d;obtain⟨o,c⟩:∃o,fw r.j.sh r.j.ch=o:=⟨_,rfl⟩;have k:=ah (LG r _ (cO Option.isSome c));rw[c]at b;clear c;cases o
 all_goals
  simp only[rr,vh]at b;go_in;go_wp2_with(rw[<-i];clear i;refine wl rfl rfl a rfl Iz rfl ?_);refine av b fun l b1=> ?_;clear f;obtain⟨m,n,p,q,s,t,u,v,x,y,z,G,B,F,E,f,I,D,H,A⟩:=xD (a.ae b1 a.lt);have C:=cD a.lt b1.size;go_wp2_with fail
  all_goals try(refine(gt _ _).mono ?_;rintro e w' ⟨rfl,rfl⟩;go_wp2_with fail)
  all_goals
   go_ret;exact⟨ar (by rw[k.out];simp[*]<;>omega),(aa g b1).alloc (by omega) _⟩
set_option maxRecDepth 100000
theorem run_eq(r:Jr)(a:Al)(b:fw r.j.sh r.j.ch=some a):vm r.j=(!r.j.hd&&bZ r.j.sa&&bZ r.j.pm&&decide (r.j.sa<=r.j.pm)&&bZ r.j.li&&wrap64 (r.j.li-r.j.sa)==a.wl&&nw r.j.nd&&gg r.j.sh r.j.ch ((dw r.j.nd).length:Int)):=by
 simp only[vm,b];cases hs:bZ r.j.sa
 ·simp
 cases hl:bZ r.j.li
 ·simp
 have:wrap64 (r.j.li-r.j.sa)=r.j.li-r.j.sa:=by have:=ej.1 hs;have:=ej.1 hl;unfold wrap64;omega
 rw[this]
theorem PI(r:Jr)(a:fw r.j.sh r.j.ch=none):vm r.j=false:=by simp[vm,a]
theorem Fy(r:Jr)(w:Wd)(h:eF w r):Cs prog 209 #[.agg (bk r)] w (an (vm r.j:Bool) w):=by
 obtain⟨V,o,m,s⟩:=az w (bk r) 285;have yR:(r.j.nd==0)=((r.j.nd:Int)==0):=by cases r.j.nd<;>simp;omega
 have l:=ah (pp r r.j.ch V (h.ae m));have O:=ah (fun W=>BM r.j.nd W);have yV:=ah (fun W=>jn r.j.nd W h.nd);have yT:=ah (fun W (b:Bl w w W)=>Gq r.A r.n r.c r.j.sh r.j.ch ((dw r.j.nd).length:Int) W (h.sh.ae b));have f:=ah s;have i:=ai.cell s 15;simp at i;clear h yR s
 cases ho:fw r.j.sh r.j.ch with
 |none=>
  have U:Hid (vm r.j=false):=PI r ho;rw[ho,rr]at l;clear ho;go_in;go_wp2_with(rw[<-o];clear o;refine wA f Iz rfl ?_);refine av l fun p b1=> ?_;clear i;obtain⟨x,y,z,B,C,D,E,F,G,H,I,Q,K,P,N,i,T,M,S,J⟩:=xD (f.ae b1 f.lt);have yU:=cD f.lt b1.size;go_wp2;go_ret;exact⟨ar U.symm,(aa m b1).alloc (by omega) _⟩
 |some a=>
  have u:=ah (run_eq r a ho);rw[ho,vh]at l;clear ho;go_in;go_wp2_with(rw[<-o];clear o;refine wA f Iz rfl ?_);refine av l fun p b1=> ?_;clear i;obtain⟨x,y,z,B,C,D,E,F,G,H,I,Q,K,P,N,i,T,M,S,J⟩:=xD (f.ae b1 f.lt);have yU:=cD f.lt b1.size;go_wp2_with fail
  iterate 4
   all_goals try(go_ret;exact⟨ar (by rw[u.out];first|(simp[*]<;>omega)|simp_all),(aa m b1).alloc (by omega) _⟩;done)
   all_goals try(with_reducible refine(gt _ _).mono ?_;rintro e w' ⟨rfl,rfl⟩;go_wp2_with fail)
  have t:Hid (vm r.j=(nw r.j.nd&&gg r.j.sh r.j.ch ((dw r.j.nd).length:Int))):=by show _=_;rw[u.out];simp_all
  obtain⟨Z,q⟩:=nm (p.alloc (.cells (AlX a) 139));have v:Bl p p Z:=q▸aA;have L:=aa (aa m b1) v;have d:=(f.ae b1 f.lt).ae v (cD f.lt b1.size);have yP:Hid (∀w',Bl Z Z w'->w'.cell? ⟨w,4,none⟩=some (r.j.sh.kd:Vl)/\w'.cell? ⟨w,5,none⟩=some (.slice r.A r.n r.c)/\w'.cell? ⟨w,6,none⟩=some (r.j.sh.mn:Vl)/\w'.cell? ⟨w,7,none⟩=some (r.j.sh.mx:Vl)/\w'.cell? ⟨w,8,none⟩=some (r.j.sh.wl:Vl)/\w'.cell? ⟨w,15,none⟩=some (r.j.ch:Vl)/\w'.cell? ⟨w,18,none⟩=some (.int .u64 (r.j.nd:Int))):=fun w' b=>⟨(d.ae b d.lt).cell 4,(d.ae b d.lt).cell 5,(d.ae b d.lt).cell 6,(d.ae b d.lt).cell 7,(d.ae b d.lt).cell 8,(d.ae b d.lt).cell 15,(d.ae b d.lt).cell 18⟩;rw[<-q];clear q x y z B C D E F G H I Q K P N i T M S J;cases hn:nw r.j.nd
  all_goals
   rw[hn]at O t;clear hn;refine aw (fun w'=>Bl Z Z w') (by kernel_rfl) (by kernel_rfl) bR.drew ?_
   repeat(first
    |(refine bF ?_ ?_
      ·rfl
      simp only[aP])
    |(refine ee 308 #[.int .u64 (r.j.nd:Int)] _ ?_ (fun w'=> ?_) (fun w' g=>(O w').mono fun e R ⟨k,b⟩=>⟨k,b▸g⟩) ?_
      ·rfl
      ·simp[go_sem]
      simp only[aP])
    |(refine ee 60 #[.int .u64 (r.j.nd:Int)] ((dw r.j.nd).length:Int) ?_ (fun w'=> ?_) (fun w' g=>(yV w').mono fun e R ⟨k,b⟩=>⟨k,b▸g⟩) ?_
      ·rfl
      ·simp[go_sem]
      simp only[aP])
    |(refine ee 319 #[JR r.A r.n r.c r.j.sh,r.j.ch,((dw r.j.nd).length:Int)] (gg r.j.sh r.j.ch ((dw r.j.nd).length:Int):Bool) ?_ (fun w'=> ?_) (fun w' g=>(yT w' (aa L g)).mono fun e R ⟨k,b⟩=>⟨k,aa g b⟩) ?_
      ·rfl
      ·simp[go_sem]
      simp only[aP])
    |(refine cw rfl ⟨?_,fun w' g=> ?_,?_⟩
      rotate_left
      ·obtain⟨X,Y,c6,c7,c8,yQ,yS⟩:=yP w' g;simp[go_sem,X,Y,c6,c7,c8,yQ,yS]
       try rfl
      simp only[aP]))
   refine bM ?_;intro w4 b4;go_wp2;go_ret;exact⟨ar (by rw[t.out];simp),aa L b4⟩
set_option maxRecDepth 512
variable {P : Program}
def isFn(o:Oper)(f:FuncId):Bool:=
 match o.op with
 | .call c=>match c.callee with
   | .value (.func g)=>g==f
   |_=>false
 |_=>false
theorem il{C:Wd->Prop}{b:Array Oper}{Q:Act->Prop}(f:FuncId)(args:Array Vl)(v:Vl)(i:isFn o f=true)(hw:Region.wanted o (yielded b a.tmps)=true)(d:∀w,(execOp a.eval o).run P w=.ok (.enter f args) w)(c:∀w,C w->Cs P f args w (fun e g=>e=.returned v/\C g))(h:WQ P b C Q rest (a.put o.dst v)):WQ P b C Q (o::rest) a:=ee f args v hw d c h
set_option maxRecDepth 100000
abbrev cP:Array Vl:= #[(),.string ⟨#[]⟩,.string ⟨#[]⟩,.string ⟨#[]⟩,(),.slice none 0 0,(),(),(),(),.slice none 0 0,(),false,(),(),(),(),(),.int .u64 0,()]
def F5(j:Jb):Int:=if fg j then 0 else 140
theorem xF:∀args w,(callFunc 203 args).run prog w=.ok (.enter 203 args) w:=enters_of func203 (by kernel_rfl) rfl
theorem wJ(id:Int)(b:Nat)(a:Wd)(e:a.cell? b=some (id:Vl))(d:b<a):Cr 203 b (fun x=>decide (id<=x.bD)) a:=by
 intro x W c;have g:b<W:=cD d c.size;have f:W.cell? b=some (id:Vl):=by rw[<-e];unfold World.cell?;rw[c.block b d]
 go_in;go_wp2;go_ret;exact⟨rfl,aA⟩
theorem UC(j:Jb):fg j=(!decide (j.id<1)&& !decide (99999<j.id)&&bZ j.bo&& !(j.ud !=pJ j.ud)&&Dv j.nm j.us j.ac j.sh j.pr j.af&& !(j.af.any fun d=>decide (j.id<=d.bD))&&ka j):=by
 have h1:By j.id=(!decide (j.id<1)&& !decide (99999<j.id)):=by
  rw[By,<-nL,<-nL]
  congr 1
  ·exact iD.2 (by omega)
  ·exact iD.2 (by omega)
 have h2:(pJ j.ud==j.ud)= !(j.ud !=pJ j.ud):=by
  rw[bne,Bool.not_not,nS];simp only[iC];exact eq_comm
 rw[fg,Bx,h1,h2];cases decide (j.id<1)<;>cases decide (99999<j.id)<;>cases bZ j.bo<;>cases(j.ud !=pJ j.ud)<;>cases(Dv j.nm j.us j.ac j.sh j.pr j.af)<;>cases(j.af.any fun d=>decide (j.id<=d.bD))<;>cases ka j<;>rfl
theorem je(r:Jr)(w:Wd)(h:eF w r):Cs prog 110 #[.agg (bk r)] w (an (F5 r.j:Int) w):=by
 have A:Hid (ai (w.alloc (.cells (bk r) 51)) w 51 (bk r)):=ai.new _ _ _;have C:Hid (ai ((w.alloc (.cells (bk r) 51)).alloc (.cells cP 285)) (w+1) 285 cP):=by show ai _ _ _ _;have:=ai.new (w.alloc (.cells (bk r) 51)) 285 cP;simpa using this
 obtain⟨V,o⟩:=nm (((w.alloc (.cells (bk r) 51)).alloc (.cells cP 285)).setRow (w+1) (bk r));have t:Bl w w V:=by rw[o];exact aH (aC) (by omega) _
 have b:ai V w 51 (bk r):=by rw[o];exact ai.gu (A.alloc _) (by omega) _
 have y:ai V (w+1) 285 (bk r):=by rw[o];exact ai.row C _
 have K:=ah b;have N:=ah y;have yP:Hid (∀w',Bl V V w'->w'.cell? w=some (r.j.id:Vl)/\w'.cell? ⟨w,10,none⟩=some (.slice r.F r.m r.d)/\w'.cell? ⟨w,13,none⟩=some (r.j.bo:Vl)/\w'.cell? ⟨w,19,none⟩=some (r.j.ud:Vl)):=fun w' a=>⟨(b.ae a b.lt).cell 0,(b.ae a b.lt).cell 10,(b.ae a b.lt).cell 13,(b.ae a b.lt).cell 19⟩;have yV:Hid (∀w',Bl V V w'->ai w' (w+1) 285 (bk r)):=fun w' a=>y.ae a y.lt;have O:=ah (fun W=>gt r.j.bo W);have yR:=ah (fun W=>vD r.j.ud W);have yQ:=ah (fun W=>zY r W);have J:=ah (fun W (a:Bl w w W)=>Gz (Mb r) W (h.ae a).sub)
 have R:Hid (∀W,Bl V V W->Cs prog 206 #[.slice r.F r.m r.d,.func (.func 203) #[] #[.pointer w]] W (an (r.j.af.any fun x=>decide (r.j.id<=x.bD):Bool) W)):=
  fun W a=>vS 203 w _ xF r.F r.m r.d r.j.af W (wJ r.j.id w W ((b.ae a b.lt).cell 0) (b.ae a b.lt).lt) (h.af.ae (aa t a)) (by have:=h.cf;simp[maxLen];omega)
 have S:=ah (fun W=>Lw r W);have Q:=ah (fun W (a:Bl w w W)=>H4 r W (h.ae a));have P:=ah (fun W (a:Bl w w W)=>Fy r W (h.ae a));have M:=ah (fun W=>Br r.j.st W);have B:=ah (UC r.j);obtain⟨p1,h1⟩:∃p,decide (r.j.id<1)=p:=⟨_,rfl⟩;obtain⟨p2,h2⟩:∃p,decide (99999<r.j.id)=p:=⟨_,rfl⟩;obtain⟨k,D⟩:∃p,bZ r.j.bo=p:=⟨_,rfl⟩;obtain⟨q,E⟩:∃p,(r.j.ud !=pJ r.j.ud)=p:=⟨_,rfl⟩;obtain⟨u,G⟩:∃p,Dv r.j.nm r.j.us r.j.ac r.j.sh r.j.pr r.j.af=p:=⟨_,rfl⟩;obtain⟨I,H⟩:∃p,(r.j.af.any fun x=>decide (r.j.id<=x.bD))=p:=⟨_,rfl⟩;rw[h1,h2,D,E,G,H]at B;rw[D]at O;rw[H]at R;simp only[SP,G]at J;have g1:=ah h1;have g2:=ah h2;have Z:=ah E;clear h b y h1 h2 D E G H
 have hl:p1=true\/(p1=false/\p2=true)\/(p1=false/\p2=false/\k=false)\/(p1=false/\p2=false/\k=true/\q=true)\/(p1=false/\p2=false/\k=true/\q=false/\u=false)\/(p1=false/\p2=false/\k=true/\q=false/\u=true/\I=true)\/(p1=false/\p2=false/\k=true/\q=false/\u=true/\I=false):=by
  cases p1<;>cases p2<;>cases k<;>cases q<;>cases u<;>cases I<;>simp
 rcases hl with rfl|⟨rfl,rfl⟩|⟨rfl,rfl,rfl⟩|⟨rfl,rfl,rfl,rfl⟩|⟨rfl,rfl,rfl,rfl,rfl⟩|⟨rfl,rfl,rfl,rfl,rfl,rfl⟩|⟨rfl,rfl,rfl,rfl,rfl,rfl⟩
 all_goals
  try simp only[oT,rQ,rO]at J
  go_in;go_wp2_with(first|refine wA A t51 rfl ?_|refine wB C IE rfl ?_);rw[<-o];clear o A C;refine aw (fun w'=>Bl V V w') (by kernel_rfl) (by kernel_rfl) bR.drew ?_
  repeat(first
   |(refine bF ?_ ?_
     ·rfl
     simp only[aP])
   |(refine D9 ?_ _ _ rfl yV rfl underlying285 rfl IE rfl ?_
     ·rfl
     simp only[aP])
   |(refine il 204 #[r.j.bo] _ ?_ ?_ (fun w'=> ?_) (fun w' f=>(O w').mono fun e z ⟨c,a⟩=>⟨c,a▸f⟩) ?_
     ·rfl
     ·rfl
     ·simp[go_sem]
     simp only[aP])
   |(refine il 55 #[r.j.ud] (pJ r.j.ud:Int) ?_ ?_ (fun w'=> ?_) (fun w' f=>(yR w').mono fun e z ⟨c,a⟩=>⟨c,a▸f⟩) ?_
     ·rfl
     ·rfl
     ·simp[go_sem]
     simp only[aP])
   |(refine il 205 #[.agg (bk r)] (.agg (qW (Mb r))) ?_ ?_ (fun w'=> ?_) (fun w' f=>(yQ w').mono fun e z ⟨c,a⟩=>⟨c,aa f a⟩) ?_
     ·rfl
     ·rfl
     ·simp[go_sem]
     simp only[aP])
   |(refine il 78 #[.agg (qW (Mb r))] _ ?_ ?_ (fun w'=> ?_) (fun w' f=>(J w' (aa t f)).mono fun e z ⟨c,a⟩=>⟨c,aa f a⟩) ?_
     ·rfl
     ·rfl
     ·simp[go_sem]
     simp only[aP])
   |(refine il 206 #[.slice r.F r.m r.d,.func (.func 203) #[] #[.pointer w]] _ ?_ ?_ (fun w'=> ?_) (fun w' f=>(R w' f).mono fun e z ⟨c,a⟩=>⟨c,aa f a⟩) ?_
     ·rfl
     ·rfl
     ·simp[go_sem]
     simp only[aP])
   |(refine cw rfl ⟨?_,fun w' f=> ?_,?_⟩
     rotate_left
     ·obtain⟨U,yW,yU,yS⟩:=yP w' f;simp[go_sem,U,yW,yU,yS,g1.out,g2.out,Z.out]
      try rfl
     simp only[aP]))
  refine bM ?_;intro w1 b1
 all_goals try(go_wp2_with fail;all_goals go_ret;all_goals exact⟨ax (by simp[F5,B.out]),aa t b1⟩;done)
 have s:Hid (F5 r.j=if ka r.j then 0 else 140):=by show _=_;rw[F5,B.out];simp
 have k1:=K.ae b1 K.lt;have v:=N.ae b1 N.lt;have yT:=ai.cell k1 11;simp at yT;have l:=aa t b1;by_cases i:r.j.st=1
 ·have X:(r.j.st==1)=true:=by simp[i]
  replace i:=ah i;cases hf:jZ r.j
  all_goals
   rw[hf]at Q;have n:=ah hf;clear hf;go_wp2_with(refine wA v Iz rfl ?_);refine(Q _ l).mono ?_;rintro e L ⟨rfl,b2⟩;go_wp2;go_ret;exact⟨ax (by rw[s.out];simp[ka,i.out,n.out]),aa l b2⟩
 have X:(r.j.st==1)=false:=by simpa using i
 replace i:=ah i;by_cases g:r.j.st=2
 ·have Y:(r.j.st==2)=true:=by simp[g]
  replace g:=ah g;cases hf:vm r.j
  all_goals
   rw[hf]at P;have n:=ah hf;clear hf;go_wp2_with(refine wA v Iz rfl ?_);refine(P _ l).mono ?_;rintro e L ⟨rfl,b2⟩;go_wp2;go_ret;exact⟨ax (by rw[s.out];simp[ka,g.out,n.out]),aa l b2⟩
 have Y:(r.j.st==2)=false:=by simpa using g
 replace g:=ah g;cases c:pK r.j.st
 all_goals
  rw[c]at M;have T:=ah c;clear c;go_wp2_with(refine wA v Iz rfl ?_);refine(M _).mono ?_;rintro e w' ⟨rfl,rfl⟩
 ·go_wp2;go_ret;exact⟨ax (by rw[s.out];simp[ka,i.out,g.out,T.out]),l⟩
 cases hf:zm r.j
 all_goals
  rw[hf]at S;have n:=ah hf;clear hf;go_wp2_with(refine wA v Iz rfl ?_);refine(S _).mono ?_;rintro e L ⟨rfl,b2⟩;go_wp2;go_ret;exact⟨ax (by rw[s.out];simp[ka,i.out,g.out,T.out,n.out]),aa l b2⟩
set_option maxRecDepth 512
section
variable {P : Program}
variable{off:Nat}
theorem ld{e:Array Oper}(k:o.guard=none)(c:Ti)(x:Operand)(i:o.op=.load c x)
 {b:Nat}(hx:a.eval x=.pointer (some ⟨b,off,none⟩))(f:w.rangeAt b off cs.toList)
 (j:P.underlying c=some d)(g:d.isRow=true)(hi:(P.info? c).map (·.size)=some n)(hn:cs.size=n)
 (h:wpList P e Q rest (a.put o.dst (.agg cs)) w):wpList P e Q (o::rest) a w:=
 wpList_load_mid k c x i b off hx cs.toList d f j g (by rw[hi];simp[hn]) (by simpa using h)
theorem wm{e:Array Oper}{c:Ti}(i:o.guard=none)(g:o.op=.load c x){b:Nat}(hx:a.eval x=.pointer (some ⟨b,off,none⟩))(f:w.rangeAt b off cs.toList)(T:P.underlying c=some d/\d.isRow=true/\(P.info? c).map (·.size)=some n)(hn:cs.size=n)(h:wpList P e Q rest (a.put o.dst (.agg cs)) w):wpList P e Q (o::rest) a w:=ld i c x g hx f T.1 T.2.1 T.2.2 hn h
theorem wC{f:Array Oper}{c:Ti}{b:Nat}(g:w.rangeAt b off cs.toList)(T:P.underlying c=some d/\d.isRow=true/\(P.info? c).map (·.size)=some n)(e:(o.guard,o.op,a.eval x,cs.size)=(none,.load c x,.pointer (some ⟨b,off,none⟩),n))(h:wpList P f Q rest (a.put o.dst (.agg cs)) w):wpList P f Q (o::rest) a w:=by
 simp only[Prod.mk.injEq]at e;exact wm e.1 e.2.1 e.2.2.1 g T e.2.2.2 h
theorem rZ{d:Array Oper}(g:o.guard=none)(c:Ti)(x y:Operand)(e:o.op=.store c x y)
 {b:Nat}(hx:a.eval x=.pointer (some ⟨b,off,none⟩))(f:a.eval y=.agg cells)(ht:w.there b off cells.size)
 (hi:(P.info? c).map (·.size)=some n)(hn:cells.size=n)(h1:cells.toList.all (·.oneCell')=true)
 (h:wpList P d Q rest (a.put o.dst undef) (w.setCells b off cells.toList)):wpList P d Q (o::rest) a w:=
 wpList_store_mid g c x y e b off cells hx f ht (by rw[hi,hn]) (by simpa using h1) h
theorem me{K:Act->Wd->Prop}(c:Ti)(x:Operand)(g:o.op=.load c x)
 {b:Nat}(hx:a.eval x=.pointer (some ⟨b,off,none⟩))(e:w.rangeAt b off cs.toList)
 (i:P.underlying c=some d)(f:d.isRow=true)(hi:(P.info? c).map (·.size)=some n)(hn:cs.size=n)
 (h:K (a.put o.dst (.agg cs)) w):Oper.wp P o a w K Q:=
 wp_load_mid c x g b off hx cs.toList d e i f (by rw[hi];simp[hn]) (by simpa using h)
theorem mN{C:Wd->Prop}{e:Array Oper}{Q:Act->Prop}(hw:Region.wanted o (yielded e a.tmps)=true)(c:Ti)(x:Operand)(i:o.op=.load c x)
 {b:Nat}(hx:a.eval x=.pointer (some ⟨b,off,none⟩))(f:∀w,C w->w.rangeAt b off cs.toList)
 (j:P.underlying c=some d)(g:d.isRow=true)(hi:(P.info? c).map (·.size)=some n)(hn:cs.size=n)
 (h:WQ P e C Q rest (a.put o.dst (.agg cs))):WQ P e C Q (o::rest) a:=
 GH _ hw (fun w hC=>by
  unfold execOp;have:=run_loadVar_mid (P:=P) w b off c cs.toList d (f w hC) j g (by rw[hi];simp[hn]);simp only[i,hx,Instr.loadAt,Instr.sureAddr,Sem.run_bind,Sem.run_pure,Result.andThen_ok,this]) h
theorem eC{c:Func}{R:Ed->Wd->Prop}{p q:Tmp}(i:c.results= #[.cell p b,.tmp q])(e:ai w g t cs)
 (f:a.tmps.getD p undef=.pointer g){v:Vl}(h:a.tmps.getD q undef=v)(j:P.underlying b=some d)(o:d.isRow=true)(hi:(P.info? b).map (·.size)=some n)(hn:cs.size=n)
 (k:a.defers=[])(hR:R (.returned (.tuple #[.agg cs,v])) w):bodyPost P c R .ret a w:=by
 refine bodyPost_ret ?_ k hR;have m:a.tmps[p]?.getD undef=.pointer g:=by simpa using f
 have l:a.tmps[q]?.getD undef=v:=by simpa using h
 simp[results,i,m,l,asAddr,run_loadVar_row w g t b cs (0,0) d e j (by cases d<;>simp_all) (by rw[hi,hn])]
theorem fV{e:Func}{R:Ed->Wd->Prop}{p q c:Tmp}(j:e.results= #[.cell p b,.tmp q,.tmp c])(f:ai w g t cs)
 (h:a.tmps.getD p undef=.pointer g){v u:Vl}(i:a.tmps.getD q undef=v)(r:a.tmps.getD c undef=u)(k:P.underlying b=some d)(x:d.isRow=true)(hi:(P.info? b).map (·.size)=some n)(hn:cs.size=n)
 (m:a.defers=[])(hR:R (.returned (.tuple #[.agg cs,v,u])) w):bodyPost P e R .ret a w:=by
 refine bodyPost_ret ?_ m hR;have s:a.tmps[p]?.getD undef=.pointer g:=by simpa using h
 have o:a.tmps[q]?.getD undef=v:=by simpa using i
 have l:a.tmps[c]?.getD undef=u:=by simpa using r
 simp[results,j,s,o,l,asAddr,run_loadVar_row w g t b cs (0,0) d f k (by cases d<;>simp_all) (by rw[hi,hn])]
end
def yl(r:Jr):List Vl:=(bk r).toList
theorem ek:wU yl 20:=⟨fun _=>rfl,fun x u a=>by simp[yl]at a;rcases a with rfl|rfl|rfl|rfl|rfl|rfl|rfl|rfl|rfl|rfl|rfl|rfl|rfl|rfl|rfl|rfl|rfl|rfl|rfl|rfl<;>rfl,by omega⟩
abbrev Qf:=cp yl 20
abbrev gB:=be yl 20
theorem sP:(prog.info? 51).map (fun i=>(i.zero,i.size,i.bytes))=some (some (.agg cP),20,216):=by kernel_rfl
structure pO(w:Wd)(A:OA)(n:Nat)(l:List Jr):Prop where
 rows:Qf w A n l
 eZ:∀r∈l,eF w r
variable{l:List Jr}
theorem pO.ae{A:OA}(h:pO w A n l)(a:Bl w w w'):pO w' A n l:=⟨h.rows.ae a,fun r b=>(h.eZ r b).ae a⟩
theorem ir{A:OA}(h:pO w A n l){i:Nat}(hi:i<n):∃b off r,A=some ⟨b,off,none⟩/\b<w/\l[i]?=some r/\eF w r/\w.rangeAt b (off+i*20) (bk r).toList:=by
 obtain⟨b,off,r,hA,c,a,d⟩:=h.rows.at_ hi;exact⟨b,off,r,hA,c,a,h.eZ r (cG a),d⟩
theorem qu{b o:Nat}{cs:List Vl}(h:w.rangeAt b o cs)(a:Bl w w w')(d:b<w):w'.rangeAt b o cs:=fun j v c=>(a.cell (p:=⟨b,o+j,none⟩) d).trans (h j v c)
set_option maxRecDepth 100000
theorem Ld(n:Int)(w:Wd):Cs prog 241 #[n] w fun e w'=>e=.returned (By n:Bool)/\w=w':=by
 have a:Hid (By n=(decide (1<=n)&&decide (n<=99999))):=rfl;cases h1:decide (1<=n)
 all_goals
  rw[h1]at a;go_in;go_wp2;go_ret;exact⟨ar a.symm,rfl⟩
theorem LC:∀args w,(callFunc 340 args).run prog w=.ok (.enter 340 args) w:=enters_of func340 (by kernel_rfl) rfl
theorem wQ(r:Jr)(id:Int)(w:Wd)(h1:0<=r.j.id/\r.j.id<=100000)(h2:0<=id/\id<=100000):Cs prog 340 #[.agg (bk r),id] w (an (r.j.id-id:Int) w):=by
 have a:Hid (ai (w.alloc (.cells (bk r) 51)) w 51 (bk r)):=ai.new _ _ _;have c:=a.cell 0;have b:Hid (IntKind.i64.wrap (r.j.id-id)=r.j.id-id):=by show _=_;rw[IntKind.wrap_i64];omega
 simp at c;go_in;go_wp2;go_ret;exact⟨ax (by first|exact b|rfl),aA⟩
def pP(l:List Jr)(id:Int)(w:Wd)(e:Ed)(w':Wd):Prop:=∃(i:Nat) (f:Bool),e=.returned (.tuple #[i,f])/\Bl w w w'/\i<=l.length/\((f=true/\∃r,l[i]?=some r/\r.j.id=id)\/(f=false/\∀r∈l,r.j.id≠id))
theorem EE(A:OA)(n c:Nat)(l:List Jr)(id:Int)(w:Wd)(h:pO w A n l)(hn:n<=1000000)(L:0<=id/\id<=100000)(J:∀r∈l,0<=r.j.id/\r.j.id<=100000)(E:l.Pairwise (fun a b=>a.j.id<b.j.id)):
 Cs prog 339 #[.slice A n c,id,.func (.func 340) #[] #[]] w (pP l id w):=by
 have R:=h.rows.cb;subst R;have S:=LC;have H:=ah h;have G:Hid (∀(W:Wd) (r:Jr),r∈l->Cs prog 340 #[.agg (bk r),id] W (an (r.j.id-id:Int) W)):=fun W r g=>wQ r id W (J r g) L;have v:=ah (cN.1 E);have Y:=ah E;clear h J E L;go_in;go_wp2
 go_loopw [9,10] (fun x y wr=>∃i j:Nat,i<=j/\j<=l.length/\x=.int .i64 i/\y=.int .i64 j/\(∀z r,z<i->l[z]?=some r->r.j.id<id)/\(∀z r,j<=z->l[z]?=some r->id<=r.j.id)/\Bl w w wr) (fun x y _=>(intOf y).toNat-(intOf x).toNat)
 case atStart=>exact⟨0,l.length,by omega,by omega,rfl,rfl,by omega,fun z r h1 h2=>by have:=(cA.1 h2).1;omega,cC _ _⟩
 case round=>
  obtain⟨i,j,U,B,rfl,rfl,h1,h2,m⟩:=hrel;have q:=ah h1;have F:=ah h2;clear h1 h2;by_cases X:i<j
  ·have V:i<=(i+j)/2:=by omega
   have T:(i+j)/2<j:=by omega
   have D:(i+j)/2<l.length:=by omega
   have O:Hid (((i:Int)+(j:Int))/2=(((i+j)/2:Nat):Int)):=by show _=_;omega
   obtain⟨b,off,r,rfl,P,g,C,o⟩:=ir (H.ae m) D;have u:=ah o;have f:=ah g;clear o C g;go_wp2_with(refine wC u t51 rfl ?_);rw[O.out];refine(G _ r (cG f)).mono ?_;rintro e Q ⟨rfl,b2⟩;have N:=ah (aa m b2);clear b2 m;cases k:decide (r.j.id-id<0)
   ·have t:=ah k;go_wp2_with fail;refine⟨⟨i,(i+j)/2,by omega,by omega,rfl,rfl,q,fun z s d hs=> ?_,N⟩,by simp[intOf];omega⟩;have k:=t.out;simp at k;obtain⟨p,rfl⟩:=cA.1 hs;obtain⟨_,rfl⟩:=cA.1 f;rcases iE ((i+j)/2) z with h|h
    ·have:=v.out _ z D p h;omega
    ·obtain rfl:z=(i+j)/2:=by omega
     omega
   ·have t:=ah k;go_wp2_with fail;refine⟨⟨(i+j)/2+1,j,by omega,B,by go_num,rfl,fun z s d hs=> ?_,F,N⟩,by simp[intOf];omega⟩;have k:=t.out;simp at k;obtain⟨p,rfl⟩:=cA.1 hs;obtain⟨_,rfl⟩:=cA.1 f;rcases iE z ((i+j)/2)with h|h
    ·have:=v.out z _ p D h;omega
    ·obtain rfl:z=(i+j)/2:=by omega
     omega
  ·obtain rfl:i=j:=by omega
   have K:=ah m;by_cases M:i<l.length
   ·obtain⟨b,off,r,rfl,P,g,C,o⟩:=ir (H.ae m) M;have u:=ah o;have f:=ah g;clear o C g m;go_wp2_with(go_guarded;refine me _ _ rfl rfl u underlying51 rfl aK rfl ?_);refine(G _ r (cG f)).mono ?_;rintro e Q ⟨rfl,b2⟩;go_wp2;go_ret2;refine⟨i,_,rfl,aa K b2,B,?_⟩;by_cases I:r.j.id-id=0
    ·exact .inl ⟨by simpa using I,r,f,by omega⟩
    ·refine .inr ⟨by simpa using I,fun s hs=> ?_⟩;obtain⟨z,d⟩:=dE.1 hs;rcases Nat.lt_trichotomy z i with h|h|h
     ·have:=q.out z s h d;omega
     ·subst h;rw[f.out]at d;cases d;omega
     ·have:=F.out i r lr f;obtain⟨p,rfl⟩:=cA.1 d;obtain⟨_,rfl⟩:=cA.1 f;have:=v.out i z M p h;omega
   ·go_wp2;go_ret2;refine⟨i,_,rfl,K,B,.inr ⟨rfl,fun s hs=> ?_⟩⟩;obtain⟨z,d⟩:=dE.1 hs;have:=(cA.1 d).1;have:=q.out z s (by omega) d;omega
theorem qs(A:OA)(n c:Nat)(l:List Jr)(id:Int)(w:Wd)(h:pO w A n l)(hn:n<=1000000)(g:0<=id/\id<=100000)(d:∀r∈l,0<=r.j.id/\r.j.id<=100000)(k:l.Pairwise (fun a b=>a.j.id<b.j.id)):
 Cs prog 242 #[.slice A n c,id] w (pP l id w):=by
 have m:=ah (EE A n c l id w h hn g d k);clear h d k g;go_in;go_wp2_with fail;refine m.out.mono ?_;rintro e p ⟨i,f,rfl,h1,h2,o⟩;go_wp2;go_ret2;exact⟨i,f,rfl,h1,h2,o⟩
def Pc(p:Bool):Int:=if p then 0 else 140
theorem Tq(j:Jb):F5 j=Pc (fg j):=rfl
def U5(l:List Jr)(k:Nat):Bool:=k==0||((l[k-1]?.bind fun a=>l[k]?.map fun b=> !decide (b.j.id<=a.j.id)).getD true)
def E7(l:List Jr)(k:Nat):Bool:=(l[k]?.map fun r=>fg r.j).getD false&&U5 l k
theorem ug{r s:Jr}(h:l[k]?=some s)(a:l[k-1]?=some r)(b:0<k):U5 l k= !decide (s.j.id<=r.j.id):=by
 unfold U5;have:(k==0)=false:=by simp;omega
 rw[this,h,a];simp
theorem tX{s:Jr}(h:l[k]?=some s):E7 l k=(fg s.j&&U5 l k):=by rw[E7,h];rfl
theorem NB(a:k<l.length)(h:E7 l k=false):gC (l.map Jr.j)=false:=by
 rw[Bool.eq_false_iff];intro e;have ok:=ds.1 e;rw[tX (cE a),ok.ok _ (cS.2 ⟨_,iH a,rfl⟩),lO]at h;rcases dX k with rfl|b
 ·simp[U5]at h
 ·rw[ug (cE a) (cE (show k-1<l.length by omega)) b]at h;have:=cN.1 ok.up (k-1) k (by simp;omega) (by simpa using a) (by omega);simp at this h;omega
theorem Kt(hn:l.length<=40)(h:∀k,k<l.length->E7 l k=true):gC (l.map Jr.j)=true:=by
 refine ds.2 ⟨by simpa using hn,fun j a=> ?_,?_⟩
 ·obtain⟨r,b,rfl⟩:=cS.1 a;obtain⟨i,hi,rfl⟩:=i7.1 b;have:=h i hi;rw[tX (cE hi)]at this;simp at this;exact this.1
 ·rw[iJ]
  have c:∀d i (hi:i+1+d<l.length),(l[i]'(by omega)).j.id<l[i+1+d].j.id:=by
   intro d
   induction d with
   |zero=>
    intro i hi;have:=h (i+1) hi;rw[tX (cE hi),ug (cE hi) (cE (show i+1-1<l.length by omega)) (by omega)]at this;simp at this;simpa using this.2
   |succ d ih=>
    intro i hi;have h1:=ih i (by omega);have:=h (i+1+(d+1)) hi;rw[tX (cE hi),ug (cE hi) (cE (show i+1+(d+1)-1<l.length by omega)) (by omega)]at this;simp at this;exact Int.lt_trans h1 (by simpa using this.2)
  rw[cN];intro i j hi a f;have:=c (j-i-1) i (by omega);have e:i+1+(j-i-1)=j:=by omega
  simpa only[e]using this
theorem R0:∀p1:Bool,p1=false\/p1=true:=by decide
theorem R1:∀p1 p2:Bool,p1=false\/(p1=true/\p2=true)\/(p1=true/\p2=false):=by decide
def QH(w:Wd)(l:List Jr)(i:Vl)(wr:Wd):Prop:=∃k:Nat,k<=l.length/\i=.int .i64 k/\(∀j,j<k->E7 l j=true)/\Bl w w wr
theorem gp(A:OA)(n c:Nat)(l:List Jr)(w:Wd)(h:pO w A n l)(hn:n<=maxLen):
 Cs prog 52 #[.slice A n c] w (an (gd (l.map Jr.j):Int) w):=by
 unfold maxLen at hn;have yF:=h.rows.cb;subst yF;by_cases h1:40<l.length
 ·have R:Hid (gd (l.map Jr.j)=140):=by
   show _=_;have:gC (l.map Jr.j)=false:=by simp[gC];omega
   simp[gd,this]
  clear h;go_in;go_wp2;go_ret;exact⟨ax R.symm,cC _ _⟩
 have yQ:l.length<=40:=by omega
 have E:=ah h;clear h1 h;go_in;go_wp2
 go_loopw [10] (fun i wr=>QH w l i wr) (fun i _=>l.length-(intOf i).toNat)
 case atStart=>exact⟨0,by omega,rfl,by omega,cC _ _⟩
 case round=>
  obtain⟨k,hk,rfl,K,C⟩:=hrel;have J:=ah K;clear K;by_cases Q:k<l.length
  ·obtain⟨b,off,s,rfl,d,hs,L,g⟩:=ir (E.ae C) Q;have F:=ah hs;have f:=ah g;have m:Hid (ai (wr.alloc (.cells cP 51)) wr 51 cP):=ai.new _ _ _;have yU:=ah (World.rangeAt_alloc g (.cells cP 51));clear hs g;go_wp2_with(first|refine wC f t51 rfl ?_|refine wB m aK rfl ?_);obtain⟨V,q⟩:=nm ((wr.alloc (.cells cP 51)).setRow wr (bk s));rw[<-q];have x:Bl wr wr V:=q▸aD;have I:ai V wr 51 (bk s):=q▸ai.row m _;have P:=aa C x;clear q f yU m;have G:=cC V V;obtain⟨p1,z⟩:∃p,fg s.j=p:=⟨_,rfl⟩;have D:=ah fun(W:Wd) (Y:Bl wr wr W)=>je s W (L.ae Y);have o:=ah (tX F);rw[Tq,z]at D;rw[z]at o;clear z L;go_cut [32] (fun X wx=>X=.bool (!(E7 l k))/\Bl V V wx)
   case first=>
    have u:Hid (∀w',Bl V V w'->ai w' wr 51 (bk s)):=fun w' d=>I.ae d I.lt;by_cases O:k=0
    ·subst O;have v:Hid (U5 l 0=true):=rfl;rw[v.out]at o;rcases R0 p1 with rfl|rfl
     all_goals
      refine aw (fun w'=>Bl V V w') (by kernel_rfl) (by kernel_rfl) G.drew ?_
      repeat(first
       |(refine bF ?_ ?_
         ·rfl
         simp only[aP])
       |(refine D9 ?_ _ _ rfl (fun w' a=>u w' a) rfl underlying51 rfl aK rfl ?_
         ·rfl
         simp only[aP])
       |(refine il 110 #[.agg (bk s)] (Pc _:Int) ?_ ?_ (fun w'=> ?_) (fun w' a=>(D w' (aa x a)).mono fun e yT ⟨y,d⟩=>⟨y,aa a d⟩) ?_
         ·rfl
         ·rfl
         ·simp[go_sem]
         simp only[aP])
       |(refine cw rfl ⟨?_,fun w' a=> ?_,?_⟩
         rotate_left
         ·simp[go_sem,Pc]
          try rfl
         simp only[aP]))
      refine bM ?_;intro w' b3;go_wp2;go_meet;exact⟨by rw[o.out];rfl,b3⟩
    ·have N:0<k:=by omega
     have yN:=dT ((0:Int)<(k:Int)) (by omega);obtain⟨b',yX,r,e,yP,H,_,g⟩:=ir (E.ae P) (show k-1<l.length by omega);injection e with e
     injection e with e1 e2;subst e1 e2;have yO:Hid (∀w',Bl V V w'->w'.cell? wr=some (s.j.id:Vl)/\w'.cell? ⟨b,off+(k-1)*20,none⟩=some (r.j.id:Vl)):=fun w' d=>⟨(u w' d).cell 0,(qu g d yP) 0 _ rfl⟩;have yY:IntKind.i64.wrap ((k:Int)-1)=(k:Int)-1:=lS _ (by omega);have yW:(0:Int)<=(k:Int)-1:=by omega
     have yV:(1:Int)<=(k:Int):=by omega
     have yS:((k:Int)-1).toNat=k-1:=by omega
     have yR:(k:Int)-1<(l.length:Int):=by omega
     have v:=ah (ug F H N);obtain⟨p2,B⟩:∃p,decide (s.j.id<=r.j.id)=p:=⟨_,rfl⟩;rw[v.out,B]at o;have S:=ah B;clear O H B g;rcases R1 p1 p2 with rfl|⟨rfl,rfl⟩|⟨rfl,rfl⟩
     all_goals
      refine aw (fun w'=>Bl V V w') (by kernel_rfl) (by kernel_rfl) G.drew ?_
      repeat(first
       |(refine bF ?_ ?_
         ·rfl
         simp only[aP])
       |(refine D9 ?_ _ _ rfl (fun w' a=>u w' a) rfl underlying51 rfl aK rfl ?_
         ·rfl
         simp only[aP])
       |(refine il 110 #[.agg (bk s)] (Pc _:Int) ?_ ?_ (fun w'=> ?_) (fun w' a=>(D w' (aa x a)).mono fun e yT ⟨y,d⟩=>⟨y,aa a d⟩) ?_
         ·rfl
         ·rfl
         ·simp[go_sem]
         simp only[aP])
       |(refine cw rfl ⟨?_,fun w' a=> ?_,?_⟩
         rotate_left
         ·obtain⟨T,U⟩:=yO w' a;simp[go_sem,Pc,T,U,yN,N,yY,yW,yV,yS,yR,S.out]
          try rfl
         simp only[aP]))
      refine bM ?_;intro w' b3;go_wp2;go_meet;exact⟨by rw[o.out];rfl,b3⟩
   case rest=>
    obtain⟨t,b3⟩:=hcut;have M:=aa P b3;cases hg:E7 l k
    ·have f:Hid (gd (l.map Jr.j)=140):=by show _=_;simp[gd,NB Q hg]
     rw[hg]at t;subst t;clear hg;go_wp2;go_ret;exact⟨ax f.symm,M⟩
    ·have m:Hid (∀j,j<k+1->E7 l j=true):=fun j Z=>by
      rcases Nat.lt_succ_iff_lt_or_eq.1 Z with h|rfl
      ·exact J j h
      ·exact hg
     rw[hg]at t;subst t;clear hg;go_wp2_with fail;exact⟨⟨k+1,by omega,by go_num,m,M⟩,by simp[intOf];omega⟩
  ·obtain rfl:k=l.length:=by omega
   have f:Hid (gd (l.map Jr.j)=0):=by show _=_;simp[gd,Kt yQ J.out]
   go_wp2;go_ret;exact⟨ax f.symm,C⟩
end Go.Proofs.YthfhilggbbobmaaGreatDoor
