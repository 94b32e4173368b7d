/- Parts of the proof. -/
import Derived.Test.YthfhilggbbobmaaGreatDoorK10
import Derived.Laws.EntriesVeiled
set_option linter.all false
set_option maxHeartbeats 20000000
namespace Go.Proofs.YthfhilggbbobmaaGreatDoor
open Go.Proofs.Tryz
open Go renaming World->Wd,Value->Vl,TypeId->Ti,Calls->Cs
open Go.RowKit renaming Below->Bl
open Go.RowKit
structure Tk where
 kd:Int
 tx:ByteArray
 nu:Int
 at_:Int
abbrev F7(t:Tk):Vl:=.agg #[t.kd,.string t.tx,t.nu,t.at_]
def Am(rs:List Nat)(k:Nat):Tk:=⟨1,CX (jO ((rs.drop k).take (ck gS rs k))),0,0⟩
theorem Lj(c:Wd)(a b:Int)(t:Ti){d:Wd}(h:Bl (c.alloc (.cells #[a,b] t)).heap.size (c.alloc (.cells #[a,b] t)) d):fs d c 2 [a,b]:=
 cp.ae (ip (l:=[a,b]) (ai.new c t #[a,b]) rfl) h
theorem Qa(R:Nat)(L:OA)(n c:Nat)(rs:List Nat)(k:Nat)(r m:Int)(w:Wd)(h:ui w R L n c (k:Int) r m)(t:wH w L n rs)
 (I:(L=none/\n=0/\c=0)\/∃b off,L=some ⟨b,off,none⟩/\b≠R)(M:k<=n)(hn:n<=1000)(J:n<=c)(N:(jO ((rs.drop k).take (ck gS rs k))).size<=maxLen):
 Cs prog 214 #[.pointer R] w fun e w'=>e=.returned (F7 (Am rs k))/\cg R w w'/\ui w' R L n c ((k+ck gS rs k:Nat):Int) r m:=by
 have C:=ah h;have F:=ah t;have yS:=h.lt;clear h t;go_in;go_wp2_with fail;refine(O9 _ _ _ _).mono ?_;rintro e d ⟨rfl,g,b1⟩;have q:=Lj _ _ _ _ b1;rw[iT]at q;have f:=aa (((cC w w).alloc lr _).alloc (by simp) _) b1;have yV:=ah (C.ae f yS);have yU:=ah (F.ae f);have yX:=f.size;have o:=ai.new d 207 #[.nilFunc];have O:=o.cell 0;have nf:=o.ao 0;simp only[List.getElem?_toArray,nF]at O;have u:=((ai.new w 211 #[(),.string ⟨#[]⟩,(),()]).alloc (.cells #[(2:Int),(3:Int)] 3)).ae b1 (by simp;omega);rw[iT,iT]at g;have i:=ai.new d 207 #[.func (.func 212) #[] #[.pointer (w+1+1:Nat)]];have yT:=ah g;have E:=ah q;have D:=ah i;have Z:=ah (u.alloc (.cells #[.func (.func 212) #[] #[.pointer (w+1+1:Nat)]] 207));have yW:=g.lt;have yR:Hid (cg R w (d.alloc (.cells #[.func (.func 212) #[] #[.pointer (w+1+1:Nat)]] 207))):=(cg.aX f (by omega)).alloc _ (by omega);clear g b1 q f o u i;go_wp2_with fail;refine(Cj R L n c rs k r m _ d gS P8 _ (yV.alloc _) (yU.ae (bR.alloc lr _)) I M hn J (fun x W hs=> ?_)).mono ?_
 ·have G:=hs.ce D (by omega);have s:=hs.ce (yT.alloc _) (by omega);have H:=hs.cells (E.ae (bR.alloc lr _)) (fun _ b off K=>by cases K;omega);exact Ml d (w+1+1) _ 2 2 x W (G.cell 0) s.lt (s.cell 0) H (by omega)
 ·rintro e w2 ⟨rfl,l,z⟩;have yQ:=ah l;have B:=ah z;have y:=ah (l.ce Z (by omega));have X:=l.size;rw[iT]at X;clear l z;go_wp2_with fail;refine(Ll _ _ N).mono ?_;rintro e w3 ⟨rfl,b3⟩;have a:=y.ae b3 y.lt;have A:=B.ae b3 B.lt;have f0:=a.ao 0;have f1:=a.ao 1;have f2:=a.ao 2;have f3:=a.ao 3;obtain⟨g0,g1,g2,g3⟩:=bT a;have Y:=ah A;have V:=ah a;have U:=ah b3;clear a A b3;go_wp2_with fail;have i:=(((V.set 0 (1:Int)).set 1 (.string (CX (jO ((rs.drop k).take (ck gS rs k)))))).set 2 ()).set 3 ();obtain⟨P,Q,S,T⟩:=bT i;refine cU (v:=.agg #[(1:Int),.string (CX (jO ((rs.drop k).take (ck gS rs k)))),(),()]) (by simp[results,results214,go_sem,P,Q,S,T]) rfl ?_;refine⟨rfl,?_,?_⟩
  ·exact((((((yR.trans yQ).ae U (by omega)).gb 0 lr (by omega) _).gb 1 lr (by omega) _).gb 2 lr (by omega) _).gb 3 lr (by omega) _)
  ·have j:R≠w:=by omega
   exact(((Y.ll (p:=w) j _).ll (p:=⟨w,1,none⟩) j _).ll (p:=⟨w,2,none⟩) j _).ll (p:=⟨w,3,none⟩) j _
def se(x:Nat):Bool:=decide (48<=x)&&decide (x<=57)
def tB(s:ByteArray):Bool:=(bc s).all se&& !s.toList.isEmpty
def dm(x:Nat):Bool:=se x||(decide (97<=x)&&decide (x<=122))
theorem xL(s:ByteArray)(w:Wd)(hs:s.size<9223372036854775807):Cs prog 323 #[.string s] w (an (tB s:Bool) w):=by
 go_in;go_wp2
 go_loopw [10] (fun _ w'=>∃(a b:Nat) (pre:List Nat),w'=w.iter s a/\pre++gw s b a=bc s/\s.size<=a+b/\∀y∈pre,se y=true) (fun _ w'=>s.size-w'.iterPos w)
 case atStart=>exact⟨0,s.size,[],rfl,rfl,by omega,by simp⟩
 case round=>
  obtain⟨a,b,pre,rfl,g,z,l⟩:=hrel;have k:=ah l;have j:=ah g;clear l g;by_cases i:a<s.size
  ·have v:∀c,(Instr.next (.pointer w) true c).run prog (w.iter s a)=_:=fun c=>run_next_any w s a c i;have A:=Lib.decode_width_pos s a i;obtain⟨b,rfl⟩:∃r,b=r+1:=⟨b-1,by omega⟩
   have p:Hid (pre++(Utf8.decode s a).1::gw s b (a+(Utf8.decode s a).2)=bc s):=by
    show _=_;rw[<-xi s b a i];exact j
   clear j;generalize hx:(Utf8.decode s a).1=x at*;generalize hd:(Utf8.decode s a).2=d at*;clear hx hd
   have m:se x=false->tB s=false:=by
    intro h;unfold tB;rw[<-p.out];simp[h]
   have n:=ah m;clear m;by_cases h1:x<48
   ·have f:=ah (n (by simp[se];omega));have t:=dT ((x:Int)<48) (by omega);clear h1;go_wp2;go_ret;exact⟨ar f.symm,jI _ _ _⟩
   ·have t:=dF ((x:Int)<48) (by omega);by_cases h2:57<x
    ·have f:=ah (n (by simp[se];omega));have u:=dT ((57:Int)<(x:Int)) (by omega);clear h1 h2;go_wp2;go_ret;exact⟨ar f.symm,jI _ _ _⟩
    ·have u:=dF ((57:Int)<(x:Int)) (by omega);have o:se x=true:=by simp[se];omega
     have q:=ah o;clear h1 h2 o;go_wp2_with fail
     go_roundw
     case rel=>
      refine⟨a+d,b,pre++[x],rfl,?_,by omega,?_⟩
      ·rw[fX];exact p
      ·intro y e;rcases dG.1 e with e|e
       ·exact k y e
       ·simp at e;subst e;exact q
     case measure=>first|(simp;done)|(simp;omega)
  ·have v:∀c,(Instr.next (.pointer w) true c).run prog (w.iter s a)=_:=fun c=>run_next_end w s a c i
   have f:Hid (tB s= !s.toList.isEmpty):=by
    show _=_;have g:=j.out;rw[H9 s b a i,fO]at g;unfold tB;rw[<-g,dC.2 k.out,lO]
   go_wp2;go_ret;exact⟨ar f.symm,jI _ _ _⟩
theorem KB:∀args w,(callFunc 322 args).run prog w=.ok (.enter 322 args) w:=enters_of func322 (by kernel_rfl) rfl
theorem NM(x:Nat)(w:Wd)(h:x<=47):Cs prog 322 #[.int .i32 (x:Int)] w (an (dm x:Bool) w):=by
 have a:Hid (dm x=false):=by show _=_;simp[dm,se];omega
 have b:=dF ((48:Int)<=(x:Int)) (by omega);have c:=dT ((x:Int)<=57) (by omega);have d:=dF ((97:Int)<=(x:Int)) (by omega);have e:=dT ((x:Int)<=122) (by omega);clear h;go_in;go_wp2;go_ret;exact⟨ar a.symm,cC _ _⟩
theorem NN(x:Nat)(w:Wd)(h:48<=x/\x<=57):Cs prog 322 #[.int .i32 (x:Int)] w (an (dm x:Bool) w):=by
 have a:Hid (dm x=true):=by show _=_;simp[dm,se];omega
 have b:=dT ((48:Int)<=(x:Int)) (by omega);have c:=dT ((x:Int)<=57) (by omega);have d:=dF ((97:Int)<=(x:Int)) (by omega);have e:=dT ((x:Int)<=122) (by omega);clear h;go_in;go_wp2;go_ret;exact⟨ar a.symm,cC _ _⟩
theorem NO(x:Nat)(w:Wd)(h:58<=x/\x<=96):Cs prog 322 #[.int .i32 (x:Int)] w (an (dm x:Bool) w):=by
 have a:Hid (dm x=false):=by show _=_;simp[dm,se];omega
 have b:=dT ((48:Int)<=(x:Int)) (by omega);have c:=dF ((x:Int)<=57) (by omega);have d:=dF ((97:Int)<=(x:Int)) (by omega);have e:=dT ((x:Int)<=122) (by omega);clear h;go_in;go_wp2;go_ret;exact⟨ar a.symm,cC _ _⟩
theorem NP(x:Nat)(w:Wd)(h:97<=x/\x<=122):Cs prog 322 #[.int .i32 (x:Int)] w (an (dm x:Bool) w):=by
 have a:Hid (dm x=true):=by show _=_;simp[dm,se];omega
 have b:=dT ((48:Int)<=(x:Int)) (by omega);have c:=dF ((x:Int)<=57) (by omega);have d:=dT ((97:Int)<=(x:Int)) (by omega);have e:=dT ((x:Int)<=122) (by omega);clear h;go_in;go_wp2;go_ret;exact⟨ar a.symm,cC _ _⟩
theorem NQ(x:Nat)(w:Wd)(h:123<=x):Cs prog 322 #[.int .i32 (x:Int)] w (an (dm x:Bool) w):=by
 have a:Hid (dm x=false):=by show _=_;simp[dm,se];omega
 have b:=dT ((48:Int)<=(x:Int)) (by omega);have c:=dF ((x:Int)<=57) (by omega);have d:=dT ((97:Int)<=(x:Int)) (by omega);have e:=dF ((x:Int)<=122) (by omega);clear h;go_in;go_wp2;go_ret;exact⟨ar a.symm,cC _ _⟩
theorem GG(x:Nat)(w:Wd):Cs prog 322 #[.int .i32 (x:Int)] w (an (dm x:Bool) w):=by
 by_cases a:x<=47
 ·exact NM x w a
 by_cases h1:48<=x/\x<=57
 ·exact NN x w h1
 by_cases h2:58<=x/\x<=96
 ·exact NO x w h2
 by_cases b:97<=x/\x<=122
 ·exact NP x w b
 exact NQ x w (by omega)
open Go renaming Ending->Ed,Addr->Ad
theorem PW:∀args w,(callFunc 325 args).run prog w=.ok (.enter 325 args) w:=enters_of func325 (by kernel_rfl) rfl
def M0(H:Nat)(w:Wd)(e:Ed)(w':Wd):Prop:=∃b h:Bool,e=.returned b/\cg H w w'/\ai w' H 4 #[h]
theorem Me(H:Nat)(x:Nat)(h:Bool)(w:Wd)(c:ai w H 4 #[h]):
 Cs prog 325 #[.int .i32 (x:Int),.pointer H] w (M0 H w):=by
 have b:=ah (re (x:Int) w);have f:=c.cell 0;have f0:=c.ao 0;simp at f;have a:=ah c;clear c;generalize dv (x:Int)=k at*;by_cases d:k=0
 ·subst d;go_in;go_wp2_with fail;refine b.out.mono ?_;rintro e w' ⟨rfl,rfl⟩;go_wp2;go_ret;exact⟨_,_,rfl,cg.refl _ _,a⟩
 ·have j:(k==0)=false:=by simpa using d
  clear d;by_cases h1:x=34
  ·subst h1
   cases h with
   |false=>
    go_in;go_wp2_with fail;refine b.out.mono ?_;rintro e w' ⟨rfl,rfl⟩;go_wp2;go_ret;exact⟨_,_,rfl,cg.refl _ _,a⟩
   |true=>
    go_in;go_wp2_with fail;refine b.out.mono ?_;rintro e w' ⟨rfl,rfl⟩;go_wp2;go_ret;refine⟨_,false,rfl,cg.set 0 _,?_⟩;have:=a.set 0 false;simpa using this
  ·have g:((x:Int)==34)=false:=by simp;omega
   clear h1;by_cases h2:x=92
   ·subst h2
    cases h with
    |false=>
     go_in;go_wp2_with fail;refine b.out.mono ?_;rintro e w' ⟨rfl,rfl⟩;go_wp2;go_ret;refine⟨_,true,rfl,cg.set 0 _,?_⟩;have:=a.set 0 true;simpa using this
    |true=>
     go_in;go_wp2_with fail;refine aQ b ?_;go_wp2;go_ret;refine⟨_,false,rfl,cg.set 0 _,?_⟩;have:=a.set 0 false;simpa using this
   ·have i:((x:Int)==92)=false:=by simp;omega
    clear h2;go_in;go_wp2_with fail;refine aQ b ?_;go_wp2;go_ret;refine⟨_,false,rfl,cg.set 0 _,?_⟩;have:=a.set 0 false;simpa using this
structure pR(R H:Nat)(w w':Wd):Prop where
 size:w.heap.size<=w'
 same:∀b,b<w.heap.size->b≠R->b≠H->w'.heap[b]?=w.heap[b]?
 du:Bl R w w'
theorem pR.refl(R H:Nat)(w:Wd):pR R H w w:=⟨cB _,fun _ _ _ _=>rfl,cC _ _⟩
theorem pR.l{R H:Nat}{a b c:World}(h:pR R H a b)(k:cg R b c):pR R H a c:=⟨cF h.size k.size,fun x hx h1 h2=>(k.same x (cD hx h.size) h1).trans (h.same x hx h1 h2),h.du.trans k.du⟩
theorem pR.r{R H:Nat}{a b c:World}(h:pR R H a b)(k:cg H b c)(hR:R<=H):pR R H a c:=⟨cF h.size k.size,fun x hx h1 h2=>(k.same x (cD hx h.size) h2).trans (h.same x hx h1 h2),h.du.trans (k.du.mono hR)⟩
theorem pR.cells{α:Type}{f:α->List Vl}{k R H:Nat}{w w':Wd}{A:OA}{n:Nat}{l:List α}(h:pR R H w w')(g:cp f k w A n l)(hA:0<n->∀b off,A=some ⟨b,off,none⟩->b≠R/\b≠H):cp f k w' A n l:=by
 refine⟨Cells.cb g,Cells.eZ g,fun hn=> ?_⟩;obtain⟨b,off,e,c,d⟩:=Cells.at_ g hn;exact⟨b,off,e,cD c h.size,fun i r m j v o=>(dI (a:=⟨b,off+i*k+j,none⟩) (h.same b c (hA hn b off e).1 (hA hn b off e).2)).trans (d i r m j v o)⟩
def TV(R H:Nat)(L:OA)(n c:Nat)(k:Nat)(a b:Int)(w:Wd)(e:Ed)(w':Wd):Prop:=
 ∃(s:ByteArray) (p:Nat),e=.returned (.string s)/\pR R H w w'/\ui w' R L n c (p:Int) a b/\k<=p/\p<=n
set_option maxRecDepth 100000 in
theorem II(R H:Nat)(b off n c:Nat)(rs:List Nat)(k:Nat)(M I:Int)(Q:Bool)(w:Wd)(h:ui w R (some ⟨b,off,none⟩) n c (k:Int) M I)(J:wH w (some ⟨b,off,none⟩) n rs)
 (L:b≠R)(E:b≠H)(uG:R<H)(hk:k<=n)(hn:n<=1000)(S:n<=c)(C:ai w H 4 #[Q]):
 Cs prog 119 #[.pointer R,.func (.func 325) #[] #[.pointer H]] w (TV R H (some ⟨b,off,none⟩) n c k M I w):=by
 have yQ:=J.cb;subst yQ;have F:=ah J;have j:=h.cell 1;simp at j;have HB:=ah h;have B:=ah S;have HH:=ah C;have uB:=h.lt;have eg:=PW;clear J h S C;go_in;go_wp2_with fail
 go_loopw [33] (fun _ wr=>∃(p:Nat) (h1:Bool),k<=p/\p<=rs.length/\pR R H w wr/\ui wr R (some ⟨b,off,none⟩) rs.length c (p:Int) M I/\ai wr H 4 #[h1]) (fun _ wr=>rs.length-(intOf ((wr.cell? ⟨R,1,none⟩).getD undef)).toNat)
 case atStart=>exact⟨k,Q,by omega,by omega,pR.refl _ _ _,HB,HH⟩
 case round=>
  obtain⟨p,h1,s,hp,hs,f,u⟩:=hrel;by_cases Z:p<rs.length
  ·obtain⟨b',uA,x,hA,X,hx,P⟩:=cp.rune (hs.cells F.out (fun _ b1 T v=>by cases v;exact⟨L,E⟩)) Z;cases hA;have m:=f.cell 0;have j:=f.cell 1;simp at m j;have HS:=ah hs;have D:=ah f;have uF:=ah u;have HT:Hid (∀w',Bl wr wr w'->Cs prog 325 #[.int .i32 (x:Int),.pointer H] w' (M0 H w')):=fun w' g=>Me H x h1 w' (u.ae g u.lt);have i:Bl wr wr wr.drew:=bR.drew
   have t:Hid (∀w',Bl wr wr w'->w'.cell? R=some (.slice (some ⟨b,off,none⟩) rs.length c)/\w'.cell? ⟨R,1,none⟩=some (.int .i64 (p:Int))/\w'.cell? ⟨b,off+p,none⟩=some (.int .i32 (x:Int))):=
    fun w' g=>⟨by have:=(f.ae g f.lt).cell 0;simpa using this,by have:=(f.ae g f.lt).cell 1;simpa using this,(g.cell (p:=⟨b,off+p,none⟩) X).trans P⟩
   have uE:Hid (∀w',cg H wr.drew w'->w'.cell? R=some (.slice (some ⟨b,off,none⟩) rs.length c)/\w'.cell? ⟨R,1,none⟩=some (.int .i64 (p:Int))/\w'.cell? ⟨b,off+p,none⟩=some (.int .i32 (x:Int))):=
    fun w' K=>⟨(K.cell (p:=R) (cD f.lt i.size) (by show R≠H;omega)).trans (t _ i).1,(K.cell (p:=⟨R,1,none⟩) (cD f.lt i.size) (by show R≠H;omega)).trans (t _ i).2.1,(K.cell (p:=⟨b,off+p,none⟩) (cD X i.size) E).trans (t _ i).2.2⟩
   have dk:decide (p<rs.length)=true:=by simpa using Z
   clear hs f u hx m j P;go_wp2_with fail
   go_region_held3 (fun w'=>w'.cell? R=some (.slice (some ⟨b,off,none⟩) rs.length c)/\w'.cell? ⟨R,1,none⟩=some (.int .i64 (p:Int))/\w'.cell? ⟨b,off+p,none⟩=some (.int .i32 (x:Int)))
    (first|with_reducible exact t.out _ i|with_reducible exact uE.out _ A)
    (first
      |(go_at_call 325;refine(HT _ i).mono ?_;rintro e w' ⟨bb,C,rfl,A,Y⟩))
   have yZ:wr.heap.size<=w':=cF i.size A.size;have a:=ah (A.ce (D.ae i D.lt) (by omega:R≠H));have o:=ah ((HS.l (cg.aX i (by have:=D.lt;omega))).r A (by omega));have uD:=ah Y;clear A Y
   cases bb with
   |false=>
    go_wp2_with fail;have y:=o.cells F (fun _ b1 T v=>by cases v;exact⟨L,E⟩);have O:p<=c:=by have:=B.out;omega
    have z:∀d,Bl w' w' d->(convert 204 9 (.slice (if c=k then some ⟨b,off,none⟩else some ⟨b,off+k,none⟩) (p-k) (c-k))).run prog d=.ok (.string (jO ((rs.drop k).take (p-k)))) d:=
     fun d h2=>iU (y.ae h2) k p c s (by omega) B _ _ 21 underlying204 underlying21 underlying9
    have N:Hid (∀d,Bl w' w' d->d.cell? R=some (.slice (some ⟨b,off,none⟩) rs.length c)/\d.cell? ⟨R,1,none⟩=some (.int .i64 (p:Int))):=
     fun d g=>⟨by have:=(a.ae g a.lt).cell 0;simpa using this,by have:=(a.ae g a.lt).cell 1;simpa using this⟩
    have G:Bl w' w' w'.drew:=bR.drew;clear y;go_wp2_with fail;refine wq G (by kernel_rfl) (by kernel_rfl) ?_
    repeat((first
     |refine bF rfl ?_
     |(refine cw rfl ⟨?_,fun w' q=> ?_,?_⟩
       rotate_left
       ·obtain⟨m,j⟩:=N w' q;simp[go_sem,m,j,s,O,z w' q]
        try rfl));simp only[aP])
    refine bM ?_;intro w5 b5;clear z;generalize(if c=k then some (⟨b,off,none⟩:Ad)else some ⟨b,off+k,none⟩)=A9;go_wp2;go_ret;refine⟨_,p,rfl,o.l (cg.aX b5 (by have:=a.lt;omega)),a.ae b5 a.lt,s,(by omega)⟩
   |true=>
    have uC:=a.cell 1;simp at uC;have f1:=a.ao 1;go_wp2_with fail;have e1:((p+1:Nat):Int)=(p:Int)+1:=by omega
    have V:=D.cell 1;simp at V;have U:=a.set 1 ((p:Int)+1:Int);have W:=U.cell 1;simp at W;refine⟨⟨p+1,C,by omega,by omega,o.l (cg.set 1 _),?_,?_⟩,?_⟩
    ·rw[e1];simpa [ui]using U
    ·exact uD.ll (p:=⟨R,1,none⟩) (by show H≠R;omega) _
    ·rw[V,W];simp[intOf];omega
  ·obtain rfl:p=rs.length:=by omega
   have uH:=f.lt;have a:=ah f;have o:=ah hs;have dk:decide (rs.length<rs.length)=false:=by simp
   have i:Bl wr wr wr.drew:=bR.drew
   have t:Hid (∀w',Bl wr wr w'->w'.cell? R=some (.slice (some ⟨b,off,none⟩) rs.length c)/\w'.cell? ⟨R,1,none⟩=some (.int .i64 (rs.length:Int))):=
    fun w' g=>⟨by have:=(f.ae g f.lt).cell 0;simpa using this,by have:=(f.ae g f.lt).cell 1;simpa using this⟩
   clear hs f u;go_wp2_with fail;refine wq i (by kernel_rfl) (by kernel_rfl) ?_
   repeat((first
    |refine bF rfl ?_
    |(refine cw rfl ⟨?_,fun w' q=> ?_,?_⟩
      rotate_left
      ·obtain⟨m,j⟩:=t w' q;simp[go_sem,m,j]
       try rfl));simp only[aP])
   refine bM ?_;intro w' b4;have a:=ah (a.ae b4 a.lt);have o:=ah (o.l (cg.aX b4 (by omega)));go_wp2_with fail;have y:=o.cells F (fun _ b1 T v=>by cases v;exact⟨L,E⟩);have O:rs.length<=c:=by have:=B.out;omega
   have z:∀d,Bl w' w' d->(convert 204 9 (.slice (if c=k then some ⟨b,off,none⟩else some ⟨b,off+k,none⟩) (rs.length-k) (c-k))).run prog d=.ok (.string (jO ((rs.drop k).take (rs.length-k)))) d:=
    fun d h2=>iU (y.ae h2) k rs.length c s lr B _ _ 21 underlying204 underlying21 underlying9
   have N:Hid (∀d,Bl w' w' d->d.cell? R=some (.slice (some ⟨b,off,none⟩) rs.length c)/\d.cell? ⟨R,1,none⟩=some (.int .i64 (rs.length:Int))):=
    fun d g=>⟨by have:=(a.ae g a.lt).cell 0;simpa using this,by have:=(a.ae g a.lt).cell 1;simpa using this⟩
   have G:Bl w' w' w'.drew:=bR.drew;clear y;go_wp2_with fail;refine wq G (by kernel_rfl) (by kernel_rfl) ?_
   repeat((first
    |refine bF rfl ?_
    |(refine cw rfl ⟨?_,fun w' q=> ?_,?_⟩
      rotate_left
      ·obtain⟨m,j⟩:=N w' q;simp[go_sem,m,j,s,O,z w' q]
       try rfl));simp only[aP])
   refine bM ?_;intro w5 b5;clear z;generalize(if c=k then some (⟨b,off,none⟩:Ad)else some ⟨b,off+k,none⟩)=A9;go_wp2;go_ret;refine⟨_,rs.length,rfl,o.l (cg.aX b5 (by have:=a.lt;omega)),a.ae b5 a.lt,s,lr⟩
end Go.Proofs.YthfhilggbbobmaaGreatDoor
