/- Parts of the proof. -/
import Derived.Test.YthfhilggbbobmaaGreatDoorK2
import Derived.Test.YthfhilggbbobmaaGreatDoorK22
import Derived.Test.YthfhilggbbobmaaGreatDoorK25
set_option linter.all false
set_option maxHeartbeats 20000000
namespace Go.Proofs.YthfhilggbbobmaaGreatDoor
open Go.Proofs.Tryz
open Go.RowKit
def wS(l:List Us)(b a:ByteArray)(k:Int)(w:World)(e:Ending)(w':World):Prop:=∃A n c l',e=.returned (.tuple #[.slice A n c,.int .i64 (sb l b a k)])/\Below w.heap.size w w'/\(sb l b a k=0->mL w' w.heap.size A n c l'/\fm l'=true)
variable{l:List Us}{k:Int}{w:World}
theorem vQ{f c:ByteArray}{w':World}{a:Int}(g:a≠0)(d:sb l f c k=a)(b:Below w.heap.size w w'):wS l f c k w (.returned (.tuple #[.slice none 0 0,.int .i64 a])) w':=⟨none,0,0,[],by rw[d],b,fun e=>absurd (d.symm.trans e) g⟩
theorem R5:∀p1 p2 a:Bool,(p1=false\/(p1=true/\p2=false)\/(p1=true/\p2=true/\a=true))\/(p1=true/\p2=true/\a=false):=by
 intro p1 p2 a;cases p1<;>cases p2<;>cases a<;>simp
variable{b:ByteArray}
theorem Nw{a:ByteArray}(h:fm l=true)(h2:(jj b&&jj a&&decide (0<=k))=false):sb l b a k=2:=by
 unfold sb;rw[if_neg (by rw[h];decide),if_pos h2]
theorem Kl{a:ByteArray}(h:fm l=true)(h2:(jj b&&jj a&&decide (0<=k))=true)(c:pF l b a=false)(d:l.length=200):sb l b a k=3:=by
 unfold sb;rw[if_neg (by rw[h];decide),if_neg (by rw[h2];decide),if_pos ⟨c,d⟩]
theorem QW{c:ByteArray}(h:fm l=true)(h2:(jj c&&jj b&&decide (0<=k))=true)(a:pF l c b=true\/l.length≠200):sb l c b k=0:=by
 unfold sb
 rw[if_neg (by rw[h];decide),if_neg (by rw[h2];decide),if_neg (fun e=>by
  rcases a with a|a
  ·rw[a]at e;cases e.1
  ·exact a e.2)]
theorem Qg.place{a:ByteArray}{i:Nat}(p:Qg l ⟨b,a,0,0⟩ i i):Gb l b a i:=⟨p.cf,p.lt,p.ge⟩
theorem AJ{V:World}{o p:Obj}(b:Below V.heap.size V w):Below V.heap.size V ((w.alloc o).alloc p):=(b.alloc b.size _).alloc (b.alloc b.size _).size _
theorem Ss{V:World}{o:Obj}(b:Below V.heap.size V w):Below V.heap.size V (w.alloc o):=b.alloc b.size _
theorem ye(W:World)(x y:Int)(t:TypeId)(o:Obj):fs ((W.alloc (.cells #[.int .i64 x,.int .i64 y] t)).alloc o) (some ⟨W.heap.size,0,none⟩) 2 [x,y]:=(qh W x y t).ae (aA)
theorem CP(W:World)(x y:Int)(t:TypeId)(o:Obj):fs ((W.alloc (.cells #[.int .i64 x,.int .i64 y] t)).alloc o).drew (some ⟨W.heap.size,0,none⟩) 2 [x,y]:=(ye W x y t o).ae (Below.refl _ _).drew
theorem yg(W:World)(o:Obj)(x y:Int)(t:TypeId):fs ((W.alloc o).alloc (.cells #[.int .i64 x,.int .i64 y] t)) (some ⟨W.heap.size+1,0,none⟩) 2 [x,y]:=by
 have h:=qh (W.alloc o) x y t;simpa using h
theorem CQ(W:World)(o:Obj)(x y:Int)(t:TypeId):fs ((W.alloc o).alloc (.cells #[.int .i64 x,.int .i64 y] t)).drew (some ⟨W.heap.size+1,0,none⟩) 2 [x,y]:=(yg W o x y t).ae (Below.refl _ _).drew
structure Fin(w wr:World)(A:Option Addr)(n c i:Nat)(l1:List Us)(u:Us)(k:Int):Prop where
 own:mL wr w.heap.size A n c l1
 du:Below w.heap.size w wr
 at_:l1[i]?=some u
 ok:fm (l1.set i (wK u k))=true
theorem Em{wr w':World}{g n c i:Nat}{a:List Us}{u:Us}(h:Fin w wr (some ⟨g,0,none⟩) n c i a u k)(f:w.heap.size<=g){j d:ByteArray}(m:sb l j d k=0)
 (e:Below ((wr.setCell ⟨g,i*4+2,none⟩ (.int .i64 (gO u.ud k))).setCell ⟨g,i*4+3,none⟩ (.int .i64 (gO u.sh k))).heap.size ((wr.setCell ⟨g,i*4+2,none⟩ (.int .i64 (gO u.ud k))).setCell ⟨g,i*4+3,none⟩ (.int .i64 (gO u.sh k))) w'):
 wS l j d k w (.returned (.tuple #[.slice (some ⟨g,0,none⟩) n c,.int .i64 0])) w':=by
 refine⟨_,n,c,a.set i (wK u k),by rw[m],aa ((h.du.setCell (p:=⟨g,i*4+2,none⟩) f _).setCell (p:=⟨g,i*4+3,none⟩) f _) e,fun _=>⟨?_,h.ok⟩⟩;have o:=eW na h.own i 2 (by omega) h.at_ (x:={u with ud:=gO u.ud k}) (v:=.int .i64 (gO u.ud k)) rfl;have h2:(a.set i {u with ud:=gO u.ud k})[i]?=some {u with ud:=gO u.ud k}:=List.getElem?_set_self (List.getElem?_eq_some_iff.1 h.at_).1;have b:=eW na o i 3 (by omega) h2 (x:=wK u k) (v:=.int .i64 (gO u.sh k)) rfl;rw[List.set_set]at b;exact⟨b.1,b.2.ae e⟩
set_option maxRecDepth 100000 in
theorem sq(A:Option Addr)(n c:Nat)(l:List Us)(j d:ByteArray)(k:Int)(w:World)(h:Aw w A n l)(hle:n<=c)(hA:A=none->c=0)(hc:fm l=true):
 Calls prog 162 #[.slice A n c,.string j,.string d,.int .i64 k] w (wS l j d k w):=by
 have hlen:=h.cb;subst hlen;have hfew:=(gh.1 hc).cf;have Q:=ah (kW A l.length c l w h (by simp[maxLen];omega));have e0:ls l=0:=by simp[ls,hc]
 rw[e0]at Q;have HNm:=ah fun(s:ByteArray) (W:World)=>nh s W;have P:=ah hc;have HH:=ah h;have J:Hid ((jj j&&jj d&&decide (0<=k))=false->sb l j d k=2):=Nw hc;obtain⟨p1,q1⟩:∃p,jj j=p:=⟨_,rfl⟩;obtain⟨p2,q2⟩:∃p,jj d=p:=⟨_,rfl⟩;obtain⟨p3,q3⟩:∃p,decide (k<0)=p:=⟨_,rfl⟩;have T:=ah fun(W:World)=>nh j W;have U:=ah fun(W:World)=>nh d W;rw[q1]at T;rw[q2]at U;have Q1:=ah q1;have Q2:=ah q2;have Q3:=ah q3;clear h hc e0 q1 q2 HNm;rcases R5 p1 p2 p3 with(rfl|⟨rfl,rfl⟩|⟨rfl,rfl,rfl⟩)|⟨rfl,rfl,rfl⟩
 iterate 3
  ·have HV:Hid (sb l j d k=2):=J.out (by
    rw[Q1.out]
    first|rfl|(rw[Q2.out];first|rfl|(have:=Q3.out;simp at this;simp;omega)))
   go_enter func162,ntmps162;go_wp2_with fail;refine av Q.out fun M b1=> ?_;have N:=ah b1;clear b1;go_wp2_with(first|(go_at_call 54;with_reducible refine(T.out _).mono ?_;rintro e w9 ⟨rfl,rfl⟩)|(go_at_call 54;with_reducible refine(U.out _).mono ?_;rintro e w9 ⟨rfl,rfl⟩));go_ret2;exact vQ (by decide) HV.out N.out
 ·have hq:(jj j&&jj d&&decide (0<=k))=true:=by
   rw[Q1.out,Q2.out];have:=Q3.out;simp at this;simp;omega
  have HQ:=ah hq;have HOk:Hid (pF l j d=true\/l.length≠200->sb l j d k=0):=QW P.out hq;have S:Hid (pF l j d=false->l.length=200->sb l j d k=3):=Kl P.out hq;have HUp:=ah (gh.1 P.out).up;have HTx:Hid (jj j=true/\jj d=true):=⟨Q1.out,Q2.out⟩;clear hq J;go_enter func162,ntmps162;go_wp2_with fail;refine av Q.out fun M b1=> ?_;have N:=ah b1;have HN:Hid (ai (M.alloc (.cells #[.string ⟨#[]⟩,.string ⟨#[]⟩,.int .i64 0,.int .i64 0] 83)) M.heap.size 83 #[.string ⟨#[]⟩,.string ⟨#[]⟩,.int .i64 0,.int .i64 0]):=ai.new _ _ _;obtain⟨V,hV⟩:∃V,V=(M.alloc (.cells #[.string ⟨#[]⟩,.string ⟨#[]⟩,.int .i64 0,.int .i64 0] 83)).setRow M.heap.size (mU ⟨j,d,0,0⟩):=⟨_,rfl⟩;have bV:Below M.heap.size M V:=hV▸aD;have HK:Hid (ai V M.heap.size 83 (mU ⟨j,d,0,0⟩)):=by show ai _ _ _ _;rw[hV];exact ai.row HN.out _
  have HBV:=ah (aa N.out bV);have HBs:=ah (DY A l.length c l ⟨j,d,0,0⟩ V (HH.out.ae HBV.out) (by omega) HUp.out);clear b1 bV;go_wp2_with(first|(rw[<-hV];clear hV;refine cr rfl _ _ rfl HK.out rfl underlying83 rfl py rfl ?_)|(refine dp rfl _ _ _ rfl HN.out rfl rfl py rfl rfl rfl ?_)|(refine cr rfl _ _ rfl HK.out rfl underlying83 rfl py rfl ?_)|(go_at_call 54;with_reducible refine(T.out _).mono ?_;rintro e w9 ⟨rfl,rfl⟩)|(go_at_call 54;with_reducible refine(U.out _).mono ?_;rintro e w9 ⟨rfl,rfl⟩));refine HBs.out.mono ?_;rintro e w3 ⟨i,f,rfl,hp,hf,b3⟩;have O:=ah (aa HBV.out b3);have HP:=ah hp;have H:=ah hf;have HK3:=ah (HK.out.ae b3 HK.out.lt);have Z:=hp.cf;have HCl:=ah (Ah A l.length c l w3 (HH.out.ae O.out) (by omega) hA);clear hp hf b3;go_wp2_with fail;refine HCl.out.mono ?_;rintro e F ⟨A4,c4,rfl,o4,b4⟩;have HO4:=ah o4;have z:=ah (aa O.out b4);have HK4:=ah (HK3.out.ae b4 HK3.out.lt);clear o4 b4;cases f
  ·have hsn:pF l j d=false:=by
    cases hs:pF l j d
    ·rfl
    ·have:=H.out.2 ((zq P.out HP.out.place).1 hs);cases this
   have HSn:=ah hsn;have HNo:Hid (∀x,l[i]?=some x->fa x ⟨j,d,0,0⟩≠0):=fun x hx e=>by have:=H.out.2 ⟨x,hx,e⟩;cases this
   clear hsn;by_cases B:l.length=200
   ·have HV3:=ah (S.out HSn.out B);have C:(l.length:Int)=200:=by omega
    go_wp2_with fail;go_ret2;exact vQ (by decide) HV3.out z.out
   have m:pF l j d=true\/l.length≠200:=.inr B;have C:¬(l.length:Int)=200:=by omega
   have HIn:=ah (G3 A l.length c i l ⟨j,d,0,0⟩ F (HH.out.ae z.out) (by omega) Z hle hA);have HY:=ah m;clear B m;go_wp2_with(first|(refine cr rfl _ _ rfl HK4.out rfl underlying83 rfl py rfl ?_));refine HIn.out.mono ?_;rintro e G ⟨A5,c5,rfl,o5,b5⟩;have E:=QX P.out HP.out.place HNo.out HTx.out.1 HTx.out.2 (fun e=>C (by omega)) k;have D:(l.take i++(⟨j,d,0,0⟩:Us)::l.drop i).length=l.length+1:=by simp;omega
   have r:(l.take i++(⟨j,d,0,0⟩:Us)::l.drop i)[i]?=some ⟨j,d,0,0⟩:=by
    rw[List.getElem?_append_right (by simp;omega),List.length_take,Nat.min_eq_left Z,Nat.sub_self];rfl
   have K:(l.take i++(⟨j,d,0,0⟩:Us)::l.drop i).set i (wK ⟨j,d,0,0⟩ k)=l.take i++wK ⟨j,d,0,0⟩ k::l.drop i:=by
    rw[List.set_append_right _ _ (by simp;omega),List.length_take,Nat.min_eq_left Z,Nat.sub_self];rfl
   rw[<-K]at E;obtain⟨l1,hl1⟩:∃l1,l1=l.take i++(⟨j,d,0,0⟩:Us)::l.drop i:=⟨_,rfl⟩;rw[<-hl1]at E r D o5;obtain⟨u,hu⟩:∃u:Us,u=⟨j,d,0,0⟩:=⟨_,rfl⟩;rw[<-hu]at E r;have R:Hid (Fin w G A5 l1.length c5 i l1 u k):=⟨aS o5 z.out.size,aa z.out b5,r,E⟩;have hin:i<l1.length:=by omega
   have m:=HY.out;rw[<-hl1];clear E r K o5 b5 hl1 hu D;obtain⟨g,x,rfl,hg,t,hx,b,y⟩:=bh na R.out.own hin;have hxu:x=u:=by have:=R.out.at_;rw[hx]at this;injection this
   subst hxu;have hin2:(i:Int)<(l1.length:Int):=by omega
   have q:Hid (∀W,Below G.heap.size G W->W.cell? ⟨g,i*4+2,none⟩=some (.int .i64 x.ud)/\W.cell? ⟨g,i*4+3,none⟩=some (.int .i64 x.sh)):=fun W hW=>⟨(World.cell?_of_block (a:=⟨g,i*4+2,none⟩) (hW.block g t)).trans (b 2 _ rfl),(World.cell?_of_block (a:=⟨g,i*4+3,none⟩) (hW.block g t)).trans (b 3 _ rfl)⟩;have d2:=b 2 _ rfl;have d3:=b 3 _ rfl;have f2:=(y 2 (by omega)).2;have f3:=(y 3 (by omega)).2;have I:Below G.heap.size G G:=Below.refl _ _;have X:=ah fun A c W (h:fs W A 2 [x.ud,k])=>nr x.ud k A c W h;have Y:=ah fun A c W (h:fs W A 2 [x.sh,k])=>nr x.sh k A c W h;have v:=ah fun(w':World)=>Em (w':=w') R.out hg (HOk.out m);clear b y hx;go_wp2_with fail;have E2:∀o,(G.alloc o).cell? ⟨g,i*4+2,none⟩=some (.int .i64 x.ud):=fun o=>(q.out _ (Ss I)).1;have E3:∀o,(G.alloc o).cell? ⟨g,i*4+3,none⟩=some (.int .i64 x.sh):=fun o=>(q.out _ (Ss I)).2;have E22:∀o p,((G.alloc o).alloc p).cell? ⟨g,i*4+2,none⟩=some (.int .i64 x.ud):=fun o p=>(q.out _ (AJ I)).1;have E33:∀o p,((G.alloc o).alloc p).cell? ⟨g,i*4+3,none⟩=some (.int .i64 x.sh):=fun o p=>(q.out _ (AJ I)).2
   go_region_with
    (first
      |(go_at_call 275;with_reducible refine(X.out _ _ _ ?_).mono ?_;(first|with_reducible exact qh _ _ _ _|with_reducible exact Bz _ _ _ _|with_reducible exact ye _ _ _ _ _|with_reducible exact CP _ _ _ _ _|with_reducible exact ints2c _ _ _ _ _|with_reducible exact CQ _ _ _ _ _|with_reducible exact yg _ _ _ _ _);rintro e w9 ⟨rfl,rfl⟩)
      |(go_at_call 275;with_reducible refine(Y.out _ _ _ ?_).mono ?_;(first|with_reducible exact qh _ _ _ _|with_reducible exact Bz _ _ _ _|with_reducible exact ye _ _ _ _ _|with_reducible exact CP _ _ _ _ _|with_reducible exact ints2c _ _ _ _ _|with_reducible exact CQ _ _ _ _ _|with_reducible exact yg _ _ _ _ _);rintro e w9 ⟨rfl,rfl⟩))
   all_goals go_wp2_with fail
   all_goals go_ret2
   all_goals first
    |exact v.out _ (AJ (Below.refl _ _)).drew
    |exact v.out _ (AJ (Below.refl _ _))
    |exact v.out _ (AJ (Below.refl _ _).drew)
  ·obtain⟨u,r,-⟩:=H.out.1 rfl;have L:pF l j d=true:=(zq P.out HP.out.place).2 (H.out.1 rfl);have m:pF l j d=true\/l.length≠200:=.inl L;have R:Hid (Fin w F A4 l.length c4 i l u k):=⟨aS HO4.out O.out.size,z.out,r,Km P.out r k⟩;have hin:i<l.length:=(List.getElem?_eq_some_iff.1 r).1;clear r L;obtain⟨g,x,rfl,hg,t,hx,b,y⟩:=bh na R.out.own hin;have hxu:x=u:=by have:=R.out.at_;rw[hx]at this;injection this
   subst hxu;have hin2:(i:Int)<(l.length:Int):=by omega
   have q:Hid (∀W,Below F.heap.size F W->W.cell? ⟨g,i*4+2,none⟩=some (.int .i64 x.ud)/\W.cell? ⟨g,i*4+3,none⟩=some (.int .i64 x.sh)):=fun W hW=>⟨(World.cell?_of_block (a:=⟨g,i*4+2,none⟩) (hW.block g t)).trans (b 2 _ rfl),(World.cell?_of_block (a:=⟨g,i*4+3,none⟩) (hW.block g t)).trans (b 3 _ rfl)⟩;have d2:=b 2 _ rfl;have d3:=b 3 _ rfl;have f2:=(y 2 (by omega)).2;have f3:=(y 3 (by omega)).2;have I:Below F.heap.size F F:=Below.refl _ _;have X:=ah fun A c W (h:fs W A 2 [x.ud,k])=>nr x.ud k A c W h;have Y:=ah fun A c W (h:fs W A 2 [x.sh,k])=>nr x.sh k A c W h;have v:=ah fun(w':World)=>Em (w':=w') R.out hg (HOk.out m);clear b y hx;go_wp2_with fail;have E2:∀o,(F.alloc o).cell? ⟨g,i*4+2,none⟩=some (.int .i64 x.ud):=fun o=>(q.out _ (Ss I)).1;have E3:∀o,(F.alloc o).cell? ⟨g,i*4+3,none⟩=some (.int .i64 x.sh):=fun o=>(q.out _ (Ss I)).2;have E22:∀o p,((F.alloc o).alloc p).cell? ⟨g,i*4+2,none⟩=some (.int .i64 x.ud):=fun o p=>(q.out _ (AJ I)).1;have E33:∀o p,((F.alloc o).alloc p).cell? ⟨g,i*4+3,none⟩=some (.int .i64 x.sh):=fun o p=>(q.out _ (AJ I)).2
   go_region_with
    (first
      |(go_at_call 275;with_reducible refine(X.out _ _ _ ?_).mono ?_;(first|with_reducible exact qh _ _ _ _|with_reducible exact Bz _ _ _ _|with_reducible exact ye _ _ _ _ _|with_reducible exact CP _ _ _ _ _|with_reducible exact ints2c _ _ _ _ _|with_reducible exact CQ _ _ _ _ _|with_reducible exact yg _ _ _ _ _);rintro e w9 ⟨rfl,rfl⟩)
      |(go_at_call 275;with_reducible refine(Y.out _ _ _ ?_).mono ?_;(first|with_reducible exact qh _ _ _ _|with_reducible exact Bz _ _ _ _|with_reducible exact ye _ _ _ _ _|with_reducible exact CP _ _ _ _ _|with_reducible exact ints2c _ _ _ _ _|with_reducible exact CQ _ _ _ _ _|with_reducible exact yg _ _ _ _ _);rintro e w9 ⟨rfl,rfl⟩))
   all_goals go_wp2_with fail
   all_goals go_ret2
   all_goals first
    |exact v.out _ (AJ (Below.refl _ _)).drew
    |exact v.out _ (AJ (Below.refl _ _))
    |exact v.out _ (AJ (Below.refl _ _).drew)
end Go.Proofs.YthfhilggbbobmaaGreatDoor
