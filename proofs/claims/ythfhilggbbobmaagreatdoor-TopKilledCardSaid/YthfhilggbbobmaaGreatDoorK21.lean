/- Parts of the proof. -/
import Derived.Test.YthfhilggbbobmaaGreatDoorK20
import Derived.Test.YthfhilggbbobmaaGreatDoorK12
set_option linter.all false
set_option maxHeartbeats 20000000
namespace Go.Proofs.YthfhilggbbobmaaGreatDoor
open Go.Proofs.Tryz
structure Dp where
 uz:Int
 bD:Int
deriving DecidableEq
structure Jb where
 id:Int
 nm:ByteArray
 us:ByteArray
 ac:ByteArray
 sh:Sh
 pr:Int
 af:List Dp
 st:Int
 hd:Bool
 bo:Int
 pm:Int
 ch:Int
 sa:Int
 li:Int
 nd:Nat
 ud:Int
structure Rz where
 jb:Int
 gr:Bool
 nd:Nat
 sd:Nat
 si:Int
structure Us where
 us:ByteArray
 ac:ByteArray
 ud:Int
 sh:Int
structure St where
 am:Int
 ag:List Nd
 aj:List Jb
 bx:List Rz
 aZ:List Bk
 bK:List Us
 nj:Int
 nb:Int
def I8(n:Int):Int:=if n<0 then 0 else if 1000000<n then 1000000 else n
def pJ(n:Int):Int:=if n<0 then 0 else if 1000000000000<n then 1000000000000 else n
def gO(a b:Int):Int:=if 1000000000000<pJ a+pJ b then 1000000000000 else pJ a+pJ b
theorem zr(a b:Int):pJ (gO a b)=gO a b:=by
 unfold gO pJ
 repeat' split
 all_goals omega
def By(n:Int):Bool:=decide (1<=n)&&decide (n<=99999)
def AB(l:List Dp):Bool:=l.all (fun d=>decide (1<=d.uz)&&decide (d.uz<=3)&&By d.bD)&&decide (l.Pairwise (fun a b=>a.bD≠b.bD))&&decide (l.length<=4)
def Dv(nm d a:ByteArray)(sh:Sh)(c:Int)(b:List Dp):Bool:=
 decide (sh.al.length<=6)&&decide (b.length<=4)&&decide (0<=c)&&decide (c<=100)&&jv nm&&jv d&&jv a&&ki d&&ki a&&AB b&&bQ sh
def fw(sh:Sh)(c:Int):Option Al:=if 0<=c then(eO sh)[c.toNat]? else none
def nw(s:Nat):Bool:=eH s (2^48-1)==0
def jZ(j:Jb):Bool:=j.sa==0&&j.li==0&&j.nd==0&&(j.pm== -1&&j.ch==0||bZ j.pm&&(fw j.sh j.ch).isSome&& !j.hd)
def vm(j:Jb):Bool:=
 match fw j.sh j.ch with
 |none=>false
 |some a=> !j.hd&&bZ j.sa&&bZ j.pm&&decide (j.sa<=j.pm)&&bZ j.li&&j.li-j.sa==a.wl&&nw j.nd&&gg j.sh j.ch ((dw j.nd).length:Int)
def zm(j:Jb):Bool:=j.nd==0&&bZ j.sa&&bZ j.li&&decide (-1<=j.pm)&&decide (j.pm<=1000000)&&decide (0<=j.ch)&&decide (j.ch<=48)
def pK(s:Int):Bool:=decide (3<=s)&&decide (s<=7)
def ka(j:Jb):Bool:=if j.st=1 then jZ j else if j.st=2 then vm j else if pK j.st then zm j else false
def Bx(j:Jb):Bool:=By j.id&&bZ j.bo&&Dv j.nm j.us j.ac j.sh j.pr j.af&& !(j.af.any fun d=>decide (j.id<=d.bD))
def fg(j:Jb):Bool:=Bx j&&pJ j.ud==j.ud&&ka j
def Bo(j:Jb):Jb:={j with pm:= -1,ch:=0}
def ix(j:Jb)(at_ a:Int):Jb:={j with pm:=at_,ch:=a}
def jB(j:Jb)(am a:Int)(set:Nat):Jb:={j with st:=2,sa:=am,li:=am+a,nd:=set}
def gX(j:Jb)(s:Int):Jb:=if j.st=1 then{j with hd:=false,pm:= -1,ch:=0,st:=s,nd:=0}else{j with st:=s,nd:=0}
def rb(j:Jb)(n:Int):Jb:={j with ud:=gO j.ud n}
def Bm(j:Jb):Int:=if fg j then if j.st=1 then 0 else 141 else 140
def pE(j:Jb)(at_ a:Int):Int:=if fg j then if j.st=1/\j.hd=false then if(fw j.sh a).isSome&&bZ at_ then 0 else 2 else 141 else 140
def fl(j:Jb):Int:=((fw j.sh j.ch).map Al.wl).getD 0
def sizeOf(j:Jb):Int:=((fw j.sh j.ch).map Al.nd).getD 0
def mQ(j:Jb)(am:Int)(set:Nat):Int:=
 if fg j=false then 140 else if j.st≠1\/j.pm<0\/j.pm<am then 141 else if nw set=false\/((dw set).length:Int)≠sizeOf j then 152 else if bZ am=false\/1000000<I8 am+I8 (fl j)then 153 else 0
def kK(j:Jb)(s:Int):Int:=if fg j=false then 140 else if pK s=false then 2 else if j.st=2\/(j.st=1/\s=6)then 0 else 141
def jV(j:Jb):Int:=if fg j then if j.st=2 then 0 else 141 else 140
variable{j:Jb}
theorem fv:fg j=true↔Bx j=true/\pJ j.ud=j.ud/\ka j=true:=by simp[fg,rK]
theorem Pd(h:fg j=true)(hs:j.st=2):vm j=true:=by
 have:=(fv.1 h).2.2;simpa [ka,hs]using this
theorem lm(h:fg j=true)(hs:j.st=1):jZ j=true:=by
 have:=(fv.1 h).2.2;simpa [ka,hs]using this
theorem E8(h:fg j=true):bQ j.sh=true:=by
 have:=(fv.1 h).1;simp[Bx,Dv]at this;exact this.1.2.2
theorem vn(h:vm j=true):∃a,fw j.sh j.ch=some a/\j.hd=false/\bZ j.sa=true/\bZ j.pm=true/\j.sa<=j.pm/\bZ j.li=true/\j.li-j.sa=a.wl/\nw j.nd=true/\gg j.sh j.ch ((dw j.nd).length:Int)=true:=by
 unfold vm at h
 cases ho:fw j.sh j.ch with
 |none=>rw[ho]at h;simp at h
 |some a=>
  rw[ho]at h;simp only[cH,dA,nD,iC]at h;obtain⟨⟨⟨⟨⟨⟨⟨h1,h2⟩,b⟩,c⟩,d⟩,e⟩,f⟩,h8⟩:=h;exact⟨a,rfl,h1,h2,b,c,d,e,f,h8⟩
theorem gn(h:jZ j=true):j.sa=0/\j.li=0/\j.nd=0/\((j.pm= -1/\j.ch=0)\/(bZ j.pm=true/\(fw j.sh j.ch).isSome=true/\j.hd=false)):=by
 simp[jZ,rK]at h;exact h
variable{c:Int}
theorem zj{sh:Sh}{a:Al}(h:fw sh c=some a):0<=c/\c<48:=by
 unfold fw at h;split at h
 ·have:=(cA.1 h).1;have:=kY (s:=sh);omega
 ·cases h
theorem BQ{sh:Sh}{a:Al}(b:bQ sh=true)(h:fw sh c=some a):fu a=true:=by
 unfold fw at h;split at h
 ·exact Pk b (cG h)
 ·cases h
theorem Lv{sh:Sh}{a:Al}(h:fw sh c=some a):gg sh c a.nd=true:=by
 unfold fw at h;split at h
 ·rename_i b;have:=E9 h
  rwa [Int.toNat_of_nonneg b]at this
 ·cases h
theorem Re(h:fg j=true)(hs:j.st=1):fg (Bo j)=true:=by
 obtain⟨h1,h2,d⟩:=fv.1 h;obtain⟨a,b,c,-⟩:=gn (lm h hs);exact fv.2 ⟨h1,h2,by simp[ka,Bo,hs,jZ,a,b,c]⟩
theorem SF{a:Int}(h:pE j a c=0):fg (ix j a c)=true/\fg j=true/\j.st=1/\j.hd=false/\0<=a:=by
 unfold pE at h;split at h
 ·rename_i d;split at h
  ·rename_i hs;split at h
   ·rename_i b;simp at b;obtain⟨h1,h2,i⟩:=fv.1 d;obtain⟨e,f,g,-⟩:=gn (lm d hs.1);exact⟨fv.2 ⟨h1,h2,by simp[ka,ix,hs.1,hs.2,jZ,e,f,g,b.1,b.2]⟩,d,hs.1,hs.2,(ej.1 b.2).1⟩
   ·simp at h
  ·simp at h
 ·simp at h
variable{am:Int}
theorem ue{set:Nat}(h:mQ j am set=0):fg (jB j am (fl j) set)=true/\fg j=true/\j.st=1/\1<=fl j/\bZ am=true:=by
 unfold mQ at h;split at h
 ·simp at h
 rename_i c;split at h
 ·simp at h
 rename_i hs;split at h
 ·simp at h
 rename_i f;split at h
 ·simp at h
 rename_i ht;simp only[not_or,Decidable.not_not,Int.not_lt,Bool.not_eq_false]at c hs f ht;obtain⟨i,x,o⟩:=hs;obtain⟨h1,h2,t⟩:=fv.1 c;obtain⟨u,v,w,d⟩:=gn (lm c i);have m:j.pm≠ -1:=by omega
 obtain⟨p1,p2,n⟩:bZ j.pm=true/\(fw j.sh j.ch).isSome=true/\j.hd=false:=by
  rcases d with d|d
  ·exact absurd d.1 m
  ·exact d
 obtain⟨a,b⟩:=l9.1 p2;have hw:fl j=a.wl:=by simp[fl,b]
 have hn:sizeOf j=a.nd:=by simp[sizeOf,b]
 obtain⟨p,q,r,s⟩:=m7.1 (BQ (E8 c) b);rw[hw]at ht⊢;rw[hn]at f;obtain⟨g,e⟩:=ht;have y:=ej.1 g
 have l:bZ (am+a.wl)=true:=by
  rw[ej];unfold I8 at e;split at e<;>(try split at e)<;>(try split at e)<;>(try split at e)<;>omega
 refine⟨fv.2 ⟨h1,h2,?_⟩,c,i,by omega,g⟩;have k:=Lv b;rw[<-f.2]at k;simp[ka,jB,vm,b,n,g,p1,o,l,f.1,k];omega
theorem CJ{s:Int}(h:kK j s=0):fg (gX j s)=true/\fg j=true/\pK s=true/\(j.st=2\/j.st=1):=by
 unfold kK at h;split at h
 ·simp at h
 rename_i c;split at h
 ·simp at h
 rename_i b;split at h
 case isFalse=>simp at h
 rename_i hs;simp only[Bool.not_eq_false]at c b;obtain⟨h1,h2,m⟩:=fv.1 c
 have d:s≠1/\s≠2:=by
  simp[pK]at b;omega
 refine⟨?_,c,b,hs.imp id (·.1)⟩;rcases hs with hs|⟨hs,-⟩
 ·obtain⟨a,g,p,i,k,q,l,r,t,u⟩:=vn (Pd c hs);have:=ej.1 k;have:=zj g;refine fv.2 ⟨?_,?_,?_⟩
  ·simp only[gX,hs];exact h1
  ·simp only[gX,hs];exact h2
  ·simp[gX,hs,ka,d,b,zm,i,l];omega
 ·obtain⟨e,f,n,o⟩:=gn (lm c hs);refine fv.2 ⟨?_,?_,?_⟩
  ·simp only[gX,hs];exact h1
  ·simp only[gX,hs];exact h2
  ·simp[gX,hs,ka,d,b,zm,e,f,bZ]
variable{n:Int}
theorem Kj(h:jV j=0):fg (rb j n)=true/\fg j=true/\j.st=2:=by
 unfold jV at h;split at h
 ·rename_i a;split at h
  ·rename_i hs;obtain⟨h1,h2,b⟩:=fv.1 a;exact⟨fv.2 ⟨h1,zr _ _,b⟩,a,hs⟩
  ·simp at h
 ·simp at h
def gC(l:List Jb):Bool:=decide (l.length<=40)&&l.all fg&&decide (l.Pairwise (fun a b=>a.id<b.id))
def gd(l:List Jb):Int:=if gC l then 0 else 140
def eh(l:List Jb)(id:Int):Option Jb:=if gC l&&By id then l.find? (fun j=>j.id==id)else none
def gv(l:List Jb)(j:Jb):List Jb:=l.map (fun x=>if x.id=j.id then j else x)
def sW(l:List Jb)(j:Jb):Int:=if gC l=false then 140 else if fg j=false then 140 else if l.any (fun x=>x.id==j.id)then 0 else 140
structure vI(l:List Jb):Prop where
 cf:l.length<=40
 ok:∀j∈l,fg j=true
 up:l.Pairwise (fun a b=>a.id<b.id)
variable{l:List Jb}
theorem ds:gC l=true↔vI l:=by
 simp only[gC,cH,dA,dC];exact⟨fun⟨⟨h1,h2⟩,a⟩=>⟨h1,h2,a⟩,fun h=>⟨⟨h.cf,h.ok⟩,h.up⟩⟩
theorem mo(h:l.Pairwise (fun a b=>a.id<b.id)){a b:Jb}(f:a∈l)(j:b∈l)(e:a.id=b.id):a=b:=by
 induction l with
 |nil=>cases f
 |cons x r ih=>
  rw[dY]at h;rcases dK.1 f with c|g<;>rcases dK.1 j with d|i
  ·rw[c,d]
  ·have:=h.1 b i;rw[<-c]at this;omega
  ·have:=h.1 a g;rw[<-d]at this;omega
  ·exact ih h.2 g i
theorem no(h:fg j=true):By j.id=true:=by
 have:=(fv.1 h).1;simp[Bx]at this;exact this.1.1.1
theorem gz:By n=true↔1<=n/\n<=99999:=by simp[By]
variable{id:Int}
theorem fq(h:eh l id=some j):vI l/\j∈l/\j.id=id/\fg j=true:=by
 unfold eh at h;split at h
 ·rename_i a;simp at a;have ok:=ds.1 a.1;have b:=fQ h;have hi:=nR h;exact⟨ok,b,by simpa using hi,ok.ok _ b⟩
 ·cases h
theorem m5(h:vI l)(a:j∈l):eh l j.id=some j:=by
 unfold eh;rw[ds.2 h,no (h.ok j a)];simp only[Bool.and_self,oT];cases hf:l.find? (fun x=>x.id==j.id)with
 |none=>exact absurd (iX.1 hf j a) (by simp)
 |some k=>rw[mo h.up (fQ hf) a (by simpa using nR hf)]
theorem ua:(gv l j).length=l.length:=by simp[gv]
theorem JM:(gv l j).map Jb.id=l.map Jb.id:=by
 simp only[gv,nO];refine List.map_congr_left fun x _=> ?_;simp only[Function.comp];split
 ·rename_i h;exact h.symm
 ·rfl
theorem Dz:l.Pairwise (fun a b=>a.id<b.id)↔(l.map Jb.id).Pairwise (·<·):=iJ.symm
theorem it{x:Jb}(h:x∈gv l j):x=j\/(x∈l/\x.id≠j.id):=by
 obtain⟨y,b,rfl⟩:=cS.1 h;by_cases a:y.id=j.id
 ·simp[a]
 ·simp[a,b]
theorem Fj(h:vI l)(a:fg j=true):vI (gv l j):=by
 refine⟨by rw[ua];exact h.cf,fun x hx=> ?_,?_⟩
 ·rcases it hx with rfl|⟨hx,-⟩
  ·exact a
  ·exact h.ok x hx
 ·rw[Dz,JM,<-Dz];exact h.up
variable{k:Jb}
theorem zw(h:vI l)(a:fg j=true)(b:k∈l)(e:k.id=j.id):sW l j=0:=by
 have:l.any (fun x=>x.id==j.id)=true:=iZ.2 ⟨k,b,by simpa using e⟩;simp[sW,ds.2 h,a,this]
open Go renaming World->Wd,Calls->Cs
open Go.RowKit
def wL(n a b:Int):Int:=if n<a then a else if b<n then b else n
theorem NH(n:Int):wL n 0 1000000000000=pJ n:=rfl
theorem NG(n:Int):wL n 0 1000000=I8 n:=rfl
theorem ky(n a b:Int)(w:Wd):Cs prog 112 #[n,a,b] w fun e w'=>e=.returned (wL n a b:Int)/\w=w':=by
 by_cases h1:n<a
 ·have c:Hid (wL n a b=a):=by show _=_;simp[wL,h1]
  have d:decide (n<a)=true:=by simpa using h1
  clear h1;go_in;go_wp2;go_ret;exact⟨ax c.symm,rfl⟩
 ·have d:decide (n<a)=false:=by simpa using h1
  by_cases h2:b<n
  ·have c:Hid (wL n a b=b):=by show _=_;simp[wL,h1,h2]
   have f:decide (b<n)=true:=by simpa using h2
   clear h1 h2;go_in;go_wp2;go_ret;exact⟨ax c.symm,rfl⟩
  ·have c:Hid (wL n a b=n):=by show _=_;simp[wL,h1,h2]
   have f:decide (b<n)=false:=by simpa using h2
   clear h1 h2;go_in;go_wp2;go_ret;exact⟨ax c.symm,rfl⟩
theorem vD(n:Int)(w:Wd):Cs prog 55 #[n] w fun e w'=>e=.returned (pJ n:Int)/\w=w':=by
 have H:=ah (ky n 0 1000000000000 w);go_in;go_wp2_with fail;refine aQ H ?_;go_wp2;go_ret;exact⟨rfl,rfl⟩
def Ey(n:Int):Int:=(pJ n).tdiv 2
theorem Ow(n:Int)(w:Wd):Cs prog 164 #[n] w fun e w'=>e=.returned (Ey n:Int)/\w=w':=by
 have H:=ah (vD n w);have b:0<=pJ n/\pJ n<=1000000000000:=by unfold pJ;repeat' split<;>omega
 obtain⟨c,a⟩:=nm (pJ n);have d:Hid (Ey n=c.tdiv 2):=by show _=_;rw[a];rfl
 rw[<-a]at H b;have h1:0<=c.tdiv 2/\c.tdiv 2<=1000000000000:=by rw[rP b.1];omega
 clear a;go_in;go_wp2_with fail;refine aQ H ?_;go_wp2;go_ret;exact⟨ax d.symm,rfl⟩
def Dw(z a b:Int):Int×Bool:=if z<wL a 0 z+wL b 0 z then(z,false)else(wL a 0 z+wL b 0 z,true)
theorem JT(z a b:Int)(A:OA)(c:Nat)(w:Wd)(h:fs w A 2 [a,b])(s:z=1000000\/z=1000000000000):
 Cs prog 373 #[z,.slice A 2 c] w fun e w'=>e=.returned (.tuple #[(Dw z a b).1,(Dw z a b).2])/\w=w':=by
 obtain⟨t,off,B,rfl,y,k,n⟩:=cp.int h (show 0<2 by omega);obtain⟨H,D,C,r,F,j,u⟩:=cp.int h (show 1<2 by omega);cases r;simp only[nF,List.getElem?_cons_succ,iI]at k j;subst k j;rw[fU]at n;have f:=ah (ky a 0 z w);have g:=ah (ky b 0 z w);have E:0<=z/\z<=1000000000000:=by omega
 have x:0<=wL a 0 z/\wL a 0 z<=z:=by unfold wL;repeat' split<;>omega
 have G:0<=wL b 0 z/\wL b 0 z<=z:=by unfold wL;repeat' split<;>omega
 have d:Hid (Dw z a b=if z<wL a 0 z+wL b 0 z then(z,false)else(wL a 0 z+wL b 0 z,true)):=by show _=_;rfl
 generalize wL a 0 z=p at*;generalize wL b 0 z=q at*;clear h s;have v:=dF (z<p) (by omega);by_cases h2:z<p+q
 ·have o:=dT (z-p<q) (by omega);go_in;go_wp2
  go_loop [6,12] (fun l i=>(l=.int .i64 z/\i=.int .i64 0)\/(l=.int .i64 (z-p)/\i=.int .i64 1)) (fun _ i=>2-(intOf i).toNat)
  case atStart=>exact .inl ⟨rfl,rfl⟩
  case round=>
   rcases hrel with⟨rfl,rfl⟩|⟨rfl,rfl⟩
   ·go_wp2_with fail;refine f.out.mono ?_;rintro e w' ⟨rfl,rfl⟩;go_wp2_with fail
    go_round
    case rel=>exact .inr ⟨rfl,rfl⟩
    case measure=>simp[intOf]
   ·go_wp2_with fail;refine g.out.mono ?_;rintro e w' ⟨rfl,rfl⟩;go_wp2;go_ret2;refine⟨?_,rfl⟩;rw[d.out,cK h2];rfl
 ·have m:=ah h2;have o:=dF (z-p<q) (by omega);clear h2;go_in;go_wp2
  go_loop [6,12] (fun l i=>(l=.int .i64 z/\i=.int .i64 0)\/(l=.int .i64 (z-p)/\i=.int .i64 1)\/(l=.int .i64 (z-p-q)/\i=.int .i64 2)) (fun _ i=>2-(intOf i).toNat)
  case atStart=>exact .inl ⟨rfl,rfl⟩
  case round=>
   rcases hrel with⟨rfl,rfl⟩|⟨rfl,rfl⟩|⟨rfl,rfl⟩
   ·go_wp2_with fail;refine aQ f.out ?_;go_wp2_with fail
    go_round
    case rel=>exact .inr (.inl ⟨rfl,rfl⟩)
    case measure=>simp[intOf]
   ·go_wp2_with fail;refine aQ g.out ?_;go_wp2_with fail
    go_round
    case rel=>exact .inr (.inr ⟨rfl,rfl⟩)
    case measure=>simp[intOf]
   ·go_wp2;go_ret2;refine⟨?_,rfl⟩;rw[d.out,cL (by have:=m.out;omega)];have:z-(z-p-q)=p+q:=by omega
    rw[<-this];rfl
theorem Md(a b:Int):(Dw 1000000000000 a b).1=gO a b:=by
 unfold Dw gO;rw[NH,NH];split<;>rfl
theorem Mc(a b:Int):(!(Dw 1000000 a b).2)=decide (1000000<I8 a+I8 b):=by
 unfold Dw;rw[NG,NG];split<;>simp_all
theorem nr(a b:Int)(A:OA)(c:Nat)(w:Wd)(h:fs w A 2 [a,b]):Cs prog 275 #[.slice A 2 c] w fun e w'=>e=.returned (gO a b:Int)/\w=w':=by
 have H:=ah (JT 1000000000000 a b A c w h (.inr rfl));have d:=ah (Md a b);obtain⟨p,q,f⟩:∃p q,Dw 1000000000000 a b=(p,q):=⟨_,_,rfl⟩;rw[f]at H d;clear f h;go_in;go_wp2_with fail;refine aQ H ?_;go_wp2;go_ret;exact⟨ax d,rfl⟩
theorem Pt(a b:Int)(A:OA)(c:Nat)(w:Wd)(h:fs w A 2 [a,b]):Cs prog 309 #[.slice A 2 c] w fun e w'=>e=.returned (decide (1000000<I8 a+I8 b):Bool)/\w=w':=by
 have H:=ah (JT 1000000 a b A c w h (.inl rfl));have d:=ah (Mc a b);obtain⟨p,q,f⟩:∃p q,Dw 1000000 a b=(p,q):=⟨_,_,rfl⟩;rw[f]at H d;clear f h;go_in;go_wp2_with fail;refine aQ H ?_;go_wp2;go_ret;exact⟨ar d,rfl⟩
def jw(a b:ByteArray):Int:=if Op.bytesLess a.toList b.toList then -1 else if Op.bytesLess b.toList a.toList then 1 else 0
def fa(a b:Us):Int:=if jw a.us b.us≠0 then jw a.us b.us else jw a.ac b.ac
def jj(s:ByteArray):Bool:=decide (1<=s.size)&&decide (s.size<=64)
def vV(u:Us):Bool:=jj u.us&&jj u.ac&&pJ u.ud==u.ud&&decide (0<=u.sh)&&decide (u.sh<=u.ud)
def Ty(l:List Us)(i:Nat):Bool:=i==0||((l[i-1]?.bind fun a=>l[i]?.map fun b=>decide (fa a b<0)).getD true)
def fm(l:List Us):Bool:=decide (l.length<=200)&&l.all vV&&(List.range l.length).all (Ty l)
def ls(l:List Us):Int:=if fm l then 0 else 2
def ms(s:Nat):Int:=((dw s).length:Int)
def runs(l:List Jb)(id:Int):Option Jb:=l.find? (fun j=>j.id==id&&j.st==2)
def wI(bD a:Int)(x:Nd):Bool:=x.jb==bD&&x.wt==a
def mq(r:Rz):Int:=if r.gr then 2 else 4
def vk(ag:List Nd)(r:Rz)(j:Jb):Bool:=
 j.sh.kd==3&&r.nd !=0&&eH r.sd r.nd==0&&bZ r.si&&ia (wI r.jb (mq r)) ag==eH r.nd r.sd&&kx ag r.sd&&
 (if r.gr then r.nd==cd (xd r.jb 2) ag&&decide (ms j.nd+ms r.nd<=j.sh.mx)else eH r.nd j.nd==0&&decide (j.sh.mn<=ms j.nd-ms r.nd))
def mI(ag:List Nd)(aj:List Jb)(bx:List Rz):Bool:=
 (bx.all fun r=>match runs aj r.jb with|none=>false|some j=>vk ag r j)&&decide (bx.Pairwise (fun a b=>a.jb<b.jb))
def qw(l:List Rz)(id:Int):Option Rz:=l.find? (fun r=>r.jb==id)
def BL(aj:List Jb)(bx:List Rz)(nj:Int)(n:Nat)(x:Nd):Bool:=
 !(x.st==1&& !(((runs aj x.jb).map fun j=>hasB j.nd (n:Int)).getD false))&& !(x.st==2&&(runs aj x.jb).isNone)&&
 !((x.st==2||x.wt==4)&& !hasB (((qw bx x.jb).map Rz.nd).getD 0) (n:Int))&& !(x.st==3&&decide (nj<=x.jb))
def kv(ag:List Nd)(aj:List Jb)(bx:List Rz)(nj:Int):Bool:=(List.range ag.length).all (fun k=>(ag[k]?.map (BL aj bx nj k)).getD true)
def mF(l:List Jb):Int:=(l.getLast?.map Jb.id).getD 0
def ma(l:List Bk):Int:=(l.getLast?.map Bk.id).getD 0
def kg(n a:Int):Bool:=decide (1<=n)&&decide (n<=100000)&&decide (a<n)
def ly(ag:List Nd)(aj:List Jb):Bool:=aj.all (fun j=>j.st !=2||jq ag j.id==j.nd)
def ie(s:St):Bool:=bZ s.am&&aO s.ag&&gC s.aj&&Ap s.aZ
def fy(s:St):Bool:=ie s&&fm s.bK
def Ks(s:St):Bool:=fy s&&mI s.ag s.aj s.bx&&kg s.nj (mF s.aj)&&kg s.nb (ma s.aZ)&&kv s.ag s.aj s.bx s.nj&&ly s.ag s.aj
def mA(s:St):Int:=if Ks s then 0 else 141
structure M6(s:St):Prop where
 aj:∀j∈s.aj,j.nd<2^64
 kk:∀r∈s.bx,r.nd<2^64
 Qj:∀r∈s.bx,r.sd<2^64
structure xq(l:List Nd)(r:Rz)(j:Jb):Prop where
 kd:j.sh.kd=3
 nz:r.nd≠0
 sub:∀n,r.sd.testBit n=true->r.nd.testBit n=true
 si:bZ r.si=true
 ask:∀n,(r.nd.testBit n=true/\r.sd.testBit n=false)↔∃x,l[n]?=some x/\x.jb=r.jb/\x.wt=mq r
 quiet:∀n,r.sd.testBit n=true->∃x,l[n]?=some x/\x.wt=0
 grow:r.gr=true->(∀n,r.nd.testBit n=true↔∃x,l[n]?=some x/\x.jb=r.jb/\x.st=2)/\ms j.nd+ms r.nd<=j.sh.mx
 shrink:r.gr=false->(∀n,r.nd.testBit n=true->j.nd.testBit n=true)/\j.sh.mn<=ms j.nd-ms r.nd
structure bt(s:St):Prop where
 am:bZ s.am=true
 ag:aO s.ag=true
 aj:vI s.aj
 aZ:Ap s.aZ=true
 bK:fm s.bK=true
 wide:M6 s
 iy:s.bx.Pairwise (fun a b=>a.jb<b.jb)
 bx:∀r∈s.bx,∃j∈s.aj,j.id=r.jb/\j.st=2/\xq s.ag r j
 nj:1<=s.nj/\s.nj<=100000
 O3:∀j∈s.aj,j.id<s.nj
 nb:kg s.nb (ma s.aZ)=true
 busy:∀(n:Nat) (x:Nd),s.ag[n]?=some x->x.st=1->∃j∈s.aj,j.id=x.jb/\j.st=2/\j.nd.testBit n=true
 Fe:∀(n:Nat) (x:Nd),s.ag[n]?=some x->x.st=2->∃j∈s.aj,j.id=x.jb/\j.st=2
 tP:∀(n:Nat) (x:Nd),s.ag[n]?=some x->(x.st=2\/x.wt=4)->∃r∈s.bx,r.jb=x.jb/\r.nd.testBit n=true
 going:∀(n:Nat) (x:Nd),s.ag[n]?=some x->x.st=3->x.jb<s.nj
 held:∀j∈s.aj,j.st=2->∀n,j.nd.testBit n=true↔∃x,s.ag[n]?=some x/\x.jb=j.id/\x.st=1
theorem gM{α:Type}{o:Option α}{q:α->Bool}:(o.map q).getD false=true↔∃x,o=some x/\q x=true:=by
 cases o<;>simp
variable{a:Nat}
theorem og{n:Nat}(h:a<2^64)(b:a.testBit n=true):n<64:=by
 by_cases hn:n<64
 ·exact hn
 ·have:a<2^n:=cD h (oA (by omega) (by omega));rw[Nat.testBit_lt_two_pow this]at b;cases b
theorem Bh{b:Nat}(h:a<2^64):eH a b=0↔∀n,a.testBit n=true->b.testBit n=true:=by
 constructor
 ·intro e n hn;have:=lh a b n;rw[e,Nat.zero_testBit,hn]at this;simp[og h hn]at this;exact this
 ·intro hs;apply iW;intro n;rw[lh,Nat.zero_testBit];cases ha:a.testBit n
  ·simp
  ·simp[hs n ha]
variable{q:Nd->Bool}
theorem PQ{l:List Nd}{b:Nat}(h:a<2^64):ia q l=eH a b↔∀n,(a.testBit n=true/\b.testBit n=false)↔∃x,l[n]?=some x/\q x=true:=by
 constructor
 ·intro e n;rw[<-gM,<-mh,e,lh];constructor
  ·rintro⟨h1,h2⟩;simp[h1,h2,og h h1]
  ·intro c;simp at c;exact⟨c.1.2,c.2⟩
 ·intro hs;apply iW;intro n;rw[mh,lh,nS,gM,<-hs n];constructor
  ·rintro⟨h1,h2⟩;simp[h1,h2,og h h1]
  ·intro c;simp at c;exact⟨c.1.2,c.2⟩
theorem Ig{l:List Nd}:ia q l=a↔∀n,a.testBit n=true↔∃x,l[n]?=some x/\q x=true:=by
 constructor
 ·rintro rfl n;rw[mh,gM]
 ·intro hs;apply iW;intro n;rw[mh,nS,gM,hs n]
variable{s:Nat}
theorem qp{n:Nat}(h:s<2^64):n∈dw s↔s.testBit n=true:=by
 rw[qq];exact⟨fun h=>h.2,fun a=>⟨og h a,a⟩⟩
theorem LI{l:List Nd}(b:aO l=true)(h:s<2^64):kx l s=true↔∀n,s.testBit n=true->∃x,l[n]?=some x/\x.wt=0:=by
 unfold kx dL;rw[b,lO,dC];constructor
 ·intro a n hn;have:=a (n:Int) (cS.2 ⟨n,(qp h).2 hn,rfl⟩);unfold jA at this;rw[iA,gM]at this;obtain⟨x,h1,h2⟩:=this;exact⟨x,h1,by simpa using h2⟩
 ·intro a z c;obtain⟨n,hn,rfl⟩:=cS.1 c;obtain⟨x,h1,h2⟩:=a n ((qp h).1 hn);unfold jA;rw[iA,gM];exact⟨x,h1,by simpa using h2⟩
theorem CO{n:Nat}(h:s<2^64):hasB s (n:Int)=true↔s.testBit n=true:=by
 unfold hasB;rw[iA];constructor
 ·intro b;simp at b;exact b.2
 ·intro a;have:=og h a;simp[a];omega
theorem ns(h:vI l):runs l id=some j↔j∈l/\j.id=id/\j.st=2:=by
 unfold runs;constructor
 ·intro a;have h1:=fQ a;have h2:=nR a;simp at h2;exact⟨h1,h2⟩
 ·rintro⟨h1,h2,b⟩;cases a:l.find? (fun j=>j.id==id&&j.st==2)with
  |none=>exact absurd (iX.1 a j h1) (by simp[h2,b])
  |some k=>
   have c:=fQ a;have d:=nR a;simp at d;rw[mo h.up c h1 (by omega)]
variable{r:Rz}
theorem gP{l:List Rz}(h:l.Pairwise (fun a b=>a.jb<b.jb)):qw l id=some r↔r∈l/\r.jb=id:=by
 unfold qw
 induction l with
 |nil=>simp
 |cons x t ih=>
  rw[dY]at h;rw[List.find?_cons];by_cases hx:x.jb=id
  ·simp only[hx,beq_self_eq_true,iI];constructor
   ·rintro rfl;exact⟨by simp,hx⟩
   ·rintro⟨c,d⟩;rcases dK.1 c with rfl|c
    ·rfl
    ·have:=h.1 r c;omega
  ·have:(x.jb==id)=false:=by simpa using hx
   rw[this];simp only;rw[ih h.2];constructor
   ·rintro⟨h1,h2⟩;exact⟨List.mem_cons_of_mem _ h1,h2⟩
   ·rintro⟨h1,h2⟩;rcases dK.1 h1 with rfl|h1
    ·exact absurd h2 hx
    ·exact⟨h1,h2⟩
theorem JN{l:List Nd}(h:aO l=true)(h1:r.nd<2^64)(h2:r.sd<2^64):vk l r j=true↔xq l r j:=by
 have k:vk l r j=true↔(j.sh.kd=3/\r.nd≠0/\eH r.sd r.nd=0/\bZ r.si=true/\ia (wI r.jb (mq r)) l=eH r.nd r.sd/\kx l r.sd=true/\
  (r.gr=true->r.nd=cd (xd r.jb 2) l/\ms j.nd+ms r.nd<=j.sh.mx)/\(r.gr=false->eH r.nd j.nd=0/\j.sh.mn<=ms j.nd-ms r.nd)):=by
  unfold vk;cases r.gr<;>simp[rK]
 have hw:r.nd=cd (xd r.jb 2) l↔∀n,r.nd.testBit n=true↔∃x,l[n]?=some x/\x.jb=r.jb/\x.st=2:=by
  unfold cd;rw[cK h,eq_comm,Ig];simp[xd]
 rw[k,Bh h2,PQ h1,LI h h2,hw,Bh h1];constructor
 ·rintro⟨a,b,c,d,e,f,g,i⟩;exact⟨a,b,c,d,by simpa [wI]using e,f,g,i⟩
 ·rintro⟨a,b,c,d,e,f,g,i⟩;exact⟨a,b,c,d,by simpa [wI]using e,f,g,i⟩
theorem EU{α:Type}{l:List α}{x:α}(h:l.getLast?=some x):x∈l:=List.mem_of_getLast? h
theorem ST(h:l.Pairwise (fun a b=>a.id<b.id))(e:∀j∈l,0<j.id):∀j∈l,j.id<=mF l:=by
 intro j d;unfold mF;obtain⟨i,hi,rfl⟩:=i7.1 d;rw[rV,cE (show l.length-1<l.length by omega)];simp only[fI,i8];by_cases c:i=l.length-1
 ·subst c;exact i5 _
 ·exact Int.le_of_lt (cN.1 h i (l.length-1) hi (by omega) (by omega))
theorem OO(hn:0<n)(h:∀j∈l,j.id<n):mF l<n:=by
 unfold mF
 cases hl:l.getLast? with
 |none=>simpa using hn
 |some x=>simpa using h x (EU hl)
variable{x:Nd}
theorem qr{s:St}(e:vI s.aj)(f:s.bx.Pairwise (fun a b=>a.jb<b.jb))(hw:M6 s){n:Nat}:
 BL s.aj s.bx s.nj n x=true↔(x.st=1->∃j∈s.aj,j.id=x.jb/\j.st=2/\j.nd.testBit n=true)/\(x.st=2->∃j∈s.aj,j.id=x.jb/\j.st=2)/\
  ((x.st=2\/x.wt=4)->∃r∈s.bx,r.jb=x.jb/\r.nd.testBit n=true)/\(x.st=3->x.jb<s.nj):=by
 have m:(((runs s.aj x.jb).map fun j=>hasB j.nd (n:Int)).getD false=true)↔∃j∈s.aj,j.id=x.jb/\j.st=2/\j.nd.testBit n=true:=by
  rw[gM];constructor
  ·rintro⟨j,h1,h2⟩;obtain⟨a,b,c⟩:=(ns e).1 h1;exact⟨j,a,b,c,(CO (hw.aj j a)).1 h2⟩
  ·rintro⟨j,a,b,c,d⟩;exact⟨j,(ns e).2 ⟨a,b,c⟩,(CO (hw.aj j a)).2 d⟩
 have o:(runs s.aj x.jb).isNone=false↔∃j∈s.aj,j.id=x.jb/\j.st=2:=by
  cases hr:runs s.aj x.jb with
  |none=>
   simp only[Option.isNone_none,Bool.true_eq_false,false_iff];rintro⟨j,a,b,c⟩;rw[(ns e).2 ⟨a,b,c⟩]at hr;cases hr
  |some j=>
   obtain⟨a,b,c⟩:=(ns e).1 hr;simp only[iV,true_iff];exact⟨j,a,b,c⟩
 have p:hasB (((qw s.bx x.jb).map Rz.nd).getD 0) (n:Int)=true↔∃r∈s.bx,r.jb=x.jb/\r.nd.testBit n=true:=by
  cases hr:qw s.bx x.jb with
  |none=>
   constructor
   ·intro h;simp[hasB]at h
   ·rintro⟨r,a,b,c⟩;rw[(gP f).2 ⟨a,b⟩]at hr;cases hr
  |some r=>
   obtain⟨a,b⟩:=(gP f).1 hr;simp only[fI,i8];rw[CO (hw.kk r a)];constructor
   ·intro h;exact⟨r,a,b,h⟩
   ·rintro⟨r',g,i,l⟩;have:=(gP f).2 ⟨g,i⟩;rw[hr]at this;cases this;exact l
 unfold BL;rw[<-m,<-o,<-p];generalize((runs s.aj x.jb).map fun j=>hasB j.nd (n:Int)).getD false=p1;generalize(runs s.aj x.jb).isNone=p2;generalize hasB (((qw s.bx x.jb).map Rz.nd).getD 0) (n:Int)=p3;simp only[cH,nD,Bool.and_eq_false_iff,Bool.or_eq_false_iff,dQ,Bool.not_eq_false',dS,Int.not_le,ne_eq];constructor
 ·rintro⟨⟨⟨a,b⟩,c⟩,d⟩;refine⟨fun h=>a.resolve_left (fun k=>k h),fun h=>b.resolve_left (fun k=>k h),fun h=>c.resolve_left (fun k=>h.elim k.1 k.2),fun h=>d.resolve_left (fun k=>k h)⟩
 ·rintro⟨a,b,c,d⟩;refine⟨⟨⟨?_,?_⟩,?_⟩,?_⟩
  ·by_cases h:x.st=1
   ·exact .inr (a h)
   ·exact .inl h
  ·by_cases h:x.st=2
   ·exact .inr (b h)
   ·exact .inl h
  ·by_cases h:x.st=2\/x.wt=4
   ·exact .inr (c h)
   ·exact .inl (not_or.1 h)
  ·by_cases h:x.st=3
   ·exact .inr (d h)
   ·exact .inl h
theorem mX{s:St}(hw:M6 s):Ks s=true↔bt s:=by
 unfold Ks fy ie mI kv ly;simp only[cH,dC,dA,fS];constructor
 ·rintro⟨⟨⟨⟨⟨⟨⟨⟨⟨h1,h2⟩,k⟩,l⟩,m⟩,o,i⟩,h8⟩,p⟩,u⟩,t⟩;have f:=ds.1 k;have q:(1<=s.nj/\s.nj<=100000)/\mF s.aj<s.nj:=by simpa [kg]using h8
  have hn:∀(n:Nat) (x:Nd),s.ag[n]?=some x->BL s.aj s.bx s.nj n x=true:=by
   intro n x hx;have:=u n (cA.1 hx).1;rw[hx]at this;simpa using this
  refine⟨h1,h2,f,l,m,hw,i,?_,q.1,?_,p,?_,?_,?_,?_,?_⟩
  ·intro r h;have:=o r h
   cases e:runs s.aj r.jb with
   |none=>rw[e]at this;cases this
   |some j=>
    rw[e]at this;obtain⟨a,b,c⟩:=(ns f).1 e;exact⟨j,a,b,c,(JN h2 (hw.kk r h) (hw.Qj r h)).1 this⟩
  ·intro j e;have:=ST f.up (fun j e=>by have:=gz.1 (no (f.ok j e));omega) j e;omega
  ·exact fun n x hx=>((qr f i hw).1 (hn n x hx)).1
  ·exact fun n x hx=>((qr f i hw).1 (hn n x hx)).2.1
  ·exact fun n x hx=>((qr f i hw).1 (hn n x hx)).2.2.1
  ·exact fun n x hx=>((qr f i hw).1 (hn n x hx)).2.2.2
  ·intro j e hs n;have:=t j e;simp[hs]at this;have hi:=gz.1 (no (f.ok j e));unfold jq cd at this;rw[cL (by omega),cK h2]at this;have:=Ig.1 this n;simpa [xd]using this
 ·intro g;refine⟨⟨⟨⟨⟨⟨⟨⟨⟨g.am,g.ag⟩,ds.2 g.aj⟩,g.aZ⟩,g.bK⟩,?_,g.iy⟩,?_⟩,g.nb⟩,?_⟩,?_⟩
  ·intro r h;obtain⟨j,a,b,c,d⟩:=g.bx r h;rw[(ns g.aj).2 ⟨a,b,c⟩];exact(JN g.ag (g.wide.kk r h) (g.wide.Qj r h)).2 d
  ·have:=OO (by have:=g.nj.1;omega) g.O3;simp[kg,g.nj.1,g.nj.2,this]
  ·intro n hn;rw[cE hn];have hx:=cE hn;exact(qr g.aj g.iy g.wide).2 ⟨g.busy n _ hx,g.Fe n _ hx,g.tP n _ hx,g.going n _ hx⟩
  ·intro j e;by_cases hs:j.st=2
   ·have hi:=gz.1 (no (g.aj.ok j e))
    have:jq s.ag j.id=j.nd:=by
     unfold jq cd;rw[cL (by omega),cK g.ag,Ig];intro n;simpa [xd]using g.held j e hs n
    simp[this]
   ·simp[hs]
def jz(x:Nd):Prop:=x.st=1\/x.st=2
theorem eR{l:List Nd}(h:aO l=true){n:Nat}(hx:l[n]?=some x):fb x=true:=(cQ.1 h).m6 x (cG hx)
theorem ri(h:fb x=true):pW x=true:=(gY.1 h).2.2.2.2
theorem tH(h:fb x=true)(hs:x.st=1\/x.st=2\/x.st=3):1<=x.jb/\x.jb<=99999:=by
 have:=ri h;unfold pW vX at this;rcases hs with hs|hs|hs<;>simp[hs]at this<;>exact this.1
theorem oe(h:fb x=true)(hw:x.wt=2\/x.wt=4):jz x:=by
 have:=ri h;unfold pW at this;unfold jz;by_cases a:x.st=0
 ·simp[a]at this;omega
 by_cases h1:x.st=1
 ·exact .inl h1
 by_cases h2:x.st=2
 ·exact .inr h2
 by_cases b:x.st=3
 ·simp[b]at this;omega
 by_cases c:x.st=4
 ·simp[c]at this;omega
 ·simp[a,h1,h2,b,c]at this
theorem mp(h:fb x=true)(hw:x.wt=4):x.st=1:=by
 rcases oe h (.inr hw)with h1|h2
 ·exact h1
 ·have:=ri h;unfold pW at this;simp[h2,hw]at this
def Touch(id:Int)(l m:List Nd):Prop:=∀(n:Nat) (x:Nd),jz x->x.jb≠id->(m[n]?=some x↔l[n]?=some x)
variable{m:List Nd}
theorem LN{l:List Nd}(i:aO l=true)(k:aO m=true)(T:Touch id l m)(s:r.jb≠id)(q:j.id=r.jb)
 (p:∀n,j.nd.testBit n=true↔∃x,l[n]?=some x/\x.jb=j.id/\x.st=1)(h:xq l r j):xq m r j:=by
 have o:∀n,r.sd.testBit n=true->∃x,l[n]?=some x/\x.jb=r.jb/\jz x:=by
  intro n hn;have f:=h.sub n hn
  cases d:r.gr with
  |true=>
   obtain⟨x,a,b,c⟩:=((h.grow d).1 n).1 f;exact⟨x,a,b,.inr c⟩
  |false=>
   obtain⟨x,a,b,c⟩:=(p n).1 ((h.shrink d).1 n f);exact⟨x,a,by omega,.inl c⟩
 refine⟨h.kd,h.nz,h.sub,h.si,fun n=> ?_,fun n hn=> ?_,fun d=>⟨fun n=> ?_,(h.grow d).2⟩,h.shrink⟩
 ·rw[h.ask n];have hw:mq r=2\/mq r=4:=by unfold mq;split<;>simp
  constructor
  ·rintro⟨x,a,b,c⟩;exact⟨x,(T n x (oe (eR i a) (by rw[c];exact hw)) (by omega)).2 a,b,c⟩
  ·rintro⟨x,a,b,c⟩;exact⟨x,(T n x (oe (eR k a) (by rw[c];exact hw)) (by omega)).1 a,b,c⟩
 ·obtain⟨x,a,b,c⟩:=o n hn;obtain⟨y,e,g⟩:=h.quiet n hn;rw[a]at e;cases e;exact⟨x,(T n x c (by omega)).2 a,g⟩
 ·rw[(h.grow d).1 n];constructor
  ·rintro⟨x,a,b,c⟩;exact⟨x,(T n x (.inr c) (by omega)).2 a,b,c⟩
  ·rintro⟨x,a,b,c⟩;exact⟨x,(T n x (.inr c) (by omega)).1 a,b,c⟩
theorem jP{s s':St}(id:Int)(g:bt s)(A:bZ s'.am=true)(hn:aO s'.ag=true)(T:Touch id s.ag s'.ag)(o:vI s'.aj)
 (f:∀j:Jb,j.id≠id->(j∈s'.aj↔j∈s.aj))(D:s'.bx.Pairwise (fun a b=>a.jb<b.jb))(hR:∀r:Rz,r.jb≠id->(r∈s'.bx↔r∈s.bx))
 (k:s'.aZ=s.aZ)(q:fm s'.bK=true)(i:s'.nj=s.nj)(C:s'.nb=s.nb)(hw:M6 s')(z:∀j∈s'.aj,j.id<s.nj)
 (B:∀r∈s'.bx,r.jb=id->∃j∈s'.aj,j.id=r.jb/\j.st=2/\xq s'.ag r j)
 (w:∀(n:Nat) (x:Nd),s'.ag[n]?=some x->x.jb=id->x.st=1->∃j∈s'.aj,j.id=x.jb/\j.st=2/\j.nd.testBit n=true)
 (v:∀(n:Nat) (x:Nd),s'.ag[n]?=some x->x.jb=id->x.st=2->∃j∈s'.aj,j.id=x.jb/\j.st=2)
 (u:∀(n:Nat) (x:Nd),s'.ag[n]?=some x->x.jb=id->(x.st=2\/x.wt=4)->∃r∈s'.bx,r.jb=x.jb/\r.nd.testBit n=true)
 (t:∀(n:Nat) (x:Nd),s'.ag[n]?=some x->x.st=3->x.jb<s.nj)
 (y:∀j∈s'.aj,j.id=id->j.st=2->∀n,j.nd.testBit n=true↔∃x,s'.ag[n]?=some x/\x.jb=j.id/\x.st=1):bt s':=by
 refine⟨A,hn,o,by rw[k];exact g.aZ,q,hw,D,fun r m=> ?_,by rw[i];exact g.nj,by rw[i];exact z,by rw[C,k];exact g.nb,?_,?_,?_,by rw[i];exact t,?_⟩
 ·by_cases e:r.jb=id
  ·exact B r m e
  ·obtain⟨j,a,b,c,d⟩:=g.bx r ((hR r e).1 m);exact⟨j,(f j (by omega)).2 a,b,c,LN g.ag hn T e b (g.held j a c) d⟩
 ·intro n x hx hs;by_cases e:x.jb=id
  ·exact w n x hx e hs
  ·obtain⟨j,a,b,c,d⟩:=g.busy n x ((T n x (.inl hs) e).1 hx) hs;exact⟨j,(f j (by omega)).2 a,b,c,d⟩
 ·intro n x hx hs;by_cases e:x.jb=id
  ·exact v n x hx e hs
  ·obtain⟨j,a,b,c⟩:=g.Fe n x ((T n x (.inr hs) e).1 hx) hs;exact⟨j,(f j (by omega)).2 a,b,c⟩
 ·intro n x hx hs;by_cases e:x.jb=id
  ·exact u n x hx e hs
  ·have p:jz x:=hs.elim .inr (fun h=>oe (eR hn hx) (.inr h));obtain⟨r,a,b,c⟩:=g.tP n x ((T n x p e).1 hx) hs;exact⟨r,(hR r (by omega)).2 a,b,c⟩
 ·intro j l hs n;by_cases e:j.id=id
  ·exact y j l e hs n
  ·rw[g.held j ((f j e).1 l) hs n];constructor
   ·rintro⟨x,a,b,c⟩;exact⟨x,(T n x (.inl c) (by omega)).2 a,b,c⟩
   ·rintro⟨x,a,b,c⟩;exact⟨x,(T n x (.inl c) (by omega)).1 a,b,c⟩
theorem Bq{act bD:Int}:∀(bO:List Nat) (l:List Nd),bO.Nodup->aO l=true->bZ am=true->(∀i∈bO,∃x,l[i]?=some x/\jx x act bD=true)->(gG act bD am l (dL bO)).2=0
 |[],l,_,_,_,_=>rfl
 |k::r,l,hnd,hc,ht,hm=>by
  obtain⟨c,d⟩:=List.nodup_cons.1 hnd;obtain⟨x,hx,a⟩:=hm k (by simp)
  have e:rg l (k:Int) act bD am=(l.set k (bH x act bD am),0):=by
   rw[CG hc hx,cL (by simp[ht]),cL (by simp[a])]
  have b:(rg l (k:Int) act bD am).2=0:=by rw[e]
  simp only[dL,lY,gG];rw[cK b,e];refine Bq r _ d (CC hc (ut (eR hc hx) a ht)) ht fun i hi=> ?_;obtain⟨y,f,j⟩:=hm i (List.mem_cons_of_mem _ hi);have g:k≠i:=fun h=>c (h▸hi);exact⟨y,by rw[iK g];exact f,j⟩
theorem yy(s:Nat):(dw s).Nodup:=by
 unfold dw;exact List.nodup_range.sublist iQ
theorem lv{l:List Nd}{act bD:Int}(hs:s<2^64)(b:aO l=true)(ht:bZ am=true)(d:∀n,s.testBit n=true->∃x,l[n]?=some x/\jx x act bD=true):
 (ft l s act bD am).2.2=0/\My l (ft l s act bD am).1 (dw s) act bD am:=by
 have a:=Bq (dw s) l (yy s) b ht (fun i hi=>d i ((qp hs).1 hi));have c:=xR (dw s) l (yy s) a;unfold ft;rw[cL (by simp[b]),cK a];exact⟨rfl,c⟩
theorem mZ{l:List Nd}{act bD:Int}(hs:s<2^64)(h:My l m (dw s) act bD am)(n:Nat):
 m[n]?=if s.testBit n=true then l[n]?.map (fun x=>bH x act bD am)else l[n]?:=by
 rw[h.at_ n];by_cases a:s.testBit n=true
 ·rw[cK a,cK ((qp hs).2 a)]
 ·rw[cL a,cL (fun h=>a ((qp hs).1 h))]
theorem UO{l:List Nd}(h:aO l=true):ia q l<2^64:=B4 q (by have:=(cQ.1 h).cf;omega)
theorem uh{l:List Nd}(h:aO l=true):cd q l<2^64:=by rw[cd,cK h];exact UO h
theorem Ch{l:List Nd}(h:aO l=true){n:Nat}:(cd q l).testBit n=true↔∃x,l[n]?=some x/\q x=true:=by
 rw[cd,cK h,mh,gM]
def zn(l:List Nd)(id:Int):Nat:=cd (xd id 1) l|||cd (xd id 2) l
theorem Df{l:List Nd}(h:aO l=true)(id:Int):zn l id<2^64:=Nat.or_lt_two_pow (uh h) (uh h)
theorem rt{l:List Nd}(h:aO l=true){n:Nat}:(zn l id).testBit n=true↔∃x,l[n]?=some x/\x.jb=id/\jz x:=by
 unfold zn;rw[Nat.testBit_or,Bool.or_eq_true,Ch h,Ch h];simp only[xd,cH,iC,jz];constructor
 ·rintro(⟨x,a,b,c⟩|⟨x,a,b,c⟩)
  ·exact⟨x,a,b,.inl c⟩
  ·exact⟨x,a,b,.inr c⟩
 ·rintro⟨x,a,b,c|c⟩
  ·exact .inl ⟨x,a,b,c⟩
  ·exact .inr ⟨x,a,b,c⟩
def gH(s:St)(id:Int):List Nd×List Nt×Int:=ft s.ag (zn s.ag id) 7 0 s.am
def gJ(s:St)(j:Jb)(why:Int):St:=
 if j.st=2 then{s with aj:=gv s.aj (gX j why),bx:=s.bx.filter (fun r=>r.jb !=j.id),ag:=(gH s j.id).1}else{s with aj:=gv s.aj (gX j why)}
theorem mH{s:St}(g:bt s)(id:Int):(gH s id).2.2=0/\My s.ag (gH s id).1 (dw (zn s.ag id)) 7 0 s.am:=by
 refine lv (Df g.ag _) g.ag g.am fun n hn=> ?_;obtain⟨x,a,b,c⟩:=(rt g.ag).1 hn;refine⟨x,a,?_⟩;unfold jz at c;unfold jx;rcases c with c|c<;>simp[c]
theorem mC(j:Jb)(why:Int):(gX j why).id=j.id:=by unfold gX;split<;>rfl
theorem tD(j:Jb)(why:Int):(gX j why).st=why:=by unfold gX;split<;>rfl
theorem Jj(j:Jb)(why:Int):(gX j why).nd=0:=by unfold gX;split<;>rfl
theorem zb(h:j.id≠k.id):j∈gv l k↔j∈l:=by
 constructor
 ·intro a;rcases it a with rfl|⟨h,-⟩
  ·exact absurd rfl h
  ·exact h
 ·intro a;refine cS.2 ⟨j,a,?_⟩;simp[h]
theorem C3(a:j∈l)(h:j.id=k.id):k∈gv l k:=cS.2 ⟨j,a,by simp[h]⟩
theorem pu{N:Int}(h:∀j∈l,j.id<N):∀j∈gv l k,j.id<N:=by
 intro j b;obtain⟨x,hx,rfl⟩:=cS.1 b;by_cases a:x.id=k.id
 ·simp only[a,oT];have:=h x hx;omega
 ·simp only[a,rO];exact h x hx
theorem m0{s:St}(g:bt s)(q:j∈s.aj){why:Int}(B:kK j why=0):bt (gJ s j why):=by
 obtain⟨E,J,F,G⟩:=CJ B
 have I:why≠1/\why≠2:=by
  simp[pK]at F;omega
 have v:vI (gv s.aj (gX j why)):=Fj g.aj E
 have z:∀k∈gv s.aj (gX j why),k.nd<2^64:=by
  intro k e;rcases it e with rfl|⟨e,-⟩
  ·rw[Jj];exact Nat.pow_pos (by omega)
  ·exact g.wide.aj k e
 have A:∀k:Jb,k.id≠j.id->(k∈gv s.aj (gX j why)↔k∈s.aj):=fun k e=>zb (by rw[mC];exact e)
 have w:∀k∈gv s.aj (gX j why),k.id=j.id->k.st≠2:=by
  intro k e hi;rcases it e with rfl|⟨-,e⟩
  ·rw[tD];exact I.2
  ·rw[mC]at e;exact absurd hi e
 unfold gJ;by_cases hs:j.st=2
 ·rw[cK hs];obtain⟨e0,D⟩:=mH g j.id;have u:=mZ (Df g.ag j.id) D;generalize(gH s j.id).1=m at D u⊢;have C:aO m=true:=D.ok g.ag
  have p:∀(n:Nat) (x:Nd),m[n]?=some x->(x.st=3/\x.jb=j.id/\x.wt=5)\/(s.ag[n]?=some x/\¬(x.jb=j.id/\jz x)):=by
   intro n x hx;rw[u n]at hx;by_cases o:(zn s.ag j.id).testBit n=true
   ·rw[cK o]at hx;obtain⟨y,a,b,c⟩:=(rt g.ag).1 o;rw[a]at hx;simp only[fI,iI]at hx;subst hx;exact .inl ⟨by simp[bH,eL],by simp[bH,eL,b],by simp[bH,eL]⟩
   ·rw[cL o]at hx;exact .inr ⟨hx,fun⟨h1,h2⟩=>o ((rt g.ag).2 ⟨x,hx,h1,h2⟩)⟩
  have H:∀(n:Nat) (x:Nd),s.ag[n]?=some x->¬(x.jb=j.id/\jz x)->m[n]?=some x:=by
   intro n x hx hn;rw[u n,cL,hx];intro o;obtain⟨y,a,b,c⟩:=(rt g.ag).1 o;rw[hx]at a;cases a;exact hn ⟨b,c⟩
  refine jP j.id g g.am C (fun n x hx t=>⟨fun h=> ?_,fun h=>H n x h (fun k=>t k.1)⟩) v A (g.iy.sublist iQ) (fun r f=>by simp[f]) rfl g.bK rfl rfl
   ⟨z,fun r f=>g.wide.kk r (fM.1 f).1,fun r f=>g.wide.Qj r (fM.1 f).1⟩ (pu g.O3) ?_ ?_ ?_ ?_ ?_ ?_
  ·rcases p n x h with⟨a,b,c⟩|⟨a,b⟩
   ·exact absurd b t
   ·exact a
  ·intro r f hi;have:=(fM.1 f).2;simp[hi]at this
  ·intro n x hx hi i;rcases p n x hx with⟨a,b,c⟩|⟨a,b⟩
   ·omega
   ·exact absurd ⟨hi,.inl i⟩ b
  ·intro n x hx hi i;rcases p n x hx with⟨a,b,c⟩|⟨a,b⟩
   ·omega
   ·exact absurd ⟨hi,.inr i⟩ b
  ·intro n x hx hi i;rcases p n x hx with⟨a,b,c⟩|⟨a,b⟩
   ·omega
   ·exact absurd ⟨hi,i.elim .inr (fun h=> .inl (mp (eR g.ag a) h))⟩ b
  ·intro n x hx i;rcases p n x hx with⟨a,b,c⟩|⟨a,b⟩
   ·rw[b];exact g.O3 j q
   ·exact g.going n x a i
  ·intro k e hi i;exact absurd i (w k e hi)
 ·rw[cL hs];have i:j.st=1:=G.resolve_left hs;refine jP j.id g g.am g.ag (fun n x hx t=>oU) v A g.iy (fun r f=>oU) rfl g.bK rfl rfl ⟨z,g.wide.kk,g.wide.Qj⟩ (pu g.O3) ?_ ?_ ?_ ?_ g.going ?_
  ·intro r f hi;obtain⟨k,a,b,c,d⟩:=g.bx r f;have:=mo g.aj.up a q (by omega);subst this;omega
  ·intro n x hx hi l;obtain⟨k,a,b,c,d⟩:=g.busy n x hx l;have:=mo g.aj.up a q (by omega);subst this;omega
  ·intro n x hx hi l;obtain⟨k,a,b,c⟩:=g.Fe n x hx l;have:=mo g.aj.up a q (by omega);subst this;omega
  ·intro n x hx hi l;exact g.tP n x hx l
  ·intro k e hi l;exact absurd l (w k e hi)
def pA(s:St)(n:Nat):St:={s with ag:=(rg s.ag (n:Int) 9 0 s.am).1}
theorem Bu{s:St}(g:bt s){n:Nat}(hx:s.ag[n]?=some x)(hs:¬jz x)(q:(rg s.ag (n:Int) 9 0 s.am).2=0):bt (pA s n):=by
 obtain⟨k,y,e,c,m,ht,u,l⟩:=ur q;obtain rfl:n=k:=by omega
 rw[hx]at c;cases c
 have d:aO (pA s n).ag=true:=by
  show aO (rg s.ag (n:Int) 9 0 s.am).1=true;rw[l];exact CC m (ut (eR m hx) u ht)
 have w:=(cA.1 hx).1
 have p:∀i,(pA s n).ag[i]?=if i=n then some (bH x 9 0 s.am)else s.ag[i]?:=by
  intro i;show(rg s.ag (n:Int) 9 0 s.am).1[i]?=_;rw[l];by_cases hi:i=n
  ·subst hi;rw[cK rfl,fH w]
  ·rw[cL hi,iK (fun h=>hi h.symm)]
 have B:(bH x 9 0 s.am).st=4:=by simp[bH]
 have A:(bH x 9 0 s.am).wt=0:=by simp[bH]
 have o:∀j∈s.aj,j.id≠0:=fun j f h=>by have:=gz.1 (no (g.aj.ok j f));omega
 refine jP 0 g g.am d (fun i y c z=> ?_) g.aj (fun j _=>oU) g.iy (fun r _=>oU) rfl g.bK rfl rfl ⟨g.wide.aj,g.wide.kk,g.wide.Qj⟩ g.O3 ?_ ?_ ?_ ?_ ?_ ?_
 ·rw[p i];by_cases hi:i=n
  ·subst hi;rw[cK rfl,hx];constructor
   ·intro h;simp only[iI]at h;subst h;unfold jz at c;omega
   ·intro h;simp only[iI]at h;subst h;exact absurd c hs
  ·rw[cL hi]
 ·intro r v hi;obtain⟨j,a,b,-⟩:=g.bx r v;exact absurd (by omega) (o j a)
 ·intro i y c hi h1;have:=tH (eR d c) (.inl h1);omega
 ·intro i y c hi h1;have:=tH (eR d c) (.inr (.inl h1));omega
 ·intro i y c hi h1;have t:jz y:=h1.elim .inr (fun h=>oe (eR d c) (.inr h));have:=tH (eR d c) (t.imp id .inl);omega
 ·intro i y c h1;rw[p i]at c;by_cases hi:i=n
  ·rw[cK hi]at c;simp only[iI]at c;subst c;omega
  ·rw[cL hi]at c;exact g.going i y c h1
 ·intro j f hi;exact absurd hi (o j f)
def bv(s:St)(r:Rz):List Nd×List Nt×Int:=if r.gr then ft s.ag r.nd 7 0 s.am else ft s.ag (eH r.nd r.sd) 6 0 s.am
def ow(s:St)(r:Rz):St:={s with bx:=s.bx.filter (fun x=>x.jb !=r.jb),ag:=(bv s r).1}
theorem rf(a b:Nat):eH a b<2^64:=by unfold eH;exact BitVec.isLt _
theorem xK{b n:Nat}(h:a<2^64):(eH a b).testBit n=true↔a.testBit n=true/\b.testBit n=false:=by
 rw[lh];constructor
 ·intro c;simp at c;exact⟨c.1.2,c.2⟩
 ·rintro⟨h1,h2⟩;simp[h1,h2,og h h1]
theorem JO{l:List Rz}(h:l.Pairwise (fun a b=>a.jb<b.jb)){a b:Rz}(c:a∈l)(d:b∈l)(e:a.jb=b.jb):a=b:=by
 have h1:=(gP h).2 ⟨c,e⟩;have h2:=(gP h).2 ⟨d,rfl⟩;rw[h1]at h2;exact oF h2
theorem J9{s:St}(g:bt s)(d:r∈s.bx):(bv s r).2.2=0:=by
 obtain⟨j,e,f,h,R⟩:=g.bx r d;unfold bv
 cases hg:r.gr with
 |true=>
  refine(lv (g.wide.kk r d) g.ag g.am fun n hn=> ?_).1;obtain⟨x,a,b,c⟩:=((R.grow hg).1 n).1 hn;exact⟨x,a,by simp[jx,c]⟩
 |false=>
  refine(lv (rf _ _) g.ag g.am fun n hn=> ?_).1;obtain⟨x,a,b,c⟩:=(R.ask n).1 ((xK (g.wide.kk r d)).1 hn);simp[mq,hg]at c;exact⟨x,a,by simp[jx,c,mp (eR g.ag a) c]⟩
theorem ox{s:St}(g:bt s)(F:r∈s.bx):bt (ow s r):=by
 obtain⟨j,C,Q,M,R⟩:=g.bx r F;have G:=g.wide.kk r F;have v:∀x,x∈s.bx.filter (fun x=>x.jb !=r.jb)->x∈s.bx:=fun x hx=>(fM.1 hx).1;have P:∀k∈s.aj,k.id=r.jb->k=j:=fun k p O=>mo g.aj.up p C (by omega);have J:∀r'∈s.bx,r'.jb=r.jb->r'=r:=fun r' h e=>JO g.iy h F e;have S:=g.O3 j C;unfold ow
 cases hg:r.gr with
 |true=>
  have E:=(lv (act:=7) (bD:=0) G g.ag g.am (fun n hn=>by
   obtain⟨x,a,b,c⟩:=((R.grow hg).1 n).1 hn;exact⟨x,a,by simp[jx,c]⟩)).2
  have i:=mZ G E;have B:(bv s r).1=(ft s.ag r.nd 7 0 s.am).1:=by simp[bv,hg]
  rw[B];generalize(ft s.ag r.nd 7 0 s.am).1=m at E i⊢;have D:aO m=true:=E.ok g.ag
  have f:∀(n:Nat) (x:Nd),m[n]?=some x->(x.st=3/\x.jb=r.jb/\x.wt=5)\/(s.ag[n]?=some x/\¬(x.jb=r.jb/\x.st=2)):=by
   intro n x hx;rw[i n]at hx;by_cases d:r.nd.testBit n=true
   ·rw[cK d]at hx;obtain⟨y,a,b,c⟩:=((R.grow hg).1 n).1 d;rw[a]at hx;simp only[fI,iI]at hx;subst hx;exact .inl ⟨by simp[bH,eL],by simp[bH,eL,b],by simp[bH,eL]⟩
   ·rw[cL d]at hx;exact .inr ⟨hx,fun⟨h1,h2⟩=>d (((R.grow hg).1 n).2 ⟨x,hx,h1,h2⟩)⟩
  have t:∀(n:Nat) (x:Nd),s.ag[n]?=some x->¬(x.jb=r.jb/\x.st=2)->m[n]?=some x:=by
   intro n x hx hn;rw[i n,cL,hx];intro d;obtain⟨y,a,b,c⟩:=((R.grow hg).1 n).1 d;rw[hx]at a;cases a;exact hn ⟨b,c⟩
  refine jP r.jb g g.am D (fun n x hx u=>⟨fun h=> ?_,fun h=>t n x h (fun k=>u k.1)⟩) g.aj (fun j _=>oU) (g.iy.sublist iQ) (fun x hx=>by simp[hx]) rfl g.bK rfl rfl
   ⟨g.wide.aj,fun x hx=>g.wide.kk x (v x hx),fun x hx=>g.wide.Qj x (v x hx)⟩ g.O3 ?_ ?_ ?_ ?_ ?_ ?_
  ·rcases f n x h with⟨a,b,c⟩|⟨a,b⟩
   ·exact absurd b u
   ·exact a
  ·intro x hx hi;have:=(fM.1 hx).2;simp[hi]at this
  ·intro n x hx hi h1;rcases f n x hx with⟨a,b,c⟩|⟨a,b⟩
   ·omega
   ·exact g.busy n x a h1
  ·intro n x hx hi h1;rcases f n x hx with⟨a,b,c⟩|⟨a,b⟩
   ·omega
   ·exact absurd ⟨hi,h1⟩ b
  ·intro n x hx hi h1;rcases f n x hx with⟨a,b,c⟩|⟨a,b⟩
   ·omega
   ·rcases h1 with h1|h1
    ·exact absurd ⟨hi,h1⟩ b
    ·obtain⟨r',z,K,A⟩:=g.tP n x a (.inr h1);obtain rfl:=J r' z (by omega);obtain⟨y,o,L,I⟩:=((R.grow hg).1 n).1 A;rw[a]at o;cases o;exact absurd ⟨hi,I⟩ b
  ·intro n x hx h1;rcases f n x hx with⟨a,b,c⟩|⟨a,b⟩
   ·show x.jb<s.nj;omega
   ·exact g.going n x a h1
  ·intro k p hi h1 n;rw[g.held k p h1 n];constructor
   ·rintro⟨x,a,b,c⟩;exact⟨x,t n x a (by omega),b,c⟩
   ·rintro⟨x,a,b,c⟩;rcases f n x a with⟨l,w,H⟩|⟨l,w⟩
    ·omega
    ·exact⟨x,l,b,c⟩
 |false=>
  have q:∀n,(eH r.nd r.sd).testBit n=true↔∃x,s.ag[n]?=some x/\x.jb=r.jb/\x.wt=4:=by
   intro n;rw[xK G,R.ask n];simp[mq,hg]
  have E:=(lv (act:=6) (bD:=0) (rf r.nd r.sd) g.ag g.am (fun n hn=>by
   obtain⟨x,a,b,c⟩:=(q n).1 hn;exact⟨x,a,by simp[jx,c,mp (eR g.ag a) c]⟩)).2
  have i:=mZ (rf r.nd r.sd) E;have B:(bv s r).1=(ft s.ag (eH r.nd r.sd) 6 0 s.am).1:=by simp[bv,hg]
  rw[B];generalize(ft s.ag (eH r.nd r.sd) 6 0 s.am).1=m at E i⊢;have D:aO m=true:=E.ok g.ag
  have f:∀(n:Nat) (x:Nd),m[n]?=some x->(∃y,s.ag[n]?=some y/\y.jb=r.jb/\y.st=1/\x={y with wt:=0})\/(s.ag[n]?=some x/\¬(x.jb=r.jb/\x.wt=4)):=by
   intro n x hx;rw[i n]at hx;by_cases d:(eH r.nd r.sd).testBit n=true
   ·rw[cK d]at hx;obtain⟨y,a,b,c⟩:=(q n).1 d;rw[a]at hx;simp only[fI,iI]at hx;subst hx;exact .inl ⟨y,a,b,mp (eR g.ag a) c,by simp[bH]⟩
   ·rw[cL d]at hx;exact .inr ⟨hx,fun⟨h1,h2⟩=>d ((q n).2 ⟨x,hx,h1,h2⟩)⟩
  have t:∀(n:Nat) (x:Nd),s.ag[n]?=some x->¬(x.jb=r.jb/\x.wt=4)->m[n]?=some x:=by
   intro n x hx hn;rw[i n,cL,hx];intro d;obtain⟨y,a,b,c⟩:=(q n).1 d;rw[hx]at a;cases a;exact hn ⟨b,c⟩
  refine jP r.jb g g.am D (fun n x hx u=>⟨fun h=> ?_,fun h=>t n x h (fun k=>u k.1)⟩) g.aj (fun j _=>oU) (g.iy.sublist iQ) (fun x hx=>by simp[hx]) rfl g.bK rfl rfl
   ⟨g.wide.aj,fun x hx=>g.wide.kk x (v x hx),fun x hx=>g.wide.Qj x (v x hx)⟩ g.O3 ?_ ?_ ?_ ?_ ?_ ?_
  ·rcases f n x h with⟨y,a,b,c,rfl⟩|⟨a,b⟩
   ·exact absurd b u
   ·exact a
  ·intro x hx hi;have:=(fM.1 hx).2;simp[hi]at this
  ·intro n x hx hi h1;rcases f n x hx with⟨y,a,b,c,rfl⟩|⟨a,b⟩
   ·exact g.busy n y a c
   ·exact g.busy n x a h1
  ·intro n x hx hi h1;rcases f n x hx with⟨y,a,b,c,rfl⟩|⟨a,b⟩
   ·exact g.Fe n y a h1
   ·exact g.Fe n x a h1
  ·intro n x hx hi h1;rcases f n x hx with⟨y,a,b,c,rfl⟩|⟨a,b⟩
   ·simp[c]at h1
   ·exfalso;obtain⟨r',z,K,A⟩:=g.tP n x a h1;obtain rfl:=J r' z (by omega);have N:=(R.shrink hg).1 n A;obtain⟨y,o,L,I⟩:=(g.held j C M n).1 N;rw[a]at o;cases o;rcases h1 with h1|h1
    ·omega
    ·exact b ⟨hi,h1⟩
  ·intro n x hx h1;rcases f n x hx with⟨y,a,b,c,rfl⟩|⟨a,b⟩
   ·show y.jb<s.nj;omega
   ·exact g.going n x a h1
  ·intro k p hi h1 n;rw[g.held k p h1 n];constructor
   ·rintro⟨x,a,b,c⟩;by_cases hw:x.jb=r.jb/\x.wt=4
    ·refine⟨bH x 6 0 s.am,?_,by simp[bH,b],by simp[bH,c]⟩;rw[i n,cK ((q n).2 ⟨x,a,hw.1,hw.2⟩),a];rfl
    ·exact⟨x,t n x a hw,b,c⟩
   ·rintro⟨x,a,b,c⟩;rcases f n x a with⟨y,l,w,H,rfl⟩|⟨l,w⟩
    ·exact⟨y,l,b,H⟩
    ·exact⟨x,l,b,c⟩
structure Alike(l m:List Nd):Prop where
 cb:m.length=l.length
 at_:∀(n:Nat) (x:Nd),l[n]?=some x->∃y,m[n]?=some y/\y.st=x.st/\y.jb=x.jb/\y.wt=x.wt
theorem Alike.symm{l:List Nd}(h:Alike l m):Alike m l:=by
 refine⟨h.cb.symm,fun n x hx=> ?_⟩;have hn:=(cA.1 hx).1;obtain⟨y,a,b,c,d⟩:=h.at_ n _ (cE (show n<l.length by have:=h.cb;omega));rw[hx]at a;cases a;exact⟨_,cE (show n<l.length by have:=h.cb;omega),b.symm,c.symm,d.symm⟩
def ic(j k:Jb):Prop:=k.id=j.id/\fg k=true/\k.nd<2^64/\(k.st=2↔j.st=2)/\(j.st=2->k.nd=j.nd/\k.sh=j.sh)
theorem LL{l:List Nd}(A:Alike l m)(h1:k.nd=j.nd)(h2:k.sh=j.sh)(R:xq l r j):xq m r k:=by
 have B:=A.symm
 have h:∀(n:Nat) (q:Int->Int->Int->Prop),(∃x,l[n]?=some x/\q x.st x.jb x.wt)↔(∃x,m[n]?=some x/\q x.st x.jb x.wt):=by
  intro n q;constructor
  ·rintro⟨x,a,b⟩;obtain⟨y,c,d,e,f⟩:=A.at_ n x a;exact⟨y,c,by rw[d,e,f];exact b⟩
  ·rintro⟨x,a,b⟩;obtain⟨y,c,d,e,f⟩:=B.at_ n x a;exact⟨y,c,by rw[d,e,f];exact b⟩
 refine⟨by rw[h2];exact R.kd,R.nz,R.sub,R.si,fun n=> ?_,fun n hn=> ?_,fun g=>⟨fun n=> ?_,by rw[h1,h2];exact(R.grow g).2⟩,fun g=>by rw[h1,h2];exact R.shrink g⟩
 ·rw[R.ask n];exact h n (fun _ b c=>b=r.jb/\c=mq r)
 ·exact(h n (fun _ _ c=>c=0)).1 (R.quiet n hn)
 ·rw[(R.grow g).1 n];exact h n (fun a b _=>b=r.jb/\a=2)
theorem sO{s s':St}(g:bt s)(M:bZ s'.am=true)(hn:aO s'.ag=true)(A:Alike s.ag s'.ag)(N:s'.aj.length=s.aj.length)
 (z:∀(i:Nat) (j k:Jb),s.aj[i]?=some j->s'.aj[i]?=some k->ic j k)(t:s'.bx=s.bx)(D:Ap s'.aZ=true)(P:kg s'.nb (ma s'.aZ)=true)(L:fm s'.bK=true)
 (I:s'.nj=s.nj):bt s':=by
 have B:=A.symm
 have C:∀j∈s.aj,∃k∈s'.aj,ic j k:=by
  intro j w;obtain⟨i,hi,rfl⟩:=i7.1 w;have H:i<s'.aj.length:=by omega
  exact⟨s'.aj[i],iH _,z i _ _ (cE hi) (cE H)⟩
 have v:∀k∈s'.aj,∃j∈s.aj,ic j k:=by
  intro k e;obtain⟨i,hi,rfl⟩:=i7.1 e;have H:i<s.aj.length:=by omega
  exact⟨s.aj[i],iH _,z i _ _ (cE H) (cE hi)⟩
 have J:vI s'.aj:=by
  refine⟨by rw[N];exact g.aj.cf,fun k e=> ?_,?_⟩
  ·obtain⟨j,a,b⟩:=v k e;exact b.2.1
  ·refine cN.2 fun a b K D O=> ?_;have h1:=z a _ _ (cE (show a<s.aj.length by omega)) (cE K);have h2:=z b _ _ (cE (show b<s.aj.length by omega)) (cE D);rw[h1.1,h2.1];exact cN.1 g.aj.up a b (by omega) (by omega) O
 refine⟨M,hn,J,D,L,⟨fun k e=> ?_,by rw[t];exact g.wide.kk,by rw[t];exact g.wide.Qj⟩,by rw[t];exact g.iy,fun r h=> ?_,by rw[I];exact g.nj,fun k e=> ?_,P,?_,?_,?_,?_,?_⟩
 ·obtain⟨j,a,b⟩:=v k e;exact b.2.2.1
 ·rw[t]at h;obtain⟨j,a,b,c,d⟩:=g.bx r h;obtain⟨k,e,E,F,G,f,l⟩:=C j a;exact⟨k,e,by omega,f.2 c,LL A (l c).1 (l c).2 d⟩
 ·obtain⟨j,a,b⟩:=v k e;rw[I,b.1];exact g.O3 j a
 ·intro n x hx hs;obtain⟨y,h1,h2,m,o⟩:=B.at_ n x hx;obtain⟨j,a,b,c,d⟩:=g.busy n y h1 (by omega);obtain⟨k,e,E,F,G,f,l⟩:=C j a;exact⟨k,e,by omega,f.2 c,by rw[(l c).1];exact d⟩
 ·intro n x hx hs;obtain⟨y,h1,h2,m,o⟩:=B.at_ n x hx;obtain⟨j,a,b,c⟩:=g.Fe n y h1 (by omega);obtain⟨k,e,E,F,G,f,l⟩:=C j a;exact⟨k,e,by omega,f.2 c⟩
 ·intro n x hx hs;obtain⟨y,h1,h2,m,o⟩:=B.at_ n x hx;obtain⟨r,a,b,c⟩:=g.tP n y h1 (by omega);exact⟨r,by rw[t];exact a,by omega,c⟩
 ·intro n x hx hs;obtain⟨y,h1,h2,m,o⟩:=B.at_ n x hx;have:=g.going n y h1 (by omega);omega
 ·intro k e hs n;obtain⟨j,a,E,F,G,f,l⟩:=v k e;have w:=f.1 hs;rw[(l w).1,g.held j a w n];constructor
  ·rintro⟨x,p,q,u⟩;obtain⟨y,h1,h2,m,o⟩:=A.at_ n x p;exact⟨y,h1,by omega,by omega⟩
  ·rintro⟨x,p,q,u⟩;obtain⟨y,h1,h2,m,o⟩:=B.at_ n x p;exact⟨y,h1,by omega,by omega⟩
theorem Alike.refl(l:List Nd):Alike l l:=⟨rfl,fun n x hx=>⟨x,hx,rfl,rfl,rfl⟩⟩
theorem ic.refl(h:fg j=true)(hw:j.nd<2^64):ic j j:=⟨rfl,h,hw,oU,fun _=>⟨rfl,rfl⟩⟩
def lp(am:Int)(x:Nd):Bool:=x.wt !=0&&decide (3<=am-x.ak)
def pv(am:Int)(x:Nd):Nd:=if lp am x then{x with ak:=am}else x
def ef(s:St):St:={s with ag:=s.ag.map (pv s.am)}
theorem qv{s:St}(g:bt s):bt (ef s):=by
 have ok:=cQ.1 g.ag;refine sO g g.am (cQ.2 ⟨by simpa [ef]using ok.some,by simpa [ef]using ok.cf,fun x hx=> ?_⟩) ⟨by simp[ef],fun n x hx=> ?_⟩ rfl (fun i j k h1 h2=> ?_) rfl g.aZ g.nb g.bK rfl
 ·obtain⟨y,h,rfl⟩:=cS.1 hx;have a:=ok.m6 y h;unfold pv;split
  ·rw[gY]at a⊢;obtain⟨c,d,e,l,f⟩:=a;exact⟨c,d,e,g.am,by simpa [pW,vX]using f⟩
  ·exact a
 ·refine⟨pv s.am x,by simp[ef,hx],?_⟩;unfold pv;split<;>simp
 ·have b:s.aj[i]?=some k:=h2;rw[h1]at b;cases b;have:=cG h1;exact ic.refl (g.aj.ok j this) (g.wide.aj j this)
def zO(s:St)(j:Jb)(m:List Nd)(set:Nat):St:={s with ag:=m,aj:=gv s.aj (jB j s.am (fl j) set)}
theorem Iq{s:St}(g:bt s)(u:j∈s.aj){N:Nat}(G:Ga s.ag m N 1 j.id s.am)(z:mQ j s.am (eD (eQ s.ag N))=0):bt (zO s j m (eD (eQ s.ag N))):=by
 obtain⟨E,L,M,O,P⟩:=ue z;have H:=(cQ.1 g.ag).cf;have B:aO m=true:=G.done.ok g.ag;have I:eD (eQ s.ag N)<2^64:=rz _ 64 (qR _ _) (Ab H);have v:∀n,(eD (eQ s.ag N)).testBit n=true↔n∈eQ s.ag N:=fun n=>by rw[nv _ _ (qR _ _)];simp
 have p:∀n∈eQ s.ag N,∃x,s.ag[n]?=some x/\x.st=0:=by
  intro n hn;have:=Aa hn;rw[gM]at this;obtain⟨x,a,b⟩:=this;simp[fo]at b;exact⟨x,a,b.1⟩
 have q:(jB j s.am (fl j) (eD (eQ s.ag N))).id=j.id:=rfl
 have l:∀(n:Nat) (x:Nd),m[n]?=some x->(n∈eQ s.ag N/\x.st=1/\x.jb=j.id/\x.wt=1)\/(n∉eQ s.ag N/\s.ag[n]?=some x):=by
  intro n x hx;rw[G.done.at_ n]at hx;by_cases hn:n∈eQ s.ag N
  ·rw[cK hn]at hx;obtain⟨y,a,b⟩:=p n hn;rw[a]at hx;simp only[fI,iI]at hx;subst hx;exact .inl ⟨hn,by simp[bH,eL],by simp[bH,eL],by simp[bH,eL]⟩
  ·rw[cL hn]at hx;exact .inr ⟨hn,hx⟩
 have o:∀k∈s.aj,k.id=j.id->k.st≠2:=by
  intro k i A;have:=mo g.aj.up i u A;subst this;omega
 have F:jB j s.am (fl j) (eD (eQ s.ag N))∈gv s.aj (jB j s.am (fl j) (eD (eQ s.ag N))):=C3 u rfl
 refine jP j.id g g.am B (fun n x hx J=>⟨fun h=> ?_,fun h=> ?_⟩) (Fj g.aj E) (fun k i=>zb i) g.iy (fun r _=>oU) rfl g.bK rfl rfl
  ⟨fun k i=> ?_,g.wide.kk,g.wide.Qj⟩ (pu g.O3) ?_ ?_ ?_ ?_ ?_ ?_
 ·rcases l n x h with⟨a,b,c,d⟩|⟨a,b⟩
  ·exact absurd c J
  ·exact b
 ·show m[n]?=some x;rw[G.done.at_ n,cL,h];intro hn;obtain⟨y,a,b⟩:=p n hn;rw[h]at a;cases a;unfold jz at hx;omega
 ·rcases it i with rfl|⟨i,-⟩
  ·exact I
  ·exact g.wide.aj k i
 ·intro r C hi;obtain⟨k,a,b,c,-⟩:=g.bx r C;exact absurd c (o k a (by omega))
 ·intro n x hx hi h1;rcases l n x hx with⟨a,b,c,d⟩|⟨a,b⟩
  ·exact⟨_,F,by rw[q];omega,rfl,(v n).2 a⟩
  ·obtain⟨k,e,f,h,-⟩:=g.busy n x b h1;exact absurd h (o k e (by omega))
 ·intro n x hx hi h1;rcases l n x hx with⟨a,b,c,d⟩|⟨a,b⟩
  ·omega
  ·obtain⟨k,e,f,h⟩:=g.Fe n x b h1;exact absurd h (o k e (by omega))
 ·intro n x hx hi h1;rcases l n x hx with⟨a,b,c,d⟩|⟨a,b⟩
  ·omega
  ·exact g.tP n x b h1
 ·intro n x hx h1;rcases l n x hx with⟨a,b,c,d⟩|⟨a,b⟩
  ·omega
  ·exact g.going n x b h1
 ·intro k i hi h1 n;rcases it i with rfl|⟨i,K⟩
  ·show(eD (eQ s.ag N)).testBit n=true↔_;rw[v n];constructor
   ·intro hn;obtain⟨y,a,b⟩:=p n hn;refine⟨bH y 1 j.id s.am,?_,by simp[bH,eL,q],by simp[bH,eL]⟩;show m[n]?=_;rw[G.done.at_ n,cK hn,a];rfl
   ·rintro⟨x,a,b,c⟩;rcases l n x a with⟨t,-⟩|⟨t,w⟩
    ·exact t
    ·obtain⟨D,e,f,h,-⟩:=g.busy n x w c;rw[q]at b;exact absurd h (o D e (by omega))
  ·exact absurd hi K
theorem RT{l:List Bk}(h:l.Pairwise (fun a b=>a.id<b.id)):∀b∈l,b.id<=ma l:=by
 intro b c;unfold ma;obtain⟨i,hi,rfl⟩:=i7.1 c;rw[rV,cE (show l.length-1<l.length by omega)];simp only[fI,i8];by_cases d:i=l.length-1
 ·subst d;exact i5 _
 ·exact Int.le_of_lt (cN.1 h i (l.length-1) hi (by omega) (by omega))
theorem LB{l:List Bk}(h:Ap l=true)(hn:kg n (ma l)=true):Ap (iw l am)=true/\kg n (ma (iw l am))=true:=by
 have ok:=NF h;have e:iw l am=l.filter (fun b=>decide (am<b.to)):=by unfold iw;rw[cL (by simp[h])]
 rw[e];refine⟨Uz (ok.sub iQ),?_⟩;simp only[kg,cH,dA]at hn⊢;refine⟨hn.1,?_⟩;unfold ma
 cases hl:(l.filter (fun b=>decide (am<b.to))).getLast? with
 |none=>simp;omega
 |some x=>
  have:=RT ok.up x (fM.1 (List.mem_of_getLast? hl)).1;simp only[fI,i8];omega
def ez(j:Jb):Jb:=if jV j=0 then rb j (ms j.nd)else j
def ig(s:St)(bK:List Us):St:={s with am:=s.am+1,aj:=s.aj.map ez,bK:=bK,aZ:=iw s.aZ (s.am+1)}
theorem Cz(h:fg j=true)(hw:j.nd<2^64):ic j (ez j):=by
 unfold ez;by_cases d:jV j=0
 ·rw[cK d];obtain⟨a,b,c⟩:=Kj (n:=ms j.nd) d;exact⟨rfl,a,hw,oU,fun _=>⟨rfl,rfl⟩⟩
 ·rw[cL d];exact ic.refl h hw
theorem sK{s:St}(g:bt s)(hn:s.am<1000000){bK:List Us}(b:fm bK=true):bt (ig s bK):=by
 obtain⟨p1,p2⟩:=LB (am:=s.am+1) g.aZ g.nb;have ht:=ej.1 g.am;refine sO g (ej.2 ⟨?_,?_⟩) g.ag (Alike.refl _) (by simp[ig]) (fun i j k h1 h2=> ?_) rfl p1 p2 b rfl
 ·show 0<=s.am+1;omega
 ·show s.am+1<=1000000;omega
 ·have a:(s.aj.map ez)[i]?=some k:=h2;rw[dD,h1]at a;simp only[fI,iI]at a;subst a;have:=cG h1;exact Cz (g.aj.ok j this) (g.wide.aj j this)
end Go.Proofs.YthfhilggbbobmaaGreatDoor
