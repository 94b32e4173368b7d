/- Parts of the proof. -/
import Derived.Test.YthfhilggbbobmaaGreatDoorK24
import Derived.Test.YthfhilggbbobmaaGreatDoorK23
set_option linter.all false
set_option maxHeartbeats 20000000
namespace Go.Proofs.YthfhilggbbobmaaGreatDoor
set_option maxRecDepth 100000
open Go.Proofs.Tryz
open Go renaming World->Wd,Value->Vl,TypeId->Ti,Calls->Cs
open Go.RowKit renaming Below->Bl
open Go.RowKit
def zh(l:List Us)(k:Nat):Bool:=(l[k]?.map vV).getD false&&Ty l k
variable{l:List Us}{k:Nat}
theorem Nz(a:k<l.length)(h:zh l k=false):fm l=false:=by
 rw[zh,cE a]at h;rw[Bool.eq_false_iff];intro e;simp only[fm,cH,dA,dC,fS]at e;have h1:=e.1.2 _ (iH a);have h2:=e.2 k a;simp[h1,h2]at h
theorem Kr(hn:l.length<=200)(h:∀k,k<l.length->zh l k=true):fm l=true:=by
 simp only[fm,cH,dA,dC,fS];refine⟨⟨hn,fun u a=> ?_⟩,fun i hi=> ?_⟩
 ·obtain⟨i,hi,rfl⟩:=i7.1 a;have:=h i hi;rw[zh,cE hi]at this;simp at this;exact this.1
 ·have:=h i hi;rw[zh]at this;simp at this;exact this.2
theorem Sq{s:Us}(h:l[k]?=some s):zh l k=(jj s.us&&jj s.ac&& !(s.ud !=pJ s.ud)&& !decide (s.sh<0)&& !decide (s.ud<s.sh)&&Ty l k):=by
 have a:(pJ s.ud==s.ud)= !(s.ud !=pJ s.ud):=by
  rw[bne,Bool.not_not,nS,iC,iC];exact eq_comm
 have b:decide (0<=s.sh)= !decide (s.sh<0):=by rw[<-nL];exact iD.2 (by omega)
 have c:decide (s.sh<=s.ud)= !decide (s.ud<s.sh):=by rw[<-nL];exact iD.2 (by omega)
 rw[zh,h,fI,i8,vV,a,b,c]
theorem P3{r s:Us}(h:l[k]?=some s)(a:l[k-1]?=some r)(b:0<k):Ty l k= !decide (0<=fa r s):=by
 unfold Ty;have:(k==0)=false:=by simp;omega
 rw[this,h,a,<-nL];simp
theorem R2:∀(p1 p2 a b c:Bool),(p1=false)\/(p1=true/\p2=false)\/(p1=true/\p2=true/\a=true)\/(p1=true/\p2=true/\a=false/\b=true)\/(p1=true/\p2=true/\a=false/\b=false/\c=true)\/(p1=true/\p2=true/\a=false/\b=false/\c=false):=by
 intro p1 p2 a b c;cases p1<;>cases p2<;>cases a<;>cases b<;>cases c<;>simp
theorem R3:∀(p1 p2 a b c d:Bool),(p1=false)\/(p1=true/\p2=false)\/(p1=true/\p2=true/\a=true)\/(p1=true/\p2=true/\a=false/\b=true)\/(p1=true/\p2=true/\a=false/\b=false/\c=true)\/(p1=true/\p2=true/\a=false/\b=false/\c=false/\d=true)\/(p1=true/\p2=true/\a=false/\b=false/\c=false/\d=false):=by
 intro p1 p2 a b c d;cases p1<;>cases p2<;>cases a<;>cases b<;>cases c<;>cases d<;>simp
theorem py:(prog.info? 83).map (·.size)=some 4:=by kernel_rfl
abbrev t83:=pk underlying83 rfl py
theorem P5{w:Wd}{g:Nat}{t:Ti}{s:Us}(h:ai w g t (mU s)):w.rangeAt g 0 (mU s).toList:=fun j v a=>by
 rw[cR,h.cell j];simpa using a
def Qt(w:Wd)(l:List Us)(i:Vl)(wr:Wd):Prop:=∃k:Nat,k<=l.length/\i=.int .i64 k/\(∀j,j<k->zh l j=true)/\Bl w w wr
theorem kW(A:OA)(n c:Nat)(l:List Us)(w:Wd)(h:Aw w A n l)(hn:n<=maxLen):
 Cs prog 27 #[.slice A n c] w (an (ls l:Int) w):=by
 unfold maxLen at hn;have yI:=h.cb;subst yI;by_cases h1:200<l.length
 ·have HC:Hid (ls l=2):=by
   show _=_;have:fm l=false:=by simp[fm];omega
   simp[ls,this]
  clear h;go_in;go_wp2;go_ret;exact⟨ax HC.symm,cC _ _⟩
 have yU:l.length<=200:=by omega
 have M:=ah h;clear h1 h;go_in;go_wp2
 go_loopw [10] (fun i wr=>Qt w l i wr) (fun i _=>l.length-(intOf i).toNat)
 case atStart=>exact⟨0,by omega,rfl,by omega,cC _ _⟩
 case round=>
  obtain⟨k,hk,rfl,yG,J⟩:=hrel;have yF:=ah yG;clear yG;by_cases yQ:k<l.length
  ·obtain⟨b,off,s,rfl,a,hs,d0,d1,d2,d3⟩:=JW (M.ae J) yQ;have N:=ah hs;clear hs;go_wp2_with fail;obtain⟨V,t⟩:=nm (wr.alloc (.cells (mU s) 83));rw[<-t];have bV:Bl wr wr V:=t▸aA;have f:ai V wr 83 (mU s):=t▸ai.new _ _ _;have yP:=aa J bV;clear t d0 d1 d2 d3;have R:=cC V V;obtain⟨p1,D⟩:∃p,jj s.us=p:=⟨_,rfl⟩;obtain⟨p2,E⟩:∃p,jj s.ac=p:=⟨_,rfl⟩;obtain⟨U,F⟩:∃p,(s.ud !=pJ s.ud)=p:=⟨_,rfl⟩;obtain⟨Y,G⟩:∃p,decide (s.sh<0)=p:=⟨_,rfl⟩;obtain⟨Z,H⟩:∃p,decide (s.ud<s.sh)=p:=⟨_,rfl⟩;have L:=ah fun W=>nh s.us W;have K:=ah fun W=>nh s.ac W;have yM:=ah fun W=>vD s.ud W;have o:=ah (Sq N);rw[D]at L;rw[E]at K;rw[D,E,F,G,H]at o;have O:=ah F;have P:=ah G;have Q:=ah H;clear D E F G H;go_cut [58] (fun X wx=>X=.bool (!(zh l k))/\Bl V V wx)
   case first=>
    by_cases yO:k=0
    ·subst yO;have q:Hid (∀w',Bl V V w'->w'.cell? wr=some (.string s.us)/\w'.cell? ⟨wr,1,none⟩=some (.string s.ac)/\w'.cell? ⟨wr,2,none⟩=some (s.ud:Vl)/\w'.cell? ⟨wr,3,none⟩=some (s.sh:Vl)):=fun w' a=>⟨(f.ae a f.lt).cell 0,(f.ae a f.lt).cell 1,(f.ae a f.lt).cell 2,(f.ae a f.lt).cell 3⟩;have x:Hid (Ty l 0=true):=rfl;rw[x.out]at o;rcases R2 p1 p2 U Y Z with rfl|⟨rfl,rfl⟩|⟨rfl,rfl,rfl⟩|⟨rfl,rfl,rfl,rfl⟩|⟨rfl,rfl,rfl,rfl,rfl⟩|⟨rfl,rfl,rfl,rfl,rfl⟩
     all_goals
      refine aw (fun w'=>Bl V V w') (by kernel_rfl) (by kernel_rfl) R.drew ?_
      repeat(first
       |(refine bF ?_ ?_
         ·rfl
         simp only[aP])
       |(refine il 54 #[.string s.us] _ ?_ ?_ (fun w'=> ?_) (fun w' d=>(L w').mono fun e m ⟨g,a⟩=>⟨g,a▸d⟩) ?_
         ·rfl
         ·rfl
         ·simp[go_sem]
         simp only[aP])
       |(refine il 54 #[.string s.ac] _ ?_ ?_ (fun w'=> ?_) (fun w' d=>(K w').mono fun e m ⟨g,a⟩=>⟨g,a▸d⟩) ?_
         ·rfl
         ·rfl
         ·simp[go_sem]
         simp only[aP])
       |(refine il 55 #[s.ud] (pJ s.ud:Int) ?_ ?_ (fun w'=> ?_) (fun w' d=>(yM w').mono fun e m ⟨g,a⟩=>⟨g,a▸d⟩) ?_
         ·rfl
         ·rfl
         ·simp[go_sem]
         simp only[aP])
       |(refine cw rfl ⟨?_,fun w' d=> ?_,?_⟩
         rotate_left
         ·obtain⟨y,z,B,C⟩:=q w' d;simp[go_sem,y,z,B,C,O.out,P.out,Q.out]
          try rfl
         simp only[aP]))
      refine bM ?_;intro w' b3;go_wp2;go_meet;exact⟨by rw[o.out];rfl,b3⟩
    ·have yN:0<k:=by omega
     have yR:=dT ((0:Int)<(k:Int)) (by omega);obtain⟨b',yJ,r,e,yT,T,S⟩:=cp.at_ (M.ae yP) (show k-1<l.length by omega);have uA:V.rangeAt b' (yJ+(k-1)*4) (mU r).toList:=S;injection e with e
     injection e with e1 e2;subst e1 e2;have q:Hid (∀w',Bl V V w'->w'.cell? wr=some (.string s.us)/\w'.cell? ⟨wr,1,none⟩=some (.string s.ac)/\w'.cell? ⟨wr,2,none⟩=some (s.ud:Vl)/\w'.cell? ⟨wr,3,none⟩=some (s.sh:Vl)/\w'.rangeAt b (off+(k-1)*4) (mU r).toList/\w'.rangeAt wr 0 (mU s).toList):=fun w' a=>⟨(f.ae a f.lt).cell 0,(f.ae a f.lt).cell 1,(f.ae a f.lt).cell 2,(f.ae a f.lt).cell 3,qu uA a yT,P5 (f.ae a f.lt)⟩;have yZ:IntKind.i64.wrap ((k:Int)-1)=(k:Int)-1:=lS _ (by omega);have yY:(0:Int)<=(k:Int)-1:=by omega
     have yX:(1:Int)<=(k:Int):=by omega
     have yW:((k:Int)-1).toNat=k-1:=by omega
     have yV:(k:Int)-1<(l.length:Int):=by omega
     have x:=ah (P3 N T yN);obtain⟨p6,I⟩:∃p,decide (0<=fa r s)=p:=⟨_,rfl⟩;rw[x.out,I]at o;have yS:=ah fun W=>tc r s W;have Q6:=ah I;clear yO T I S;rcases R3 p1 p2 U Y Z p6 with rfl|⟨rfl,rfl⟩|⟨rfl,rfl,rfl⟩|⟨rfl,rfl,rfl,rfl⟩|⟨rfl,rfl,rfl,rfl,rfl⟩|⟨rfl,rfl,rfl,rfl,rfl,rfl⟩|⟨rfl,rfl,rfl,rfl,rfl,rfl⟩
     all_goals
      refine aw (fun w'=>Bl V V w') (by kernel_rfl) (by kernel_rfl) R.drew ?_
      repeat(first
       |(refine bF ?_ ?_
         ·rfl
         simp only[aP])
       |(refine il 54 #[.string s.us] _ ?_ ?_ (fun w'=> ?_) (fun w' d=>(L w').mono fun e m ⟨g,a⟩=>⟨g,a▸d⟩) ?_
         ·rfl
         ·rfl
         ·simp[go_sem]
         simp only[aP])
       |(refine il 54 #[.string s.ac] _ ?_ ?_ (fun w'=> ?_) (fun w' d=>(K w').mono fun e m ⟨g,a⟩=>⟨g,a▸d⟩) ?_
         ·rfl
         ·rfl
         ·simp[go_sem]
         simp only[aP])
       |(refine il 55 #[s.ud] (pJ s.ud:Int) ?_ ?_ (fun w'=> ?_) (fun w' d=>(yM w').mono fun e m ⟨g,a⟩=>⟨g,a▸d⟩) ?_
         ·rfl
         ·rfl
         ·simp[go_sem]
         simp only[aP])
       |(refine il 56 #[.agg (mU r),.agg (mU s)] (fa r s:Int) ?_ ?_ (fun w'=> ?_) (fun w' d=>(yS w').mono fun e m ⟨g,a⟩=>⟨g,aa d a⟩) ?_
         ·rfl
         ·rfl
         ·simp[go_sem]
         simp only[aP])
       |(refine mN ?_ _ _ rfl rfl (fun w' d=>(q w' d).2.2.2.2.1) underlying83 rfl py rfl ?_
         ·rfl
         simp only[aP])
       |(refine mN ?_ _ _ rfl rfl (fun w' d=>(q w' d).2.2.2.2.2) underlying83 rfl py rfl ?_
         ·rfl
         simp only[aP])
       |(refine cw rfl ⟨?_,fun w' d=> ?_,?_⟩
         rotate_left
         ·obtain⟨y,z,B,C,c4,c5⟩:=q w' d;simp[go_sem,y,z,B,C,yR,yN,yZ,yY,yX,yW,yV,O.out,P.out,Q.out,Q6.out]
          try rfl
         simp only[aP]))
      refine bM ?_;intro w' b3;go_wp2;go_meet;exact⟨by rw[o.out];rfl,b3⟩
   case rest=>
    obtain⟨u,b3⟩:=hcut;have yL:=aa yP b3;cases hg:zh l k
    ·have v:Hid (ls l=2):=by show _=_;simp[ls,Nz yQ hg]
     rw[hg]at u;subst u;clear hg;go_wp2;go_ret;exact⟨ax v.symm,yL⟩
    ·have HN:Hid (∀j,j<k+1->zh l j=true):=fun j hj=>by
      rcases Nat.lt_succ_iff_lt_or_eq.1 hj with h|rfl
      ·exact yF j h
      ·exact hg
     rw[hg]at u;subst u;clear hg;go_wp2_with fail;exact⟨⟨k+1,by omega,by go_num,HN,yL⟩,by simp[intOf];omega⟩
  ·obtain rfl:k=l.length:=by omega
   have v:Hid (ls l=0):=by show _=_;simp[ls,Kr yU yF.out]
   go_wp2;go_ret;exact⟨ax v.symm,J⟩
set_option maxRecDepth 512
open Go renaming Ending->Ed
def NewU(l:List Us)(w:Wd)(e:Ed)(w':Wd):Prop:=∃A c,e=.returned (.slice A l.length c)/\mL w' w A l.length c l/\Bl w w w'
theorem Ah(A:OA)(n c:Nat)(p:List Us)(w:Wd)(h:Aw w A n p)(hn:n<=1000000)(hA:A=none->c=0):
 Cs prog 163 #[.slice A n c] w (NewU p w):=by
 have o:=h.cb;subst o
 cases A with
 |none=>
  have q:p=[]:=by
   cases p with
   |nil=>rfl
   |cons x r=>obtain⟨b,off,_,e,_⟩:=h.at_ (i:=0) (by simp);cases e
  subst q;obtain rfl:=hA rfl;clear h hA hn;have g:=fun(w:Wd)=>Lib.run_eql_slice_nil (P:=prog) w 26 83 none 0 0 0 0 underlying26;go_in;go_wp2;go_ret;exact⟨none,0,rfl,be.nil _ _ _ _,cC _ _⟩
 |some a=>
  obtain⟨k,m,t,d,j,f,_,_⟩:=dy na (P:=prog) (w.alloc (.cells #[] 83)) w 26 26 83 _ 48 underlying26 DB rfl w 0 0 [] (be.none _ _ _ _ _) (some a) p.length c p (h.ae (aA)) (by simp[maxLen];omega) (by omega) (by simp);simp only[cR,dH]at d j;have l:=ah d;have s:=((cC w w).alloc lr (.cells #[] 83)).trans f;clear d f h;have g:=fun(w:Wd)=>Lib.run_eql_slice_nil (P:=prog) w 26 83 (some a) p.length c 0 0 underlying26;simp only[iV]at g;go_in;go_wp2_with(at_builtin;refine au rfl _ _ rfl rfl rfl l ?_);go_ret;exact⟨k,m,rfl,j,s⟩
def wV(w:Wd)(e:Ed)(w':Wd):Prop:=∃n:Int,e=.returned n/\Bl w w w'
theorem Ih(u:Us)(b:Nat)(t:ByteArray)(w:Wd)(c:w.cell? b=some (.string t))(d:b<w):Cs prog 413 #[.agg (mU u),.pointer b] w (wV w):=by
 have a:Hid (ai (w.alloc (.cells (mU u) 83)) w 83 (mU u)):=ai.new _ _ _;have e:=a.cell 0;have f:=a.cell 3;have g:(w.alloc (.cells (mU u) 83)).cell? b=some (.string t):=by rw[lM _ _ _ d];exact c
 simp at e f;clear c;cases he:(u.us.toList==t.toList)
 all_goals
  go_in;go_wp2;go_ret;exact⟨_,rfl,aA⟩
theorem B9:∀args w,(callFunc 413 args).run prog w=.ok (.enter 413 args) w:=enters_of func413 (by kernel_rfl) rfl
theorem Dx(b:Nat)(t:ByteArray)(A:OA)(n c:Nat)(l:List Us)(w:Wd)(h:Aw w A n l)(hn:n<=maxLen)(v:w.cell? b=some (.string t))(u:b<w):
 Cs prog 412 #[.slice A n c,.func (.func 413) #[] #[.pointer b]] w (wV w):=by
 have D:=h.cb;subst D;have d:=ah (kW A l.length c l w h hn);have B:=ah h;have H:=ah B9;have y:Hid (∀W,Bl w w W->W.cell? b=some (.string t)/\b<W):=fun W r=>⟨(r.cell (p:=b) u).trans v,cD u r.size⟩;have a:ls l=0\/ls l=2:=by unfold ls;split<;>simp
 unfold maxLen at hn;clear h v;rcases a with a|a
 ·rw[a]at d;clear a;have N:=B9;go_in;go_wp2_with fail;refine d.out.mono ?_;rintro e C ⟨rfl,b1⟩;have F:=ah b1;clear b1;go_wp2
  go_loopw [5,13] (fun z i wr=>∃(k:Nat) (m:Int),k<=l.length/\z=.int .i64 m/\i=.int .i64 k/\Bl w w wr) (fun _ i _=>l.length-(intOf i).toNat)
  case atStart=>exact⟨0,0,by omega,rfl,rfl,F⟩
  case round=>
   obtain⟨k,m,O,rfl,rfl,g⟩:=hrel;have j:=ah g;by_cases E:k<l.length
   ·obtain⟨I,off,s,rfl,R,hs,J,K,L,M⟩:=JW (B.ae g) E;clear hs g;go_wp2_with fail;have f:Bl wr wr (wr.alloc (.cells (mU s) 83)):=aA;obtain⟨o,q⟩:=y _ (aa j f);refine(Ih s b t _ o q).mono ?_;rintro e P ⟨x,rfl,b2⟩;have G:=ah (aa (aa j f) b2);clear f o q b2;go_wp2_with fail;refine(nr m x _ _ _ (qh _ _ _ _)).mono ?_;rintro e Q ⟨rfl,rfl⟩;go_wp2_with fail;exact⟨⟨k+1,_,by omega,rfl,by go_num,aa G (aA)⟩,by simp[intOf];omega⟩
   ·obtain rfl:k=l.length:=by omega
    go_wp2;go_ret;exact⟨m,rfl,j⟩
 ·rw[a]at d;clear a;go_in;go_wp2_with fail;refine d.out.mono ?_;rintro e C ⟨rfl,b1⟩;go_wp2;go_ret;exact⟨_,rfl,b1⟩
theorem LY(t:ByteArray)(A:OA)(n c:Nat)(l:List Us)(w:Wd)(h:Aw w A n l)(hn:n<=maxLen):Cs prog 389 #[.slice A n c,.string t] w (wV w):=by
 have a:=ah (Dx w t A n c l (w.alloc (.cells #[.string t] 9)) (h.ae (aA)) hn ((ai.new _ _ _).cell 0) (by simp));clear h hn;go_in;go_wp2_with fail;refine a.out.mono ?_;rintro e b ⟨m,rfl,b1⟩;go_wp2;go_ret;exact⟨m,rfl,aa (aA) b1⟩
set_option maxRecDepth 100000
theorem UF:∀args w,(callFunc 56 args).run prog w=.ok (.enter 56 args) w:=enters_of func56 (by kernel_rfl) rfl
structure Qg(l:List Us)(t:Us)(i j:Nat):Prop where
 le:i<=j
 cf:j<=l.length
 lt:∀x∈l.take i,fa x t<0
 ge:∀x∈l.drop j,0<=fa x t
variable{i:Nat}
theorem Qg.up{t:Us}{j h:Nat}(p:Qg l t i j)(g:l.Pairwise (fun a b=>fa a b<0))(h1:i<=h)(h2:h<j){x:Us}(hx:l[h]?=some x)(c:fa x t<0):Qg l t (h+1) j:=by
 refine⟨h2,p.cf,fun y f=> ?_,p.ge⟩;obtain⟨a,k,rfl⟩:=dO.1 f;obtain⟨d,rfl⟩:=cA.1 hx;by_cases e:a=h
 ·subst e;exact c
 ·exact pq (cN.1 g a h (by omega) d (by omega)) c
theorem Qg.down{t:Us}{j h:Nat}(p:Qg l t i j)(g:l.Pairwise (fun a b=>fa a b<0))(h1:i<=h)(h2:h<j){x:Us}(hx:l[h]?=some x)(k:¬fa x t<0):Qg l t i h:=by
 refine⟨h1,by have:=p.cf;omega,p.lt,fun y d=> ?_⟩;obtain⟨a,n,rfl⟩:=List.mem_drop_iff_getElem.1 d;obtain⟨c,rfl⟩:=cA.1 hx;by_cases e:a=0
 ·subst e;simp only[fU];omega
 ·have:=cN.1 g h (h+a) c (by omega) (by omega);have m:¬fa l[h+a] t<0:=fun f=>k (pq this f);omega
def TD(l:List Us)(t:Us)(w:Wd)(e:Ed)(w':Wd):Prop:=∃(i:Nat) (f:Bool),e=.returned (.tuple #[i,f])/\Qg l t i i/\(f=true↔∃u,l[i]?=some u/\fa u t=0)/\Bl w w w'
theorem DY(A:OA)(n c:Nat)(l:List Us)(t:Us)(w:Wd)(h:Aw w A n l)(hn:n<=1000)(U:l.Pairwise (fun a b=>fa a b<0)):
 Cs prog 276 #[.slice A n c,.agg (mU t),.func (.func 56) #[] #[]] w (TD l t w):=by
 have yE:=h.cb;subst yE;have E:Bl w w (w.alloc (.cells (mU t) 83)):=aA;have k:Hid (ai (w.alloc (.cells (mU t) 83)) w 83 (mU t)):=ai.new _ _ _;have z:=ah (h.ae E);have y:=ah E;have T:=ah U;have yR:=UF;clear h U E;go_in;go_wp2_with fail;obtain⟨V,L⟩:=nm (w.alloc (.cells (mU t) 83));rw[<-L]at k z y⊢;clear L
 go_loopw [9,10] (fun X Y wr=>∃i j:Nat,X=.int .i64 i/\Y=.int .i64 j/\Qg l t i j/\Bl V V wr) (fun X Y _=>(intOf Y-intOf X).toNat)
 case atStart=>exact⟨0,l.length,rfl,rfl,⟨by omega,cB _,fun x hx=>by simp at hx,fun x hx=>by simp at hx⟩,cC _ _⟩
 case round=>
  obtain⟨i,j,rfl,rfl,u,O⟩:=hrel;have o:=ah u;have yV:=u.le;have yU:=u.cf;have d:=ah O;clear u O;by_cases yX:i<j
  ·obtain⟨h,hh⟩:∃h:Nat,((i:Int)+(j:Int))/2=(h:Int):=⟨(i+j)/2,by omega⟩;have Q:i<=h:=by omega
   have S:h<j:=by omega
   obtain⟨b,off,s,rfl,r,hs,d0,d1,d2,d3⟩:=JW (z.ae d) (show h<l.length by omega);have p:=ah hs;have m:=k.ae d k.lt;have z0:=m.cell 0;have z1:=m.cell 1;have z2:=m.cell 2;have z3:=m.cell 3;simp at z0 z1 z2 z3;have C:=ah fun W=>tc s t W;clear hs m;go_wp2_with fail;go_cut [31] (fun X wx=>∃q:Bool,X=.bool q/\(q=true↔fa s t<0)/\Bl wr wr wx)
   case first=>
    have g:Bl wr wr wr.drew:=bR.drew
    go_region_with (go_at_call 56;refine(C _).mono ?_;rintro e w8 ⟨rfl,D⟩)
    all_goals go_wp2_with fail
    all_goals go_meet
    all_goals exact⟨_,rfl,by simp,by first|exact aa g D|exact D|exact(aa g D).drew⟩
   case rest=>
    obtain⟨q,rfl,N,K⟩:=hcut;have Z:=ah (aa d K);have J:=ah N;clear K d0 d1 d2 d3 z0 z1 z2 z3 N;cases q
    ·have B:=ah (o.down T Q S p (fun e=>by have:=J.2 e;cases this));go_wp2_with fail;exact⟨⟨i,h,rfl,rfl,B,Z⟩,by simp[intOf];omega⟩
    ·have B:=ah (o.up T Q S p (J.1 rfl));go_wp2_with fail;exact⟨⟨h+1,j,by go_num,rfl,B,Z⟩,by simp[intOf];omega⟩
  ·obtain rfl:i=j:=by omega
   by_cases yQ:i<l.length
   ·obtain⟨b,off,s,e,r,hs,M⟩:=cp.at_ (z.ae d) yQ;subst e;have yP:wr.rangeAt b (off+i*4) (mU s).toList:=M;have p:=ah hs;have F:=k.ae d k.lt;have P:Hid (∀w',Bl wr wr w'->w'.rangeAt b (off+i*4) (mU s).toList/\w'.rangeAt w 0 (mU t).toList):=fun w' R=>⟨qu yP R r,P5 (F.ae R F.lt)⟩;have C:=ah fun W=>tc s t W;have I:=dT ((i:Int)<(l.length:Int)) (by omega);have H:(i:Int)<(l.length:Int):=by omega
    have G:(0:Int)<=(i:Int):=by omega
    have yT:((i:Int)).toNat=i:=by omega
    have g:Bl wr wr wr:=cC _ _;clear hs M yP F;go_wp2_with fail;refine aw (fun w'=>Bl wr wr w') (by kernel_rfl) (by kernel_rfl) g.drew ?_
    repeat(first
     |(refine bF ?_ ?_
       ·rfl
       simp only[aP])
     |(refine ee 56 #[.agg (mU s),.agg (mU t)] (fa s t:Int) ?_ (fun w'=> ?_) (fun w' f=>(C w').mono fun e yW ⟨he,r⟩=>⟨he,aa f r⟩) ?_
       ·rfl
       ·simp[go_sem,yR]
       simp only[aP])
     |(refine mN ?_ _ _ rfl rfl (fun w' f=>(P w' f).1) underlying83 rfl py rfl ?_
       ·rfl
       simp only[aP])
     |(refine mN ?_ _ _ rfl rfl (fun w' f=>(P w' f).2) underlying83 rfl py rfl ?_
       ·rfl
       simp only[aP])
     |(refine cw rfl ⟨?_,fun w' f=> ?_,?_⟩
       rotate_left
       ·simp[go_sem,I,H,G,yT]
        try rfl
       simp only[aP]))
    refine bM ?_;intro w' b3;go_wp2_with fail;refine cU (v:=.tuple #[i,(fa s t==0:Bool)]) (by simp[results,results276,go_sem]) rfl ⟨i,_,rfl,o,?_,aa y (aa d b3)⟩;rw[p.out];simp
   ·have yS:Hid (l[i]?=none):=dP (by omega);have I:=dF ((i:Int)<(l.length:Int)) (by omega);have H:¬(i:Int)<(l.length:Int):=by omega
    have G:¬i<l.length:=by omega
    have g:Bl wr wr wr:=cC _ _;go_wp2_with fail;refine aw (fun w'=>Bl wr wr w') (by kernel_rfl) (by kernel_rfl) g.drew ?_
    repeat(first
     |(refine bF ?_ ?_
       ·rfl
       simp only[aP])
     |(refine cw rfl ⟨?_,fun w' f=> ?_,?_⟩
       rotate_left
       ·simp[go_sem,I,H,G]
        try rfl
       simp only[aP]))
    refine bM ?_;intro w' b3;go_wp2_with fail;refine cU (v:=.tuple #[i,false]) (by simp[results,results276,go_sem]) rfl ⟨i,_,rfl,o,?_,aa y (aa d b3)⟩;rw[yS.out];simp
def Qs(l:List Us)(w:Wd)(e:Ed)(w':Wd):Prop:=∃A c,e=.returned (.slice A l.length c)/\mL w' w A l.length c l/\Bl w w w'
theorem LZ(cs:Array Vl)(k:Nat):(madeCells cs k).size=k:=by simp[madeCells]
theorem Sf(W:Wd)(base n:Nat)(h1:1<=n)(hn:n<=1000)(f:base<=W):∃a,(Instr.makeSlice 26 () n).run prog W=.ok (.slice W 0 n) a/\Bl W W a/\mL a base W 0 n []:=by
 obtain⟨d,hi,g,k,i⟩:=sB DB;have h:=run_make W 26 83 d _ underlying26 hi g .i64 .i64 0 (n:Int) (by omega) (by omega) (by rw[i];omega) (by omega);have c:=ai.new W 83 (madeCells (Value.agg #[.string ⟨#[]⟩,.string ⟨#[]⟩,(),()]).cells ((n:Int).toNat*d.size));refine⟨_,h,aA,rfl,rfl,by omega,by simp[maxLen];omega,fun _=>⟨_,rfl,f,by simp,fun j b=>by omega,fun j b=>⟨?_,c.ao j⟩⟩,fun e=>by cases e⟩;rw[c.cell j,rY (by rw[LZ,k];simpa using b)];rfl
theorem qg{W:Wd}{base:Nat}{e:OA}{f:Nat}{j:List Us}(l:mL W base e i f j){B:OA}{m d:Nat}{k:List Us}(h:Aw W B m k)(p:m<=1000)(hi:i<=1000)(g:base<=W):
 ∃b c a,(Builtin.append_ #[26,26] 26 #[.slice e i f,.slice B m d]).run prog W=.ok (.slice b (i+m) c) a/\mL a base b (i+m) c (j++k)/\Bl base W a:=by
 obtain⟨b,c,a,n,o,g,_,_⟩:=dy na (P:=prog) W base 26 26 83 _ 48 underlying26 DB rfl e i f j l B m d k h (by simp[maxLen];omega) (by omega) g;exact⟨b,c,a,n,o,g⟩
theorem G3(A:OA)(n c i:Nat)(l:List Us)(t:Us)(w:Wd)(h:Aw w A n l)(hn:n<=200)(hi:i<=n)(yW:n<=c)(hA:A=none->c=0):
 Cs prog 277 #[.slice A n c,i,.agg (mU t)] w (Qs (l.take i++t::l.drop i) w):=by
 have yN:=h.cb;subst yN;have HN:Hid (ai (w.alloc (.cells (mU t) 83)) w 83 (mU t)):=ai.new _ _ _;obtain⟨V,k⟩:=nm (w.alloc (.cells (mU t) 83));have m:Bl w w V:=k▸aA;have J:ai V w 83 (mU t):=k▸HN;obtain⟨W1,Q,b1,Z⟩:=Sf V V (l.length+1) (by omega) (by omega) lr;obtain⟨A2,c2,v,K,H,b2⟩:=qg Z ((h.ae (aa m b1)).pre i hi) (d:=c) (by omega) (by omega) b1.size;rw[cR]at K;rw[cR,dH]at H;have C:=b1.trans b2;obtain⟨U,j⟩:=nm (v.alloc (.cells (mU t) 83));have F:Bl v v U:=j▸aA;have sU:Aw U v 1 [t]:=j▸cp.new na v t (mU t) 83 rfl;have yY:mL U V A2 i c2 (l.take i):=⟨H.1,H.2.ae F⟩;obtain⟨A3,c3,T,yD,o3,b3⟩:=qg yY sU (d:=1) (by omega) (by omega) (cF C.size F.size);have q:=(C.trans (F.mono C.size)).trans b3;have Y:(l.take i++t::l.drop i).length=i+1+(l.length-i):=by simp;omega
 have X:l.take i++t::l.drop i=(l.take i++[t])++l.drop i:=by simp
 have P:=ah (J.ae C J.lt);have L:=ah X;have s:=ah Y;have o:=ah K;have p:=ah yD;have I:=ah o3;have uB:=ah (aa m q);have uA:=ah (cF m.size q.size);have N:=ah m.size;have O:=ah q.size;have R:=ah (h.ae (aa m q));have S:=ah q;have M:=ah m;have yZ:i<=c:=by omega
 clear K yD h X Y b3 q o3 sU yY H C b2 Z b1 J m F;rw[lI]at Q
 cases A with
 |none=>
  obtain rfl:=hA rfl;obtain rfl:l=[]:=dJ (by omega);obtain rfl:i=0:=by simpa using hi
  obtain⟨u,x,W,g,f,b4⟩:=qg I R (d:=0) (by omega) (by omega) O;simp only[iP,fO,List.take_nil,dH]at g f;simp only[iP,List.take_nil,List.drop_nil,dH,fO,cR]at L s o p I g f Q yW hn yZ⊢;simp only[Int.natCast_zero,Int.zero_add]at Q⊢;have D:=ah g;have B:=ah f;have E:=ah (aa M (S.trans b4));clear hA hi yW yZ g f b4;go_in;go_wp2_with(first|(rw[<-k];clear k;go_step)|(rw[<-j];clear j;at_builtin;refine au rfl _ _ rfl rfl rfl p ?_;clear p)|(refine wA P t83 rfl ?_)|(at_builtin;refine au rfl _ _ rfl rfl rfl o ?_;clear o)|(at_builtin;refine au rfl _ _ rfl rfl rfl D ?_));go_ret;exact⟨u,x,rfl,aS B N,E⟩
 |some a=>
  by_cases hc:i=c
  ·subst hc;have yX:l.length-i=0:=by omega
   have y:Aw T (some a) 0 (l.drop i):=⟨by simp;omega,fun r z=>(by have e:l.drop i=[]:=List.drop_eq_nil_of_le (by omega);rw[e]at z;cases z),fun G=>by omega⟩;obtain⟨u,x,W,g,f,b4⟩:=qg I y (d:=0) (by omega) (by omega) O;rw[<-L.out]at f;rw[fU]at g f;rw[yX,fU]at s;clear yX;have D:=ah g;have B:=ah f;have E:=ah (aa M (S.trans b4));clear g f b4 y;go_in;go_wp2_with(first|(rw[<-k];clear k;go_step)|(rw[<-j];clear j;at_builtin;refine au rfl _ _ rfl rfl rfl p ?_;clear p)|(refine wA P t83 rfl ?_)|(at_builtin;refine au rfl _ _ rfl rfl rfl o ?_;clear o)|(at_builtin;refine au rfl _ _ rfl rfl rfl D ?_));go_ret;refine⟨u,x,?_,?_,E⟩
   ·rw[s.out];rfl
   ·rw[s.out];exact aS B N
  ·have uC:i<c:=by omega
   have y:Aw T (some (a.add (i*4))) (l.length-i) (l.drop i):=by
    rcases dX l.length with G|G
    ·exact⟨by simp,fun r z=>(by have e:l.drop i=[]:=List.drop_eq_nil_of_le (by omega);rw[e]at z;cases z),fun G=>by omega⟩
    ·obtain⟨b,off,e,-⟩:=Cells.at_ R G;injection e with e;subst e;have:=cp.drop R i hi
     rwa [<-pt]at this
   obtain⟨u,x,W,g,f,b4⟩:=qg I y (d:=c-i) (by omega) (by omega) O;rw[<-L.out]at f;have D:=ah g;have B:=ah f;have E:=ah (aa M (S.trans b4));clear g f b4 y;go_in;go_wp2_with(first|(rw[<-k];clear k;go_step)|(rw[<-j];clear j;at_builtin;refine au rfl _ _ rfl rfl rfl p ?_;clear p)|(refine wA P t83 rfl ?_)|(at_builtin;refine au rfl _ _ rfl rfl rfl o ?_;clear o)|(at_builtin;refine au rfl _ _ rfl rfl rfl D ?_));go_ret;refine⟨u,x,?_,?_,E⟩
   ·rw[s.out];rfl
   ·rw[s.out];exact aS B N
theorem Pw{α:Type}(f:α->α){l:List α}{x:α}(hx:l[k]?=some x):((l.take k).map f++l.drop k).set k (f x)=(l.take (k+1)).map f++l.drop (k+1):=by
 obtain⟨a,rfl⟩:=cA.1 hx;rw[nW _ _ (by simp;omega),dB,fD,nQ (by omega),oB,dR a,iN,fF a,lA];simp
theorem Sz{α:Type}(f:α->α){l:List α}(hi:k<=i):((l.take k).map f++l.drop k)[i]?=l[i]?:=by
 by_cases a:k<=l.length
 ·rw[dU (by simp;omega),dB,fD,nQ a,iO]
  congr 1
  omega
 ·rw[dP (by simp;omega),dP (by omega)]
theorem Pv{α:Type}(f:α->α)(l:List α):(l.take l.length).map f++l.drop l.length=l.map f:=by simp
def GV(u:Us):Us:={u with sh:=Ey u.sh}
theorem KE(A:OA)(n c:Nat)(l:List Us)(w:Wd)(h:Aw w A n l)(hA:A=none->c=0)(b:fm l=true):Cs prog 84 #[.slice A n c] w (NewU (l.map GV) w):=by
 have D:=h.cb;subst D;have P:=(gh.1 b).cf;have u:=ah (kW A l.length c l w h (by simp[maxLen];omega));have e0:ls l=0:=by simp[ls,b]
 rw[e0]at u;have F:=ah fun(W:Wd) (B:Bl w.heap.size w W)=>Ah A l.length c l W (h.ae B) (by omega) hA;clear e0 h b;go_enter func84,ntmps84;go_wp2_with fail;refine av u.out fun N b1=> ?_;have d:=ah b1;go_wp2_with fail;refine(F.out _ d.out).mono ?_;rintro e O ⟨f,i,rfl,m,b2⟩;have E:=ah (aS m d.out.size);have J:=ah (aa d.out b2);clear b1 m b2;go_wp2_with fail
 go_loopw [12] (fun X wr=>∃k:Nat,k<=l.length/\X=.int .i64 k/\mL wr w.heap.size f l.length i ((l.take k).map GV++l.drop k)/\Bl w.heap.size w wr) (fun X _=>l.length-(intOf X).toNat)
 case atStart=>exact⟨0,by omega,rfl,by simpa using E.out,J.out⟩
 case round=>
  obtain⟨k,M,rfl,j,q⟩:=hrel;have a:=ah j;have s:=ah q;clear j q;by_cases G:k<l.length
  ·obtain⟨g,x,rfl,C,Q,hx,o,y⟩:=bh na a.out G;have r:l[k]?=some x:=by rw[<-Sz GV (cB k)];exact hx
   have K:=o 3 _ rfl;have L:=(y 3 (by omega)).2;have z:=ah (eW na a.out k 3 (by omega) hx (x:=GV x) (v:=.int .i64 (Ey x.sh)) rfl);rw[Pw GV r]at z;have I:=ah (s.out.setCell (p:=⟨g,k*4+3,none⟩) C (.int .i64 (Ey x.sh)));have H:=ah (Ow x.sh wr);clear o y hx r;go_wp2_with fail;refine aQ H.out ?_;go_wp2_with fail;exact⟨⟨k+1,by omega,by go_num,z.out,I.out⟩,by simp[intOf];omega⟩
  ·obtain rfl:k=l.length:=by omega
   have t:=ah a.out;rw[Pv]at t;go_wp2_with fail;go_ret;exact⟨f,i,by rw[dB];rfl,by rw[dB];exact t.out,s.out⟩
end Go.Proofs.YthfhilggbbobmaaGreatDoor
