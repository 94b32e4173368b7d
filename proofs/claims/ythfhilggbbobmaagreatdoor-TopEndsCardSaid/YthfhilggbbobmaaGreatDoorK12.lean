/- Parts of the proof. -/
import Derived.Test.YthfhilggbbobmaaGreatDoorK11
import Derived.RangeFuncNested
import Derived.RangeFuncBound
import Derived.Shelf.RegionOpen
import Derived.OwnWalkIn
import Derived.LoopNIn
import Derived.LoopIn
set_option linter.all false
set_option maxHeartbeats 20000000
namespace Go.Proofs.YthfhilggbbobmaaGreatDoor
set_option maxRecDepth 100000
open Go.Proofs.Tryz
open Go renaming World->Wd,Value->Vl,TypeId->Ti,Program->Pg,Calls->Cs
open Go.RowKit Go.Shelf
attribute [local go_sem] Oper.semAt_some
variable{W:Wd}
theorem AK{F:Fence}{n:Nat}{P:Pg}{f:Array Oper}{rest:List Oper}{o:Oper}{a:Act}{Q:Exit->Act->Wd->Prop}{d:Wd}{t u:Ti}{v e r:Vl}(i:o.guard=none)(s x:Operand)
 (b:o.op=.call {callee:=.builtin .append,args:= #[s,x],argTypes:= #[t,u]})(hs:a.eval s=v)(hx:a.eval x=e)(g:(Builtin.append_ #[t,u] o.type #[v,e]).run P W=.ok r d)
 (h:wpListIn F n P f Q rest (a.put o.dst r) d):wpListIn F n P f Q (o::rest) a W:=by
 refine wpListIn_plain i fun K k=> ?_;unfold Oper.wpIn;refine⟨?_,?_⟩
 ·simp[Oper.about,b,resolve,Target.leads,Sem.run_pure]
 ·rw[Oper.semAt_plain F _ _ (by rw[b];intro c j;cases j)];simp[execOp,b,resolve,invoke,builtin,hs,hx,g,Result.andThen];exact k _ _ h
abbrev jy(W:Wd)(row:Option Nat):Prop:=∀r,row=some r->∃o:Obj,W.heap[r]?=some o/\o.isCells=false
variable{row:Option Nat}{A:OA}
theorem eY.tG{f:Wd}{base size:Nat}{n c:Nat}{xs:List Vl}(h:eY W base size A n c xs)(b:W.grownBy f row)(e:jy W row):eY f base size A n c xs:=
 ⟨h.cb,h.le,h.max,fun k=>by
   obtain⟨g,hA,i,o,h1,h2⟩:=h.room k;refine⟨g,hA,i,cD o b.size,fun j d=> ?_,fun j d=> ?_⟩
   ·have hx:∃v,xs[j]?=some v:=⟨_,cE (by rw[h.cb];exact d)⟩;obtain⟨v,a⟩:=hx;rw[a];exact cell_kept ((h1 j d).trans a) b e
   ·obtain⟨l,m⟩:=h2 j d;obtain⟨v,a⟩:=l9.1 l;exact⟨by rw[cell_kept a b e];rfl,(frozen_kept a b e).trans m⟩,h.cz⟩
theorem ai.grown{c:Wd}{b:Nat}{t:Ti}{cs:Array Vl}(h:ai W b t cs)(f:W.grownBy c row)(g:jy W row):ai c b t cs:=by
 refine(f.block b h.lt fun e=> ?_).trans h;obtain⟨o,a,d⟩:=g b e.symm;rw[show W.heap[b]?=_ from h]at a;injection a with a
 subst a;cases d
def oh(W:Wd)(A:OA):Prop:=∀b,A=some ⟨b,0,none⟩->∃o:Obj,W.heap[b]?=some o/\o.isCells=true
theorem oh.grown{a:Wd}(h:oh W A)(f:W.grownBy a row)(g:jy W row):oh a A:=fun b e=>by
 obtain⟨o,d,c⟩:=h b e;exact⟨o,(grownBy_keeps_cells f g d c).trans d,c⟩
theorem oh.own{base size:Nat}{n c:Nat}{xs:List Vl}(h:eY W base size A n c xs)(hn:0<n)(hs:0<size):oh W A:=fun b e=>by
 obtain⟨g,hA,_,_,h1,h2⟩:=h.room (by have:=h.le;omega);rw[hA]at e;replace e:=aI e;subst e;obtain⟨d,_⟩:=h2 0 (Nat.mul_pos (by have:=h.le;omega) hs);obtain⟨v,a⟩:=l9.1 d;exact cells_of_cell a
def vH(b1 b2:Nat)(W a:Wd):Prop:=a.heap[b1]?=W.heap[b1]?/\a.heap[b2]?=W.heap[b2]?
theorem vH.trans{b1 b2:Nat}{A B C:Wd}(h:vH b1 b2 A B)(k:vH b1 b2 B C):vH b1 b2 A C:=⟨k.1.trans h.1,k.2.trans h.2⟩
theorem La{b1 b2:Nat}{w:Wd}(h1:b1<w)(h2:b2<w)(W:Wd)(l:Nat)(o o':Obj)(a:w<=l)(h:W.heap[l]?=some o)(_:o.isCells=false)(_:o.isWalk=false):vH b1 b2 W (W.putObj l o'):=
 ⟨World.putObj_heap_other (fun e=>by omega),World.putObj_heap_other (fun e=>by omega)⟩
theorem rT{a b:Int}:(gx a b).length=(b-a+1).toNat:=by simp[gx]
theorem zK{b a:Int}{k:Nat}(h:k<(a-b+1).toNat):(gx b a)[k]?=some (a-k):=by
 simp[gx,h]
theorem L1(a b:Int)(w:Wd):Cs prog 304 #[a,b] w fun e w'=>e=.returned (.func (.func 391) #[] #[.pointer (w+1:Nat),.pointer w])/\w'=(w.alloc (.cells #[a] 3)).alloc (.cells #[b] 3):=by
 go_in;go_wp2;go_ret;exact⟨rfl,rfl⟩
theorem L0(F:Fence)(n:Nat)(r:F.fn 391)(z:F.round=none)(hn:1<=n)(l g d:Nat)(b a:Int)(P:1<=b)(O:a<=48)(J h:List Int->Wd->Prop)
 (s:∀pre x W,J pre W->pre.length<(gx b a).length->YieldAt F (n-1) prog l #[.int .i64 x] W fun e c=>
   (e=.returned true/\J (pre++[x]) c/\vH g d W c)\/(e=.returned false/\h (pre++[x]) c))
 (W:Wd)(B:ai W g 3 #[a])(A:ai W d 3 #[b])(q:J [] W):
 CallsIn F n prog 391 #[.func (.yield l) #[] #[],.pointer g,.pointer d] W fun e c=>(∃v,e=.returned v)/\
  ((∃m,m=gx b a/\J m c)\/(∃pre,pre<+:gx b a/\h pre c)):=by
 have I:=tv B;refine callsIn_of_wp func391 rfl r ?_ z;simp only[ntmps391,oJ,dV,iP,Nat.reduceAdd,Nat.reduceSub,rA,oY,sE,rF,dH,nH]
 gi_wp2
 gi_loopw [4] (fun p wr=>∃k:Nat,k<=(a-b+1).toNat/\p=.int .i64 (a-k)/\ai wr d 3 #[b]/\J ((gx b a).take k) wr)
  (fun p _=>(intOf p-b+1).toNat)
 case atStart=>exact⟨0,by omega,by simp,A,by simpa using q⟩
 case round=>
  obtain⟨k,G,rfl,j,f⟩:=hrel;have K:=tv j;by_cases i:k<(a-b+1).toNat
  ·obtain⟨E,tmps,L,M,H,hR⟩:=s _ (a-k) wr f (by rw[fD,rT];omega);have t:b<=a-k:=by omega
   gi_wp2
   refine hR.mono ?_;rintro e o (⟨rfl,D,C⟩|⟨rfl,y⟩)
   ·have w:ai o d 3 #[b]:=C.2.trans j;have hw:IntKind.i64.wrap (a-k-1)=a-k-1:=IntWalk.i64_in _ (by omega)
    gi_wp2
    go_roundw
    case rel=>exact⟨k+1,by omega,by simp only[Value.int.injEq,true_and];first|omega|(rw[hw];omega),w,by rw[aM (zK i)];exact D⟩
    case measure=>simp[intOf];omega
   ·gi_wp2
    refine bodyPost_ret (results_none rfl _ _ _) rfl ?_;exact⟨⟨_,rfl⟩,.inr ⟨_,by rw[<-aM (zK i)];exact List.take_prefix _ _,y⟩⟩
  ·have N:k=(a-b+1).toNat:=by omega
   have t:¬b<=a-k:=by omega
   have Q:a-k<b:=by omega
   have u:(gx b a).take k=gx b a:=fG (by rw[rT];omega);rw[u]at f
   gi_wp2
   go_end0
   first|exact⟨⟨_,rfl⟩,.inl f⟩|exact⟨⟨_,rfl⟩,.inl ⟨_,rfl,f⟩⟩
theorem FB(F:Fence)(n:Nat)(j:F.fn 391)(m:F.round=none)(hn:1<=n)(d c:Nat)(a b:Int)(p:1<=a)(o:b<=48)(w:Wd)(f:ai w d 3 #[b])(g:ai w c 3 #[a]):
 SeqStopsK F n prog 391 #[.pointer d,.pointer c] (fun x:Int=> #[Value.int .i64 x]) (vH d c) (fun q=>q=gx a b) (fun pre=>pre<+:gx a b) (gx a b).length w:=fun l J h W e _ _ k i=>
 L0 F n j m hn l d c a b p o J h k W (f.ae e f.lt) (g.ae e g.lt) i
open Go renaming Ending->Ed
open Go.RowKit renaming Below->Bl
attribute [local go_sem] Oper.semAt_some
def New0(w:Wd)(e:Ed)(w':Wd):Prop:=∃A,e=.returned (.slice A 0 0)/\Bl w w w'/\∀b,A=some ⟨b,0,none⟩->w<=b/\b<w'/\∃o:Obj,w'.heap[b]?=some o/\o.isCells=true
theorem DO(A:OA)(c:Nat)(w:Wd)(hA:A=none->c=0):Cs prog 303 #[.slice A 0 c] w (New0 w):=by
 cases A with
 |none=>
  obtain rfl:=hA rfl;have f:=fun(w:Wd)=>Lib.run_eql_slice_nil (P:=prog) w 46 139 none 0 0 0 0 underlying46;go_in;go_wp2;go_ret;exact⟨none,rfl,cC _ _,fun b e=>by cases e⟩
 |some a=>
  have f:=fun(w:Wd)=>Lib.run_eql_slice_nil (P:=prog) w 46 139 (some a) 0 c 0 0 underlying46;simp only[iV]at f
  have d:(Builtin.append_ #[46,46] 46 #[.slice w 0 0,.slice (some a) 0 c]).run prog (w.alloc (.cells #[] 139))=.ok (.slice w 0 0) (w.alloc (.cells #[] 139)):=by
   obtain⟨k,hi,h,j,i⟩:=sB oO;simp[Builtin.append_,go_sem,underlying46,hi,h,j,i]
  have g:=ah d;clear d hA;go_in;go_wp2_with(at_builtin;refine au rfl _ _ rfl rfl rfl g ?_);go_ret;refine⟨_,rfl,bR.alloc lr _,fun b e=> ?_⟩;replace e:=aI e;subst e;exact⟨cB _,by simp,_,World.alloc_heap_new _ _,rfl⟩
variable{s:Sh}
theorem Pm(h:bQ s=false):eO s=[]:=by rw[eO,cK h]
theorem Pj(h:bQ s=true)(a:s.kd≠3):eO s=s.al:=by rw[eO,cL (by simp[h]),cL a]
theorem Dd(h:bQ s=true)(a:s.kd=3):eO s=(gx s.mn s.mx).map (fun n=>⟨n,s.wl⟩):=by rw[eO,cL (by simp[h]),cK a]
theorem rm(h:bQ s=true)(a:s.kd=3):s.al=[]/\s.mn<=s.mx/\1<=s.mn/\s.mx<=48/\1<=s.wl/\s.wl<=100000:=by
 rw[NC a]at h;simp only[C2,cH,dA,m7,iC]at h;exact⟨OU h.1.1.1,h.1.1.2,h.1.2.1,h.2,h.1.2.2.2.1,h.1.2.2.2.2⟩
structure QA(w:Wd)(B0 B Bt Bf:Nat)(Ao:OA)(co:Nat)(s:Sh)(pre:List Int)(W:Wd)(A:OA)(c:Nat):Prop where
 box:ai W B 46 #[.slice A pre.length c]
 own:DF W w A pre.length c (pre.map fun n=>⟨n,s.wl⟩)
 cells:oh W A
 apart:∀b,A=some ⟨b,0,none⟩->b≠B0/\b≠B/\b≠Bt/\b≠Bf
 shape:ai W B0 48 #[s.kd,.slice Ao 0 co,s.mn,s.mx,s.wl]
 t:Bt<W
 f:Bf<W
theorem QA.grown{w:Wd}{e B i g:Nat}{d:OA}{k:Nat}{pre:List Int}{j:Wd}{c:Nat}(h:QA w e B i g d k s pre W A c)(a:W.grownBy j row)(b:jy W row):QA w e B i g d k s pre j A c:=
 ⟨ai.grown h.box a b,⟨h.own.1,eY.tG h.own.2 a b⟩,h.cells.grown a b,h.apart,ai.grown h.shape a b,cD h.t a.size,cD h.f a.size⟩
theorem Fa(A:OA)(c:Nat)(s:Sh)(w:Wd)(h:th w A 0 c s)(y:bQ s=true)(Q:s.kd=3):Cs prog 189 #[JR A 0 c s] w (Qy (eO s) w):=by
 obtain⟨uH,uP,uM,yZ,uR,uN⟩:=rm y Q;rw[Dd y Q];have uJ:(gx s.mn s.mx).length<=48:=by rw[rT];omega
 obtain⟨V,R⟩:∃V,V=w.alloc (Tv A 0 c s):=⟨_,rfl⟩;have bV:Bl w.heap.size w V:=by rw[R];exact bR.alloc lr _
 have T:ai V w.heap.size 48 #[.int .i64 s.kd,.slice A 0 c,.int .i64 s.mn,.int .i64 s.mx,.int .i64 s.wl]:=by rw[R];exact ai.new _ _ _
 have uF:=ah (kl 0 A 0 c s V (h.ae bV) (gF y));have yY:=ah fun w'=>DO A c w' h.cz;have e3:(s.kd==3)=true:=by simp[Q]
 obtain⟨u,G,H,I,J⟩:=Cw T;clear h y uH Q;refine(lV (n:=5)).1 ?_;refine callsIn_of_wp_marks func189 rfl trivial ?_ rfl;simp only[ntmps189,oJ,dV,iP,Nat.reduceAdd,Nat.reduceSub,rA,oY,sE,rF,dH,nH];gi_wp2_with fail;rw[<-R];clear R;refine⟨trivial,?_⟩;refine(lV.2 uF.out).mono ?_;rintro e w1 ⟨rfl,b1⟩;have k1:=T.ae b1 T.lt;clear u G H I J;obtain⟨u,G,H,I,J⟩:=Cw k1;gi_wp2_with fail;refine⟨trivial,?_⟩;refine(lV.2 (yY.out w1)).mono ?_;rintro e d ⟨N,rfl,b2,yT⟩;have k2:=k1.ae b2 k1.lt;clear u G H I J;obtain⟨a,M⟩:∃a,a=d.alloc (.cells #[.slice N 0 0] 46):=⟨_,rfl⟩;have b3:Bl d.heap.size d a:=by rw[M];exact bR.alloc lr _
 have kO:ai a d.heap.size 46 #[.slice N 0 0]:=by rw[M];exact ai.new _ _ _
 have k3:=k2.ae b3 k2.lt;obtain⟨u,G,H,I,J⟩:=Cw (k2.alloc (.cells #[.slice N 0 0] 46));gi_wp2_with fail;rw[<-M];refine⟨trivial,?_⟩;refine(lV.2 (L1 s.mn s.mx a)).mono ?_;rintro e q ⟨rfl,L⟩;have b4:Bl a.heap.size a q:=by rw[L];exact(bR.alloc lr _).alloc (by simp) _
 have kF:ai q a.heap.size 3 #[.int .i64 s.mn]:=by rw[L];exact(ai.new _ _ _).alloc _
 have kT:ai q (a.heap.size+1) 3 #[.int .i64 s.mx]:=by
  rw[L];have:=ai.new (a.alloc (.cells #[.int .i64 s.mn] 3)) 3 #[.int .i64 s.mx];simpa using this
 have k4:=k3.ae b4 k3.lt;have uK:=kO.ae b4 kO.lt;have yO:Bl w.heap.size w q:=aa (aa (aa (aa bV b1) b2) b3) b4;have yJ:a.heap.size=d.heap.size+1:=by rw[M];simp
 have yL:q.heap.size=a.heap.size+2:=by rw[L];simp
 have uG:=b1.size;have uL:=b2.size;have yW:=T.lt;have uE:=ah yJ;have uD:=ah yL;clear M L u G H I J yJ yL;gi_wp2_with fail;have yJ:=uE.out;have yL:=uD.out
 refine wpIn_rangeFunc_ownG rfl (by omega) (gf:=391) (lb:= #[.pointer (some ⟨a.heap.size+1,0,none⟩),.pointer (some ⟨a.heap.size,0,none⟩)]) rfl trivial (enters_of func391 (by kernel_rfl) rfl)
  (FB Fence.wide _ trivial rfl (by omega) (a.heap.size+1) a.heap.size s.mn s.mx uM yZ q kT kF) vH.trans (La (w:=q) (by omega) (by omega)) bR (fun _=>rfl)
  (fun pre W=>(∃i j,QA w w.heap.size d.heap.size (a.heap.size+1) a.heap.size A c s pre W i j)/\Bl w.heap.size w W)
  (fun _ _ _=>False)
  (OwnFrom.and (Own.from (fun pre W W' row hs hg hr=>by obtain⟨i,j,hi⟩:=hs;exact⟨i,j,hi.grown hg hr⟩) _) (ownFrom_below lr (by have:=yO.size;omega)))
  (fun _ _ _ _ _ hs _ _=>hs)
  ⟨⟨N,0,⟨uK,⟨rfl,by simp,by simp,by simp[maxLen],fun h=>absurd h (by omega),fun _=>rfl⟩,fun b e=>by
    obtain⟨q1,Y,o,ho,y⟩:=yT b e;exact⟨o,((b4.block b (by omega)).trans (b3.block b Y)).trans ho,y⟩,fun b e=>by
    obtain⟨q1,Y,_⟩:=yT b e;exact⟨by omega,by omega,by omega,by omega⟩,k4,by omega,by omega⟩⟩,yO⟩
  ?a1 ?assign ?body ?done ?stop
 case assign=>
  intro l x W K E
  gi_wp2
  exact E
 case body=>
  rintro l pre x W ⟨⟨i,j,hi⟩,C⟩ uQ;obtain⟨U,F⟩:∃U,U=W.alloc (.cells #[.int .i64 x,.int .i64 s.wl] 139):=⟨_,rfl⟩;have z:Bl W.heap.size W U:=by rw[F];exact bR.alloc lr _
  have sU:DD U (some ⟨W.heap.size,0,none⟩) 1 [⟨x,s.wl⟩]:=by rw[F];exact cp.new qk W ⟨x,s.wl⟩ #[.int .i64 x,.int .i64 s.wl] 139 rfl
  obtain⟨v,B,m,yE,o3,yK,yS,yV⟩:=dy qk (P:=prog) U w.heap.size 46 46 139 _ 16 underlying46 oO rfl i pre.length j _ (hi.own.ae z) (some ⟨W.heap.size,0,none⟩) 1 1 [⟨x,s.wl⟩] sU (by simp only[maxLen];omega) (by omega) (cF C.size z.size);have HR:=ah yE;rw[F]at HR;have uC:U.heap.size=W.heap.size+1:=by rw[F];simp
  have ij:∀b,b<W.heap.size->i≠some ⟨b,0,none⟩->m.heap[b]?=W.heap[b]?:=fun b S uB=>(yS b (by omega) uB).trans (z.block b S)
  have X:∀b,(b=w.heap.size\/b=d.heap.size\/b=a.heap.size+1\/b=a.heap.size)->i≠some ⟨b,0,none⟩:=fun b S e=>by
   obtain⟨q1,Y,q3,q4⟩:=hi.apart b e;omega
  have Z:=hi.box;have yB:ai m d.heap.size 46 #[.slice i pre.length j]:=(ij _ Z.lt (X _ (by omega))).trans Z;have yN:=hi.shape;have yM:ai m w.heap.size 48 #[.int .i64 s.kd,.slice A 0 c,.int .i64 s.mn,.int .i64 s.mx,.int .i64 s.wl]:=(ij _ yN.lt (X _ (by omega))).trans yN;have u:=tv Z;have uO:=tv (Z.alloc (.cells #[.int .i64 x,.int .i64 s.wl] 139));have y0:=tv yB;have g0:=yB.ao 0;obtain⟨z0,z1,z2,z3,z4⟩:=Cw yN;have O:=ah hi;have yP:=ah o3;have uA:=ah yV;have yC:=ah ij;have yX:=ah (z.mono C.size|>.trans yK);have uI:W.heap.size+1<=m.heap.size:=by rw[<-uC];exact yK.size
  clear hi o3 yE yS F yV sU yK z ij;gi_wp2_with (gi_at_builtin;refine AK rfl _ _ rfl rfl rfl HR.out ?_);have hi:=O.out
  have yU:∀b,v=some ⟨b,0,none⟩->b≠w.heap.size/\b≠d.heap.size/\b≠a.heap.size+1/\b≠a.heap.size:=fun b e=>by
   rcases uA.out with h|h
   ·exact hi.apart b (h▸e)
   ·rw[h]at e;injection e with e
    injection e with e;have q1:=hi.shape.lt;have Y:=hi.box.lt;have q3:=hi.t;have q4:=hi.f;omega
  have yI:∀b,b≠d.heap.size->(m.setCell ⟨d.heap.size,0,none⟩ (.slice v (pre.length+1) B)).heap[b]?=m.heap[b]?:=fun b S=>dN m _ _ b S
  have yH:DF (m.setCell ⟨d.heap.size,0,none⟩ (.slice v (pre.length+1) B)) w.heap.size v (pre++[x]).length B ((pre++[x]).map fun n=>⟨n,s.wl⟩):=by
   rw[lA,cY];exact⟨yP.out.1,yP.out.2.ij (by simp) (fun g e _=>yI g (yU g e).2.1)⟩
  have q3:=hi.t;have q4:=hi.f;have q5:=hi.shape.lt;refine⟨KeepsFrom.trans ⟨by omega,fun k o uS hk ho=> ?_⟩ ((KeepsOthers.setCell _ _ _).from _),⟨(yI _ (by omega)).trans (yC.out _ q3 (X _ (by omega))),(yI _ (by omega)).trans (yC.out _ q4 (X _ (by omega)))⟩,⟨v,B,⟨?_,yH,?_,yU,(yI _ (by omega)).trans yM,by simp;omega,by simp;omega⟩⟩,?_⟩
  ·rw[yC.out k (fC.1 hk).1 (fun e=>by
    obtain⟨o',yQ,yR⟩:=hi.cells k e;rw[hk]at yQ;injection yQ with e';subst e';rw[ho]at yR;cases yR)]
   exact hk
  ·have:=yB.set 0 (.slice v (pre.length+1) B);rw[cY];exact this
  ·exact oh.own yH.2 (by simp) (by omega)
  ·exact(C.trans yX.out).setCell (p:=⟨d.heap.size,0,none⟩) (by show w.heap.size<=d.heap.size;omega) _
 case done=>
  rintro D ys W hD rfl ⟨⟨i,j,hi⟩,C⟩ E;have u:=tv hi.box;have O:=ah hi;clear hi;gi_wp2_with fail;refine⟨by simp,.inl ⟨_,_,rfl,run_takeDeferred E,?_⟩⟩;refine⟨_,results_tmp rfl _ _ _,?_⟩;unfold Qy;rw[dB];exact⟨i,j,rfl,⟨O.out.own.1,eY.tG O.out.own.2 (grownBy_putObj' W D _) (fun r e=>by cases e;exact⟨_,E,rfl⟩)⟩,C.trans (belowK_b (w:=w) lr W D _ _ (by have:=yO.size;omega) E rfl rfl)⟩
 case stop=>
  rintro D c pre W _ _ h _;exact h.elim
theorem fx(A:OA)(n c:Nat)(s:Sh)(w:Wd)(h:th w A n c s):Cs prog 189 #[JR A n c s] w (Qy (eO s) w):=by
 cases hc:bQ s
 ·obtain⟨V,a⟩:=nm (w.alloc (Tv A n c s));have d:Bl w w V:=a▸bR.alloc lr _;have l:=ah (kl 70 A n c s V (h.ae d) (dj hc));rw[Pm hc];clear h hc;go_in;go_wp2_with fail;rw[<-a];clear a;refine av l fun q b1=> ?_;go_wp2;go_ret;exact⟨none,0,rfl,be.nil _ _ _ _,aa d b1⟩
 ·by_cases f:s.kd=3
  ·have C:=(rm hc f).1;have hn:n=0:=by have:=h.st.cb;rw[C]at this;exact this.symm
   subst hn;exact Fa A c s w h hc f
  ·have B:=h.st.cb;subst B;obtain⟨V,a⟩:=nm (w.alloc (Tv A s.al.length c s));have d:Bl w w V:=a▸bR.alloc lr _;have o:ai V w 48 #[s.kd,.slice A s.al.length c,s.mn,s.mx,s.wl]:=a▸ai.new _ _ _;have l:=ah (kl 0 A s.al.length c s V (h.ae d) (gF hc));have D:=ah fun(w':Wd) (b:Bl V V w')=>sA A s.al.length c s.al w' ((h.st.ae d).ae b) (by have:=h.cf;omega) h.cz;rw[Pj hc f];have E:(s.kd==3)=false:=by simpa using f
   clear h hc f;go_in;go_wp2_with fail;rw[<-a];clear a;refine av l fun q b1=> ?_;have j:=o.ae b1 o.lt;obtain⟨r,t,u,v,x⟩:=Cw j;go_wp2_with fail;refine(D q b1).mono ?_;rintro e k ⟨g,i,rfl,p,b2⟩;have z:=j.ae b2 j.lt;clear r t u v x;have m:Bl k k (k.alloc (.cells #[.slice g s.al.length i] 46)):=bR.alloc lr _;obtain⟨r,t,u,v,x⟩:=Cw (z.alloc (.cells #[.slice g s.al.length i] 46));have y:=ah ((p.ae m).mono (cF d.size b1.size));clear p;go_wp2;go_ret;exact⟨g,i,rfl,y,aa (aa (aa d b1) b2) m⟩
set_option maxRecDepth 512
theorem He(l:List Al)(a:Al):ik (l++[a])=if ik l=0\/a.nd<ik l then a.nd else ik l:=by unfold ik;rw[lP];rfl
def Qr(g:List Al->Int)(a:Wd)(l:List Al)(X Y:Vl)(wr:Wd):Prop:=∃k:Nat,k<=l.length/\X=.int .i64 (g (l.take k))/\Y=.int .i64 k/\Bl a a wr
theorem vd(A:OA)(n c:Nat)(s:Sh)(w:Wd)(h:th w A n c s):Cs prog 251 #[JR A n c s] w (an (ik (eO s):Int) w):=by
 obtain⟨V,j⟩:=nm (w.alloc (Tv A n c s));have p:Bl w w V:=j▸bR.alloc lr _;have L:ai V w 48 #[s.kd,.slice A n c,s.mn,s.mx,s.wl]:=j▸ai.new _ _ _;have v:=ah (fx A n c s V (h.ae p));have C:=kY (s:=s);obtain⟨l,r⟩:=nm (eO s);rw[<-r]at v C⊢;clear h r;go_in;go_wp2_with fail;rw[<-j];clear j;refine v.out.mono ?_;rintro e B ⟨F,G,rfl,u,b2⟩;have D:=aa p b2;have y:=ah (u.et qk);clear u;go_wp2
 go_loopw [3,9] (fun X Y wr=>Qr ik B l X Y wr) (fun _ Y _=>l.length-(intOf Y).toNat)
 case atStart=>exact⟨0,by omega,rfl,rfl,cC _ _⟩
 case round=>
  obtain⟨k,K,rfl,rfl,i⟩:=hrel;by_cases E:k<l.length
  ·obtain⟨b,off,a,rfl,J,q,H,I⟩:=cp.alt (y.ae i) E;have f:ik (l.take (k+1))=_:=(cO ik (aM q)).trans (He _ _);obtain⟨m,t⟩:=nm (ik (l.take k));rw[<-t]at f⊢;have o:Bl wr wr (wr.alloc (.cells #[a.nd,a.wl] 139)):=bR.alloc lr _;have M:(k:Int)<(l.length:Int):=by omega
   clear q t;by_cases d:m=0
   ·have e0:(m==0)=true:=by simp[d]
    have g:Hid (ik (l.take (k+1))=a.nd):=by show _=_;rw[f,cK (.inl d)]
    clear f d;go_wp2_with fail;exact⟨⟨k+1,by omega,by rw[g.out],by go_num,aa i o⟩,by simp[intOf];omega⟩
   ·have e0:(m==0)=false:=by simpa using d
    by_cases h1:a.nd<m
    ·have z:decide (a.nd<m)=true:=by simpa using h1
     have g:Hid (ik (l.take (k+1))=a.nd):=by show _=_;rw[f,cK (.inr h1)]
     clear f d;go_wp2_with fail;exact⟨⟨k+1,by omega,by rw[g.out],by go_num,aa i o⟩,by simp[intOf];omega⟩
    ·have z:decide (a.nd<m)=false:=by simpa using h1
     have g:Hid (ik (l.take (k+1))=m):=by show _=_;rw[f,cL (by simp[d];omega)]
     clear f d;go_wp2_with fail;exact⟨⟨k+1,by omega,by rw[g.out],by go_num,aa i o⟩,by simp[intOf];omega⟩
  ·obtain rfl:k=l.length:=by omega
   have x:Hid (ik (l.take l.length)=ik l):=by show _=_;rw[cT]
   rw[x.out];go_wp2;go_ret;exact⟨rfl,aa D i⟩
theorem Gq(A:OA)(n c:Nat)(s:Sh)(ch m:Int)(w:Wd)(h:th w A n c s):Cs prog 319 #[JR A n c s,ch,m] w (an (gg s ch m:Bool) w):=by
 obtain⟨V,d⟩:=nm (w.alloc (Tv A n c s));have o:Bl w w V:=d▸bR.alloc lr _;have r:ai V w 48 #[s.kd,.slice A n c,s.mn,s.mx,s.wl]:=d▸ai.new _ _ _;have q:=ah (fx A n c s V (h.ae o));have I:=kY (s:=s);have z:gg s ch m=if ch<0\/((eO s).length:Int)<=ch then false else if s.kd=3 then decide (s.mn<=m)&&decide (m<=s.mx)else((eO s)[ch.toNat]?.map (fun a=>a.nd==m)).getD false:=rfl
 have p:=ah z;obtain⟨l,y⟩:=nm (eO s);rw[<-y]at q I p;clear h y z;by_cases j:ch<0
 ·have g:Hid (gg s ch m=false):=by show _=_;rw[p.out,cK (.inl j)]
  have e0:decide (ch<0)=true:=by simpa using j
  rw[g.out];go_in;go_wp2_with fail;rw[<-d];clear d;refine q.out.mono ?_;rintro e v ⟨t,u,rfl,f,b2⟩;clear f;go_wp2;go_ret;exact⟨rfl,aa o b2⟩
 have e0:decide (ch<0)=false:=by simpa using j
 obtain⟨i,rfl⟩:∃i:Nat,ch=(i:Int):=⟨ch.toNat,by omega⟩;by_cases h1:l.length<=i
 ·have g:Hid (gg s (i:Int) m=false):=by show _=_;rw[p.out,cK (.inr (by omega))]
  have B:=dT ((l.length:Int)<=(i:Int)) (by omega);rw[g.out];clear j;go_in;go_wp2_with fail;rw[<-d];clear d;refine q.out.mono ?_;rintro e v ⟨t,u,rfl,f,b2⟩;clear f;go_wp2;go_ret;exact⟨rfl,aa o b2⟩
 have B:=dF ((l.length:Int)<=(i:Int)) (by omega);have P:¬(l.length:Int)<=(i:Int):=by omega
 have O:(i:Int)<(l.length:Int):=by omega
 have J:i<l.length:=by omega
 by_cases k:s.kd=3
 ·have C:(s.kd==3)=true:=by simp[k]
  have g:Hid (gg s (i:Int) m=(decide (s.mn<=m)&&decide (m<=s.mx))):=by show _=_;rw[p.out,cL (by omega),cK k]
  rw[g.out];clear j k;cases hd:decide (s.mn<=m)
  iterate 2
   ·go_in;go_wp2_with fail;rw[<-d];clear d;refine q.out.mono ?_;rintro e v ⟨t,u,rfl,f,b2⟩;obtain⟨D,E,F,G,H⟩:=Cw (r.ae b2 r.lt);clear f;go_wp2;go_ret;exact⟨by simp,aa o b2⟩
 ·have C:(s.kd==3)=false:=by simpa using k
  have g:Hid (gg s (i:Int) m=(l[i]?.map (fun a=>a.nd==m)).getD false):=by show _=_;rw[p.out,cL (by omega),cL k,iA]
  clear j k;go_in;go_wp2_with fail;rw[<-d];clear d;refine q.out.mono ?_;rintro e v ⟨t,u,rfl,f,b2⟩;obtain⟨D,E,F,G,H⟩:=Cw (r.ae b2 r.lt);obtain⟨b,off,a,rfl,N,x,L,M⟩:=cp.alt (f.et qk) J;have K:Hid (gg s (i:Int) m=(a.nd==m)):=by show _=_;rw[g.out,x];rfl
  clear f x;go_wp2;go_ret;exact⟨ar K.symm,aa o b2⟩
theorem PM(A B:OA)(n m c d:Nat)(s t:Sh)(w:Wd)(h:th w A n c s)(g:th w B m d t):Cs prog 233 #[JR A n c s,JR B m d t] w (an (decide (s=t):Bool) w):=by
 obtain⟨V,f⟩:=nm ((w.alloc (Tv A n c s)).alloc (Tv B m d t));have b:Bl w w V:=by rw[f];exact(bR.alloc lr _).alloc (by simp) _
 have p:=ah (Gm A B n m c d s.al t.al V (h.st.ae b) (g.st.ae b) (by have:=h.cf;simp[maxLen];omega) (by have:=g.cf;simp[maxLen];omega));clear h g;by_cases i:s.kd=t.kd
 case neg=>
  have a:Hid (decide (s=t)=false):=by show _=_;rw[dS];intro e;exact i (by rw[e])
  have y:(s.kd==t.kd)=false:=by simpa using i
  go_in;go_wp2_with fail;rw[<-f];go_ret;exact⟨ar a.symm,b⟩
 have y:(s.kd==t.kd)=true:=by simp[i]
 have o:=ah i;clear i;by_cases h2:s.mn=t.mn
 case neg=>
  have a:Hid (decide (s=t)=false):=by show _=_;rw[dS];intro e;exact h2 (by rw[e])
  have x:(s.mn==t.mn)=false:=by simpa using h2
  go_in;go_wp2_with fail;rw[<-f];go_ret;exact⟨ar a.symm,b⟩
 have x:(s.mn==t.mn)=true:=by simp[h2]
 have v:=ah h2;clear h2;by_cases j:s.mx=t.mx
 case neg=>
  have a:Hid (decide (s=t)=false):=by show _=_;rw[dS];intro e;exact j (by rw[e])
  have u:(s.mx==t.mx)=false:=by simpa using j
  go_in;go_wp2_with fail;rw[<-f];go_ret;exact⟨ar a.symm,b⟩
 have u:(s.mx==t.mx)=true:=by simp[j]
 have q:=ah j;clear j;by_cases k:s.wl=t.wl
 case neg=>
  have a:Hid (decide (s=t)=false):=by show _=_;rw[dS];intro e;exact k (by rw[e])
  have z:(s.wl==t.wl)=false:=by simpa using k
  go_in;go_wp2_with fail;rw[<-f];go_ret;exact⟨ar a.symm,b⟩
 have z:(s.wl==t.wl)=true:=by simp[k]
 have r:=ah k;clear k
 have l:Hid (decide (s.al=t.al)=decide (s=t)):=by
  show _=_;have:s=t↔s.al=t.al:=⟨fun e=>by rw[e],fun e=>by have C:=o.out;have D:=v.out;have E:=q.out;have F:=r.out;cases s;cases t;simp_all⟩;simp[this]
 go_in;go_wp2_with fail;rw[<-f];refine(p.out.mono fun e w h=>mS.ae h).mono ?_;rintro e G ⟨rfl,b1⟩;go_wp2;go_ret;exact⟨ar l,aa b b1⟩


def Hit(s:Sh)(ch:Nat)(m:Int)(j:Nat)(a:Al):Prop:=a.nd=m/\(j=ch\/s.kd=3)
theorem Gr{ch j:Nat}{m:Int}{a:Al}(g:ch<(eO s).length)(b:(eO s)[j]?=some a)(h:Hit s ch m j a):gg s (ch:Int) m=true:=by
 unfold gg;rw[cL (by omega)];by_cases c:s.kd=3
 ·rw[cK c]
  have e:bQ s=true:=by
   cases hc':bQ s
   ·rw[Pm hc']at b;simp at b
   ·rfl
  obtain⟨o,n,p,k,l,i⟩:=rm e c;rw[Dd e c,dD]at b
  have f:j<(s.mx-s.mn+1).toNat:=by
   rcases iE j (s.mx-s.mn+1).toNat with d|d
   ·exact d
   ·rw[dP (by rw[rT];exact d)]at b;simp at b
  rw[zK f]at b;simp only[fI]at b;injection b with b
  subst b;have:=h.1;simp only at this;simp;omega
 ·rw[cL c];obtain⟨h1,rfl|h2⟩:=h
  ·rw[iA,b];simp[h1]
  ·exact absurd h2 c

theorem ND(h:bQ s=true)(a:s.kd≠3):∃m:Nat,oz s m=true/\m<=6:=by
 unfold bQ at h;split at h
 ·exact⟨1,h,by omega⟩
 ·split at h
  ·exact⟨6,h,by omega⟩
  ·first
   |cases h
   |(rw[cL a]at h;cases h)
theorem Gs{m:Nat}(h:oz s m=true):mz s=true/\1<=s.al.length/\s.al.length<=m/\sk s.al/\∀a∈s.al,fu a=true:=by
 simp only[oz,cH,dA,mM,dC]at h;exact⟨h.1.1.1.1,h.1.1.1.2,h.1.1.2,h.1.2,h.2⟩
theorem Pk{a:Al}(h:bQ s=true)(c:a∈eO s):fu a=true:=by
 by_cases b:s.kd=3
 ·obtain⟨_,h1,h2,d,e,f⟩:=rm h b;rw[Dd h b]at c;obtain⟨n,hn,rfl⟩:=cS.1 c;unfold gx at hn;obtain⟨i,hi,rfl⟩:=cS.1 hn;have:=fS.1 hi;rw[m7];simp only;omega
 ·obtain⟨m,h1,_⟩:=ND h b;rw[Pj h b]at c;exact(Gs h1).2.2.2.2 a c
theorem E9{i:Nat}{a:Al}(b:(eO s)[i]?=some a):gg s (i:Int) a.nd=true:=by
 have hi:=(cA.1 b).1;exact Gr hi b ⟨rfl,.inl rfl⟩
end Go.Proofs.YthfhilggbbobmaaGreatDoor
