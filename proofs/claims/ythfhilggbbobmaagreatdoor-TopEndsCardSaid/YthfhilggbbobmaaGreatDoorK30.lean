/- Parts of the proof. -/
import Derived.Test.YthfhilggbbobmaaGreatDoorK29
set_option linter.all false
set_option maxHeartbeats 20000000
namespace Go.Proofs.YthfhilggbbobmaaGreatDoor
open Go.Proofs.Tryz
open Go renaming World->Wd,Value->Vl,TypeId->Ti
open Go Go.RowKit
section
variable {P : Program} {ops : Array Oper} {Q : Exit -> Act -> World -> Prop} {R S : World -> Prop} {T : Array Bool} {H : List Nat} {m k : Nat} {o : Oper} {r : List Nat} {a : Act} {w : World}
variable{g:Nat}{t:Ti}{cs:Array Vl}
theorem UM{b:Ti}{x:Operand}(e:o.op=.load b x)(c:ai w g t cs)(hx:a.eval x=.pointer g){d:TypeDesc}(f:P.underlying b=some d)(h:d.isRow=true)(hi:(P.info? b).map (·.size)=some cs.size):(execOp a.eval o).run P w=.ok (.value (.agg cs)) w:=by
 unfold execOp;have:=run_loadVar_row (P:=P) w g t b cs (0,0) d c f (by cases d<;>simp_all) hi;simp only[e,hx,Instr.loadAt,Instr.sureAddr,Sem.run_bind,Sem.run_pure,Result.andThen_ok,this]
variable{n:Nat}
theorem jE(p:Nat.ble m r.length=true)(d:Option Tmp)(l:ops[k]?=some o)(y:o.dst=d)(hw:Region.wanted o (yielded ops a.tmps)=true)(e:∀c a w v,Q (.panic c) (a.put d v) w->Q (.panic c) a w)(b:Ti)(x:Operand)(q:o.op=.load b x)
 (j:∀W,R W->(td .any ops T k=true->S W)->ai W g t cs)(hx:a.eval x=.pointer g){u:TypeDesc}(s:P.underlying b=some u)(i:u.isRow=true)(hi:(P.info? b).map (·.size)=some n)(hn:cs.size=n)
 (h:LQ P ops Q R S T H m r (a.put d (.agg cs)) w):LQ P ops Q R S T H m (k::r) a w:=
 by
  subst y;exact cj p l hw e ⟨_,fun W hR f=>UM q (j W hR f) hx s i (by rw[hi,hn]),h⟩
theorem qn(i:Nat.ble m r.length=true)(c:H.contains k=true)(f:ops[k]?=some o)(d:o.dst=none)(hw:Region.wanted o (yielded ops a.tmps)=true)(b:Ti)(x y:Operand)(j:o.op=.store b x y)(g:Nat)(cs:Array Vl)
 (hx:a.eval x=.pointer g)(l:a.eval y=.agg cs){old:Array Vl}(e:ai w g t old)(hs:(P.info? b).map (·.size)=some n)(hn:cs.size=n)(p:old.size=n)(h1:cs.toList.all (·.oneCell')=true)
 (h:∀W,W=w.setRow g cs->R W/\S W/\LQ P ops Q R S T H m r a W):LQ P ops Q R S T H m (k::r) a w:=
 gN i c (cv b x y g cs f d j hw hx l e (by rw[hs,hn]) (by rw[p,hn]) h1 h)
variable{w':Wd}
theorem sT(i:Nat.ble m r.length=true)(e:H.contains k=true)(d:Option Tmp)(g:ops[k]?=some o)(f:o.dst=d)(hw:Region.wanted o (yielded ops a.tmps)=true){u:Ti}{v b c:Vl}(s x:Operand)(j:o.op=.call {callee:=.builtin .append,args:= #[s,x],argTypes:= #[t,u]})
 (hs:a.eval s=v)(hx:a.eval x=b)(l:(Builtin.append_ #[t,u] o.type #[v,b]).run P w=.ok c w')(h:∀W,W=w'->R W/\S W/\LQ P ops Q R S T H m r (a.put d c) W):LQ P ops Q R S T H m (k::r) a w:=
 gN i e (rq d s x g f j hw hs hx l h)
end
open Go renaming Program->Pg
open Go.RowKit renaming Below->Bl
structure KR(w:Wd)(R G c k:Nat):Prop where
 ce:ai w R 148 #[.slice G 14 c,k,(40:Int),(-1:Int)]
 tk:Tks w G 14 jt
 ne:G≠R
 lt:G<w
variable{w:Wd}{R G c k:Nat}
theorem KR.ae{w':Wd}(h:KR w R G c k)(a:Bl w w w'):KR w' R G c k:=⟨h.ce.ae a h.ce.lt,h.tk.ae a,h.ne,cD h.lt a.size⟩
variable{g:Nat}
theorem KR.only{w':Wd}(h:KR w R G c k)(o:aU g w w')(hR:R≠g)(a:G≠g):KR w' R G c k:=⟨(o.same _ h.ce.lt hR).trans h.ce,o.cells h.tk (fun _ b off e=>by cases e;exact a),h.ne,cD h.lt o.size⟩
theorem zD{bl:Nat}{a b:Wd}(h:cg bl a b):cg bl a b.drew:=⟨h.size,h.same,h.du.drew⟩
theorem rx{bl:Nat}{a b:World}(h:cg bl a b)(d:a.heap.size<=g)(c:bl<=g)(cs:Array Value):cg bl a (b.setRow g cs):=⟨by rw[setRow_size];exact h.size,fun x hx hn=>(setRow_other b g cs x (by omega)).trans (h.same x hx hn),aH h.du c cs⟩
theorem KR.next(h:KR w R G c k):KR (w.setCell ⟨R,1,none⟩ ((k+1:Nat):Int)) R G c (k+1):=
 ⟨by simpa using h.ce.set 1 ((k+1:Nat):Int),(cg.set (bl:=R) 1 _).cells h.tk (fun _ b off e=>by cases e;exact h.ne),h.ne,by simpa using h.lt⟩
theorem KR.at_{t:Tk}(h:KR w R G c k)(ht:jt[k]?=some t):w.cell? ⟨G,k*4,none⟩=some (t.kd:Vl)/\w.cell? ⟨G,k*4+1,none⟩=some (.string t.tx)/\w.cell? ⟨G,k*4+2,none⟩=some (t.nu:Vl)/\w.cell? ⟨G,k*4+3,none⟩=some (t.at_:Vl):=by
 have g:k<14:=by have:=(cA.1 ht).1;simpa [jt]using this
 obtain⟨b,off,x,e,i,hx,a⟩:=h.tk.at_ g;cases e;rw[ht]at hx;cases hx;have d:=a 0 _ rfl;have h1:=a 1 _ rfl;have h2:=a 2 _ rfl;have f:=a 3 _ rfl;simp only[cR,fU]at d h1 h2 f;exact⟨d,h1,h2,f⟩
theorem KR.row{t:Tk}(h:KR w R G c k)(ht:jt[k]?=some t):w.rangeAt G (k*4) [t.kd,.string t.tx,t.nu,t.at_]:=by
 have f:k<14:=by have:=(cA.1 ht).1;simpa [jt]using this
 obtain⟨b,off,x,e,g,hx,a⟩:=h.tk.at_ f;cases e;rw[ht]at hx;cases hx;exact fun j v d=>by simpa using a j v d
variable{n:Nat}
theorem yw{f:Array Oper}{Q:Exit->Act->Wd->Prop}{R S:Wd->Prop}{T:Array Bool}{H:List Nat}{m:Nat}{o:Oper}{r:List Nat}{a:Act}{P:Pg}(p:Nat.ble m r.length=true)(l:f[k]?=some o)(hw:Region.wanted o (yielded f a.tmps)=true)(g:∀c a w v,Q (.panic c) (a.put o.dst v) w->Q (.panic c) a w)(e:Ti)(x:Operand)(q:o.op=.load e x)
 {b off:Nat}(hx:a.eval x=.pointer (some ⟨b,off,none⟩)){cs:Array Vl}(i:∀W,R W->W.rangeAt b off cs.toList){d:TypeDesc}(s:P.underlying e=some d)(j:d.isRow=true)(hi:(P.info? e).map (·.size)=some n)(hn:cs.size=n)
 (h:LQ P f Q R S T H m r (a.put o.dst (.agg cs)) w):LQ P f Q R S T H m (k::r) a w:=
 cj p l hw g ⟨_,fun W hR _=>by
  unfold execOp;have:=run_loadVar_mid (P:=P) W b off e cs.toList d (i W hR) s j (by rw[hi];simp[hn]);simp only[q,hx,Instr.loadAt,Instr.sureAddr,nU,n7,o0,this],h⟩
theorem Ae:(prog.info? 211).map (·.size)=some 4:=by kernel_rfl
set_option maxRecDepth 100000 in
theorem BC(g:FuncId)(p:Array Value)(eg:∀args w,(callFunc g args).run prog w=.ok (.enter g args) w)(R G c k:Nat)(t:Tk)(o:Int)(w:World)(h:KR w R G c k)(ht:jt[k]?=some t)(H:t.kd=o)
 (Q:∀W,Below w.heap.size w W->Calls prog g (#[F7 t]++p) W (an (.bool true) W)):
 Calls prog 122 #[.pointer (some ⟨R,0,none⟩),.int .i64 o,.func (.func g) #[] p] w fun e w'=>e=.returned (.tuple #[F7 t,.bool true])/\cg R w w'/\KR w' R G c (k+1):=by
 have P:k<14:=by have:=(List.getElem?_eq_some_iff.1 ht).1;simpa [jt]using this
 subst H;obtain⟨V,M,y,zV⟩:=az w #[.int .i64 0,.string ⟨#[]⟩,.int .i64 0,.int .i64 0] 211;have z:Hid (∀W,Below V.heap.size V W->KR W R G c k):=fun W d=>(h.ae y).ae d;have HQ:=ah fun(W:World) (d:Below V.heap.size V W)=>Q W (aa y d);have C:=ah ht;have D:=ah zV;have HB:=ah y;have hR:=h.ce.lt;have hG:=h.lt;clear h ht Q y zV;go_enter func122,ntmps122;go_wp2_with fail;rw[<-M];clear M;refine aw (fun w'=>Below V.heap.size V w') (by kernel_rfl) (by kernel_rfl) (Below.refl _ _).drew ?_;have O:(k:Int)<14:=by omega
 repeat(first
  |(refine mN ?_ 211 _ rfl (b:=G) (off:=k*4) (cs:= #[.int .i64 t.kd,.string t.tx,.int .i64 t.nu,.int .i64 t.at_]) ?_ (fun w' f=> ?_) underlying211 rfl Ae rfl ?_
    ·rfl
    ·simp[go_sem]
    ·exact(z.out w' f).row C.out
    simp only[Act.put,aE,aF,aG])
  |(refine ee g (#[F7 t]++p) (.bool true) ?_ (fun w'=> ?_) (fun w' f=>(HQ.out w' f).mono fun e w'' ⟨he,N⟩=>⟨he,aa f N⟩) ?_
    ·rfl
    ·simp[go_sem,eg]
    simp only[Act.put,aE,aF,aG])
  |(refine cw ?_ ?_
    ·rfl
    apply Exists.intro;refine⟨fun w' f=> ?_,?_⟩
    ·have i:=z.out w' f;have m:=i.ce.cell 0;have n:=i.ce.cell 1;have L:=i.ce.cell 3;obtain⟨d0,d1,d2,d3⟩:=i.at_ C.out;simp at m n L;simp[go_sem,m,n,L,d0,d1,d2,d3,O,P]
     try rfl
    simp only[Act.put,aE,aF,aG]))
 refine bM ?_;intro W d;have HW:=ah d;have i:=z.out W d;have m:=i.ce.cell 0;have n:=i.ce.cell 1;have f1:=i.ce.ao 1;simp at m n;obtain⟨X,q⟩:∃X,X=W.setCell ⟨R,1,none⟩ (.int .i64 ((k:Int)+1)):=⟨_,rfl⟩;have S:KR X R G c (k+1):=q▸i.next
 have U:X.rangeAt G (k*4) [.int .i64 t.kd,.string t.tx,.int .i64 t.nu,.int .i64 t.at_]:=by
  intro j v F;rw[q,World.cell?_setCell_other _ _ _ _ (by intro e;injection e with e;exact i.ne e.symm)];exact i.row C.out j v F
 have zX:ai X w.heap.size 211 #[.int .i64 0,.string ⟨#[]⟩,.int .i64 0,.int .i64 0]:=q▸(D.out.ae d D.out.lt).ll (by show w.heap.size≠R;omega) _;have Z:cg R V X:=q▸(cg.aX d (by have:=D.out.lt;omega)).trans (cg.set 1 _);have u:=ah S;have K:=ah U;have r:=ah zX;have HS:=ah Z;clear d i S U zX Z;go_wp2_with fail;rw[<-q];clear q m n f1;refine bW (fun W=>KR W R G c (k+1)/\W.rangeAt G (k*4) [.int .i64 t.kd,.string t.tx,.int .i64 t.nu,.int .i64 t.at_]) (fun _=>True) #[] [11] 0 [0,1,2,3,4,5,6,7,8,9,10,11,12] (by kernel_rfl) (by kernel_rfl) ⟨u.out.ae (Below.refl _ _).drew,K.out⟩ trivial ?_;have s:IntKind.i64.wrap (k:Int)=(k:Int):=IntWalk.i64_in _ (by omega)
 iterate 10
  refine lqe rfl (fun _ _ _ _ h=>h) ?_;apply Exists.intro;refine⟨fun W d _=> ?_,?_⟩
  ·have m:=d.1.ce.cell 0;have n:=d.1.ce.cell 1;simp at m n;simp[go_sem,m,n,O,P,s]
   try rfl
 refine yw rfl rfl rfl (fun _ _ _ _ h=>h) 211 _ rfl (b:=G) (off:=k*4) (by simp[go_sem]) (cs:= #[.int .i64 t.kd,.string t.tx,.int .i64 t.nu,.int .i64 t.at_]) (fun W h=>h.2) underlying211 rfl Ae rfl ?_;refine qn rfl rfl rfl rfl rfl 211 (.tmp 6) (.tmp 71) rfl w.heap.size #[.int .i64 t.kd,.string t.tx,.int .i64 t.nu,.int .i64 t.at_] (by simp[go_sem]) (by simp[go_sem]) r.out Ae rfl rfl rfl ?_;intro x l;have E:Hid (ai x w.heap.size 211 #[.int .i64 t.kd,.string t.tx,.int .i64 t.nu,.int .i64 t.at_]):=by show ai _ _ _ _;rw[l];exact ai.row r.out _
 have Y:cg R w x:=l▸rx (g:=w.heap.size) (zD ((cg.aX HB.out (by omega)).trans HS.out)) (Nat.le_refl _) (by omega) _;have J:aU w.heap.size X x:=l▸⟨by rw[setRow_size];exact Nat.le_refl _,fun b N hn=>setRow_other X.drew w.heap.size _ b hn⟩;have I:=u.out.only J (by omega) (by have:=u.out.ne;have:=hG;omega);have B:=ah Y;have A:=ah I;have T:x.rangeAt G (k*4) [.int .i64 t.kd,.string t.tx,.int .i64 t.nu,.int .i64 t.at_]:=fun j v F=>(World.cell?_of_block (a:=⟨G,k*4+j,none⟩) (J.same G u.out.lt (by show G≠w.heap.size;omega))).trans (K.out j v F);refine⟨⟨I,T⟩,trivial,?_⟩;refine lqe rfl (fun _ _ _ _ h=>h) ?_;apply Exists.intro;refine⟨fun W d _=> ?_,?_⟩
 ·go_simp
  try rfl
 refine ew ?_;clear Y J I T l s;simp only[Act.put,aE,aF,aG,List.getElem_toArray,List.getElem_cons_succ,List.getElem_cons_zero];go_wp2_with fail;refine eC (cs:= #[.int .i64 t.kd,.string t.tx,.int .i64 t.nu,.int .i64 t.at_]) rfl E.out rfl rfl underlying211 rfl Ae rfl rfl ?_;exact⟨rfl,B.out,A.out⟩
set_option maxRecDepth 100000
open Go renaming Ending->Ed,Calls->Cs
def DM(v:Vl)(R G c k:Nat)(w:Wd)(e:Ed)(w':Wd):Prop:=e=.returned v/\cg R w w'/\KR w' R G c k
theorem Tl(R G c k:Nat)(t:Tk)(j:Int)(b:Bool)(w:Wd)(h:KR w R G c k)(ht:jt[k]?=some t)(d:(t.kd==j)=b):
 Cs prog 125 #[.pointer R,j] w (an b w):=by
 have v:k<14:=by have:=(cA.1 ht).1;simpa [jt]using this
 have m:Hid (∀W,Bl w w W->KR W R G c k):=fun W a=>h.ae a;have n:=ah ht;have l:=ah d;clear h ht d;go_in;go_wp2_with fail;refine aw (fun w'=>Bl w w w') (by kernel_rfl) (by kernel_rfl) bR.drew ?_;have u:(k:Int)<14:=by omega
 repeat(first
  |(refine cw rfl ⟨?_,fun w' x=> ?_,?_⟩
    rotate_left
    ·have e:=m.out w' x;have f:=e.ce.cell 0;have g:=e.ce.cell 1;have i:=e.ce.cell 3;obtain⟨p,q,r,s⟩:=e.at_ n;have d:=l.out;simp at f g i;simp[go_sem,f,g,i,p,q,r,s,u,v,d]
     try rfl
    simp only[aP]))
 refine bM ?_;intro W a;have o:=ah a;clear a;go_wp2;go_ret;exact⟨rfl,o⟩
theorem Uq(t:Tk)(s:ByteArray)(B:Nat)(w:Wd)(hs:w.cell? B=some (.string s))(b:B<w)(a:t.tx=s):Cs prog 226 #[F7 t,.pointer B] w (an true w):=by
 subst a;go_in;go_wp2;go_ret;exact⟨ar (by simp),aA⟩
theorem ksign(R G c k:Nat)(t:Tk)(w:Wd)(h:KR w R G c k)(ht:jt[k]?=some t)(j:t.kd=5):Cs prog 133 #[.pointer R,.string t.tx] w (DM (.tuple #[]) R G c (k+1) w):=by
 obtain⟨V,d,b,a⟩:=az w #[.string t.tx] 9;have o:=ah (BC 226 #[.pointer w] (enters_of func226 (by kernel_rfl) rfl) R G c k t 5 V (h.ae b) ht j fun W f=>Uq t t.tx w W (by have:=(a.ae f a.lt).cell 0;simpa using this) (a.ae f a.lt).lt rfl);have l:=ah (cg.aX (bl:=R) b (by have:=h.ce.lt;omega));clear h ht j b a;go_in;go_wp2_with fail;rw[<-d];clear d;refine o.out.mono ?_;rintro e p ⟨rfl,i,g⟩;have n:=ah i;have m:=ah g;clear i g;go_wp2;go_end0;exact⟨rfl,l.trans n,m⟩
theorem OM(g:FuncId)(b:Array Vl)(e:∀args w,(callFunc g args).run prog w=.ok (.enter g args) w)(t:Tk)(B:Nat)(w:Wd)(hs:w.cell? B=some (.func (.func g) #[] b))(f:B<w)
 (a:∀W,Bl w.heap.size w W->Cs prog g (#[.int .i64 t.nu]++b) W (an (.bool true) W)):Cs prog 221 #[F7 t,.pointer (some ⟨B,0,none⟩)] w (an (.bool true) w):=by
 have d:=ah (a _ (bR.alloc lr (.cells #[t.kd,.string t.tx,t.nu,t.at_] 211)));clear a;go_in;go_wp2_with fail;refine av d fun h b2=> ?_;have c:=ah b2;clear b2;go_wp2;go_ret;exact⟨rfl,aa (aA) c⟩
theorem Jt(g:FuncId)(d:Array Vl)(u:∀args w,(callFunc g args).run prog w=.ok (.enter g args) w)(R G c k:Nat)(t:Tk)(w:Wd)(h:KR w R G c k)(ht:jt[k]?=some t)(o:t.kd=2)
 (l:∀W,Bl w.heap.size w W->Cs prog g (#[.int .i64 t.nu]++d) W (an (.bool true) W)):
 Cs prog 128 #[.pointer R,.func (.func g) #[] d] w (DM t.nu R G c (k+1) w):=by
 obtain⟨V,j,b,a⟩:=az w #[.func (.func g) #[] d] 113;have r:=ah (BC 221 #[.pointer w] (enters_of func221 (by kernel_rfl) rfl) R G c k t 2 V (h.ae b) ht o fun W f=>OM g d u t w W (by have:=(a.ae f a.lt).cell 0;simpa using this) (a.ae f a.lt).lt fun s v=>l s (aa (aa b f) v));have p:=ah (cg.aX (bl:=R) b (by have:=h.ce.lt;omega));have hR:=h.ce.lt;clear h ht o b a l;go_in;go_wp2_with fail;rw[<-j];clear j;refine r.out.mono ?_;rintro e x ⟨rfl,n,m⟩;have i:=ah (p.trans n);have q:=ah m;clear n m;go_wp2;go_ret;have h2:=i.size;exact⟨rfl,i.alloc _ (by omega),q.ae (aA)⟩
theorem kof(a b:Int)(w:Wd):Cs prog 129 #[a,b] w fun e w'=>e=.returned (.func (.func 222) #[] #[.pointer w,.pointer (w+1:Nat)])/\Bl w w w'/\ai w' w 3 #[a]/\ai w' (w+1) 3 #[b]:=by
 go_in;go_wp2;go_ret;refine⟨by simp,aC,(ai.new _ _ _).alloc _,?_⟩;have:=ai.new (w.alloc (.cells #[a] 3)) 3 #[b];simpa using this
theorem kof1(n a b:Int)(B D:Nat)(w:Wd)(d:w.cell? B=some (a:Vl))(e:w.cell? D=some (b:Vl))(h:jC n a b=true):Cs prog 222 #[n,.pointer B,.pointer D] w (an true w):=by
 have c:=ah (jo n a b w);rw[h]at c;clear h;go_in;go_wp2_with fail;refine aQ c ?_;go_wp2;go_ret;exact⟨rfl,cC _ _⟩
theorem OJ(n:Int)(w:Wd)(h:jC n 1 100000=true):Cs prog 230 #[n] w (an true w):=by
 have a:=ah (jo n 1 100000 w);rw[h]at a;clear h;go_in;go_wp2_with fail;refine aQ a ?_;go_wp2;go_ret;exact⟨rfl,cC _ _⟩
theorem RO(R G c k:Nat)(t:Tk)(w:Wd)(h:KR w R G c k)(ht:jt[k]?=some t)(a:t.kd=2)(d:jC t.nu 1 100000=true):
 Cs prog 228 #[.pointer R] w (DM t.nu R G c (k+1) w):=by
 have j:=ah (Tl R G c k t 3 false w h ht (by rw[a];rfl));have i:=ah fun(W:Wd) (m:Bl w w W)=>Jt 230 #[] (enters_of func230 (by kernel_rfl) rfl) R G c k t W (h.ae m) ht a fun l _=>OJ t.nu l d;have hR:=h.ce.lt;clear h ht a d;go_in;go_wp2_with fail;refine av j fun p b1=> ?_;have b:=ah b1;clear b1;go_wp2_with fail;refine(i _ b).mono ?_;rintro e q ⟨rfl,g,f⟩;have n:=ah ((cg.aX b (by omega)).trans g);have o:=ah f;clear g f;go_wp2;go_ret;exact⟨rfl,n,o⟩
theorem RP(t:Tk)(w:Wd)(hn:jv t.tx=true)(hs:t.tx.size<=1000000):Cs prog 328 #[F7 t] w (an true w):=by
 have a:=ah fun W=>mY t.tx W hs;rw[hn]at a;clear hn hs;go_in;go_wp2_with fail;refine(a _).mono ?_;rintro e c ⟨rfl,b2⟩;have b:=ah b2;clear b2;go_wp2;go_ret;exact⟨rfl,aa (aA) b⟩
theorem OL(R G c k:Nat)(t:Tk)(w:Wd)(h:KR w R G c k)(ht:jt[k]?=some t)(f:t.kd=1)(hn:jv t.tx=true)(hs:t.tx.size<=1000000):
 Cs prog 227 #[.pointer R] w (DM (.string t.tx) R G c (k+1) w):=by
 have i:=ah (BC 328 #[] (enters_of func328 (by kernel_rfl) rfl) R G c k t 1 w h ht f fun W j=>RP t W hn hs);have hR:=h.ce.lt;clear h ht f hn hs;go_in;go_wp2_with fail;refine i.out.mono ?_;rintro e l ⟨rfl,d,b⟩;have a:=ah d;have g:=ah b;clear d b;go_wp2;go_ret;have h2:=a.size;exact⟨rfl,a.alloc _ (by omega),g.ae (aA)⟩
theorem sZ(A:OA)(n c:Nat)(l:List ByteArray)(x:ByteArray)(k:Nat)(w:Wd)(h:Strs w A n l)(hn:n<=1000)(d:l[k]?=some x)(g:∀y∈l.take k,y≠x):
 Cs prog 124 #[.slice A n c,.string x] w fun e w'=>e=.returned k/\w=w':=by
 have q:=h.cb;subst q;have C:=(cA.1 d).1;have j:=ah h;have o:=ah d;have p:=ah g;clear h d g;go_in;go_wp2
 go_loop [8] (fun i=>∃m:Nat,m<=k/\i=.int .i64 m) (fun i=>l.length-(intOf i).toNat)
 case atStart=>exact⟨0,by omega,rfl⟩
 case round=>
  obtain⟨m,B,rfl⟩:=hrel;have r:m<l.length:=by omega
  obtain⟨b,off,y,rfl,z,a,u⟩:=j.at_ r;by_cases t:m=k
  ·subst t;have s:y=x:=by have:=o.out;rw[a]at this;cases this;rfl
   subst s;clear a;go_wp2;go_ret;exact⟨rfl,rfl⟩
  ·have f:y≠x:=p.out y (dO.2 ⟨m,by omega,by simpa using(cA.1 a).2⟩);have v:(x.toList==y.toList)=false:=vw fun e=>f e.symm;clear a f;go_wp2_with fail
   go_round
   case rel=>exact⟨m+1,by omega,by go_num⟩
   case measure=>simp[intOf];omega
theorem AH(A:OA)(n c:Nat)(l:List ByteArray)(x:ByteArray)(k:Nat)(w:Wd)(h:Strs w A n l)(hn:n<=1000)(a:l[k]?=some x)(b:∀y∈l.take k,y≠x):
 Cs prog 223 #[.slice A n c,.string x] w fun e w'=>e=.returned true/\w=w':=by
 have d:=ah (sZ A n c l x k w h hn a b);have g:=(cA.1 a).1;have f:=h.cb;clear h b a;go_in;go_wp2_with fail;refine aQ d ?_;go_wp2;go_ret;exact⟨ar (by simp),rfl⟩
def MJ(x:ByteArray):Prop:=x=ym\/x=lz\/x=ph\/x=sQ
theorem Tj(x:ByteArray)(w:Wd)(h:MJ x):Cs prog 225 #[.string x] w fun e w'=>e=.returned (1:Int)/\w=w':=by
 rcases h with rfl|rfl|rfl|rfl
 all_goals
  simp only[ym,lz,ph,sQ];go_in;go_wp2;go_ret;exact⟨rfl,rfl⟩
theorem ON(x:ByteArray)(w:Wd)(h:MJ x):Cs prog 136 #[.string x] w fun e w'=>e=.returned false/\w=w':=by
 have a:=ah (Tj x w h);clear h;go_in;go_wp2_with fail;refine aQ a ?_;go_wp2;go_ret;exact⟨rfl,rfl⟩
def xa:List ByteArray:=[ym,lz,⟨#[112,114,105,111]⟩,⟨#[97,110,121]⟩,⟨#[103,111,111,100]⟩,⟨#[98,97,100]⟩,ph,⟨#[97,108,116]⟩,⟨#[114,97,110,103,101]⟩,sQ]
theorem zW{t:Ti}{cs:Array Vl}{l:List ByteArray}(h:ai w g t cs)(e:cs.toList=l.map Value.string):Strs w g l.length l:=
 ⟨by simp,fun _=>⟨g,0,rfl,h.lt,fun i v a=>by rw[cR,h.cell i,<-iS,e];exact a⟩⟩
theorem RL(w:Wd):Cs prog 224 #[(1:Int)] w fun e w'=>∃A c,e=.returned (.slice A 10 c)/\Strs w' A 10 xa/\Bl w w w':=by
 go_in;go_wp2;go_ret;refine⟨_,_,rfl,?_,aA⟩;exact zW (l:=xa) (ai.new w 9 _) rfl
structure Ff where
 nm:ByteArray
 ty:Ti
 v:Vl
def Jm(x:Ff):List Vl:=[.string x.nm,.iface x.ty x.v]
theorem OQ:wU Jm 2:=⟨fun _=>rfl,fun x u a=>by simp[Jm]at a;rcases a with rfl|rfl<;>rfl,by omega⟩
abbrev TJ:=cp Jm 2
abbrev FfsO:=be Jm 2
abbrev AM(x:Ff):Array Vl:= #[.string x.nm,.iface x.ty x.v]
def jf:List Ff:=[⟨ym,233,.string ⟨#[117]⟩⟩,⟨lz,233,.string ⟨#[120]⟩⟩,⟨ph,225,.int .i64 2⟩,⟨sQ,225,.int .i64 1⟩]
theorem pZ:(prog.info? 154).map (·.size)=some 2:=by kernel_rfl
variable{x:Ff}
theorem rl(h:jf[k]?=some x):MJ x.nm:=by
 match k,h with
 |0,h=>cases h;exact .inl rfl
 |1,h=>cases h;exact .inr (.inl rfl)
 |2,h=>cases h;exact .inr (.inr (.inl rfl))
 |3,h=>cases h;exact .inr (.inr (.inr rfl))
theorem RG{m:Nat}{y:Ff}(hx:jf[k]?=some x)(a:jf[m]?=some y)(h:m<k):y.nm≠x.nm:=by
 match k,hx with
 |0,hx=>omega
 |1,hx=>match m,a with|0,a=>cases hx;cases a;decide
 |2,hx=>match m,a with|0,a=>cases hx;cases a;decide|1,a=>cases hx;cases a;decide
 |3,hx=>match m,a with|0,a=>cases hx;cases a;decide|1,a=>cases hx;cases a;decide|2,a=>cases hx;cases a;decide
theorem G7(hx:jf[k]?=some x):∃i,xa[i]?=some x.nm/\∀y∈xa.take i,y≠x.nm:=by
 match k,hx with
 |0,hx=>cases hx;exact⟨0,rfl,by decide⟩
 |1,hx=>cases hx;exact⟨1,rfl,by decide⟩
 |2,hx=>cases hx;exact⟨6,rfl,by decide⟩
 |3,hx=>cases hx;exact⟨9,rfl,by decide⟩
theorem kopen(A:OA)(k c:Nat)(x:Ff)(w:Wd)(hx:jf[k]?=some x)(h:TJ w A k (jf.take k)):Cs prog 132 #[(1:Int),.slice A k c,.string x.nm] w (an true w):=by
 have G:k<4:=by have:=(cA.1 hx).1;simpa [jf]using this
 have p:=ah h;have g:=ah hx;have r:=ah fun W=>Tj x.nm W (rl hx);have t:=ah fun W=>ON x.nm W (rl hx);clear h hx;go_in;go_wp2
 go_loopw [7,12] (fun z i wr=>∃m:Nat,m<=k/\z=.int .i64 0/\i=.int .i64 m/\Bl w w wr) (fun _ i _=>k-(intOf i).toNat)
 case atStart=>exact⟨0,by omega,rfl,rfl,cC _ _⟩
 case round=>
  obtain⟨m,H,rfl,rfl,j⟩:=hrel;have a:=ah j;clear j;by_cases n:m<k
  ·obtain⟨b,off,y,rfl,J,f,d⟩:=(p.ae a).at_ n;have l:jf[m]?=some y:=by rw[List.getElem?_take]at f;split at f<;>simp_all
   have F:(y.nm.toList==x.nm.toList)=false:=vw (RG g l n);have u:=d 0 _ rfl;have D:=d 1 _ rfl;simp only[fU]at u;clear d f l;go_wp2_with fail;refine(t _).mono ?_;rintro e w' ⟨rfl,rfl⟩;go_wp2_with fail;exact⟨⟨m+1,by omega,rfl,by go_num,aa a (aA)⟩,by simp[intOf];omega⟩
  ·obtain rfl:m=k:=by omega
   obtain⟨i,hi,o⟩:=G7 g;have q:=ah hi;have v:=ah o;clear hi o;go_wp2_with fail;refine(RL _).mono ?_;rintro e I ⟨C,E,rfl,hs,b2⟩;have s:=ah hs;have B:=ah (aa a b2);clear hs b2;go_wp2_with fail;refine(AH _ _ _ _ _ _ _ s (by omega) q v).mono ?_;rintro e w' ⟨rfl,rfl⟩;go_wp2_with fail;refine(r _).mono ?_;rintro e w' ⟨rfl,rfl⟩;go_wp2;go_ret;exact⟨rfl,B⟩
abbrev Ct(x:Sr)(S:Sl)(a:Int):Array Vl:= #[x.s.am,x.N.v,x.J.v,x.R.v,x.B.v,x.L.v,x.s.nj,x.s.nb,S.v,a]
structure Ax(w:Wd)(b0 b1 b2 b3 b4 b5 P:Nat)(x:Sr)(S:Sl)(er:Int):Prop where
 ce:ai w P 256 (Ct x S er)
 ag:mK w b0 x.N.A x.N.n x.N.c x.s.ag
 aj:gB w b1 x.J.A x.J.n x.J.c x.jr
 bx:r8 w b2 x.R.A x.R.n x.R.c x.s.bx
 aZ:r6 w b3 x.B.A x.B.n x.B.c x.s.aZ
 bK:mL w b4 x.L.A x.L.n x.L.c x.s.bK
 nest:∀r∈x.jr,AP b5 P w r
 jr:x.jr.map Jr.j=x.s.aj
 sf:0<x.N.c->x.N.A≠some ⟨P,0,none⟩
 hJ:eK x.J.A x.J.c b2
 hR:eK x.R.A x.R.c b3
 hB:eK x.B.A x.B.c b4
 hL:eK x.L.A x.L.c b5
 u1:b0<=b1
 u2:b1<=b2
 u3:b2<=b3
 u4:b3<=b4
 u5:b4<=b5
 u6:b5<=P
 fN:x.N.n<=1000
 fJ:x.J.n<=1000
 fR:x.R.n<=1000
 fB:x.B.n<=1000
 fL:x.L.n<=1000
 kk:∀r∈x.s.bx,r.nd<2^64/\r.sd<2^64
variable{b1 b2 b3 b4 b5:Nat}
theorem Ax.of{a:Nat}{y:Sr}(h:Co w a b1 b2 b3 b4 b5 y)(d:b5<=w):Ax (w.alloc (.cells (Ct y ⟨none,0,0⟩ 0) 256)) a b1 b2 b3 b4 b5 w y ⟨none,0,0⟩ 0:=by
 have b:Bl w w (w.alloc (.cells (Ct y ⟨none,0,0⟩ 0) 256)):=aA;have g:=h.ae b;have i:=h.u1;have j:=h.u2;have k:=h.u3;have l:=h.u4;have m:=h.u5;exact⟨ai.new _ _ _,g.ag,g.aj,g.bx,g.aZ,g.bK,fun r f=>AP.old (h.nest r f) b lr,h.jr,fun c e=>by have q:=h.hN c _ e;omega,h.hJ,h.hR,h.hB,h.hL,i,j,k,l,m,d,h.fN,h.fJ,h.fR,h.fB,h.fL,h.kk⟩
variable{P:Nat}{S:Sl}
theorem Ax.ae{W:Wd}{b:Nat}{x:Sr}{c:Int}(h:Ax w b b1 b2 b3 b4 b5 P x S c)(a:Bl w w W):Ax W b b1 b2 b3 b4 b5 P x S c:=
 ⟨h.ce.ae a h.ce.lt,h.ag.ae a,h.aj.ae a,h.bx.ae a,h.aZ.ae a,h.bK.ae a,fun r d=>(h.nest r d).ae a,h.jr,h.sf,h.hJ,h.hR,h.hB,h.hL,h.u1,h.u2,h.u3,h.u4,h.u5,h.u6,h.fN,h.fJ,h.fR,h.fB,h.fL,h.kk⟩
theorem Ax.Pa{W:Wd}{a:Nat}{x:Sr}{b:Int}(h:Ax w a b1 b2 b3 b4 b5 P x S b)(on:aU P w W):mK W a x.N.A x.N.n x.N.c x.s.ag/\gB W b1 x.J.A x.J.n x.J.c x.jr/\r8 W b2 x.R.A x.R.n x.R.c x.s.bx/\r6 W b3 x.B.A x.B.n x.B.c x.s.aZ/\mL W b4 x.L.A x.L.n x.L.c x.s.bK/\∀r∈x.jr,AP b5 P W r:=by
 have e:=h.u1;have f:=h.u2;have g:=h.u3;have i:=h.u4;have j:=h.u5;have k:=h.u6;exact⟨mj on h.ag h.sf,ed on h.aj h.hJ (by omega),ed on h.bx h.hR (by omega),ed on h.aZ h.hB (by omega),ed on h.bK h.hL (by omega),fun r d=>(h.nest r d).on on (.inr (.inl rfl))⟩
theorem Ax.Tw{e:Nat}{x:Sr}{k:Int}(h:Ax w e b1 b2 b3 b4 b5 P x S k):gV e w x:=fun W h1 h2=>by
 have m:=h.u1;have n:=h.u2;have o:=h.u3;have p:=h.u4;have q:=h.u5;have hn:=bS h.ag h1 h2;have f:=bS h.aj h1 fun b d=>h2 b (by omega);have a:=bS h.bx h1 fun b d=>h2 b (by omega);have g:=bS h.aZ h1 fun b d=>h2 b (by omega);have i:=bS h.bK h1 fun b d=>h2 b (by omega);exact⟨hn.et mb,⟨f.et ek,fun r a=>h.nest r a W h1 fun c l j _ _=>h2 c (by omega) j⟩,h.jr,a.et ju,g.et sS,i.et na,e9 hn h.fN,e9 f h.fJ,e9 a h.fR,e9 g h.fB,e9 i h.fL,h.kk⟩
theorem H6(x:Sr)(w:Wd)(h:db w x)(g:bt x.s):
 Cs prog 171 #[.agg (aY x)] w fun e w'=>∃P y f b1 b2 b3 b4 b5,e=.returned (.pointer (some ⟨P,0,none⟩))/\y.s=x.s/\Ax w' f b1 b2 b3 b4 b5 P y ⟨none,0,0⟩ 0/\eK y.N.A y.N.c b1/\w.heap.size<=f/\Bl w.heap.size w w':=by
 have a:Hid (ai (w.alloc (.cells (aY x) 28)) w.heap.size 28 (aY x)):=ai.new _ _ _;have b:Bl w.heap.size w (w.alloc (.cells (aY x) 28)):=aA;have n:=ah (da x _ (h.ae b) g);have F:=ah fun(W:Wd) (u:Bl w.heap.size w W)=>gQ x W (h.ae u);have m:=ah b;clear h g b;go_in;go_wp2_with(refine wA a t28 rfl ?_);refine av n fun i b2=> ?_;have d:=ah (aa m b2);have D:=ah (a.ae b2 a.lt);clear b2;go_wp2_with(refine wA D.out t28 rfl ?_);refine(F.out _ d.out).mono ?_;rintro e v ⟨y,o,p,q,r,t,rfl,l,k,z,b3⟩;have B:=ah l;have j:=ah k;have E:=ah b3;have C:=ah (show w.heap.size<=i.heap.size from d.out.size);clear l k b3;go_wp2_with fail;go_ret;exact⟨v.heap.size,y,i.heap.size,o,p,q,r,t,rfl,B.out,Ax.of j.out z,j.out.hN,C.out,aa (aa d.out E.out) (aA)⟩
theorem I5{t:Ti}{x:Sr}{a:Int}(h:ai w P t (Ct x S a)):w.cell? P=some (x.s.am:Vl)/\w.cell? ⟨P,1,none⟩=some x.N.v/\w.cell? ⟨P,2,none⟩=some x.J.v/\w.cell? ⟨P,3,none⟩=some x.R.v/\w.cell? ⟨P,4,none⟩=some x.B.v/\w.cell? ⟨P,5,none⟩=some x.L.v/\w.cell? ⟨P,6,none⟩=some (x.s.nj:Vl)/\w.cell? ⟨P,7,none⟩=some (x.s.nb:Vl)/\w.cell? ⟨P,8,none⟩=some S.v/\w.cell? ⟨P,9,none⟩=some (a:Vl):=
 ⟨h.cell 0,h.cell 1,h.cell 2,h.cell 3,h.cell 4,h.cell 5,h.cell 6,h.cell 7,h.cell 8,h.cell 9⟩
theorem Ia(P:Nat)(y:Sr)(S:Sl)(o id:Int)(w:Wd)(h:ai w P 256 (Ct y S o))(j:MT w y.R.A y.R.n y.s.bx)(hn:y.R.n<=1000)(p:0<=id/\id<=100000)(d:∀r∈y.s.bx,0<=r.jb/\r.jb<=100000)(k:y.s.bx.Pairwise (fun a b=>a.jb<b.jb)):
 Cs prog 175 #[.pointer P,id] w (IS y.s.bx id w):=by
 have m:=ah (Fw y.R.A y.R.n y.R.c y.s.bx id w j (by omega) p d k);have u:w.cell? ⟨P,3,none⟩=some (.slice y.R.A y.R.n y.R.c):=h.cell 3;have q:=zA;clear h j d k;go_in;go_wp2_with fail;refine m.out.mono ?_;rintro e t ⟨i,f,rfl,g⟩;have l:=ah g;clear g;go_wp2;go_ret2;exact⟨i,f,rfl,l⟩
theorem a8{o:Oper}(h:o.guard=none)(y:Nat->Option Bool):Region.wanted o y=true:=by simp[Region.wanted,h]
theorem LJ(P:Nat)(y:Sr)(S:Sl)(w:Wd)(h:ai w P 256 (Ct y S 0)):
 Cs prog 172 #[.pointer P] w (an (.tuple #[.agg (aY y),S.v,()]) w):=by
 have E:=ah h;have F:w.cell? ⟨P,9,none⟩=some (():Vl):=h.cell 9;have j:Hid (ai (w.alloc (.cells dz 28)) w 28 dz):=ai.new _ _ _;obtain⟨V,a⟩:=nm (w.alloc (.cells dz 28));have d:Bl w w V:=a▸aA;have g:=h.ae d h.lt;have G:V.cell? ⟨P,9,none⟩=some (():Vl):=g.cell 9;have A:=ah g;have l:=ah d;have B:Hid (ai V w 28 dz):=by rw[a];exact j
 have C:P≠w:=Nat.ne_of_lt h.lt;clear h d g j;go_in;go_wp2_with(rw[<-a];clear a;go_step);have f:ai V.drew P 256 (Ct y S 0):=A.out;have i:ai V.drew w 28 dz:=B.out;refine lqb (fun W=>ai W P 256 (Ct y S 0)) [8] [0,1,2,3,4,5,6,7,8,9,10] (by kernel_rfl) (by kernel_rfl) f ?_
 iterate 8
  refine lqe rfl (fun _ _ _ _ h=>h) ⟨?_,fun W e _=> ?_,?_⟩;rotate_left
  ·obtain⟨m,n,o,p,q,r,s,t,u,x⟩:=I5 e;go_simp
   try rfl
 refine gN rfl rfl (cv 28 (.tmp 2) (.tmp 18) w (aY y) rfl rfl rfl (by rfl) (by go_simp) (by go_simp) i aT rfl rfl ?_);intro c b;have k:ai c P 256 (Ct y S 0):=b▸ai.gu f C _;have D:Hid (ai c w 28 (aY y)):=by rw[b];exact ai.row i _
 have z:Hid (Bl w w c):=by rw[b];exact aH (nT l) lr _
 refine⟨k,trivial,?_⟩
 iterate 2
  refine lqe rfl (fun _ _ _ _ h=>h) ⟨?_,fun W e _=> ?_,?_⟩;rotate_left
  ·obtain⟨m,n,o,p,q,r,s,t,u,x⟩:=I5 e;go_simp
   try rfl
 refine ew ?_;clear f k i b;simp only[aP,aW];go_wp2;refine fV (cs:=aY y) rfl D rfl rfl rfl underlying28 rfl aT rfl rfl ?_;exact⟨rfl,z⟩
set_option maxRecDepth 512
set_option maxRecDepth 100000 in
theorem Ur(R G c k:Nat)(x:Ff)(w:Wd)(h:KR w R G c (4+3*k))(hx:jf[k]?=some x):
 Cs prog 134 #[.pointer R,.string x.nm] w (DM (.iface x.ty x.v) R G c (5+3*k) w):=by
 have hR:=h.ce.lt
 match k,hx with
 |0,hx=>
  cases hx;have d:=ah (OL R G c 4 _ w h rfl rfl (by kernel_rfl) (by decide));clear h;simp only[ym];go_in;go_wp2_with fail;refine d.out.mono ?_;rintro e i ⟨rfl,b,a⟩;have g:=ah b;have f:=ah a;clear b a;go_wp2;go_ret;exact⟨rfl,g,f⟩
 |1,hx=>
  cases hx;have d:=ah (OL R G c 7 _ w h rfl rfl (by kernel_rfl) (by decide));clear h;simp only[lz];go_in;go_wp2_with fail;refine d.out.mono ?_;rintro e i ⟨rfl,b,a⟩;have g:=ah b;have f:=ah a;clear b a;go_wp2;go_ret;exact⟨rfl,g,f⟩
 |2,hx=>
  cases hx
  have d:=ah fun(W:Wd) (b1:Bl w w W) (j:ai W w 3 #[(1:Int)]) (a:ai W (w+1) 3 #[(48:Int)])=>
   Jt 222 #[.pointer w,.pointer (w+1:Nat)] (enters_of func222 (by kernel_rfl) rfl) R G c 10 _ W (h.ae b1) rfl rfl
    fun n l=>kof1 2 1 48 w (w+1) n (by have:=(j.ae l j.lt).cell 0;simpa using this) (by have:=(a.ae l a.lt).cell 0;simpa using this) rfl
  clear h;simp only[ph];go_in;go_wp2_with fail;refine(kof 1 48 w).mono ?_;rintro e o ⟨rfl,b1,h1,h2⟩;have p:=ah (d o b1 h1 h2);have m:=ah (cg.aX (bl:=R) b1 (by omega));clear b1 h1 h2 d;go_wp2_with fail;refine p.out.mono ?_;rintro e i ⟨rfl,b,a⟩;have g:=ah b;have f:=ah a;clear b a;go_wp2;go_ret;exact⟨rfl,m.trans g,f⟩
 |3,hx=>
  cases hx;have d:=ah (RO R G c 13 _ w h rfl rfl rfl);clear h;simp only[sQ];go_in;go_wp2_with fail;refine d.out.mono ?_;rintro e i ⟨rfl,b,a⟩;have g:=ah b;have f:=ah a;clear b a;go_wp2;go_ret;exact⟨rfl,g,f⟩
theorem RJ(A:OA)(k c:Nat)(x:Ff)(t:Tk)(B D:Nat)(w:Wd)(hx:jf[k]?=some x)(h:TJ w A k (jf.take k))(h1:w.cell? B=some (.int .i64 1))(h2:w.cell? D=some (.slice A k c))(ht:t.tx=x.nm)(f:B<w)(g:D<w):
 Cs prog 131 #[F7 t,.pointer B,.pointer D] w (an true w):=by
 have a:=ah fun(W:Wd) (d:Bl w w W)=>kopen A k c x W hx (h.ae d);rw[<-ht]at a;clear hx h ht;go_in;go_wp2_with fail;refine(a _ (aA)).mono ?_;rintro e i ⟨rfl,b2⟩;have b:=ah b2;clear b2;go_wp2;go_ret;exact⟨rfl,aa (aA) b⟩
set_option maxRecDepth 100000 in
theorem DS(hx:jf[k]?=some x):∃(v:Vl) (b:Bool),∀w,(Instr.typeAssert (.iface x.ty x.v) 152 225 true).run prog w=.ok (.tuple #[v,b]) w:=by
 match k,hx with
 |0,hx=>cases hx;exact⟨_,_,fun w=>rfl⟩
 |1,hx=>cases hx;exact⟨_,_,fun w=>rfl⟩
 |2,hx=>cases hx;exact⟨_,_,fun w=>rfl⟩
 |3,hx=>cases hx;exact⟨_,_,fun w=>rfl⟩
theorem RK(k m:Nat)(x y:Ff)(P:Nat)(w:Wd)(hx:jf[k]?=some x)(a:jf[m]?=some y)(h:ai w P 154 (AM x)):
 Cs prog 135 #[.agg (AM y),.pointer P] w (an false w):=by
 obtain⟨v,b,g⟩:=DS a;obtain⟨l,b2,i⟩:=DS hx;have c:=ah fun W=>ON y.nm W (rl a);have d:=h.cell 0;have f:=h.cell 1;have j:=h.lt;simp at d f;clear h hx a;go_in;go_wp2_with(first|rw[g]|rw[i]);refine(c _).mono ?_;rintro e w' ⟨rfl,rfl⟩;go_wp2;go_ret;exact⟨rfl,aA⟩
set_option maxRecDepth 100000 in
theorem RM(A:OA)(k c:Nat)(x:Ff)(P:Nat)(w:Wd)(hx:jf[k]?=some x)(h:TJ w A k (jf.take k))(e:ai w P 154 (AM x)):
 Cs prog 229 #[.slice A k c,.func (.func 135) #[] #[.pointer P]] w (an (-1:Int) w):=by
 have v:k<4:=by have:=(cA.1 hx).1;simpa [jf]using this
 have u:∀args w,(callFunc 135 args).run prog w=.ok (.enter 135 args) w:=enters_of func135 (by kernel_rfl) rfl;have o:=ah h;have n:=ah fun(W:Wd) (q:Bl w w W) (m:Nat) (y:Ff) (a:jf[m]?=some y)=>RK k m x y P W hx a (e.ae q e.lt);clear h hx e;go_in;go_wp2
 go_loopw [8] (fun i wr=>∃m:Nat,m<=k/\i=.int .i64 m/\Bl w w wr) (fun i _=>k-(intOf i).toNat)
 case atStart=>exact⟨0,by omega,rfl,cC _ _⟩
 case round=>
  obtain⟨m,z,rfl,j⟩:=hrel;have d:=ah j;clear j;by_cases s:m<k
  ·obtain⟨b,off,y,rfl,C,a,f⟩:=(o.ae d).at_ s;have l:jf[m]?=some y:=by rw[List.getElem?_take]at a;split at a<;>simp_all
   have r:=ah (n wr d m y l);have g:=f 0 _ rfl;have p:=f 1 _ rfl;simp only[fU]at g;clear f a l;go_wp2_with fail;refine av r fun B b2=> ?_;have t:=ah (aa d b2);clear b2 g p;go_wp2_with fail;exact⟨⟨m+1,by omega,by go_num,t⟩,by simp[intOf];omega⟩
  ·obtain rfl:m=k:=by omega
   go_wp2;go_ret;exact⟨rfl,d⟩
theorem Uj(A:OA)(k c:Nat)(x:Ff)(P:Nat)(w:Wd)(hx:jf[k]?=some x)(h:TJ w A k (jf.take k))(a:ai w P 154 (AM x)):
 Cs prog 137 #[.slice A k c,.func (.func 135) #[] #[.pointer P]] w (an false w):=by
 have d:=ah (RM A k c x P w hx h a);clear h hx a;go_in;go_wp2_with fail;refine av d fun e b2=> ?_;have b:=ah b2;clear b2;go_wp2;go_ret;exact⟨rfl,b⟩
def Qq(x:Ff)(R G c k:Nat)(w:Wd)(e:Ed)(w':Wd):Prop:=e=.returned (.agg (AM x))/\cg R w w'/\KR w' R G c k
set_option maxRecDepth 100000 in
theorem Ul(A:Option Addr)(k d R G c:Nat)(x:Ff)(w:World)(hx:jf[k]?=some x)(h:TJ w A k (jf.take k))(hr:KR w R G c (2+3*k))(hA:∀b off,A=some ⟨b,off,none⟩->b≠R):
 Calls prog 73 #[.pointer (some ⟨R,0,none⟩),.int .i64 1,.slice A k d] w (Qq x R G c (5+3*k) w):=by
 have hk:k<4:=by have:=(List.getElem?_eq_some_iff.1 hx).1;simpa [jf]using this
 obtain⟨t,ht,hkd,htx⟩:∃t,jt[2+3*k]?=some t/\t.kd=1/\t.tx=x.nm:=by
  match k,hx with
  |0,hx=>cases hx;exact⟨_,rfl,rfl,rfl⟩
  |1,hx=>cases hx;exact⟨_,rfl,rfl,rfl⟩
  |2,hx=>cases hx;exact⟨_,rfl,rfl,rfl⟩
  |3,hx=>cases hx;exact⟨_,rfl,rfl,rfl⟩
 obtain⟨s,hs,hsk,hsx⟩:∃s,jt[2+3*k+1]?=some s/\s.kd=5/\s.tx=⟨#[61]⟩:=by
  match k,hx with
  |0,hx=>exact⟨_,rfl,rfl,rfl⟩
  |1,hx=>exact⟨_,rfl,rfl,rfl⟩
  |2,hx=>exact⟨_,rfl,rfl,rfl⟩
  |3,hx=>exact⟨_,rfl,rfl,rfl⟩
 obtain⟨V,K⟩:∃V,V=((w.alloc (.cells #[.int .i64 1] 3)).alloc (.cells #[.slice A k d] 150)).alloc (.cells #[.string ⟨#[]⟩,.nilIface] 154):=⟨_,rfl⟩;have bV:Below w.heap.size w V:=K▸(aC).alloc (by simp;omega) _;have q:ai V w.heap.size 3 #[.int .i64 1]:=K▸((ai.new _ _ _).alloc _).alloc _;have o:ai V (w.heap.size+1) 150 #[.slice A k d]:=by rw[K];have:=(ai.new (w.alloc (.cells #[.int .i64 1] 3)) 150 #[.slice A k d]).alloc (.cells #[.string ⟨#[]⟩,.nilIface] 154);simpa using this
 have L:ai V (w.heap.size+2) 154 #[.string ⟨#[]⟩,.nilIface]:=by rw[K];have:=ai.new ((w.alloc (.cells #[.int .i64 1] 3)).alloc (.cells #[.slice A k d] 150)) 154 #[.string ⟨#[]⟩,.nilIface];simpa using this
 have HT:=ah (BC 131 #[.pointer (some ⟨w.heap.size,0,none⟩),.pointer (some ⟨w.heap.size+1,0,none⟩)] (enters_of func131 (by kernel_rfl) rfl) R G c _ t 1 V (hr.ae bV) ht hkd
  fun W j=>RJ A k d x t w.heap.size (w.heap.size+1) W hx ((h.ae bV).ae j) (by have:=(q.ae j q.lt).cell 0;simpa using this) (by have:=(o.ae j o.lt).cell 0;simpa using this) htx (q.ae j q.lt).lt (o.ae j o.lt).lt)
 have hR:=hr.ce.lt;have hgw:=hr.lt;have HV:=ah (cg.aX (bl:=R) bV (by omega));have HK1:=ah o;have M:=ah L;have HH:=ah h;have HX:=ah hx;have HA:=ah hA;have Q:=ah fun(W:World) (j:KR W R G c (2+3*k+1))=>ksign R G c _ s W j hs hsk;rw[hsx]at Q;clear h hr bV q o L hx hA ht hs;go_enter func73,ntmps73;go_wp2_with fail;rw[<-K];clear K;refine HT.out.mono ?_;rintro e I ⟨rfl,s2,kr2⟩;obtain⟨U,hU,bU,kU⟩:=az I #[.int .i64 t.kd,.string t.tx,.int .i64 t.nu,.int .i64 t.at_] 211;have h2:=s2.size;have hVz:=M.out.lt;have HSU:=ah (s2.ae bU (by omega));have T:=ah kU;have S:=ah (Q.out U (kr2.ae bU));have h5:I.heap.size+1=U.heap.size:=by rw[hU];simp
 have h5':I.heap.size<U.heap.size:=by omega
 clear s2 kr2 bU kU h5;rw[hkd,htx]at hU T;go_wp2_with(rw[<-hU];clear hU);refine S.out.mono ?_;rintro e a ⟨rfl,s3,m⟩;have hR3:=m.ce.lt;have hG3:=m.lt;have hGR:=m.ne;have O:=ah (HSU.out.trans s3);have HK3:=ah m;have l:=ah (s3.ce T.out (by omega));have h3:=s3.size;have y1:=m.ce.cell 1;simp at y1;have v:=ah fun(W:World) (j:KR W R G c (4+3*k))=>Ur R G c k x W j HX.out;have e4:2+3*k+1+1=4+3*k:=by omega
 have N:Hid (KR a R G c (4+3*k)):=by show KR _ _ _ _ _;rw[<-e4];exact HK3.out
 clear s3 m e4;go_upto_region 6 with fail
 go_cut [10] (fun Z wr=>∃P,Z=.pointer (some ⟨P,0,none⟩)/\V.heap.size<=P/\ai wr P 154 (AM x)/\cg R V wr/\KR wr R G c (5+3*k))
 case first=>
  have q:cg R a a.drew/\ai a.drew I.heap.size 211 #[.int .i64 1,.string x.nm,.int .i64 t.nu,.int .i64 t.at_]:=⟨zD (cg.refl _ _),l.out⟩;refine bW (fun W=>cg R a W/\ai W I.heap.size 211 #[.int .i64 1,.string x.nm,.int .i64 t.nu,.int .i64 t.at_]) (fun _=>True) #[] [5,7,8] 4 [0,1,2,3,4,5,6,7,8] (by kernel_rfl) (by kernel_rfl) q trivial ?_
  iterate 5
   refine lqe rfl (fun _ _ _ _ h=>h) ?_;apply Exists.intro;refine⟨fun W j _=> ?_,?_⟩
   ·have c1:=j.2.cell 1;simp at c1;go_simp
    try rfl
  refine mP 4 rfl ?_;refine wpAnyH_all (rs:=[5,7]) (by kernel_rfl) (by simp) ?_;intro i hi;simp only[List.mem_cons,List.not_mem_nil,or_false]at hi;rcases hi with rfl|rfl
  ·refine ea 134 #[.pointer (some ⟨R,0,none⟩),.string x.nm] (some 32) rfl rfl (a8 rfl _) (by go_simp) ?_;refine(v.out a.drew (N.out.ae (Below.refl _ _).drew)).mono ?_;rintro e W ⟨rfl,H,n⟩;have f:=H.size;have p:cg R a W:=(zD (cg.refl R a)).trans H;have o:cg R a W/\ai W I.heap.size 211 #[.int .i64 1,.string x.nm,.int .i64 t.nu,.int .i64 t.at_]:=⟨p,p.ce l.out (by omega)⟩;have hw3:a.heap.size<=W.heap.size:=p.size;refine⟨_,rfl,o,?_⟩;refine cx (i:=6) (some 33) rfl rfl (by kernel_rfl) rfl (fun _ _ _ _ h=>h) o ?_;apply Exists.intro;refine⟨fun W j=> ?_,?_⟩
   ·go_simp
    try rfl
   refine dg (i:=7) (by kernel_rfl) (eS (.pointer (some ⟨W.heap.size,0,none⟩)) (W.alloc (.cells #[.string ⟨#[]⟩,.nilIface] 154)) (some 10) rfl rfl (a8 rfl _) (by go_simp) fun C E=> ?_);have b2:Below W.heap.size W C:=E▸aA;have r:=p.ae b2 (by omega);have J:ai C W.heap.size 154 #[.string ⟨#[]⟩,.nilIface]:=E▸ai.new _ _ _;refine⟨⟨r,r.ce l.out (by omega)⟩,?_⟩;refine dg (i:=8) (by kernel_rfl) (cv 154 (.tmp 10) (.tmp 33) W.heap.size (AM x) rfl rfl rfl (a8 rfl _) (by go_simp) (by go_simp) J pZ rfl rfl ?_);intro D f;have y:Hid (ai D W.heap.size 154 (AM x)):=by show ai _ _ _ _;rw[f];exact ai.row J _
   have u:cg R a D:=f▸rx r (by omega) (by omega) _;have b4:Below W.heap.size W D:=f▸aH b2 (Nat.le_refl _) _;refine⟨⟨u,u.ce l.out (by omega)⟩,?_⟩;refine wpAnyH_done (by kernel_rfl) ?_ _;have z:=ah (O.out.trans u);have B:=ah (n.ae b4);have F:V.heap.size<=W.heap.size:=by omega
   clear q o p r u b2 b4 J f E H n;simp only[Act.put,aE,aF,aG,List.getElem_toArray,List.getElem_cons_succ,List.getElem_cons_zero];go_wp2_with fail;go_meet;exact⟨W.heap.size,rfl,F,y.out,z.out,B.out⟩
  ·refine eS (.pointer (some ⟨a.heap.size,0,none⟩)) (a.drew.alloc (.cells #[.string ⟨#[]⟩,.nilIface] 154)) (some 10) rfl rfl (a8 rfl _) (by go_simp) fun W j=> ?_;have b1:Below a.heap.size a W:=j▸(Below.refl _ _).drew.alloc (Nat.le_refl _) _;have z1:ai W a.heap.size 154 #[.string ⟨#[]⟩,.nilIface]:=j▸ai.new a.drew _ _;have p:cg R a W:=cg.aX b1 (by omega);refine⟨⟨p,p.ce l.out (by omega)⟩,?_⟩;refine dg (i:=5) (by kernel_rfl) (ea 134 #[.pointer (some ⟨R,0,none⟩),.string x.nm] (some 32) rfl rfl (a8 rfl _) (by go_simp) ?_);refine(v.out W (N.out.ae b1)).mono ?_;rintro e C ⟨rfl,H,n⟩;have r:=p.trans H;have J:=H.ce z1 (by omega);have L:cg R a C/\ai C I.heap.size 211 #[.int .i64 1,.string x.nm,.int .i64 t.nu,.int .i64 t.at_]:=⟨r,r.ce l.out (by omega)⟩;refine⟨_,rfl,L,?_⟩;refine cx (i:=6) (some 33) rfl rfl (by kernel_rfl) rfl (fun _ _ _ _ h=>h) L ?_;apply Exists.intro;refine⟨fun W j=> ?_,?_⟩
   ·go_simp
    try rfl
   refine dg (i:=8) (by kernel_rfl) (cv 154 (.tmp 10) (.tmp 33) a.heap.size (AM x) rfl rfl rfl (a8 rfl _) (by go_simp) (by go_simp) J pZ rfl rfl ?_);intro D f;have y:Hid (ai D a.heap.size 154 (AM x)):=by show ai _ _ _ _;rw[f];exact ai.row J _
   have u:cg R a D:=f▸rx r (Nat.le_refl _) (by omega) _;have o4:aU a.heap.size C D:=f▸⟨by rw[setRow_size];exact Nat.le_refl _,fun b hb hn=>setRow_other C a.heap.size _ b hn⟩;have B:=ah (n.only o4 (by omega) (by omega));refine⟨⟨u,u.ce l.out (by omega)⟩,?_⟩;refine wpAnyH_done (by kernel_rfl) ?_ _;have z:=ah (O.out.trans u);have F:V.heap.size<=a.heap.size:=by omega
   clear q L p r u b1 z1 J o4 f j H n;simp only[Act.put,aE,aF,aG,List.getElem_toArray,List.getElem_cons_succ,List.getElem_cons_zero];go_wp2_with fail;go_meet;exact⟨a.heap.size,rfl,F,y.out,z.out,B.out⟩
 case rest=>
  obtain⟨P,rfl,hP,hF,Y,hK⟩:=hcut;have hH:TJ wc A k (jf.take k):=(HV.out.trans Y).cells HH.out fun _=>HA.out;have HCt:=ah (Uj A k d x P wc HX.out hH hF);have y3:=hK.ce.cell 3;have yA:=(Y.ce HK1.out (by omega)).cell 0;simp at y3 yA;have HZ:=ah (Y.ce M.out (by omega));have HF:=ah hF;have HS:=ah (HV.out.trans Y);have HK:=ah hK;clear hH hF Y hK y1;go_wp2_with fail;refine av HCt.out fun w5 b5=> ?_;have HF5:=ah (HF.out.ae b5 HF.out.lt);have X:=ah (HZ.out.ae b5 HZ.out.lt);have HS5:=ah (HS.out.ae b5 (by have:=HS.out.size;omega));have HK5:=ah (HK.out.ae b5);clear b5;go_wp2_with(first|refine cr rfl _ _ rfl HF5.out rfl underlying154 rfl pZ rfl ?_|refine dp rfl _ _ _ rfl X.out rfl rfl pZ rfl rfl rfl ?_);refine j6 (cs:=AM x) rfl (ai.row X.out _) rfl underlying154 rfl pZ rfl rfl ⟨rfl,?_,?_⟩
  ·exact rx HS5.out (by omega) (by omega) _
  ·exact HK5.out.only (g:=w.heap.size+2) ⟨by rw[setRow_size];exact Nat.le_refl _,fun b hb hn=>setRow_other _ _ _ b hn⟩ (by omega) (by have:=hgw;omega)
set_option maxRecDepth 100000
def kC(k:Nat):Array Vl:= #[(1:Int),(),.string ⟨#[97]⟩,.string (if 0<k then⟨#[117]⟩else⟨#[]⟩),.string (if 1<k then⟨#[120]⟩else⟨#[]⟩),(),.slice none 0 0,(),(),(),(),false,(if 3<k then 1 else 0:Int),(decide (3<k):Bool),.slice none 0 0,(),(if 2<k then 2 else 0:Int),()]
theorem QQ(hx:jf[k]?=some x):(∃v,∀w,(Instr.typeAssert (.iface x.ty x.v) 152 230 true).run prog w=.ok (.tuple #[v,false]) w)/\∃v,∀w,(Instr.typeAssert (.iface x.ty x.v) 152 232 true).run prog w=.ok (.tuple #[v,false]) w:=by
 match k,hx with
 |0,hx=>cases hx;exact⟨⟨_,fun w=>rfl⟩,_,fun w=>rfl⟩
 |1,hx=>cases hx;exact⟨⟨_,fun w=>rfl⟩,_,fun w=>rfl⟩
 |2,hx=>cases hx;exact⟨⟨_,fun w=>rfl⟩,_,fun w=>rfl⟩
 |3,hx=>cases hx;exact⟨⟨_,fun w=>rfl⟩,_,fun w=>rfl⟩
def PutP(C k:Nat)(w:Wd)(e:Ed)(w':Wd):Prop:=e=.returned (.tuple #[])/\cg C w w'/\ai w' C 95 (kC k)
theorem kput(C k:Nat)(x:Ff)(w:Wd)(hx:jf[k]?=some x)(h:ai w C 95 (kC k)):Cs prog 74 #[.pointer C,.agg (AM x)] w (PutP C (k+1) w):=by
 obtain⟨⟨y,h1⟩,z,h2⟩:=QQ hx;have hC:=h.lt;obtain⟨V,a⟩:=nm (w.alloc (.cells (AM x) 154));have j:Bl w w V:=a▸aA;have b:ai V C 95 (kC k):=h.ae j hC;have l:ai V w 154 (AM x):=a▸ai.new _ _ _;have t:=b.ao 3;have u:=b.ao 4;have D:=b.ao 12;have B:=b.ao 13;have A:=b.ao 16;have m:=b.cell 3;have n:=b.cell 4;have q:=b.cell 12;have s:=b.cell 13;have r:=b.cell 16;have e:=l.cell 0;have f:=l.cell 1;simp[kC]at m n q s r e f;have g:=ah b;have i:=ah (cg.aX (bl:=C) j (by omega));clear h j b l
 match k,hx with
 |0,hx=>
  cases hx;have c:∀w,(Instr.typeAssert (.iface 233 (.string ⟨#[117]⟩)) 152 233 true).run prog w=.ok (.tuple #[.string ⟨#[117]⟩,true]) w:=fun w=>rfl;obtain⟨p,d⟩:∃v,∀w,(Instr.typeAssert (.iface 233 (.string ⟨#[117]⟩)) 152 225 true).run prog w=.ok (.tuple #[v,false]) w:=⟨_,fun w=>rfl⟩;simp only[ym]at a e f⊢;go_in;go_wp2_with(first|(rw[<-a];clear a)|rw[h1]|rw[h2]|rw[c]|rw[d]);go_end0;exact⟨rfl,i.trans (cg.set 3 _),g.set 3 _⟩
 |1,hx=>
  cases hx;have c:∀w,(Instr.typeAssert (.iface 233 (.string ⟨#[120]⟩)) 152 233 true).run prog w=.ok (.tuple #[.string ⟨#[120]⟩,true]) w:=fun w=>rfl;obtain⟨p,d⟩:∃v,∀w,(Instr.typeAssert (.iface 233 (.string ⟨#[120]⟩)) 152 225 true).run prog w=.ok (.tuple #[v,false]) w:=⟨_,fun w=>rfl⟩;simp only[lz]at a e f⊢;go_in;go_wp2_with(first|(rw[<-a];clear a)|rw[h1]|rw[h2]|rw[c]|rw[d]);go_end0;exact⟨rfl,i.trans (cg.set 4 _),g.set 4 _⟩
 |2,hx=>
  cases hx;obtain⟨o,c⟩:∃v,∀w,(Instr.typeAssert (.iface 225 (2:Int)) 152 233 true).run prog w=.ok (.tuple #[v,false]) w:=⟨_,fun w=>rfl⟩;have d:∀w,(Instr.typeAssert (.iface 225 (2:Int)) 152 225 true).run prog w=.ok (.tuple #[(2:Int),true]) w:=fun w=>rfl;simp only[ph]at a e f⊢;go_in;go_wp2_with(first|(rw[<-a];clear a)|rw[h1]|rw[h2]|rw[c]|rw[d]);go_end0;exact⟨rfl,i.trans (cg.set 16 _),g.set 16 _⟩
 |3,hx=>
  cases hx;obtain⟨o,c⟩:∃v,∀w,(Instr.typeAssert (.iface 225 (1:Int)) 152 233 true).run prog w=.ok (.tuple #[v,false]) w:=⟨_,fun w=>rfl⟩;have d:∀w,(Instr.typeAssert (.iface 225 (1:Int)) 152 225 true).run prog w=.ok (.tuple #[(1:Int),true]) w:=fun w=>rfl;simp only[sQ]at a e f⊢;go_in;go_wp2_with(first|(rw[<-a];clear a)|rw[h1]|rw[h2]|rw[c]|rw[d]);go_end0;exact⟨rfl,(i.trans (cg.set 12 _)).trans (cg.set 13 _),(g.set 12 _).set 13 _⟩
theorem OK(w:Wd):Cs prog 75 #[.agg (kC 4)] w (an false w):=by
 simp[kC];go_in;go_wp2;go_ret;exact⟨rfl,aA⟩
def kD(g:Nat):Array Vl:= #[(1:Int),(),.string ⟨#[97]⟩,.string ⟨#[117]⟩,.string ⟨#[120]⟩,(1:Int),.slice g 1 1,(),(),(),(),false,(1:Int),true,.slice none 0 0,(),(2:Int),()]
theorem RQ(C:Nat)(w:Wd)(h:ai w C 95 (kC 4)):Cs prog 77 #[.pointer (some ⟨C,5,none⟩),(2:Int),(1:Int)] w fun e w'=>e=.returned (.tuple #[])/\cg C w w'/\ai w' C 95 (kD w)/\ai w' w 139 #[(2:Int),(1:Int)]:=by
 have b:=h.cell 5;have c:=h.cell 6;have d:=h.cell 7;have f:=h.cell 9;have g:=h.ao 5;have i:=h.ao 6;simp[kC]at b c d f;have hC:=h.lt;have a:=ah h;clear h;go_in;go_wp2;go_end0;refine⟨rfl,((cg.set 5 _).trans (cg.set 6 _)).alloc _ (by simp;omega),((a.set 5 _).set 6 _).alloc _,?_⟩;have:=ai.new ((w.setCell ⟨C,5,none⟩ (1:Int)).setCell ⟨C,6,none⟩ (.slice w 1 1)) 139 #[(2:Int),(1:Int)];simpa using this
set_option maxRecDepth 512
def yo:List ByteArray:=[⟨#[]⟩,jX,⟨#[99,97,110,99,101,108]⟩,⟨#[104,111,108,100]⟩,⟨#[114,101,108,101,97,115,101]⟩,⟨#[97,108,116,101,114]⟩,⟨#[114,101,115,105,122,101]⟩,⟨#[100,114,97,105,110]⟩,⟨#[114,101,115,117,109,101]⟩,⟨#[102,97,105,108]⟩,⟨#[114,101,115,101,114,118,101]⟩,⟨#[117,110,114,101,115,101,114,118,101]⟩,⟨#[115,116,97,116,117,115]⟩]
def yn:Array Vl:=(yo.map Value.string).toArray
theorem P7:(prog.info? 213).map (·.size)=some 13:=by kernel_rfl
theorem Ut(w:Wd):Cs prog 121 #[] w (an (.agg yn) w):=by
 go_in;go_wp2;refine j6 (cs:=yn) rfl (ai.new _ _ _) rfl underlying213 rfl P7 rfl rfl ?_;exact⟨rfl,aA⟩
set_option maxRecDepth 100000 in
theorem Um(t:Tk)(B:Nat)(w:Wd)(h:ai w B 213 yn)(ht:t.tx=jX):Cs prog 123 #[F7 t,.pointer B] w (an true w):=by
 obtain⟨V,f,a,g⟩:=az w #[t.kd,.string t.tx,t.nu,t.at_] 211;have k:=ah fun(W:Wd) (b:Bl V V W)=>sZ B 13 13 yo jX 1 W (zW (l:=yo) (h.ae (aa a b) h.lt) rfl) (by omega) rfl (by decide);have d:=ah g;have j:=ah a;have q:=ah (h.ae a h.lt);clear a h g;have m:=ah ht;clear ht;go_in;go_wp2_with fail;rw[<-f];clear f;refine aw (fun w'=>Bl V V w') (by kernel_rfl) (by kernel_rfl) bR.drew ?_
 repeat(first
  |(refine ee 124 #[.slice B 13 13,.string jX] (1:Int) ?_ (fun w'=> ?_) (fun w' c=>(k w' c).mono fun e r ⟨p,o⟩=>⟨p,o▸c⟩) ?_
    ·rfl
    ·simp[go_sem]
    simp only[aP])
  |(refine cw rfl ⟨?_,fun w' c=> ?_,?_⟩
    rotate_left
    ·have i:=(d.ae c d.lt).cell 1;simp[m.out]at i;simp[go_sem,i]
     try rfl
    simp only[aP]))
 refine bM ?_;intro W b;have n:=ah b;clear b;go_wp2;go_ret;exact⟨rfl,aa j n⟩
theorem Un(t:Tk)(w:Wd)(hn:jv t.tx=true)(hs:t.tx.size<=1000000):Cs prog 126 #[F7 t] w (an true w):=by
 have a:=ah fun W=>mY t.tx W hs;rw[hn]at a;clear hn hs;go_in;go_wp2_with fail;refine(a _).mono ?_;rintro e c ⟨rfl,b2⟩;have b:=ah b2;clear b2;go_wp2;go_ret;exact⟨rfl,aa (aA) b⟩
abbrev kW0:Array Vl:= #[.string ⟨#[]⟩,.string ⟨#[]⟩,.string ⟨#[]⟩,.string ⟨#[]⟩,.string ⟨#[]⟩,.string ⟨#[]⟩,.string ⟨#[]⟩,.string ⟨#[]⟩,.string ⟨#[]⟩,.string ⟨#[]⟩,.string ⟨#[]⟩,.string ⟨#[]⟩,.string ⟨#[]⟩]
def Td:Array Vl:= #[(1:Int),(),.string ⟨#[]⟩,.string ⟨#[]⟩,.string ⟨#[]⟩,(),.slice none 0 0,(),(),(),(),false,(),false,.slice none 0 0,(),(),()]
abbrev tkX(t:Tk):Array Vl:= #[t.kd,.string t.tx,t.nu,t.at_]
def MH(R G c:Nat)(w:Wd)(e:Ed)(w':Wd):Prop:=e=.returned (.agg (kC 0))/\cg R w w'/\KR w' R G c 2
set_option maxRecDepth 100000 in
theorem khead(R G c:Nat)(w:World)(Q:KR w R G c 0):Calls prog 72 #[.pointer (some ⟨R,0,none⟩)] w (MH R G c w):=by
 obtain⟨V,hV⟩:∃V,V=w.alloc (.cells wT 95):=⟨_,rfl⟩;have bV:Below w.heap.size w V:=by rw[hV];exact aA
 have zV:ai V w.heap.size 95 wT:=by rw[hV];exact ai.new _ _ _
 have HR:=ah (Q.ae bV);have HZ:=ah zV;have hR:=Q.ce.lt;have hG:=Q.lt;have hGR:=Q.ne;have hVs:=zV.lt;have HV:=ah (cg.aX (bl:=R) bV (by omega));clear Q bV zV;go_enter func72,ntmps72;go_wp2_with(rw[<-hV];clear hV);refine(Ut V).mono ?_;rintro e j ⟨rfl,b1⟩;have HN:Hid (ai (j.alloc (.cells kW0 213)) j.heap.size 213 kW0):=ai.new _ _ _;obtain⟨X,hX⟩:∃X,X=(j.alloc (.cells kW0 213)).setRow j.heap.size yn:=⟨_,rfl⟩;have bX:Below j.heap.size j X:=by rw[hX];exact aD
 have kX:ai X j.heap.size 213 yn:=by rw[hX];exact ai.row HN.out _
 have n:=aa b1 bX;have h1:=b1.size;have HT:=ah (BC 123 #[.pointer (some ⟨j.heap.size,0,none⟩)] (enters_of func123 (by kernel_rfl) rfl) R G c 0 _ 1 X (HR.out.ae n) rfl rfl fun W o=>Um _ j.heap.size W (kX.ae o kX.lt) rfl);have D:=ah kX;have HSX:=ah ((HV.out).ae n (by omega));have HZX:=ah (HZ.out.ae n HZ.out.lt);clear b1 bX kX n;go_upto_region 2 with(first|(rw[<-hX];clear hX HN)|refine dp rfl _ _ _ rfl HN.out rfl rfl P7 rfl rfl rfl ?_)
 go_wp2_with fail;refine HT.out.mono ?_;rintro e t ⟨rfl,Y,S⟩;have h2:=Y.size;have hXs:=D.out.lt;obtain⟨U,hU⟩:∃U,U=t.alloc (.cells #[.int .i64 1,.string jX,.int .i64 0,.int .i64 0] 211):=⟨_,rfl⟩;have P:Below t.heap.size t U:=by rw[hU];exact aA
 have tU:ai U t.heap.size 211 #[.int .i64 1,.string jX,.int .i64 0,.int .i64 0]:=by rw[hU];exact ai.new _ _ _
 have hUs:=tU.lt;have m:=ah tU;have J:=ah ((Y.ce D.out (by omega)).ae P (by omega));have N:=ah ((Y.ce HZX.out (by omega)).ae P (by omega));have HSU:=ah ((HSX.out.trans Y).ae P (by omega));have E:=ah (S.ae P);clear Y S P tU;go_upto_region 5 with(rw[<-hU];clear hU)
 go_cut [6] (fun Z wr=>∃C,Z=.pointer (some ⟨C,0,none⟩)/\U.heap.size<=C/\ai wr C 95 Td/\Below U.heap.size U wr)
 case first=>
  have HI:=ah fun(W:World) (o:Below U.heap.size U W)=>sZ (some ⟨j.heap.size,0,none⟩) 13 13 yo jX 1 W (zW (l:=yo) (J.out.ae o J.out.lt) rfl) (by omega) rfl (by decide);have r:Below U.heap.size U U.drew:=(Below.refl _ _).drew;refine bW (fun W=>Below U.heap.size U W) (fun _=>True) #[] [3,5,6] 4 [0,1,2,3,4,5,6] (by kernel_rfl) (by kernel_rfl) r trivial ?_
  iterate 3
   refine lqe rfl (fun _ _ _ _ h=>h) ?_;apply Exists.intro;refine⟨fun W o _=> ?_,?_⟩
   ·have c1:=(m.out.ae o m.out.lt).cell 1;simp at c1;go_simp
    try rfl
  refine mP 4 rfl ?_;refine wpAnyH_all (rs:=[3,5]) (by kernel_rfl) (by simp) ?_;intro i hi;simp only[List.mem_cons,List.not_mem_nil,or_false]at hi;rcases hi with rfl|rfl
  ·refine ea 124 #[.slice (some ⟨j.heap.size,0,none⟩) 13 13,.string jX] (some 21) rfl rfl (a8 rfl _) (by go_simp) ?_;refine(HI.out U.drew r).mono ?_;rintro e W ⟨rfl,rfl⟩;refine⟨_,rfl,r,?_⟩;refine cx (i:=4) (some 22) rfl rfl (by kernel_rfl) rfl (fun _ _ _ _ h=>h) r ?_;apply Exists.intro;refine⟨fun W o=> ?_,?_⟩
   ·go_simp
    try rfl
   refine dg (i:=5) (by kernel_rfl) (eS (.pointer (some ⟨U.heap.size,0,none⟩)) (U.drew.alloc (.cells wT 95)) (some 6) rfl rfl (a8 rfl _) (by go_simp) fun p a=> ?_);have b2:Below U.heap.size U p:=by rw[a];exact r.alloc (Nat.le_refl _) _
   have y:ai p U.heap.size 95 wT:=by rw[a];exact ai.new U.drew _ _
   refine⟨b2,?_⟩;refine dg (i:=6) (by kernel_rfl) (cv 95 (.tmp 6) (.tmp 22) U.heap.size Td rfl rfl rfl (a8 rfl _) (by go_simp) (by go_simp;rfl) y fi rfl rfl ?_);intro O d;have v:Hid (ai O U.heap.size 95 Td):=by show ai _ _ _ _;rw[d];exact ai.row y _
   have b4:Below U.heap.size U O:=by rw[d];exact aH b2 (Nat.le_refl _) _
   refine⟨b4,?_⟩;refine wpAnyH_done (by kernel_rfl) ?_ _;have u:=ah b4;clear r b2 y b4 d a;simp only[Act.put,aE,aF,aG,List.getElem_toArray,List.getElem_cons_succ,List.getElem_cons_zero];go_wp2_with fail;go_meet;exact⟨U.heap.size,rfl,Nat.le_refl _,v.out,u.out⟩
  ·refine eS (.pointer (some ⟨U.heap.size,0,none⟩)) (U.drew.alloc (.cells wT 95)) (some 6) rfl rfl (a8 rfl _) (by go_simp) fun p a=> ?_;have b2:Below U.heap.size U p:=by rw[a];exact r.alloc (Nat.le_refl _) _
   have y:ai p U.heap.size 95 wT:=by rw[a];exact ai.new U.drew _ _
   refine⟨b2,?_⟩;refine dg (i:=3) (by kernel_rfl) (ea 124 #[.slice (some ⟨j.heap.size,0,none⟩) 13 13,.string jX] (some 21) rfl rfl (a8 rfl _) (by go_simp) ?_);refine(HI.out p b2).mono ?_;rintro e W ⟨rfl,rfl⟩;refine⟨_,rfl,b2,?_⟩;refine cx (i:=4) (some 22) rfl rfl (by kernel_rfl) rfl (fun _ _ _ _ h=>h) b2 ?_;apply Exists.intro;refine⟨fun W o=> ?_,?_⟩
   ·go_simp
    try rfl
   refine dg (i:=6) (by kernel_rfl) (cv 95 (.tmp 6) (.tmp 22) U.heap.size Td rfl rfl rfl (a8 rfl _) (by go_simp) (by go_simp;rfl) y fi rfl rfl ?_);intro O d;have v:Hid (ai O U.heap.size 95 Td):=by show ai _ _ _ _;rw[d];exact ai.row y _
   have b4:Below U.heap.size U O:=by rw[d];exact aH b2 (Nat.le_refl _) _
   refine⟨b4,?_⟩;refine wpAnyH_done (by kernel_rfl) ?_ _;have u:=ah b4;clear r b2 y b4 d a;simp only[Act.put,aE,aF,aG,List.getElem_toArray,List.getElem_cons_succ,List.getElem_cons_zero];go_wp2_with fail;go_meet;exact⟨U.heap.size,rfl,Nat.le_refl _,v.out,u.out⟩
 case rest=>
  obtain⟨C,rfl,hC,hF,A⟩:=hcut;have hCs:=hF.lt;have x0:=hF.cell 0;simp[Td]at x0;have HSe:=ah (Tl R G c 1 _ 4 false wc (E.out.ae A) rfl rfl);have HTk:=ah fun(W:World) (o:Below wc.heap.size wc W)=>BC 126 #[] (enters_of func126 (by kernel_rfl) rfl) R G c 1 _ 1 W ((E.out.ae A).ae o) rfl rfl fun p a=>Un _ p (by kernel_rfl) (by decide);have HF:=ah hF;have F:=ah (m.out.ae A m.out.lt);have K:=ah (N.out.ae A N.out.lt);have HS1:=ah (HSU.out.ae A (by omega));clear hF A;go_wp2_with fail;refine HSe.out.mono ?_;rintro e w3 ⟨rfl,b3⟩;have I:=ah (HTk.out w3 b3);have B:=ah (HF.out.ae b3 HF.out.lt);have HT3:=ah (F.out.ae b3 F.out.lt);have L:=ah (K.out.ae b3 K.out.lt);have HS3:=ah (HS1.out.ae b3 (by omega));have h3:=b3.size;clear b3 x0;go_wp2_with fail;refine I.out.mono ?_;rintro e w4 ⟨rfl,s,T⟩;have H:=ah (s.ce HT3.out (by omega));have h4:=s.size;obtain⟨q,k⟩:∃q,q=w4.setRow t.heap.size (tkX ⟨1,⟨#[97]⟩,0,7⟩):=⟨_,rfl⟩;have q5:cg R w q:=by rw[k];exact rx (HS3.out.trans s) (by omega) (by omega) _
  have o5:aU t.heap.size w4 q:=by rw[k];exact⟨by rw[setRow_size];exact Nat.le_refl _,fun b hb hn=>setRow_other w4 t.heap.size _ b hn⟩
  have x:Hid (ai q C 95 Td):=(o5.same _ (s.ce B.out (by omega)).lt (by omega)).trans (s.ce B.out (by omega));have HZ5:Hid (ai q w.heap.size 95 wT):=(o5.same _ (s.ce L.out (by omega)).lt (by omega)).trans (s.ce L.out (by omega));have HT5:Hid (ai q t.heap.size 211 (tkX ⟨1,⟨#[97]⟩,0,7⟩)):=by show ai _ _ _ _;rw[k];exact ai.row H.out _
  have HR5:=ah (T.only o5 (by omega) (by omega));have HQ5:=ah q5;have y1:=HT5.out.cell 1;have y2:=x.out.cell 2;have f2:=x.out.ao 2;simp[Td]at y1 y2;obtain⟨z,f⟩:∃z,z=q.setCell ⟨C,2,none⟩ (.string ⟨#[97]⟩):=⟨_,rfl⟩;have HF6:Hid (ai z C 95 (kC 0)):=by show ai _ _ _ _;rw[f];exact x.out.set 2 _
  have M:Hid (ai z w.heap.size 95 wT):=by show ai _ _ _ _;rw[f];exact HZ5.out.ll (by show w.heap.size≠C;omega) _
  have HQ6:Hid (cg R w z):=by show cg _ _ _;rw[f];exact HQ5.out.gb (g:=C) 2 (by omega) (by omega) _
  have HR6:Hid (KR z R G c 2):=HR5.out.only (g:=C) (by rw[f];exact aU.set _ _ _) (by omega) (by omega);clear s T q5 o5;go_wp2_with(first|(rw[<-k];clear k)|(rw[<-f];clear f)|refine dp rfl _ _ _ rfl H.out rfl rfl Ae rfl rfl rfl ?_|refine cr rfl _ _ rfl HF6.out rfl underlying95 rfl fi rfl ?_|refine dp rfl _ _ _ rfl M.out rfl rfl fi rfl rfl rfl ?_);refine j6 (cs:=kC 0) rfl (ai.row M.out _) rfl underlying95 rfl fi rfl rfl ⟨rfl,?_,?_⟩
  ·exact rx HQ6.out (by omega) (by omega) _
  ·exact HR6.out.only (g:=w.heap.size) ⟨by rw[setRow_size];exact Nat.le_refl _,fun b hb hn=>setRow_other _ _ _ b hn⟩ (by omega) (by omega)
set_option maxRecDepth 100000
theorem RS(w:Wd):Cs prog 71 #[.string m8] w fun e w'=>∃g c,e=.returned (.tuple #[.slice (some ⟨g,0,none⟩) 14 c,.int .i64 40,.int .i64 0])/\Tks w' (some ⟨g,0,none⟩) 14 jt/\w.heap.size<=g/\g<w'.heap.size/\Bl w.heap.size w w':=by
 refine(Af m8 w (by decide)).mono ?_;rintro e w' ⟨A,c,l,m,o,rfl,ht,f,-,hA,⟨rfl,-,⟨k,d,a⟩,rfl⟩|⟨-,-,j⟩⟩
 ·rw[G9]at d a;have:=P0 d a;subst this;obtain⟨g,rfl,h⟩:=hA (by decide);obtain⟨b,off,x,e,n,-,-⟩:=ht.at_ (i:=0) (by decide);cases e;rw[G9];exact⟨g,c,rfl,ht,h,n,f⟩
 ·exact absurd j Mf
theorem zI:(prog.info? 48).map (·.size)=some 5:=by kernel_rfl
abbrev t48:=pk underlying48 rfl zI
theorem T9:(prog.info? 154).map (fun i=>(i.zero,i.size,i.bytes))=some (some (.agg #[.string ⟨#[]⟩,.nilIface]),2,32):=by kernel_rfl
def kQ(g:Nat):Cq:=⟨⟨#[97]⟩,⟨#[117]⟩,⟨#[120]⟩,tL,some g,1,1,0,false,[],none,0,0⟩
theorem vZ(h:ai w g 139 #[(2:Int),(1:Int)]):Aq w (kQ g):=by
 have c:DD w g 1 tL.al:=by
  refine⟨rfl,fun r a=> ?_,fun _=>⟨g,0,rfl,h.lt,fun i r a j v b=> ?_⟩⟩
  ·simp[tL]at a;subst a;rfl
  ·have hi:i=0:=by have:=(cA.1 a).1;simp[tL]at this;omega
   subst hi;simp[tL]at a;subst a;rw[show 0+0*2+j=j by omega,h.cell j,<-iS];exact b
 exact⟨⟨c,by show 1<=1000;omega,by show 1<=1;omega,fun e=>by cases e⟩,cp.nil _ _ _ _,by show 0<=1000;omega,by show 0<=0;omega,fun _=>rfl,by show ByteArray.size ⟨#[97]⟩<=1000000;decide,by show ByteArray.size ⟨#[117]⟩<=1000000;decide,by show ByteArray.size ⟨#[120]⟩<=1000000;decide,fun _=>rfl⟩
def J2(w:Wd)(e:Ed)(w':Wd):Prop:=∃g,e=.returned (.tuple #[.agg (qW (kQ g)),(40:Int),()])/\ai w' g 139 #[(2:Int),(1:Int)]/\w<=g/\Bl w w w'
theorem sV{base size:Nat}{A:OA}{xs:List Vl}{b off:Nat}(h:eY w base size A n c xs)(a:A=none\/0<c)(e:A=some ⟨b,off,none⟩):base<=b/\b<w:=by
 rcases a with a|d
 ·rw[a]at e;cases e
 ·obtain⟨g,hA,f,i,-⟩:=h.room d;rw[e]at hA;cases hA;exact⟨f,i⟩
theorem Lm{α:Type}{f:α->List Vl}{w':Wd}{A:OA}{l:List α}(m:cp f k w A n l)(p:w.heap.size<=w')(h:∀b off,A=some ⟨b,off,none⟩->w'.heap[b]?=w.heap[b]?):cp f k w' A n l:=by
 refine⟨Cells.cb m,Cells.eZ m,fun hn=> ?_⟩;obtain⟨b,off,e,o,c⟩:=Cells.at_ m hn;exact⟨b,off,e,cD o p,fun i r d j v g=>(dI (a:=⟨b,off+i*k+j,none⟩) (h b off e)).trans (c i r d j v g)⟩
def lenK:Vl->Nat
 | .slice _ n _=>n
 |_=>0
structure KLp(w:Wd)(B R G c C D k n d:Nat)(A:OA)(wr:Wd):Prop where
 k4:k<=4
 n_:n=k
 had:FfsO wr B A n d (jf.take k)
 rd:KR wr R G c (2+3*k)
 cm:ai wr C 95 (kC k)
 rs:ai wr D 95 wT
 du:Bl w w wr
 sz:B<=wr
 ad:A=none\/0<d
theorem Uo(w:Wd):Cs prog 34 #[.string m8] w (J2 w):=by
 obtain⟨V,hV⟩:∃V,V=w.alloc (.cells wT 95):=⟨_,rfl⟩;have bV:Bl w.heap.size w V:=by rw[hV];exact aA
 have zV:ai V w.heap.size 95 wT:=by rw[hV];exact ai.new _ _ _
 have qM:=zV.lt;have HZ:=ah zV;have HV:=ah bV;clear bV zV;go_enter func34,ntmps34;go_wp2_with(rw[<-hV];clear hV);refine(RS V).mono ?_;rintro e g ⟨G,c,rfl,ht,hG,qK,b1⟩;have h1:=b1.size;obtain⟨U,T⟩:∃U,U=g.alloc (.cells #[.slice (some ⟨G,0,none⟩) 14 c,.int .i64 0,.int .i64 40,.int .i64 (-1)] 148):=⟨_,rfl⟩;have Q:Bl g.heap.size g U:=by rw[T];exact aA
 have rU:ai U g.heap.size 148 #[.slice (some ⟨G,0,none⟩) 14 c,.int .i64 0,.int .i64 40,.int .i64 (-1)]:=by rw[T];exact ai.new _ _ _
 have hUs:=rU.lt;have HK:=ah (⟨rU,ht.ae Q,by omega,by omega⟩:KR U g.heap.size G c 0);have HB:=ah (aa (aa HV.out b1) Q);have uU:=ah ((HZ.out.ae b1 HZ.out.lt).ae Q (by omega));clear ht b1 Q rU;go_wp2_with(rw[<-T];clear T);refine(khead g.heap.size G c U HK.out).mono ?_;rintro e a ⟨rfl,s2,uD⟩;have h2:=s2.size;obtain⟨X,hX⟩:∃X,X=(a.alloc (.cells wT 95)).setRow a.heap.size (kC 0):=⟨_,rfl⟩;have R:Bl a.heap.size a X:=by rw[hX];exact aD
 have cX:ai X a.heap.size 95 (kC 0):=by rw[hX];exact ai.row (ai.new _ _ _) _
 have hXs:=cX.lt;have HL:Hid (KLp w X.heap.size g.heap.size G c a.heap.size w.heap.size 0 0 0 none X):=⟨by omega,rfl,be.nil _ _ _ _,uD.ae R,cX,(s2.ce uU.out (by omega)).ae R (by omega),(HB.out.trans (s2.du.mono (by omega))).trans (R.mono (by omega)),cB _,.inl rfl⟩;clear s2 uD R cX;obtain⟨B,hB⟩:∃B,B=X.heap.size:=⟨_,rfl⟩;rw[<-hB]at HL;have hBX:a.heap.size<B:=by omega
 clear hB;go_upto_region 6 with(first|(rw[<-hX];clear hX)|refine dp rfl _ _ _ rfl (ai.new a 95 wT) rfl rfl fi rfl rfl rfl ?_)
 go_wp2_with fail
 go_loopw [10,11] (fun H F wr=>∃(k n d:Nat) (A:OA),H=.slice A n d/\F=.bool false/\KLp w B g.heap.size G c a.heap.size w.heap.size k n d A wr) (fun H _ _=>4-lenK H)
 case atStart=>exact⟨0,0,0,none,rfl,rfl,HL.out⟩
 case round=>
  obtain⟨k,n,d,A,rfl,rfl,hk⟩:=hrel;obtain⟨hk4,rfl,K,r,u,yJ,yB,hsz,yS⟩:=hk;have y1:=r.ce.cell 1;have y3:=r.ce.cell 3;simp at y1 y3;by_cases qA:n<4
  ·have d0:decide ((2:Int)+3*(n:Int)<14)=true:=by simp;omega
   have d1:decide (2+3*n<14)=true:=by simp;omega
   have uA:=u.cell 0;simp[kC]at uA;obtain⟨x,hx⟩:∃x,jf[n]?=some x:=⟨_,cE (by simpa [jf]using qA)⟩
   have HF:=ah (Ul A n d g.heap.size G c x wr hx (K.et OQ) r (fun b off e=>by
    have:=sV K.2 yS e;omega))
   have HH:=ah K;have q:=ah r;have E:=ah u;have O:=ah yJ;have yL:=ah yB;have HX:=ah hx;have qH:=ah yS;have qD:=u.lt;clear K r u yJ yB hx yS;go_wp2_with fail;refine HF.out.mono ?_;rintro e o ⟨rfl,s3,uI⟩;have h3:=s3.size;have HN:Hid (ai (o.alloc (.cells #[.string ⟨#[]⟩,.nilIface] 154)) o.heap.size 154 #[.string ⟨#[]⟩,.nilIface]):=ai.new _ _ _;obtain⟨Y,hY⟩:∃Y,Y=(o.alloc (.cells #[.string ⟨#[]⟩,.nilIface] 154)).setRow o.heap.size (AM x):=⟨_,rfl⟩;have bY:Bl o.heap.size o Y:=by rw[hY];exact aD
   have J:ai Y o.heap.size 154 (AM x):=by rw[hY];exact ai.row HN.out _
   obtain⟨Z,hZ⟩:∃Z,Z=Y.alloc (.cells (AM x) 154):=⟨_,rfl⟩;have S:Bl Y.heap.size Y Z:=by rw[hZ];exact aA
   have lZ:TJ Z (some ⟨Y.heap.size,0,none⟩) 1 [x]:=by rw[hZ];exact cp.new OQ Y x (AM x) 154 rfl
   have yQ:=aa bY S;have D:cg g.heap.size wr Z:=s3.ae yQ (by omega);have oZ:FfsO Z B A n d (jf.take n):=bS HH.out D.size fun b h1 h2=>D.same b h2 (by omega);have hZs:=S.size;have qL:=J.lt;obtain⟨A4,d4,s,yG,o4,L,C,uY⟩:=dy OQ (P:=prog) Z B 150 150 154 _ 32 underlying150 T9 rfl A n d _ oZ (some ⟨Y.heap.size,0,none⟩) 1 1 [x] lZ (by simp only[maxLen];omega) (by omega) (by omega)
   have hA:∀b,(b<B\/wr.heap.size<=b)->A≠some ⟨b,0,none⟩:=fun b hb e=>by
    have:=sV HH.out.2 qH.out e;omega
   have uR:∀b,b<B->A4≠some ⟨b,0,none⟩:=fun b hb e=>by
    have:=sV o4.2 (.inr (by have:=o4.2.le;omega)) e;omega
   have qI:=q.out.ce.lt;have hGl:=q.out.lt;have hGn:=q.out.ne;have cZ:ai Z a.heap.size 95 (kC n):=D.ce E.out (by omega);have dZ:ai Z w.heap.size 95 wT:=D.ce O.out (by omega);have fZ:ai Z o.heap.size 154 (AM x):=J.ae S J.lt;have t:KR Z g.heap.size G c (5+3*n):=uI.ae yQ;have cW:ai s a.heap.size 95 (kC n):=(C _ cZ.lt (hA _ (.inl (by omega)))).trans cZ;have dW:ai s w.heap.size 95 wT:=(C _ dZ.lt (hA _ (.inl (by omega)))).trans dZ;have fW:ai s o.heap.size 154 (AM x):=(C _ fZ.lt (hA _ (.inr (by omega)))).trans fZ
   have rW:KR s g.heap.size G c (5+3*n):=by
    refine⟨(C _ t.ce.lt (hA _ (.inl (by omega)))).trans t.ce,?_,t.ne,cD t.lt L.size⟩;refine Lm t.tk L.size fun b off e=> ?_;cases e;exact C _ t.lt (hA _ (.inl (by omega)))
   have lW:Bl w.heap.size w s:=(yL.out.trans (D.du.mono (by omega))).trans (L.mono (by omega));have hZB:Z.heap.size<=s.heap.size:=L.size;have z0:=fW.cell 0;have uE:=rW.ce.cell 3;simp at z0 uE
   have uO:(x.nm.toList==[102,114,111,109])=false:=by
    rcases rl HX.out with e|e|e|e<;>rw[e,ByteArray.toList_eq]<;>rfl
   have uX:=ah (kput a.heap.size n x s HX.out cW);have yU:=ah yG;have yV:=ah o4;have yO:=ah dW;have uK:=ah rW;have yT:=ah lW;have uV:=ah J;have uQ:=ah fW;clear s3 uI bY S lZ yQ D oZ yG o4 C hA uY cZ dZ fZ t cW dW rW lW J fW L;go_upto_region 10 with(first|(rw[<-hY];clear hY HN)|refine dp rfl _ _ _ rfl HN.out rfl rfl pZ rfl rfl rfl ?_)
   go_wp2_with(first|(rw[<-hZ];clear hZ)|refine cr rfl _ _ rfl uV.out rfl underlying154 rfl pZ rfl ?_|(at_builtin;refine au rfl _ _ rfl rfl rfl yU.out ?_)|refine cr rfl _ _ rfl uQ.out rfl underlying154 rfl pZ rfl ?_);refine uX.out.mono ?_;rintro e w5 ⟨rfl,l,i⟩;have h5:=l.size
   have uS:Hid (KLp w B g.heap.size G c a.heap.size w.heap.size (n+1) (n+1) d4 A4 w5):=by
    refine⟨by omega,rfl,?_,?_,i,l.ce yO.out (by omega),yT.out.trans (l.du.mono (by omega)),by omega,.inr (by have:=yV.out.2.le;omega)⟩
    ·rw[aM HX.out];exact bS yV.out l.size fun b h1 h2=>l.same b h2 (by omega)
    ·have e5:5+3*n=2+3*(n+1):=by omega
     rw[<-e5];exact uK.out.only (aU.UB l) (by omega) (by omega)
   clear l i uE z0 uO y1 y3 uA;go_wp2_with fail;exact⟨⟨n+1,n+1,d4,A4,rfl,rfl,uS.out⟩,by show 4-(n+1)<4-n;omega⟩
  ·obtain rfl:n=4:=by omega
   have uM:=ah fun W=>OK W;have uZ:=ah fun(W:Wd) (h:ai W a.heap.size 95 (kC 4))=>RQ a.heap.size W h;have qD:=u.lt;have qI:=r.ce.lt;have q:=ah r;have E:=ah u;have O:=ah yJ;have yL:=ah yB;clear K r u yJ yB;go_upto_region 14 with fail
   have qG:Hid (wr.rangeAt a.heap.size 0 (kC 4).toList):=fun j v f=>by rw[cR,E.out.cell j,<-iS];exact f
   go_wp2_with(go_guarded;refine me _ _ rfl rfl qG.out underlying95 rfl fi rfl ?_);refine(uM.out _).mono ?_;rintro e m ⟨rfl,b4⟩;have h4:=b4.size;have M:=E.out.ae b4 E.out.lt;have uW:=ah (uZ.out m M);have x0:=M.cell 0;have yX:=M.cell 12;have uL:=M.cell 16;have z3:=(q.out.ce.ae b4 q.out.ce.lt).cell 3;simp[kC]at x0 yX uL z3;have uK:=ah (q.out.ce.ae b4 q.out.ce.lt);have yO:=ah (O.out.ae b4 O.out.lt);have yT:=ah (yL.out.trans (b4.mono (by omega)));clear b4 M y1 y3;go_wp2_with fail;refine uW.out.mono ?_;rintro e w5 ⟨rfl,l,i,a5⟩;have h5:=l.size;have ha:=a5.lt;obtain⟨y,N⟩:∃y,y=((w5.setCell ⟨a.heap.size,16,none⟩ (.int .i64 0)).setCell ⟨a.heap.size,12,none⟩ (.int .i64 0)).setCell ⟨a.heap.size,13,none⟩ (.bool false):=⟨_,rfl⟩;have c6:ai y a.heap.size 95 (qW (kQ m.heap.size)):=by rw[N];exact((i.set 16 _).set 12 _).set 13 _
   have s6:cg a.heap.size m y:=by rw[N];exact((l.trans (cg.set 16 _)).trans (cg.set 12 _)).trans (cg.set 13 _)
   have a6:ai y m.heap.size 139 #[.int .i64 2,.int .i64 1]:=by
    have yM:m.heap.size≠a.heap.size:=by omega
    rw[N];exact((a5.ll (p:=⟨a.heap.size,16,none⟩) yM _).ll (p:=⟨a.heap.size,12,none⟩) yM _).ll (p:=⟨a.heap.size,13,none⟩) yM _
   have yZ:=i.cell 12;have uB:=i.cell 13;have uG:=i.cell 16;have qB:=i.ao 12;have uP:=i.ao 13;have uN:=i.ao 16;simp[kD]at yZ uB uG;have uH:=ah (sJ (kQ m.heap.size) y (vZ a6));rw[show xG (kQ m.heap.size)=0 by kernel_rfl]at uH;have yR:=ah c6;have yW:=ah a6;have yY:=ah (s6.ce yO.out (by omega));have qC:=ah (yT.out.trans (s6.du.mono (by omega)));have h6:=s6.size;have x6:=c6.cell 0;simp at x6;clear l i a5 c6 s6 a6 x0 yX uL z3;go_upto_region 21 with(rw[<-N];clear N)
   clear yZ uB uG qB uP uN;go_wp2_with(refine cr rfl _ _ rfl yR.out rfl underlying95 rfl fi rfl ?_);refine uH.out.mono ?_;rintro e w7 ⟨rfl,z⟩;have yP:=ah (yR.out.ae z yR.out.lt);have yN:=ah (yW.out.ae z yW.out.lt);have uC:=ah (yY.out.ae z yY.out.lt);have uT:=ah (qC.out.trans (z.mono (by omega)));have uF:=ah (jK (some ⟨m.heap.size,0,none⟩) 1 1 tL w7 (vZ yN.out).sh);rw[show gE tL=0 by kernel_rfl]at uF
   have yK:Hid (w7.rangeAt a.heap.size 5 #[.int .i64 tL.kd,.slice (some ⟨m.heap.size,0,none⟩) 1 1,.int .i64 tL.mn,.int .i64 tL.mx,.int .i64 tL.wl].toList):=fun j v f=>by
    rw[yP.out.cell (5+j)]
    match j,f with
    |0,f=>exact f
    |1,f=>exact f
    |2,f=>exact f
    |3,f=>exact f
    |4,f=>exact f
   have h7:=z.size;clear z x6;go_wp2_with(go_guarded;refine me _ _ rfl rfl yK.out underlying48 rfl zI rfl ?_);refine uF.out.mono ?_;rintro e w8 ⟨rfl,I⟩;have qE:=ah (yP.out.ae I yP.out.lt);have qJ:=ah (yN.out.ae I yN.out.lt);have uJ:=ah (uC.out.ae I uC.out.lt);have qF:=ah (uT.out.trans (I.mono (by omega)));clear I;go_wp2_with(first|refine cr rfl _ _ rfl qE.out rfl underlying95 rfl fi rfl ?_|refine dp rfl _ _ _ rfl uJ.out rfl rfl fi rfl rfl rfl ?_);refine fV (cs:=qW (kQ m.heap.size)) rfl (ai.row uJ.out _) rfl rfl rfl underlying95 rfl fi rfl rfl ?_;exact⟨m.heap.size,rfl,ai.gu qJ.out (by omega) _,by omega,aH qF.out lr _⟩
set_option maxRecDepth 512
theorem qY{P:Pg}{c:Region.Mode}{b:Array Oper}{Q:Exit->Act->Wd->Prop}{R:Wd->Prop}{g:Array Bool}{a:Act}(cs:List Nat)(d:(!(Region.ready c b g).isEmpty&&(Region.ready c b g).all fun i=>cs.contains i)=true)
 (h:∀i∈cs,(Region.ready c b g).contains i=true->wpOp P b Q i (fun f w'=>R w'/\wpAnyH P c b Q R n (g.setIfInBounds i true) f w') a w):wpAnyH P c b Q R (n+1) g a w:=by
 simp only[cH,nD,dC]at d;refine wpAnyH_all rfl (fun e=>by rw[e]at d;simp at d) fun i hi=>h i ?_ ?_
 ·simpa using d.2 i hi
 ·simpa using hi
theorem C7{b:Bool}{p:Prop}(h:b=true)(e:b=false):p:=by rw[e]at h;cases h
theorem Ca{α:Type}(f:α->List Vl)(k:Nat)(w:Wd)(base:Nat)(A:OA):be f k w base A 0 0 []:=⟨rfl,by simp,cB _,by simp[maxLen],fun h=>absurd h (by omega),fun _=>rfl⟩
end Go.Proofs.YthfhilggbbobmaaGreatDoor
