/- Parts of the proof. -/
import Derived.Test.YthfhilggbbobmaaGreatDoorK9
import Derived.Deep.DeepCutAuto
import Derived.Deep.RegionHeld3
import Derived.Deep.RegionLaw
import Derived.Deep.DrawnRows
import Derived.StillTailTactics
import Derived.WalkSpells
import Derived.WalkLawsBesides
import Derived.Shelf.Abstract
import Derived.Lib.RuneCount
import Derived.Test.YthfhilggbbobmaaGreatDoorRows
set_option linter.all false
set_option maxHeartbeats 20000000
namespace Go.Proofs.YthfhilggbbobmaaGreatDoor
open Go.Proofs.Tryz
open Go renaming World->Wd,Value->Vl,Ending->Ed,TypeId->Ti
open Go.RowKit renaming Below->Bl
open Go.RowKit
def an(r:Vl)(w:Wd)(e:Ed)(w':Wd):Prop:=e=.returned r/\Bl w w w'
def mS(r:Vl)(w:Wd)(e:Ed)(w':Wd):Prop:=e=.returned r/\∃m,w'=w.drewN m
variable{w w':Wd}
theorem mS.ae{r:Vl}{e:Ed}(h:mS r w e w'):an r w e w':=by
 obtain⟨h1,m,rfl⟩:=h;exact⟨h1,below_drewN (Below.refl _ _) _⟩
variable{k n:Nat}{A:OA}
theorem be.max{α:Type}{f:α->List Vl}{base:Nat}{c:Nat}{l:List α}(h:be f k w base A n c l):n<=maxLen:=cF h.2.le h.2.max
variable{g:Nat}{t:Ti}{a:Vl}
theorem tv(h:ai w g t #[a]):w.cell? g=some a:=h.cell 0
theorem QT{b:Vl}(h:ai w g t #[a,b]):w.cell? g=some a/\w.cell? ⟨g,1,none⟩=some b:=⟨h.cell 0,h.cell 1⟩
theorem bT{b c d:Vl}(h:ai w g t #[a,b,c,d]):w.cell? g=some a/\w.cell? ⟨g,1,none⟩=some b/\w.cell? ⟨g,2,none⟩=some c/\w.cell? ⟨g,3,none⟩=some d:=⟨h.cell 0,h.cell 1,h.cell 2,h.cell 3⟩
theorem QU{b c d e f i:Vl}(h:ai w g t #[a,b,c,d,e,f,i]):w.cell? g=some a/\w.cell? ⟨g,1,none⟩=some b/\w.cell? ⟨g,2,none⟩=some c/\w.cell? ⟨g,3,none⟩=some d/\w.cell? ⟨g,4,none⟩=some e/\w.cell? ⟨g,5,none⟩=some f/\w.cell? ⟨g,6,none⟩=some i:=⟨h.cell 0,h.cell 1,h.cell 2,h.cell 3,h.cell 4,h.cell 5,h.cell 6⟩
theorem ip{cs:Array Vl}{l:List Int}(h:ai w g t cs)(c:cs.toList=l.map (fun x=> .int .i64 x)):fs w g l.length l:=by
 refine⟨by simp,fun r a=> ?_,fun hn=>⟨g,0,rfl,h.lt,fun i r a j v b=> ?_⟩⟩
 ·obtain⟨x,_,rfl⟩:=cS.1 a;rfl
 ·rw[dD]at a
  cases hx:l[i]? with
  |none=>rw[hx]at a;cases a
  |some x=>
   rw[hx]at a;injection a with a
   subst a
   cases j with
   |zero=>
    simp[gl]at b;subst b;rw[cR,nK,fU,h.cell i];have:cs.toList[i]?=some (x:Vl):=by rw[c,dD,hx];rfl
    simpa using this
   |succ j=>simp[gl]at b
open Go renaming Program->Pg
def JQ(x:Nat):List Vl:=[.int .i32 (x:Int)]
theorem Uu:wU JQ 1:=⟨fun _=>rfl,fun x u a=>by simp[JQ]at a;subst a;rfl,by omega⟩
abbrev wH:=cp JQ 1
abbrev S6:=be JQ 1
variable{l:List Nat}{i:Nat}
theorem cp.rune(h:wH w A n l)(hi:i<n):∃b off x,A=some ⟨b,off,none⟩/\b<w/\l[i]?=some x/\w.cell? ⟨b,off+i,none⟩=some (.int .i32 (x:Int)):=by
 obtain⟨b,off,s,hA,a,hs,c⟩:=h.at_ hi;have:=c 0 _ rfl;rw[nK]at this;exact⟨b,off,s,hA,a,hs,this⟩
theorem run_forIn_runes{P:Pg}(f:Vl->ByteArray->Sem (ForInStep ByteArray))
 (b:∀(n:Int) (r:ByteArray),(f (.int .i32 n) r).run P w=.ok (.yield (r++Utf8.encode n)) w):
 ∀(a:List Int) (s:ByteArray),(forIn (a.map (Value.int .i32)) s f).run P w=.ok (a.foldl (fun r n=>r++Utf8.encode n) s) w:=by
 intro a
 induction a with
 |nil=>intro s;simp[Sem.run_pure]
 |cons n a ih=>
  intro s;simp only[lY,List.forIn_cons,Sem.run_bind,b,Result.andThen,i9];exact ih _
theorem KZ(l:List Nat)(s:ByteArray):(l.map fun(x:Nat)=>(x:Int)).foldl (fun r n=>r++Utf8.encode n) s=l.foldl (fun s (r:Nat)=>s++Utf8.encode (r:Int)) s:=by
 induction l generalizing s with
 |nil=>rfl
 |cons a r ih=>simp[ih]
theorem qx{P:Pg}(h:wH w A n l)(src g e:Ti)(c:Nat)(hs:P.underlying src=some (.slice e))(p:P.underlying e=some (.int .i32))(o:P.underlying g=some .string):
 (convert src g (.slice A n c)).run P w=.ok (.string (jO l)) w:=by
 have k:(convert src g (.slice A n c)).run P w=(Conv.runesToString (.slice A n c)).run P w:=by
  simp[convert,run_underlying hs,run_underlying o,run_underlying p]
 rw[k];have i:=h.cb;rcases A with _|a
 ·have hn:n=0:=by
   rcases dX n with d|d
   ·exact d
   ·obtain⟨b,off,hA,_⟩:=Cells.at_ h d;cases hA
  subst hn;have:l=[]:=dJ i;subst this;simp[Conv.runesToString,Sem.run_pure,jO]
 ·have q:(loadCells a n).run P w=.ok ((l.map fun(x:Nat)=>(x:Int)).map (Value.int .i32)).toArray w:=by
   have:=run_loadCells_list (P:=P) w a ((l.map fun(x:Nat)=>(x:Int)).map (Value.int .i32)) (fun j v f=>by
    have s:j<n:=by
     have:=(cA.1 f).1;simp at this;omega
    obtain⟨b,off,x,hA,t,hx,m⟩:=cp.rune h s;injection hA with hA;subst hA;rw[pt,m];simp[hx]at f;rw[f])
   simpa [i]using this
  unfold Conv.runesToString;simp only[Sem.run_bind,q,Result.andThen,List.forIn_toArray];rw[run_forIn_runes _ (by intro n r;simp[Sem.run_pure]),KZ];simp[Sem.run_pure,jO]
theorem iU{P:Pg}{b off:Nat}(h:wH w (some ⟨b,off,none⟩) n l)(k p c:Nat)(j:k<=p)(m:p<=n)(i:n<=c)(src a e:Ti)(hs:P.underlying src=some (.slice e))(g:P.underlying e=some (.int .i32))(f:P.underlying a=some .string):
 (convert src a (.slice (if c=k then some ⟨b,off,none⟩else some ⟨b,off+k,none⟩) (p-k) (c-k))).run P w=.ok (.string (jO ((l.drop k).take (p-k)))) w:=by
 refine qx ?_ src a e _ hs g f;by_cases d:c=k
 ·rw[cK d];have:p-k=0:=by omega
  rw[this,List.take_zero];exact⟨rfl,by simp,fun h=>by omega⟩
 ·rw[cL d];have:=(h.drop k (by omega)).pre (p-k) (by omega)
  rwa [nK]at this
theorem T8(r:Int):(Utf8.encode r).size<=4:=by
 unfold Utf8.encode;simp only[];generalize(if Utf8.valid r=true then r.toNat else Utf8.runeError)=c
 repeat' split
 all_goals(simp[ByteArray.size])
theorem Jh:∀(l:List Nat) (s:ByteArray),(l.foldl (fun s (r:Nat)=>s++Utf8.encode (r:Int)) s).size<=s.size+4*l.length
 |[],s=>by simp
 |a::r,s=>by
  have h1:=Jh r (s++Utf8.encode (a:Int));have h2:=T8 (a:Int);rw[ByteArray.size_append]at h1;simp only[i9,dV];omega
theorem Ji(l:List Nat):(jO l).size<=4*l.length:=by
 have:=Jh l ByteArray.empty;simpa [jO]using this
theorem xi(s:ByteArray)(f p:Nat)(h:p<s.size):gw s (f+1) p=(Utf8.decode s p).1::gw s f (p+(Utf8.decode s p).2):=by simp[gw,h]
theorem H9(s:ByteArray):∀(f p:Nat),¬p<s.size->gw s f p=[]
 |0,_,_=>rfl
 |f+1,p,h=>by simp[gw,h]
theorem jI(w:Wd)(s:ByteArray)(a:Nat):Bl w w (w.iter s a):=(Below.refl _ _).alloc lr _
theorem PG(s:ByteArray):∀(f p:Nat),(gw s f p).length<=f
 |0,_=>by simp[gw]
 |f+1,p=>by
  unfold gw;split
  ·have:=PG s f (p+(Utf8.decode s p).2);simp;omega
  ·simp
theorem LT(s:ByteArray):(bc s).length<=s.size:=PG s _ _
open Go renaming Calls->Cs
theorem re(r:Int)(w:Wd):Cs prog 213 #[.int .i32 r] w fun e w'=>e=.returned (dv r:Int)/\w=w':=by
 have h:r<=8\/r=9\/(10<=r/\r<=31)\/r=32\/(33<=r/\r<=47)\/(48<=r/\r<=57)\/(58<=r/\r<=64)\/(65<=r/\r<=90)\/(91<=r/\r<=96)\/(97<=r/\r<=122)\/(123<=r/\r<=126)\/(127<=r/\r<=160)\/(161<=r/\r<=55295)\/(55296<=r/\r<=57343)\/(57344<=r/\r<=65532)\/r=65533\/(65534<=r/\r<=1114111)\/1114112<=r:=by omega
 rcases h with h|h|h|h|h|h|h|h|h|h|h|h|h|h|h|h|h|h
 all_goals
  first|(have e:dv r=0:=by(unfold dv;(repeat' split)<;>omega))|(have e:dv r=1:=by(unfold dv;(repeat' split)<;>omega))|(have e:dv r=2:=by(unfold dv;(repeat' split)<;>omega))|(have e:dv r=3:=by(unfold dv;(repeat' split)<;>omega))|(have e:dv r=4:=by(unfold dv;(repeat' split)<;>omega))
  first|(have a:(r==9)=true:=by simp;omega)|(have a:(r==9)=false:=by simp;omega)
  first|(have b:(r==32)=true:=by simp;omega)|(have b:(r==32)=false:=by simp;omega)
  first|(have c:decide (r<32)=true:=by simp;omega)|(have c:decide (r<32)=false:=by simp;omega)
  first|(have d:decide (127<=r)=true:=by simp;omega)|(have d:decide (127<=r)=false:=by simp;omega)
  first|(have f:decide (r<=160)=true:=by simp;omega)|(have f:decide (r<=160)=false:=by simp;omega)
  first|(have g:decide (55296<=r)=true:=by simp;omega)|(have g:decide (55296<=r)=false:=by simp;omega)
  first|(have i:decide (r<=57343)=true:=by simp;omega)|(have i:decide (r<=57343)=false:=by simp;omega)
  first|(have j:(r==65533)=true:=by simp;omega)|(have j:(r==65533)=false:=by simp;omega)
  first|(have k:decide (1114111<r)=true:=by simp;omega)|(have k:decide (1114111<r)=false:=by simp;omega)
  first|(have l:decide (48<=r)=true:=by simp;omega)|(have l:decide (48<=r)=false:=by simp;omega)
  first|(have p:decide (r<=57)=true:=by simp;omega)|(have p:decide (r<=57)=false:=by simp;omega)
  first|(have m:decide (97<=r)=true:=by simp;omega)|(have m:decide (97<=r)=false:=by simp;omega)
  first|(have o:decide (r<=122)=true:=by simp;omega)|(have o:decide (r<=122)=false:=by simp;omega)
  first|(have s:decide (65<=r)=true:=by simp;omega)|(have s:decide (65<=r)=false:=by simp;omega)
  first|(have n:decide (r<=90)=true:=by simp;omega)|(have n:decide (r<=90)=false:=by simp;omega)
  first|(have q:decide (160<r)=true:=by simp;omega)|(have q:decide (160<r)=false:=by simp;omega)
  rw[e];clear h e;go_in;go_wp2;go_ret;exact⟨rfl,rfl⟩
def zx(l:List Nat):Int:=if l.all pB then 0 else 40
variable{x:Nat}
theorem Ot{pre rest:List Nat}(h:∀y∈pre,pB y=true)(hx:pB x=false):Eu (pre++x::rest)=pre.length/\zx (pre++x::rest)=40:=by
 constructor
 ·unfold Eu;rw[List.takeWhile_append_of_pos h];simp[hx]
 ·simp[zx,hx]
theorem Ev(h:∀y∈l,pB y=true):Eu l=l.length/\zx l=0:=by
 constructor
 ·unfold Eu;have:=List.takeWhile_append_of_pos (l₂:=[]) h;simpa using cO List.length this
 ·simp[zx,dC.2 h]
theorem zB(s:ByteArray)(w:Wd)(hs:s.size<9223372036854775807):
 Cs prog 219 #[.string s] w (an (.tuple #[(Eu (bc s):Int),(zx (bc s):Int)]) w):=by
 go_in;go_wp2
 go_loopw [4] (fun n w'=>∃(a b:Nat) (pre:List Nat),w'=w.iter s a/\n=.int .i64 (pre.length:Int)/\pre++gw s b a=bc s/\s.size<=a+b/\pre.length<=a/\∀y∈pre,pB y=true) (fun _ w'=>s.size-w'.iterPos w)
 case atStart=>exact⟨0,s.size,[],rfl,rfl,rfl,by omega,by simp,by simp⟩
 case round=>
  obtain⟨a,b,pre,rfl,rfl,h,A,z,o⟩:=hrel;have k:=ah o;have j:=ah h;clear o h;by_cases i:a<s.size
  ·have u:∀c,(Instr.next (.pointer w) true c).run prog (w.iter s a)=_:=fun c=>run_next_any w s a c i;have B:=Lib.decode_width_pos s a i;obtain⟨b,rfl⟩:∃r,b=r+1:=⟨b-1,by omega⟩
   have q:Hid (pre++(Utf8.decode s a).1::gw s b (a+(Utf8.decode s a).2)=bc s):=by
    show _=_;rw[<-xi s b a i];exact j
   clear j;generalize hx:(Utf8.decode s a).1=x at*;generalize hd:(Utf8.decode s a).2=d at*;have l:=ah (fun W=>re (x:Int) W);clear hx hd;by_cases g:dv (x:Int)=0
   ·have m:=ah (Ot (rest:=gw s b (a+d)) k (show pB x=false by simp[pB,g]));rw[g]at l;clear g;go_wp2_with fail;refine(l _).mono ?_;rintro e w' ⟨rfl,rfl⟩;go_wp2;go_ret2;have h1:=m.1;have h2:=m.2;rw[q.out]at h1 h2;rw[h1,h2];exact⟨rfl,jI _ _ _⟩
   ·have t:pB x=true:=by simp[pB,g]
    generalize dv (x:Int)=cl at*;have v:(cl==0)=false:=by simpa using g
    clear g;go_wp2_with fail;refine(l _).mono ?_;rintro e w' ⟨rfl,rfl⟩;go_wp2_with fail
    go_roundw
    case rel=>
     refine⟨a+d,b,pre++[x],rfl,?_,?_,by omega,by simp;omega,?_⟩
     ·simp
     ·rw[fX];exact q
     ·intro y f;rcases dG.1 f with f|f
      ·exact k y f
      ·simp at f;subst f;exact t
    case measure=>first|(simp;done)|(simp;omega)
  ·have u:∀c,(Instr.next (.pointer w) true c).run prog (w.iter s a)=_:=fun c=>run_next_end w s a c i;go_wp2;go_ret2;have h:=j.out;rw[H9 s b a i,fO]at h;subst h;have p:=Ev k;rw[p.1,p.2];exact⟨rfl,jI _ _ _⟩
open Go renaming Addr->Ad
structure cg(bl:Nat)(w w':Wd):Prop where
 size:w.heap.size<=w'
 same:∀b,b<w.heap.size->b≠bl->w'.heap[b]?=w.heap[b]?
 du:Bl bl w w'
theorem cg.refl(bl:Nat)(w:World):cg bl w w:=⟨cB _,fun _ _ _=>rfl,Below.refl _ _⟩
variable{bl:Nat}
theorem cg.trans{a b c:World}(h:cg bl a b)(k:cg bl b c):cg bl a c:=⟨cF h.size k.size,fun x hx hn=>(k.same x (cD hx h.size) hn).trans (h.same x hx hn),h.du.trans k.du⟩
theorem cg.ce{w w':World}{t:TypeId}{cs:Array Value}(h:cg bl w w')(a:ai w g t cs)(hn:g≠bl):ai w' g t cs:=(h.same g a.lt hn).trans a
theorem cg.aX(h:Bl w.heap.size w w')(a:bl<=w.heap.size):cg bl w w':=⟨h.size,fun b c _=>h.block b c,h.mono a⟩
theorem cg.set{w:World}(i:Nat)(u:Value):cg bl w (w.setCell ⟨bl,i,none⟩ u):=⟨by simp,fun b _ hn=>Below.heap_setCell w _ u b hn,(Below.refl bl w).setCell (p:=⟨bl,i,none⟩) lr u⟩
theorem cg.cells{α:Type}{f:α->List Vl}{l:List α}(h:cg bl w w')(g:cp f k w A n l)(hA:0<n->∀b off,A=some ⟨b,off,none⟩->b≠bl):cp f k w' A n l:=by
 refine⟨Cells.cb g,Cells.eZ g,fun hn=> ?_⟩;obtain⟨b,off,e,c,d⟩:=Cells.at_ g hn;exact⟨b,off,e,cD c h.size,fun i r m j v o=>(World.cell?_of_block (a:=⟨b,off+i*k+j,none⟩) (h.same b c (hA hn b off e))).trans (d i r m j v o)⟩
theorem cg.cell(h:cg bl w w'){p:Ad}(a:p.block<w.heap.size)(hn:p.block≠bl):w'.cell? p=w.cell? p:=World.cell?_of_block (h.same p.block a hn)
theorem cg.gb{a b:Wd}(h:cg bl a b)(i:Nat)(d:a.heap.size<=g)(c:bl<=g)(u:Vl):cg bl a (b.setCell ⟨g,i,none⟩ u):=
 ⟨by simpa using h.size,fun x hx hn=>(Below.heap_setCell b ⟨g,i,none⟩ u x (by show x≠g;omega)).trans (h.same x hx hn),h.du.setCell (p:=⟨g,i,none⟩) c u⟩
theorem cg.ae{a b c:Wd}(h:cg bl a b)(k:Bl b.heap.size b c)(d:bl<=b.heap.size):cg bl a c:=h.trans (cg.aX k d)
theorem cg.alloc{a b:Wd}(h:cg bl a b)(o:Obj)(c:bl<=b.heap.size):cg bl a (b.alloc o):=h.ae ((Below.refl _ _).alloc lr o) c
theorem tV(B:Nat)(A:OA)(n c:Nat)(a:List Int)(x:Nat)(w:Wd)(F:B<w)(p:w.cell? B=some (.slice A n c))(h:fs w A n a)(hn:n<=1000):
 Cs prog 212 #[.int .i32 (x:Int),.pointer B] w fun e w'=>e=.returned (a.contains (dv (x:Int)):Bool)/\w=w':=by
 have s:=ah h;have C:=h.cb;have j:=ah (re (x:Int) w);obtain⟨k,q⟩:=nm (dv (x:Int));rw[<-q]at j⊢;clear h q;obtain⟨t,ht⟩:=nm (a.contains k);rw[<-ht];have o:=ah ht;clear ht;subst C;go_in;go_wp2
 go_loop [8] (fun i=>∃m:Nat,m<=a.length/\i=.int .i64 m/\∀y∈a.take m,y≠k) (fun i=>a.length-(intOf i).toNat)
 case atStart=>exact⟨0,by omega,rfl,by simp⟩
 case round=>
  obtain⟨m,H,rfl,r⟩:=hrel;have l:=ah r;clear r;by_cases D:m<a.length
  ·obtain⟨b,off,y,rfl,G,f,E⟩:=cp.int s D;have v:=ah f;by_cases d:k=y
   ·subst d;have g:Hid (t=true):=by show _=_;rw[o.out];simpa using cG f
    clear f;have z:(k==k)=true:=by simp
    go_wp2_with fail;refine aQ j ?_;go_wp2;go_ret;exact⟨ar g.symm,rfl⟩
   ·have z:(k==y)=false:=by simpa using d
    have I:decide (k=y)=false:=by simpa using d
    clear f;have u:=ah d;clear d;go_wp2_with fail;refine aQ j ?_;go_wp2_with fail
    go_round
    case rel=>exact⟨m+1,by omega,by go_num,eP l v (fun h=>u h.symm)⟩
    case measure=>simp[intOf];omega
  ·obtain rfl:m=a.length:=by omega
   have g:Hid (t=false):=by
    show _=_;rw[o.out];have:=l.out;rw[cT]at this;rw[Bool.eq_false_iff];intro p;exact this k (by simpa using p) rfl
   go_wp2;go_ret;exact⟨ar g.symm,rfl⟩
theorem O9(A:OA)(n c:Nat)(w:Wd):Cs prog 118 #[.slice A n c] w fun e w'=>e=.returned (.func (.func 212) #[] #[.pointer w])/\ai w' w 171 #[.slice A n c]/\Bl w w w':=by
 go_in;go_wp2;go_ret;exact⟨rfl,ai.new _ _ _,bR.alloc lr _⟩
abbrev ui(w:Wd)(R:Nat)(L:OA)(n c:Nat)(at_ b a:Int):Prop:=ai w R 206 #[.slice L n c,at_,b,a]
theorem pY(R:Nat)(L:OA)(n c:Nat)(at_ f a p x:Int)(w:Wd)(h:ui w R L n c at_ f a):
 Cs prog 218 #[.pointer R,p,x] w fun e w'=>e=.returned (.tuple #[])/\cg R w w'/\ui w' R L n c at_ (if a=0 then p else f) (if a=0 then x else a):=by
 have r:=h.lt;have f0:=h.ao 0;have m:=h.ao 1;have o:=h.ao 2;have q:=h.ao 3;have g:=h.cell 0;have i:=h.cell 1;have j:=h.cell 2;have k:=h.cell 3;simp at g i j k;have d:=ah h;by_cases b:a=0
 ·subst b;clear h;go_in;go_wp2;go_end0;refine⟨rfl,(cg.set 2 _).trans (cg.set 3 _),?_⟩;have:=(d.set 2 p).set 3 x;simpa [ui]using this
 ·have l:(a==0)=false:=by simpa using b
  rw[cL b,cL b];clear h;go_in;go_wp2;go_end0;exact⟨rfl,cg.refl _ _,d⟩
set_option maxRecDepth 100000
theorem Cc{q:Nat->Bool}{rs:List Nat}(h:rs[k]?=some x)(b:q x=true):ck q rs k=ck q rs (k+1)+1:=by
 obtain⟨a,rfl⟩:=cA.1 h;unfold ck;rw[dR a,List.takeWhile_cons_of_pos b,dV]
theorem vp{q:Nat->Bool}{rs:List Nat}(h:rs[k]?=some x)(b:q x=false):ck q rs k=0:=by
 obtain⟨a,rfl⟩:=cA.1 h;unfold ck;rw[dR a,List.takeWhile_cons_of_neg (by simp[b])];rfl
theorem PS{q:Nat->Bool}{rs:List Nat}(h:rs.length<=k):ck q rs k=0:=by
 unfold ck;rw[List.drop_eq_nil_of_le h];rfl
theorem Ds(q:Nat->Bool)(rs:List Nat)(k:Nat)(a:k<=rs.length):k+ck q rs k<=rs.length:=by
 unfold ck;have:=(List.takeWhile_sublist (p:=q) (l:=rs.drop k)).length_le;rw[List.length_drop]at this;omega
def Gi(R:Nat)(L:OA)(n c:Nat)(rs:List Nat)(k:Nat)(b a:Int)(q:Nat->Bool)(w:Wd)(e:Ed)(w':Wd):Prop:=
 e=.returned (.string (jO ((rs.drop k).take (ck q rs k))))/\cg R w w'/\ui w' R L n c ((k+ck q rs k:Nat):Int) b a
abbrev capA(a:Option Nat):Array Vl:=match a with|none=> #[]|some B=> #[.pointer B]
abbrev capI(a:Option Nat)(x:Nat):Array Vl:=match a with|none=> #[.int .i32 (x:Int)]|some B=> #[.int .i32 (x:Int),.pointer B]
theorem Ck(R:Nat)(L:OA)(n c:Nat)(rs:List Nat)(k:Nat)(X S:Int)(g:FuncId)(Q:Option Nat)(q:Nat->Bool)(eg:∀args w,(callFunc g args).run prog w=.ok (.enter g args) w)(w:Wd)(h:ui w R L n c (k:Int) X S)(U:wH w L n rs)
 (hL:(L=none/\n=0/\c=0)\/∃b off,L=some ⟨b,off,none⟩/\b≠R)(hk:k<=n)(hn:n<=1000)(hc:n<=c)(ht:∀(x:Nat) (W:Wd),cg R w W->Cs prog g (capI Q x) W (an (q x:Bool) W)):
 Cs prog 119 #[.pointer R,.func (.func g) #[] (capA Q)] w (Gi R L n c rs k X S q w):=by
 cases Q
 all_goals
  simp only[capA,capI]at ht⊢;have yS:=U.cb;subst yS;have HT:=ah ht;have P:=ah U;have A:=ah hL
  have F:Hid (∀R,((L=none/\rs.length=0/\c=0)\/∃b off,L=some ⟨b,off,none⟩/\b≠R)->0<rs.length->∀b off,L=some ⟨b,off,none⟩->b≠R):=by
   show∀R,_;rintro R (⟨h,-⟩|⟨b,off,h,hn⟩) T b' uI s
   ·rw[h]at s;cases s
   ·rw[h]at s;cases s;exact hn
  have i:=h.cell 1;simp at i;have HB:=ah h;have E:=ah hc;clear ht U hL h hc;go_in;go_wp2
  go_loopw [33] (fun _ wr=>∃p:Nat,k<=p/\p<=rs.length/\cg R w wr/\ui wr R L rs.length c (p:Int) X S/\k+ck q rs k=p+ck q rs p) (fun _ wr=>rs.length-(intOf ((wr.cell? ⟨R,1,none⟩).getD undef)).toNat)
  case atStart=>exact⟨k,by omega,by omega,cg.refl _ _,HB,rfl⟩
  case round=>
   obtain⟨p,M,hp,hs,j,I⟩:=hrel;have o:=j.lt;have G:Bl wr wr wr:=cC _ _;by_cases J:p<rs.length
   ·obtain⟨b,off,x,hA,uF,hx,d0⟩:=cp.rune (hs.cells P (F R A)) J;have uD:b≠R:=F.out R A (by omega) b off hA;subst hA;have K:=ah fun w' (m:Bl wr wr w')=>HT x w' (hs.trans (cg.aX m (by omega)))
    have l:Hid (∀w',Bl wr wr w'->w'.cell? R=some (.slice (some ⟨b,off,none⟩) rs.length c)/\w'.cell? ⟨R,1,none⟩=some (.int .i64 (p:Int))/\w'.cell? ⟨b,off+p,none⟩=some (.int .i32 (x:Int))):=
     fun w' m=>⟨by have:=(j.ae m o).cell 0;simpa using this,by have:=(j.ae m o).cell 1;simpa using this,(m.cell (p:=⟨b,off+p,none⟩) uF).trans d0⟩
    have HX:=ah hx;have B:=ah hs;have r:=ah j;have v:=ah I;clear hs j I hx;have dk:decide (p<rs.length)=true:=by simpa using J
    cases hq:q x
    ·rw[hq]at K;have O:=ah hq;clear hq;go_wp2_with fail;refine aw (fun w'=>Bl wr wr w') (by kernel_rfl) (by kernel_rfl) G.drew ?_
     repeat(first
      |(refine bF ?_ ?_
        ·rfl
        simp only[aP])
      |(refine cw rfl ⟨?_,fun w' a=> ?_,?_⟩
        rotate_left
        ·obtain⟨f,i,t⟩:=l w' a;simp[go_sem,f,i,t,J]
         try rfl
        simp only[aP])
      |(refine ee g _ false ?_ (fun w'=> ?_) (fun w' a=>(K w' a).mono fun e y ⟨s,j⟩=>⟨s,aa a j⟩) ?_
        ·rfl
        ·simp[go_sem,eg]
        simp only[aP]))
     refine bM ?_;intro w' b4;obtain⟨f,uG,t⟩:=l w' b4;have z:=B.trans (cg.aX b4 (by omega));have C:=z.cells P (F R A);have T:ck q rs p=0:=vp HX O;have H:p-k=ck q rs k:=by have:=v.out;omega
     have u:∀d,Bl w' w' d->(convert 204 9 (.slice (if c=k then some ⟨b,off,none⟩else some ⟨b,off+k,none⟩) (p-k) (c-k))).run prog d=.ok (.string (jO ((rs.drop k).take (p-k)))) d:=
      fun d h2=>iU (C.ae h2) k p c M hp E _ _ 21 underlying204 underlying21 underlying9
     have yX:p<=c:=by have:=E.out;omega
     have N:=ah (r.ae b4 o);have uC:=ah H;have Y:=ah z;have HZ:=ah T;clear z C T H;go_wp2_with fail;refine aw (fun y=>Bl w' w' y) (by kernel_rfl) (by kernel_rfl) bR.drew ?_
     repeat(first
      |(refine bF ?_ ?_
        ·rfl
        simp only[aP])
      |(refine cw rfl ⟨?_,fun y a=> ?_,?_⟩
        rotate_left
        ·obtain⟨f,i,t⟩:=l y (aa b4 a);simp[go_sem,f,i,t,M,yX,u y a]
         try rfl
        simp only[aP]))
     refine bM ?_;intro d b5;clear u;generalize(if c=k then some (⟨b,off,none⟩:Ad)else some ⟨b,off+k,none⟩)=A9;go_wp2;go_ret;have h5:Bl w' w' d:=b5;have D:=v.out;rw[HZ.out,fU]at D;refine⟨?_,Y.trans (cg.aX h5 (by have:=b4.size;omega)),?_⟩
     ·rw[<-uC.out];rfl
     ·rw[D];exact N.ae h5 N.lt
    ·rw[hq]at K;have O:=ah hq;clear hq;go_wp2_with fail;refine aw (fun w'=>Bl wr wr w') (by kernel_rfl) (by kernel_rfl) G.drew ?_
     repeat(first
      |(refine bF ?_ ?_
        ·rfl
        simp only[aP])
      |(refine cw rfl ⟨?_,fun w' a=> ?_,?_⟩
        rotate_left
        ·obtain⟨f,i,t⟩:=l w' a;simp[go_sem,f,i,t,J]
         try rfl
        simp only[aP])
      |(refine ee g _ true ?_ (fun w'=> ?_) (fun w' a=>(K w' a).mono fun e y ⟨s,j⟩=>⟨s,aa a j⟩) ?_
        ·rfl
        ·simp[go_sem,eg]
        simp only[aP]))
     refine bM ?_;intro w' b4;obtain⟨f,uG,t⟩:=l w' b4;have z:=B.trans (cg.aX b4 (by omega));have V:=r.ae b4 o;have f1:=V.ao 1;have N:=ah (V.set 1 ((p+1:Nat):Int));have Y:=ah (z.trans (cg.set 1 ((p+1:Nat):Int)));clear z V;go_wp2_with fail;have e1:((p+1:Nat):Int)=(p:Int)+1:=by omega
     have yZ:=r.cell 1;simp at yZ;have uB:=Y.out;have Z:=N.out;rw[e1]at uB Z;have yY:=Z.cell 1;simp at yY;have uJ:=Cc HX O;have:=v.out;refine⟨⟨p+1,by omega,by omega,uB,?_,by omega⟩,?_⟩
     ·simpa [ui]using Z
     ·rw[yZ,yY];simp[intOf];omega
   ·obtain rfl:p=rs.length:=by omega
    have B:=ah hs;have r:=ah j;have v:=ah I;have dk:decide (rs.length<rs.length)=false:=by simp
    have C:=ah (hs.cells P (F R A));have uA:Hid (ck q rs rs.length=0):=PS lr;have H:Hid (rs.length-k=ck q rs k):=by show _=_;have:=v.out;rw[uA.out]at this;omega
    clear hs j I;rcases A with⟨rfl,uE,rfl⟩|⟨b,off,rfl,uD⟩
    ·have uH:k=0:=by omega
     subst uH;have yR:rs=[]:=dJ uE;subst yR
     have u:∀d,Bl wr wr d->(convert 204 9 (.slice none 0 0)).run prog d=.ok (.string (jO [])) d:=
      fun d h2=>qx (C.out.ae h2) _ _ 21 0 underlying204 underlying21 underlying9
     have l:Hid (∀w',Bl wr wr w'->w'.cell? R=some (.slice none 0 0)/\w'.cell? ⟨R,1,none⟩=some (():Vl)):=
      fun w' m=>⟨by have:=(r.ae m o).cell 0;simpa using this,by have:=(r.ae m o).cell 1;simpa using this⟩
     go_wp2_with fail;refine aw (fun w'=>Bl wr wr w') (by kernel_rfl) (by kernel_rfl) G.drew ?_
     repeat(first
      |(refine bF ?_ ?_
        ·rfl
        simp only[aP])
      |(refine cw rfl ⟨?_,fun w' a=> ?_,?_⟩
        rotate_left
        ·obtain⟨f,i⟩:=l w' a;simp[go_sem,f,i]
         try rfl
        simp only[aP]))
     refine bM ?_;intro w1 b4;go_wp2_with fail;refine aw (fun w'=>Bl wr wr w') (by kernel_rfl) (by kernel_rfl) b4.drew ?_
     repeat(first
      |(refine bF ?_ ?_
        ·rfl
        simp only[aP])
      |(refine cw rfl ⟨?_,fun w' a=> ?_,?_⟩
        rotate_left
        ·obtain⟨f,i⟩:=l w' a;simp[go_sem,f,i,u w' a]
         try rfl
        simp only[aP]))
     refine bM ?_;intro d b5;go_wp2;go_ret;refine⟨rfl,B.trans (cg.aX b5 (by omega)),?_⟩;exact r.ae b5 o
    ·have yX:rs.length<=c:=E.out
     have u:∀d,Bl wr wr d->(convert 204 9 (.slice (if c=k then some ⟨b,off,none⟩else some ⟨b,off+k,none⟩) (rs.length-k) (c-k))).run prog d=.ok (.string (jO ((rs.drop k).take (rs.length-k)))) d:=
      fun d h2=>iU (C.out.ae h2) k rs.length c M lr E _ _ 21 underlying204 underlying21 underlying9
     have l:Hid (∀w',Bl wr wr w'->w'.cell? R=some (.slice (some ⟨b,off,none⟩) rs.length c)/\w'.cell? ⟨R,1,none⟩=some (.int .i64 (rs.length:Int))):=
      fun w' m=>⟨by have:=(r.ae m o).cell 0;simpa using this,by have:=(r.ae m o).cell 1;simpa using this⟩
     go_wp2_with fail;refine aw (fun w'=>Bl wr wr w') (by kernel_rfl) (by kernel_rfl) G.drew ?_
     repeat(first
      |(refine bF ?_ ?_
        ·rfl
        simp only[aP])
      |(refine cw rfl ⟨?_,fun w' a=> ?_,?_⟩
        rotate_left
        ·obtain⟨f,i⟩:=l w' a;simp[go_sem,f,i]
         try rfl
        simp only[aP]))
     refine bM ?_;intro w1 b4;go_wp2_with fail;refine aw (fun w'=>Bl wr wr w') (by kernel_rfl) (by kernel_rfl) b4.drew ?_
     repeat(first
      |(refine bF ?_ ?_
        ·rfl
        simp only[aP])
      |(refine cw rfl ⟨?_,fun w' a=> ?_,?_⟩
        rotate_left
        ·obtain⟨f,i⟩:=l w' a;simp[go_sem,f,i,M,yX,u w' a]
         try rfl
        simp only[aP]))
     refine bM ?_;intro d b5;clear u;generalize(if c=k then some (⟨b,off,none⟩:Ad)else some ⟨b,off+k,none⟩)=A9;go_wp2;go_ret;refine⟨?_,B.trans (cg.aX b5 (by omega)),?_⟩
     ·rw[<-H.out];rfl
     ·have D:=v.out;rw[uA.out,fU]at D;rw[D];exact r.ae b5 o
theorem Cj(R:Nat)(L:OA)(n c:Nat)(rs:List Nat)(k:Nat)(d a:Int)(g:FuncId)(B:Nat)(q:Nat->Bool)(e:∀args w,(callFunc g args).run prog w=.ok (.enter g args) w)(w:Wd)(h:ui w R L n c (k:Int) d a)(l:wH w L n rs)
 (f:(L=none/\n=0/\c=0)\/∃b off,L=some ⟨b,off,none⟩/\b≠R)(j:k<=n)(hn:n<=1000)(i:n<=c)(ht:∀(x:Nat) (W:Wd),cg R w W->Cs prog g #[.int .i32 (x:Int),.pointer B] W (an (q x:Bool) W)):
 Cs prog 119 #[.pointer R,.func (.func g) #[] #[.pointer B]] w (Gi R L n c rs k d a q w):=Ck R L n c rs k d a g (some B) q e w h l f j hn i ht
theorem IH(R:Nat)(L:OA)(n c:Nat)(rs:List Nat)(k:Nat)(d a:Int)(g:FuncId)(q:Nat->Bool)(e:∀args w,(callFunc g args).run prog w=.ok (.enter g args) w)(w:Wd)(h:ui w R L n c (k:Int) d a)(l:wH w L n rs)
 (f:(L=none/\n=0/\c=0)\/∃b off,L=some ⟨b,off,none⟩/\b≠R)(j:k<=n)(hn:n<=1000)(i:n<=c)(ht:∀(x:Nat) (W:Wd),cg R w W->Cs prog g #[.int .i32 (x:Int)] W (an (q x:Bool) W)):
 Cs prog 119 #[.pointer R,.func (.func g) #[] #[]] w (Gi R L n c rs k d a q w):=Ck R L n c rs k d a g none q e w h l f j hn i ht
set_option maxRecDepth 512
theorem Ho:∀args w,(callFunc 212 args).run prog w=.ok (.enter 212 args) w:=enters_of func212 (by kernel_rfl) rfl
theorem P8:∀args w,(callFunc 320 args).run prog w=.ok (.enter 320 args) w:=enters_of func320 (by kernel_rfl) rfl
theorem Ml(I B:Nat)(A:OA)(n c:Nat)(x:Nat)(w:Wd)(hI:w.cell? I=some (.func (.func 212) #[] #[.pointer B]))(g:B<w)(f:w.cell? B=some (.slice A n c))(h:fs w A n [2,3])(hn:n<=1000):
 Cs prog 320 #[.int .i32 (x:Int),.pointer I] w (an (gS x:Bool) w):=by
 have a:=ah (tV B A n c [2,3] x w g f h hn)
 have d:gS x=([2,3].contains (dv (x:Int))||x==45||x==95):=by
  unfold gS;simp
  congr 1
 obtain⟨t,ht⟩:=nm (([2,3]:List Int).contains (dv (x:Int)));rw[<-ht]at a d;have b:=ah d;clear ht d h f;have m:=Ho
 cases t with
 |true=>
  go_in;go_wp2_with fail;refine a.out.mono ?_;rintro e w' ⟨rfl,rfl⟩;go_wp2;go_ret;exact⟨ar (by rw[b.out];rfl),cC _ _⟩
 |false=>
  by_cases h1:x=45
  ·subst h1;go_in;go_wp2_with fail;refine a.out.mono ?_;rintro e w' ⟨rfl,rfl⟩;go_wp2;go_ret;exact⟨ar (by rw[b.out];rfl),cC _ _⟩
  ·have k:((x:Int)==45)=false:=by simp;omega
   have j:(x==45)=false:=by simp;omega
   by_cases h2:x=95
   ·subst h2;go_in;go_wp2_with fail;refine aQ a ?_;go_wp2;go_ret;exact⟨ar (by rw[b.out];rfl),cC _ _⟩
   ·have l:((x:Int)==95)=false:=by simp;omega
    have i:(x==95)=false:=by simp;omega
    rw[j,i]at b;clear h1 h2;go_in;go_wp2_with fail;refine aQ a ?_;go_wp2;go_ret;exact⟨ar (by rw[b.out];rfl),cC _ _⟩
theorem OV(c:UInt8)(h1:65<=c.toNat)(h2:c.toNat<=90):(((CW c).toNat:Nat):Int)=(c.toNat:Int)+32:=by
 have h:65<=c/\c<=90:=by
  constructor
  ·rw[UInt8.le_iff_toNat_le];simpa using h1
  ·rw[UInt8.le_iff_toNat_le];simpa using h2
 unfold CW;rw[cK h,UInt8.toNat_add];simp;omega
theorem Jy(c:UInt8)(h:¬(65<=c.toNat/\c.toNat<=90)):CW c=c:=by
 unfold CW;rw[cL];rintro⟨h1,h2⟩;apply h;rw[UInt8.le_iff_toNat_le]at h1 h2;exact⟨by simpa using h1,by simpa using h2⟩
def qm(l:List UInt8)(k:Nat):List UInt8:=(l.take k).map CW++l.drop k
theorem ER(l:List UInt8)(k:Nat):(qm l k).length=l.length:=by simp[qm];omega
theorem Jz{l:List UInt8}{c:UInt8}(h:l[k]?=some c):(qm l k)[k]?=some c:=by
 have a:=(cA.1 h).1;unfold qm;rw[dU (by simp;omega)];simp;rw[nQ (by omega),oB,fU];exact h
theorem BG{l:List UInt8}{c:UInt8}(h:l[k]?=some c):qm l (k+1)=(qm l k).set k (CW c):=by
 have a:=(cA.1 h).1;unfold qm;rw[aM h,lA,fX,nW _ _ (by simp;omega)]
 congr 1
 have e:k-(List.map CW (List.take k l)).length=0:=by simp;omega
 rw[e,dR a,iN];rfl
theorem BF{l:List UInt8}{c:UInt8}(h:l[k]?=some c)(a:CW c=c):qm l (k+1)=qm l k:=by
 rw[BG h,a];have:=Jz h;obtain⟨d,b⟩:=cA.1 this
 conv=>lhs;rw[<-b]
 exact List.set_getElem_self _
theorem OW(s:ByteArray):(⟨(qm s.data.toList s.size).toArray⟩:ByteArray)=CX s:=by
 unfold qm CX;have:s.size=s.data.toList.length:=by simp
 rw[this,cT,lH,fO]
 congr 1
 exact Array.toList_inj.1 (by simp)
theorem Ll(s:ByteArray)(w:Wd)(hs:s.size<=maxLen):Cs prog 321 #[.string s] w (an (.string (CX s)) w):=by
 unfold maxLen at hs;obtain⟨u,v,x,q⟩:=PZ (P:=prog) 9 306 5 s underlying9 underlying306 underlying5;obtain⟨o,G,m⟩:=q w;clear q;obtain⟨L,j⟩:=nm s.data.toList;have r:L.length=s.size:=by rw[j];simp
 have n:=ah (OW s);rw[<-j]at m n;have g:=ah r;clear j;go_in;go_wp2_with fail;clear x;generalize v w=W0 at*;generalize u w=c0 at*;have B:Hid (sy W0 w (qm L 0)):=by show sy _ _ _;simpa [qm]using m
 have t:=ah o;clear m o r
 go_loopw [10] (fun i wr=>∃k:Nat,k<=s.size/\i=.int .i64 k/\Bl w w wr/\sy wr w (qm L k)) (fun i _=>s.size-(intOf i).toNat)
 case atStart=>exact⟨0,by omega,rfl,t,B⟩
 case round=>
  obtain⟨k,F,rfl,e,b⟩:=hrel;by_cases H:k<s.size
  ·obtain⟨c,l⟩:∃c,L[k]?=some c:=⟨_,cE (by have:=g.out;omega)⟩;have A:=b.2 k c (Jz l);obtain⟨C,f0⟩:=A;have h:=ah b;have d:=ah e;have f:=ah l;clear b e l;by_cases h1:65<=c.toNat
   ·by_cases h2:c.toNat<=90
    ·have a:Hid (sy (wr.setCell ⟨w,k,none⟩ (.int .u8 ((c.toNat:Int)+32))) w (qm L (k+1))):=by
      show sy _ _ _;rw[BG f.out,<-OV c h1 h2];exact h.set (by rw[ER,g.out];omega) _
     have y:Hid (Bl w w (wr.setCell ⟨w,k,none⟩ (.int .u8 ((c.toNat:Int)+32)))):=d.setCell (p:=⟨w,k,none⟩) lr _;have D:IntKind.u8.wrap ((c.toNat:Int)+97)=(c.toNat:Int)+97:=by unfold IntKind.wrap;simp[IntKind.bits,IntKind.signed];omega
     have E:(c.toNat:Int)+97-65=(c.toNat:Int)+32:=by omega
     go_wp2_with fail;refine⟨⟨k+1,by omega,by simp,y,a⟩,?_⟩;simp[intOf];omega
    ·have a:Hid (sy wr w (qm L (k+1))):=by
      show sy _ _ _;rw[BF f.out (Jy c (by omega))];exact h
     go_wp2_with fail;refine⟨⟨k+1,by omega,by simp,d,a⟩,?_⟩;simp[intOf];omega
   ·have a:Hid (sy wr w (qm L (k+1))):=by
     show sy _ _ _;rw[BF f.out (Jy c (by omega))];exact h
    go_wp2_with fail;refine⟨⟨k+1,by omega,by simp,d,a⟩,?_⟩;simp[intOf];omega
  ·obtain rfl:k=s.size:=by omega
   have d:=ah e;have z:=b.back (P:=prog) 306 9 5 c0 s.size (by rw[ER,g.out]) underlying306 underlying5 underlying9;rw[n.out]at z;clear e b;go_wp2;go_ret;exact⟨rfl,d⟩
def wi(x:Nd):List Vl:=[x.st,x.jb,x.ep,x.dr,x.wt,x.si,x.ak]
abbrev tm:=cp wi 7
theorem mb:wU wi 7:=⟨fun _=>rfl,fun x u a=>by simp[wi]at a;rcases a with rfl|rfl|rfl|rfl|rfl|rfl|rfl<;>rfl,by omega⟩
abbrev mK:=be wi 7
theorem cp.seven{l:List Nd}(h:tm w A n l)(hi:i<n):∃b off s,A=some ⟨b,off,none⟩/\b<w/\l[i]?=some s/\w.cell? ⟨b,off+i*7,none⟩=some (s.st:Vl)/\w.cell? ⟨b,off+i*7+1,none⟩=some (s.jb:Vl)/\w.cell? ⟨b,off+i*7+2,none⟩=some (s.ep:Vl)/\w.cell? ⟨b,off+i*7+3,none⟩=some (s.dr:Vl)/\w.cell? ⟨b,off+i*7+4,none⟩=some (s.wt:Vl)/\w.cell? ⟨b,off+i*7+5,none⟩=some (s.si:Vl)/\w.cell? ⟨b,off+i*7+6,none⟩=some (s.ak:Vl):=by
 obtain⟨b,off,s,hA,c,hs,a⟩:=h.at_ hi;exact⟨b,off,s,hA,c,hs,a 0 _ rfl,a 1 _ rfl,a 2 _ rfl,a 3 _ rfl,a 4 _ rfl,a 5 _ rfl,a 6 _ rfl⟩
theorem Ac(n:Int)(w:Wd):Cs prog 193 #[n] w fun e w'=>e=.returned (bZ n:Bool)/\w=w':=by
 by_cases a:0<=n
 ·go_in;go_wp2;go_ret;exact⟨ar (by simp[bZ]<;>omega),rfl⟩
 ·go_in;go_wp2;go_ret;exact⟨ar (by simp[bZ]<;>omega),rfl⟩
def EA(l:List Int)(x:Int):Int:=if l.contains x then(l.findIdx (·==x):Int)else -1
theorem Rt{l:List Int}{x:Int}(h:∀y∈l,y≠x):EA l x= -1:=by
 have:l.contains x=false:=by
  rw[List.contains_eq_any_beq,iF];intro y a e;exact h y a (iC.1 e).symm
 rw[EA,this];rfl
theorem Rq{l:List Int}{x:Int}(h:∀y∈l.take k,y≠x)(hs:l[k]?=some x):EA l x=(k:Int):=by
 obtain⟨a,hx⟩:=cA.1 hs;have b:l.contains x=true:=by rw[List.contains_iff_mem];rw[<-hx];exact iH a
 have:l.findIdx (·==x)=k:=by
  rw[oH a];refine⟨by simp[hx],fun j c=> ?_⟩;have:=h l[j] (by rw[dO];exact⟨j,by omega,rfl⟩);simpa using this
 rw[EA,b,this];rfl
theorem G2(A:OA)(n c:Nat)(l:List Int)(x:Int)(w:Wd)(h:fs w A n l)(hn:n<=maxLen):
 Cs prog 168 #[.slice A n c,x] w fun e w'=>e=.returned (EA l x:Int)/\w=w':=by
 unfold maxLen at hn;have q:=h.cb;subst q;have m:=ah h;clear h;go_in;go_wp2
 go_loop [8] (fun i=>∃k:Nat,k<=l.length/\i=.int .i64 k/\∀y∈l.take k,y≠x) (fun i=>l.length-(intOf i).toNat)
 case atStart=>exact⟨0,by omega,rfl,by simp⟩
 case round=>
  obtain⟨k,u,rfl,j⟩:=hrel;have g:=ah j;clear j;by_cases r:k<l.length
  ·obtain⟨b,off,y,rfl,t,d,s⟩:=cp.int m r;by_cases a:y=x
   ·subst a;have f:=ah (Rq g d);have p:(y==y)=true:=by simp
    clear d;go_wp2;go_ret;exact⟨ax f.symm,rfl⟩
   ·have p:(x==y)=false:=by simpa using fun e=>a e.symm
    have o:=ah (eP (P:=fun z=>z≠x) g d a);clear d a;go_wp2_with fail
    go_round
    case rel=>exact⟨k+1,by omega,by go_num,o⟩
    case measure=>simp[intOf];omega
  ·obtain rfl:k=l.length:=by omega
   have f:=ah (Rt (l:=l) (x:=x) (by have:=g.out;rwa [cT]at this));go_wp2;go_ret;exact⟨ax f.symm,rfl⟩
theorem Rs(l:List Int)(x:Int):decide (0<=EA l x)=l.contains x:=by
 unfold EA;cases l.contains x<;>simp
theorem gs(A:OA)(n c:Nat)(l:List Int)(x:Int)(w:Wd)(h:fs w A n l)(hn:n<=maxLen):
 Cs prog 87 #[.slice A n c,x] w fun e w'=>e=.returned (l.contains x:Bool)/\w=w':=by
 have b:=ah (G2 A n c l x w h hn);have a:=ah (Rs l x);obtain⟨i,hi⟩:=nm (EA l x);rw[<-hi]at b a;clear h hi;go_in;go_wp2_with fail;refine aQ b ?_;go_wp2;go_ret;exact⟨ar a,rfl⟩
set_option maxRecDepth 100000
theorem two_b(w:Wd)(X:Obj)(t:Ti)(cs:Array Vl):ai ((w.alloc X).alloc (.cells cs t)) (w+1) t cs:=by
 have:=ai.new (w.alloc X) t cs;simpa using this
theorem xj(w:Wd)(X Y:Obj)(t:Ti)(cs:Array Vl):ai (((w.alloc X).alloc Y).alloc (.cells cs t)) (w+1+1) t cs:=by
 have:=ai.new ((w.alloc X).alloc Y) t cs;simpa using this
theorem TZ(w:Wd)(X Y:Obj):Bl w w ((w.alloc X).alloc Y):=(bR.alloc lr _).alloc (by simp) _
theorem T0(w:Wd)(X Y Z:Obj):Bl w w (((w.alloc X).alloc Y).alloc Z):=((bR.alloc lr _).alloc (by simp) _).alloc (by simp<;>omega) _
theorem wN(x:Nd)(w:Wd):Cs prog 109 #[.agg #[x.st,x.jb,x.ep,x.dr,x.wt,x.si,x.ak]] w (an (fb x:Bool) w):=by
 obtain⟨st,jb,ep,g,wt,si,ak⟩:=x;simp only;have hI:∀(A:OA) (n c:Nat) (l:List Int) (W:Wd),fs W A n l->n<=maxLen->Cs prog 87 #[.slice A n c,wt] W fun e w'=>e=.returned (l.contains wt:Bool)/\w'=W:=fun A n c l W h hn=>(gs A n c l wt W h hn).mono fun e w' h=>⟨h.1,h.2.symm⟩;have d:=ah (Ac si);have f:=ah (Ac ak);have b:=ah hI;clear hI;rcases(by omega:ep<0\/999999999<ep\/(0<=ep/\ep<=999999999)) with h1|h1|⟨h1,h2⟩
 iterate 2
  ·have a:Hid (fb ⟨st,jb,ep,g,wt,si,ak⟩=false):=by
    show _=_;simp[fb];omega
   go_in;go_wp2;go_ret;exact⟨ar a.symm,bR.alloc lr _⟩
 cases h3:bZ si
 ·rw[h3]at d
  have a:Hid (fb ⟨st,jb,ep,g,wt,si,ak⟩=false):=by
   show _=_;simp[fb,h3]
  clear h3;go_in;go_wp2_with fail;refine aQ (d _) ?_;go_wp2;go_ret;exact⟨ar a.symm,bR.alloc lr _⟩
 rw[h3]at d;cases h4:bZ ak
 ·rw[h4]at f
  have a:Hid (fb ⟨st,jb,ep,g,wt,si,ak⟩=false):=by
   show _=_;simp[fb,h4]
  clear h3 h4;go_in;go_wp2_with fail;refine aQ (d _) ?_;go_wp2_with fail;refine aQ (f _) ?_;go_wp2;go_ret;exact⟨ar a.symm,bR.alloc lr _⟩
 rw[h4]at f;obtain⟨v,i⟩:=nm (fb ⟨st,jb,ep,g,wt,si,ak⟩);rw[<-i];simp only[fb,pW,vX,h3,h4]at i;have q:=ah (And.intro h1 h2);have j:=fun X t c=>b _ _ c [0] _ (ip (two_b w X t #[()]) rfl) (by simp[maxLen]);have k:=fun X Y t c=>b _ _ c [0,1,3,4] _ (ip (xj w X Y t #[(),(1:Int),(3:Int),(4:Int)]) rfl) (by simp[maxLen]);have m:=fun X Y t c=>b _ _ c [0,2] _ (ip (xj w X Y t #[(),(2:Int)]) rfl) (by simp[maxLen]);have o:=fun X Y t c=>b _ _ c [5] _ (ip (xj w X Y t #[(5:Int)]) rfl) (by simp[maxLen]);have p:=fun X Y t c=>b _ _ c [0,6] _ (ip (xj w X Y t #[(),(6:Int)]) rfl) (by simp[maxLen]);clear h3 h4 b;rcases(by omega:st=0\/st=1\/st=2\/st=3\/st=4\/(st≠0/\st≠1/\st≠2/\st≠3/\st≠4)) with rfl|rfl|rfl|rfl|rfl|⟨s0,s1,s2,s3,s4⟩
 all_goals
  rcases(by omega:jb<0\/jb=0\/(1<=jb/\jb<=99999)\/99999<jb) with hj|rfl|⟨hj,hk⟩|hj
  all_goals
   try have r:(jb==0)=false:=by simp;omega
   have a:=ah i;clear i
   try
    have s:(st==0)=false:=by simpa using s0
    have u:(st==1)=false:=by simpa using s1
    have y:(st==2)=false:=by simpa using s2
    have z:(st==3)=false:=by simpa using s3
    have B:(st==4)=false:=by simpa using s4
   go_in;go_wp2_with fail;refine aQ (d _) ?_;go_wp2_with fail;refine aQ (f _) ?_;go_wp2_with fail
   try
    first|with_reducible refine aq (j _ _ _) ?_|with_reducible refine aq (k _ _ _ _) ?_|with_reducible refine aq (m _ _ _ _) ?_|with_reducible refine aq (o _ _ _ _) ?_|with_reducible refine aq (p _ _ _ _) ?_
    go_wp2_with fail
   all_goals
    go_ret;exact⟨ar (by have h:=a.out;clear a j k m o p d f q;simp_all<;>omega),by first|exact T0 _ _ _ _|exact TZ _ _ _⟩
set_option maxRecDepth 512
def ot(g:FuncId)(q:Nd->Bool):Prop:=∀(x:Nd) (W:Wd),Cs prog g #[.agg #[x.st,x.jb,x.ep,x.dr,x.wt,x.si,x.ak]] W (an (q x:Bool) W)
def gk(q:Nd->Bool)(l:List Nd):Int:=if l.any q then(l.findIdx q:Int)else -1
variable{q:Nd->Bool}
theorem wO{l:List Nd}(h:∀x∈l,q x=false):gk q l= -1:=by
 have:l.any q=false:=by rw[iF];intro x hx;rw[h x hx];simp
 simp[gk,this]
theorem AE{l:List Nd}{s:Nd}(h:∀x∈l.take k,q x=false)(hs:l[k]?=some s)(b:q s=true):gk q l=(k:Int):=by
 obtain⟨a,rfl⟩:=cA.1 hs;have c:l.any q=true:=iZ.2 ⟨_,iH a,b⟩
 have:l.findIdx q=k:=by
  rw[oH a];refine⟨b,fun j d=> ?_⟩;have:=h l[j] (by rw[dO];exact⟨j,by omega,rfl⟩);exact this
 simp[gk,c,this]
theorem Rw(q:Nd->Bool)(l:List Nd):decide (0<=gk q l)=l.any q:=by
 unfold gk;cases l.any q<;>simp
def Ar(w:Wd)(q:Nd->Bool)(l:List Nd)(i:Vl)(wr:Wd):Prop:=∃k:Nat,k<=l.length/\i=.int .i64 k/\(∀x∈l.take k,q x=false)/\Bl w w wr
theorem va(g:FuncId)(q:Nd->Bool)(H:∀args w,(callFunc g args).run prog w=.ok (.enter g args) w)(m:ot g q)
 (A:OA)(n c:Nat)(l:List Nd)(w:Wd)(h:tm w A n l)(hn:n<=maxLen):
 Cs prog 202 #[.slice A n c,.func (.func g) #[] #[]] w (an (gk q l:Int) w):=by
 unfold maxLen at hn;have v:=h.cb;subst v;have r:=ah h;have p:=ah m;clear h m;go_in;go_wp2
 go_loopw [8] (fun i wr=>Ar w q l i wr) (fun i _=>l.length-(intOf i).toNat)
 case atStart=>exact⟨0,by omega,rfl,by simp,cC _ _⟩
 case round=>
  obtain⟨k,J,rfl,o,d⟩:=hrel;have f:=ah o;clear o;by_cases y:k<l.length
  ·obtain⟨b,off,s,rfl,I,hs,z,B,C,D,E,F,G⟩:=cp.seven (r.ae d) y;have j:=ah hs;have a:=ah (p s wr);clear hs;cases hq:q s
   ·rw[hq]at a;have t:=ah (eP (P:=fun x=>q x=false) f j hq);clear hq;go_wp2_with fail;refine av a fun u b2=> ?_;go_wp2_with fail;exact⟨⟨k+1,by omega,by go_num,t,aa d b2⟩,by simp[intOf];omega⟩
   ·rw[hq]at a;have e:=ah (AE f j hq);clear hq;go_wp2_with fail;refine av a fun u b2=> ?_;go_wp2;go_ret;exact⟨ax e.symm,aa d b2⟩
  ·obtain rfl:k=l.length:=by omega
   have e:=ah (wO (q:=q) (l:=l) (by have:=f.out;rwa [cT]at this));go_wp2;go_ret;exact⟨ax e.symm,d⟩
theorem KA(g:FuncId)(q:Nd->Bool)(d:∀args w,(callFunc g args).run prog w=.ok (.enter g args) w)(e:ot g q)
 (A:OA)(n c:Nat)(l:List Nd)(w:Wd)(h:tm w A n l)(hn:n<=maxLen):
 Cs prog 107 #[.slice A n c,.func (.func g) #[] #[]] w (an (l.any q:Bool) w):=by
 have b:=ah (va g q d e A n c l w h hn);have a:=ah (Rw q l);obtain⟨i,hi⟩:=nm (gk q l);rw[<-hi]at b a;clear h hi e d;go_in;go_wp2_with fail;refine av b fun w' b1=> ?_;go_wp2;go_ret;exact⟨ar a,b1⟩
theorem GD:ot 108 (fun x=> !fb x):=by
 intro x W;have a:=ah (wN x);go_in;go_wp2_with fail;refine(a _).mono ?_;rintro e b ⟨rfl,b1⟩;go_wp2;go_ret;exact⟨rfl,aa (bR.alloc lr _) b1⟩
theorem Kk:∀args w,(callFunc 108 args).run prog w=.ok (.enter 108 args) w:=enters_of func108 (by kernel_rfl) rfl
theorem jJ(A:OA)(n c:Nat)(l:List Nd)(w:Wd)(h:tm w A n l)(hn:n<=maxLen):
 Cs prog 51 #[.slice A n c] w (an (jL l:Int) w):=by
 have i:=hn;unfold maxLen at i;have f:=h.cb;subst f;by_cases h1:l.length<1
 ·have a:=ah (eM (Kv h1));clear h;go_in;go_wp2;go_ret;exact⟨ax a.symm,cC _ _⟩
 have g:1<=l.length:=by omega
 by_cases h2:48<l.length
 ·have a:=ah (eM (xH h2));clear h h1;go_in;go_wp2;go_ret;exact⟨ax a.symm,cC _ _⟩
 have j:l.length<=48:=by omega
 have d:=ah (KA _ _ Kk GD A l.length c l w h hn);have b:=ah (QZ g j);clear h h1 h2;cases hy:l.any (fun x=> !fb x)
 ·rw[hy]at d b;have a:=ah (fh b);clear hy b;go_in;go_wp2_with fail;refine av d fun e b1=> ?_;go_wp2;go_ret;exact⟨ax a.symm,b1⟩
 ·rw[hy]at d b;have a:=ah (eM b);clear hy b;go_in;go_wp2_with fail;refine av d fun e b1=> ?_;go_wp2;go_ret;exact⟨ax a.symm,b1⟩
theorem nodeInfo:(prog.info? 34).map (fun i=>(i.zero,i.size,i.bytes))=some (some (.agg #[(),(),(),false,(),(),()]),7,56):=by kernel_rfl
def NewN(l:List Nd)(w:Wd)(e:Ed)(w':Wd):Prop:=∃A c,e=.returned (.slice A l.length c)/\mK w' w A l.length c l/\Bl w w w'
theorem Hl(A:OA)(n c:Nat)(p:List Nd)(w:Wd)(h:tm w A n p)(hn:n<=1000000)(hA:A=none->c=0):
 Cs prog 195 #[.slice A n c] w (NewN p w):=by
 have o:=h.cb;subst o
 cases A with
 |none=>
  have q:p=[]:=by
   cases p with
   |nil=>rfl
   |cons x r=>obtain⟨b,off,_,e,_⟩:=h.at_ (i:=0) (by simp);cases e
  subst q;obtain rfl:=hA rfl;clear h hA hn;have g:=fun(w:Wd)=>Lib.run_eql_slice_nil (P:=prog) w 22 34 none 0 0 0 0 underlying22;go_in;go_wp2;go_ret;exact⟨none,0,rfl,be.nil _ _ _ _,cC _ _⟩
 |some a=>
  obtain⟨k,m,t,d,j,f,_,_⟩:=dy mb (P:=prog) (w.alloc (.cells #[] 34)) w 22 22 34 _ 56 underlying22 nodeInfo rfl w 0 0 [] (be.none _ _ _ _ _) (some a) p.length c p (h.ae (bR.alloc lr _)) (by simp[maxLen];omega) (by omega) (by simp);simp only[cR,dH]at d j;have l:=ah d;have s:=((cC w w).alloc lr (.cells #[] 34)).trans f;clear d f h;have g:=fun(w:Wd)=>Lib.run_eql_slice_nil (P:=prog) w 22 34 (some a) p.length c 0 0 underlying22;simp only[iV]at g;go_in;go_wp2_with(at_builtin;refine au rfl _ _ rfl rfl rfl l ?_);go_ret;exact⟨k,m,rfl,j,s⟩
theorem zu(h:n<64):2^n<2^64:=Nat.pow_lt_pow_right (by omega) h
theorem Su(n:Nat)(w:Wd)(hn:n<64):Cs prog 61 #[n] w fun e w'=>e=.returned (.int .u64 ((2^n:Nat):Int))/\w=w':=by
 have a:=ah (wrap_u64 (2^n) (zu hn));go_in;go_wp2;go_ret;exact⟨ax (by have:=a.out;simpa using this),rfl⟩
theorem Db(P n:Nat)(w:Wd)(hn:n<64)(a:P=2^n):Cs prog 61 #[n] w fun e w'=>e=.returned (.int .u64 (P:Int))/\w=w':=a▸Su n w hn
def eD(m:List Nat):Nat:=(m.map (2^·)).sum
theorem rM(m:List Nat)(k:Nat):eD (m++[k])=eD m+2^k:=by simp[eD]
theorem Fz:∀(n:Nat) (m:List Nat) (b:Nat),m.length=n->m.Pairwise (·<·)->(∀x∈m,x<b)->eD m<2^b:=by
 intro n
 induction n with
 |zero=>
  intro m b a _ _;have:m=[]:=dJ a;subst this;exact rC b
 |succ n ih=>
  intro m b a c e;rcases List.eq_nil_or_concat m with rfl|⟨f,k,rfl⟩
  ·simp at a
  ·simp only[List.concat_eq_append]at*;rw[rM];rw[fA]at c;have h1:=ih f k (by simpa using a) c.1 (fun x hx=>c.2.2 x hx k (by simp));have h2:k<b:=e k (by simp);have d:2^(k+1)<=2^b:=oA (by omega) (by omega);rw[rH]at d;omega
theorem rz(m:List Nat)(b:Nat)(c:m.Pairwise (·<·))(a:∀x∈m,x<b):eD m<2^b:=Fz _ m b rfl c a
variable{s:Nat}
theorem QN(h:s<2^k):s&&&2^k=0:=by
 apply iW;intro i;rw[oG,rD,Nat.zero_testBit];by_cases hi:k=i
 ·subst hi;rw[Nat.testBit_lt_two_pow h];rfl
 ·simp[hi]
theorem Po(h:s<2^k):s|||2^k=s+2^k:=by
 have:=Nat.two_pow_add_eq_or_of_lt h 1;rw[nK]at this;rw[Nat.or_comm,<-this,Nat.add_comm]
def dL(m:List Nat):List Int:=m.map (fun(k:Nat)=>(k:Int))
def As(s:Nat)(w:Wd)(e:Ed)(w':Wd):Prop:=e=.returned (.tuple #[.int .u64 (s:Int),()])/\w=w'
theorem JD(A:OA)(n c:Nat)(m:List Nat)(w:Wd)(h:fs w A n (dL m))(hn:n<=maxLen)(u:m.Pairwise (·<·))(t:∀x∈m,x<64):
 Cs prog 115 #[.slice A n c] w (As (eD m) w):=by
 unfold maxLen at hn;have C:=h.cb;have F:(dL m).length=m.length:=by simp[dL]
 rw[F]at C;subst C;have G:=ah h;have q:=ah u;have H:=ah t;clear h u t F;go_in;go_wp2
 go_loop [4,9] (fun s i=>∃k:Nat,k<=m.length/\i=.int .i64 k/\s=.int .u64 ((eD (m.take k):Nat):Int)) (fun _ i=>m.length-(intOf i).toNat)
 case atStart=>exact⟨0,by omega,rfl,rfl⟩
 case round=>
  obtain⟨k,R,rfl,rfl⟩:=hrel;by_cases E:k<m.length
  ·obtain⟨b,off,z,rfl,O,a,N⟩:=cp.int G E;obtain⟨x,hx⟩:∃x,m[k]?=some x:=⟨_,cE E⟩
   have M:z=(x:Int):=by
    rw[dL,dD,hx]at a;injection a with a
    exact a.symm
   subst M;have v:=H.out x (vg hx)
   have l:eD (m.take k)<2^x:=by
    refine rz _ _ (q.sublist (nX _ _)) fun y I=> ?_;obtain⟨j,Q,rfl⟩:=dO.1 I;obtain⟨L,rfl⟩:=cA.1 hx;exact cN.1 q j k (by omega) L (by omega)
   have o:=zu v;have f:eD (m.take (k+1))=eD (m.take k)+2^x:=by rw[aM hx,rM]
   obtain⟨P,g⟩:=nm (2^x);have d:=j9 (eD (m.take k)) (2^x) (by omega) o;have e:=I4 (eD (m.take k)) (2^x) (by omega) o;rw[QN l]at d;rw[Po l,<-f]at e;rw[<-g]at d e;have B:=ah (Db P x w v g);have J:=ah f;obtain⟨S,D⟩:∃S:Nat,S=eD (m.take k):=⟨_,rfl⟩;obtain⟨r,p⟩:∃r:Nat,r=eD (m.take (k+1)):=⟨_,rfl⟩;rw[<-D]at d e⊢;rw[<-p]at e;have K:=ah p;have U:(0:Int)<=(x:Int):=by omega
   have T:(x:Int)<64:=by omega
   clear a hx l o f g D p J;simp only[Int.natCast_zero]at d;go_wp2_with fail;refine aQ B ?_;go_wp2_with fail;refine aQ B ?_;go_wp2_with fail
   go_round
   case rel=>exact⟨k+1,by omega,by go_num,by rw[<-K.out]⟩
   case measure=>simp[intOf];omega
  ·obtain rfl:k=m.length:=by omega
   rw[cT];go_wp2;go_ret2;exact⟨rfl,rfl⟩
set_option maxRecDepth 100000
theorem pf:(prog.info? 3).map (fun i=>(i.zero,i.size,i.bytes))=some (some (.int .i64 0),1,8):=by kernel_rfl
def pw(q:Nd->Bool)(l:List Nd)(k:Nat):List Nat:=(List.range k).filter (fun i=>(l[i]?.map q).getD false)
theorem qy{l:List Nd}{x:Nd}(h:l[k]?=some x):pw q l (k+1)=pw q l k++if q x then [k]else []:=by
 unfold pw;rw[List.range_succ,iB]
 congr 1
 cases hq:q x<;>simp[h,hq]
theorem Do{l:List Nd}:∀i∈pw q l k,i<k:=by
 intro i hi;exact fS.1 (fM.1 hi).1
theorem If(q:Nd->Bool)(l:List Nd)(k:Nat):(pw q l k).Pairwise (·<·):=List.pairwise_lt_range.sublist iQ
theorem zG(q:Nd->Bool)(l:List Nd):∀k,k<=l.length->eD (pw q l k)=ia q (l.take k)
 |0,_=>rfl
 |k+1,hk=>by
  have hx:=cE (show k<l.length by omega);rw[qy hx,LV hx,<-zG q l k (by omega)];cases hq:q l[k]
  ·simp
  ·simp[rM]
theorem mG(a b:List Nat):dL (a++b)=dL a++dL b:=by simp[dL]
def cd(q:Nd->Bool)(l:List Nd):Nat:=if aO l then ia q l else 0
def WhRel(w:Wd)(q:Nd->Bool)(l:List Nd)(X Y:Vl)(wr:Wd):Prop:=∃(k:Nat) (A:OA) (n c:Nat),k<=l.length/\X=.slice A n c/\Y=.int .i64 k/\n<=k/\df wr w A n c (dL (pw q l k))/\Bl w w wr
abbrev cpA(a:Option (Ad×Ad)):Array Vl:=match a with|none=> #[]|some (P,Q)=> #[.pointer (some P),.pointer (some Q)]
abbrev cpI(a:Option (Ad×Ad))(x:Nd):Array Vl:=match a with|none=> #[.agg #[x.st,x.jb,x.ep,x.dr,x.wt,x.si,x.ak]]|some (P,Q)=> #[.agg #[x.st,x.jb,x.ep,x.dr,x.wt,x.si,x.ak],.pointer (some P),.pointer (some Q)]
theorem Ci(g:FuncId)(z:Option (Ad×Ad))(q:Nd->Bool)(eg:∀args w,(callFunc g args).run prog w=.ok (.enter g args) w)(A:OA)(n c:Nat)(l:List Nd)(w:Wd)
 (j:∀(x:Nd) (W:Wd),Bl w w W->Cs prog g (cpI z x) W (an (q x:Bool) W))(h:tm w A n l)(hn:n<=maxLen):
 Cs prog 62 #[.slice A n c,.func (.func g) #[] (cpA z)] w (an (.int .u64 (cd q l:Int)) w):=by
 rcases z with _|⟨P,Q⟩
 all_goals
  simp only[cpA,cpI]at j⊢;have yG:=h.cb;subst yG;have p:=ah (jJ A l.length c l w h hn);cases hck:aO l
  ·rw[eM hck]at p;have t:Hid (cd q l=0):=by show _=_;simp[cd,hck]
   clear hck h j;go_in;go_wp2_with fail;refine av p fun w1 b1=> ?_;go_wp2;go_ret;rw[t.out];exact⟨rfl,b1⟩
  ·rw[fh hck]at p;have yN:=(cQ.1 hck).cf;have t:Hid (cd q l=ia q l):=by show _=_;simp[cd,hck]
   have R:=ah h;have O:=ah j;clear hck h j;go_in;go_wp2_with fail;refine av p fun w1 b1=> ?_;go_wp2
   go_loopw [5,15] (fun X Y wr=>WhRel w q l X Y wr) (fun _ Y _=>l.length-(intOf Y).toNat)
   case atStart=>exact⟨0,none,0,0,by omega,rfl,rfl,by omega,be.nil _ _ _ _,b1⟩
   case round=>
    obtain⟨k,r,m,y,hk,rfl,rfl,yQ,H,D⟩:=hrel;have e:=ah H;clear H;by_cases yP:k<l.length
    ·obtain⟨b,off,s,rfl,hb,hs,T,Z,d2,d3,d4,d5,d6⟩:=cp.seven (R.ae D) yP;have d:=ah (qy (q:=q) hs);clear hs;go_wp2_with fail;obtain⟨V,B⟩:=nm (wr.alloc (.cells #[s.st,s.jb,s.ep,s.dr,s.wt,s.si,s.ak] 34));rw[<-B];have v:Bl wr wr V:=B▸bR.alloc lr _;have E:=aa D v;have o:=ah (O s V E);clear B T Z d2 d3 d4 d5 d6;cases hq:q s
     ·rw[hq]at o d;rw[cL (by simp),fO]at d;clear hq;refine av o fun a b2=> ?_;go_wp2_with fail;exact⟨⟨k+1,r,m,y,by omega,rfl,by go_num,by omega,by rw[d.out];exact(e.ae v).ae b2,aa E b2⟩,by simp[intOf];omega⟩
     ·rw[hq]at o d;rw[cK rfl]at d;clear hq;refine av o fun a b2=> ?_;have M:=aa E b2;obtain⟨U,f⟩:=nm (a.alloc (.cells #[k] 3));have u:Bl a a U:=f▸bR.alloc lr _;have I:fs U a 1 [(k:Int)]:=f▸cp.new gi a (k:Int) #[k] 3 rfl;obtain⟨N,S,w3,J,C,b3,_,_⟩:=dy gi (P:=prog) U w 171 171 3 _ 8 underlying171 pf rfl r m y _ (((e.ae v).ae b2).ae u) a 1 1 [(k:Int)] I (by simp only[maxLen];omega) (by omega) (cF M.size u.size);have L:dL (pw q l k)++[(k:Int)]=dL (pw q l (k+1)):=by rw[d.out,mG];rfl
      rw[L]at C;have G:=ah J;have yM:=ah C;rw[f]at G;have yO:=(aa M u).trans b3;clear J C I f L;go_wp2_with(at_builtin;refine au rfl _ _ rfl rfl rfl G ?_);exact⟨⟨k+1,N,m+1,S,by omega,rfl,by go_num,by omega,yM,yO⟩,by simp[intOf];omega⟩
    ·obtain rfl:k=l.length:=by omega
     have F:=zG q l l.length lr;rw[cT,<-t.out]at F;have K:=ah (JD r m y (pw q l l.length) wr (e.et gi) (be.max e) (If q l _) (fun i hi=>by have:=Do i hi;omega));rw[F]at K;clear F;go_wp2_with fail;refine aQ K ?_;go_wp2;go_ret;exact⟨rfl,D⟩
theorem Ak(g:FuncId)(q:Nd->Bool)(a:∀args w,(callFunc g args).run prog w=.ok (.enter g args) w)(A:OA)(n c:Nat)(l:List Nd)(w:Wd)
 (b:∀(x:Nd) (W:Wd),Bl w w W->Cs prog g #[.agg #[x.st,x.jb,x.ep,x.dr,x.wt,x.si,x.ak]] W (an (q x:Bool) W))(h:tm w A n l)(hn:n<=maxLen):
 Cs prog 62 #[.slice A n c,.func (.func g) #[] #[]] w (an (.int .u64 (cd q l:Int)) w):=Ci g none q a A n c l w b h hn
theorem IG(g:FuncId)(P Q:Ad)(q:Nd->Bool)(a:∀args w,(callFunc g args).run prog w=.ok (.enter g args) w)(A:OA)(n c:Nat)(l:List Nd)(w:Wd)
 (b:∀(x:Nd) (W:Wd),Bl w w W->Cs prog g #[.agg #[x.st,x.jb,x.ep,x.dr,x.wt,x.si,x.ak],.pointer (some P),.pointer (some Q)] W (an (q x:Bool) W))(h:tm w A n l)(hn:n<=maxLen):
 Cs prog 62 #[.slice A n c,.func (.func g) #[] #[.pointer (some P),.pointer (some Q)]] w (an (.int .u64 (cd q l:Int)) w):=Ci g (some (P,Q)) q a A n c l w b h hn
def fo(x:Nd):Bool:=x.st==0&& !x.dr
def F8(x:Nd):Bool:=x.st !=4&& !x.dr
def xd(bD state:Int)(x:Nd):Bool:=x.jb==bD&&x.st==state
theorem K1(x:Nd)(W:Wd):Cs prog 245 #[.agg #[x.st,x.jb,x.ep,x.dr,x.wt,x.si,x.ak]] W (an (fo x:Bool) W):=by
 cases h:(x.st==0)
 ·have a:Hid (fo x=false):=by show _=_;simp[fo,h]
  go_in;go_wp2;go_ret;exact⟨ar a.symm,bR.alloc lr _⟩
 ·have a:Hid (fo x= !x.dr):=by show _=_;simp[fo,h]
  go_in;go_wp2;go_ret;exact⟨ar a.symm,bR.alloc lr _⟩
theorem SS(x:Nd)(W:Wd):Cs prog 246 #[.agg #[x.st,x.jb,x.ep,x.dr,x.wt,x.si,x.ak]] W (an (F8 x:Bool) W):=by
 cases h:(x.st !=4)
 ·have a:Hid (F8 x=false):=by show _=_;simp[F8,h]
  go_in;go_wp2;go_ret;exact⟨ar a.symm,bR.alloc lr _⟩
 ·have a:Hid (F8 x= !x.dr):=by show _=_;simp[F8,h]
  go_in;go_wp2;go_ret;exact⟨ar a.symm,bR.alloc lr _⟩
theorem Sk(x:Nd)(bD state:Int)(P Q:Nat)(W:Wd)(d:P<W)(e:Q<W)(b:W.cell? P=some (bD:Vl))(c:W.cell? Q=some (state:Vl)):
 Cs prog 63 #[.agg #[x.st,x.jb,x.ep,x.dr,x.wt,x.si,x.ak],.pointer P,.pointer Q] W (an (xd bD state x:Bool) W):=by
 have f:P≠W:=by omega
 have g:Q≠W:=by omega
 cases h:(x.jb==bD)
 ·have a:Hid (xd bD state x=false):=by show _=_;simp[xd,h]
  go_in;go_wp2;go_ret;exact⟨ar a.symm,bR.alloc lr _⟩
 ·have a:Hid (xd bD state x=(x.st==state)):=by show _=_;simp[xd,h]
  go_in;go_wp2;go_ret;exact⟨ar a.symm,bR.alloc lr _⟩
theorem Oq(A:OA)(n c:Nat)(l:List Nd)(w:Wd)(h:tm w A n l)(hn:n<=maxLen):Cs prog 148 #[.slice A n c] w (an (.int .u64 (cd fo l:Int)) w):=by
 have a:=ah (Ak 245 fo (enters_of func245 (by kernel_rfl) rfl) A n c l w (fun x W _=>K1 x W) h hn);clear h;go_in;go_wp2_with fail;refine av a fun b b1=> ?_;go_wp2;go_ret;exact⟨rfl,b1⟩
theorem P4(A:OA)(n c:Nat)(l:List Nd)(w:Wd)(h:tm w A n l)(hn:n<=maxLen):Cs prog 149 #[.slice A n c] w (an (.int .u64 (cd F8 l:Int)) w):=by
 have a:=ah (Ak 246 F8 (enters_of func246 (by kernel_rfl) rfl) A n c l w (fun x W _=>SS x W) h hn);clear h;go_in;go_wp2_with fail;refine av a fun b b1=> ?_;go_wp2;go_ret;exact⟨rfl,b1⟩
theorem CK(A:OA)(n c:Nat)(l:List Nd)(bD state:Int)(w:Wd)(h:tm w A n l)(hn:n<=maxLen):Cs prog 30 #[.slice A n c,bD,state] w (an (.int .u64 (cd (xd bD state) l:Int)) w):=by
 obtain⟨V,a⟩:=nm ((w.alloc (.cells #[bD] 3)).alloc (.cells #[state] 3));have d:Bl w w V:=a▸(bR.alloc lr _).alloc (by simp) _;have kP:ai V w 3 #[bD]:=a▸(ai.new _ _ _).alloc _
 have kQ:ai V (w+1) 3 #[state]:=by
  rw[a];have:=ai.new (w.alloc (.cells #[bD] 3)) 3 #[state];simpa using this
 have e:=ah (IG 63 w (w+1:Nat) (xd bD state) (enters_of func63 (by kernel_rfl) rfl) A n c l V (fun x W b=>Sk x bD state _ _ W (cD kP.lt b.size) (cD kQ.lt b.size) ((b.cell (p:=w) kP.lt).trans (kP.cell 0)) ((b.cell (p:=(w+1:Nat)) kQ.lt).trans (kQ.cell 0))) (h.ae d) hn);clear h kP kQ;go_in;go_wp2_with fail;rw[<-a];clear a;refine av e fun f b1=> ?_;go_wp2;go_ret;exact⟨rfl,aa d b1⟩
set_option maxRecDepth 512
theorem B4{α:Type}(q:α->Bool){l:List α}(h:l.length<=64):ia q l<2^64:=cD (Dq q l) (oA (by omega) h)
def eH(a b:Nat):Nat:=((BitVec.ofInt 64 (a:Int))&&&~~~(BitVec.ofInt 64 (b:Int))).toNat
theorem jm(a b:Nat):bits .andNot .u64 (a:Int) (b:Int)=((eH a b:Nat):Int):=by
 unfold bits;show IntKind.u64.wrap _=_;have e:((BitVec.ofInt IntKind.u64.bits (a:Int))&&&~~~(BitVec.ofInt IntKind.u64.bits (b:Int))).toNat=eH a b:=rfl;rw[e,wrap_u64 _ (by unfold eH;exact BitVec.isLt _)]
theorem lh(a b i:Nat):(eH a b).testBit i=(decide (i<64)&&a.testBit i&& !b.testBit i):=by
 unfold eH;rw[BitVec.testBit_toNat,BitVec.getLsbD_and,BitVec.getLsbD_not,BitVec.ofInt_natCast,BitVec.ofInt_natCast,BitVec.getLsbD_ofNat,BitVec.getLsbD_ofNat];by_cases h:i<64<;>simp[h]
def dw(s:Nat):List Nat:=(List.range 64).filter (fun i=>s.testBit i)
def sm:Nat->Nat->Nat->List Nat
 |0,_,_=>[]
 |f+1,k,s=>(if s % 2=1 then [k]else [])++sm f (k+1) (s/2)
theorem DT:∀(f k s:Nat),sm f k s=((List.range f).filter (fun i=>s.testBit i)).map (·+k)
 |0,k,s=>rfl
 |f+1,k,s=>by
  rw[sm,DT f (k+1) (s/2),List.range_succ_eq_map,List.filter_cons]
  have e:(List.filter (fun i=>s.testBit i) (List.map Nat.succ (List.range f))).map (·+k)=((List.range f).filter (fun i=>(s/2).testBit i)).map (·+(k+1)):=by
   rw[List.filter_map,nO]
   have:((fun i=>s.testBit i)∘Nat.succ)=(fun i=>(s/2).testBit i):=by
    funext i
    simp[Nat.testBit_succ]
   rw[this]
   congr 1
   funext i
   simp;omega
  rw[Nat.testBit_zero];by_cases h:s % 2=1
  ·simp only[h,oT,decide_true,lY,cR];rw[e];rfl
  ·simp only[h,rO,decide_false,dH];rw[cL (by simp)];exact e.symm
theorem Kh(s:Nat):sm 64 0 s=dw s:=by rw[DT];simp[dw]
theorem zE(q:Nd->Bool)(l:List Nd):∀k,k<=l.length->(pw q l k).length=((l.take k).filter q).length
 |0,_=>rfl
 |k+1,hk=>by
  have hx:=cE (show k<l.length by omega);rw[qy hx,aM hx,cY,iB,cY,zE q l k (by omega)]
  congr 1
  cases hq:q l[k]<;>simp[hq]
theorem Ie(q:Nd->Bool)(l:List Nd):∀k,l.length<=k->pw q l k=pw q l l.length:=by
 intro k
 induction k with
 |zero=>intro h;have:l.length=0:=by omega
        rw[this]
 |succ k ih=>
  intro h;by_cases a:l.length=k+1
  ·rw[a]
  ·rw[<-ih (by omega)];unfold pw;rw[List.range_succ,iB];have:l[k]?=none:=dP (by omega);simp[this]
theorem BI(q:Nd->Bool)(l:List Nd)(h:l.length<=64):dw (ia q l)=pw q l l.length:=by
 rw[<-Ie q l 64 h];unfold dw pw
 congr 1
 funext i
 rw[mh]
theorem Hj(q:Nd->Bool)(l:List Nd)(h:l.length<=64):(dw (ia q l)).length=(l.filter q).length:=by
 rw[BI q l h,zE q l l.length lr,cT]
theorem tN(s:Nat):(dw s).length<=64:=by
 have:=l8 (fun i=>s.testBit i) (List.range 64);rw[List.length_range]at this;exact this
theorem xb(s:Nat):(dw s).Pairwise (·<·):=List.pairwise_lt_range.sublist iQ
theorem JC(h:i∈dw s):i<64:=fS.1 (fM.1 h).1
def mask(m:Nat):Nat->Nat
 |0=>0
 |n+1=>m+256*mask m n
def val:List Nat->Nat
 |[]=>0
 |b::r=>b+256*val r
theorem mV(a c b d:Nat)(g:a<256)(h:b<256):(a+256*c)&&&(b+256*d)=(a&&&b)+256*(c&&&d):=by
 have f:a&&&b<2^8:=nM Nat.and_le_left g;have e:∀x y,x+256*y=2^8*y+x:=fun x y=>by omega
 apply iW;intro i;rw[oG,e a,e b,e (a&&&b),lK _ (show a<2^8 by omega),lK _ (show b<2^8 by omega),lK _ f];split
 ·rw[oG]
 ·rw[oG]
def g1(b:Nat):Nat:=((b/2)&&&85)+(b&&&85)
def g2(b:Nat):Nat:=((b/4)&&&51)+(b&&&51)
def g3(b:Nat):Nat:=(b/16+b)&&&15
theorem m1:∀b:Fin 256,∀u:Fin 2,(b.val/2+128*u.val)&&&85=(b.val/2)&&&85:=by decide+kernel
theorem m2:∀b:Fin 256,∀u:Fin 4,(b.val/4+64*u.val)&&&51=(b.val/4)&&&51:=by decide+kernel
theorem m3:∀b:Fin 69,∀u:Fin 5,(b.val/16+16*u.val+b.val)&&&15=(b.val/16+b.val)&&&15:=by decide+kernel
theorem g1_lt:∀b:Fin 256,g1 b.val<256:=by decide+kernel
theorem g2_lt:∀b:Fin 256,g2 (g1 b.val)<=68/\g2 (g1 b.val) % 16<=4:=by decide+kernel
def D7(b:Nat):Nat:=g3 (g2 (g1 b))
theorem Q8:∀b:Fin 256,D7 b.val<=8:=by decide+kernel
theorem Q7:∀b:Fin 256,D7 b.val=b.val % 2+b.val/2 % 2+b.val/4 % 2+b.val/8 % 2+b.val/16 % 2+b.val/32 % 2+b.val/64 % 2+b.val/128 % 2:=by decide+kernel
theorem st1:∀a:List Nat,(∀b∈a,b<256)->((val a/2)&&&mask 85 a.length)+(val a&&&mask 85 a.length)=val (a.map g1)
 |[],_=>by simp[val,mask]
 |b::r,h=>by
  have c:=h b (by simp);have d:=st1 r (fun x hx=>h x (by simp[hx]));have e:(b+256*val r)/2=(b/2+128*(val r % 2))+256*(val r/2):=by omega
  simp only[val,mask,dV,lY];rw[e,mV _ _ _ _ (by omega) (by omega),mV _ _ _ _ c (by omega),m1 ⟨b,c⟩ ⟨val r % 2,Nat.mod_lt _ (by omega)⟩,<-d];unfold g1;simp only;omega
theorem st2:∀a:List Nat,(∀b∈a,b<256)->((val a/4)&&&mask 51 a.length)+(val a&&&mask 51 a.length)=val (a.map g2)
 |[],_=>by simp[val,mask]
 |b::r,h=>by
  have c:=h b (by simp);have d:=st2 r (fun x hx=>h x (by simp[hx]));have e:(b+256*val r)/4=(b/4+64*(val r % 4))+256*(val r/4):=by omega
  simp only[val,mask,dV,lY];rw[e,mV _ _ _ _ (by omega) (by omega),mV _ _ _ _ c (by omega),m2 ⟨b,c⟩ ⟨val r % 4,Nat.mod_lt _ (by omega)⟩,<-d];unfold g2;simp only;omega
theorem Mj:∀a:List Nat,(∀b∈a,b<=68/\b % 16<=4)->val a % 16<=4
 |[],_=>by simp[val]
 |b::r,h=>by
  have:=h b (by simp);simp only[val];omega
theorem st3:∀a:List Nat,(∀b∈a,b<=68/\b % 16<=4)->((val a/16)+val a)&&&mask 15 a.length=val (a.map g3)
 |[],_=>by simp[val,mask]
 |b::r,h=>by
  have d:=h b (by simp);have c:=st3 r (fun x hx=>h x (by simp[hx]));have f:=Mj r (fun x hx=>h x (by simp[hx]));have e:(b+256*val r)/16+(b+256*val r)=(b/16+16*(val r % 16)+b)+256*(val r/16+val r):=by omega
  simp only[val,mask,dV,lY];rw[e,mV _ _ _ _ (by omega) (by omega),m3 ⟨b,by omega⟩ ⟨val r % 16,by omega⟩,c];rfl
def bytesOf:Nat->Nat->List Nat
 |0,_=>[]
 |n+1,s=>s % 256::bytesOf n (s/256)
theorem vM:∀n s,(bytesOf n s).length=n
 |0,_=>rfl
 |n+1,s=>by simp[bytesOf,vM n]
theorem xE:∀n s,∀b∈bytesOf n s,b<256
 |0,_,b,h=>by simp[bytesOf]at h
 |n+1,s,b,h=>by
  rcases dK.1 h with rfl|h
  ·exact Nat.mod_lt _ (by omega)
  ·exact xE n _ b h
theorem vN:∀n s,s<256^n->val (bytesOf n s)=s
 |0,s,h=>by simp at h;subst h;rfl
 |n+1,s,h=>by
  rw[bytesOf,val,vN n (s/256) (by rw[rH]at h;omega)];omega
def pop:Nat->Nat->Nat
 |0,_=>0
 |n+1,s=>D7 (s % 256)+pop n (s/256)
theorem jl(f k s:Nat):(sm (f+1) k s).length=s % 2+(sm f (k+1) (s/2)).length:=by
 rw[sm,cY];by_cases h:s % 2=1
 ·rw[cK h,h];rfl
 ·rw[cL h];have:s % 2=0:=by omega
  rw[this];rfl
theorem Gy(f k s:Nat):(sm (f+8) k s).length=D7 (s % 256)+(sm f (k+8) (s/256)).length:=by
 rw[jl (f+7),jl (f+6),jl (f+5),jl (f+4),jl (f+3),jl (f+2),jl (f+1),jl f,Q7 ⟨s % 256,Nat.mod_lt _ (by omega)⟩];have e:s/2/2/2/2/2/2/2/2=s/256:=by simp only[Nat.div_div_eq_div_mul]
 have a:k+1+1+1+1+1+1+1+1=k+8:=by omega
 have b:s % 2=s % 256 % 2:=by omega
 have h1:s/2 % 2=s % 256/2 % 2:=by omega
 have h2:s/2/2 % 2=s % 256/4 % 2:=by omega
 have c:s/2/2/2 % 2=s % 256/8 % 2:=by omega
 have d:s/2/2/2/2 % 2=s % 256/16 % 2:=by omega
 have g:s/2/2/2/2/2 % 2=s % 256/32 % 2:=by omega
 have h:s/2/2/2/2/2/2 % 2=s % 256/64 % 2:=by omega
 have i:s/2/2/2/2/2/2/2 % 2=s % 256/128 % 2:=by omega
 rw[e,a,b,h1,h2,c,d,g,h,i];simp only[oD]
theorem AY:∀n k s,(sm (8*n) k s).length=pop n s
 |0,k,s=>rfl
 |n+1,k,s=>by
  rw[Nat.mul_add,nK,Gy,AY n];rfl
theorem SE(s:Nat):pop 8 s=(dw s).length:=by rw[<-Kh,<-AY 8 0 s]
theorem JL:∀n s,pop n s=((bytesOf n s).map D7).sum
 |0,_=>rfl
 |n+1,s=>by rw[pop,bytesOf,lY,List.sum_cons,JL n]
theorem GJ{m a z:Nat}(hx:x=a+m*z)(b:a<m):x/m=z:=by
 subst hx;rw[Nat.add_mul_div_left _ _ (by omega),Nat.div_eq_of_lt b,cR]
theorem Uw{m a z:Nat}(hx:x=a+m*z)(b:a<m):x % m=a:=by
 subst hx;rw[Nat.add_mul_mod_self_left,Nat.mod_eq_of_lt b]
theorem im{a t A T:Nat}(b:a<=A)(ht:t<=T):a+256*t<=A+256*T:=by omega
theorem h8{a b c d e f h:Nat}(i:a<=64)(h1:b<=64)(h2:c<=64)(j:d<=64)(k:e<=64)(l:f<=64)(m:g<=64)(n:h<=64):a+256*(b+256*(c+256*(d+256*(e+256*(f+256*(g+256*(h)))))))<9223372036854775808:=
 nM (im i (im h1 (im h2 (im j (im k (im l (im m n))))))) (by decide)
theorem fk1(b c d e f g h i x:Nat)(j:b<256)(hx:x=b+256*(c+256*(d+256*(e+256*(f+256*(g+256*(h+256*(i)))))))):x/256=c+256*(d+256*(e+256*(f+256*(g+256*(h+256*(i)))))):=GJ (a:=b) hx j
theorem fy1(a b c d e f g h x l:Nat)(j:a<256)(hx:x=a+256*(b+256*(c+256*(d+256*(e+256*(f+256*(g+256*(h))))))))(i:l=x+x/256):l=(a+b)+256*((b+c)+256*((c+d)+256*((d+e)+256*((e+f)+256*((f+g)+256*((g+h)+256*(h))))))):=by
 have k:=fk1 a b c d e f g h x j hx;rw[i,k,hx];clear i k hx j;omega
theorem fk2(b c d e f g h i x:Nat)(j:b<256)(h1:c<256)(hx:x=b+256*(c+256*(d+256*(e+256*(f+256*(g+256*(h+256*(i)))))))):x/65536=d+256*(e+256*(f+256*(g+256*(h+256*(i))))):=by
 refine GJ (a:=b+256*c) ?_ (by omega);rw[hx];clear hx j h1;omega
theorem fy2(i a b c d e f g h m:Nat)(l:i+a<256)(h1:a+b<256)(hx:h=(i+a)+256*((a+b)+256*((b+c)+256*((c+d)+256*((d+e)+256*((e+f)+256*((f+g)+256*(g))))))))(j:m=h+h/65536):m=(i+a+b+c)+256*((a+b+c+d)+256*((b+c+d+e)+256*((c+d+e+f)+256*((d+e+f+g)+256*((e+f+g)+256*((f+g)+256*(g))))))):=by
 have k:=fk2 _ _ _ _ _ _ _ _ h l h1 hx;rw[j,k,hx];clear j k hx l h1;omega
theorem fk3(b c d e f g h i x:Nat)(j:b<256)(h1:c<256)(h2:d<256)(k:e<256)(hx:x=b+256*(c+256*(d+256*(e+256*(f+256*(g+256*(h+256*(i)))))))):x/4294967296=f+256*(g+256*(h+256*(i))):=by
 refine GJ (a:=b+256*(c+256*(d+256*e))) ?_ (nM (im (sD j) (im (sD h1) (im (sD h2) (sD k)))) (by decide));rw[hx];clear hx j h1 h2 k;omega
theorem fy3(i g f a b c d e h n:Nat)(l:i+g+f+a<256)(h1:g+f+a+b<256)(h2:f+a+b+c<256)(m:a+b+c+d<256)(hx:h=(i+g+f+a)+256*((g+f+a+b)+256*((f+a+b+c)+256*((a+b+c+d)+256*((b+c+d+e)+256*((c+d+e)+256*((d+e)+256*(e))))))))(j:n=h+h/4294967296):n=(i+g+f+a+b+c+d+e)+256*((g+f+a+b+c+d+e)+256*((f+a+b+c+d+e)+256*((a+b+c+d+e)+256*((b+c+d+e)+256*((c+d+e)+256*((d+e)+256*(e))))))):=by
 have k:=fk3 _ _ _ _ _ _ _ _ h l h1 h2 m hx;rw[j,k,hx];clear j k hx l h1 h2 m;omega
theorem Rj(n i h g e d b a:Nat)(s:n<=8)(h1:i<=8)(h2:h<=8)(t:g<=8)(u:e<=8)(v:d<=8)(w:b<=8)(y:a<=8)(x p q r:Nat)
 (hx:x=val [n,i,h,g,e,d,b,a])(j:p=x+x/256)(k:q=p+p/65536)(l:r=q+q/4294967296):r % 128=n+i+h+g+e+d+b+a/\r<9223372036854775808/\p<9223372036854775808/\q<9223372036854775808:=by
 have m:x=n+256*(i+256*(h+256*(g+256*(e+256*(d+256*(b+256*(a))))))):=hx;have c:=fy1 n i h g e d b a x p (by omega) m j;have f:=fy2 n i h g e d b a p q (by clear m c hx j k l;omega) (by clear m c hx j k l;omega) c k;have o:=fy3 n i h g e d b a q r (by clear m c f hx j k l;omega) (by clear m c f hx j k l;omega) (by clear m c f hx j k l;omega) (by clear m c f hx j k l;omega) f l;have hs:n+i+h+g+e+d+b+a<=64:=by clear m c f o hx j k l;omega
 clear hx j k l m;refine⟨?_,?_,?_,?_⟩
 ·refine Uw (z:=2*((i+h+g+e+d+b+a)+256*((h+g+e+d+b+a)+256*((g+e+d+b+a)+256*((e+d+b+a)+256*((d+b+a)+256*((b+a)+256*(a)))))))) ?_ (by clear c f o;omega);rw[o];clear c f o hs s h1 h2 t u v w y;omega
 ·rw[o];clear c f o;exact h8 (by omega) (by omega) (by omega) (by omega) (by omega) (by omega) (by omega) (by omega)
 ·rw[c];clear c f o;exact h8 (by omega) (by omega) (by omega) (by omega) (by omega) (by omega) (by omega) (by omega)
 ·rw[f];clear c f o;exact h8 (by omega) (by omega) (by omega) (by omega) (by omega) (by omega) (by omega) (by omega)
theorem Dr:∀(n:Nat) (m:List Nat) (i:Nat),m.length=n->m.Pairwise (·<·)->(eD m).testBit i=decide (i∈m):=by
 intro n
 induction n with
 |zero=>
  intro m i a _;have:m=[]:=dJ a;subst this;simp[eD]
 |succ n ih=>
  intro m i a b;rcases List.eq_nil_or_concat m with rfl|⟨c,k,rfl⟩
  ·simp at a
  ·simp only[List.concat_eq_append]at*;rw[fA]at b;have h1:=ih c i (by simpa using a) b.1;have d:=rz c k b.1 (fun x hx=>b.2.2 x hx k (by simp));rw[rM,<-Po d,Nat.testBit_or,h1,rD];simp[eq_comm]
theorem nv(m:List Nat)(i:Nat)(a:m.Pairwise (·<·)):(eD m).testBit i=decide (i∈m):=Dr _ m i rfl a
theorem qq:i∈dw s↔i<64/\s.testBit i=true:=by simp[dw]
theorem LW(h:s<2^64):eD (dw s)=s:=by
 apply iW;intro i;rw[nv _ _ (xb s)];by_cases hi:i<64
 ·cases hb:s.testBit i
  ·rw[dS,qq];simp[hb]
  ·rw[iM,qq];exact⟨hi,hb⟩
 ·have:s.testBit i=false:=Nat.testBit_lt_two_pow (cD h (oA (by omega) (by omega)));rw[this,dS,qq];omega
theorem Lq{m:List Nat}(d:m.Pairwise (·<·))(j:∀x∈m,x<64):dw (eD m)=m:=by
 have g:=xb (eD m)
 have k:∀i,i∈dw (eD m)↔i∈m:=fun i=>by
  rw[qq,nv m i d,iM];exact⟨fun h=>h.2,fun h=>⟨j i h,h⟩⟩
 exact sorted_ext g d k
where
 sorted_ext:∀{a b:List Nat},a.Pairwise (·<·)->b.Pairwise (·<·)->(∀i,i∈a↔i∈b)->a=b
  |[],[],_,_,_=>rfl
  |[],y::b,_,_,h=>by have:=(h y).2 (by simp);simp at this
  |x::a,[],_,_,h=>by have:=(h x).1 (by simp);simp at this
  |x::a,y::b,ha,hb,h=>by
   obtain⟨c,f⟩:=dY.1 ha;obtain⟨b1,b2⟩:=dY.1 hb
   have l:x=y:=by
    rcases dK.1 ((h x).1 (by simp))with e|e
    ·exact e
    ·rcases dK.1 ((h y).2 (by simp))with e'|e'
     ·exact e'.symm
     ·have:=b1 x e;have:=c y e';omega
   subst l
   congr 1
   refine sorted_ext f b2 fun i=> ?_;constructor
   ·intro hi;rcases dK.1 ((h i).1 (by simp[hi]))with e|e
    ·subst e;have:=c i hi;omega
    ·exact e
   ·intro hi;rcases dK.1 ((h i).2 (by simp[hi]))with e|e
    ·subst e;have:=b1 i hi;omega
    ·exact e
theorem vo(p:Nat)(r:List Nat):eD (p::r)=2^p+eD r:=by simp[eD]
theorem B7:∀(r:List Nat) (p:Nat),(∀x∈r,p<x)->∃q,eD r=2^(p+1)*q
 |[],p,_=>⟨0,by simp[eD]⟩
 |x::r,p,h=>by
  obtain⟨q,a⟩:=B7 r p (fun y b=>h y (by simp[b]));have hx:=h x (by simp);refine⟨2^(x-(p+1))+q,?_⟩;rw[vo,a,Nat.mul_add,<-Nat.pow_add]
  congr 2
  omega
theorem Kw{p:Nat}{r:List Nat}(h:∀x∈r,p<x):eD (p::r)&&&(eD (p::r)-1)=eD r:=by
 obtain⟨q,d⟩:=B7 r p h;have g:=rC p;rw[vo,d];have a:2^p+2^(p+1)*q=2^(p+1)*q+2^p:=by omega
 have b:2^p+2^(p+1)*q-1=2^(p+1)*q+(2^p-1):=by omega
 have e:2^p<2^(p+1):=by rw[rH];omega
 have f:2^p-1<2^(p+1):=by omega
 rw[b,a];apply iW;intro i;have c:2^(p+1)*q=2^(p+1)*q+0:=rfl;rw[oG,lK _ e,lK _ f]
 conv=>rhs;rw[c,lK _ (rC _)]
 split
 ·rw[rD,Nat.testBit_two_pow_sub_one,Nat.zero_testBit];by_cases hi:p=i
  ·subst hi;simp
  ·simp[hi]
 ·rw[Bool.and_self]
theorem KJ{m:List Nat}(a:m.Pairwise (·<·))(f:∀x∈m,x<64)(n:Nat):eH (eD m) (eD (m.drop n))=eD (m.take n):=by
 apply iW;intro i;have j:(m.drop n).Pairwise (·<·):=a.sublist (List.drop_sublist _ _);have k:(m.take n).Pairwise (·<·):=a.sublist (nX _ _);rw[lh,nv _ _ a,nv _ _ j,nv _ _ k];have c:m.Nodup:=a.imp (fun h=>by omega);rw[nS];simp only[cH,dA,nD,dS];have b:=iR n m;rw[<-b]at c;have g:=List.nodup_append.1 c;constructor
 ·rintro⟨⟨_,h1⟩,h2⟩;rw[<-b]at h1;rcases dG.1 h1 with h|h
  ·exact h
  ·exact absurd h h2
 ·intro h;have d:i∈m:=lG h;refine⟨⟨f i d,d⟩,fun e=> ?_⟩;exact g.2.2 i h i e rfl


end Go.Proofs.YthfhilggbbobmaaGreatDoor
