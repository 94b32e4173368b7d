/- Parts of the proof. -/
import Derived.Test.YthfhilggbbobmaaGreatDoorK1
import Derived.WalkKit
import Derived.Deep.Draws
import Derived.Lib.Hide
import Derived.Maps.AppendAt
import Derived.Deep.Upon
import Derived.ProofKit
import Derived.Deep.Fields
import Derived.Lib.SliceRun
set_option linter.all false
set_option maxHeartbeats 20000000
namespace Go.Proofs.YthfhilggbbobmaaGreatDoor
open Go.Proofs.Tryz
open Go renaming World->Wd,Value->Vl,Addr->Ad,TypeId->Ti
open Go.RowKit renaming Below->Bl
open Go.RowKit
def ai(w:Wd)(g:Nat)(t:Ti)(cs:Array Vl):Prop:=w.heap[g]?=some (.cells cs t (0,0))
section
variable {w w' : World} {g : Nat} {t : TypeId} {cs : Array Value}
theorem ai.lt(h:ai w g t cs):g<w:=lt_of_block h
theorem ai.cell(h:ai w g t cs)(i:Nat):w.cell? ⟨g,i,none⟩=cs[i]?:=cell_of_row w g i cs t (0,0) h
theorem ai.ao(h:ai w g t cs)(i:Nat):w.frozen? ⟨g,i,none⟩=false:=by
 have a:w.heap[g]?=some (.cells cs t (0,0)):=h;simp[World.frozen?,a]
theorem ai.new(w:Wd)(t:Ti)(cs:Array Vl):ai (w.alloc (.cells cs t)) w t cs:=by
 exact heap_alloc_new w _
theorem ai.drew(h:ai w g t cs):ai w.drew g t cs:=h
theorem ai.drewN(h:ai w g t cs)(n:Nat):ai (w.drewN n) g t cs:=h
theorem ai.alloc(h:ai w g t cs)(o:Obj):ai (w.alloc o) g t cs:=(Below.heap_alloc w o g h.lt).trans h
theorem ai.set(h:ai w g t cs)(i:Nat)(u:Vl):ai (w.setCell ⟨g,i,none⟩ u) g t (cs.setIfInBounds i u):=by
 unfold ai at h⊢;simp[World.setCell,oP,h]
theorem ai.ll(h:ai w g t cs){p:Ad}(a:g≠p.block)(u:Vl):ai (w.setCell p u) g t cs:=(Below.heap_setCell w p u g a).trans h
variable{B:Nat}
theorem ai.ae(h:ai w g t cs)(a:Bl B w w')(b:g<B):ai w' g t cs:=(a.block g b).trans h
end
variable{w:Wd}
theorem below_drewN{B:Nat}{a:Wd}(h:Bl B a w)(n:Nat):Bl B a (w.drewN n):=⟨h.os,h.tape,h.output,h.size,h.block⟩
theorem aa{a b c:Wd}(h:Bl a a b)(k:Bl b b c):Bl a a c:=h.trans (k.mono h.size)
theorem ax{k:IntKind}{a b:Int}(h:a=b):Ending.returned (.int k a)=.returned (.int k b):=by rw[h]
theorem ar{a b:Bool}(h:a=b):Ending.returned a=.returned b:=by rw[h]
def Row(w:Wd)(A:OA)(n:Nat)(a:List Vl):Prop:=
 a.length=n/\(0<n->∃b off,A=some ⟨b,off,none⟩/\b<w/\∀i v,a[i]?=some v->w.cell? ⟨b,off+i,none⟩=some v)
section
variable {w w' : World} {A : Option Addr} {n : Nat} {vs : List Value}
variable{k:Nat}
theorem Row.at_(h:Row w A n vs)(d:k<n):∃b off v,A=some ⟨b,off,none⟩/\b<w/\vs[k]?=some v/\w.cell? ⟨b,off+k,none⟩=some v:=by
 obtain⟨b,off,e,f,c⟩:=h.2 (by omega);have a:k<vs.length:=by rw[h.1];exact d
 exact⟨b,off,vs[k],e,f,cE a,c k _ (cE a)⟩
end
def Strs(w:Wd)(A:OA)(n:Nat)(l:List ByteArray):Prop:=Row w A n (l.map Value.string)
section
variable {w w' : World} {A : Option Addr} {n : Nat} {l : List ByteArray}
theorem Strs.cb(h:Strs w A n l):l.length=n:=by have:=h.1;simpa using this
variable{k:Nat}
theorem Strs.at_(h:Strs w A n l)(d:k<n):∃b off s,A=some ⟨b,off,none⟩/\b<w/\l[k]?=some s/\w.cell? ⟨b,off+k,none⟩=some (.string s):=by
 obtain⟨b,off,v,e,f,a,c⟩:=Row.at_ h d;rw[dD]at a
 cases hs:l[k]? with
 |none=>rw[hs]at a;cases a
 |some s=>rw[hs]at a;injection a with a;subst a;exact⟨b,off,s,e,f,rfl,c⟩
end
variable{α:Type}{l:List α}{k:Nat}{x:α}
theorem aM(h:l[k]?=some x):l.take (k+1)=l.take k++[x]:=by
 obtain⟨a,rfl⟩:=cA.1 h;rw[fF a]
theorem vg(h:l[k]?=some x):x∈l:=cG h
open Go renaming Ending->Ed,Program->Pg,Calls->Cs
theorem ah{p:Prop}(h:p):Hid p:=h
variable{P:Pg}{f:FuncId}{a:Array Vl}{v:Vl}{Q:Ed->Wd->Prop}
theorem aq(h:Cs P f a w fun e w'=>e=.returned v/\w'=w)(k:Q (.returned v) w):Cs P f a w Q:=h.mono fun e w' ⟨h1,h2⟩=>by subst h1;subst h2;exact k
theorem aQ(h:Cs P f a w fun e w'=>e=.returned v/\w=w')(k:Q (.returned v) w):Cs P f a w Q:=h.mono fun e w' ⟨h1,h2⟩=>by subst h1;subst h2;exact k
theorem av{R:Wd->Prop}(h:Cs P f a w fun e w'=>e=.returned v/\R w')(k:∀w',R w'->Q (.returned v) w'):Cs P f a w Q:=h.mono fun e w' ⟨h1,h2⟩=>by subst h1;exact k w' h2
theorem ay{A:Wd}(b:Hid (Bl A A w))(h:Cs P f a w fun e w'=>e=.returned v/\Bl w w w')(k:∀w',Hid (Bl A A w')->Q (.returned v) w'):Cs P f a w Q:=h.mono fun e w' ⟨h1,h2⟩=>by subst h1;exact k w' (aa b h2)
theorem az(w:Wd)(c:Array Vl)(t:Ti):∃V,V=w.alloc (.cells c t)/\Bl w w V/\ai V w t c:=⟨_,rfl,(Below.refl _ _).alloc lr _,ai.new _ _ _⟩
theorem aA{o:Obj}:Bl w w (w.alloc o):=(Below.refl _ _).alloc lr _
theorem aC{o p:Obj}:Bl w w ((w.alloc o).alloc p):=aA.alloc (by simp) _
variable{i:Nat}
theorem aE{a:α}:l.toArray.setIfInBounds i a=(l.set i a).toArray:=iG ..
theorem aF{a:α}:(x::l).set (i+1) a=x::l.set i a:=lC
theorem aG{a:α}:(x::l).set 0 a=a::l:=iN
theorem bR{B:Nat}:Bl B w w:=Below.refl _ _
theorem aP:(∀(a:Act)(d:Tmp)(v:Vl),a.put (some d) v={a with tmps:=a.tmps.setIfInBounds d v})/\(∀(a:Act)(v:Vl),a.put none v=a)/\(∀{α:Type}{l:List α}{i:Nat}{a:α},l.toArray.setIfInBounds i a=(l.set i a).toArray)/\(∀{α:Type}{x:α}{l:List α}{i:Nat}{a:α},(x::l).set (i+1) a=x::l.set i a)/\∀{α:Type}{x:α}{l:List α}{a:α},(x::l).set 0 a=a::l:=⟨fun _ _ _=>rfl,fun _ _=>rfl,iG ..,lC,iN⟩
theorem aW:(∀{α:Type}{l:List α}{i:Nat}(h:i<l.toArray.size),l.toArray[i]=l[i]'(by simpa using h))/\(∀{α:Type}{a:α}{l:List α}{i:Nat}(h:i+1<(a::l).length),(a::l)[i+1]=l[i]'(by simpa using h))/\∀{α:Type}{a:α}{l:List α}{h:0<(a::l).length},(a::l)[0]=a:=⟨fun _=>rfl,fun _=>rfl,rfl⟩
abbrev cC:=@Go.RowKit.Below.refl
abbrev cU:=@Go.bodyPost_ret
abbrev dI:=@Go.World.cell?_of_block
abbrev dM:=@Go.Exit.noGoto_ret
abbrev dN:=@Go.RowKit.Below.heap_setCell
abbrev f9:=@Go.setRow_other
abbrev fE:=@Go.setRow_size
abbrev iT:=@Go.World.size_alloc
abbrev lE:=@Go.results_none
abbrev lM:=@Go.World.cell?_alloc_lt
abbrev lS:=@Go.IntWalk.i64_in
abbrev lT:=@Go.World.size_setCell
abbrev lV:=@Go.callsIn_wide
abbrev n7:=@Go.Sem.run_pure
abbrev nE:=@Go.World.cell?_setCells_out
abbrev nJ:=@Go.World.cell?_setCells_in
abbrev nT:=@Go.RowKit.Below.drew
abbrev nU:=@Go.Sem.run_bind
abbrev o0:=@Go.Result.andThen_ok
abbrev oM:=@Go.size_zeroCells
abbrev oN:=@Go.run_underlying
abbrev rI:=@Go.run_loadVar_row
abbrev sB:=@Go.info_parts
abbrev sH:=@Go.RowKit.run_makeMap
def gw(s:ByteArray):Nat->Nat->List Nat
 |0,_=>[]
 |f+1,p=>if p<s.size then(Utf8.decode s p).1::gw s f (p+(Utf8.decode s p).2)else []
def bc(s:ByteArray):List Nat:=gw s s.size 0
def dv(r:Int):Int:=
 if r=9\/r=32 then 1
 else if r<32\/(127<=r/\r<=160)\/(55296<=r/\r<=57343)\/r=65533\/1114111<r then 0
 else if 48<=r/\r<=57 then 3
 else if(97<=r/\r<=122)\/(65<=r/\r<=90)\/160<r then 2
 else 4
def pB(r:Nat):Bool:=dv (r:Int) !=0
def Eu(l:List Nat):Nat:=(l.takeWhile pB).length
def CW(c:UInt8):UInt8:=if 65<=c/\c<=90 then c+32 else c
def CX(s:ByteArray):ByteArray:=⟨s.data.map CW⟩
def jv(s:ByteArray):Bool:=(bc s).all pB&&decide (1<=(bc s).length)&&decide ((bc s).length<=16)
def gS(r:Nat):Bool:=dv (r:Int)==2||dv (r:Int)==3||r==45||r==95
def jO(l:List Nat):ByteArray:=l.foldl (fun s (r:Nat)=>s++Utf8.encode (r:Int)) ByteArray.empty
def ck(q:Nat->Bool)(rs:List Nat)(k:Nat):Nat:=((rs.drop k).takeWhile q).length
def ev(x:Nat):Bool:=([1]:List Int).contains (dv (x:Int))
def ki(s:ByteArray):Bool:=
 decide (s.size<=400)&&((bc s).head?.map fun(r:Nat)=>dv (r:Int)==2).getD false&&
 (ck gS (bc s) 0+ck ev (bc s) (ck gS (bc s) 0)==(bc s).length)&&decide (CX (jO ((bc s).take (ck gS (bc s) 0)))=s)
def sy(w:Wd)(g:Nat)(l:List UInt8):Prop:=
 g<w/\∀i c,l[i]?=some c->w.cell? ⟨g,i,none⟩=some (.int .u8 (c.toNat:Int))/\w.frozen? ⟨g,i,none⟩=false
section
variable {w w' : World} {g : Nat} {l : List UInt8}
theorem sy.set(h:sy w g l)(hi:i<l.length)(c:UInt8):sy (w.setCell ⟨g,i,none⟩ (.int .u8 (c.toNat:Int))) g (l.set i c):=by
 refine⟨by simpa [World.setCell]using h.1,fun j d a=> ?_⟩;have m:(w.setCell ⟨g,i,none⟩ (.int .u8 (c.toNat:Int))).frozen? ⟨g,j,none⟩=w.frozen? ⟨g,j,none⟩:=by simp
 by_cases k:i=j
 ·subst k;rw[fH hi]at a;injection a with a
  subst a;obtain⟨b,f⟩:=h.2 i _ (cE hi);exact⟨World.cell?_setCell_same _ _ _ (by rw[b]),by rw[m];exact f⟩
 ·rw[iK k]at a;obtain⟨b,f⟩:=h.2 j _ a;exact⟨by rw[World.cell?_setCell_other _ _ _ _ (by intro e;injection e with _ e;exact k e)];exact b,by rw[m];exact f⟩
theorem sy.back(h:sy w g l)(src a e:Ti)(b n:Nat)(hn:n=l.length)(hs:P.underlying src=some (.slice e))(d:P.underlying e=some (.int .u8))(c:P.underlying a=some .string):
 (convert src a (.slice g n b)).run P w=.ok (.string ⟨l.toArray⟩) w:=by
 subst hn;refine run_convert_bytes_back w src a e _ b l hs d c (fun j f=> ?_);have:(g:Ad).add j=⟨g,j,none⟩:=by unfold Addr.add;split<;>simp_all
 rw[this];exact(h.2 j _ (cE f)).1
end
theorem PZ(src f e:Ti)(s:ByteArray)(hs:P.underlying src=some .string)(j:P.underlying f=some (.slice e))(k:P.underlying e=some (.int .u8)):
 ∃(g:Wd->Nat) (b:Wd->Wd),(∀W,(convert src f (.string s)).run P W=.ok (.slice W s.size (g W)) (b W))/\
  ∀W,Bl W.heap.size W (b W)/\s.size<=g W/\sy (b W) W.heap.size s.data.toList:=by
 refine⟨fun w=>grownCap w s.size 0 e,fun w=>w.drew.alloc (.cells (bytesRow s (grownCap w s.size 0 e)) e ((bytesRow s (grownCap w s.size 0 e)).size,(bytesRow s (grownCap w s.size 0 e)).size+1)),fun W=>run_bytes_of_string W src f e s hs j k,fun W=> ?_⟩;have m:=grownCap_ge W s.size 0 e;refine⟨(Below.refl _ _).drew.alloc lr _,m,by simp,fun i c a=> ?_⟩
 have hi:i<s.size:=by
  have:=(cA.1 a).1;simpa using this
 have d:(W.drew.alloc (.cells (bytesRow s (grownCap W s.size 0 e)) e ((bytesRow s (grownCap W s.size 0 e)).size,(bytesRow s (grownCap W s.size 0 e)).size+1))).heap[W.heap.size]?=some (.cells (bytesRow s (grownCap W s.size 0 e)) e ((bytesRow s (grownCap W s.size 0 e)).size,(bytesRow s (grownCap W s.size 0 e)).size+1)):=heap_alloc_new W.drew _
 have h:(bytesRow s (grownCap W s.size 0 e))[i]?=some (.int .u8 (c.toNat:Int)):=by
  unfold bytesRow;rw[Array.getElem?_append_left (by simpa using hi),Array.getElem?_map];rw[iS]at a;rw[a];rfl
 have l:i<(bytesRow s (grownCap W s.size 0 e)).size:=(fC.1 h).1;refine⟨(cell_of_row _ _ i _ _ _ d).trans h,?_⟩;show World.frozen? (W.drew.alloc (.cells (bytesRow s (grownCap W s.size 0 e)) e ((bytesRow s (grownCap W s.size 0 e)).size,(bytesRow s (grownCap W s.size 0 e)).size+1))) ⟨W,i,none⟩=false;generalize bytesRow s (grownCap W s.size 0 e)=R at d l⊢;unfold World.frozen?;rw[d];simp;omega
def Rd(W:Wd)(A:OA)(m size:Nat)(b:List Vl):Prop:=
 b.length=m*size/\(0<m->∃a,A=some a/\∀j u,b[j]?=some u->W.cell? (a.add j)=some u)
theorem pt(b off i:Nat):(⟨b,off,none⟩:Ad).add i=⟨b,off+i,none⟩:=by unfold Addr.add;split<;>simp_all
structure eY(w:Wd)(base size:Nat)(A:OA)(n c:Nat)(xs:List Vl):Prop where
 cb:xs.length=n*size
 le:n<=c
 max:c<=maxLen
 room:0<c->∃g,A=some ⟨g,0,none⟩/\base<=g/\g<w/\(∀j,j<n*size->w.cell? ⟨g,j,none⟩=xs[j]?)/\∀j,j<c*size->(w.cell? ⟨g,j,none⟩).isSome=true/\w.frozen? ⟨g,j,none⟩=false
 cz:A=none->c=0
theorem eY.nil(w:Wd)(base size:Nat):eY w base size none 0 0 []:=⟨by simp,by omega,by simp[maxLen],fun h=>absurd h (by omega),fun _=>rfl⟩
variable{base size n c:Nat}{A:OA}{xs:List Vl}
theorem eY.ij{w':Wd}(h:eY w base size A n c xs)(l:w.heap.size<=w')(i:∀g,A=some ⟨g,0,none⟩->g<w->w'.heap[g]?=w.heap[g]?):eY w' base size A n c xs:=
 ⟨h.cb,h.le,h.max,fun f=>by
   obtain⟨g,hA,e,k,h1,h2⟩:=h.room f;have b:=i g hA k;refine⟨g,hA,e,by omega,fun j d=>(World.cell?_of_block (a:=⟨g,j,none⟩) b).trans (h1 j d),fun j d=> ?_⟩;rw[World.cell?_of_block (a:=⟨g,j,none⟩) b,World.frozen?_of_block (a:=⟨g,j,none⟩) b];exact h2 j d,h.cz⟩
theorem eY.ae{w':Wd}(h:eY w base size A n c xs)(a:Bl w w w'):eY w' base size A n c xs:=h.ij a.size fun g _ b=>a.block g b
theorem eY.ll(h:eY w base size A n c xs){p:Ad}(k:p.block<base)(u:Vl):eY (w.setCell p u) base size A n c xs:=by
 refine⟨h.cb,h.le,h.max,fun f=> ?_,h.cz⟩;obtain⟨g,hA,e,i,h1,h2⟩:=h.room f;have b:(w.setCell p u).heap[g]?=w.heap[g]?:=Below.heap_setCell w p u g (by omega);refine⟨g,hA,e,by simpa using i,fun j d=>(World.cell?_of_block (a:=⟨g,j,none⟩) b).trans (h1 j d),fun j d=> ?_⟩;rw[World.cell?_of_block (a:=⟨g,j,none⟩) b,World.frozen?_of_block (a:=⟨g,j,none⟩) b];exact h2 j d
theorem eY.drew(h:eY w base size A n c xs):eY w.drew base size A n c xs:=h.ij lr fun _ _ _=>rfl
theorem eY.mono{a:Nat}(h:eY w base size A n c xs)(d:a<=base):eY w a size A n c xs:=
 ⟨h.cb,h.le,h.max,fun b=>by obtain⟨g,h1,h2,r⟩:=h.room b;exact⟨g,h1,by omega,r⟩,h.cz⟩
theorem eY.rd(h:eY w base size A n c xs):Rd w A n size xs:=
 ⟨h.cb,fun hn=>by
   obtain⟨g,hA,_,_,h1,_⟩:=h.room (by have:=h.le;omega);refine⟨_,hA,fun j u a=> ?_⟩;rw[pt,cR,h1 j (by rw[<-h.cb];exact(cA.1 a).1),a]⟩
theorem eY.UA{e:Ti}(h:w.ownsRow base e size (.slice A n c) n xs):eY w base size A n c xs:=by
 rcases h.2 with⟨a,l⟩|⟨g,o,cur,a,f,b,hn,k,hs,ht⟩
 ·injection a with h1 h2 h3;exact⟨h.1,by omega,by rw[h3];simp[maxLen],fun m=>by omega,fun _=>h3⟩
 ·injection a with h1 h2 h3;subst h1 h3;refine⟨h.1,hn,k,fun _=>⟨g,rfl,f,lt_of_block b,fun j d=>h.cellAt j d,fun j d=>⟨?_,h.frozenAt j⟩⟩,fun i=>by cases i⟩;rw[cell_of_row w g j cur e (0,0) b,rY (by omega)];rfl
theorem eY.Hq(w:Wd)(base size:Nat)(e:Ti)(cs:Array Vl)(n:Nat)(a:base<=w)(b:n<=maxLen)(hs:cs.size=n*size):eY (w.alloc (.cells cs e)) base size w n n cs.toList:=
 eY.UA (e:=e) (World.ownsRow_lit w cs n a b hs)
variable{g:Nat}
theorem bP{B:Nat}{a:Wd}(h:Bl B a w)(c:B<=g):∀(b:List Vl) (o:Nat),Bl B a (w.setCells g o b):=by
 intro b
 induction b generalizing w with
 |nil=>intro o;exact h
 |cons v r ih=>intro o;exact ih (h.setCell (p:=⟨g,o,none⟩) c v) (o+1)
theorem jW(w:Wd)(g:Nat):∀(a:List Vl) (o:Nat) (k:Nat),k≠g->(w.setCells g o a).heap[k]?=w.heap[k]?:=by
 intro a
 induction a generalizing w with
 |nil=>intro o k _;rfl
 |cons v r ih=>intro o k b;exact(ih (w.setCell ⟨g,o,none⟩ v) (o+1) k b).trans (Below.heap_setCell w _ v k b)
theorem gc(w:Wd)(g:Nat):∀(a:List Vl) (o:Nat),(w.setCells g o a).heap.size=w.heap.size:=by
 intro a
 induction a generalizing w with
 |nil=>intro o;rfl
 |cons v r ih=>intro o;exact(ih (w.setCell ⟨g,o,none⟩ v) (o+1)).trans (World.size_setCell ..)
theorem AD{W:Wd}(h:Rd W A n size xs):(Builtin.firstCells size n (.slice A n c)).run P W=.ok xs.toArray W:=by
 rcases A with _|d
 ·have hn:n=0:=by
   rcases dX n with a|a
   ·exact a
   ·obtain⟨d,b,_⟩:=h.2 a;cases b
  subst hn;have:xs=[]:=dJ (by simpa using h.1);subst this;exact run_firstCells_none W size 0 0 c
 ·refine run_firstCells_some W size n d n c xs h.1 (fun j u e=> ?_);rcases dX n with a|a
  ·subst a;have:xs=[]:=dJ (by simpa using h.1);subst this;simp at e
  ·obtain⟨g,b,f⟩:=h.2 a;injection b with b;subst b;exact f j u e
theorem app_c(W:Wd)(base:Nat)(t f p e:Ti)(i:TypeInfo)(z:Vl)(size E:Nat)(ht:P.underlying t=some (.slice e))(hi:P.info? e=some i)(I:i.zero=some z)
 (K:i.size=size)(O:i.bytes=E)(R:z.cells.size=size)(U:0<size)
 (A:OA)(n c:Nat)(xs:List Vl)(d:eY W base size A n c xs)(x:Vl)(m:Nat)(a:List Vl)(hs:Src P size f x m a W)
 (G:n+m<=maxLen)(J:(n+m)*E<=140737488355328)(F:base<=W):
 ∃l C o,(Builtin.append_ #[t,f] p #[.slice A n c,x]).run P W=.ok (.slice l (n+m) C) o/\eY o base size l (n+m) C (xs++a)/\Bl base W o/\
  (∀k,k<W.heap.size->A≠some ⟨k,0,none⟩->o.heap[k]?=W.heap[k]?)/\(l=A\/l=some ⟨W.heap.size,0,none⟩):=by
 subst K;subst O;have r:(xs++a).length=(n+m)*i.size:=by rw[cY,d.cb,hs.newsLen,l7]
 by_cases w:n+m<=c
 ·by_cases T:c=0
  ·have hn:n=0:=by omega
   have H:m=0:=by omega
   subst T hn H;have L:a=[]:=dJ (by simpa using hs.newsLen);subst L;exact⟨A,0,W,run_append_nothing W t f p e i ht hi A 0 0 lr x hs,by simpa using d,Below.refl _ _,fun _ _ _=>rfl,.inl rfl⟩
  ·obtain⟨g,rfl,D,Q,h1,h2⟩:=d.room (by omega)
   have s:∀j,j<a.length->n*i.size+j<c*i.size:=fun j b=>by
    rw[hs.newsLen]at b;have:=lU i.size w;rw[l7]at this;omega
   have q:=run_append_room_src (P:=P) W t f p e i ht hi g 0 n c x m a hs w (fun j b=>by rw[cR];exact(h2 _ (s j b)).1) (fun j b=>by rw[cR];exact(h2 _ (s j b)).2);rw[cR]at q;refine⟨_,_,_,q,⟨r,w,d.max,fun _=>⟨g,rfl,D,by rw[gc];exact Q,fun j b=> ?_,fun j b=> ?_⟩,fun h=>by cases h⟩,bP (Below.refl _ _) D a _,fun k _ v=>jW W g a _ k (fun e=>v (by rw[e])),.inl rfl⟩
   ·by_cases y:j<n*i.size
    ·rw[World.cell?_setCells_out g a _ W ⟨g,j,none⟩ (fun _ _=> .inl y),h1 j y,iL (by rw[d.cb];exact y)]
    ·have u:j-n*i.size<a.length:=by rw[hs.newsLen];rw[l7]at b;omega
     have:=World.cell?_setCells_in g a (n*i.size) W (fun j b=>(h2 _ (s j b)).1) (j-n*i.size) u;rw[show n*i.size+(j-n*i.size)=j by omega]at this;rw[this,dU (by rw[d.cb];omega),d.cb,cE u]
   ·rw[World.frozen?_setCells];refine⟨?_,(h2 j b).2⟩;by_cases N:j<n*i.size\/n*i.size+a.length<=j
    ·rw[World.cell?_setCells_out g a _ W ⟨g,j,none⟩ (fun _ _=>N)];exact(h2 j b).1
    ·have u:j-n*i.size<a.length:=by omega
     have:=World.cell?_setCells_in g a (n*i.size) W (fun j b=>(h2 _ (s j b)).1) (j-n*i.size) u;rw[show n*i.size+(j-n*i.size)=j by omega]at this;rw[this];rfl
 ·have M:=grownCap_ge W (n+m) c e;have S:=grownCap_le_maxLen W (n+m) c e G;have q:=run_append_grow_src (P:=P) W t f p e i z ht hi I A n c xs (AD (eY.rd d.drew)) x m a hs (by omega) (by simp only[maxLen]at G;omega) (growslice_fits (by omega) J)
  have V:((xs++a).toArray++Builtin.zeroCells z.cells (grownCap W (n+m) c e-(n+m))).size=grownCap W (n+m) c e*i.size:=by
   simp only[Array.size_append,oJ,size_zeroCells,r,R,<-l7]
   congr 1
   omega
  have B:ai (W.drew.alloc (.cells ((xs++a).toArray++Builtin.zeroCells z.cells (grownCap W (n+m) c e-(n+m))) e)) W e ((xs++a).toArray++Builtin.zeroCells z.cells (grownCap W (n+m) c e-(n+m))):=ai.new W.drew _ _;refine⟨_,_,_,q,⟨r,M,S,fun _=>⟨_,rfl,F,by simp,fun j b=> ?_,fun j b=> ?_⟩,fun h=>by cases h⟩,(Below.refl _ _).drew.alloc F _,fun k v _=>Below.heap_alloc W.drew _ k v,.inr rfl⟩
  ·rw[B.cell j,Array.getElem?_append_left (by simpa [r]using b)];simp
  ·refine⟨?_,B.ao j⟩;rw[B.cell j,rY (by omega)];rfl
theorem au{d:Array Oper}{rest:List Oper}{o:Oper}{a:Act}{Q:Exit->Act->Wd->Prop}{W b:Wd}{t u:Ti}{c r:Vl}(i:o.guard=none)(s x:Operand)
 (f:o.op=.call {callee:=.builtin .append,args:= #[s,x],argTypes:= #[t,u]})(hs:a.eval s=v)(hx:a.eval x=c)(g:(Builtin.append_ #[t,u] o.type #[v,c]).run P W=.ok r b)
 (h:wpList P d Q rest (a.put o.dst r) b):wpList P d Q (o::rest) a W:=by
 refine wpList_plain i fun K e=> ?_;unfold Oper.wp execOp;simp only[f,resolve,invoke,builtin,Sem.run_bind,Sem.run_pure,Result.andThen_ok,List.map_toArray,lY,List.map_nil,hs,hx,g];exact e _ _ h
open Go.ChangeShapes Go.WideShapes
theorem BW(b off i:Nat):(⟨b,off,none⟩:Ad).add i=⟨b,off+i,none⟩:=by unfold Addr.add;split<;>simp_all
theorem Gl{a:Ad}(h:w.cell? (a.add 0)=some v):∃b off,a=⟨b,off,none⟩:=by
 have hs:(a.add 0).spot=none:=World.cell?_spot h;obtain⟨b,off,c⟩:=a;have:c=none:=by simpa [Addr.add]using hs
 subst this;exact⟨b,off,rfl⟩
theorem QV{b off:Nat}(h:w.cell? ⟨b,off,none⟩=some v):b<w:=by
 rcases iE b w with a|a
 ·exact a
 ·simp[World.cell?,oL a]at h
section
variable {H : Type} {enc : TypeId × Value -> H} {P : Program} {w : World} {base : Nat} {spare : Nat -> Bool} {held : Bool}
end
open Go.Deep
theorem vU(p:Nat->α->Prop):∀n,(∀i,i<n->∃x,p i x)->∃l:List α,l.length=n/\∀i x,l[i]?=some x->p i x
 |0,_=>⟨[],rfl,fun i x h=>by simp at h⟩
 |n+1,h=>by
  obtain⟨l,b,c⟩:=vU p n (fun i hi=>h i (by omega));obtain⟨x,hx⟩:=h n (by omega);refine⟨l++[x],by simp[b],fun i y a=> ?_⟩;by_cases hi:i<l.length
  ·rw[iL hi]at a;exact c i y a
  ·have d:=(cA.1 a).1;simp at d;obtain rfl:i=l.length:=by omega
   rw[dU lr,oB]at a;injection a with a
   subst a;rw[b];exact hx
structure Cells(w:Wd)(A:OA)(n k:Nat)(rows:List (List Vl)):Prop where
 cb:rows.length=n
 eZ:∀r∈rows,r.length=k
 at_:0<n->∃b off,A=some ⟨b,off,none⟩/\b<w/\∀i r,rows[i]?=some r->∀j v,r[j]?=some v->w.cell? ⟨b,off+i*k+j,none⟩=some v
section
variable {H : Type} {enc : TypeId × Value -> H} {P : Program} {w : World} {base : Nat} {spare : Nat -> Bool} {held : Bool}
end
theorem Cells.ae{w':Wd}{rows:List (List Vl)}(h:Cells w A n k rows)(a:Bl w w w'):Cells w' A n k rows:=by
 refine⟨h.cb,h.eZ,fun hn=> ?_⟩;obtain⟨b,off,hA,c,d⟩:=h.at_ hn;exact⟨b,off,hA,cD c a.size,fun i r e j v f=>(a.cell (p:=⟨b,off+i*k+j,none⟩) c).trans (d i r e j v f)⟩
theorem gK{β:Type}(f:α->β)(Q:α->Prop):∀rows:List β,(∀r∈rows,∃x,r=f x/\Q x)->∃l:List α,rows=l.map f/\∀x∈l,Q x
 |[],_=>⟨[],rfl,by simp⟩
 |r::rs,h=>by
  obtain⟨x,hx,c⟩:=h r (by simp);obtain⟨l,b,a⟩:=gK f Q rs (fun y d=>h y (by simp[d]));exact⟨x::l,by simp[hx,b],by simpa using⟨c,a⟩⟩
theorem eP{P:α->Prop}{y:α}(h:∀x∈l.take k,P x)(b:l[k]?=some y)(a:P y):∀x∈l.take (k+1),P x:=by
 rw[aM b];intro x hx;rcases dG.1 hx with hx|hx
 ·exact h x hx
 ·simp at hx;subst hx;exact a
def cp{α:Type}(f:α->List Vl)(k:Nat)(w:Wd)(A:OA)(n:Nat)(l:List α):Prop:=Cells w A n k (l.map f)
section
variable {α : Type} {f : α -> List Value} {k : Nat} {w w' : World} {A : Option Addr} {n : Nat} {l : List α}
theorem cp.cb(h:cp f k w A n l):l.length=n:=by have:=Cells.cb h;simpa using this
theorem cp.ae(h:cp f k w A n l)(a:Bl w w w'):cp f k w' A n l:=Cells.ae h a
theorem cp.at_(h:cp f k w A n l)(hi:i<n):∃b off x,A=some ⟨b,off,none⟩/\b<w/\l[i]?=some x/\∀j v,(f x)[j]?=some v->w.cell? ⟨b,off+i*k+j,none⟩=some v:=by
 obtain⟨b,off,e,d,a⟩:=Cells.at_ h (by omega);have g:=h.cb;refine⟨b,off,l[i]'(by omega),e,d,cE (by omega),fun j v c=> ?_⟩;exact a i _ (by rw[dD,cE (by omega)];rfl) j v c
theorem cp.nil(f:α->List Vl)(k:Nat)(w:Wd)(A:OA):cp f k w A 0 []:=⟨rfl,by simp,fun h=>absurd h (by omega)⟩
end
structure wU{α:Type}(f:α->List Vl)(k:Nat):Prop where
 cb:∀x,(f x).length=k
 one:∀x u,u∈f x->u.oneCell'=true
 pos:0<k
def be{α:Type}(f:α->List Vl)(k:Nat)(w:Wd)(base:Nat)(A:OA)(n c:Nat)(l:List α):Prop:=l.length=n/\eY w base k A n c (l.flatMap f)
section
variable {α : Type} {f : α -> List Value} {k : Nat} (hL : wU f k)
include hL
theorem gL(l:List α):(l.flatMap f).length=l.length*k:=by
 induction l with
 |nil=>simp
 |cons x r ih=>simp only[nC,cY,ih,hL.cb,dV,l7,Nat.one_mul];omega
theorem rj:∀(l:List α) (i:Nat) (x:α) (j:Nat) (v:Vl),l[i]?=some x->(f x)[j]?=some v->(l.flatMap f)[i*k+j]?=some v:=by
 intro l
 induction l with
 |nil=>intro i x j v h;simp at h
 |cons y r ih=>
  intro i x j v hi a;have b:j<k:=by rw[<-hL.cb x];exact(cA.1 a).1
  rw[nC]
  cases i with
  |zero=>
   simp at hi;subst hi;rw[rG,cR,iL (by rw[hL.cb];exact b)];exact a
  |succ i=>
   rw[dU (by rw[hL.cb,l7];omega),hL.cb];have:(i+1)*k+j-k=i*k+j:=by rw[l7];omega
   rw[this];exact ih i x j v (by simpa using hi) a
theorem Om(l:List α):∀u∈l.flatMap f,u.oneCell'=true:=by
 intro u a;obtain⟨x,_,hx⟩:=List.mem_flatMap.1 a;exact hL.one x u hx
theorem be.et{l:List α}(h:be f k w base A n c l):cp f k w A n l:=by
 refine⟨by simpa using h.1,fun r a=> ?_,fun hn=> ?_⟩
 ·obtain⟨x,_,rfl⟩:=cS.1 a;exact hL.cb x
 ·obtain⟨g,hA,_,o,e,_⟩:=h.2.room (by have:=h.2.le;omega);refine⟨g,0,hA,o,fun i r a j v m=> ?_⟩;rw[dD]at a
  cases hx:l[i]? with
  |none=>rw[hx]at a;cases a
  |some x=>
   rw[hx]at a;injection a with a
   subst a;have b:=rj hL l i x j v hx m;have d:=(cA.1 b).1;rw[gL hL,h.1]at d;rw[cR,e _ d,b]
theorem cp.flat{l:List α}(h:cp f k w A n l)(hn:0<n):∃b off,A=some ⟨b,off,none⟩/\b<w/\∀j u,(l.flatMap f)[j]?=some u->w.cell? ⟨b,off+j,none⟩=some u:=by
 obtain⟨b,off,hA,m,o⟩:=Cells.at_ h hn;refine⟨b,off,hA,m,fun j u d=> ?_⟩;have c:=hL.pos;have i:=(cA.1 d).1;rw[gL hL]at i;have q:j/k<l.length:=(Nat.div_lt_iff_lt_mul c).2 i;have hx:=cE q;have p:j % k<(f l[j/k]).length:=by rw[hL.cb];exact Nat.mod_lt _ c
 have g:=cE p;have h2:=rj hL l _ _ _ _ hx g;have e:j/k*k+j % k=j:=by rw[Nat.mul_comm];exact Nat.div_add_mod j k
 rw[e,d]at h2;have a:=o (j/k) (f l[j/k]) (by rw[dD,hx];rfl) (j % k) _ g;rw[oD,e]at a;rw[a,h2]
theorem cp.src{l:List α}(h:cp f k w A n l)(c:Nat){i m:Ti}(e:P.underlying i=some (.slice m)):Src P k i (.slice A n c) n (l.flatMap f) w:=by
 have g:=h.cb;rcases dX n with d|d
 ·subst d;have:l=[]:=dJ g;subst this
  cases A with
  |none=>exact Src.ofNil w e c
  |some a=>exact Src.ofSlice w e a 0 c [] (by simp) (by simp) (by simp)
 ·obtain⟨b,off,rfl,_,o⟩:=h.flat hL d;exact Src.ofSlice w e _ n c _ (by rw[gL hL,g]) (fun j u p=>by rw[pt];exact o j u p) (Om hL l)
theorem cp.new(w:Wd)(x:α)(cs:Array Vl)(t:Ti)(c:cs.toList=f x):cp f k (w.alloc (.cells cs t)) w 1 [x]:=by
 refine⟨rfl,fun r a=> ?_,fun _=>⟨_,_,rfl,by simp,fun i r a j v b=> ?_⟩⟩
 ·simp at a;subst a;exact hL.cb x
 ·cases i with
  |zero=>
   simp at a;subst a;rw[(ai.new w t cs).cell];rw[<-c]at b;simpa using b
  |succ i=>simp at a
theorem dy(W:Wd)(base:Nat)(t p e:Ti)(z:Vl)(j:Nat)(ht:P.underlying t=some (.slice e))(C:(P.info? e).map (fun i=>(i.zero,i.size,i.bytes))=some (some z,k,j))(H:z.cells.size=k)
 (A:OA)(n c:Nat)(l:List α)(r:be f k W base A n c l)(B:OA)(m d:Nat)(o:List α)(q:cp f k W B m o)(F:n+m<=maxLen)(v:(n+m)*j<=140737488355328)(w:base<=W):
 ∃a h g,(Builtin.append_ #[t,t] p #[.slice A n c,.slice B m d]).run P W=.ok (.slice a (n+m) h) g/\be f k g base a (n+m) h (l++o)/\Bl base W g/\
  (∀b,b<W.heap.size->A≠some ⟨b,0,none⟩->g.heap[b]?=W.heap[b]?)/\(a=A\/a=some ⟨W.heap.size,0,none⟩):=by
 obtain⟨u,hi,D,G,E⟩:=info_parts C;obtain⟨a,h,g,y,x,s,I,hA⟩:=app_c (P:=P) W base t t p e u z k j ht hi D G E H hL.pos A n c _ r.2 (.slice B m d) m _ (cp.src hL q d ht) F v w;exact⟨a,h,g,y,⟨by rw[cY,r.1,q.cb],by rw[rE];exact x⟩,s,I,hA⟩
end
section
variable {α : Type} {f : α -> List Value} {k : Nat} {w w' : World} {base : Nat} {A : Option Addr} {n c : Nat} {l : List α}
theorem be.nil(f:α->List Vl)(k:Nat)(w:Wd)(base:Nat):be f k w base none 0 0 []:=⟨rfl,eY.nil w base k⟩
theorem be.none(f:α->List Vl)(k:Nat)(w:Wd)(base:Nat)(a:Ad):be f k w base (some a) 0 0 []:=⟨rfl,by simp,by omega,by simp[maxLen],fun h=>absurd h (by omega),fun h=>by cases h⟩
theorem be.ae(h:be f k w base A n c l)(a:Bl w w w'):be f k w' base A n c l:=⟨h.1,h.2.ae a⟩
theorem be.ll(h:be f k w base A n c l){p:Ad}(a:p.block<base)(u:Vl):be f k (w.setCell p u) base A n c l:=⟨h.1,h.2.ll a u⟩
theorem be.mono{a:Nat}(h:be f k w base A n c l)(b:a<=base):be f k w a A n c l:=⟨h.1,h.2.mono b⟩
end
section
variable {α : Type} {f : α -> List Value} {k : Nat} (hL : wU f k)
include hL
end
theorem cp.pre{f:α->List Vl}(h:cp f k w A n l)(i:Nat)(hi:i<=n):cp f k w A i (l.take i):=by
 have o:=h.cb;refine⟨by simp;omega,fun r a=>Cells.eZ h r (by obtain⟨x,hx,rfl⟩:=cS.1 a;exact cS.2 ⟨x,lG hx,rfl⟩),fun m=> ?_⟩;obtain⟨b,off,hA,d,e⟩:=Cells.at_ h (by omega);refine⟨b,off,hA,d,fun j r a=>e j r ?_⟩;rw[dD]at a⊢
 have g:j<i:=by
  rcases iE j i with c|c
  ·exact c
  ·rw[dP (by simp;omega)]at a;cases a
 rw[oE g]at a;exact a
theorem cp.drop{f:α->List Vl}{b off:Nat}(h:cp f k w (some ⟨b,off,none⟩) n l)(i:Nat)(hi:i<=n):cp f k w (some ⟨b,off+i*k,none⟩) (n-i) (l.drop i):=by
 have p:=h.cb;refine⟨by simp;omega,fun r a=>Cells.eZ h r (by obtain⟨x,hx,rfl⟩:=cS.1 a;exact cS.2 ⟨x,oX hx,rfl⟩),fun o=> ?_⟩;obtain⟨m,s,e,g,c⟩:=Cells.at_ h (by omega);injection e with e
 injection e with e1 e2;subst e1 e2;refine⟨_,_,rfl,g,fun j r a q v d=> ?_⟩;have:=c (i+j) r (by rw[dD]at a⊢;rw[iO]at a;exact a) q v d;rw[l7,<-oD]at this;exact this
def gl(x:Int):List Vl:=[x]
theorem gi:wU gl 1:=⟨fun _=>rfl,fun x u a=>by simp[gl]at a;subst a;rfl,by omega⟩
abbrev fs:=cp gl 1
abbrev df:=be gl 1
theorem cp.int{l:List Int}(h:fs w A n l)(hi:i<n):∃b off x,A=some ⟨b,off,none⟩/\b<w/\l[i]?=some x/\w.cell? ⟨b,off+i,none⟩=some (x:Vl):=by
 obtain⟨b,off,x,hA,a,hx,c⟩:=h.at_ hi;refine⟨b,off,x,hA,a,hx,?_⟩;have:=c 0 _ rfl;rw[nK]at this;exact this
section
variable {α : Type} {f : α -> List Value} {k : Nat} (hL : wU f k)
include hL
theorem j8{l l':List α}(h:be f k w base g n c l)(d:l'.length=n)(o:Nat)(a:List Vl)(u:o+a.length<=c*k)
 (q:∀j,j<n*k->(l'.flatMap f)[j]?=if o<=j/\j<o+a.length then a[j-o]? else(l.flatMap f)[j]?):be f k (w.setCells g o a) base g n c l':=by
 refine⟨d,by rw[gL hL,d],h.2.le,h.2.max,fun m=> ?_,fun e=>by cases e⟩;obtain⟨t,hA,p,r,h1,h2⟩:=h.2.room m;replace hA:=aI hA;subst hA;have s:∀j,j<a.length->(w.cell? ⟨g,o+j,none⟩).isSome=true:=fun j b=>(h2 (o+j) (by omega)).1
 have i:∀j,(w.setCells g o a).cell? ⟨g,j,none⟩=if o<=j/\j<o+a.length then a[j-o]? else w.cell? ⟨g,j,none⟩:=by
  intro j;by_cases b:o<=j/\j<o+a.length
  ·rw[cK b];have:=World.cell?_setCells_in g a o w s (j-o) (by omega);rw[show o+(j-o)=j by omega]at this;rw[this,cE (by omega)]
  ·rw[cL b,World.cell?_setCells_out g a o w ⟨g,j,none⟩ (fun _ _=>by simp only;omega)]
 refine⟨g,rfl,p,by rw[gc];exact r,fun j b=> ?_,fun j b=>⟨?_,by rw[World.frozen?_setCells];exact(h2 j b).2⟩⟩
 ·rw[i,q j b];split
  ·rfl
  ·exact h1 j b
 ·rw[i];split
  ·rw[cE (by omega)];rfl
  ·exact(h2 j b).1
theorem Eq:∀(l:List α) (i:Nat) (x:α),i<l.length->∀j,((l.set i x).flatMap f)[j]?=if i*k<=j/\j<i*k+k then(f x)[j-i*k]? else(l.flatMap f)[j]?:=by
 intro l
 induction l with
 |nil=>intro i x h;simp at h
 |cons y r ih=>
  intro i x h j
  cases i with
  |zero=>
   rw[iN,nC,nC,rG];by_cases a:j<k
   ·rw[cK ⟨by omega,by omega⟩,iL (by rw[hL.cb];exact a),Nat.sub_zero]
   ·rw[cL (by omega),dU (by rw[hL.cb];omega),dU (by rw[hL.cb];omega),hL.cb,hL.cb]
  |succ i=>
   rw[lC,nC,nC,l7,Nat.one_mul];by_cases a:j<k
   ·rw[cL (by omega),iL (by rw[hL.cb];exact a),iL (by rw[hL.cb];exact a)]
   ·rw[dU (by rw[hL.cb];omega),dU (by rw[hL.cb];omega),hL.cb,ih i x (by simpa using h)];by_cases b:i*k<=j-k/\j-k<i*k+k
    ·rw[cK b,cK (by omega)]
     congr 1
     omega
    ·rw[cL b,cL (by omega)]
theorem i0{l:List α}(h:be f k w base g n c l)(i:Nat)(hi:i<n)(x:α):be f k (w.setCells g (i*k) (f x)) base g n c (l.set i x):=by
 have a:=h.2.le;have h1:(i+1)*k<=c*k:=lU k (by omega);rw[l7,Nat.one_mul]at h1;refine j8 hL h (by rw[nB];exact h.1) (i*k) (f x) (by rw[hL.cb];exact h1) (fun j _=> ?_);rw[Eq hL l i x (by rw[h.1];exact hi) j,hL.cb]
theorem Cb{l:List α}(h:be f k w base A n c l)(i:Nat)(hi:i<=n):be f k w base A i c (l.take i):=by
 have a:(l.take i).length=i:=by rw[fD,h.1];omega
 have p:=lU k hi;refine⟨a,by rw[gL hL,a],cF hi h.2.le,h.2.max,fun b=> ?_,h.2.cz⟩;obtain⟨g,hA,d,o,h1,h2⟩:=h.2.room b;refine⟨g,hA,d,o,fun j m=> ?_,h2⟩;rw[h1 j (by omega)];have e:l.flatMap f=(l.take i).flatMap f++(l.drop i).flatMap f:=by rw[<-rE,iR]
 rw[e,iL (by rw[gL hL,a];exact m)]
theorem rX{l:List α}(h:be f k w base g n c l)(i:Nat)(hi:i<=n)(a:List Vl)(m:a.length=(n-i)*k):be f k (w.setCells g (i*k) a) base g i c (l.take i):=by
 have b:=h.2.le;have e:i*k+(n-i)*k=n*k:=by rw[<-l7];congr 1;omega
 have h1:n*k<=c*k:=lU k b;refine j8 hL (Cb hL h i hi) (by rw[fD,h.1];omega) (i*k) a (by omega) (fun j d=> ?_);rw[cL (by omega)]
end
theorem iz(w:Wd)(t e h:Ti)(z:Vl)(ht:P.underlying t=some (.slice e))(g:∀w,(zeroValue e).run P w=.ok z w)(b o n c:Nat)(hn:0<n)(h1:∀v∈(Builtin.zeroCells z.cells n).toList,v.oneCell'=true)
 (d:∀j,j<(Builtin.zeroCells z.cells n).size->(w.cell? ⟨b,o+j,none⟩).isSome=true)(f:∀j,j<(Builtin.zeroCells z.cells n).size->w.frozen? ⟨b,o+j,none⟩=false):
 (Builtin.clear_ #[t] h #[.slice (some ⟨b,o,none⟩) n c]).run P w=.ok (.tuple #[]) (w.setCells b o (Builtin.zeroCells z.cells n).toList):=by
 have a:=run_storeCells_cells (P:=P) b o (Builtin.zeroCells z.cells n).toList 0 w (by simpa using d) (by simpa using f) h1;simp only[fU]at a;obtain⟨m,rfl⟩:∃m,n=m+1:=⟨n-1,by omega⟩;simp[Builtin.clear_,run_underlying ht,g,a]
theorem iu{cs:Array Vl}(h:v∈(Builtin.zeroCells cs n).toList)(c:∀u∈cs.toList,u.oneCell'=true):v.oneCell'=true:=by
 simp only[Builtin.zeroCells,Array.toList_map,Array.toList_range,cS,fS]at h;obtain⟨i,hi,rfl⟩:=h
 have a:0<cs.size:=by
  rcases dX cs.size with h|h
  ·rw[h]at hi;simp at hi
  ·exact h
 have b:=Nat.mod_lt i a;rw[getElem!_pos cs _ b];exact c _ (by simp)
section
variable {α : Type} {f : α -> List Value} {k : Nat} (hL : wU f k)
include hL
end
structure Nd where
 st:Int
 jb:Int
 ep:Int
 dr:Bool
 wt:Int
 si:Int
 ak:Int
deriving DecidableEq
def bZ(n:Int):Bool:=decide (0<=n)&&decide (n<=1000000)
theorem ej{n:Int}:bZ n=true↔0<=n/\n<=1000000:=by simp[bZ]
def vX(x:Nd):Bool:=decide (1<=x.jb)&&decide (x.jb<=99999)
def pW(x:Nd):Bool:=
 if x.st=0 then x.jb==0&&[0].contains x.wt else if x.st=1 then vX x&&[0,1,3,4].contains x.wt else if x.st=2 then vX x&&[0,2].contains x.wt
 else if x.st=3 then vX x&&[5].contains x.wt else if x.st=4 then x.jb==0&&[0,6].contains x.wt else false
def fb(x:Nd):Bool:=decide (0<=x.ep)&&decide (x.ep<=999999999)&&bZ x.si&&bZ x.ak&&pW x
theorem gY{x:Nd}:fb x=true↔(0<=x.ep/\x.ep<=999999999/\bZ x.si=true/\bZ x.ak=true/\pW x=true):=by
 simp only[fb,cH,dA];constructor
 ·rintro⟨⟨⟨⟨h1,h2⟩,a⟩,b⟩,c⟩;exact⟨h1,h2,a,b,c⟩
 ·rintro⟨h1,h2,a,b,c⟩;exact⟨⟨⟨⟨h1,h2⟩,a⟩,b⟩,c⟩
theorem eb{x:Nd}:pW x=true↔((x.st=0/\x.jb=0/\x.wt=0)\/(x.st=1/\1<=x.jb/\x.jb<=99999/\(x.wt=0\/x.wt=1\/x.wt=3\/x.wt=4))\/(x.st=2/\1<=x.jb/\x.jb<=99999/\(x.wt=0\/x.wt=2))\/(x.st=3/\1<=x.jb/\x.jb<=99999/\x.wt=5)\/(x.st=4/\x.jb=0/\(x.wt=0\/x.wt=6))):=by
 unfold pW vX;by_cases a:x.st=0
 ·simp[a]
 by_cases h1:x.st=1
 ·simp[h1,rK]
 by_cases h2:x.st=2
 ·simp[h2,rK]
 by_cases b:x.st=3
 ·simp[b,rK]
 by_cases c:x.st=4
 ·simp[c]
 ·simp[a,h1,h2,b,c]
def aO(l:List Nd):Bool:=decide (1<=l.length)&&decide (l.length<=48)&&l.all fb
def jL(l:List Nd):Int:=if aO l then 0 else 120
theorem fh{l:List Nd}(h:aO l=true):jL l=0:=by simp[jL,h]
theorem eM{l:List Nd}(h:aO l=false):jL l=120:=by simp[jL,h]
structure MN(l:List Nd):Prop where
 some:1<=l.length
 cf:l.length<=48
 m6:∀x∈l,fb x=true
theorem cQ{l:List Nd}:aO l=true↔MN l:=by
 simp only[aO,cH,dA,dC];exact⟨fun⟨⟨h1,h2⟩,a⟩=>⟨h1,h2,a⟩,fun h=>⟨⟨h.some,h.cf⟩,h.m6⟩⟩
theorem Kv{l:List Nd}(h:l.length<1):aO l=false:=by
 have:decide (1<=l.length)=false:=decide_eq_false (by omega);simp[aO,this]
theorem xH{l:List Nd}(h:48<l.length):aO l=false:=by
 have:decide (l.length<=48)=false:=decide_eq_false (by omega);simp[aO,this]
theorem QZ{l:List Nd}(h1:1<=l.length)(h2:l.length<=48):aO l= !(l.any fun x=> !fb x):=by
 simp only[aO,h1,h2,decide_true,lO];rw[List.all_eq_not_any_not]
def jx(x:Nd)(act bD:Int):Bool:=
 if act=1\/act=2 then x.st==0&& !x.dr&&decide (x.ep<999999999)&&decide (1<=bD)&&decide (bD<=99999)
 else if act=3 then x.st==2 else if act=4\/act=7 then x.st==1||x.st==2 else if act=5 then x.st==1&&x.wt==0 else if act=6 then x.st==1&&x.wt==4
 else if act=8 then x.st==3 else if act=9 then x.st !=4&&decide (x.ep<999999999)else if act=10 then x.st==4 else if act=11 then x.st==4&&x.wt==6
 else if act=12\/act=13 then x.st !=4 else false
def eL(x:Nd)(a am:Int):Nd:={x with wt:=a,si:=am,ak:=am}
def bH(x:Nd)(act bD am:Int):Nd:=
 if act=1 then eL {x with st:=1,jb:=bD,ep:=x.ep+1} 1 am
 else if act=2 then eL {x with st:=2,jb:=bD,ep:=x.ep+1} 2 am
 else if act=3 then eL {x with st:=1} 3 am
 else if act=5 then eL x 4 am
 else if act=7 then eL {x with st:=3} 5 am
 else if act=9 then{x with st:=4,jb:=0,ep:=x.ep+1,wt:=0}
 else if act=10 then eL x 6 am
 else if act=11 then{x with dr:=false,st:=0,jb:=0,wt:=0}
 else if act=8 then{x with st:=0,jb:=0,wt:=0}
 else if act=4\/act=6 then{x with wt:=0}
 else if act=12\/act=13 then{x with dr:=act==12}
 else x
def rg(l:List Nd)(n act bD am:Int):List Nd×Int:=
 if aO l=false then([],120)else
 match if 0<=n then l[n.toNat]? else none with
 |none=>([],120)
 |some x=>if bZ am=false then([],120)else if jx x act bD=false then([],120)else(l.set n.toNat (bH x act bD am),0)
theorem ut{x:Nd}{act bD am:Int}(s:fb x=true)(a:jx x act bD=true)(ht:bZ am=true):fb (bH x act bD am)=true:=by
 obtain⟨h1,h2,b,c,r⟩:=gY.1 s;have t:=ej.1 ht;have m:=eb.1 r;rw[gY];unfold jx at a;unfold bH eL;by_cases d:act=1
 ·subst d;simp at a;refine⟨by simp;omega,by simp;omega,by simpa using ht,by simpa using ht,eb.2 ?_⟩;simp;omega
 by_cases e:act=2
 ·subst e;simp at a;refine⟨by simp;omega,by simp;omega,by simpa using ht,by simpa using ht,eb.2 ?_⟩;simp;omega
 by_cases f:act=3
 ·subst f;simp at a;refine⟨by simp;omega,by simp;omega,by simpa using ht,by simpa using ht,eb.2 ?_⟩;simp;omega
 by_cases g:act=4
 ·subst g;simp at a;refine⟨by simp;omega,by simp;omega,by simpa using b,by simpa using c,eb.2 ?_⟩;simp;omega
 by_cases h:act=5
 ·subst h;simp at a;refine⟨by simp;omega,by simp;omega,by simpa using ht,by simpa using ht,eb.2 ?_⟩;simp;omega
 by_cases i:act=6
 ·subst i;simp at a;refine⟨by simp;omega,by simp;omega,by simpa using b,by simpa using c,eb.2 ?_⟩;simp;omega
 by_cases j:act=7
 ·subst j;simp at a;refine⟨by simp;omega,by simp;omega,by simpa using ht,by simpa using ht,eb.2 ?_⟩;simp;omega
 by_cases k:act=8
 ·subst k;simp at a;refine⟨by simp;omega,by simp;omega,by simpa using b,by simpa using c,eb.2 ?_⟩;simp
 by_cases l:act=9
 ·subst l;simp at a;refine⟨by simp;omega,by simp;omega,by simpa using b,by simpa using c,eb.2 ?_⟩;simp
 by_cases n:act=10
 ·subst n;simp at a;refine⟨by simp;omega,by simp;omega,by simpa using ht,by simpa using ht,eb.2 ?_⟩;simp;omega
 by_cases p:act=11
 ·subst p;simp at a;refine⟨by simp;omega,by simp;omega,by simpa using b,by simpa using c,eb.2 ?_⟩;simp
 by_cases q:act=12
 ·subst q;refine⟨by simp;omega,by simp;omega,by simpa using b,by simpa using c,eb.2 ?_⟩;simpa using m
 by_cases o:act=13
 ·subst o;refine⟨by simp;omega,by simp;omega,by simpa using b,by simpa using c,eb.2 ?_⟩;simpa using m
 ·simp[d,e,f,g,h,i,j,k,l,n,p,q,o]at a
def ia{α:Type}(q:α->Bool):List α->Nat
 |[]=>0
 |x::r=>(q x).toNat+2*ia q r
theorem Dq(q:α->Bool):∀l:List α,ia q l<2^l.length
 |[]=>by simp[ia]
 |x::r=>by
  have:=Dq q r;simp only[ia,dV,rH];cases q x<;>simp<;>omega
theorem B5(q:α->Bool)(x:α):∀l:List α,ia q (l++[x])=ia q l+(q x).toNat*2^l.length
 |[]=>by simp[ia]
 |y::r=>by
  have a:=B5 q x r;simp only[nH,ia,a,dV,rH,Nat.mul_add,oD]
  congr 2
  rw[<-Nat.mul_assoc,Nat.mul_comm 2,Nat.mul_assoc,Nat.mul_comm 2]
theorem mh(q:α->Bool):∀(l:List α) (i:Nat),(ia q l).testBit i=(l[i]?.map q).getD false
 |[],i=>by simp[ia]
 |x::r,0=>by
  simp only[ia,Nat.testBit_zero,nF,fI,i8];cases q x<;>simp<;>omega
 |x::r,i+1=>by
  have e:((q x).toNat+2*ia q r)/2=ia q r:=by cases q x<;>simp<;>omega
  rw[ia,Nat.testBit_succ,e,mh q r i];simp
theorem LV{q:α->Bool}(h:l[k]?=some x):ia q (l.take (k+1))=ia q (l.take k)+(q x).toNat*2^k:=by
 have a:=(cA.1 h).1;rw[aM h,B5]
 congr 2
 rw[fD]
 congr 1
 omega
theorem un(a:Nat)(h:a<2^64):(BitVec.ofInt 64 (a:Int)).toNat=a:=by
 rw[BitVec.toNat_ofInt];have:((a:Int) % ((2^64:Nat):Int))=(a:Int):=Int.emod_eq_of_lt (by omega) (by exact_mod_cast h);rw[this];simp
theorem wrap_u64(n:Nat)(h:n<2^64):IntKind.u64.wrap (n:Int)=(n:Int):=by
 simp only[IntKind.wrap];simp[IntKind.signed,IntKind.bits];omega
theorem j9(a b:Nat)(c:a<2^64)(d:b<2^64):bits .and .u64 (a:Int) (b:Int)=((a&&&b:Nat):Int):=by
 unfold bits;show IntKind.u64.wrap _=_
 have e:((BitVec.ofInt IntKind.u64.bits (a:Int))&&&(BitVec.ofInt IntKind.u64.bits (b:Int))).toNat=a&&&b:=by
  show((BitVec.ofInt 64 (a:Int))&&&(BitVec.ofInt 64 (b:Int))).toNat=a&&&b;rw[BitVec.toNat_and,un a c,un b d]
 rw[e,wrap_u64 _ (nM Nat.and_le_left c)]
theorem I4(a b:Nat)(c:a<2^64)(d:b<2^64):bits .or .u64 (a:Int) (b:Int)=((a|||b:Nat):Int):=by
 unfold bits;show IntKind.u64.wrap _=_
 have e:((BitVec.ofInt IntKind.u64.bits (a:Int))|||(BitVec.ofInt IntKind.u64.bits (b:Int))).toNat=a|||b:=by
  show((BitVec.ofInt 64 (a:Int))|||(BitVec.ofInt 64 (b:Int))).toNat=a|||b;rw[BitVec.toNat_or,un a c,un b d]
 rw[e,wrap_u64 _ (Nat.or_lt_two_pow c d)]
structure Al where
 nd:Int
 wl:Int
deriving DecidableEq
structure Sh where
 kd:Int
 al:List Al
 mn:Int
 mx:Int
 wl:Int
deriving DecidableEq
def fu(a:Al):Bool:=decide (1<=a.nd)&&decide (a.nd<=48)&&decide (1<=a.wl)&&decide (a.wl<=100000)
theorem m7{a:Al}:fu a=true↔1<=a.nd/\a.nd<=48/\1<=a.wl/\a.wl<=100000:=by
 simp[fu,rK]
def mz(s:Sh):Bool:=s.mn==0&&s.mx==0&&s.wl==0
abbrev sk(l:List Al):Prop:=l.Pairwise (fun a b=>a.nd≠b.nd)
def mM(l:List Al):Bool:=decide (sk l)
def oz(s:Sh)(a:Nat):Bool:=mz s&&decide (1<=s.al.length)&&decide (s.al.length<=a)&&mM s.al&&s.al.all fu
def C2(s:Sh):Bool:=s.al.length==0&&decide (s.mn<=s.mx)&&fu ⟨s.mn,s.wl⟩&&decide (s.mx<=48)
def bQ(s:Sh):Bool:=if s.kd=1 then oz s 1 else if s.kd=2 then oz s 6 else if s.kd=3 then C2 s else false
def gE(s:Sh):Int:=if bQ s then 0 else 70
variable{s:Sh}
theorem gF(h:bQ s=true):gE s=0:=by simp[gE,h]
theorem dj(h:bQ s=false):gE s=70:=by simp[gE,h]
theorem chk_1(h:s.kd=1):bQ s=oz s 1:=by simp[bQ,h]
theorem chk_2(h:s.kd=2):bQ s=oz s 6:=by simp[bQ,h]
theorem NC(h:s.kd=3):bQ s=C2 s:=by simp[bQ,h]
theorem chk_0(h1:s.kd≠1)(h2:s.kd≠2)(a:s.kd≠3):bQ s=false:=by simp[bQ,h1,h2,a]
theorem Nb{a:Al}(h:s.al=[a]):oz s 1=(mz s&&fu a):=by
 simp[oz,mM,h]
theorem xx{m:Nat}(h:¬(1<=s.al.length/\s.al.length<=m)):oz s m=false:=by
 unfold oz;by_cases h1:1<=s.al.length
 ·have:¬s.al.length<=m:=fun a=>h ⟨h1,a⟩;simp[this]
 ·simp[h1]
theorem AV{m:Nat}(h:mz s=false):oz s m=false:=by simp[oz,h]
theorem Kc{m:Nat}(a:mz s=true)(h1:1<=s.al.length)(h2:s.al.length<=m):oz s m=(mM s.al&&s.al.all fu):=by
 simp[oz,a,h1,h2]
def gx(b a:Int):List Int:=(List.range (a-b+1).toNat).map (fun(i:Nat)=>a-(i:Int))
def eO(s:Sh):List Al:=if bQ s=false then []else if s.kd=3 then(gx s.mn s.mx).map (fun n=>⟨n,s.wl⟩)else s.al
def ik(l:List Al):Int:=l.foldl (fun n a=>if n=0\/a.nd<n then a.nd else n) 0
def gg(s:Sh)(b n:Int):Bool:=
 if b<0\/((eO s).length:Int)<=b then false else
 if s.kd=3 then decide (s.mn<=n)&&decide (n<=s.mx)else((eO s)[b.toNat]?.map (fun a=>a.nd==n)).getD false
theorem Gu{l:List Al}{a:Al}(h:l[k]?=some a):sk (l.take (k+1))↔sk (l.take k)/\∀b∈l.take k,b.nd≠a.nd:=by
 rw[aM h,sk,fA];constructor
 ·rintro⟨h1,_,h2⟩;exact⟨h1,fun b d=>h2 b d a (by simp)⟩
 ·rintro⟨h1,h2⟩;refine⟨h1,by simp,fun b d c e=> ?_⟩;obtain rfl:c=a:=by simpa using e
  exact h2 b d
theorem Gv{l:List Al}(h:sk l):sk (l.take k):=h.sublist (nX _ _)
theorem OU{l:List Al}(h:l.length=0):l=[]:=dJ h
theorem Sb{l:List Al}(h:l.length=1):∃a,l=[a]:=by
 match l,h with
 |[a],_=>exact⟨a,rfl⟩
theorem kY:(eO s).length<=48:=by
 unfold eO;split
 ·simp
 ·next h=>
  split
  ·next h3=>
   have a:bQ s=true:=by simpa using h
   rw[NC h3]at a;simp only[C2,cH,dA,m7,iC]at a;simp[gx];omega
  ·next h3=>
   have a:bQ s=true:=by simpa using h
   unfold bQ at a;split at a
   ·simp[oz]at a;omega
   ·split at a
    ·simp[oz]at a;omega
    ·simp at a
     try exact absurd a.1 h3
end Go.Proofs.YthfhilggbbobmaaGreatDoor
