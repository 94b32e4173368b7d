/- Parts of the proof. -/
import Derived.Test.YthfhilggbbobmaaGreatDoorK8
import Derived.Test.YthfhilggbbobmaaGreatDoorK31
set_option linter.all false
set_option maxHeartbeats 20000000
namespace Go.Proofs.YthfhilggbbobmaaGreatDoor
open Go.Proofs.Tryz
open Go renaming World->Wd,Value->Vl,Ending->Ed,Calls->Cs
open Go.RowKit renaming Below->Bl
open Go.RowKit
open Go.Sort (SWO)
open Go.Shelf
structure Rk where
 v:Int
 pr:Int
 sh:Int
 id:Int
deriving Inhabited
def jF(x:Rk):List Vl:=[x.v,x.pr,x.sh,x.id]
abbrev DN(x:Rk):Array Vl:= #[x.v,x.pr,x.sh,x.id]
abbrev Rks:=cp jF 4
abbrev MR:=be jF 4
theorem Lf:wU jF 4:=⟨fun _=>rfl,fun x u a=>by simp[jF]at a;rcases a with rfl|rfl|rfl|rfl<;>rfl,by omega⟩
theorem UK:(prog.info? 417).map (fun i=>(i.zero,i.size,i.bytes))=some (some (.agg #[(),(),(),()]),4,32):=by kernel_rfl
def gq(a b:Int):Int:=if a<b then -1 else if b<a then 1 else 0
def S9(x y:Rk):Int:=Pn [gq y.pr x.pr,gq x.sh y.sh,gq x.id y.id]
theorem orL_3(a b c:Int):Pn [a,b,c]=if a≠0 then a else if b≠0 then b else c:=by
 unfold Pn;by_cases h:a=0
 ·by_cases h2:b=0
  ·by_cases d:c=0<;>simp[h,h2,d]
  ·simp[h,h2]
 ·simp[h]
theorem ltR(x y:Rk):ltOf S9 x y=decide (y.pr<x.pr\/(y.pr=x.pr/\(x.sh<y.sh\/(x.sh=y.sh/\x.id<y.id)))):=by
 unfold ltOf S9;rw[orL_3];apply iD.2;unfold gq
 repeat' split
 all_goals omega
theorem swoR:SWO (ltOf S9)where
 irrefl x:=by rw[ltR];simp
 trans x y z h1 h2:=by
  rw[ltR]at*;simp only[dA]at*;omega
 ntrans x y z h1 h2:=by
  rw[ltR]at*;simp only[dS]at*;omega
theorem G4(x:Int)(w:Wd):Cs prog 448 #[x] w fun e w'=>e=.returned false/\w=w':=by
 go_in;go_wp2;go_ret;exact⟨by simp,rfl⟩
theorem NJ(a b:Int)(w:Wd):Cs prog 434 #[a,b] w fun e w'=>e=.returned (gq a b:Int)/\w=w':=by
 have d:=ah G4;by_cases h1:a<b
 ·have c:Hid (gq a b= -1):=by show gq a b= -1;simp[gq,h1]
  go_in;go_wp2_with(go_at_call 448;refine(d _ _).mono ?_;rintro e f ⟨rfl,rfl⟩);go_ret;exact⟨ax c.symm,rfl⟩
 ·by_cases h2:b<a
  ·have c:Hid (gq a b=1):=by show gq a b=1;simp[gq,h1,h2]
   go_in;go_wp2_with(go_at_call 448;refine(d _ _).mono ?_;rintro e f ⟨rfl,rfl⟩);go_ret;exact⟨ax c.symm,rfl⟩
  ·have c:Hid (gq a b=0):=by show gq a b=0;simp[gq,h1,h2]
   go_in;go_wp2_with(go_at_call 448;refine(d _ _).mono ?_;rintro e f ⟨rfl,rfl⟩);go_ret;exact⟨ax c.symm,rfl⟩
theorem ints3(V:Wd)(a b c:Int):fs (V.alloc (.cells #[a,b,c] 3)).drew V 3 [a,b,c]:=by
 refine⟨rfl,fun r d=>by simp[gl]at d;rcases d with rfl|rfl|rfl<;>rfl,fun _=>⟨V,0,rfl,by simp,fun i r d j v e=> ?_⟩⟩;have f:ai (V.alloc (.cells #[a,b,c] 3)).drew V 3 #[a,b,c]:=ai.new _ _ _;have g:=f.cell (0+i*1+j);rw[g]
 match i,j with
 |0,0=>simp[gl]at d;subst d;simpa using e
 |1,0=>simp[gl]at d;subst d;simpa using e
 |2,0=>simp[gl]at d;subst d;simpa using e
 |0,j+1=>simp[gl]at d;subst d;simp at e
 |1,j+1=>simp[gl]at d;subst d;simp at e
 |2,j+1=>simp[gl]at d;subst d;simp at e
 |i+3,_=>simp at d
theorem DQ(a b:Rk)(w:Wd):Cs prog 415 #[.agg (DN a),.agg (DN b)] w fun e w'=>e=.returned (S9 a b:Int)/\∃q i,w'=Go.Sort.grow (w.drewN q) i:=by
 obtain⟨V,g⟩:=nm ((w.alloc (.cells (DN a) 417)).alloc (.cells (DN b) 417));have c:ai V w 417 (DN a):=g▸(ai.new _ _ _).alloc _;have d:ai V (w+1) 417 (DN b):=by rw[g];have:=ai.new (w.alloc (.cells (DN a) 417)) 417 (DN b);simpa using this
 have r:Hid (∃q i,(V.alloc (.cells #[(gq b.pr a.pr:Int),(gq a.sh b.sh:Int),(gq a.id b.id:Int)] 3)).drew=Go.Sort.grow (w.drewN q) i):=by
  refine⟨1,(#[.cells (DN a) 417]++ #[.cells (DN b) 417])++ #[.cells #[(gq b.pr a.pr:Int),(gq a.sh b.sh:Int),(gq a.id b.id:Int)] 3],?_⟩;rw[g,Go.Sort.alloc_eq_grow,Go.Sort.alloc_eq_grow,Go.Sort.alloc_eq_grow,Go.Sort.grow_grow,Go.Sort.grow_grow];rfl
 have l:=ah fun x y W=>NJ x y W;have j:=ah fun A (W:Wd) (h:fs W A [gq b.pr a.pr,gq a.sh b.sh,gq a.id b.id].length [gq b.pr a.pr,gq a.sh b.sh,gq a.id b.id])=>Be A 3 [gq b.pr a.pr,gq a.sh b.sh,gq a.id b.id] W h (by simp)
 change Hid (∀A W,_->Cs _ _ _ W fun e w'=>e=.returned (S9 a b:Int)/\_)at j
 have k:Hid (∀w',Bl V V w'->w'.cell? ⟨w,1,none⟩=some (a.pr:Vl)/\w'.cell? ⟨w,2,none⟩=some (a.sh:Vl)/\w'.cell? ⟨w,3,none⟩=some (a.id:Vl)/\w'.cell? ⟨w.heap.size+1,1,none⟩=some (b.pr:Vl)/\w'.cell? ⟨w.heap.size+1,2,none⟩=some (b.sh:Vl)/\w'.cell? ⟨w.heap.size+1,3,none⟩=some (b.id:Vl)):=fun w' f=>⟨(c.ae f c.lt).cell 1,(c.ae f c.lt).cell 2,(c.ae f c.lt).cell 3,(d.ae f d.lt).cell 1,(d.ae f d.lt).cell 2,(d.ae f d.lt).cell 3⟩;clear c d;go_in;go_wp2_with fail;rw[<-g];clear g;have n:Bl V V V.drew:=bR.drew;have o:Bl V V (V.alloc (.cells #[(gq b.pr a.pr:Int),(gq a.sh b.sh:Int),(gq a.id b.id:Int)] 3)).drew:=(aA).drew;have m:Hid (fs (V.alloc (.cells #[(gq b.pr a.pr:Int),(gq a.sh b.sh:Int),(gq a.id b.id:Int)] 3)).drew V 3 [gq b.pr a.pr,gq a.sh b.sh,gq a.id b.id]):=ints3 _ _ _ _
 go_region_held3 (fun w'=>w'.cell? ⟨w,1,none⟩=some (a.pr:Vl)/\w'.cell? ⟨w,2,none⟩=some (a.sh:Vl)/\w'.cell? ⟨w,3,none⟩=some (a.id:Vl)/\w'.cell? ⟨w.heap.size+1,1,none⟩=some (b.pr:Vl)/\w'.cell? ⟨w.heap.size+1,2,none⟩=some (b.sh:Vl)/\w'.cell? ⟨w.heap.size+1,3,none⟩=some (b.id:Vl))
  (first|with_reducible exact k.out _ n|with_reducible exact k.out _ o)
  (first
    |(go_at_call 434;refine(l _ _ _).mono ?_;rintro e p ⟨rfl,rfl⟩)
    |(go_at_call 113;refine(j _ _ m).mono ?_;rintro e p ⟨rfl,rfl⟩))
 all_goals go_wp2_with fail
 all_goals go_ret
 all_goals exact⟨rfl,r⟩
theorem Rx(p:OA)(b:Nat)(a:Vl)(w:Wd):Cs prog 449 #[.slice p 0 b,(),(),a] w fun e w'=>e=.returned (.tuple #[])/\w'=w:=by
 go_in;go_wp2_with fail;refine wp_loop_rounds 1 ?_;rw[rounds_succ];go_wp2;go_end0;exact⟨rfl,rfl⟩
theorem SC(p:OA)(b:Nat)(c:Int)(a:Vl)(w:Wd):Cs prog 433 #[.slice p 0 b,(),(),c,a] w fun e w'=>e=.returned (.tuple #[])/\w'=w:=by
 have hi:=ah fun W=>Rx p b a W;go_in;go_wp2_with fail;refine wp_loop_rounds 1 ?_;rw[rounds_succ];go_wp2_with(go_at_call 449;refine(hi.out _).mono ?_;rintro e w' ⟨rfl,rfl⟩)
 (try simp only[Exit.inBlock,Exit.then]);refine cU (lE rfl _ _ _) rfl ?_
 exact⟨rfl,rfl⟩
theorem Np(n:Nat)(w:Wd)(h:n<2^63):Cs prog 409 #[.int .u64 (n:Int)] w fun e w'=>e=.returned (Lib.bitLen n:Nat)/\w'=w:=by
 have h:=Any.bits_Len (SlLaysF0.n15.bits (P:=prog) (ρ:=vi) {Tt with}) (n:Int) w (by omega) (by omega)
 rwa [iA]at h
variable{w:Wd}{m g k:Nat}
theorem GW{d:Array Rk}{os:Array Obj}(a:k≠g)(b:k<w):(sortWorldK jF 4 w g 0 m d os).heap[k]?=w.heap[k]?:=by
 have hs:k<(Go.Sort.putRowK jF 4 (Go.Sort.ahead w m) g 0 d).heap.size:=by rw[Go.Sort.size_putRowK];exact b
 unfold sortWorldK;rw[Go.Sort.heap_grow_old _ _ hs];simp[Go.Sort.putRowK,Go.Sort.putRow,Go.Sort.mapBlock,Go.Sort.ahead,oP,sC a]
def AS(base:Nat)(A:OA)(n:Nat)(l:List Rk)(w:Wd)(e:Ed)(w':Wd):Prop:=∃l',e=.returned (.tuple #[])/\l'.Perm l/\Rks w' A n l'/\Bl base w w'
theorem GX{l:List Rk}(h1:∀j,j<l.length*4->w.cell? ⟨g,j,none⟩=(l.flatMap jF)[j]?)(h2:∀j,j<l.length*4->w.frozen? ⟨g,j,none⟩=false):Go.Sort.HoldsK jF 4 w g 0 l.toArray:=by
 intro j c;have a:j<l.length*4:=by simpa using c
 refine⟨?_,by rw[cR];exact h2 j a⟩;rw[cR,h1 j a,Go.Sort.get_flatK _ _ _ _ (by simpa using a)];have hi:j/4<l.length:=by omega
 have b:j % 4<4:=by omega
 have hx:l[j/4]?=some l[j/4]:=cE hi
 have d:(jF l[j/4])[j % 4]?=some (jF l[j/4])[j % 4]!:=by
  rw[getElem!_pos (jF l[j/4]) (j % 4) b];exact cE b
 have:=rj Lf l (j/4) _ (j % 4) _ hx d;rw[show j/4*4+j % 4=j by omega]at this;rw[this];simp[hi]
variable{n:Nat}
theorem LP   {d:Array Rk} (h : Go.Sort.HoldsK jF 4 w g 0 d) (hn : d.size = n) (hg : g < w) : Rks w (some ⟨g, 0, none⟩) n d.toList := by
  refine ⟨by simpa using hn, fun r a => ?_, fun e => ⟨g, 0, rfl, hg, fun i r a j v b => ?_⟩⟩
  · obtain ⟨x, -, rfl⟩ := cS.1 a
    rfl
  · rw [dD] at a
    obtain ⟨x, hx, rfl⟩ := i6.1 a;have hi : i < d.size := by have := (cA.1 hx).1; simpa using this
    have c : d[i]! = x := by
      rw [getElem!_pos d i hi];have := (cA.1 hx).2;simpa using this
    have := Go.Proofs.HoldsK.cells h (fun x => Lf.cb x) hi j v (by rw [c]; exact b);rw [Addr.add_lit] at this;exact this
theorem L2(base:Nat)(A:OA)(n c:Nat)(l:List Rk)(w:Wd)(h:MR w base A n c l)(hn:n<=1000000):
 Cs prog 414 #[.slice A n c,.func (.func 415) #[] #[]] w (AS base A n l w):=by
 have F:=h.1;subst F;have i:=ah (Np l.length w (by omega));have wr:IntKind.u64.wrap (l.length:Int)=l.length:=by simp[IntKind.wrap,IntKind.bits,IntKind.signed];omega
 rcases dX l.length with u|u
 ·have e0:l=[]:=dJ u;subst e0;have f:=ah fun t=>SC A c t (.func (.func 415) #[] #[]) w;have r:Hid (Rks w A 0 []):=cp.nil _ _ _ _;clear h;go_enter func414,ntmps414;go_wp2_with(first|(go_at_call 409;refine i.out.mono ?_;rintro e w' ⟨rfl,rfl⟩)|(go_at_call 433;refine(f.out _).mono ?_;rintro e w' ⟨rfl,rfl⟩));go_end0;exact⟨[],rfl,List.Perm.refl _,r.out,cC _ _⟩
 ·obtain⟨g,hA,J,d,h1,h2⟩:=h.2.room (by have:=h.2.le;omega);subst hA;have G:=h.2.le;have p:Go.Sort.HoldsK jF 4 w g 0 l.toArray:=GX h1 (fun j K=>(h2 j (by omega)).2);have f:=ah (AnyQ.pdqsortCmpFunc_all (P:=prog) (ρ:=vi) Tt 4 (fun w=>by kernel_rfl) (fun w=>by kernel_rfl) jF S9 415 #[] swoR g 0 c l.toArray w (enters_of func415 (by kernel_rfl) rfl) (fun m os I _ x y=>DQ x y _) ⟨fun x=>Lf.cb x,fun x v H=>Lf.one x v H,p,d⟩ (l.length+1) 0 l.length (Lib.bitLen l.length) l.toArray w (by omega) rfl (SWK.start p) (fK _) (by simp) (by simp;omega) (nM (Lib.bitLen_le l.length 62 (by omega) (by omega)) (by omega)) (Or.inl rfl));have z:=Go.Sort.pdq_sorts (ltOf S9) swoR l.toArray 0 l.length (Lib.bitLen l.length) true true (fK _) (by simp) (Or.inl rfl);have q:=z.1;obtain⟨a,k⟩:∃a,a=Go.Sort.pdq (ltOf S9) l.toArray 0 l.length (Lib.bitLen l.length) true true:=⟨_,rfl⟩;rw[<-k]at f q;have s:Hid (Cs prog 433 #[.slice (some ⟨g,0,none⟩) l.length c,.int .i64 0,.int .i64 (l.length:Int),.int .i64 (Lib.bitLen l.length:Nat),.func (.func 415) #[] #[]] w fun e w'=>e=.returned (.tuple #[])/\SWK jF 4 w g 0 a w'):=f;have b:a.size=l.toArray.size:=q.1
  have o:a.toList.Perm l:=by
   have:=q.2.2
   have C:a.extract 0 l.length=a:=by
    have:l.length=a.size:=by rw[b];simp
    rw[this,Array.extract_size]
   have D:l.toArray.extract 0 l.length=l.toArray:=by
    have:l.length=l.toArray.size:=by simp
    conv=>lhs;rw[this]
    exact Array.extract_size
   rw[C,D]at this;simpa using this
  have r:Hid (∀w',SWK jF 4 w g 0 a w'->AS base (some ⟨g,0,none⟩) l.length l w (.returned (.tuple #[])) w'):=by
   rintro w' ⟨m,os,rfl⟩;have B:=Go.Proofs.size_sortWorldK_c jF 4 w g 0 m a os;have E:=Go.Proofs.holdsK_sortWorldK_c jF 4 w g 0 l.toArray a m os p d b;exact⟨a.toList,rfl,o,LP E (by rw[b];simp) (cD d B),⟨rfl,rfl,rfl,B,fun x hx=>GW (by omega) (by omega)⟩⟩
  clear f z q k h h1 h2 o b p;go_enter func414,ntmps414;go_wp2_with(first|(go_at_call 409;refine i.out.mono ?_;rintro e w' ⟨rfl,rfl⟩)|(go_at_call 433;refine s.out.mono ?_;rintro e w' ⟨rfl,hw⟩));go_end0;exact r.out _ hw
set_option maxRecDepth 100000
abbrev RkZ:Array Vl:= #[(),(),(),()]
theorem UL:(prog.info? 417).map (·.size)=some 4:=by kernel_rfl
variable{A:OA}
theorem rk_at{l:List Rk}(h:Rks w A n l){i:Nat}(hi:i<n):∃b off s,A=some ⟨b,off,none⟩/\b<w/\l[i]?=some s/\w.cell? ⟨b,off+i*4,none⟩=some (s.v:Vl)/\w.cell? ⟨b,off+i*4+1,none⟩=some (s.pr:Vl)/\w.cell? ⟨b,off+i*4+2,none⟩=some (s.sh:Vl)/\w.cell? ⟨b,off+i*4+3,none⟩=some (s.id:Vl):=by
 obtain⟨b,off,s,hA,c,hs,a⟩:=h.at_ hi;exact⟨b,off,s,hA,c,hs,a 0 _ rfl,a 1 _ rfl,a 2 _ rfl,a 3 _ rfl⟩
def Gf(base:Nat)(l:List Rk)(w:Wd)(e:Ed)(w':Wd):Prop:=∃A n c out,e=.returned (.slice A n c)/\df w' w A n c out/\n=l.length/\out.Perm (l.map Rk.v)/\Bl base w w'
abbrev SdIn(base:Nat)(l:List Rk)(a:Wd)(X Y:Vl)(wr:Wd):Prop:=∃(k:Nat) (A:OA) (c:Nat),k<=l.length/\X=.slice A k c/\Y=.int .i64 k/\df wr base A k c ((l.take k).map Rk.v)/\Bl a a wr
theorem Ij(base:Nat)(A:OA)(n c:Nat)(l:List Rk)(w:Wd)(h:MR w base A n c l)(hn:n<=1000)(P:base<=w):Cs prog 390 #[.slice A n c] w (Gf base l w):=by
 have L:=ah (L2 base A n c l w h (by omega));have H:=h.1;subst H;clear h;go_in;go_wp2_with fail;refine L.out.mono ?_;rintro e x ⟨l',rfl,g,hR,b2⟩;have M:l'.length=l.length:=g.length_eq;have j:=ah b2;have p:=ah hR;have K:=ah g;obtain⟨i,B⟩:=nm l.length;rw[<-B]at p hn M⊢;clear b2 hR g;go_wp2
 go_loopw [3,10] (fun X Y wr=>SdIn x l' x X Y wr) (fun _ Y _=>i-(intOf Y).toNat)
 case atStart=>exact⟨0,none,0,fK _,rfl,rfl,be.nil _ _ _ _,cC _ _⟩
 case round=>
  obtain⟨k,C,F,W,rfl,rfl,r,z⟩:=hrel;have o:=ah r;have f:=ah z;clear r z;by_cases N:k<i
  ·obtain⟨b,off,s,rfl,V,hs,R,S,T,U⟩:=rk_at (p.ae f) N;have E:=ah hs;have m:Hid (ai (wr.alloc (.cells RkZ 417)) wr 417 RkZ):=ai.new _ _ _;obtain⟨q,d⟩:=nm ((wr.alloc (.cells RkZ 417)).setRow wr (DN s));have a:Bl wr wr q:=d▸aD;have t:ai q wr 417 (DN s):=d▸ai.row m _;have Q:=t.cell 0;simp at Q;obtain⟨D,G,Z,y,u,b3,-⟩:=mg (o.ae a) s.v (by omega) (aa f a).size;have I:=ah y;have O:=ah u;have J:=ah ((aa f a).trans b3);clear hs t a y u b3;go_wp2_with(first|(rw[<-d];clear d;go_step)|refine wB m UL rfl ?_|(at_builtin;refine au rfl _ _ rfl rfl rfl I ?_));refine⟨⟨k+1,D,G,by omega,rfl,by go_num,?_,J⟩,by simp[intOf];omega⟩;have:=O.out
   rwa [aM E.out,lA]
  ·obtain rfl:k=i:=by omega
   go_wp2;go_ret;refine⟨C,k,F,_,rfl,aS o j.size,B,?_,j.trans (f.out.mono (cF P j.size))⟩;rw[fG (by omega)];exact K.map _
def Ge(w:Wd)(b n:Nat):Prop:=∃m,gU prog 9 w b n m/\∀x v,m x=some v->∃i:Int,v=.int .i64 i
variable{w':Wd}{b:Nat}
theorem Ge.ae(h:Ge w b n)(a:Bl w w w'):Ge w' b n:=by obtain⟨m,h1,h2⟩:=h;exact⟨m,h1.ae a,h2⟩
theorem Ge.ij(h:Ge w b n)(a:w'.heap[b]?=w.heap[b]?):Ge w' b n:=by obtain⟨m,h1,h2⟩:=h;exact⟨m,h1.ij a,h2⟩
theorem Ge.mono{a:Nat}(h:Ge w b n)(hn:n<=a):Ge w b a:=by obtain⟨m,h1,h2⟩:=h;exact⟨m,h1.mono hn,h2⟩
theorem Uk{s:ByteArray}(h:s.size<=1000000):Go.keyOf prog 9 (.string s)=some (.string s.data.toList):=WideMaps.keyOf_string_mk underlying9 (by unfold maxLen;omega)
theorem Ge.update(h:Ge w b n)(hn:n<1000000){t:ByteArray}(ht:t.size<=1000000)(s:Int):
 ∃w',(Instr.mapUpdate 414 (.map (some b)) (.string t) s).run prog w=.ok () w'/\Ge w' b (n+1)/\aU b w w'/\Bl b w w':=by
 obtain⟨m,h1,h2⟩:=h;obtain⟨w',c,d,e,f⟩:=h1.update (Go.Maps.string_keyed underlying9) underlying414 (by unfold maxLen;omega) (Uk ht) trivial (val:=.int .i64 s);refine⟨w',c,⟨_,d,fun x v a=> ?_⟩,e,f⟩;unfold SN at a;split at a
 ·cases a;exact⟨s,rfl⟩
 ·exact h2 x v a
theorem Ge.look(h:Ge w b n){t:ByteArray}(ht:t.size<=1000000):∃(s:Int) (f:Bool),(Instr.lookup 414 (.map (some b)) (.string t) true).run prog w=.ok (.tuple #[s,f]) w/\(Instr.lookup 414 (.map (some b)) (.string t) false).run prog w=.ok s w:=by
 obtain⟨m,h1,h2⟩:=h;have a:=h1.look_ok (Go.Maps.string_keyed underlying9) underlying414 (mr w) (Uk ht) trivial;have c:=h1.look (Go.Maps.string_keyed underlying9) underlying414 (mr w) (Uk ht) trivial;cases hm:m (.string t.data.toList)with
 |none=>exact⟨0,false,by rw[a,hm];rfl,by rw[c,hm];rfl⟩
 |some v=>
  obtain⟨s,rfl⟩:=h2 _ v hm;exact⟨s,true,by rw[a,hm];rfl,by rw[c,hm];rfl⟩
variable{wr:Wd}{base:Nat}
theorem SG{e:OA}{a:Nat}{l:List Rk}(o:MR wr base e a g l)(x:Rk)(hn:a<=1000000)(h:base<=wr):
 ∃c d b,(Builtin.append_ #[413,413] 413 #[.slice e a g,.slice wr 1 1]).run prog (wr.alloc (.cells (DN x) 417))=.ok (.slice c (a+1) d) b/\MR b base c (a+1) d (l++[x])/\Bl base wr b:=by
 have f:Bl wr wr (wr.alloc (.cells (DN x) 417)):=aA;obtain⟨c,d,b,j,i,b3,k,_⟩:=dy Lf (P:=prog) (wr.alloc (.cells (DN x) 417)) base 413 413 417 _ 32 underlying413 UK rfl e a g _ (o.ae f) wr 1 1 [x] (cp.new Lf wr x (DN x) 417 rfl) (by simp only[maxLen];omega) (by omega) (cF h f.size);exact⟨c,d,b,j,i,(f.mono h).trans b3⟩
def tI(bO:List Int)(l:List Jr):List Int:=(l.map fun r=>r.j.id).filter fun i=>bO.contains i
structure F4(w2:Wd)(l:List Jr)(bO:List Int)(k m:Nat)(A:OA)(n c:Nat)(out:List Rk)(wr:Wd):Prop where
 le:k<=l.length
 cf:n<=m
 own:MR wr (w2+1) A n c out
 map:Ge wr w2 m
 du:Bl w2 w2 wr
 size:w2.heap.size+1<=wr
 rows:out.map Rk.v=tI bO (l.take k)
variable{l:List Jr}{bO:List Int}{c:Nat}{out:List Rk}
theorem F4.ae{b:Wd}(h:F4 b l bO k m A n c out wr)(a:Bl wr wr w'):F4 b l bO k m A n c out w':=
 ⟨h.le,h.cf,⟨h.own.1,h.own.2.ae a⟩,h.map.ae a,aa h.du a,cF h.size a.size,h.rows⟩
theorem F4.upd{b:Wd}(h:F4 b l bO k m A n c out wr)(i:m<=1000){t:ByteArray}(ht:t.size<=1000000)(s:Int):
 ∃w',(Instr.mapUpdate 414 (.map (some b)) (.string t) s).run prog wr=.ok () w'/\F4 b l bO k (m+1) A n c out w':=by
 obtain⟨w',d,e,a,f⟩:=h.map.update (by omega) ht s;exact⟨w',d,h.le,by have:=h.cf;omega,bS h.own a.size fun g h1 h2=>a.same g h2 (by omega),e,h.du.trans f,cF h.size a.size,h.rows⟩
variable{r:Jr}
theorem Rp(b:l[k]?=some r)(a:bO.contains r.j.id=false):tI bO (l.take (k+1))=tI bO (l.take k):=by
 unfold tI;rw[aM b,lA,iB];simp at a;simp[a]
theorem OB(b:l[k]?=some r)(a:bO.contains r.j.id=true):tI bO (l.take (k+1))=tI bO (l.take k)++[r.j.id]:=by
 unfold tI;rw[aM b,lA,iB];simp at a;simp[a]
theorem F4.skip{b:Wd}(h:F4 b l bO k m A n c out wr)(a:l[k]?=some r)(d:bO.contains r.j.id=false):F4 b l bO (k+1) m A n c out wr:=⟨(cA.1 a).1,h.cf,h.own,h.map,h.du,h.size,by rw[Rp a d];exact h.rows⟩
theorem F4.push{f:Wd}(h:F4 f l bO k m A n c out wr)(p:m<=1000)(e:l[k]?=some r)(g:bO.contains r.j.id=true){x:Rk}(hx:x.v=r.j.id):
 ∃a b d,(Builtin.append_ #[413,413] 413 #[.slice A n c,.slice wr 1 1]).run prog (wr.alloc (.cells (DN x) 417))=.ok (.slice a (n+1) b) d/\F4 f l bO (k+1) (m+1) a (n+1) b (out++[x]) d:=by
 have q:=h.cf;obtain⟨a,b,d,o,i,b3⟩:=SG h.own x (by omega) h.size;refine⟨a,b,d,o,(cA.1 e).1,by omega,i,(h.map.ij (b3.block _ (by omega))).mono (by omega),h.du.trans (b3.mono (by omega)),cF h.size b3.size,?_⟩;rw[lA,h.rows,OB e g];simp[hx]
abbrev OdIn(a:Wd)(l:List Jr)(bO:List Int)(X Y:Vl)(wr:Wd):Prop:=∃(k m:Nat) (A:OA) (n c:Nat) (out:List Rk),X=.slice A n c/\Y=.int .i64 k/\m<=2*k/\F4 a l bO k m A n c out wr
def J1(l:List Jr)(bO:List Int)(w:Wd)(e:Ed)(w':Wd):Prop:=∃A n c out,e=.returned (.slice A n c)/\df w' w A n c out/\n<=40/\Bl w w w'/\out.Perm (tI bO l)
theorem ww(A:OA)(n c:Nat)(l:List Jr)(U:OA)(M cu:Nat)(us:List Us)(I:OA)(L ci:Nat)(bO:List Int)(w:Wd)(h:pO w A n l)(S:gC (l.map Jr.j)=true)(hu:Aw w U M us)(uA:M<=maxLen)(hi:fs w I L bO)(uE:L<=maxLen):
 Cs prog 302 #[.slice A n c,.slice U M cu,.slice I L ci] w (J1 l bO w):=by
 have yO:=h.rows.cb;subst yO;have yY:l.length<=40:=by have:=(ds.1 S).cf;simpa using this
 have yU:=ah (gp A l.length c l w h (by simp only[maxLen];omega));have e0:gd (l.map Jr.j)=0:=by simp[gd,S]
 rw[e0]at yU;have HH:=ah h;have HI:=ah hi;have HU:=ah hu;have uL:= @sH prog;clear h S e0 hi hu;go_in;go_wp2_with fail;refine av yU fun g b2=> ?_;have D:=ah b2;have bE:Bl g g (g.alloc (.map #[] 0)):=aA;have yX:Hid (F4 g l bO 0 0 none 0 0 [] (g.alloc (.map #[] 0))):=⟨fK _,cB _,be.nil _ _ _ _,⟨_,gU.made _ _ _,fun x v h=>by cases h⟩,bE,by simp,rfl⟩;clear b2 bE;go_wp2
 go_loopw [7,20] (fun X Y wr=>OdIn g l bO X Y wr) (fun _ Y _=>l.length-(intOf Y).toNat)
 case atStart=>exact⟨0,0,none,0,0,[],rfl,rfl,by omega,yX⟩
 case round=>
  obtain⟨k,m,F,o,J,out,rfl,rfl,hm,yS⟩:=hrel;have a:=ah yS;clear yS;by_cases uG:k<l.length
  ·obtain⟨b,off,s,rfl,hb,hs,yR,hr⟩:=ir (HH.ae (aa D a.du)) uG;have R:=ah hs;have Q:=ah hr;have G:Hid (ai (wr.alloc (.cells cP 51)) wr 51 cP):=ai.new _ _ _;obtain⟨d,i⟩:=nm ((wr.alloc (.cells cP 51)).setRow wr (bk s));have H:Bl wr wr d:=i▸aD;have B:ai d wr 51 (bk s):=i▸ai.row G _;have x0:=B.cell 0;have x2:=B.cell 2;have x9:=B.cell 9;simp at x0 x2 x9;have p:=ah B;have N:=ah yR.us;have u:=ah (a.ae H);have O:=ah (gs I L ci bO s.j.id d (HI.ae (aa (aa D a.du) H)) uE);have uM:=ah H;clear hr hs B H yR;obtain⟨q,T⟩:∃q,bO.contains s.j.id=q:=⟨_,rfl⟩;rw[T]at O;have P:=ah T;clear T;cases q
   ·go_wp2_with(first|(rw[<-i];clear i;go_step)|refine wC Q t51 rfl ?_|refine wB G aK rfl ?_);refine O.out.mono ?_;rintro e V ⟨rfl,rfl⟩;go_wp2_with fail;exact⟨⟨k+1,m,F,o,J,out,rfl,by go_num,by omega,u.skip R P⟩,by simp[intOf];omega⟩
   ·obtain⟨sv,f,yH,yF⟩:=u.map.look N;cases f
    ·go_wp2_with(first|(rw[<-i];clear i;go_step)|refine wC Q t51 rfl ?_|refine wB G aK rfl ?_);refine O.out.mono ?_;rintro e V ⟨rfl,rfl⟩;go_wp2_with fail;clear yH yF;go_cut [] (fun r=>ai r wr 51 (bk s)/\F4 g l bO k (m+1) F o J out r)
     case first=>
      have yM:Hid (∀r,Bl d d r->∀n:Int,∃t,(Instr.mapUpdate 414 (.map (some g)) (.string s.j.us) n).run prog r=.ok () t/\ai t wr 51 (bk s)/\F4 g l bO k (m+1) F o J out t):=fun r hx n=>by
       obtain⟨t,r1,r2⟩:=(u.ae hx).upd (by omega) N n;obtain⟨uJ,q1,q2,q3,q4⟩:=(u.ae hx).map.update (by omega) N n;rw[r1]at q1;cases q1;exact⟨t,r1,(q3.same _ (p.ae hx p.lt).lt (by have:=a.size;omega)).trans (p.ae hx p.lt),r2⟩
      have uC:=ah fun(W:Wd) (hW:Bl d d W)=>LY s.j.us U M cu us W (HU.ae (aa (aa D u.du) hW)) uA;have b0:Bl d d d.drew:=bR.drew
      go_region_with (go_at_call 389;refine(uC _ b0).mono ?_;rintro e w8 ⟨nn,rfl,b8⟩;have bz:=aa b0 b8;have uD:=(p.ae bz p.lt).cell 2;simp at uD;obtain⟨t,uK,uI,uH⟩:=yM _ bz nn)
      all_goals go_wp2_with fail
      all_goals go_meet
      all_goals exact⟨uI,uH⟩
     case rest=>
      obtain⟨K,hx⟩:=hcut;have HX:=ah hx;have z0:=K.cell 0;have z2:=K.cell 2;have z9:=K.cell 9;simp at z0 z2 z9;obtain⟨s2,f2,-,yT⟩:=hx.map.look N;obtain⟨y,z,w8,E,C⟩:=hx.push (x:=⟨s.j.id,s.j.pr,s2,s.j.id⟩) (by omega) R P rfl;have yL:=ah E;have yN:=ah C;clear E C hx K;go_wp2_with(first|(at_builtin;refine au rfl _ _ rfl rfl rfl yL ?_));exact⟨⟨k+1,m+2,y,o+1,z,out++[_],rfl,by go_num,by omega,yN⟩,by simp[intOf];omega⟩
    ·obtain⟨y,z,w8,E,C⟩:=u.push (x:=⟨s.j.id,s.j.pr,sv,s.j.id⟩) (by omega) R P rfl;have yL:=ah E;have yN:=ah C;clear E C;go_wp2_with(first|(rw[<-i];clear i;go_step)|refine wC Q t51 rfl ?_|refine wB G aK rfl ?_);refine O.out.mono ?_;rintro e V ⟨rfl,rfl⟩;go_wp2_with(first|(at_builtin;refine au rfl _ _ rfl rfl rfl yL ?_));exact⟨⟨k+1,m+1,y,o+1,z,out++[_],rfl,by go_num,by omega,yN⟩,by simp[intOf];omega⟩
  ·obtain rfl:k=l.length:=by have:=a.le;omega
   have ho:=a.own;have yW:o<=1000:=by have:=a.cf;omega
   have uB:=ah (Ij (g+1) F o J out wr ho yW a.size);go_wp2_with fail;refine uB.out.mono ?_;rintro e V ⟨y,n2,z,yP,rfl,uF,yQ,yV,b2⟩;have yZ:=ah yQ;clear yQ;go_wp2;go_ret;have yQ:=yZ.out;have Z:=a.rows;rw[cT]at Z;rw[Z]at yV;refine⟨y,n2,z,yP,rfl,aS uF ?_,?_,?_,yV⟩
   ·have:=D.size;have:=a.size;omega
   ·have h1:=cO List.length Z;have h2:(tI bO l).length<=l.length:=by unfold tI;exact cF (l8 _ _) (by simp)
    simp at h1;omega
   ·exact aa D (a.du.trans (b2.mono (by omega)))
theorem BS{out:List Int}(b:eT (l.map Jr.j) bO)(a:out.Perm (tI bO l)):eT (l.map Jr.j) out:=by
 refine⟨fun id h=> ?_,fun j e c d f=> ?_⟩
 ·have h1:=a.mem_iff.1 h;unfold tI at h1;obtain⟨h2,g⟩:=fM.1 h1;exact b.1 id (by simpa using g)
 ·have h1:=b.2 j e c d f;obtain⟨r,rfl⟩:∃r,l=[r]:=List.length_eq_one_iff.1 (by have:=cO List.length e;simpa using this);simp at e;subst e;rw[h1]at a;have:tI [r.j.id] [r]=[r.j.id]:=by simp[tI]
  rw[this]at a;exact List.perm_singleton.1 a
variable{id:Int}
theorem zv{a:List Int}{aj:List Jb}(h:a[k]?=some id):eu (a.take (k+1)) aj=eu (a.take k) aj++if((eh aj id).map fun j=>decide (0<=j.pm)).getD false then [id]else []:=by
 unfold eu;rw[aM h,iB]
 congr 1
 cases hq:((eh aj id).map fun j=>decide (0<=j.pm)).getD false<;>simp[hq]
def MO(aj:List Jb)(w:Wd)(e:Ed)(w':Wd):Prop:=∃A n c a,e=.returned (.slice A n c)/\df w' w A n c (eu a aj)/\n<=40/\eT aj a/\Bl w w w'
abbrev PrRel(V:Wd)(aj:List Jb)(a:List Int)(X Y:Vl)(wr:Wd):Prop:=∃(k:Nat) (A:OA) (n c:Nat),k<=a.length/\X=.slice A n c/\Y=.int .i64 k/\n<=k/\df wr V A n c (eu (a.take k) aj)/\Bl V V wr
theorem t7(x:Sr)(w:Wd)(h:db w x)(F:fy x.s=true):Cs prog 187 #[.agg (aY x)] w (MO x.s.aj w):=by
 obtain⟨V,Z,g,kV⟩:=az w (aY x) 28
 have N:gC (x.jr.map Jr.j)=true:=by
  rw[h.jr];simp only[fy,ie,cH]at F;exact F.1.1.2
 have yQ:=ah fun(W:Wd) (b:Bl V.heap.size V W)=>oR x.J.A x.J.n x.J.c x.jr W ((h.ae g).ae b).aj (by have:=h.fg.cf;unfold maxLen;omega) N;have yT:=ah fun(W:Wd) (b:Bl V.heap.size V W) (I:OA) (l v:Nat) (bO:List Int) (hi:fs W I l bO) (yR:l<=maxLen)=>ww x.J.A x.J.n x.J.c x.jr x.L.A x.L.n x.L.c x.s.bK I l v bO W ((h.ae g).ae b).aj N ((h.ae g).ae b).bK (by have:=h.Hs.cf;unfold maxLen;omega) hi yR;have R:=ah fun(W:Wd) (b:Bl V.heap.size V W) (id:Int)=>m4 x.J.A x.J.n x.J.c x.jr id W ((h.ae g).ae b).aj (by have:=h.fg.cf;omega) h.fg.le;rw[h.jr]at R yQ;have yZ:=ah h.jr;have Q:=ah g;have o:=ah kV;clear h F g kV N;go_enter func187,ntmps187;go_wp2_with fail;rw[<-Z];clear Z;refine bW (fun W=>Bl V.heap.size V W) (fun _=>True) #[] [6,7] 0 [0,1,2,3,4,5,9,6,7,8] (by kernel_rfl) (by kernel_rfl) bR.drew trivial ?_;have G:Bl V.heap.size V V.drew:=bR.drew
 iterate 7
  refine lqe rfl (fun _ _ _ _ h=>h) ?_;apply Exists.intro;refine⟨fun W hW _=> ?_,?_⟩
  ·obtain⟨c0,u,T,c3,c4,c5,c6,c7⟩:=T6 (o.out.ae hW o.out.lt);go_simp
   try rfl
 refine el 257 #[.slice x.J.A x.J.n x.J.c] rfl rfl (some 14) rfl rfl rfl (by go_simp) ?_;refine(yQ.out _ G).mono ?_;rintro e W ⟨I,l,v,bO,rfl,hi,yR,P,b1⟩;have y:=aa G b1;refine⟨_,rfl,y,trivial,?_⟩;refine el 302 #[.slice x.J.A x.J.n x.J.c,.slice x.L.A x.L.n x.L.c,.slice I l v] rfl rfl (some 15) rfl rfl rfl (by go_simp) ?_;refine(yT.out _ y I l v bO (hi.et gi) (by unfold maxLen;omega)).mono ?_;rintro e W2 ⟨A,n,c,a,rfl,i,hn,b2,yF⟩;have H:=aa y b2;refine⟨_,rfl,H,trivial,?_⟩;refine lqe rfl (fun _ _ _ _ h=>h) ?_;apply Exists.intro;refine⟨fun W hW _=> ?_,?_⟩
 ·go_simp
  try rfl
 refine ew ?_;simp only[Act.put,aE,aF,aG,cM,cJ,cI]
 have yV:Hid (eT x.s.aj a):=by
  show eT _ _;rw[<-yZ.out]at P⊢;exact BS P yF
 have yL:a.length=n:=i.1;subst yL;have HO:=ah i;have yS:=ah H;clear G y H b1 b2 i hi P yF;go_wp2_with fail
 go_loopw [3,17] (fun X Y wr=>PrRel W2 x.s.aj a X Y wr) (fun _ Y _=>a.length-(intOf Y).toNat)
 case atStart=>exact⟨0,none,0,0,by omega,rfl,rfl,by omega,be.nil _ _ _ _,cC _ _⟩
 case round=>
  obtain⟨k,D,z,u,hk,rfl,rfl,uC,i,B⟩:=hrel;have S:=ah i;have yU:=ah B;have M:=ah (aa yS.out B);clear i;by_cases uB:k<a.length
  ·obtain⟨bb,off,id,rfl,uD,yP,yH⟩:=cp.int ((HO.out.et gi).ae B) uB;have m:=ah (zv (aj:=x.s.aj) yP);have uA:=ah (R.out wr M.out id);have y2:=(o.out.ae M.out o.out.lt).cell 2;simp at y2;clear yP B;go_wp2_with fail;refine uA.out.mono ?_;rintro e f ⟨r,rfl,hr,b4,K,-⟩;have p:Hid (ai (f.alloc (.cells cP 51)) f.heap.size 51 cP):=ai.new _ _ _;obtain⟨U,d⟩:∃U,U=(f.alloc (.cells cP 51)).setRow f.heap.size (bk r):=⟨_,rfl⟩;have E:Bl f.heap.size f U:=d▸aD;have kU:ai U f.heap.size 51 (bk r):=d▸ai.row p.out _;have yY:=kU.cell 14;simp at yY;have C:=ah (aa (aa yU.out b4) E);have O:=ah ((S.out.ae b4).ae E);clear b4 E kU hr y2 yH
   cases hf:eh x.s.aj id with
   |none=>
    rw[hf]at m;have t:Hid (eu (a.take (k+1)) x.s.aj=eu (a.take k) x.s.aj):=by show _=_;rw[m.out];simp
    simp only[Option.isSome_none];clear hf K m;go_wp2_with(first|(rw[<-d];clear d;go_step)|refine dp rfl _ _ _ rfl p.out rfl rfl aK rfl rfl rfl ?_);refine⟨⟨k+1,D,z,u,by omega,rfl,by go_num,by omega,?_,C.out⟩,by simp[intOf];omega⟩;rw[t.out];exact O.out
   |some j=>
    have hj:=K j hf;subst hj;rw[hf]at m;simp only[Option.isSome_some];clear hf K;obtain⟨q,hq⟩:∃q,decide (0<=r.j.pm)=q:=⟨_,rfl⟩;have t:Hid (eu (a.take (k+1)) x.s.aj=eu (a.take k) x.s.aj++if q then [id]else []):=by show _=_;rw[m.out,<-hq];rfl
    clear m;cases q
    ·go_wp2_with(first|(rw[<-d];clear d;go_step)|refine dp rfl _ _ _ rfl p.out rfl rfl aK rfl rfl rfl ?_);refine⟨⟨k+1,D,z,u,by omega,rfl,by go_num,by omega,?_,C.out⟩,by simp[intOf];omega⟩;rw[t.out];simpa using O.out
    ·obtain⟨A2,T,w3,yG,o3,b3,-⟩:=mg O.out id (by omega) C.out.size;have yO:=ah yG;have yX:=ah o3;have yW:=ah (C.out.trans b3);clear yG o3 b3;go_wp2_with(first|(rw[<-d];clear d;go_step)|(at_builtin;refine au rfl _ _ rfl rfl rfl yO.out ?_)|refine dp rfl _ _ _ rfl p.out rfl rfl aK rfl rfl rfl ?_);refine⟨⟨k+1,A2,z+1,T,by omega,rfl,by go_num,by omega,?_,yW.out⟩,by simp[intOf];omega⟩;rw[t.out];exact yX.out
  ·obtain rfl:k=a.length:=by omega
   go_wp2_with fail;go_ret;refine⟨D,z,u,a,rfl,?_,by omega,yV.out,aa Q.out M.out⟩;have:=S.out;rw[cT]at this;exact aS this (aa Q.out yS.out).size
set_option maxRecDepth 512
theorem ul{l:List Al}(h:DD w A n l):Steps w A n (l.map fun a=>(a.nd,a.wl)):=by
 have:(l.map fun a=>(a.nd,a.wl)).map zU=l.map tr:=by rw[nO];rfl
 have b:Cells w A n 2 (l.map tr):=h;rw[<-this]at b;exact b
theorem Q5(j:Jb):0<=(pX j).1/\(pX j).1<=1000000/\0<=(pX j).2.1/\(pX j).2.1<=2000000:=by
 cases hc:fg j&&j.st==1&&decide (0<=j.pm)
 ·have:jc j=none:=D4 hc;simp[pX,this]
 ·simp only[cH,iC,dA]at hc;obtain⟨a,h1,h2,c,d,e,f⟩:=Bb hc.1.1 hc.1.2 hc.2;obtain⟨-,-,-,b⟩:=gn (lm hc.1.1 hc.1.2)
  have g:j.pm<=1000000:=by
   rcases b with⟨q,-⟩|q
   ·omega
   ·exact(ej.1 q.1).2
  simp only[pX,h2,i8];omega
theorem IX(p:List bC)(a b n:Int):(add p a b n).1.length<=1000:=by
 by_cases h:(add p a b n).2=0
 ·obtain⟨-,-,d,c⟩:=M9 h;rw[c];exact d.cf
 ·have:(add p a b n).1=[]:=by
   unfold add at h⊢
   repeat' split
   all_goals first|rfl|(simp_all;done)
  rw[this];simp
theorem take_len(p:List bC)(t l n:Int):(nA p t l n).1.length<=1000:=by
 unfold nA;split
 ·exact IX _ _ _ _
 ·simp
def Fc(l:List Jr):Int->Option Vl:=fun id=>(l.findIdx? (fun r=>r.j.id==id)).map (fun i=> .int .i64 (i:Int))
theorem LE{s:Jr}(hs:l[k]?=some s)(f:l.Pairwise (fun a b=>a.j.id<b.j.id)):Fc (l.take (k+1))=zF (Fc (l.take k)) s.j.id k:=by
 obtain⟨c,rfl⟩:=cA.1 hs
 funext id
 unfold Fc zF;rw[fF c,List.findIdx?_append];have d:(l.take k).length=k:=by rw[fD];omega
 by_cases e:id=l[k].j.id
 ·subst e
  have hn:(l.take k).findIdx? (fun r=>r.j.id==l[k].j.id)=none:=by
   rw[List.findIdx?_eq_none_iff];intro x hx;obtain⟨a,g,rfl⟩:=dO.1 hx;have:=cN.1 f a k (by omega) c (by omega);simp;omega
  rw[hn,cK rfl];simp[d,List.findIdx?_cons]
 ·rw[cL e];have:(l[k].j.id==id)=false:=by simpa using fun h=>e h.symm
  simp[List.findIdx?_cons,this]
theorem SD(e:l.Pairwise (fun a b=>a.j.id<b.j.id))(h:∃r∈l,r.j.id=id):∃(i:Nat) (r:Jr),l[i]?=some r/\r.j.id=id/\Fc l id=some (.int .i64 (i:Int)):=by
 obtain⟨r,d,c⟩:=h;cases hf:l.findIdx? (fun r=>r.j.id==id)with
 |none=>
  rw[List.findIdx?_eq_none_iff]at hf;have:=hf r d;simp[c]at this
 |some i=>
  obtain⟨hi,h1,-⟩:=List.findIdx?_eq_some_iff_getElem.1 hf;exact⟨i,l[i],cE hi,by simpa using h1,by unfold Fc;rw[hf];rfl⟩
theorem Rl{l:List Jb}(h:vI l){j:Jb}(a:j∈l):l.find? (fun x=>x.id==j.id)=some j:=by
 cases hf:l.find? (fun x=>x.id==j.id)with
 |none=>exact absurd (iX.1 hf j a) (by simp)
 |some k=>rw[mo h.up (fQ hf) a (by simpa using nR hf)]
theorem Ik{am:Int}{l:List Jb}(a:vI l)(hw:∀j∈l,j.nd<2^64)(left:List bC)(bO:List Int):eG l (bO.foldl (pN am) (left,l)).2:=rk (P:=fun s=>eG l s.2) (fun s id h=>Cd a hw h id) _ (left,l) (eG.refl a hw)
theorem Pz{l m:List Jb}(h:eG l m):m.map Jb.id=l.map Jb.id:=by
 apply nY;intro i;rw[dD,dD];by_cases hi:i<l.length
 ·have hx:=cE hi;have a:=cE (show i<m.length by rw[h.1];exact hi);rw[hx,a];simp[(h.2 i _ _ hx a).1.1]
 ·rw[dP (show m.length<=i by have:=h.1;omega),dP (show l.length<=i by omega)]
theorem Dk{a:List Int}{aj:List Jb}(h:id∈eu a aj):∃j∈aj,j.id=id:=by
 unfold eu at h;have h2:=(fM.1 h).2
 cases hf:eh aj id with
 |none=>rw[hf]at h2;simp at h2
 |some j=>exact⟨j,(fq hf).2.1,(fq hf).2.2.1⟩
theorem SO{am:Int}{left:List bC}{a:List Jb}{j:Jb}(h:vI a)(c:j∈a)(b:j.id=id):pN am (left,a) id=PT am (left,a) j:=by
 subst b;unfold pN;rw[Rl h c]
theorem uy{α β:Type}{f:α->β->α}{l:List β}{a:α}{x:β}(h:l[k]?=some x):(l.take (k+1)).foldl f a=f ((l.take k).foldl f a) x:=by
 rw[aM h,lP];rfl
set_option maxRecDepth 100000
attribute [local go_sem] Oper.semAt_some
def np(aj:List Jb)(bO:List Int):List Jb:=bO.filterMap fun id=>(eh aj id).bind fun j=>if j.pm= -1 then some j else none
theorem Ht{aj:List Jb}{a:List Int}(h:a[k]?=some id):np aj (a.take (k+1))=np aj (a.take k)++(((eh aj id).bind fun j=>if j.pm= -1 then some j else none).toList):=by
 unfold np;rw[aM h,List.filterMap_append];cases h2:(eh aj id).bind (fun j=>if j.pm= -1 then some j else none)<;>simp[h2]
theorem Et(am:Int)(left:List bC)(a:List Int)(aj:List Jb):ko am left a aj=((np aj a).foldl (fun s j=>t6 am s j) (left,aj)).2:=by
 unfold ko np
 congr 1
 generalize(left,aj)=s
 have:∀(J:List Jb) (s:List bC×List Jb),a.foldl (sN am J) s=(a.filterMap fun id=>(eh J id).bind fun j=>if j.pm= -1 then some j else none).foldl (fun s j=>t6 am s j) s:=by
  intro J
  induction a with
  |nil=>intro s;rfl
  |cons id r ih=>
   intro s;rw[i9,ih]
   cases hf:eh J id with
   |none=>simp[sN,hf]
   |some j=>
    by_cases b:j.pm= -1
    ·simp[sN,hf,b]
    ·simp[sN,hf,b]
 exact this aj s
def UX(E:Nat->Prop)(B:Nat)(W a:Wd):Prop:=Bl 0 W a/\∀b,b<B->¬E b->a.heap[b]?=W.heap[b]?
theorem Ph(n:Nat)(hn:3<=n)(l C:Nat)(x:Sr)(E:Nat->Prop)(J:Nat->List Jr->Wd->Prop)(W:Wd)(yW:fy x.s=true)
 (uC:∀b,E b->b<W.heap.size)(hx:∀G,UX E W.heap.size W G->db G x)(hP:ai W C 28 (aY x))(hE:¬E C)
 (hJ:∀B pre X Y,J B pre X->Bl X.heap.size X Y->J B pre Y)(h0:∀X,Bl W.heap.size W X->J X.heap.size [] X)
 (hY:∀B pre r X,W.heap.size<=B->B<=X.heap.size->pre.length<=1000->J B pre X->eF X r->r.j∈x.s.aj->r.j.pm= -1->fg r.j=true->YieldAt Fence.wide (n-1) prog l #[.agg (bk r)] X fun e Y=>e=.returned (.bool true)/\J B (pre++[r]) Y/\UX E B X Y):
 CallsIn Fence.wide n prog 388 #[.func (.yield l) #[] #[],.pointer (some ⟨C,0,none⟩)] W fun e G=>(∃v,e=.returned v)/\∃B d a,W.heap.size<=B/\J B d G/\d.map Jr.j=np x.s.aj a/\eT x.s.aj a:=by
 refine callsIn_of_wp func388 rfl trivial ?_ rfl;simp only[ntmps388,oJ,dV,iP,Nat.reduceAdd,Nat.reduceSub,rA,oY,sE,rF,dH,nH];have i:=hx W ⟨cC _ _,fun _ _ _=>rfl⟩
 have yS:gC (x.jr.map Jr.j)=true:=by
  rw[i.jr];simp only[fy,ie,cH]at yW;exact yW.1.1.2
 have yR:=ah fun(X:Wd) (b:Bl W.heap.size W X)=>oR x.J.A x.J.n x.J.c x.jr X (i.ae b).aj (by have:=i.fg.cf;unfold maxLen;omega) yS;have uA:=ah fun(X:Wd) (b:Bl W.heap.size W X) (I:OA) (w H:Nat) (bO:List Int) (hi:fs X I w bO) (uG:w<=maxLen)=>ww x.J.A x.J.n x.J.c x.jr x.L.A x.L.n x.L.c x.s.bK I w H bO X (i.ae b).aj yS (i.ae b).bK (by have:=i.Hs.cf;unfold maxLen;omega) hi uG;rw[i.jr]at yR;have uR:=ah i.jr;have HX:=ah hx;have z:=ah hP;have HE:=ah hE;have yQ:=ah uC;have HJ:=ah hJ;have H0:=ah h0;have HY:=ah hY;clear yW hx hP hE uC hJ h0 hY yS i;gi_wp2_with fail;refine wpIn_wide.2 ?_;refine bW (fun X=>Bl W.heap.size W X) (fun _=>True) #[] [6,7] 0 [0,1,2,3,4,5,9,6,7,8] (by kernel_rfl) (by kernel_rfl) bR.drew trivial ?_;have V:Bl W.heap.size W W.drew:=bR.drew
 iterate 7
  refine lqe rfl (fun _ _ _ _ h=>h) ?_;apply Exists.intro;refine⟨fun X hX _=> ?_,?_⟩
  ·obtain⟨c0,c1,c2,c3,c4,c5,c6,c7⟩:=T6 (z.out.ae hX z.out.lt);go_simp
   try rfl
 refine el 257 #[.slice x.J.A x.J.n x.J.c] rfl rfl (some 13) rfl rfl rfl (by go_simp) ?_;refine(yR.out _ V).mono ?_;rintro e X ⟨I,w,H,bO,rfl,hi,uG,yX,b1⟩;have D:=aa V b1;refine⟨_,rfl,D,trivial,?_⟩;refine el 302 #[.slice x.J.A x.J.n x.J.c,.slice x.L.A x.L.n x.L.c,.slice I w H] rfl rfl (some 14) rfl rfl rfl (by go_simp) ?_;refine(uA.out _ D I w H bO (hi.et gi) (by unfold maxLen;omega)).mono ?_;rintro e f ⟨A,n2,c,a,rfl,T,qA,b2,yG⟩;have M:=aa D b2;refine⟨_,rfl,M,trivial,?_⟩;refine lqe rfl (fun _ _ _ _ h=>h) ?_;apply Exists.intro;refine⟨fun X hX _=> ?_,?_⟩
 ·go_simp
  try rfl
 refine ew ?_;simp only[Act.put,aE,aF,aG,cM,cJ,cI]
 have uM:Hid (eT x.s.aj a):=by
  show eT _ _;rw[<-uR.out]at yX⊢;exact BS yX yG
 have yT:a.length=n2:=T.1;subst yT;have HO:Hid (df f W.heap.size A a.length c a):=aS T (by have:=D.size;omega);have P:=ah M;have yV:=M.size;clear V D M b1 b2 T hi yX yG yR uA;gi_wp2_with fail
 gi_loopw [16] (fun p wr=>∃(k:Nat) (d:List Jr),k<=a.length/\p=.int .i64 k/\J f.heap.size d wr/\d.map Jr.j=np x.s.aj (a.take k)/\UX E f.heap.size f wr)
  (fun p _=>a.length-(intOf p).toNat)
 case atStart=>exact⟨0,[],fK _,rfl,H0.out _ P.out,rfl,cC _ _,fun _ _ _=>rfl⟩
 case round=>
  obtain⟨k,d,hk,rfl,K,uB,t⟩:=hrel;have uL:=t.1.size;have N:=ah uB;have uF:=ah t;have y:=HX.out wr ⟨(P.out.mono (fK _)).trans t.1,fun b h1 h2=>(t.2 b (by omega) h2).trans (P.out.block b h1)⟩;have kP:ai wr C 28 (aY x):=(t.2 C (cD z.out.lt yV) HE.out).trans (z.out.ae P.out z.out.lt);have hI:=bS HO.out uL fun g h1 h2=>t.2 g h2 fun e=>by have:=yQ.out g e;omega
  have uD:=ah K;clear t K uB;by_cases uW:k<a.length
  ·obtain⟨bb,off,id,rfl,uZ,yZ,yK⟩:=(hI.et gi).int uW;have yD:=ah (Ht (aj:=x.s.aj) yZ);have yU:=m4 x.J.A x.J.n x.J.c x.jr id wr y.aj (by have:=y.fg.cf;omega) y.fg.le;rw[y.jr]at yU;have uS:=ah yU;have y2:=kP.cell 2;simp at y2;clear hI yZ yU y kP;gi_wp2_with fail;refine⟨trivial,?_⟩;refine⟨fun _=>by omega,?_⟩;refine(lV.2 uS.out).mono ?_;rintro e o ⟨r,rfl,hr,b4,yF,yE,-⟩;have Q:Hid (ai (o.alloc (.cells cP 51)) o.heap.size 51 cP):=ai.new _ _ _;obtain⟨U,u⟩:∃U,U=(o.alloc (.cells cP 51)).setRow o.heap.size (bk r):=⟨_,rfl⟩;have S:Bl o.heap.size o U:=u▸aD;have Z:ai U o.heap.size 51 (bk r):=u▸ai.row Q.out _;have uN:=Z.cell 14;simp at uN;have O:=ah (aa b4 S);have uQ:=ah (hr.ae S);have uU:=ah Z;have yH:Hid (UX E f.heap.size f U):=⟨uF.out.1.trans (O.out.mono (fK _)),fun b h1 h2=>(O.out.block b (by omega)).trans (uF.out.2 b h1 h2)⟩;have uH:=ah (HJ.out _ _ _ _ uD.out O.out);have uJ:=ah yF;have uO:=ah yE;clear b4 S Z hr y2 yK yF yE;obtain⟨q,hq⟩:∃q,(r.j.pm== -1)=q:=⟨_,rfl⟩;cases q
   case false=>
    have R:Hid (np x.s.aj (a.take (k+1))=np x.s.aj (a.take k)):=by
     show _=_;rw[yD.out]
     cases m:eh x.s.aj id with
     |none=>simp
     |some j=>
      have:=uJ.out j m;have uP:¬j.pm= -1:=by rw[<-this];simpa using hq
      simp[uP]
    gi_wp2_with (first|(rw[<-u];clear u)|refine P6 (.inl rfl) rfl _ _ _ rfl Q.out rfl rfl aK rfl rfl rfl ?_);refine⟨fun _ h=>(by cases h),?_⟩;gi_wp2_with fail
    go_roundw
    case rel=>exact⟨k+1,d,by omega,by go_num,uH.out,by rw[R.out];exact N.out,yH.out⟩
    case measure=>simp[intOf];omega
   case true=>
    gi_wp2_with (first|(rw[<-u];clear u)|refine P6 (.inl rfl) rfl _ _ _ rfl Q.out rfl rfl aK rfl rfl rfl ?_|(gi_guarded;refine JI (.inl rfl) rfl (wp_load_row _ _ rfl _ rfl _ _ (0,0) _ uU.out underlying51 rfl aK ?_)));have F:r.j.pm= -1:=by simpa using hq
    obtain⟨j,m⟩:∃j,eh x.s.aj id=some j:=by
     cases m:eh x.s.aj id with
     |some j=>exact⟨j,rfl⟩
     |none=>
      have:=uO.out m;rw[this]at F;simp[zJ]at F
    have K:=uJ.out j m;subst K
    have R:Hid (np x.s.aj (a.take (k+1))=np x.s.aj (a.take k)++[r.j]):=by
     show _=_;rw[yD.out,m];simp[F]
    obtain⟨-,hm,-,uI⟩:=fq m;have uY:=O.out.size
    have uK:d.length<=1000:=by
     have e1:=cO List.length N.out;rw[dB]at e1;have e2:(np x.s.aj (a.take k)).length<=(a.take k).length:=List.length_filterMap_le _ _;have e3:=List.length_take_le k a;omega
    obtain⟨fn,tmps,yP,uV,hy,hR⟩:=HY.out f.heap.size d r U yV (by omega) uK uH.out uQ.out hm F uI;rw[hy];refine⟨fun _=>by omega,?_⟩;refine hR.mono ?_;rintro e Y ⟨rfl,uE,yY⟩;have uT:=ah uE;have uX:Hid (UX E f.heap.size f Y):=⟨yH.out.1.trans yY.1,fun b h1 h2=>(yY.2 b h1 h2).trans (yH.out.2 b h1 h2)⟩;clear F m hm uI hy hR uE yY;gi_wp2_with fail
    go_roundw
    case rel=>exact⟨k+1,d++[r],by omega,by go_num,uT.out,by rw[R.out,lA,N.out];rfl,uX.out⟩
    case measure=>simp[intOf];omega
  ·obtain rfl:k=a.length:=by omega
   clear hI y kP;gi_wp2_with fail;go_end0;exact⟨⟨_,rfl⟩,f.heap.size,d,a,yV,uD.out,by have:=N.out;rw[cT]at this;exact this,uM.out⟩
set_option maxRecDepth 512
structure Cn(w:Wd)(base:Nat)(A:OA)(n c:Nat)(l:List Jr):Prop where
 rows:gB w base A n c l
 nest:∀r∈l,∀W,w.heap.size<=W.heap.size->(∀c,base<=c->c<w.heap.size->A≠some ⟨c,0,none⟩->W.heap[c]?=w.heap[c]?)->eF W r
theorem vG.jbq{w:World}{A:Option Addr}(h:vG w base A n c l):Cn w base A n c l:=⟨h.rows,fun r f W h1 h2=>by
 obtain⟨g,e,j,d⟩:=h.at_ f;exact(d.hi h1 fun c i b=>h2 c (by omega) b fun a=>by rw[e]at a;injection a with a;injection a with a;omega).mE⟩
theorem Cn.ae(h:Cn w base A n c l)(a:Bl w.heap.size w w'):Cn w' base A n c l:=⟨h.rows.ae a,fun r f W h1 h2=>h.nest r f W (cF a.size h1) fun c d b e=>(h2 c d (cD b a.size) e).trans (a.block c b)⟩
theorem Cn.mono{a:Nat}(h:Cn w base A n c l)(b:a<=base):Cn w a A n c l:=⟨aS h.rows b,fun r e W h1 h2=>h.nest r e W h1 fun c d=>h2 c (cF b d)⟩
theorem Cn.RB{w:World}{A:Option Addr}(h:Cn w base A n c l):pO w A n l:=⟨h.rows.et ek,fun r a=>h.nest r a w lr fun _ _ _ _=>rfl⟩
theorem vj{f:OA}{j:Nat}{l:List Int}(o:df wr base f c j l)(x:Int)(hn:c<=1000000)(k:base<=wr):
 ∃a i d,(Builtin.append_ #[171,171] 171 #[.slice f c j,.slice (some ⟨wr.heap.size,0,none⟩) 1 1]).run prog (wr.alloc (.cells #[.int .i64 x] 3))=.ok (.slice a (c+1) i) d/\df d base a (c+1) i (l++[x])/\Bl base wr d/\(∀g,g<wr.heap.size->f≠some ⟨g,0,none⟩->d.heap[g]?=wr.heap[g]?)/\(a=f\/∀g,a=some ⟨g,0,none⟩->wr.heap.size<=g):=by
 have b:Bl wr wr (wr.alloc (.cells #[x] 3)):=aA;obtain⟨a,i,d,p,n,b3,m,hA⟩:=dy gi (P:=prog) (wr.alloc (.cells #[x] 3)) base 171 171 3 _ 8 underlying171 pf rfl f c j _ (o.ae b) wr 1 1 [x] (cp.new gi wr x #[x] 3 rfl) (by simp only[maxLen];omega) (by omega) (cF k b.size);refine⟨a,i,d,p,n,(b.mono k).trans b3,fun g h1 h2=>(m g (cD h1 b.size) h2).trans (b.block g h1),hA.imp id fun e g h=> ?_⟩;rw[e]at h;injection h with h;injection h with h
 have:=b.size;omega
theorem JS{α:Type}{f:α->List Vl}{q:Nat}{X:Wd}{I:OA}(h:w.heap.size<=X.heap.size)(on:∀c,c<w.heap.size->c≠g->I≠some ⟨c,0,none⟩->X.heap[c]?=w.heap[c]?){l:List α}(m:be f q w base A n c l)(h1:0<c->A≠some ⟨g,0,none⟩)(h2:0<c->∀b,A=some ⟨b,0,none⟩->I≠some ⟨b,0,none⟩):be f q X base A n c l:=by
 refine⟨m.1,m.2.cb,m.2.le,m.2.max,fun a=> ?_,m.2.cz⟩;exact(m.2.ij h fun b d i=>on b i (fun e=>h1 a (by rw[d,e])) (h2 a b d)).room a
structure IU(V:Wd)(A:OA)(B E n c bm:Nat)(I:OA)(ci:Nat)(prom:List Int)(l:List Jr)(am:Int)(left0:List bC)(k:Nat)(LA:OA)(Ln Lc:Nat)(left:List bC)(lc:List Jr)(IA:OA)(In Ic:Nat)(bO:List Int)(wr:Wd):Prop where
 du:Bl V V wr
 rows:gB wr V A n c lc
 nest:∀r∈lc,∀W,wr.heap.size<=W.heap.size->(∀c,V.heap.size<=c->c<wr.heap.size->A≠some ⟨c,0,none⟩->IA≠some ⟨c,0,none⟩->W.heap[c]?=wr.heap[c]?)->eF W r
 rd:Steps wr LA Ln left
 cf:Ln<=1000000
 le:Ln<=Lc
 cz:LA=none->Lc=0
 map:eX prog 3 wr bm 40 (Fc l)
 ord:df wr B I prom.length ci prom
 bO:df wr E IA In Ic bO
 st:(left,lc.map Jr.j)=(prom.take k).foldl (pN am) (left0,l.map Jr.j)
 hA:0<n->∀g,A=some ⟨g,0,none⟩->g<B
 hB:B<=E
 hm:B<=bm/\bm<E
 hI:eK I ci E
 hIA:∀g,IA=some ⟨g,0,none⟩->E<=g/\g<wr
 hE:E<=wr
section
variable {V wr Y Z : World} {A : Option Addr} {B E n c bm : Nat} {I : Option Addr} {ci : Nat} {prom : List Int} {l : List Jr} {am : Int} {left0 : List bC} {k : Nat} {LA : Option Addr} {Ln Lc : Nat} {left : List bC} {lc : List Jr} {IA : Option Addr} {In Ic : Nat} {bO : List Int}
theorem IU.ae(h:IU V A B E n c bm I ci prom l am left0 k LA Ln Lc left lc IA In Ic bO wr)(b:Bl wr.heap.size wr Y):IU V A B E n c bm I ci prom l am left0 k LA Ln Lc left lc IA In Ic bO Y:=
 ⟨aa h.du b,h.rows.ae b,fun r j W h1 h2=>h.nest r j W (cF b.size h1) fun c d a f i=>(h2 c d (cD a b.size) f i).trans (b.block c a),h.rd.ae b,h.cf,h.le,h.cz,h.map.ae b,h.ord.ae b,h.bO.ae b,h.st,h.hA,h.hB,h.hm,h.hI,fun g e=>⟨(h.hIA g e).1,cD (h.hIA g e).2 b.size⟩,cF h.hE b.size⟩
theorem IU.skip(h:IU V A B E n c bm I ci prom l am left0 k LA Ln Lc left lc IA In Ic bO wr)(a:prom[k]?=some id)(b:pN am (left,lc.map Jr.j) id=(left,lc.map Jr.j)):IU V A B E n c bm I ci prom l am left0 (k+1) LA Ln Lc left lc IA In Ic bO wr:=
 {h with st:=by rw[uy a,<-h.st,b]}
theorem IU.less(h:IU V A B E n c bm I ci prom l am left0 k LA Ln Lc left lc IA In Ic bO wr)(b:prom[k]?=some id){F:Nat}{f:OA}{e:Nat}{a:List bC}(d:oq wr F f e g a)(hn:e<=1000000)(i:pN am (left,lc.map Jr.j) id=(a,lc.map Jr.j)):IU V A B E n c bm I ci prom l am left0 (k+1) f e g a lc IA In Ic bO wr:=
 {h with rd:=d.et vb,cf:=hn,le:=d.2.le,cz:=d.2.cz,st:=by rw[uy b,<-h.st,i]}
theorem IU.put(h:IU V A B E n c bm I ci prom l am left0 k LA Ln Lc left lc IA In Ic bO wr)(yJ:prom[k]?=some id)(hg:A=some ⟨g,0,none⟩){F:Nat}{M:OA}{H N i:Nat}{K:List bC}(t:oq wr F M H N K)(hn:H<=1000000)(hi:i<n)(hr:jk wr F r)(Q:∀g,IA=some ⟨g,0,none⟩->g<F)(yP:B<=F)(X:pN am (left,lc.map Jr.j) id=(K,(lc.set i r).map Jr.j))(y:Y=wr.setCells g (i*20) (bk r).toList)
 {u:OA}{J O:Nat}{R:List Int}(G:df Z E u J O R)(yQ:0<J)(C:Bl E Y Z)(P:∀c,c<Y.heap.size->IA≠some ⟨c,0,none⟩->Z.heap[c]?=Y.heap[c]?)(yH:u=IA\/∀g,u=some ⟨g,0,none⟩->Y.heap.size<=g):IU V A B E n c bm I ci prom l am left0 (k+1) M H N K (lc.set i r) u J O R Z:=by
 subst hg;have hB:=h.hA (by omega) g rfl;have yN:=h.hB;obtain⟨yL,yO⟩:=h.hm;have on:aU g wr Y:=y▸aU.pM _ _ _;have yS:Y.heap.size=wr:=by rw[y,gc]
 have U:V<=g:=by
  obtain⟨x,-,a,s,-⟩:=bh ek h.rows hi;injection a with a;injection a with a;omega
 have yR:=h.du.size;have p:wr.heap.size<=Z:=by have:=C.size;omega
 have fr:∀c,c<wr.heap.size->c≠g->IA≠some ⟨c,0,none⟩->Z.heap[c]?=wr.heap[c]?:=fun c h1 h2 T=>(P c (by omega) T).trans (on.same c h1 h2);have L:∀g,IA=some ⟨g,0,none⟩->E<=g:=fun g e=>(h.hIA g e).1
 have yF:∀g,u=some ⟨g,0,none⟩->E<=g/\g<Z:=fun g e=>by
  obtain⟨x,a,h1,h2,-⟩:=G.2.room (by have:=G.2.le;omega);rw[e]at a;injection a with a;injection a with a;omega
 refine⟨?_,?_,fun q D W h1 h2=> ?_,(JS p fr t (fun d e=> ?_) (fun d b e a=> ?_)).et vb,hn,t.2.le,t.2.cz,h.map.ij (fr bm h.map.lt (by omega) fun e=>by have:=L bm e;omega),JS p fr h.ord (fun d e=> ?_) (fun d b e a=>by have:=h.hI d b e;have:=L b a;omega),G,by rw[uy yJ,<-h.st,X],h.hA,yN,⟨yL,yO⟩,h.hI,yF,cF h.hE p⟩
 ·have yG:Bl V V Y:=y▸bP h.du U _ _;have yK:V<=E:=by omega
  exact yG.trans (C.mono yK)
 ·have o:gB Y V g n c (lc.set i r):=y▸i0 ek h.rows i hi r;refine⟨o.1,o.2.cb,o.2.le,o.2.max,fun d=> ?_,o.2.cz⟩;refine(o.2.ij C.size fun b s yM=> ?_).room d;injection s with s;injection s with s
  exact P b yM fun e=>by have:=L b e;omega
 ·have S:∀c,V.heap.size<=c->c<wr.heap.size->c≠g->IA≠some ⟨c,0,none⟩->W.heap[c]?=wr.heap[c]?:=fun c v m z w=>(h2 c v (cD m p) (fun e=>by injection e with e;injection e with e;omega) (fun e=>by
   rcases yH with f|hh
   ·exact w (f.symm.trans e)
   ·have:=hh c e;omega)).trans (fr c m z w)
  rcases fP D with D|rfl
  ·exact h.nest q D W (cF p h1) fun c v m z w=>S c v m (fun e=>z (by rw[e])) w
  ·exact(hr.hi (cF p h1) fun c v m=>S c (by omega) m (by omega) fun e=>by have:=Q c e;omega).mE
 ·obtain⟨x,a,h1,-⟩:=t.2.room d;rw[e]at a;injection a with a;injection a with a;omega
 ·obtain⟨x,f,h1,-⟩:=t.2.room d;rw[e]at f;injection f with f;injection f with f;have:=Q b a;omega
 ·obtain⟨x,a,h1,-⟩:=h.ord.2.room d;rw[e]at a;injection a with a;injection a with a;omega
end
abbrev SqRel(V:Wd)(A:OA)(B E n c j:Nat)(I:OA)(m:Nat)(a:List Int)(l:List Jr)(am:Int)(b:List bC)(X Y Z:Vl)(wr:Wd):Prop:=∃(k:Nat) (g:OA) (i h:Nat) (left:List bC) (o:List Jr) (e:OA) (d f:Nat) (bO:List Int),k<=a.length/\X=.slice g i h/\Y=.slice e d f/\Z=.int .i64 k/\d<=k/\IU V A B E n c j I m a l am b k g i h left o e d f bO wr
def QG(s:St)(w:Wd)(e:Ed)(w':Wd):Prop:=∃A n c l v left a,e=.returned (.tuple #[.slice A n c,v])/\Cn w' w.heap.size A n c l/\l.map Jr.j=zL s.am left a s.aj/\pQ s left/\eT s.aj a/\Bl w.heap.size w w'
set_option maxRecDepth 100000
theorem FF(x:Sr)(w:Wd)(h:db w x)(hp:fy x.s=true):Cs prog 183 #[.agg (aY x)] w (QG x.s w):=by
 have hch:gC x.s.aj=true:=by
  simp only[fy,ie,cH]at hp;exact hp.1.1.2
 have yY:ie x.s=true:=by
  simp only[fy,cH]at hp;exact hp.1
 obtain⟨V,hV⟩:=nm (w.alloc (.cells (aY x) 28));have bV:Bl w w V:=by rw[hV];exact aA
 have kV:ai V w 28 (aY x):=by rw[hV];exact ai.new _ _ _
 have HCo:=ah (Il x.J.A x.J.n x.J.c x.jr V (h.ae bV).aj (by have:=h.fg.cf;omega) h.fg.cz);rw[h.jr]at HCo
 have HPc:=ah fun(W:Wd) (b:Bl V V W)=>by
  have:=jT x W ((h.ae bV).ae b);rw[tY,hp,cK rfl]at this;exact this
 have HRm:=ah fun(W:Wd) (b:Bl V V W)=>zy x none 0 0 [] W ((h.ae bV).ae b) yY (cp.nil _ _ _ _) (by unfold maxLen;omega);have HPr:=ah fun(W:Wd) (b:Bl V V W)=>t7 x W ((h.ae bV).ae b) hp;have yU:=ah (ds.1 hch);have HWd:=ah h.wide.aj;have hfew:x.s.aj.length<=40:=(ds.1 hch).cf;have x2:=kV.cell 2;simp at x2;have HB:=ah bV;have HK:=ah kV;have hmm:= @sH prog;clear h hp bV kV hch yY;go_in;go_wp2_with fail;rw[<-hV];clear hV;go_step3;go_wp2_with fail;refine HCo.out.mono ?_;rintro e w1 ⟨A,c,l,rfl,qJ,hl,b1⟩;have uP:=ah qJ;have HL:=ah hl;have HB1:=ah b1;have L:=ah (HK.ae b1 HK.lt)
 have hfl:l.length<=40:=by
  have:=cO List.length hl;rw[dB]at this;omega
 obtain⟨n,hn⟩:=nm x.s.aj.length;rw[<-hn]at uP⊢;have hnl:l.length=n:=by rw[hn,<-hl,dB]
 have HNl:=ah hnl;have hn40:n<=40:=by omega
 have hnc:=qJ.rows.2.le
 have HUp:=ah (show l.Pairwise (fun a b=>a.j.id<b.j.id)from by
  have:=yU.up;rw[<-hl,iJ]at this;exact this)
 clear qJ hl b1 hn hnl;go_wp2_with(refine wA L t28 rfl ?_);refine(HPc _ HB1).mono ?_;rintro e w2 ⟨rfl,b2⟩;have HB2:=ah (aa HB1 b2);have qF:=ah b2;have HK2:=ah (L.ae b2 L.lt);clear b2;go_wp2_with(refine wA HK2 t28 rfl ?_);refine(HRm _ HB2).mono ?_;rintro e o ⟨LA,Ln,Lc,yB,rfl,yX,hf0,hle0,hb0,b3,yK⟩;have HB3:=ah (aa HB2 b3);have K:=ah (aa qF b3);have HSt:=ah yX;have yZ:=ah hb0;have HRo:=ah yK;have HM:Hid (eX prog 3 (o.alloc (.map #[] 0)) o 0 (Fc (l.take 0))):=eX.made _ _ _;have HBm:Hid (Bl o o (o.alloc (.map #[] 0))):=(cC o o).alloc lr (.map #[] 0);clear yX hb0 yK b3;go_wp2_with fail;have HMb:Hid (o.heap.size<(o.alloc (.map #[] 0)).heap.size):=by show _<_;simp
 go_loopw [35] (fun i wr=>∃k:Nat,k<=n/\i=.int .i64 k/\eX prog 3 wr o k (Fc (l.take k))/\Bl o o wr) (fun i _=>n-(intOf i).toNat)
 case atStart=>exact⟨0,by omega,rfl,HM,HBm⟩
 case round=>
  obtain⟨k,hk,rfl,hm,uK⟩:=hrel;have HMr:=ah hm;have yS:=ah uK;clear hm uK;by_cases uY:k<n
  ·obtain⟨b,off,s,rfl,hb,hs,hin,u⟩:=ir (uP.ae (aa K yS)).RB uY;have HR:=ah u;have Q:Hid (ai (wr.alloc (.cells cP 51)) wr 51 cP):=ai.new _ _ _;obtain⟨V',qB⟩:=nm ((wr.alloc (.cells cP 51)).setRow wr (bk s));have qM:Bl wr wr V':=by rw[qB];exact aD
   have kV':ai V' wr 51 (bk s):=by rw[qB];exact ai.row Q _
   have x0:=kV'.cell 0;simp at x0
   have hids:0<=s.j.id/\s.j.id<=100000:=by
    have hmem:s.j∈x.s.aj:=by rw[<-HL.out];exact cS.2 ⟨s,cG hs,rfl⟩
    have:=gz.1 (no (yU.ok _ hmem));omega
   obtain⟨w4,r1,y,r3,r4⟩:=(HMr.ae qM).update (e:=3) (t:=263) underlying3 underlying263 (by unfold maxLen;omega) (i:=s.j.id) (by omega) k;have yV:=ah r1;rw[<-LE hs HUp.out]at y;have uX:=ah y;have HB4:=ah ((aa yS qM).trans r4);clear u hs hin kV' qM r1 y r3 r4 hids;go_wp2_with(first|(rw[<-qB];clear qB Q;go_step)|refine wC HR t51 rfl ?_|refine wB Q aK rfl ?_|refine kj rfl _ _ _ _ rfl rfl rfl rfl yV ?_);exact⟨⟨k+1,by omega,by go_num,uX,HB4⟩,by simp[intOf];omega⟩
  ·obtain rfl:k=n:=by omega
   have hm2:=HMr.out;rw[fG (by have:=HNl.out;omega)]at hm2;have uX:=ah (hm2.mono hn40);have HBv:=ah (aa HB3 (yS.out.mono lr));have HKr:=ah (HK.ae (aa HB3 yS) HK.lt);clear hm2;go_wp2;go_step3;go_wp2_with(refine wA HKr t28 rfl ?_);refine(HPr _ HBv).mono ?_;rintro e w5 ⟨I,ni,ci,yO,rfl,uC,hni,hor,b5⟩;obtain⟨yC,yD⟩:=nm (eu yO x.s.aj);rw[<-yD]at uC;have hpn:yC.length=ni:=uC.1;subst hpn;have HPm:=ah yD;have HOr:=ah hor;have HMem:Hid (∀id∈yC,∃j∈x.s.aj,j.id=id):=fun id uE=>Dk (by rw[<-yD];exact uE);have HB5:=ah (aa HBv b5);have s1:=K.size;have s3:=yS.size
   have HS0:Hid (IU V A w1 w5 k c o I ci yC l x.s.am yB 0 LA Ln Lc yB l none 0 0 [] w5):=by
    have J5:=((uP.ae (aa K yS)).ae b5).jbq;have s5:=b5.size;refine⟨HB5,J5.rows,fun r u W h1 h2=>J5.nest r u W h1 fun c a1 a2 a3=>h2 c a1 a2 a3 (by simp),(HSt.ae yS).ae b5,hf0,hle0,yZ,uX.ae b5,aS uC (by omega),be.nil _ _ _ _,rfl,fun h0 g e=> ?_,by omega,⟨s1,?_⟩,oc uC,fun g e=>(by cases e),cB _⟩
    ·obtain⟨g',e',-,hlt',-⟩:=uP.rows.2.room (by have:=uP.rows.2.le;omega);rw[e]at e';injection e' with e';injection e' with e';omega
    ·have:=(uX.ae b5).lt;exact this
   clear uC yD hor b5 uY;go_wp2
   go_loopw [5,9,48] (fun X Y Z wr=>SqRel V A w1 w5 k c o I ci yC l x.s.am yB X Y Z wr) (fun _ _ Z _=>yC.length-(intOf Z).toNat)
   case atStart=>exact⟨0,LA,Ln,Lc,yB,l,none,0,0,[],by omega,rfl,rfl,rfl,by omega,HS0⟩
   case round=>
    obtain⟨m,uD,uB,uO,left,d,IA,In,Ic,bO,hm,rfl,rfl,rfl,hin,hs⟩:=hrel;have f:=ah hs;clear hs;by_cases uY:m<yC.length
    ·obtain⟨bb,off,id,hI,hbb,uE,hcell⟩:=cp.int (f.ord.et gi) uY;subst hI;obtain⟨j0,uM,yM⟩:=HMem id (cG uE)
     obtain⟨i,r0,hr0,uG,yR⟩:=SD HUp (id:=id) (by
      rw[<-HL.out]at uM;obtain⟨q,hq,rfl⟩:=cS.1 uM;exact⟨q,hq,yM⟩)
     have uW:eG x.s.aj (d.map Jr.j):=by
      have e:=cO Prod.snd f.st;simp only at e;rw[e,HL.out];exact Ik yU HWd _ _
     have hik:i<k:=by have h1:=(cA.1 hr0).1;have h2:=HNl.out;omega
     obtain⟨g,r,hA,hg1,uQ,u,yE,yH⟩:=bh ek f.rows hik;subst hA
     have qG:r.j.id=id:=by
      have e:=Pz uW;rw[<-HL.out]at e;have h1:=cO (fun q=>q[i]?) e;simp only[dD,u,hr0,fI]at h1;injection h1 with h1
      omega
     have hok:=uW.ok yU;have yY:r.j∈d.map Jr.j:=cS.2 ⟨r,cG u,rfl⟩;have yG:=ah (SO (am:=x.s.am) (left:=left) hok.1 yY qG);have qD:Hid (wr.rangeAt g (i*20) (bk r).toList):=fun j v hv=>yE j v hv;have hlk:=f.map.look (e:=3) (t:=263) underlying3 underlying263 (mr wr) (i:=id) (by have:=gz.1 (no (yU.ok _ uM));omega);rw[yR]at hlk;simp only[i8]at hlk;have qE:=ah (f.nest r (cG u) wr lr fun _ _ _ _ _=>rfl);have Q:Hid (ai (wr.alloc (.cells cP 51)) wr 51 cP):=ai.new _ _ _;obtain⟨V1,uR⟩:=nm ((wr.alloc (.cells cP 51)).setRow wr (bk r));have bV1:Bl wr wr V1:=by rw[uR];exact aD
     have kV1:ai V1 wr 51 (bk r):=by rw[uR];exact ai.row Q _
     have yP:=ah kV1;have qL:=ah bV1;have yW:=ah uE;have HRr:=ah u;have HPl:=ah uW;have HOkr:=ah (hok.1.ok _ yY)
     have HTh:Hid (∀W,Bl wr wr W->W.there g (i*20) 20):=fun W b j hj=>by
      have h1:=(yH j hj);rw[b.cell (p:=⟨g,i*20+j,none⟩) uQ,Below.frozen b (p:=⟨g,i*20+j,none⟩) uQ];exact h1
     have HPlc:=ah yR;have HIb:=ah (show -9223372036854775808<=id/\id<=9223372036854775807 from by have:=gz.1 (no (yU.ok _ uM));omega);have HClm:=ah (rc r V1 (qE.ae bV1));clear yE yH yR uM yM hr0 uG uW hok yY kV1 bV1 u uE;go_wp2_with(first|(rw[<-uR];clear uR Q)|refine wC qD t51 rfl ?_|refine wB Q aK rfl ?_|refine wA yP t51 rfl ?_);refine HClm.out.mono ?_;rintro e w6 ⟨rfl,b6⟩;have yT:=Q5 r.j;generalize uZ:pX r.j=cl at yT⊢;obtain⟨e1,e2,e3⟩:=cl;simp only at yT⊢;obtain⟨hf1,hf2,hf3,hf4⟩:=yT;have H:=ah uZ;have HW6:=ah (aa qL b6);have HK6:=ah (yP.ae b6 yP.lt);have uU:=ah (f.ae HW6);have HAd:=ah (Cu uD uB uO left e1 (e1+e2) e3 w6 uU.rd (by have:=uU.cf;unfold maxLen;omega) uU.le uU.cz);have O:=ah (IX left e1 (e1+e2) e3);obtain⟨q,hq⟩:=nm (add left e1 (e1+e2) e3);rw[<-hq]at HAd O;have HQ:=ah hq;clear uZ b6 hq hlk;go_wp2_with fail;refine HAd.out.mono ?_;rintro e w7 ⟨A7,c7,rfl,o7,b7⟩;have qA:=ah o7;have uV:=ah (aa HW6 b7);have uT:=ah (HK6.ae b7 HK6.lt);clear o7 b7;by_cases E:q.2=0
     ·have e0:(q.2==0)=true:=by simpa using E
      have e0':(q.2 !=0)=false:=by simpa using E
      have HQ0:=ah E;clear E;go_wp2_with fail;have HSb:=ah (HK.ae (aa f.du uV) HK.lt);refine bW (fun W=>Bl w7 w7 W) (fun _=>True) #[] [3,8] 0 [0,1,2,4,5,6,7,3,8,9,10,11,12,13,14,15] (by kernel_rfl) (by kernel_rfl) bR.drew trivial ?_;have k0:Bl w7 w7 w7.drew:=bR.drew
      iterate 7
       refine lqe rfl (fun _ _ _ _ h=>h) ⟨?_,fun W hW hS=> ?_,?_⟩;rotate_left
       ·obtain⟨c0,c1,c2,c3,c4,c5,c6,c7',c8,c9,c10,c11,c12,c13,c14,c15,c16,c17,c18,c19⟩:=xD (uT.ae hW uT.lt);have d0:=(HSb.ae hW HSb.lt).cell 0;simp at d0;go_simp
        try rfl
      refine el 189 #[JR r.A r.n r.c r.j.sh] rfl rfl (some 81) rfl rfl rfl (by go_simp) ?_;refine(fx r.A r.n r.c r.j.sh _ ((qE.ae uV).ae k0).sh).mono ?_;rintro e W8 ⟨A8,c8,rfl,o8,b8⟩;have k1:=aa k0 b8;refine⟨_,rfl,k1,trivial,?_⟩;have HBe:=ah (xC A7 q.1.length c7 q.1 A8 (eO r.j.sh).length c8 (AF r.j.sh) x.s.am r.j.pm W8 ((qA.ae k1).et vb) (by have:=O.out;unfold maxLen;omega) (ul (o8.et qk)) (by have:=kY (s:=r.j.sh);omega) o8.2.le);obtain⟨bs,qC⟩:=nm (tu q.1 x.s.am r.j.pm 12 (AF r.j.sh));rw[<-qC]at HBe;have HBs:=ah qC;refine el 294 #[.slice A7 q.1.length c7,.slice A8 (eO r.j.sh).length c8,x.s.am,r.j.pm,(12:Int)] rfl rfl (some 86) rfl rfl rfl (by go_simp) ?_;refine HBe.out.mono ?_;rintro e W9 ⟨rfl,D⟩;have k2:=aa k1 D;refine⟨_,rfl,k2,trivial,?_⟩;have T:=ah k2;clear k0 k1 k2 b8 D o8 qC
      iterate 7
       refine lqe rfl (fun _ _ _ _ h=>h) ⟨?_,fun W hW hS=> ?_,?_⟩;rotate_left
       ·go_simp
        try rfl
      refine ew ?_;simp only[aP,aW];have uI:=ah (aa uV T);have M:=ah (uT.ae T uT.lt);have x14:=M.cell 14;have x15:=M.cell 15;simp at x14 x15;obtain⟨ch,st,fd⟩:=bs;simp only
      have HBj:Hid (AX q.1 r.j x.s.am r.j.pm=if fd then some ((ch:Int),st)else none):=by
       show _=_;unfold AX;rw[<-HBs.out]
      clear HBs
      have yJ:Hid (pN x.s.am (left,d.map Jr.j) id=if fd then L3 x.s.am q.1 left (d.map Jr.j) r.j (ch:Int) st else(left,d.map Jr.j)):=by
       show _=_;rw[yG.out,PT,H.out];simp only;rw[<-HQ.out,cL (by rw[HQ0.out];simp),HBj.out];cases fd<;>rfl
      clear yG HBj H;cases fd
      ·have B:Hid (pN x.s.am (left,d.map Jr.j) id=(left,d.map Jr.j)):=by
        show _=_;rw[yJ.out];simp
       go_wp2_with fail;exact⟨⟨m+1,uD,uB,uO,left,d,IA,In,Ic,bO,by omega,rfl,rfl,by go_num,by omega,(f.ae uI).skip yW B⟩,by simp[intOf];omega⟩
      obtain⟨p1,h1⟩:∃p,((ch:Int)==r.j.ch)=p:=⟨_,rfl⟩;obtain⟨p2,h2⟩:∃p,(st==r.j.pm)=p:=⟨_,rfl⟩;have hl2:(p1=true/\p2=true)\/p1=false\/(p1=true/\p2=false):=by cases p1<;>cases p2<;>simp
      have S:Hid (¬(p1=true/\p2=true)->¬((ch:Int)=r.j.ch/\st=r.j.pm)):=fun hn hh=>hn ⟨by rw[<-h1];simpa using hh.1,by rw[<-h2];simpa using hh.2⟩;have HYs:Hid (p1=true/\p2=true->(ch:Int)=r.j.ch/\st=r.j.pm):=fun hh=>⟨by simpa using h1.trans hh.1,by simpa using h2.trans hh.2⟩;rcases hl2 with⟨rfl,rfl⟩|rfl|⟨rfl,rfl⟩
      ·have B:Hid (pN x.s.am (left,d.map Jr.j) id=(left,d.map Jr.j)):=by
        show _=_;rw[yJ.out,cK rfl,L3,cK (.inl (HYs ⟨rfl,rfl⟩))]
       clear HYs S;go_wp2_with fail;exact⟨⟨m+1,uD,uB,uO,left,d,IA,In,Ic,bO,by omega,rfl,rfl,by go_num,by omega,(f.ae uI).skip yW B⟩,by simp[intOf];omega⟩
      all_goals
       have HNt:=ah (S (by simp));clear HYs S;have uH:=ah (wv r st (ch:Int) _ (qE.ae uI));obtain⟨er,her⟩:=nm (pE r.j st (ch:Int));rw[<-her]at uH;have HEr:=ah her;clear her;go_wp2_with(refine wA M t51 rfl ?_);refine uH.out.mono ?_;rintro e U ⟨y,rfl,bU,hro,uL⟩;have R:Hid (ai (U.alloc (.cells cP 51)) U 51 cP):=ai.new _ _ _;obtain⟨X,hX⟩:=nm ((U.alloc (.cells cP 51)).setRow U (bk y));have bX:Bl U U X:=by rw[hX];exact aD
       have kX:ai X U 51 (bk y):=by rw[hX];exact ai.row R _
       have N:=ah kX;have HWX:=ah (aa (aa uI bU) bX);have uF:=ah (hro.hi (w':=X) bX.size fun b _ h2=>bX.block b h2);have HSzX:Hid (W9.heap.size<=X):=cF bU.size bX.size;have HXw:=ah (aa (aa T bU) bX);have qF:=ah uL;clear hro uL kX bX bU;go_upto_region 22 with(first|(rw[<-hX];clear hX R)|refine wB R aK rfl ?_)
       by_cases C:er=0
       ·have hp1:(er==0)=true:=by simpa using C
        have hp2:(er !=0)=false:=by simpa using C
        have uL:=qF.out C;have HP0:Hid (pE r.j st (ch:Int)=0):=by rw[<-HEr.out];exact C
        have yQ:=ah uL;have HCm2:=ah (rc y X uF.mE);clear C uL;go_wp2_with(refine wA N t51 rfl ?_);refine HCm2.out.mono ?_;rintro e Y ⟨rfl,bY⟩;generalize hcl2:pX y.j=cl2;obtain⟨d1,d2,d3⟩:=cl2;simp only;have HCl2:=ah hcl2;have HWY:=ah (aa HWX bY);have qH:Hid (W9.heap.size<=Y):=cF HSzX bY.size;have HKY:=ah (N.ae bY N.lt);have qK:=ah (uF.hi (w':=Y) bY.size fun b _ h2=>bY.block b h2);have HTk:=ah (FL A7 q.1.length c7 q.1 d1 d2 d3 Y ((qA.ae (aa HXw bY)).et vb) (by have:=O.out;unfold maxLen;omega) qA.2.le qA.2.cz);have P:=ah (take_len q.1 d1 d2 d3);obtain⟨z,hz⟩:=nm (nA q.1 d1 d2 d3);rw[<-hz]at HTk P;have HZ:=ah hz;clear hz hcl2 bY;go_wp2_with fail;refine HTk.out.mono ?_;rintro e Z ⟨A9,c9,rfl,o9,D⟩;have HWZ:=ah (aa HWY D);have HKZ:=ah (HKY.ae D HKY.lt);have HRo4:=ah (qK.hi (w':=Z) D.size fun b _ h2=>D.block b h2);have HO9:Hid (oq Z Y A9 z.1.length c9 z.1):=o9
        have HSq:Hid (pN x.s.am (left,d.map Jr.j) id=(z.1,if z.2=0 then gv (d.map Jr.j) y.j else d.map Jr.j)):=by
         show _=_;have uZ:pX (ix r.j st (ch:Int))=(d1,d2,d3):=by rw[<-yQ.out];exact HCl2
         rw[yJ.out,cK (by simp),L3,cL (by rw[HP0.out];intro h;rcases h with h|h;exact HNt h;exact h rfl),uZ];simp only;rw[<-HZ.out,yQ.out]
        clear o9 D;by_cases G:z.2=0
        ·have hz1:(z.2==0)=true:=by simpa using G
         have hz2:(z.2 !=0)=false:=by simpa using G
         have sWr:=uI.size
         have uJ:d.Pairwise (fun a b=>a.j.id<b.j.id):=by
          have:=(HPl.ok yU).1.up
          rwa [iJ]at this
         have B:Hid (pN x.s.am (left,d.map Jr.j) id=(z.1,(d.set i y).map Jr.j)):=by
          show _=_;rw[HSq.out,cK G,xf uJ HRr.out (by rw[yQ.out];rfl)]
         have SZ:=f.ae HWZ;have uA:=SZ.map.look (e:=3) (t:=263) underlying3 underlying263 (mr Z) (i:=id) HIb;rw[HPlc.out]at uA;simp only[i8]at uA;obtain⟨X2,uS⟩:=nm (Z.setCells g (i*20) (bk y).toList);have on2:aU g Z X2:=by rw[uS];exact aU.pM _ _ _
         have hgB:=f.hA (by omega) g rfl;have hgE:=f.hB;have I2:df X2 w5 IA In Ic bO:=aV on2 SZ.bO (by omega);obtain⟨IA2,Ic2,Z2,uN,o3,b3,f3,hA3⟩:=vj I2 id (by omega) (cF SZ.hE on2.size);have yV:=ah uN;have HZ2:=ah (SZ.put (F:=W9.heap.size) yW rfl (aS HO9 qH) (by have:=P.out;omega) hik HRo4 (fun g' e=>by have:=(f.hIA g' e).2;omega) (by have:=f.hE;omega) B uS o3 (by omega) b3 f3 hA3);have HTZ:=ah (HTh Z HWZ);clear G SZ on2 I2 uN o3 b3 f3 hA3 uJ;go_wp2_with(first|(refine rZ rfl _ _ _ rfl rfl rfl HTZ aK rfl rfl ?_;rw[<-uS];clear uS HTZ)|(at_builtin;refine au rfl _ _ rfl rfl rfl yV ?_)|refine wA HKZ t51 rfl ?_);exact⟨⟨m+1,A9,z.1.length,c9,z.1,d.set i y,IA2,In+1,Ic2,bO++[id],by omega,rfl,rfl,by go_num,by omega,HZ2⟩,by simp[intOf];omega⟩
        ·have hz1:(z.2==0)=false:=by simpa using G
         have hz2:(z.2 !=0)=true:=by simpa using G
         have B:Hid (pN x.s.am (left,d.map Jr.j) id=(z.1,d.map Jr.j)):=by
          show _=_;rw[HSq.out,cL G]
         clear G;go_wp2_with fail;exact⟨⟨m+1,A9,z.1.length,c9,z.1,d,IA,In,Ic,bO,by omega,rfl,rfl,by go_num,by omega,(f.ae HWZ).less yW HO9 (by have:=P.out;omega) B⟩,by simp[intOf];omega⟩
       ·have hp1:(er==0)=false:=by simpa using C
        have hp2:(er !=0)=true:=by simpa using C
        have B:Hid (pN x.s.am (left,d.map Jr.j) id=(left,d.map Jr.j)):=by
         show _=_;rw[yJ.out,cK (by simp),L3,cK (.inr (by rw[<-HEr.out];exact C))]
        clear C;go_wp2_with fail;exact⟨⟨m+1,uD,uB,uO,left,d,IA,In,Ic,bO,by omega,rfl,rfl,by go_num,by omega,(f.ae HWX).skip yW B⟩,by simp[intOf];omega⟩
     ·have e0:(q.2==0)=false:=by simpa using E
      have e0':(q.2 !=0)=true:=by simpa using E
      have B:Hid (pN x.s.am (left,d.map Jr.j) id=(left,d.map Jr.j)):=by
       show _=_;rw[yG.out,PT,H.out];simp only;rw[<-HQ.out,cK E]
      clear E;go_wp2_with fail;exact⟨⟨m+1,uD,uB,uO,left,d,IA,In,Ic,bO,by omega,rfl,rfl,by go_num,by omega,(f.ae uV).skip yW B⟩,by simp[intOf];omega⟩
    ·obtain rfl:m=yC.length:=by omega
     have yX:=f.st;rw[cT]at yX;have qI:=ah yX;clear yX;go_wp2_with fail
     try rw[dM]
     go_ret2;have hJ:Cn wr w A k c d:=⟨aS f.rows HB.size,fun r u W h1 h2=>f.nest r u W h1 fun c a1 a2 a3 _=>h2 c (cF HB.size a1) a2 a3⟩;refine⟨A,k,c,d,_,yB,yO,rfl,hJ,?_,HRo,HOr,aa HB f.du⟩;have e:=cO Prod.snd qI;simp only at e;rw[e,HPm.out,HL.out];rfl
def QF(w:Wd)(e:Ed)(w':Wd):Prop:=∃A n c out,e=.returned (.slice A n c)/\df w' w A n c out/\n<=1000/\Bl w w w'
abbrev LtRel(w:Wd)(m:Nat)(X Y:Vl)(wr:Wd):Prop:=∃(k:Nat) (A:OA) (n c:Nat) (out:List Int),k<=m/\X=.slice A n c/\Y=.int .i64 k/\n<=k/\df wr w A n c out/\Bl w w wr
theorem R9:∀p1 p2 a b c d:Bool,p1=false\/(p1=true/\p2=false)\/(p1=true/\p2=true/\a=false)\/(p1=true/\p2=true/\a=true/\b=false)\/(p1=true/\p2=true/\a=true/\b=true/\c=true)\/(p1=true/\p2=true/\a=true/\b=true/\c=false/\d=true)\/(p1=true/\p2=true/\a=true/\b=true/\c=false/\d=false):=by
 intro p1 p2 a b c d;cases p1<;>cases p2<;>cases a<;>cases b<;>cases c<;>cases d<;>simp
theorem Le(A:OA)(n c:Nat)(l:List Jr)(B:OA)(m d:Nat)(f:List Jr)(w:Wd)(h:pO w A n l)(h2:pO w B m f)(hn:n<=1000)(hm:m<=1000)(yU:m<=d)(K:gC (l.map Jr.j)=true)(yM:gC (f.map Jr.j)=true):
 Cs prog 185 #[.slice A n c,.slice B m d] w (QF w):=by
 have yE:=h.rows.cb;subst yE;have e0:gd (l.map Jr.j)=0:=by simp[gd,K]
 have J:gd (f.map Jr.j)=0:=by simp[gd,yM]
 have Z:=ah (gp A l.length c l w h (by unfold maxLen;omega));have S:=ah fun(W:Wd) (b:Bl w w W)=>gp B m d f W (h2.ae b) (by unfold maxLen;omega);rw[e0]at Z;rw[J]at S;have HF:=ah fun(W:Wd) (b:Bl w w W) (id:Int)=>m4 B m d f id W (h2.ae b) (by omega) yU;have HH:=ah h;clear h h2 K yM e0 J;go_in;go_wp2_with fail;refine Z.out.mono ?_;rintro e w1 ⟨rfl,b1⟩;have yN:=ah b1;clear b1;go_wp2_with fail;refine(S _ yN).mono ?_;rintro e w2 ⟨rfl,b2⟩;have R:=ah (aa yN b2);clear b2;go_wp2
 go_loopw [5,21] (fun X Y wr=>LtRel w2 l.length X Y wr) (fun _ Y _=>l.length-(intOf Y).toNat)
 case atStart=>exact⟨0,none,0,0,[],by omega,rfl,rfl,by omega,be.nil _ _ _ _,cC _ _⟩
 case round=>
  obtain⟨k,F,z,I,out,hk,rfl,rfl,uB,L,C⟩:=hrel;have H:=ah L;have yP:=ah C;have D:=ah (aa R C);clear L C;by_cases yY:k<l.length
  ·obtain⟨bb,off,s,rfl,uC,hs,yQ,g⟩:=ir (HH.ae D) yY;have HR:=ah g;have uD:=ah (World.rangeAt_alloc g (.cells cP 51));have G:Hid (ai (wr.alloc (.cells cP 51)) wr 51 cP):=ai.new _ _ _;obtain⟨V,u⟩:=nm ((wr.alloc (.cells cP 51)).setRow wr (bk s));have q:Bl wr wr V:=by rw[u];exact aD
   have y:ai V wr 51 (bk s):=by rw[u];exact ai.row G _
   have O:=y.cell 0;simp at O;have i:=ah y;have uA:=ah (aa yP q);have yS:=ah (H.ae q);have yW:=ah (HF V (aa D q) s.j.id);clear hs g yQ y q;go_wp2_with(first|(rw[<-u];clear u;go_step)|refine wC HR t51 rfl ?_|refine wB G aK rfl ?_);refine yW.out.mono ?_;rintro e a ⟨r,rfl,g,b4,-,-⟩;obtain⟨p1,N⟩:∃p,(eh (f.map Jr.j) s.j.id).isSome=p:=⟨_,rfl⟩;simp only[N];clear N;have Q:Hid (ai (a.alloc (.cells cP 51)) a 51 cP):=ai.new _ _ _;obtain⟨U,t⟩:=nm ((a.alloc (.cells cP 51)).setRow a (bk r));have o:Bl a a U:=by rw[t];exact aD
   have x:ai U a 51 (bk r):=by rw[t];exact ai.row Q _
   have v:=(i.ae b4 i.lt).ae o (i.ae b4 i.lt).lt;have yO:=v.cell 11;have yX:=v.cell 14;have z0:=v.cell 0;have yZ:=x.cell 11;have yV:=x.cell 14;simp at yO yX z0 yZ yV;have E:=ah (aa (aa uA b4) o);have T:=ah ((yS.ae b4).ae o);obtain⟨A2,c2,w3,P,M,b3,-⟩:=mg T s.j.id (by omega) E.size;have yG:=ah P;have yT:=ah M;have yR:=ah (E.trans b3);clear P M b3 v x o b4 g O;obtain⟨p2,q2⟩:∃p,(s.j.st==1)=p:=⟨_,rfl⟩;obtain⟨p3,q3⟩:∃p,(r.j.st==1)=p:=⟨_,rfl⟩;obtain⟨p4,q4⟩:∃p,decide (0<=s.j.pm)=p:=⟨_,rfl⟩;obtain⟨p5,q5⟩:∃p,decide (r.j.pm<0)=p:=⟨_,rfl⟩;obtain⟨p6,q6⟩:∃p,decide (s.j.pm<r.j.pm)=p:=⟨_,rfl⟩;go_upto_region 8 with(first|(rw[<-t];clear t)|refine wB Q aK rfl ?_)
   rcases R9 p1 p2 p3 p4 p5 p6 with rfl|⟨rfl,rfl⟩|⟨rfl,rfl,rfl⟩|⟨rfl,rfl,rfl,rfl⟩|⟨rfl,rfl,rfl,rfl,rfl⟩|⟨rfl,rfl,rfl,rfl,rfl,rfl⟩|⟨rfl,rfl,rfl,rfl,rfl,rfl⟩
   all_goals
    go_wp2_with(at_builtin;refine au rfl _ _ rfl rfl rfl yG ?_)
    first
     |exact⟨⟨k+1,F,z,I,out,by omega,rfl,by go_num,by omega,T,E⟩,by simp[intOf];omega⟩
     |exact⟨⟨k+1,A2,z+1,c2,out++[s.j.id],by omega,rfl,by go_num,by omega,yT,yR⟩,by simp[intOf];omega⟩
  ·obtain rfl:k=l.length:=by omega
   go_wp2;go_ret;exact⟨F,z,I,out,rfl,aS H R.size,by omega,D⟩
end Go.Proofs.YthfhilggbbobmaaGreatDoor
