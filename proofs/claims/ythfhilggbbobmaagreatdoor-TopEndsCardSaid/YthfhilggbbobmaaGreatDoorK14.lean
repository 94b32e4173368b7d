/- Parts of the proof. -/
import Derived.Test.YthfhilggbbobmaaGreatDoorK7
import Derived.Test.YthfhilggbbobmaaGreatDoorK13
import Derived.Lib.TrimU
import Derived.Shelf.Strings.BuilderRune
set_option linter.all false
set_option maxHeartbeats 20000000
namespace Go.Proofs.YthfhilggbbobmaaGreatDoor
open Go.Proofs.Tryz
open Go renaming World->Wd,Calls->Cs
open Go.RowKit renaming Below->Bl
open Go.RowKit
theorem KD(s:ByteArray)(p:Nat)(h:(Utf8.decode s p).1<128):(s.get! p).toNat=(Utf8.decode s p).1/\(Utf8.decode s p).2=1:=by
 unfold Utf8.decode at h⊢;simp only[fU]at h⊢;by_cases a:(s.get! p).toNat<128
 ·rw[cK a];exact⟨rfl,rfl⟩
 ·exfalso;rw[cL a]at h
  repeat' split at h
  all_goals(first|(simp only[cH,dA,ge_iff_le]at*;omega)|(simp[Utf8.runeError]at h))
theorem BY(s:ByteArray):∀(f p:Nat),s.size<=p+f->(∀x∈gw s f p,se x=true)->∀i,p<=i->i<s.size->48<=(s.get! i).toNat/\(s.get! i).toNat<=57
 |0,p,h,_,i,h1,h2=>by omega
 |f+1,p,h,ha,i,h1,h2=>by
  have c:p<s.size:=by omega
  rw[xi s f p c]at ha;have hx:=ha (Utf8.decode s p).1 (by simp);simp only[se,cH,dA]at hx;obtain⟨a,b⟩:=KD s p (by omega);rw[b]at ha;by_cases hi:i=p
  ·subst hi;rw[a];exact hx
  ·exact BY s f (p+1) (by omega) (fun x hx=>ha x (by simp[hx])) i (by omega) h2
theorem tA:∀(l:List UInt8) (a:Nat),(∀b∈l,48<=b.toNat/\b.toNat<=57)->(Lib.decFrom a l).isSome=true
 |[],a,_=>rfl
 |b::r,a,h=>by
  unfold Lib.decFrom;have c:=h b (by simp);simp only[Lib.digitVal,cK c];exact tA r _ (fun x hx=>h x (by simp[hx]))
theorem Kf{l:List UInt8}(h:∀b∈l,48<=b.toNat/\b.toNat<=57)(e:l≠[]):(Lib.atoi l).isSome=true:=by
 cases l with
 |nil=>exact absurd rfl e
 |cons b r=>
  have a:=h b (by simp)
  have c:(b==45)=false:=by
   rw[dQ];rintro rfl;simp at a
  have d:(b==43)=false:=by
   rw[dQ];rintro rfl;simp at a
  simp only[Lib.atoi,c,d,rQ,rO,Option.isSome_map];unfold Lib.decNat;simp only[List.isEmpty_cons,rQ,rO];exact tA _ _ h
variable{s:ByteArray}
theorem Eb  (h : tB s = true) : (Lib.atoi s.data.toList).isSome = true := by
  simp only [tB, cH, dC, nD] at h;obtain ⟨h1, h2⟩ := h
  have hs : 0 < s.size := by
    rcases dX s.size with a | a
    · exfalso
      have e : s = ByteArray.empty := by
        rcases s with ⟨d⟩;have : d.size = 0 := a;rw [Array.eq_empty_of_size_eq_zero this];rfl
      rw [e] at h2;simp at h2
    · exact a
  refine Kf (fun b c => ?_) (fun e => ?_)
  · obtain ⟨i, hi, rfl⟩ := i7.1 c
    have f : i < s.size := by simpa using hi
    have := BY s s.size 0 (by omega) h1 i (by omega) f
    have e : s.get! i = s.data.toList[i] := by
      show s.data[i]! = _;rw [getElem!_pos s.data i (by simpa using hi)];simp
    rwa [e] at this
  · have : s.data.toList.length = 0 := by rw [e]; rfl
    simp at this;rw [this] at hs;simp at hs
def mu(s:ByteArray):Int×Bool:=if tB s=false\/9<s.size\/(1<s.size/\s.data.toList[0]?=some 48)then(0,false)else((Lib.atoi s.data.toList).getD 0,true)
theorem vK(w:Wd)(t:ByteArray):Bl w w (Lib.bytesWorld w 5 t):=by
 exact Lib.below_freeze ((nT (cC _ w)).alloc lr _) (p:=⟨w,_,none⟩) lr 1
theorem Hn(s:ByteArray)(w:Wd)(hs:s.size<9223372036854775807):Cs prog 324 #[.string s] w (an (.tuple #[(mu s).1,(mu s).2]) w):=by
 have c:=ah (xL s w hs)
 cases hd:tB s with
 |false=>
  have a:Hid (mu s=(0,false)):=by show _=_;simp[mu,hd]
  rw[hd]at c;clear hd;go_in;go_wp2_with fail;refine av c fun b b1=> ?_;go_wp2;go_ret2;exact⟨by rw[a.out];rfl,b1⟩
 |true=>
  rw[hd]at c;obtain⟨v,d⟩:=l9.1 (Eb hd);have j:=ah d;by_cases i:9<s.size
  ·have a:Hid (mu s=(0,false)):=by show _=_;simp[mu,i]
   have l:=dT ((9:Int)<(s.size:Int)) (by omega);have q:=dT (9<s.size) (by omega);clear hd d;go_in;go_wp2_with fail;refine av c fun b b1=> ?_;go_wp2;go_ret2;exact⟨by rw[a.out];rfl,b1⟩
  ·have l:=dF ((9:Int)<(s.size:Int)) (by omega);have q:=dF (9<s.size) (by omega);by_cases h1:1<s.size
   ·have m:=dT ((1:Int)<(s.size:Int)) (by omega);have u:=dT (1<s.size) (by omega);have o:0<s.size:=by omega
    have g:s.data.toList[0]?=some s[0]:=by
     rw[cE (by simpa using o)];simp;rfl
    by_cases f:s[0]=48
    ·have a:Hid (mu s=(0,false)):=by show _=_;rw[mu,cK];exact .inr (.inr ⟨h1,by rw[g,f]⟩)
     have n:((s[0].toNat:Int)==48)=true:=by rw[f];rfl
     have r:(s[0].toNat==48)=true:=by rw[f];rfl
     clear hd d g f;go_in;go_wp2_with fail;refine av c fun b b1=> ?_;go_wp2;go_ret2;exact⟨by rw[a.out];rfl,b1⟩
    ·have k:s[0].toNat≠48:=fun e=>f (UInt8.toNat_inj.1 (by simpa using e))
     have a:Hid (mu s=(v,true)):=by
      show _=_;rw[mu,cL,d]
      ·rfl
      ·rintro(h|h|⟨-,h⟩)
       ·rw[hd]at h;cases h
       ·exact i h
       ·rw[g]at h;exact f (oF h)
     have n:((s[0].toNat:Int)==48)=false:=by simp;omega
     have r:(s[0].toNat==48)=false:=by simpa using k
     clear hd d g f k;go_in;go_wp2_with fail;refine av c fun b b1=> ?_;go_wp2_with fail;refine(strconv_Atoi s v (by omega) j b).mono ?_;rintro e p ⟨rfl,t,rfl⟩;have b2:=aa b1 (vK b t);go_wp2_with fail;go_region
     all_goals go_wp2_with fail
     all_goals go_ret2
     all_goals exact⟨by rw[a.out];rfl,by first|assumption|exact b2.drew⟩
   ·have a:Hid (mu s=(v,true)):=by show _=_;simp[mu,hd,i,h1,d]
    have m:=dF ((1:Int)<(s.size:Int)) (by omega);have u:=dF (1<s.size) (by omega);clear hd d;go_in;go_wp2_with fail;refine av c fun b b1=> ?_;go_wp2_with fail;refine(strconv_Atoi s v (by omega) j b).mono ?_;rintro e p ⟨rfl,t,rfl⟩;have b2:=aa b1 (vK b t);go_wp2_with fail;go_region
    all_goals go_wp2_with fail
    all_goals go_ret2
    all_goals exact⟨by rw[a.out];rfl,by first|assumption|exact b2.drew⟩
open Go renaming Ending->Ed
def ke(q:Nat->Bool)(rs:List Nat)(k:Nat):ByteArray:=jO ((rs.drop k).take (ck q rs k))
def IL(R:Nat)(L:OA)(n c:Nat)(rs:List Nat)(k:Nat)(f a:Int)(w:Wd)(e:Ed)(w':Wd):Prop:=
 ∃(t:Tk) (d b:Int),e=.returned (F7 t)/\cg R w w'/\ui w' R L n c ((k+ck dm rs k:Nat):Int) d b/\t.kd≠1/\(a≠0->b=a)/\
  (tB (ke dm rs k)=true->(mu (ke dm rs k)).2=true->t=⟨2,⟨#[]⟩,(mu (ke dm rs k)).1,0⟩/\b=a)
theorem xI(R:Nat)(L:OA)(n c:Nat)(rs:List Nat)(k:Nat)(l i:Int)(w:Wd)(h:ui w R L n c (k:Int) l i)(U:wH w L n rs)
 (hL:(L=none/\n=0/\c=0)\/∃b off,L=some ⟨b,off,none⟩/\b≠R)(hk:k<=n)(hn:n<=1000)(hc:n<=c)(I:(ke dm rs k).size<9223372036854775807):
 Cs prog 215 #[.pointer R] w (IL R L n c rs k l i w):=by
 have HB:=ah h;have HR:=ah U;have uA:=h.lt;have c1:=h.cell 1;simp at c1;have V:=ai.new w 211 #[(),.string ⟨#[]⟩,(),()];have b1:Bl w w (w.alloc (.cells #[(),.string ⟨#[]⟩,(),()] 211)):=bR.alloc lr _;have O:=ah (IH R L n c rs k l i _ dm KB _ (HB.ae b1 uA) (HR.ae b1) hL hk hn hc (fun x W _=>GG x W));have yX:=ah V;have uC:=ah b1;have o:=ah (fun W=>xL (ke dm rs k) W I);have m:=ah (fun W=>Hn (ke dm rs k) W I);have X:jO ((rs.drop k).take (ck dm rs k))=ke dm rs k:=rfl;have yV:=ah X;clear h U b1 V X;go_in;go_wp2_with fail;refine O.out.mono ?_;rintro e w2 ⟨rfl,M,Y⟩;rw[yV.out];have A:=ah (M.ce yX (by omega));have F:=ah ((cg.aX uC (by omega)).trans M);have E:=ah Y;have yR:=F.size;clear M Y;obtain⟨s,N⟩:=nm (ke dm rs k);rw[<-N]at o m⊢;have HE:=ah N;clear N O yV I
 have G:Hid (∀(t:Tk) (K D:Int) (W:Wd),cg R w W->ui W R L n c ((k+ck dm rs k:Nat):Int) K D->t.kd≠1->(i≠0->D=i)->(tB s=true->(mu s).2=true->t=⟨2,⟨#[]⟩,(mu s).1,0⟩/\D=i)->
  IL R L n c rs k l i w (.returned (F7 t)) W):=fun t K D W h1 h2 h3 h4 h5=>⟨t,K,D,rfl,h1,h2,h3,h4,by rw[<-HE.out];exact h5⟩
 cases hd:tB s with
 |false=>
  rw[hd]at o;have Z:=ah hd;clear hd;go_wp2_with fail;refine(o _).mono ?_;rintro e w3 ⟨rfl,b3⟩;have a:=ah (A.ae b3 A.lt);have f:=ah (E.ae b3 E.lt);have j:=ah (F.ae b3 (by omega));have f0:=a.ao 0;have P:=a.ao 1;have Q:=a.ao 2;have S:=a.ao 3;obtain⟨T,g1,g2,g3⟩:=bT a;go_wp2_with fail;have q:=(((a.set 0 (3:Int)).set 1 (.string s)).set 2 ()).set 3 ();obtain⟨r,u,y,z⟩:=bT q;refine cU (v:=.agg #[(3:Int),.string s,(),()]) (by simp[results,results215,go_sem,r,u,y,z]) rfl ?_;have d:R≠w:=by omega
  have B:=(((f.ll (p:=w) d (3:Int)).ll (p:=⟨w,1,none⟩) d (.string s)).ll (p:=⟨w,2,none⟩) d ()).ll (p:=⟨w,3,none⟩) d ();have C:=(((j.gb (g:=w.heap.size) 0 lr (by omega) (3:Int)).gb (g:=w.heap.size) 1 lr (by omega) (.string s)).gb (g:=w.heap.size) 2 lr (by omega) ()).gb (g:=w.heap.size) 3 lr (by omega) ();exact G ⟨3,s,0,0⟩ l i _ C B (by simp) (fun _=>rfl) (fun h=>by rw[Z.out]at h;cases h)
 |true=>
  rw[hd]at o;have Z:=ah hd;clear hd;go_wp2_with fail;refine(o _).mono ?_;rintro e w3 ⟨rfl,b3⟩;have a:=ah (A.ae b3 A.lt);have f:=ah (E.ae b3 E.lt);have j:=ah (F.ae b3 (by omega));have uB:=cF yR b3.size;clear A E F b3;obtain⟨v,H⟩:=nm ((mu s).1);rw[<-H]at m;have yY:=ah H;clear H
  cases ho:(mu s).2 with
  |true=>
   rw[ho]at m;have yW:=ah ho;clear ho;go_wp2_with fail;refine(m _).mono ?_;rintro e w4 ⟨rfl,b4⟩;have a:=ah (a.ae b4 a.lt);have f:=ah (f.ae b4 f.lt);have j:=ah (j.ae b4 (by omega));have f0:=a.ao 0;have P:=a.ao 1;have Q:=a.ao 2;have S:=a.ao 3;obtain⟨T,g1,g2,g3⟩:=bT a;go_wp2_with fail;have q:=(((a.set 0 (2:Int)).set 1 (.string ⟨#[]⟩)).set 2 v).set 3 ();obtain⟨r,u,y,z⟩:=bT q;refine cU (v:=.agg #[(2:Int),.string ⟨#[]⟩,v,()]) (by simp[results,results215,go_sem,r,u,y,z]) rfl ?_;have d:R≠w:=by omega
   have B:=(((f.ll (p:=w) d (2:Int)).ll (p:=⟨w,1,none⟩) d (.string ⟨#[]⟩)).ll (p:=⟨w,2,none⟩) d v).ll (p:=⟨w,3,none⟩) d ();have C:=(((j.gb (g:=w.heap.size) 0 lr (by omega) (2:Int)).gb (g:=w.heap.size) 1 lr (by omega) (.string ⟨#[]⟩)).gb (g:=w.heap.size) 2 lr (by omega) v).gb (g:=w.heap.size) 3 lr (by omega) ();exact G ⟨2,⟨#[]⟩,v,0⟩ l i _ C B (by simp) (fun _=>rfl) (fun _ _=>⟨by rw[yY.out],rfl⟩)
  |false=>
   rw[ho]at m;have yW:=ah ho;clear ho;go_wp2_with fail;refine(m _).mono ?_;rintro e w4 ⟨rfl,b4⟩;have yO:=ah (a.ae b4 a.lt);have uD:=ah (f.ae b4 f.lt);have yZ:=ah (j.ae b4 (by omega));clear a f j;go_wp2_with fail;refine(pY R L n c _ l i (k:Int) 50 _ uD).mono ?_;rintro e w5 ⟨rfl,J,b5⟩;have a:=ah (J.ce yO (by omega));have f:=ah b5;have j:=ah (yZ.trans J);clear J b5;have f0:=a.ao 0;have P:=a.ao 1;have Q:=a.ao 2;have S:=a.ao 3;obtain⟨T,g1,g2,g3⟩:=bT a;go_wp2_with fail;have q:=(((a.set 0 (2:Int)).set 1 (.string ⟨#[]⟩)).set 2 v).set 3 ();obtain⟨r,u,y,z⟩:=bT q;refine cU (v:=.agg #[(2:Int),.string ⟨#[]⟩,v,()]) (by simp[results,results215,go_sem,r,u,y,z]) rfl ?_;have d:R≠w:=by omega
   have B:=(((f.ll (p:=w) d (2:Int)).ll (p:=⟨w,1,none⟩) d (.string ⟨#[]⟩)).ll (p:=⟨w,2,none⟩) d v).ll (p:=⟨w,3,none⟩) d ();have C:=(((j.gb (g:=w.heap.size) 0 lr (by omega) (2:Int)).gb (g:=w.heap.size) 1 lr (by omega) (.string ⟨#[]⟩)).gb (g:=w.heap.size) 2 lr (by omega) v).gb (g:=w.heap.size) 3 lr (by omega) ();exact G ⟨2,⟨#[]⟩,v,0⟩ _ _ _ C B (by simp) (fun h=>by rw[cL h]) (fun _ h=>by rw[yW.out]at h;cases h)
set_option maxRecDepth 100000
open Go renaming Value->Vl
theorem QS:(prog.info? 313).map (·.size)=some 2:=by kernel_rfl
theorem UT:(prog.info? 5).map (fun i=>(i.zero,i.size,i.bytes))=some (some (.int .u8 0),1,1):=by kernel_rfl
abbrev Bd(B b:Nat)(a:List Vl)(w:Wd):Prop:=Lib.IsBuilderF 313 5 B b a w
abbrev BdAt(B b:Nat)(a:List Vl)(w:Wd):Prop:=Lib.BuilderAtF 313 5 B b (.pointer b) a w
abbrev S1(b:Nat)(w w':Wd):Prop:=Lib.OthersKept 5 (some b) w w'
theorem Ay(B b:Nat)(d:List Vl)(w:Wd)(h:Bd B b d w):
 Cs prog 345 #[.pointer b] w fun e w'=>e=.returned (.tuple #[])/\BdAt B b d w'/\Bl B w w'/\S1 b w w':=by
 obtain⟨j,c,i⟩:=i6.1 QS;rcases h with h|h
 ·have a:=ah h;have g:=h.cell0;have f:=h.shape;have k:=h.frozen0;clear h;go_in;go_wp2;rw[Lib.run_to_unsafe w b underlying311 underlying428 c (by rw[i];decide) f (Nat.zero_lt_succ 1)];simp only[Result.andThen];rw[Oper.upon_value];go_wp2;rw[run_callFunc_extern func400 (by kernel_rfl) (by kernel_rfl) (by kernel_rfl) (e:=Extern.AbiNoEscape.same) (by kernel_rfl),Lib.run_noEscape];simp only[Result.andThen];rw[Oper.upon_value];go_wp2;rw[Lib.run_from_unsafe w b underlying428 underlying311 c f (by kernel_rfl)];simp only[Result.andThen];rw[Oper.upon_value];go_wp2;go_end0;exact⟨rfl,a.used _,(cC B w).setCell (p:=b) a.1 _,(Lib.OthersKept.refl _ _ w).setCell b rfl _⟩
 ·have a:=ah h;have g:=h.cell0;clear h;go_in;go_wp2;rw[Lib.run_neq_ptr_same w _ underlying311 c];go_wp2;go_end0;exact⟨rfl,a,cC B _,Lib.OthersKept.refl _ _ _⟩
theorem AL(B b:Nat)(a:List Vl)(r:Int)(L: -2147483648<=r)(M:r<=2147483647)(w:Wd)(h:Bd B b a w)(R:a.length<=100000000)(S:B<=w):
 Cs prog 394 #[.pointer b,.int .i32 r] w fun e w'=>e=.returned (.tuple #[(Lib.runeCells r).length,.nilIface])/\BdAt B b (a++Lib.runeCells r) w'/\Bl B w w'/\S1 b w w':=by
 have T:=Lib.runeCells_le r;go_in;go_wp2_with fail;refine(Ay B b a _ h).mono ?_;rintro e j ⟨rfl,h1,q,z⟩;obtain⟨y,v,s,m,A⟩:=h1
 obtain⟨f,d,rfl⟩:∃f d,v=.slice f a.length d:=by
  rcases m.2 with⟨i,x⟩|⟨g,d,cur,I,i,_⟩
  ·exact⟨none,0,by rw[i,x]⟩
  ·exact⟨_,_,i⟩
 have G:j.cell? b=some (.pointer b):=by rw[Lib.cell_of_heap s];rfl
 have H:j.cell? ⟨b,1,none⟩=some (.slice f a.length d):=by rw[Lib.cell_of_heap s];rfl
 go_wp2_with fail;refine(Any.utf8_AppendRune_row RY UT B _ a.length a r L M j m (by omega) (by have:=q.size;omega)).mono ?_;rintro e l ⟨K,rfl,u,o,t⟩;have N:b<j:=lt_of_block s
 have n:l.heap[b]?=some (.cells #[.pointer b,.slice f a.length d] 313 (0,0)):=by
  rw[t.block b (by simp;omega) (fun e=>A e.symm),Lib.alloc_old j _ b N];exact s
 have O:l.cell? b=some (.pointer b):=by rw[Lib.cell_of_heap n];rfl
 have P:l.cell? ⟨b,1,none⟩=some (.slice f a.length d):=by rw[Lib.cell_of_heap n];rfl
 have Q:l.frozen? ⟨b,1,none⟩=false:=Lib.frozen_of_heap n 1
 obtain⟨g,c,rfl⟩:∃g c,K=.slice g (a.length+(Lib.runeCells r).length) c:=by
  rcases u.2 with⟨_,x⟩|⟨g,c,cur,I,i,_⟩
  ·omega
  ·exact⟨g,c,i⟩
 have D:=ah (((z.alloc o).grown t (Lib.ownsRowF_kind (m.alloc _))).setCell ⟨b,1,none⟩ rfl (.slice g (a.length+(Lib.runeCells r).length) c));have F:=ah u;have C:=ah n;have E:=ah (((q.alloc (by have:=q.size;omega) o).grown t (by have:=q.size;simp;omega) (fun k J=>((m.alloc o).lt k J).1)).setCell (p:=⟨b,1,none⟩) y (.slice g (a.length+(Lib.runeCells r).length) c));clear u t m s n z q G H A h;go_wp2;go_ret2;refine⟨?_,?_,E,D⟩
 ·have e:((a.length:Int)+((Lib.runeCells r).length:Int)-(a.length:Int))=((Lib.runeCells r).length:Int):=by omega
  simp[e]
 ·exact Lib.BuilderAtF.put y C (bs':=a++Lib.runeCells r) (by have h1:l.ownsRowF B 5 1 (.slice g (a.length+(Lib.runeCells r).length) c) (a.length+(Lib.runeCells r).length) (a++Lib.runeCells r):=F.out;simpa using h1) (by decide)
def QK(w:Wd)(e:Ed)(w':Wd):Prop:=∃(t:ByteArray) (x:Int),e=.returned (.tuple #[.string t,x])/\Bl w w w'
theorem FT(s:ByteArray)(w:Wd)(hs:s.size<=1000000):Cs prog 326 #[.string s] w (QK w):=by
 have B:=ah (zB s w (by omega));by_cases h2:s.size<2
 ·have O:=dT ((s.size:Int)<2) (by omega);have P:=dT (s.size<2) (by omega);go_in;go_wp2_with fail;refine av B fun c b1=> ?_;have l:=ah b1;clear b1;go_wp2_with fail
  all_goals go_ret2
  all_goals exact⟨_,_,rfl,l⟩
 have O:=dF ((s.size:Int)<2) (by omega);have P:=dF (s.size<2) (by omega);have W:0<s.size:=by omega
 have X:s.size-1<s.size:=by omega
 go_in;go_wp2_with fail;refine av B fun c b1=> ?_;have l:=ah b1;clear b1;go_wp2_with fail
 all_goals try(go_ret2;exact⟨_,_,rfl,l⟩;done)
 obtain⟨t,ht⟩:=nm (s.extract 1 (s.size-1));have yS:t.size<=1000000:=by rw[ht];simp;omega
 rename_i R K U;rw[<-ht];simp only[R];clear ht
 go_loopw [7] (fun h wr=>∃(q:Bool) (f:Nat) (j:List UInt8),h=.bool q/\Bd c c (Lib.byteCells j) wr/\wr.heap[c.heap.size+1]?=some (.stringIter t f)/\Bl c c wr/\j.length<=4*f) (fun _ wr=>t.size-wr.iterPos (c+1))
 case atStart=>
  refine⟨false,0,[],rfl,(Lib.IsBuilderF.of (Lib.fresh_isBuilder 313 5 c)).alloc _,?_,((cC _ c).alloc lr _).alloc (by simp) _,by simp⟩;have:=World.iter_heap (c.alloc (.cells #[.pointer none,.slice none 0 0] 313)) t 0;simpa using this
 case round=>
  obtain⟨q,f,j,rfl,hI,g,n,yT⟩:=hrel;have Y:c.heap.size+1<wr:=(fC.1 g).1;by_cases y:f<t.size
  ·have I:∀i,(Instr.next (.pointer (c+1:Nat)) true i).run prog wr=_:=fun i=>Lib.run_next_any_at wr (c+1) t f i g y;have yU:=Lib.decode_width_pos t f y;have Z:=decode_le t f;have yR:=Lib.rune_le t f;have o:=hI.iterAt g (f+(Utf8.decode t f).2);have v:=Lib.iterAt_heap wr (c+1) t f (f+(Utf8.decode t f).2) g;have z:=Lib.below_iterAt n (k:=c.heap.size+1) (by omega) t (f+(Utf8.decode t f).2);have H:c.heap.size<=(wr.iterAt (c+1) t (f+(Utf8.decode t f).2)).heap.size:=by rw[Lib.iterAt_size];omega
   have G:wr.iterPos (c+1)=f:=by simp[World.iterPos,g]
   generalize(Utf8.decode t f).1=x at*;generalize(Utf8.decode t f).2=d at*;obtain⟨V,F⟩:=nm (wr.iterAt (c+1) t (f+d));rw[<-F]at I o v z H;have L:=ah o;have p:=ah v;have m:=ah z;have D:=ah G;have M:=ah fun(r:Int) a b=>AL c c (Lib.byteCells j) r a b V o (by rw[Lib.byteCells_length];omega) H;clear hI g n o v z G F;cases q
   all_goals go_wp2_with fail
   all_goals first
    |(go_ret2;exact⟨_,_,rfl,aa l m⟩)
    |(refine⟨⟨true,f+d,j,rfl,L,p,m,by omega⟩,?_⟩
      have:=D.out;have Q:V.iterPos (c+1)=f+d:=by simp only[World.iterPos,p.out]
      omega)
    |(refine(M _ (by omega) (by omega)).mono ?_
      rintro e E ⟨rfl,h1,b1,u⟩;have J:=u.iter p (by omega);have C:=ah J;have A:=ah h1;have S:=ah (m.trans b1);clear h1 b1 u J;go_wp2_with fail;refine⟨⟨false,f+d,j++Lib.encodeRune x,rfl,?_,C,S,?_⟩,?_⟩
      ·rw[Lib.byteCells_append,Lib.byteCells_encodeRune]
       first|exact Or.inr A|(rw[show(x:Int)=34 by omega];exact Or.inr A)
      ·have T:=Lib.runeCells_le (x:Int);rw[Lib.runeCells_length]at T;simp;omega
      ·have:=D.out;have Q:E.iterPos (c+1)=f+d:=by simp only[World.iterPos,C.out]
       omega)
  ·have I:∀i,(Instr.next (.pointer (c+1:Nat)) true i).run prog wr=_:=fun i=>Lib.run_next_end_at wr (c+1) t f i g y;have N:=ah (Builder_String_any_k c c j wr hI (by omega));have m:=ah n;clear hI g n;go_wp2_with fail
   all_goals first
    |(go_ret2;exact⟨_,_,rfl,aa l m⟩)
    |(refine N.out.mono ?_
      rintro e E ⟨rfl,h1,b1,u⟩;go_wp2;go_ret2;exact⟨_,_,rfl,aa l (m.trans b1)⟩)
open Go renaming TypeId->Ti
def QJ(R:Nat)(L:OA)(n c:Nat)(k:Nat)(w:Wd)(e:Ed)(w':Wd):Prop:=
 ∃(t:Tk) (b a:Int) (p:Nat),e=.returned (F7 t)/\cg R w w'/\ui w' R L n c (p:Int) b a/\k<=p/\p<=n/\t.kd≠1/\(a=0->k<p)
theorem pR.savW{R H:Nat}{w a b:Wd}(h:pR R H a b)(k:Bl w w a)(c:w<=H)(hR:R<=w):cg R w b:=⟨cF k.size h.size,fun x hx hn=>(h.same x (cD hx k.size) hn (by omega)).trans (k.block x hx),(k.mono hR).trans h.du⟩
theorem pR.ce{R H g:Nat}{a b:Wd}{t:Ti}{cs:Array Vl}(h:pR R H a b)(c:ai a g t cs)(h1:g≠R)(h2:g≠H):ai b g t cs:=(h.same g c.lt h1 h2).trans c
theorem po{W w:Wd}{R n c:Nat}{L:OA}{p e d:Int}{t:Ti}{i j k l:Vl}(a:Int)(s:ByteArray)(u z:Int)(h:ai W w t #[i,j,k,l])(f:ui W R L n c p e d)(hs:cg R w W)(hR:R<w):
 ai ((((W.setCell w a).setCell ⟨w,1,none⟩ (.string s)).setCell ⟨w,2,none⟩ u).setCell ⟨w,3,none⟩ z) w t #[a,.string s,u,z]/\
 ui ((((W.setCell w a).setCell ⟨w,1,none⟩ (.string s)).setCell ⟨w,2,none⟩ u).setCell ⟨w,3,none⟩ z) R L n c p e d/\
 cg R w ((((W.setCell w a).setCell ⟨w,1,none⟩ (.string s)).setCell ⟨w,2,none⟩ u).setCell ⟨w,3,none⟩ z):=by
 have b:R≠w:=by omega
 exact⟨(((h.set 0 a).set 1 (.string s)).set 2 u).set 3 z,(((f.ll (p:=w) b a).ll (p:=⟨w,1,none⟩) b (.string s)).ll (p:=⟨w,2,none⟩) b u).ll (p:=⟨w,3,none⟩) b z,(((hs.gb (g:=w.heap.size) 0 lr (by omega) a).gb (g:=w.heap.size) 1 lr (by omega) (.string s)).gb (g:=w.heap.size) 2 lr (by omega) u).gb (g:=w.heap.size) 3 lr (by omega) z⟩
theorem PX(R:Nat)(b off n c:Nat)(rs:List Nat)(k:Nat)(I:Int)(w:Wd)(h:ui w R (some ⟨b,off,none⟩) n c (k:Int) I 0)(hr:wH w (some ⟨b,off,none⟩) n rs)
 (yU:b≠R)(hb:b<w.heap.size)(hk:k<n)(hn:n<=1000)(hc:n<=c):
 Cs prog 216 #[.pointer (some ⟨R,0,none⟩)] w (QJ R (some ⟨b,off,none⟩) n c k w):=by
 have HB:=ah h;have HR:=ah hr;have K:=h.lt;have g:=h.cell 1;simp at g;have kr:=ai.new w 211 #[.int .i64 0,.string ⟨#[]⟩,.int .i64 0,.int .i64 0];have Z:=ai.new (w.alloc (.cells #[.int .i64 0,.string ⟨#[]⟩,.int .i64 0,.int .i64 0] 211)) 4 #[.bool true];have b1:Bl w.heap.size w ((w.alloc (.cells #[.int .i64 0,.string ⟨#[]⟩,.int .i64 0,.int .i64 0] 211)).alloc (.cells #[.bool true] 4)):=(bR.alloc lr _).alloc (by simp) _;rw[iT]at Z;have HW:=ah (II R (w.heap.size+1) b off n c rs k I 0 true _ (HB.out.ae b1 K) (HR.out.ae b1) yU (by omega) (by omega) (by omega) hn hc Z);have uT:=ah (kr.alloc (.cells #[.bool true] 4));have uM:=ah b1;clear h hr b1 kr Z;go_enter func216,ntmps216;go_wp2_with fail;refine HW.out.mono ?_;rintro e d ⟨s0,p,rfl,Q,yV,uN,uL⟩;have x:=ah (Q.ce uT.out (by omega) (by omega));have J:=ah (Q.savW uM.out (by omega) (by omega));have uJ:=ah (Q.cells (HR.out.ae uM.out) (fun _ b1 yX Y=>by cases Y;exact⟨yU,by omega⟩));have G:=ah yV;have L:=yV.lt;have b0:Bl d.heap.size d d.drew:=bR.drew;have qB:=J.out.size
 have H:Hid (∀w',Bl d.heap.size d w'->w'.cell? ⟨R,0,none⟩=some (.slice (some ⟨b,off,none⟩) n c)/\w'.cell? ⟨R,1,none⟩=some (.int .i64 (p:Int))):=
  fun w' f=>⟨by have:=(G.out.ae f L).cell 0;simpa using this,by have:=(G.out.ae f L).cell 1;simpa using this⟩
 clear Q yV HW;by_cases yT:p=n
 ·subst yT;have dk:(p==p)=true:=by simp
  go_wp2_with fail;refine aw (fun w'=>Bl d.heap.size d w') (by kernel_rfl) (by kernel_rfl) b0 ?_
  repeat(first
   |(refine bF ?_ ?_
     ·rfl
     simp only[Act.put,aE,aF,aG])
   |(refine cw ?_ ?_
     ·rfl
     apply Exists.intro;refine⟨fun w' B=> ?_,?_⟩
     ·obtain⟨m,g⟩:=H.out w' B;simp[go_sem,m,g]
      try rfl
     simp only[Act.put,aE,aF,aG]))
  refine bM ?_;intro w3 b3;have uQ:=ah (G.out.ae b3 L);have qC:=ah (x.out.ae b3 x.out.lt);have uX:=ah (J.out.ae b3 (by omega));go_wp2_with fail;refine(pY R _ p c _ I 0 (k:Int) 50 _ uQ.out).mono ?_;rintro e F ⟨rfl,s4,b4⟩;rw[cK rfl,cK rfl]at b4;have A:=ah b4;have a:=ah (s4.ce qC.out (by omega));have C:=ah (uX.out.trans s4);clear s4 b4;have f0:=a.out.ao 0;have T:=a.out.ao 1;have U:=a.out.ao 2;have V:=a.out.ao 3;obtain⟨X,g1,g2,g3⟩:=bT a.out;go_wp2_with fail;obtain⟨o,i,z⟩:=po 0 ⟨#[]⟩ 0 0 a.out A.out C.out K;obtain⟨r,s,t,u⟩:=bT o;refine cU (v:=.agg #[.int .i64 0,.string ⟨#[]⟩,.int .i64 0,.int .i64 0]) (by simp[results,results216,go_sem,r,s,t,u]) rfl ?_;exact⟨⟨0,⟨#[]⟩,0,0⟩,_,_,p,rfl,z,i,uN,uL,by simp,fun h=>by simp at h⟩
 ·have uA:p<n:=by omega
  have dk:decide (p=n)=false:=by simpa using yT
  have qG:((p:Int)==(n:Int))=false:=by simp;omega
  obtain⟨b',uZ,y,hA,uS,hy,d0⟩:=cp.rune uJ.out uA;cases hA;clear yT hy
  have yY:Hid (∀w',Bl d.heap.size d w'->w'.cell? ⟨R,0,none⟩=some (.slice (some ⟨b,off,none⟩) n c)/\w'.cell? ⟨R,1,none⟩=some (.int .i64 (p:Int))/\w'.cell? ⟨b,off+p,none⟩=some (.int .i32 (y:Int))):=
   fun w' f=>⟨(H.out w' f).1,(H.out w' f).2,(f.cell (p:=⟨b,off+p,none⟩) uS).trans d0⟩
  clear d0;go_wp2_with fail;refine aw (fun w'=>Bl d.heap.size d w') (by kernel_rfl) (by kernel_rfl) b0 ?_
  repeat(first
   |(refine bF ?_ ?_
     ·rfl
     simp only[Act.put,aE,aF,aG])
   |(refine cw ?_ ?_
     ·rfl
     apply Exists.intro;refine⟨fun w' B=> ?_,?_⟩
     ·obtain⟨m,g⟩:=H.out w' B;simp[go_sem,m,g]
      try rfl
     simp only[Act.put,aE,aF,aG]))
  refine bM ?_;intro w3 b3;have yW:=b3.drew;by_cases hq:y=34
  ·subst hq;go_wp2_with fail;refine aw (fun w'=>Bl d.heap.size d w') (by kernel_rfl) (by kernel_rfl) yW ?_
   repeat(first
    |(refine bF ?_ ?_
      ·rfl
      simp only[Act.put,aE,aF,aG])
    |(refine cw ?_ ?_
      ·rfl
      apply Exists.intro;refine⟨fun w' B=> ?_,?_⟩
      ·obtain⟨m,g,S⟩:=yY.out w' B;simp[go_sem,m,g,S,uA]
       try rfl
      simp only[Act.put,aE,aF,aG]))
   refine bM ?_;intro F b4;have j:=G.out.ae b4 L;have O:=j.cell 1;simp at O;have uV:=j.ao 1;have N:=ah (j.set 1 (.int .i64 ((p:Int)+1)));have uG:=ah ((x.out.ae b4 x.out.lt).ll (p:=⟨R,1,none⟩) (by show w.heap.size≠R;omega) (.int .i64 ((p:Int)+1)));have qA:=ah ((J.out.ae b4 (by omega)).trans (cg.set 1 (.int .i64 ((p:Int)+1))));have uC:=(cg.set (bl:=R) (w:=F) 1 (.int .i64 ((p:Int)+1))).cells (uJ.out.ae b4) (fun _ b1 yX Y=>by cases Y;exact yU);have uR:c≠k:=by omega
   obtain⟨D,yZ⟩:∃D,D=jO ((rs.drop k).take (p+1-k)):=⟨_,rfl⟩
   have uI:∀d,Bl (F.setCell ⟨R,1,none⟩ (.int .i64 ((p:Int)+1))).heap.size (F.setCell ⟨R,1,none⟩ (.int .i64 ((p:Int)+1))) d->(convert 204 9 (.slice (some ⟨b,off+k,none⟩) (p+1-k) (c-k))).run prog d=.ok (.string D) d:=by
    intro d h2;have:=iU (P:=prog) (uC.ae h2) k (p+1) c (by omega) (by omega) hc 204 9 21 underlying204 underlying21 underlying9;rw[cL uR]at this;rw[yZ];exact this
   have HU:=ah (fun W=>FT D W (by rw[yZ];exact cF (Ji _) (by simp;omega)));clear yZ uC j yW b4 G x J b3 H yY;go_wp2_with fail;generalize F.setCell ⟨R,1,none⟩ (.int .i64 ((p:Int)+1))=w5 at*;have uB:=N.out.lt;have b5:Bl w5.heap.size w5 w5.drew:=bR.drew
   have uE:Hid (∀w',Bl w5.heap.size w5 w'->w'.cell? ⟨R,0,none⟩=some (.slice (some ⟨b,off,none⟩) n c)/\w'.cell? ⟨R,1,none⟩=some (.int .i64 ((p:Int)+1))/\(convert 204 9 (.slice (some ⟨b,off+k,none⟩) (p+1-k) (c-k))).run prog w'=.ok (.string D) w'):=
    fun w' f=>⟨by have:=(N.out.ae f uB).cell 0;simpa using this,by have:=(N.out.ae f uB).cell 1;simpa using this,uI w' f⟩
   have qE:k<=p+1:=by omega
   have uU:(k:Int)<=(p:Int)+1:=by omega
   have uO:(p:Int)+1<=(c:Int):=by omega
   have uY:(0:Int)<=(k:Int):=by omega
   have qF:p+1<=c:=by omega
   clear uI O uV
   go_region_held3 (fun w'=>w'.cell? ⟨R,0,none⟩=some (.slice (some ⟨b,off,none⟩) n c)/\w'.cell? ⟨R,1,none⟩=some (.int .i64 ((p:Int)+1))/\(convert 204 9 (.slice (some ⟨b,off+k,none⟩) (p+1-k) (c-k))).run prog w'=.ok (.string D) w')
    (first|with_reducible exact uE.out _ b5|with_reducible exact uE.out _ (aa b5 bu))
    (first|(go_at_call 326;refine(HU.out _).mono ?_;rintro e w6 ⟨E,x0,rfl,bu⟩))
   all_goals
    have M:=aa b5 bu;have uD:=ah (N.out.ae M uB);have uK:=ah (uG.out.ae M uG.out.lt);have uF:=ah (qA.out.ae M (by omega));clear bu M;by_cases uH:x0=0
    ·subst uH;have A:=ah uD.out;have a:=ah uK.out;have C:=ah uF.out;have f0:=a.out.ao 0;have T:=a.out.ao 1;have U:=a.out.ao 2;have V:=a.out.ao 3;obtain⟨X,g1,g2,g3⟩:=bT a.out;go_wp2_with fail;obtain⟨o,i,z⟩:=po 4 E 0 0 a.out A.out C.out K;obtain⟨r,s,t,u⟩:=bT o;refine cU (v:=.agg #[.int .i64 4,.string E,.int .i64 0,.int .i64 0]) (by simp[results,results216,go_sem,r,s,t,u]) rfl ?_;rw[show(p:Int)+1=((p+1:Nat):Int) by omega]at i;exact⟨⟨4,E,0,0⟩,_,_,p+1,rfl,z,i,by omega,by omega,by simp,fun _=>by omega⟩
    ·have dx:(x0==0)=false:=by simpa using uH
     go_wp2_with fail;refine(pY R _ n c _ I 0 (k:Int) x0 _ uD.out).mono ?_;rintro e w7 ⟨rfl,q,l⟩;rw[cK rfl,cK rfl]at l;have A:=ah l;have a:=ah (q.ce uK.out (by omega));have C:=ah (uF.out.trans q);clear q l;have f0:=a.out.ao 0;have T:=a.out.ao 1;have U:=a.out.ao 2;have V:=a.out.ao 3;obtain⟨X,g1,g2,g3⟩:=bT a.out;go_wp2_with fail;obtain⟨o,i,z⟩:=po 4 E 0 0 a.out A.out C.out K;obtain⟨r,s,t,u⟩:=bT o;refine cU (v:=.agg #[.int .i64 4,.string E,.int .i64 0,.int .i64 0]) (by simp[results,results216,go_sem,r,s,t,u]) rfl ?_;rw[show(p:Int)+1=((p+1:Nat):Int) by omega]at i;exact⟨⟨4,E,0,0⟩,_,_,p+1,rfl,z,i,by omega,by omega,by simp,fun _=>by omega⟩
  ·have dq:((y:Int)==34)=false:=by simp;omega
   clear hq;go_wp2_with fail;refine aw (fun w'=>Bl d.heap.size d w') (by kernel_rfl) (by kernel_rfl) yW ?_
   repeat(first
    |(refine bF ?_ ?_
      ·rfl
      simp only[Act.put,aE,aF,aG])
    |(refine cw ?_ ?_
      ·rfl
      apply Exists.intro;refine⟨fun w' B=> ?_,?_⟩
      ·obtain⟨m,g,S⟩:=yY.out w' B;simp[go_sem,m,g,S,uA]
       try rfl
      simp only[Act.put,aE,aF,aG]))
   refine bM ?_;intro F b4;have j:=G.out.ae b4 L;have O:=j.cell 1;simp at O;have qD:=ah j;have uP:=ah (x.out.ae b4 x.out.lt);have uW:=ah (J.out.ae b4 (by omega));clear j;go_wp2_with fail;refine(pY R _ n c _ I 0 (p:Int) 40 _ qD.out).mono ?_;rintro e w7 ⟨rfl,q,l⟩;rw[cK rfl,cK rfl]at l;have A:=ah l;have a:=ah (q.ce uP.out (by omega));have C:=ah (uW.out.trans q);clear q l;have f0:=a.out.ao 0;have T:=a.out.ao 1;have U:=a.out.ao 2;have V:=a.out.ao 3;obtain⟨X,g1,g2,g3⟩:=bT a.out;go_wp2_with fail;obtain⟨o,i,z⟩:=po 0 ⟨#[]⟩ 0 0 a.out A.out C.out K;obtain⟨r,s,t,u⟩:=bT o;refine cU (v:=.agg #[.int .i64 0,.string ⟨#[]⟩,.int .i64 0,.int .i64 0]) (by simp[results,results216,go_sem,r,s,t,u]) rfl ?_;exact⟨⟨0,⟨#[]⟩,0,0⟩,_,_,p,rfl,z,i,uN,uL,by simp,fun h=>by simp at h⟩
open Go renaming Addr->Ad
def wy(x:Nat):Bool:=x==61||x==58||x==44||x==45
structure AO(rs:List Nat)(k:Nat)(t:Tk)(p:Nat)(er:Int):Prop where
 le:k<=p
 cf:p<=rs.length
 more:er=0->k<p
 word:∀x,rs[k]?=some x->dv (x:Int)=2->t=Am rs k/\p=k+ck gS rs k/\er=0
 only:t.kd=1->∃x,rs[k]?=some x/\dv (x:Int)=2
 num:∀x,rs[k]?=some x->dv (x:Int)=3->tB (ke dm rs k)=true->(mu (ke dm rs k)).2=true->t=⟨2,⟨#[]⟩,(mu (ke dm rs k)).1,0⟩/\p=k+ck dm rs k/\er=0
 sign:∀x,rs[k]?=some x->wy x=true->t=⟨5,jO [x],0,0⟩/\p=k+1/\er=0
def TQ(R:Nat)(L:OA)(n c:Nat)(rs:List Nat)(k:Nat)(w:Wd)(e:Ed)(w':Wd):Prop:=
 ∃(t:Tk) (b a:Int) (p:Nat),e=.returned (F7 t)/\cg R w w'/\ui w' R L n c (p:Int) b a/\AO rs k t p a
variable{x:Nat}
theorem Ii(h:wy x=true):dv (x:Int)=4/\x≠34:=by
 simp[wy]at h;rcases h with((rfl|rfl)|rfl)|rfl<;>exact⟨by decide,by decide⟩
variable{k:Nat}
theorem FE{q:Nat->Bool}{rs:List Nat}(h:rs[k]?=some x)(a:q x=true):1<=ck q rs k:=by
 rw[Cc h a];omega
theorem D5{x:Nat}(h:dv (x:Int)=2):gS x=true:=by simp[gS,h]
theorem CD{x:Nat}(h:dv (x:Int)=3):dm x=true:=by
 unfold dv at h
 repeat' split at h
 all_goals(first|omega|(simp[dm,se];omega))
theorem Ea(q:Nat->Bool)(rs:List Nat)(k:Nat)(hn:rs.length<=1000):(ke q rs k).size<=4000:=by
 unfold ke;refine cF (Ji _) ?_;rw[fD,List.length_drop];omega
theorem O2(R:Nat)(b off n c:Nat)(rs:List Nat)(k:Nat)(N:Int)(w:Wd)(h:ui w R (some ⟨b,off,none⟩) n c (k:Int) N 0)(Z:wH w (some ⟨b,off,none⟩) n rs)
 (uE:b≠R)(hb:b<w)(hk:k<n)(hn:n<=1000)(hc:n<=c):
 Cs prog 120 #[.pointer R] w (TQ R (some ⟨b,off,none⟩) n c rs k w):=by
 have yW:=Z.cb;subst yW;have HB:=ah h;have HR:=ah Z;have I:=h.lt;obtain⟨b',uV,x,hA,uO,hx,d0⟩:=cp.rune Z hk;cases hA;have c0:=h.cell 0;have c1:=h.cell 1;simp at c0 c1;have kr:=ai.new w 211 #[(),.string ⟨#[]⟩,(),()];have b1:Bl w w (w.alloc (.cells #[(),.string ⟨#[]⟩,(),()] 211)):=bR.alloc lr _;have D:=ah (HB.ae b1 I);have uD:=ah (HR.ae b1);have uC:=ah kr;have uH:=ah (cg.aX b1 (by omega:R<=w));have yX:b<(w.alloc (.cells #[(),.string ⟨#[]⟩,(),()] 211)).heap.size:=by simp;omega
 have f:=ah hx;have H:=ah (fun W=>re (x:Int) W);have hL:((some (⟨b,off,none⟩:Ad))=none/\rs.length=0/\c=0)\/∃b1 yV,(some (⟨b,off,none⟩:Ad))=some ⟨b1,yV,none⟩/\b1≠R:=.inr ⟨b,off,rfl,uE⟩;have yS:Hid (wy x=true->dv (x:Int)=4/\x≠34):=fun h=>Ii h;clear h Z kr b1 hx
 have uF:Hid (∀w',Bl (w.alloc (.cells #[(),.string ⟨#[]⟩,(),()] 211)).heap.size (w.alloc (.cells #[(),.string ⟨#[]⟩,(),()] 211)) w'->w'.cell? R=some (.slice (some ⟨b,off,none⟩) rs.length c)/\w'.cell? ⟨R,1,none⟩=some (.int .i64 (k:Int))/\w'.cell? ⟨b,off+k,none⟩=some (.int .i32 (x:Int))):=
  fun w' yY=>⟨by have:=(D.ae yY D.lt).cell 0;simpa using this,by have:=(D.ae yY D.lt).cell 1;simpa using this,(yY.cell (p:=⟨b,off+k,none⟩) yX).trans (((cC w w).alloc lr _).cell (p:=⟨b,off+k,none⟩) uO|>.trans d0)⟩
 have bU:Bl (w.alloc (.cells #[(),.string ⟨#[]⟩,(),()] 211)).heap.size (w.alloc (.cells #[(),.string ⟨#[]⟩,(),()] 211)) (w.alloc (.cells #[(),.string ⟨#[]⟩,(),()] 211)).drew:=bR.drew;obtain⟨K,yU⟩:=nm (dv (x:Int));rw[<-yU]at H yS;have G:=ah yU;clear yU;go_in;go_wp2_with fail;refine aw (fun w'=>Bl (w.alloc (.cells #[(),.string ⟨#[]⟩,(),()] 211)).heap.size (w.alloc (.cells #[(),.string ⟨#[]⟩,(),()] 211)) w') (by kernel_rfl) (by kernel_rfl) bU ?_
 repeat(first
  |(refine bF ?_ ?_
    ·rfl
    simp only[aP])
  |(refine cw rfl ⟨?_,fun w' uQ=> ?_,?_⟩
    rotate_left
    ·obtain⟨c0,c1,c2⟩:=uF w' uQ;simp[go_sem,c0,c1,c2,hk]
     try rfl
    simp only[aP]))
 refine bM ?_;intro w1 b4;have E:=ah (D.ae b4 D.lt);have uA:=ah (uD.ae b4);have P:=ah (uC.ae b4 uC.lt);have O:=ah (uH.ae b4 (by simp;omega));have uP:b<w1:=cD yX b4.size;clear D uD uC uH yX b4 bU uF;by_cases h2:K=2
 ·subst h2;have J:=ah (Qa R _ _ c rs k N 0 _ E uA hL (by omega) hn hc (by have:=Ea gS rs k hn;unfold ke at this;unfold maxLen;omega));go_wp2_with fail;refine(H _).mono ?_;rintro e w' ⟨rfl,rfl⟩;go_wp2_with fail;refine J.out.mono ?_;rintro e w2 ⟨rfl,g,B⟩;have z:=ah B;have d:=ah (g.ce P (by omega));have A:=ah (O.trans g);have uS:=FE f (D5 G.symm);have yT:=Ds gS rs k (by omega);clear g B;obtain⟨t,ht⟩:=nm (Am rs k);rw[<-ht];have F:=ah ht;clear ht;have f0:=d.ao 0;have T:=d.ao 1;have U:=d.ao 2;have V:=d.ao 3;obtain⟨X,g1,g2,g3⟩:=bT d;go_wp2_with fail;obtain⟨m,l,u⟩:=po t.kd t.tx t.nu t.at_ d z A I;obtain⟨o,q,r,s⟩:=bT m;refine cU (v:=.agg #[t.kd,.string t.tx,t.nu,t.at_]) (by simp[results,results120,go_sem,o,q,r,s]) rfl ?_;refine⟨t,_,_,_,rfl,u,l,⟨by omega,yT,fun _=>by omega,fun _ _ _=>⟨F,rfl,rfl⟩,fun _=>⟨x,f,G.symm⟩,fun y a C=> ?_,fun y a hs=> ?_⟩⟩
  ·rw[f.out]at a;cases a;have:=G.out;omega
  ·rw[f.out]at a;cases a;have:=(yS hs).1;omega
 have e2:(K==2)=false:=by simpa using h2
 have Q:Hid (∀y,rs[k]?=some y->dv (y:Int)=2->False):=by
  show∀y,_;intro y a j;rw[f.out]at a;cases a;exact h2 (G.trans j)
 clear h2;by_cases Y:K=3
 ·subst Y;have J:=ah (xI R _ _ c rs k N 0 _ E uA hL (by omega) hn hc (by have:=Ea dm rs k hn;omega))
  iterate 2
   go_wp2_with fail;refine(H _).mono ?_;rintro e w' ⟨rfl,rfl⟩
  go_wp2_with fail;refine J.out.mono ?_;rintro e w2 ⟨t,uB,uL,rfl,g,B,L,t2,M⟩;have z:=ah B;have d:=ah (g.ce P (by omega));have A:=ah (O.trans g);have uS:=FE f (CD G.symm);have yT:=Ds dm rs k (by omega);have uK:=ah L;have uI:=ah M;clear g B L t2 M;have f0:=d.ao 0;have T:=d.ao 1;have U:=d.ao 2;have V:=d.ao 3;obtain⟨X,g1,g2,g3⟩:=bT d;go_wp2_with fail;obtain⟨m,l,u⟩:=po t.kd t.tx t.nu t.at_ d z A I;obtain⟨o,q,r,s⟩:=bT m;refine cU (v:=.agg #[t.kd,.string t.tx,t.nu,t.at_]) (by simp[results,results120,go_sem,o,q,r,s]) rfl ?_;refine⟨t,_,_,_,rfl,u,l,⟨by omega,yT,fun _=>by omega,fun y a j=>(Q y a j).elim,fun h=>absurd h uK,fun y a C h1 h2=>⟨(uI h1 h2).1,rfl,(uI h1 h2).2⟩,fun y a hs=> ?_⟩⟩;rw[f.out]at a;cases a;have:=(yS hs).1;omega
 have e3:(K==3)=false:=by simpa using Y
 have H3:Hid (∀y,rs[k]?=some y->dv (y:Int)=3->False):=by
  show∀y,_;intro y a j;rw[f.out]at a;cases a;exact Y (G.trans j)
 clear Y;by_cases uG:x=34
 ·subst uG;have J:=ah (PX R b off _ c rs k N _ E uA uE uP hk hn hc)
  iterate 2
   go_wp2_with fail;refine(H _).mono ?_;rintro e w' ⟨rfl,rfl⟩
  go_wp2_with fail;refine J.out.mono ?_;rintro e w2 ⟨t,uB,uL,p,rfl,g,B,L,t2,M,t4⟩;have z:=ah B;have d:=ah (g.ce P (by omega));have A:=ah (O.trans g);have F:=ah (And.intro L (And.intro t2 (And.intro M t4)));clear g B L t2 M t4;have f0:=d.ao 0;have T:=d.ao 1;have U:=d.ao 2;have V:=d.ao 3;obtain⟨X,g1,g2,g3⟩:=bT d;go_wp2_with fail;obtain⟨m,l,u⟩:=po t.kd t.tx t.nu t.at_ d z A I;obtain⟨o,q,r,s⟩:=bT m;refine cU (v:=.agg #[t.kd,.string t.tx,t.nu,t.at_]) (by simp[results,results120,go_sem,o,q,r,s]) rfl ?_;refine⟨t,_,_,_,rfl,u,l,⟨F.1,F.2.1,F.2.2.2,fun y a j=>(Q y a j).elim,fun h=>absurd h F.2.2.1,fun y a C=>(H3 y a C).elim,fun y a hs=> ?_⟩⟩;rw[f.out]at a;cases a;exact absurd rfl (yS hs).2
 have uW:((x:Int)==34)=false:=by simp;omega
 have uM:=ah (fun c W=>strings_IndexByte ⟨#[61,58,44,45]⟩ c W);clear uG
 iterate 2
  go_wp2_with fail;refine(H _).mono ?_;rintro e w' ⟨rfl,rfl⟩
 go_wp2_with fail;refine(uM _ _).mono ?_;rintro e w' ⟨rfl,rfl⟩;obtain⟨i,hi⟩:=nm (Lib.indexByte [61,58,44,45] ((x:Int) % 256).toNat.toUInt8)
 have HI:Hid (wy x=true->0<=i/\x<128):=by
  show _->_;intro hs;rw[hi];simp[wy]at hs;rcases hs with((rfl|rfl)|rfl)|rfl<;>decide
 have uJ:=E.cell 1;simp at uJ;have uX:=E.ao 1;have yP:jO [x]=Utf8.encode (x:Int):=by simp[jO]
 have uR:=ah yP;clear yP;rw[<-hi];clear hi;by_cases hs:0<=i/\x<128
 ·have di:decide (0<=i)=true:=by simp;exact hs.1
  have dx:=dT ((x:Int)<128) (by omega);have uN:=dT (x<128) (by omega);clear hs;obtain⟨S,yZ⟩:=nm (jO [x])
  have uY:∀W,(convert 21 9 (.int .i32 (x:Int))).run prog W=.ok (.string S) W:=by
   intro W;rw[yZ,uR.out];simp[convert,oN underlying21,oN underlying9,Conv.intToString,n7]
  have uU:=ah yZ;clear yZ;have z:=ah (E.set 1 ((k:Int)+1:Int));have d:=ah (P.ll (p:=⟨R,1,none⟩) (by show w≠R;omega) ((k:Int)+1:Int));have A:=ah (O.trans (cg.set 1 ((k:Int)+1:Int)));have f0:=d.ao 0;have T:=d.ao 1;have U:=d.ao 2;have V:=d.ao 3;obtain⟨X,g1,g2,g3⟩:=bT d;go_wp2_with fail;obtain⟨m,l,u⟩:=po 5 S 0 0 d z A I;obtain⟨o,q,r,s⟩:=bT m;refine cU (v:=.agg #[(5:Int),.string S,(),()]) (by simp[results,results120,go_sem,o,q,r,s]) rfl ?_;rw[show(k:Int)+1=((k+1:Nat):Int) by omega]at l;refine⟨⟨5,S,0,0⟩,_,_,k+1,rfl,u,l,⟨by omega,by omega,fun _=>by omega,fun y a j=>(Q y a j).elim,fun h=>by simp at h,fun y a C=>(H3 y a C).elim,fun y a hs=> ?_⟩⟩;rw[f.out]at a;cases a;exact⟨by rw[uU.out],rfl,rfl⟩
 have uT:Hid (wy x=true->False):=fun h=>hs (HI h);have hd:decide (0<=i)=false\/decide (0<=i)=true/\decide ((x:Int)<128)=false/\decide (x<128)=false:=by simp;omega
 clear hs;rcases hd with di|⟨di,dx,uN⟩
 all_goals
  go_wp2_with fail;refine(H _).mono ?_;rintro e w' ⟨rfl,rfl⟩;cases e0:(K==0)
  all_goals
   go_wp2_with fail;refine(pY R _ _ c _ N 0 (k:Int) _ _ E).mono ?_;rintro e w7 ⟨rfl,s7,b7⟩;rw[cK rfl,cK rfl]at b7;have z:=ah b7;have d:=ah (s7.ce P (by omega));have A:=ah (O.trans s7);clear s7 b7;have f0:=d.ao 0;have T:=d.ao 1;have U:=d.ao 2;have V:=d.ao 3;obtain⟨X,g1,g2,g3⟩:=bT d;go_wp2_with fail;obtain⟨m,l,u⟩:=po 0 ⟨#[]⟩ 0 0 d z A I;obtain⟨o,q,r,s⟩:=bT m;refine cU (v:=.agg #[(),.string ⟨#[]⟩,(),()]) (by simp[results,results120,go_sem,o,q,r,s]) rfl ?_;refine⟨⟨0,⟨#[]⟩,0,0⟩,_,_,k,rfl,u,l,⟨by omega,by omega,fun h=>by simp at h,fun y a j=>(Q y a j).elim,fun h=>by simp at h,fun y a C=>(H3 y a C).elim,fun y a hs=> ?_⟩⟩;rw[f.out]at a;cases a;exact(uT hs).elim
inductive gD(rs:List Nat):Nat->List Tk->Prop
 |nil:gD rs 0 []
 |snoc {k:Nat} {out:List Tk} {t:Tk} {p:Nat} (h:gD rs k out) (hlt:k+ck ev rs k<rs.length) (hn:AO rs (k+ck ev rs k) t p 0):gD rs p (out++[{t with at_:=((k+ck ev rs k:Nat):Int)}])
def wF(t:Tk):List Vl:=[t.kd,.string t.tx,t.nu,t.at_]
theorem OR:wU wF 4:=⟨fun _=>rfl,fun x u a=>by simp[wF]at a;rcases a with rfl|rfl|rfl|rfl<;>rfl,by omega⟩
abbrev Tks:=cp wF 4
abbrev M3:=be wF 4
def pT(s:ByteArray):Prop:=400<s.size\/∃k out t p a,gD (bc s) k out/\k+ck ev (bc s) k<(bc s).length/\AO (bc s) (k+ck ev (bc s) k) t p a/\a≠0
def xu(s:ByteArray)(w:Wd)(e:Ed)(w':Wd):Prop:=
 ∃(A:OA) (c:Nat) (l:List Tk) (m a:Int),e=.returned (.tuple #[.slice A l.length c,m,a])/\Tks w' A l.length l/\Bl w w w'/\l.length<=400/\(0<l.length->∃g,A=some ⟨g,0,none⟩/\w<=g)/\
  ((a=0/\s.size<=400/\(∃k,gD (bc s) k l/\k+ck ev (bc s) k=(bc s).length)/\m=((bc s).length:Int))\/(a≠0/\l=[]/\pT s))
theorem UR{rs:List Nat}{out:List Tk}(h:gD rs k out):out.length<=k/\k<=rs.length:=by
 induction h with
 |nil=>exact⟨cB _,fK _⟩
 |snoc h hlt hn ih=>
  have:=hn.more rfl;have:=hn.cf;simp only[cY,dV,iP];omega
theorem Fx:(prog.info? 21).map (fun i=>(i.zero,i.size,i.bytes))=some (some (.int .i32 0),1,4):=by kernel_rfl
theorem SQ:(prog.info? 211).map (fun i=>(i.zero,i.size,i.bytes))=some (some (.agg #[(),.string ⟨#[]⟩,(),()]),4,40):=by kernel_rfl
theorem jS{w w':Wd}{base size:Nat}{A:OA}{n c:Nat}{xs:List Vl}(h:eY w base size A n c xs)(j:w.heap.size<=w')(f:∀g,base<=g->g<w->w'.heap[g]?=w.heap[g]?):eY w' base size A n c xs:=by
 rcases dX c with a|a
 ·subst a;exact⟨h.cb,h.le,h.max,fun h=>absurd h (by omega),h.cz⟩
 ·obtain⟨g,hA,e,-⟩:=h.room a;refine h.ij j fun d b i=>f d ?_ i;rw[hA]at b;cases b;exact e
theorem Af(s:ByteArray)(w:Wd)(hs:s.size<=1000000):Cs prog 71 #[.string s] w (xu s w):=by
 by_cases yH:400<s.size
 ·have HT:Hid (pT s):=.inl yH;have d0:decide ((400:Int)<(s.size:Int))=true:=by simp;omega
  have d0':decide (400<s.size)=true:=by simp;omega
  clear yH;go_enter func71,ntmps71;go_wp2_with fail;go_ret3;exact⟨none,0,[],0,3,rfl,⟨rfl,by simp,fun h=>by simp at h⟩,cC _ _,by simp,fun h=>by simp at h,.inr ⟨by omega,rfl,HT.out⟩⟩
 have d0:decide ((400:Int)<(s.size:Int))=false:=by simp;omega
 have d0':decide (400<s.size)=false:=by simp;omega
 go_enter func71,ntmps71;go_wp2_with fail
 go_loopw [19] (fun _ wr=>∃(a b:Nat) (pre:List Nat) (A:OA) (n c:Nat),wr.heap[w.heap.size+1]?=some (.stringIter s a)/\ui wr w.heap.size A n c 0 0 0/\S6 wr (w.heap.size+2) A n c pre/\
  pre++gw s b a=bc s/\s.size<=a+b/\n<=a/\Bl w.heap.size w wr/\w.heap.size+2<=wr.heap.size/\((A=none/\n=0/\c=0)\/0<c)) (fun _ wr=>s.size-wr.iterPos (w.heap.size+1))
 case atStart=>
  refine⟨0,s.size,[],none,0,0,?_,?_,be.nil _ _ _ _,rfl,by omega,by omega,(bR.alloc lr _).trans ((jI _ _ _).mono (by simp)),by simp[World.iter],.inl ⟨rfl,rfl,rfl⟩⟩
  ·have:=World.iter_heap (w.alloc (.cells #[.slice none 0 0,.int .i64 0,.int .i64 0,.int .i64 0] 206)) s 0
   rwa [iT]at this
  ·exact(ai.new w 206 #[.slice none 0 0,.int .i64 0,.int .i64 0,.int .i64 0]).alloc _
 case round=>
  obtain⟨a,b,pre,A,n,c,T,hR,r,hc,hb,hn,yP,hsz,hz⟩:=hrel;have HC:=ah hc;clear hc;by_cases hp:a<s.size
  ·have qK:∀J,(Instr.next (.pointer (some ⟨w.heap.size+1,0,none⟩)) true J).run prog wr=_:=fun J=>Lib.run_next_any_at wr (w.heap.size+1) s a J T hp;have hwd:=Lib.decode_width_pos s a hp;obtain⟨b,rfl⟩:∃b',b=b'+1:=⟨b-1,by omega⟩
   have HC2:Hid (pre++(Utf8.decode s a).1::gw s b (a+(Utf8.decode s a).2)=bc s):=by
    show _=_;rw[<-xi s b a hp];exact HC.out
   have yR:=Lib.iterAt_heap wr (w.heap.size+1) s a (a+(Utf8.decode s a).2) T;have yG:=fun j hj=>Lib.iterAt_other wr (w.heap.size+1) j s (a+(Utf8.decode s a).2) hj;have yU:=Lib.iterAt_size wr (w.heap.size+1) s (a+(Utf8.decode s a).2);have qH:=Lib.below_iterAt yP (k:=w.heap.size+1) (by omega) s (a+(Utf8.decode s a).2);have yJ:wr.iterPos (w.heap.size+1)=a:=by simp[World.iterPos,T]
   clear HC;generalize hx:(Utf8.decode s a).1=x at*;generalize hd:(Utf8.decode s a).2=d at*;clear hx hd;obtain⟨V,I⟩:∃V,V=wr.iterAt (w.heap.size+1) s (a+d):=⟨_,rfl⟩;rw[<-I]at qK yR yG yU qH;have uN:ui V w.heap.size A n c 0 0 0:=(yG w.heap.size (by omega)).trans hR;have hOV:S6 V (w.heap.size+2) A n c pre:=⟨r.1,jS r.2 (by omega) (fun g E q=>yG g (by omega))⟩;obtain⟨U,y⟩:∃U,U=V.alloc (.cells #[.int .i32 (x:Int)] 21):=⟨_,rfl⟩;have D:Bl V.heap.size V U:=y▸bR.alloc lr _;have sU:wH U (some ⟨V.heap.size,0,none⟩) 1 [x]:=y▸cp.new Uu V x #[.int .i32 (x:Int)] 21 rfl;have uT:U.heap.size=V.heap.size+1:=by rw[y];simp
   obtain⟨i,o,K,M,o3,b3,uX,_⟩:=dy Uu (P:=prog) U (w.heap.size+2) 204 204 21 _ 4 underlying204 Fx rfl A n c _ (hOV.ae D) (some ⟨V.heap.size,0,none⟩) 1 1 [x] sU (by simp only[maxLen];omega) (by omega) (by omega);have uP:ui K w.heap.size A n c 0 0 0:=(uN.ae D uN.lt).ae b3 (by omega);have uA:K.heap[w.heap.size+1]?=some (.stringIter s (a+d)):=(b3.block _ (by omega)).trans ((D.block _ (by omega)).trans yR);have hb3:Bl w.heap.size w K:=(qH.trans (D.mono (by omega))).trans (b3.mono (by omega));have f0:=uP.ao 0;have C:=uP.cell 0;simp at C;have cV:=uN.cell 0;simp at cV;have HRf:=ah (uP.set 0 (.slice i (n+1) o));have HO3:=ah (o3.ll (p:=⟨w.heap.size,0,none⟩) (by show w.heap.size<w.heap.size+2;omega) (.slice i (n+1) o))
   have uF:Hid ((K.setCell ⟨w.heap.size,0,none⟩ (.slice i (n+1) o)).heap[w.heap.size+1]?=some (.stringIter s (a+d))):=by
    show _=_;rw[dN K ⟨w.heap.size,0,none⟩ _ _ (by show w.heap.size+1≠w.heap.size;omega)];exact uA
   have HB3:=ah (hb3.setCell (p:=⟨w.heap.size,0,none⟩) lr (.slice i (n+1) o));have uZ:w.heap.size+2<=K.heap.size:=by have:=b3.size;omega
   rw[y]at M;have qJ:=ah M;clear M o3 sU D uP uA hb3 uN hOV r hR T yR yG qH uX y uT;have HM:=ah yJ;have qM:=ah hwd;clear I yU yJ hwd;go_wp2_with(at_builtin;refine au rfl _ _ rfl rfl rfl qJ.out ?_);refine⟨⟨a+d,b,pre++[x],i,n+1,o,uF.out,HRf.out,HO3.out,?_,by have:=qM.out;omega,by have:=qM.out;omega,HB3.out,by simpa using uZ,.inr (by have:=HO3.out.2.le;omega)⟩,?_⟩
   ·rw[fX];exact HC2.out
   ·have e1:(K.setCell ⟨w.heap.size,0,none⟩ (.slice i (n+1) o)).iterPos (w.heap.size+1)=a+d:=by simp only[World.iterPos,uF.out]
    have:=HM.out;have:=qM.out;rw[e1];omega
  ·have qK:∀J,(Instr.next (.pointer (some ⟨w.heap.size+1,0,none⟩)) true J).run prog wr=_:=fun J=>Lib.run_next_end_at wr (w.heap.size+1) s a J T hp
   obtain rfl:pre=bc s:=by
    have:=HC.out
    rwa [H9 s b a hp,fO]at this
   have hln:(bc s).length=n:=r.1;have hrl:=LT s;have uK:Hid (∀k out t p f,gD (bc s) k out->k+ck ev (bc s) k<(bc s).length->AO (bc s) (k+ck ev (bc s) k) t p f->f≠0->pT s):=fun k out t p f h1 h2 h3 h4=> .inr ⟨k,out,t,p,f,h1,h2,h3,h4⟩
   have yM:Hid (∀(A:OA) (c:Nat) (l:List Tk) (m f:Int) (W:Wd),Tks W A l.length l->Bl w.heap.size w W->l.length<=400->(0<l.length->∃g,A=some ⟨g,0,none⟩/\w.heap.size<=g)->((f=0/\s.size<=400/\(∃k,gD (bc s) k l/\k+ck ev (bc s) k=(bc s).length)/\m=((bc s).length:Int))\/(f≠0/\l=[]/\pT s))->
    xu s w (.returned (.tuple #[.slice A l.length c,.int .i64 m,.int .i64 f])) W):=fun A c l m f W h1 h2 h3 h5 h4=>⟨A,c,l,m,f,rfl,h1,h2,h3,h5,h4⟩
   obtain⟨rs,hrs⟩:∃rs,rs=bc s:=⟨_,rfl⟩;rw[<-hrs]at hln hrl uK yM r;have uB:=ah hln;have hc:=r.2.le
   have hL:(A=none/\n=0/\c=0)\/∃b off,A=some ⟨b,off,none⟩/\b≠w.heap.size/\b<wr.heap.size:=by
    rcases hz with h0|h0
    ·exact .inl h0
    ·obtain⟨g,E,hb,q,-⟩:=r.2.room h0;exact .inr ⟨g,0,E,by omega,q⟩
   have qD:=ah hR;have HRs:=ah (be.et Uu r);have HB0:=ah yP;clear hR r yP HC T hrs;go_wp2_with fail;refine(O9 _ _ _ _).mono ?_;rintro e u ⟨rfl,k1,b1⟩;have yZ:fs u (some ⟨wr.heap.size,0,none⟩) 1 [1]:=cp.ae (ip (l:=[1]) (ai.new wr 3 #[.int .i64 1]) rfl) b1;rw[iT]at k1;rw[iT];have uL:=aa ((cC wr.heap.size wr).alloc lr (.cells #[.int .i64 1] 3)) b1;have HK1:=ah k1;have HI1:=ah yZ;have HR1:=ah (qD.out.ae uL qD.out.lt);have uG:=ah (HRs.out.ae uL);have HB1:=ah (aa HB0.out uL);have HBx:=HB1;have yU:wr.heap.size+2<=u.heap.size:=by have:=k1.lt;omega
   have hL1:(A=none/\n=0/\c=0)\/∃b off,A=some ⟨b,off,none⟩/\b≠w.heap.size:=hL.imp id (fun⟨b,off,h1,h2,h3⟩=>⟨b,off,h1,h2⟩)
   have H:∀b off,A=some ⟨b,off,none⟩->b<u.heap.size/\b≠w.heap.size:=by
    intro b off z;rcases hL with⟨h1,-⟩|⟨b1,off1,h1,h2,h3⟩
    ·rw[h1]at z;cases z
    ·rw[h1]at z;cases z;exact⟨by omega,h2⟩
   clear k1 yZ uL b1 hL qD HRs HB0 hz qK;go_wp2_with fail;generalize wr.heap.size=g0 at*
   go_loopw [9] (fun X wq=>∃(k:Nat) (out:List Tk) (i:OA) (o:Nat) (Z f:Int),X=.slice i out.length o/\ui wq w.heap.size A n c (k:Int) Z f/\M3 wq u.heap.size i out.length o out/\cg w.heap.size u wq/\Bl w.heap.size w wq/\k<=n/\out.length<=n/\
    ((f=0/\gD rs k out)\/(f≠0/\pT s))) (fun _ wq=>if intOf ((wq.cell? ⟨w.heap.size,3,none⟩).getD undef)=0 then 1+n-(intOf ((wq.cell? ⟨w.heap.size,1,none⟩).getD undef)).toNat else 0)
   case atStart=>exact⟨0,[],none,0,0,0,rfl,HR1.out,be.nil _ _ _ _,cg.refl _ _,HB1.out,by omega,by simp,.inl ⟨rfl,gD.nil⟩⟩
   case round=>
    obtain⟨k,out,i,o,Z,f,rfl,hR,r,hS,hB,hk,hol,hor⟩:=hrel;have c3:=hR.cell 3;simp at c3;have Q:=ah hR;have qL:=ah r;have uI:=ah hS;have uQ:=ah hB;clear hR r hS hB;rcases hor with⟨rfl,hT⟩|⟨hne,hT⟩
    ·have uO:=ah hT;clear hT;have e1:=Ho;go_wp2_with fail;refine(Cj w.heap.size A n c rs k Z 0 212 (g0+1) ev Ho _ Q.out (uI.out.cells uG.out (fun _ b off z=>(H b off z).2)) hL1 hk (by omega) hc (fun x W hs=> ?_)).mono ?_
     ·have a2:=(uI.out.trans hs).ce HK1.out (by omega);have a3:=(uI.out.trans hs).cells HI1.out (fun _ b off z=>by cases z;omega);exact(tV (g0+1) _ 1 1 [1] x W a2.lt (a2.cell 0) a3 (by omega)).mono fun e w' ⟨h1,h2⟩=>by subst h2;exact⟨h1,cC _ _⟩
     ·rintro e v ⟨rfl,uD,uS⟩;have hsp:=Ds ev rs k (by omega);have qF:=uI.out.trans uD;have uE:=ah uS;have hO2:M3 v u.heap.size i out.length o out:=⟨qL.out.1,jS qL.out.2 uD.size (fun g E q=>uD.same g q (by omega))⟩;have uU:=ah qF;have uJ:=ah hO2;have yF:=ah (uQ.out.trans uD.du);have yY:=ah (qF.cells uG.out (fun _ b off z=>(H b off z).2));have qI:=uS.lt;have b0:Bl v.heap.size v v.drew:=bR.drew;have HRw0:=Q;clear uD uS qF hO2 qL uI uQ Q;obtain⟨p0,uY⟩:∃p0,p0=k+ck ev rs k:=⟨_,rfl⟩;rw[<-uY]at uE;have S:=ah uY
      have Y:Hid (∀w',Bl v.heap.size v w'->w'.cell? ⟨w.heap.size,0,none⟩=some (.slice A n c)/\w'.cell? ⟨w.heap.size,1,none⟩=some (.int .i64 (p0:Int))):=
       fun w' uH=>⟨by have:=(uE.out.ae uH qI).cell 0;simpa using this,by have:=(uE.out.ae uH qI).cell 1;simpa using this⟩
      have hpl:p0<=n:=by omega
      clear uY;by_cases L:p0=n
      ·have dk:((p0:Int)==(n:Int))=true:=by simp[L]
       have dk2:decide (p0=n)=true:=by simpa using L
       go_wp2_with fail;refine aw (fun w'=>Bl v.heap.size v w') (by kernel_rfl) (by kernel_rfl) b0 ?_
       repeat(first
        |(refine bF ?_ ?_
          ·rfl
          simp only[Act.put,aE,aF,aG])
        |(refine cw ?_ ?_
          ·rfl
          apply Exists.intro;refine⟨fun w' N=> ?_,?_⟩
          ·obtain⟨C,G⟩:=Y.out w' N;simp[go_sem,C,G,L]
           try rfl
          simp only[Act.put,aE,aF,aG]))
       refine bM ?_;intro w4 b4;go_wp2_with fail;refine aw (fun w'=>Bl v.heap.size v w') (by kernel_rfl) (by kernel_rfl) b4.drew ?_
       repeat(first
        |(refine bF ?_ ?_
          ·rfl
          simp only[Act.put,aE,aF,aG])
        |(refine cw ?_ ?_
          ·rfl
          apply Exists.intro;refine⟨fun w' N=> ?_,?_⟩
          ·obtain⟨C,G⟩:=Y.out w' N;simp[go_sem,C,G,L]
           try rfl
          simp only[Act.put,aE,aF,aG]))
       refine bM ?_;intro B b5;go_wp2_with fail;go_ret3;have yS:=jS uJ.out.2 b5.size (fun g E q=>b5.block g q);have htk:M3 B u.heap.size i out.length o out:=⟨uJ.out.1,yS⟩;refine yM.out i o out (n:Int) 0 B (be.et OR htk) (yF.out.trans (b5.mono (by have:=yF.out.size;exact this))) (by omega) (fun h0=> ?_) (.inl ⟨rfl,by omega,⟨k,uO.out,?_⟩,?_⟩)
       ·obtain⟨g,E,hb,-⟩:=yS.room (by have:=yS.le;omega);exact⟨g,E,by have:=HBx.out.size;omega⟩
       ·rw[<-S.out,L,uB.out]
       ·rw[uB.out]
      ·have q:p0<n:=by omega
       have dk:((p0:Int)==(n:Int))=false:=by simp;omega
       have dk2:decide (p0=n)=false:=by simpa using L
       obtain⟨b,off,rfl,hbR⟩:∃b off,A=some ⟨b,off,none⟩/\b≠w.heap.size:=by
        rcases hL1 with⟨-,h0,-⟩|h
        ·omega
        ·exact h
       have qE:=cD (H b off rfl).1 uU.out.size;go_wp2_with fail;refine aw (fun w'=>Bl v.heap.size v w') (by kernel_rfl) (by kernel_rfl) b0 ?_
       repeat(first
        |(refine bF ?_ ?_
          ·rfl
          simp only[Act.put,aE,aF,aG])
        |(refine cw ?_ ?_
          ·rfl
          apply Exists.intro;refine⟨fun w' N=> ?_,?_⟩
          ·obtain⟨C,G⟩:=Y.out w' N;simp[go_sem,C,G,L]
           try rfl
          simp only[Act.put,aE,aF,aG]))
       refine bM ?_;intro w4 b4;have HB4:=ah (uE.out.ae b4 qI);have c1w:=HB4.out.cell 1;simp at c1w;have HRs4:=ah (yY.out.ae b4);have hO4:M3 w4 u.heap.size i out.length o out:=⟨uJ.out.1,jS uJ.out.2 b4.size (fun g E q=>b4.block g q)⟩;have HO4:=ah hO4;have uM:=ah (uU.out.ae b4 (by omega));have qB:=ah (yF.out.trans (b4.mono yF.out.size));have uV:=cD qE b4.size;clear hO4 uE yY uJ uU yF b4 b0 Y;go_wp2_with fail;refine(O2 w.heap.size b off n c rs p0 Z _ HB4.out HRs4.out hbR uV q (by omega) hc).mono ?_;rintro e B ⟨t,bad',uC,p,rfl,O,qA,hN⟩;obtain⟨V,I⟩:∃V,V=B.alloc (.cells #[.int .i64 t.kd,.string t.tx,.int .i64 t.nu,.int .i64 (p0:Int)] 211):=⟨_,rfl⟩;have hVs:V.heap.size=B.heap.size+1:=by rw[I];simp
       have bV:Bl B.heap.size B V:=I▸bR.alloc lr _;obtain⟨U,y⟩:∃U,U=V.alloc (.cells #[.int .i64 t.kd,.string t.tx,.int .i64 t.nu,.int .i64 (p0:Int)] 211):=⟨_,rfl⟩;have D:Bl V.heap.size V U:=y▸bR.alloc lr _
       have sU:Tks U (some ⟨V.heap.size,0,none⟩) 1 [{t with at_:=(p0:Int)}]:=by
        rw[y];exact(cp.new OR V ({t with at_:=(p0:Int)}:Tk) #[.int .i64 t.kd,.string t.tx,.int .i64 t.nu,.int .i64 (p0:Int)] 211 rfl)
       have hO5:M3 B u.heap.size i out.length o out:=⟨HO4.out.1,jS HO4.out.2 O.size (fun g E q=>O.same g q (by omega))⟩;have R:=aa bV D;have hw15:u.heap.size<=B.heap.size:=cF uM.out.size O.size;obtain⟨A3,c3',w6,M,o6,b6,uX,_⟩:=dy OR (P:=prog) U u.heap.size 143 143 211 _ 40 underlying143 SQ rfl i out.length o _ (hO5.ae R) (some ⟨V.heap.size,0,none⟩) 1 1 [{t with at_:=(p0:Int)}] sU (by simp only[maxLen];omega) (by omega) (by have:=R.size;omega);have uR:=(qA.ae R qA.lt).ae b6 (by omega);have yT:Bl w.heap.size B w6:=(R.mono (by omega)).trans (b6.mono (by omega));have hS6:cg w.heap.size u w6:=⟨by have:=R.size;have:=b6.size;omega,fun x hx hn=>(b6.block x hx).trans ((R.block x (by omega)).trans ((O.same x (cD hx uM.out.size) hn).trans (uM.out.same x hx hn))),(uM.out.du.trans O.du).trans yT⟩;have hB6:=(qB.out.trans O.du).trans yT;have uW:=uR.cell 1;have qG:=uR.cell 3;simp at uW qG;have HR6:=ah uR;have HS6:=ah hS6;have HB6:=ah hB6;have HO6:=ah o6;have HN:=ah hN;rw[y,hVs,I]at M;have qJ:=ah M;have HC1:=ah uW;have HC3:=ah qG;have qC:=HRw0.out.cell 1;simp at qC;have HC0:=ah qC;clear M o6 sU y I hVs D bV R hO5 uX hS6 uR hB6 yT hN b6 O qA hw15 uW qG qC;go_wp2_with(at_builtin;refine au rfl _ _ rfl rfl rfl qJ.out ?_);have hle:=HN.out.cf;have hpk:uC=0->p0<p:=HN.out.more;have hlk:k<=p0:=by have:=S.out;omega
       rw[uB.out]at hle;refine⟨⟨p,out++[{t with at_:=(p0:Int)}],A3,c3',bad',uC,by simp,HR6.out,by simpa using HO6.out,HS6.out,HB6.out,hle,?_,?_⟩,?_⟩
       ·have:=(UR uO.out).1;simp only[cY,dV,iP];omega
       ·by_cases F:uC=0
        ·refine .inl ⟨F,?_⟩;have im:=gD.snoc (t:=t) (p:=p) uO.out (by rw[<-S.out,uB.out];exact q) (by rw[<-S.out,<-F];exact HN.out);rw[<-S.out]at im;exact im
        ·exact .inr ⟨F,uK.out k out t p uC uO.out (by rw[<-S.out,uB.out];exact q) (by rw[<-S.out];exact HN.out) F⟩
       ·simp only[HC1.out,HC3.out,HC0.out,c3,i8,intOf];by_cases F:uC=0
        ·have:=hpk F;simp[F];omega
        ·simp[F];omega
    ·have HTb:=ah hT;have de:(f==0)=false:=by simpa using hne
     clear hT;have b0:Bl wr.heap.size wr wr.drew:=bR.drew
     have Y:Hid (∀w',Bl wr.heap.size wr w'->w'.cell? ⟨w.heap.size,2,none⟩=some (Z:Vl)/\w'.cell? ⟨w.heap.size,3,none⟩=some (f:Vl)):=
      fun w' uH=>⟨by have:=(Q.out.ae uH Q.out.lt).cell 2;simpa using this,by have:=(Q.out.ae uH Q.out.lt).cell 3;simpa using this⟩
     go_wp2_with fail;refine aw (fun w'=>Bl wr.heap.size wr w') (by kernel_rfl) (by kernel_rfl) b0 ?_
     repeat(first
      |(refine bF ?_ ?_
        ·rfl
        simp only[Act.put,aE,aF,aG])
      |(refine cw ?_ ?_
        ·rfl
        apply Exists.intro;refine⟨fun w' N=> ?_,?_⟩
        ·obtain⟨C,G⟩:=Y.out w' N;simp[go_sem,C,G]
         try rfl
        simp only[Act.put,aE,aF,aG]))
     refine bM ?_;intro w4 b4;go_wp2_with fail;go_ret3;exact yM.out none 0 [] Z f w4 ⟨rfl,by simp,fun h=>by simp at h⟩ (uQ.out.trans (b4.mono uQ.out.size)) (by simp) (fun h=>by simp at h) (.inr ⟨hne,rfl,HTb.out⟩)
set_option maxRecDepth 512
theorem vw{x y:ByteArray}(h:x≠y):(x.toList==y.toList)=false:=by
 rw[dQ,ByteArray.toList_eq,ByteArray.toList_eq];intro e;apply h;rcases x with⟨x⟩
 rcases y with⟨y⟩;exact cO ByteArray.mk (Array.toList_inj.1 e)
theorem FV{x:Nat}(h:dv (x:Int)=2):ev x=false:=by simp[ev,h]
theorem wG(h:ki s=true):s.size<=400/\(∃x:Nat,(bc s)[0]?=some x/\dv (x:Int)=2)/\ck gS (bc s) 0+ck ev (bc s) (ck gS (bc s) 0)=(bc s).length/\CX (jO ((bc s).take (ck gS (bc s) 0)))=s:=by
 simp only[ki,cH,dA,iC]at h;obtain⟨⟨⟨h1,h2⟩,a⟩,b⟩:=h;refine⟨h1,?_,a,b⟩
 cases hr:bc s with
 |nil=>rw[hr]at h2;simp at h2
 |cons x r=>rw[hr]at h2;exact⟨x,rfl,by simpa using h2⟩
theorem P9(s:ByteArray):Am (bc s) 0=⟨1,CX (jO ((bc s).take (ck gS (bc s) 0))),0,0⟩:=rfl
theorem FP(h:ki s=true){out:List Tk}(a:gD (bc s) k out):(k=0/\out=[])\/(k=ck gS (bc s) 0/\out=[⟨1,s,0,0⟩]):=by
 obtain⟨h1,⟨x,hx,b⟩,e,f⟩:=wG h;have g:ck ev (bc s) 0=0:=vp hx (FV b)
 induction a with
 |nil=>exact .inl ⟨rfl,rfl⟩
 | @snoc k out t p a hlt hn ih=>
   rcases ih with⟨rfl,rfl⟩|⟨rfl,rfl⟩
   ·rw[g]at hn⊢;obtain⟨c,d,i⟩:=hn.word x hx b;refine .inr ⟨by simpa using d,?_⟩;rw[c,P9,f];rfl
   ·rw[e]at hlt;exact absurd hlt (Nat.lt_irrefl _)
theorem Dy(h:ki s=true):¬pT s/\∀k l,gD (bc s) k l->k+ck ev (bc s) k=(bc s).length->l=[⟨1,s,0,0⟩]:=by
 obtain⟨h1,⟨x,hx,c⟩,g,i⟩:=wG h;have b:ck ev (bc s) 0=0:=vp hx (FV c);have m:0<(bc s).length:=(cA.1 hx).1;refine⟨?_,fun k l a d=> ?_⟩
 ·rintro(j|⟨k,out,t,p,f,a,n,hn,e⟩)
  ·omega
  ·rcases FP h a with⟨rfl,rfl⟩|⟨rfl,rfl⟩
   ·rw[b]at hn;exact e (hn.word x hx c).2.2
   ·omega
 ·rcases FP h a with⟨rfl,rfl⟩|⟨rfl,rfl⟩
  ·rw[b]at d;omega
  ·rfl
theorem US(h:s.size<=400)(b:gD (bc s) k [⟨1,s,0,0⟩])(j:k+ck ev (bc s) k=(bc s).length):ki s=true:=by
 generalize hl:([⟨1,s,0,0⟩]:List Tk)=l at b
 cases b with
 |nil=>cases hl
 | @snoc k0 out t p b hlt hn=>
   cases out with
   |cons a r=>
    have:=cO List.length hl;simp at this
   |nil=>
    have n:k0=0:=by
     generalize hz:([]:List Tk)=z at b
     cases b with
     |nil=>rfl
     |snoc _ _ _=>
      have:=cO List.length hz;simp at this
    subst n;simp only[dH,List.cons.injEq,and_true]at hl;have g:t.kd=1:=by have:=cO Tk.kd hl;exact this.symm
    have d:t.tx=s:=by have:=cO Tk.tx hl;exact this.symm
    have o:(((0+ck ev (bc s) 0:Nat)):Int)=0:=by have:=cO Tk.at_ hl;exact this.symm
    have i:ck ev (bc s) 0=0:=by omega
    rw[i]at hn;obtain⟨x,hx,e⟩:=hn.only g;obtain⟨f,c,-⟩:=hn.word x hx e;rw[cR]at c;subst c;have m:(bc s).head?=some x:=by rw[List.head?_eq_getElem?];exact hx
    simp only[ki,cH,dA,iC];refine⟨⟨⟨h,by rw[m];simp[e]⟩,j⟩,?_⟩;rw[f]at d;exact d
def ng(s:ByteArray):Int:=if ki s then 0 else 50
theorem FX(s:ByteArray)(w:Wd):Cs prog 398 #[F7 ⟨1,s,0,0⟩] w (an (.string s) w):=by
 go_in;go_wp2;go_ret;exact⟨rfl,bR.alloc lr _⟩
theorem Hd(s:ByteArray)(w:Wd)(hs:s.size<=1000000):Cs prog 331 #[F7 ⟨1,s,0,0⟩] w (an (ng s:Int) w):=by
 have HW:=ah (fun W=>FX s W);have HT:=ah (fun W=>Af s W hs);have kb:=ai.new w 211 #[(1:Int),.string s,(),()];have b0:Bl w w (w.alloc (.cells #[(1:Int),.string s,(),()] 211)):=bR.alloc lr _;have L:=ah kb;have HB:=ah b0;clear kb b0;go_in;go_wp2_with fail;refine(HW _).mono ?_;rintro e w1 ⟨rfl,b1⟩;go_wp2_with fail;refine(HT _).mono ?_;rintro e w2 ⟨A,c,l,m,O,rfl,hl,b2,yU,yF,yR⟩;have Q:=(L.ae b1 L.lt).ae b2 (cD L.lt b1.size);have yT:=ah (aa (aa HB b1) b2);obtain⟨g0,g1,g2,g3⟩:=bT Q;have f3:=Q.ao 3;have yP:=ah Q;have uB:w.heap.size<w1:=cD L.lt b1.size
 have yW:Hid (0<l.length->∀b off,A=some ⟨b,off,none⟩->b≠w):=by
  show _->_;intro P b off F;obtain⟨g,hg,hb⟩:=yF P;rw[hg]at F;cases F;omega
 have yO:=(cg.set (bl:=w.heap.size) (w:=w2) 3 ()).cells hl yW;have d:=ah (yT.setCell (p:=⟨w,3,none⟩) lr ());have yQ:=ah (yP.set 3 ());have C:=ah yR;clear b1 b2 yR hl yF;go_wp2_with fail;generalize w2.setCell ⟨w,3,none⟩ ()=W at*;have D:Bl W W W.drew:=bR.drew;have R:ai W w 211 #[(1:Int),.string s,(),()]:=by have:=yQ.out;simpa using this
 have yK:Hid (∀w',Bl W W w'->w'.cell? w=some (.int .i64 1)/\w'.cell? ⟨w,1,none⟩=some (.string s)/\w'.cell? ⟨w,2,none⟩=some (():Vl)/\w'.cell? ⟨w,3,none⟩=some (():Vl)):=fun w' G=>bT (R.ae G R.lt);have yV:=ah yO;clear g0 g1 g2 g3 f3 yQ yP yT R yO;by_cases F:O=0
 ·subst F;by_cases h1:l.length=1
  ·obtain⟨t,rfl⟩:∃t,l=[t]:=by
    cases l with
    |nil=>simp at h1
    |cons a r=>
     cases r with
     |nil=>exact⟨a,rfl⟩
     |cons b q=>simp at h1
   obtain⟨b,off,hA,K,I⟩:=Cells.at_ yV (by simp);subst hA;have U:=I 0 (wF t) rfl 0 t.kd rfl;have V:=I 0 (wF t) rfl 1 (.string t.tx) rfl;have X:=I 0 (wF t) rfl 2 t.nu rfl;have Y:=I 0 (wF t) rfl 3 t.at_ rfl;simp only[rG,fU]at U V X Y
   have J:Hid (∀w',Bl W W w'->(w'.cell? w=some (.int .i64 1)/\w'.cell? ⟨w,1,none⟩=some (.string s)/\w'.cell? ⟨w,2,none⟩=some (():Vl)/\w'.cell? ⟨w,3,none⟩=some (():Vl))/\
    w'.cell? ⟨b,off,none⟩=some (t.kd:Vl)/\w'.cell? ⟨b,off+1,none⟩=some (.string t.tx)/\w'.cell? ⟨b,off+2,none⟩=some (t.nu:Vl)/\w'.cell? ⟨b,off+3,none⟩=some (t.at_:Vl)):=
    fun w' G=>⟨yK w' G,(G.cell (p:=⟨b,off,none⟩) K).trans U,(G.cell (p:=⟨b,off+1,none⟩) K).trans V,(G.cell (p:=⟨b,off+2,none⟩) K).trans X,(G.cell (p:=⟨b,off+3,none⟩) K).trans Y⟩
   obtain⟨yX,k,N,M⟩:s.size<=400/\∃k,gD (bc s) k [t]/\k+ck ev (bc s) k=(bc s).length:=by
    rcases C with⟨-,P,h,-⟩|⟨h,-⟩
    ·exact⟨P,h⟩
    ·exact absurd rfl h
   clear U V X Y I K;obtain⟨S,Z,T,yL⟩:=t;by_cases yJ:S=1/\Z=s/\T=0/\yL=0
   ·obtain⟨rfl,rfl,rfl,rfl⟩:=yJ;have v:Hid (ng Z=0):=by show _=_;rw[ng,US yX N M];rfl
    clear N M C;go_wp2_with fail;refine aw (fun w'=>Bl W W w') (by kernel_rfl) (by kernel_rfl) D ?_
    repeat(first
     |(refine bF ?_ ?_
       ·rfl
       simp only[aP])
     |(refine cw rfl ⟨?_,fun w' u=> ?_,?_⟩
       rotate_left
       ·obtain⟨⟨i,j,n,o⟩,x,y,z,B⟩:=J w' u;simp[go_sem,i,j,n,o,x,y,z,B]
        try rfl
       simp only[aP]))
    refine bM ?_;intro H f;go_wp2;go_ret;exact⟨ax v.symm,d.trans (f.mono d.size)⟩
   ·have v:Hid (ng s=50):=by
     show _=_;rw[ng,cL];intro hw;have:=(Dy hw).2 k _ N M;simp at this;exact yJ this
    clear N M C;by_cases yN:S=1
    ·subst yN;by_cases yS:Z=s
     ·subst yS;by_cases yM:T=0
      ·subst yM;have uA:yL≠0:=fun h=>yJ ⟨rfl,rfl,rfl,h⟩;have E:(yL==0)=false:=by simpa using uA
       go_wp2_with fail;refine aw (fun w'=>Bl W W w') (by kernel_rfl) (by kernel_rfl) D ?_
       repeat(first
        |(refine bF ?_ ?_
          ·rfl
          simp only[aP])
        |(refine cw rfl ⟨?_,fun w' u=> ?_,?_⟩
          rotate_left
          ·obtain⟨⟨i,j,n,o⟩,x,y,z,B⟩:=J w' u;simp[go_sem,i,j,n,o,x,y,z,B,E]
           try rfl
          simp only[aP]))
       refine bM ?_;intro H f;go_wp2;go_ret;exact⟨ax v.symm,d.trans (f.mono d.size)⟩
      ·have E:(T==0)=false:=by simpa using yM
       go_wp2_with fail;refine aw (fun w'=>Bl W W w') (by kernel_rfl) (by kernel_rfl) D ?_
       repeat(first
        |(refine bF ?_ ?_
          ·rfl
          simp only[aP])
        |(refine cw rfl ⟨?_,fun w' u=> ?_,?_⟩
          rotate_left
          ·obtain⟨⟨i,j,n,o⟩,x,y,z,B⟩:=J w' u;simp[go_sem,i,j,n,o,x,y,z,B,E]
           try rfl
          simp only[aP]))
       refine bM ?_;intro H f;go_wp2;go_ret;exact⟨ax v.symm,d.trans (f.mono d.size)⟩
     ·have E:=vw yS;go_wp2_with fail;refine aw (fun w'=>Bl W W w') (by kernel_rfl) (by kernel_rfl) D ?_
      repeat(first
       |(refine bF ?_ ?_
         ·rfl
         simp only[aP])
       |(refine cw rfl ⟨?_,fun w' u=> ?_,?_⟩
         rotate_left
         ·obtain⟨⟨i,j,n,o⟩,x,y,z,B⟩:=J w' u;simp[go_sem,i,j,n,o,x,y,z,B,E]
          try rfl
         simp only[aP]))
      refine bM ?_;intro H f;go_wp2;go_ret;exact⟨ax v.symm,d.trans (f.mono d.size)⟩
    ·have E:(S==1)=false:=by simpa using yN
     go_wp2_with fail;refine aw (fun w'=>Bl W W w') (by kernel_rfl) (by kernel_rfl) D ?_
     repeat(first
      |(refine bF ?_ ?_
        ·rfl
        simp only[aP])
      |(refine cw rfl ⟨?_,fun w' u=> ?_,?_⟩
        rotate_left
        ·obtain⟨⟨i,j,n,o⟩,x,y,z,B⟩:=J w' u;simp[go_sem,i,j,n,o,x,y,z,B,E]
         try rfl
        simp only[aP]))
     refine bM ?_;intro H f;go_wp2;go_ret;exact⟨ax v.symm,d.trans (f.mono d.size)⟩
  ·have v:Hid (ng s=50):=by
    show _=_;rw[ng,cL];intro hw;rcases C with⟨-,-,⟨k,h2,h3⟩,-⟩|⟨h,-⟩
    ·exact h1 (by rw[(Dy hw).2 k l h2 h3];rfl)
    ·exact absurd rfl h
   have dl:((l.length:Int)==1)=false:=by simp;omega
   have yZ:((l.length:Int) !=1)=true:=by simp;omega
   clear C;go_wp2_with fail;refine aw (fun w'=>Bl W W w') (by kernel_rfl) (by kernel_rfl) D ?_
   repeat(first
    |(refine bF ?_ ?_
      ·rfl
      simp only[aP])
    |(refine cw rfl ⟨?_,fun w' u=> ?_,?_⟩
      rotate_left
      ·obtain⟨i,j,n,o⟩:=yK w' u;simp[go_sem,i,j,n,o,yZ]
       try rfl
      simp only[aP]))
   refine bM ?_;intro H f;go_wp2;go_ret;exact⟨ax v.symm,d.trans (f.mono d.size)⟩
 ·have v:Hid (ng s=50):=by
   show _=_;rw[ng,cL];intro hw;rcases C with⟨h,-⟩|⟨-,-,h⟩
   ·exact F h
   ·exact(Dy hw).1 h
  have de:(O==0)=false:=by simpa using F
  have yY:(O !=0)=true:=by simpa using F
  clear C;go_wp2_with fail;refine aw (fun w'=>Bl W W w') (by kernel_rfl) (by kernel_rfl) D ?_
  repeat(first
   |(refine bF ?_ ?_
     ·rfl
     simp only[aP])
   |(refine cw rfl ⟨?_,fun w' u=> ?_,?_⟩
     rotate_left
     ·obtain⟨i,j,n,o⟩:=yK w' u;simp[go_sem,i,j,n,o,yY]
      try rfl
     simp only[aP]))
  refine bM ?_;intro H f;go_wp2;go_ret;exact⟨ax v.symm,d.trans (f.mono d.size)⟩
def m8:ByteArray:=⟨#[115,117,98,109,105,116,32,97,32,117,115,101,114,61,117,32,97,99,99,111,117,110,116,61,120,32,110,111,100,101,115,61,50,32,116,105,109,101,61,49]⟩
def jX:ByteArray:=⟨#[115,117,98,109,105,116]⟩
def ym:ByteArray:=⟨#[117,115,101,114]⟩
def lz:ByteArray:=⟨#[97,99,99,111,117,110,116]⟩
def ph:ByteArray:=⟨#[110,111,100,101,115]⟩
def sQ:ByteArray:=⟨#[116,105,109,101]⟩
def kEq(p:Int):Tk:=⟨5,⟨#[61]⟩,0,p⟩
def jt:List Tk:=[⟨1,jX,0,0⟩,⟨1,⟨#[97]⟩,0,7⟩,⟨1,ym,0,9⟩,kEq 13,⟨1,⟨#[117]⟩,0,14⟩,⟨1,lz,0,16⟩,kEq 23,⟨1,⟨#[120]⟩,0,24⟩,⟨1,ph,0,26⟩,kEq 31,⟨2,⟨#[]⟩,2,32⟩,⟨1,sQ,0,34⟩,kEq 38,⟨2,⟨#[]⟩,1,39⟩]
def G8:List Nat:=[115,117,98,109,105,116,32,97,32,117,115,101,114,61,117,32,97,99,99,111,117,110,116,61,120,32,110,111,100,101,115,61,50,32,116,105,109,101,61,49]
def lJ:List Nat:=[0,6,8,13,14,15,23,24,25,31,32,33,38,39,40]
theorem G9:bc m8=G8:=by kernel_rfl
def nxK(rs:List Nat)(k:Nat):Option (Tk×Nat):=
 match rs[k]? with
 |none=>none
 |some x=>
  if dv (x:Int)=2 then some (Am rs k,k+ck gS rs k)
  else if dv (x:Int)=3/\tB (ke dm rs k)=true/\(mu (ke dm rs k)).2=true then some (⟨2,⟨#[]⟩,(mu (ke dm rs k)).1,0⟩,k+ck dm rs k)
  else if wy x=true then some (⟨5,jO [x],0,0⟩,k+1)else none
theorem Ux{rs:List Nat}{p c:Nat}{t d:Tk}{b:Int}(h:AO rs k t p b)(e:nxK rs k=some (d,c)):t=d/\p=c/\b=0:=by
 unfold nxK at e;split at e
 ·cases e
 rename_i x hx;split at e
 ·rename_i h2;cases e;exact h.word x hx h2
 split at e
 ·rename_i a;cases e;exact h.num x hx a.1 a.2.1 a.2.2
 split at e
 ·rename_i f;cases e;exact h.sign x hx f
 ·cases e
def Tx(i:Nat):Bool:=
 match nxK G8 (lJ.getD i 0+ck ev G8 (lJ.getD i 0)),jt[i]? with
 |some (t,p),some u=>u.kd==t.kd&&decide (u.tx=t.tx)&&u.nu==t.nu&&u.at_==((lJ.getD i 0+ck ev G8 (lJ.getD i 0):Nat):Int)&&p==lJ.getD (i+1) 0
 |_,_=>false
theorem L8:(List.range 14).all Tx=true:=by kernel_rfl
theorem FI{i:Nat}(hi:i<14){t:Tk}{p:Nat}{f:Int}(h:AO G8 (lJ.getD i 0+ck ev G8 (lJ.getD i 0)) t p f):
 f=0/\p=lJ.getD (i+1) 0/\jt[i]?=some {t with at_:=((lJ.getD i 0+ck ev G8 (lJ.getD i 0):Nat):Int)}:=by
 have hs:=dC.1 L8 i (fS.2 hi);unfold Tx at hs;split at hs
 ·rename_i l k u g j;obtain⟨rfl,rfl,rfl⟩:=Ux h g;simp only[cH,iC,dA]at hs;obtain⟨⟨⟨⟨a,b⟩,c⟩,d⟩,e⟩:=hs;refine⟨rfl,e,?_⟩;rw[j,<-a,<-b,<-c,<-d]
 ·cases hs
theorem OH:lJ.getD 14 0+ck ev G8 (lJ.getD 14 0)=G8.length:=by kernel_rfl
theorem tokK{l:List Tk}(h:gD G8 k l):∃i,i<=14/\k=lJ.getD i 0/\l=jt.take i:=by
 induction h with
 |nil=>exact⟨0,by omega,rfl,rfl⟩
 | @snoc k out t p h hlt hn ih=>
   obtain⟨i,hi,rfl,rfl⟩:=ih;by_cases a:i<14
   ·obtain⟨-,rfl,ht⟩:=FI a hn;exact⟨i+1,by omega,rfl,by rw[aM ht]⟩
   ·obtain rfl:i=14:=by omega
    rw[OH]at hlt;omega
theorem PU:(List.range 14).all (fun i=>decide (lJ.getD i 0+ck ev G8 (lJ.getD i 0)<G8.length))=true:=by kernel_rfl
theorem P0{l:List Tk}(h:gD G8 k l)(b:k+ck ev G8 k=G8.length):l=jt:=by
 obtain⟨i,hi,rfl,rfl⟩:=tokK h;by_cases a:i<14
 ·have:=dC.1 PU i (fS.2 a);simp only[dA]at this;omega
 ·obtain rfl:i=14:=by omega
  rfl
theorem Mf:¬pT m8:=by
 unfold pT;rw[G9];rintro(h|⟨k,out,t,p,d,h,b,hn,c⟩)
 ·exact absurd h (by decide)
 ·obtain⟨i,hi,rfl,rfl⟩:=tokK h;by_cases a:i<14
  ·exact c (FI a hn).1
  ·obtain rfl:i=14:=by omega
   rw[OH]at b;omega
end Go.Proofs.YthfhilggbbobmaaGreatDoor
