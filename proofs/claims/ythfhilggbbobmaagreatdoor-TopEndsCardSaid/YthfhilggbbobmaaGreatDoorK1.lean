/- Parts of the proof. -/
import Derived.Test.YthfhilggbbobmaaGreatDoorProg
import GoSem.ClaimGoes
import Derived.KernelRfl
set_option linter.all false
set_option maxHeartbeats 20000000
namespace Go.Proofs.YthfhilggbbobmaaGreatDoor
open Go.Proofs.Tryz
instance:Coe Int Value:=⟨fun n=>.int .i64 n⟩
instance:Coe Nat Value:=⟨fun n=>.int .i64 n⟩
instance:Coe Bool Value:=⟨fun b=>.bool b⟩
instance:Coe Unit Value:=⟨fun _=>.int .i64 0⟩
instance:Coe Nat Addr:=⟨fun g=>⟨g,0,none⟩⟩
instance:Coe World Nat:=⟨fun w=>w.heap.size⟩
abbrev OA:=Option Addr
theorem aI{g h o q:Nat}{s t:Option Nat}(e:some (Addr.mk g o s)=some (Addr.mk h q t)):g=h:=by cases e;rfl
theorem nm{α:Type}(a:α):∃x,x=a:=⟨a,rfl⟩
theorem dF(p:Prop)[Decidable p](h:¬p):decide p=false:=decide_eq_false h
theorem dT(p:Prop)[Decidable p](h:p):decide p=true:=decide_eq_true h
theorem lr{n:Nat}:n<=n:=Nat.le_refl n
abbrev cA:=@List.getElem?_eq_some_iff
abbrev cB:=@Nat.le_refl
abbrev cD:=@Nat.lt_of_lt_of_le
abbrev cE:=@List.getElem?_eq_getElem
abbrev cF:=@Nat.le_trans
abbrev cG:=@List.mem_of_getElem?
abbrev cH:=@Bool.and_eq_true
abbrev cI:=@List.getElem_cons_zero
abbrev cJ:=@List.getElem_cons_succ
abbrev cK:=@if_pos
abbrev cL:=@if_neg
abbrev cM:=@List.getElem_toArray
abbrev cN:=@List.pairwise_iff_getElem
abbrev cO:=@congrArg
abbrev cR:=@Nat.zero_add
abbrev cS:=@List.mem_map
abbrev cT:=@List.take_length
abbrev cY:=@List.length_append
abbrev dA:=@decide_eq_true_eq
abbrev dB:=@List.length_map
abbrev dC:=@List.all_eq_true
abbrev dD:=@List.getElem?_map
abbrev dE:=@List.mem_iff_getElem?
abbrev dG:=@List.mem_append
abbrev dH:=@List.nil_append
abbrev dJ:=@List.eq_nil_of_length_eq_zero
abbrev dK:=@List.mem_cons
abbrev dO:=@List.mem_take_iff_getElem
abbrev dP:=@List.getElem?_eq_none
abbrev dQ:=@beq_eq_false_iff_ne
abbrev dR:=@List.drop_eq_getElem_cons
abbrev dS:=@decide_eq_false_iff_not
abbrev dU:=@List.getElem?_append_right
abbrev dV:=@List.length_cons
abbrev dX:=@Nat.eq_zero_or_pos
abbrev dY:=@List.pairwise_cons
abbrev fA:=@List.pairwise_append
abbrev fC:=@Array.getElem?_eq_some_iff
abbrev fD:=@List.length_take
abbrev fF:=@List.take_succ_eq_append_getElem
abbrev fG:=@List.take_of_length_le
abbrev fH:=@List.getElem?_set_self
abbrev fI:=@Option.map_some
abbrev fK:=@Nat.zero_le
abbrev fM:=@List.mem_filter
abbrev fO:=@List.append_nil
abbrev fP:=@List.mem_or_eq_of_mem_set
abbrev fQ:=@List.mem_of_find?_eq_some
abbrev fS:=@List.mem_range
abbrev fU:=@Nat.add_zero
abbrev fX:=@List.append_assoc
abbrev i5:=@Int.le_refl
abbrev i6:=@Option.map_eq_some_iff
abbrev i7:=@List.mem_iff_getElem
abbrev i8:=@Option.getD_some
abbrev i9:=@List.foldl_cons
abbrev iA:=@Int.toNat_natCast
abbrev iB:=@List.filter_append
abbrev iC:=@beq_iff_eq
abbrev iD:=@decide_eq_decide
abbrev iE:=@Nat.lt_or_ge
abbrev iF:=@List.any_eq_false
abbrev iG:=@List.setIfInBounds_toArray
abbrev iH:=@List.getElem_mem
abbrev iI:=@Option.some.injEq
abbrev iJ:=@List.pairwise_map
abbrev iK:=@List.getElem?_set_ne
abbrev iL:=@List.getElem?_append_left
abbrev iM:=@decide_eq_true_iff
abbrev iN:=@List.set_cons_zero
abbrev iO:=@List.getElem?_drop
abbrev iP:=@List.length_nil
abbrev iQ:=@List.filter_sublist
abbrev iR:=@List.take_append_drop
abbrev iS:=@Array.getElem?_toList
abbrev iV:=@Option.isNone_some
abbrev iW:=@Nat.eq_of_testBit_eq
abbrev iX:=@List.find?_eq_none
abbrev iY:=@Nat.le_of_lt
abbrev iZ:=@List.any_eq_true
abbrev l7:=@Nat.add_mul
abbrev l8:=@List.length_filter_le
abbrev l9:=@Option.isSome_iff_exists
abbrev lA:=@List.map_append
abbrev lC:=@List.set_cons_succ
abbrev lD:=@List.mem_singleton
abbrev lF:=@List.not_mem_nil
abbrev lG:=@List.mem_of_mem_take
abbrev lH:=@List.drop_length
abbrev lI:=@Int.natCast_succ
abbrev lK:=@Nat.testBit_two_pow_mul_add
abbrev lO:=@Bool.true_and
abbrev lP:=@List.foldl_append
abbrev lQ:=@List.filter_eq_self
abbrev lU:=@Nat.mul_le_mul_right
abbrev lX:=@List.getElem?_set
abbrev lY:=@List.map_cons
abbrev n8:=@Nat.not_lt_zero
abbrev nB:=@List.length_set
abbrev nC:=@List.flatMap_cons
abbrev nD:=@Bool.not_eq_true'
abbrev nF:=@List.getElem?_cons_zero
abbrev nG:=@List.drop_drop
abbrev nH:=@List.cons_append
abbrev nI:=@Bool.false_and
abbrev nK:=@Nat.mul_one
abbrev nL:=@decide_not
abbrev nM:=@Nat.lt_of_le_of_lt
abbrev nN:=@List.set_set
abbrev nO:=@List.map_map
abbrev nQ:=@Nat.min_eq_left
abbrev nR:=@List.find?_some
abbrev nS:=@Bool.eq_iff_iff
abbrev nW:=@List.set_append_right
abbrev nX:=@List.take_sublist
abbrev nY:=@List.ext_getElem?
abbrev nZ:=@List.all_eq_false
abbrev oA:=@Nat.pow_le_pow_right
abbrev oB:=@Nat.sub_self
abbrev oC:=@Array.length_toList
abbrev oD:=@Nat.add_assoc
abbrev oE:=@List.getElem?_take_of_lt
abbrev oF:=@Option.some.inj
abbrev oG:=@Nat.testBit_and
abbrev oH:=@List.findIdx_eq
abbrev oI:=@of_decide_eq_true
abbrev oJ:=@List.size_toArray
abbrev oK:=@Int.lt_or_le
abbrev oL:=@Array.getElem?_eq_none
abbrev oP:=@Array.getElem?_modify
abbrev oQ:=@bne_iff_ne
abbrev oS:=@Nat.lt_succ_self
abbrev oT:=@if_true
abbrev oU:=@Iff.rfl
abbrev oV:=@or_false
abbrev oW:=@eq_false
abbrev oX:=@List.mem_of_mem_drop
abbrev oY:=@Array.replicate_zero
abbrev rA:=@Array.replicate_succ
abbrev rC:=@Nat.two_pow_pos
abbrev rD:=@Nat.testBit_two_pow
abbrev rE:=@List.flatMap_append
abbrev rF:=@List.append_toArray
abbrev rG:=@Nat.zero_mul
abbrev rH:=@Nat.pow_succ
abbrev rK:=@and_assoc
abbrev rO:=@if_false
abbrev rP:=@Int.tdiv_eq_ediv_of_nonneg
abbrev rQ:=@Bool.false_eq_true
abbrev rS:=@Bool.and_false
abbrev rV:=@List.getLast?_eq_getElem?
abbrev rY:=@Array.getElem?_eq_getElem
abbrev sC:=@Ne.symm
abbrev sD:=@Nat.le_of_lt_succ
abbrev sE:=@List.push_toArray
abbrev sF:=@List.find?_append
abbrev sG:=@List.Sublist.refl
abbrev sI:=@Bool.false_or
abbrev bC:=Int×Int
def am(p:List bC)(t:Int):Int:=p.foldl (fun o s=>if s.1<=t then s.2 else o) 0
theorem ei(p:List bC)(s:bC)(t:Int):am (p++[s]) t=if s.1<=t then s.2 else am p t:=by simp[am,lP]
theorem kw(p q:List bC)(t:Int)(h:∀s∈q,t<s.1):am (p++q) t=am p t:=by
 unfold am;rw[lP];generalize List.foldl (fun(o:Int) (s:bC)=>if s.1<=t then s.2 else o) 0 p=o
 induction q generalizing o with
 |nil=>rfl
 |cons s r ih=>
  rw[i9,cL (by have:=h s (by simp);omega)];exact ih (fun x hx=>h x (by simp[hx])) o
theorem rp(p:List bC)(a b:Int)(h:∀s∈p,s.1<=a↔s.1<=b):am p a=am p b:=by
 unfold am;generalize(0:Int)=o
 induction p generalizing o with
 |nil=>rfl
 |cons s r ih=>
  rw[i9,i9];have hs:=h s (by simp);by_cases c:s.1<=a
  ·rw[cK c,cK (hs.1 c)];exact ih (fun x hx=>h x (by simp[hx])) _
  ·rw[cL c,cL (fun e=>c (hs.2 e))];exact ih (fun x hx=>h x (by simp[hx])) _
inductive Up:List bC->Prop
 |one (f:Int):Up [(0,f)]
 |snoc {p:List bC} {r s:bC}:Up (p++[r])->r.1<s.1->Up (p++[r]++[s])
inductive Nf:List bC->Prop
 |one (f:Int):Nf [(0,f)]
 |snoc {p:List bC} {r s:bC}:Nf (p++[r])->r.1<s.1->r.2≠s.2->Nf (p++[r]++[s])
variable{p:List bC}
theorem Nf.up(h:Nf p):Up p:=by
 induction h with
 |one f=>exact .one f
 |snoc _ h1 _ ih=>exact .snoc ih h1
theorem Up.ne(h:Up p):p≠[]:=by cases h<;>simp
theorem Up.le_last(h:Up p):∀q s,p=q++[s]->0<=s.1/\∀r∈q,r.1<s.1:=by
 induction h with
 |one f=>
  intro q s e
  obtain⟨rfl,rfl⟩:q=[]/\s=(0,f):=by
   have:=List.append_inj' (s₁:=[]) (t₁:=[(0,f)]) (s₂:=q) (t₂:=[s]) e rfl;simp at this;exact⟨this.1,this.2.symm⟩
  simp
 | @snoc p r x _ h1 ih=>
   intro q s e;obtain⟨rfl,h2⟩:=List.append_inj' (s₁:=p++[r]) (t₁:=[x]) e rfl;injection h2 with h2
   subst h2;obtain⟨c,b⟩:=ih p r rfl;refine⟨by omega,fun y a=> ?_⟩;rcases dG.1 a with a|a
   ·have:=b y a;omega
   ·simp at a;subst a;exact h1
theorem Up.zf(h:Up p):∀s∈p,0<=s.1:=by
 induction h with
 |one f=>simp
 |snoc _ h1 ih=>
  intro s hs;rcases dG.1 hs with hs|hs
  ·exact ih s hs
  ·simp at hs;subst hs;have:=ih _ (dG.2 (.inr (lD.2 rfl)));omega
theorem Up.pairwise(h:Up p):p.Pairwise (fun a b=>a.1<b.1):=by
 induction h with
 |one f=>simp
 | @snoc p r x h0 h1 ih=>
   rw[fA];refine⟨ih,by simp,fun a c b d=> ?_⟩;simp at d;subst d;rcases dG.1 c with c|c
   ·have:=(h0.le_last p r rfl).2 a c;omega
   ·simp at c;subst c;exact h1
theorem Up.head(h:Up p):∃f r,p=(0,f)::r:=by
 induction h with
 |one f=>exact⟨f,[],rfl⟩
 |snoc _ _ ih=>obtain⟨f,r,e⟩:=ih;rw[e];exact⟨f,_,rfl⟩
theorem px{α:Type}{l:List α}(h:l≠[]):∃q s,l=q++[s]:=⟨l.dropLast,l.getLast h,(List.dropLast_concat_getLast h).symm⟩
theorem qU:∀(n:Nat) (l:List bC),l.length=n->l.Pairwise (fun a b=>a.1<b.1)->(∃f r,l=(0,f)::r)->Up l:=by
 intro n
 induction n with
 |zero=>intro l c _ h;obtain⟨f,r,rfl⟩:=h;simp at c
 |succ n ih=>
  intro l c d h;obtain⟨f,r,rfl⟩:=h;by_cases j:r=[]
  ·subst j;exact .one f
  ·obtain⟨q,s,rfl⟩:=px j;have e:(0,f)::(q++[s])=((0,f)::q)++[s]:=rfl;rw[e]at d c⊢;have g:=ih ((0,f)::q) (by simpa using c) (fA.1 d).1 ⟨f,q,rfl⟩;obtain⟨m,y,i⟩:=px g.ne;have k:y.1<s.1:=(fA.1 d).2.2 y (by rw[i];simp) s (by simp);rw[i]at g⊢;exact .snoc g k
variable{s:bC}{t:Int}
theorem Up.iv{q:List bC}(h:s.1<=t):am (q++[s]) t=s.2:=by rw[ei,cK h]
theorem Up.tQ(h:Up p)(t:Int)(ht:0<=t):∃s∈p,s.1<=t/\am p t=s.2/\∀r∈p,r.1<=t->r.1<=s.1:=by
 induction h with
 |one f=>exact⟨(0,f),by simp,ht,by simp[am,ht],by simp⟩
 | @snoc p r x h0 h1 ih=>
   by_cases hx:x.1<=t
   ·refine⟨x,by simp,hx,Up.iv hx,fun y a _=> ?_⟩;rcases dG.1 a with a|a
    ·rcases dG.1 a with a|a
     ·have:=(h0.le_last p r rfl).2 y a;omega
     ·simp at a;subst a;omega
    ·simp at a;subst a;omega
   ·obtain⟨s,hs,h2,b,c⟩:=ih;refine⟨s,dG.2 (.inl hs),h2,by rw[ei,cL hx];exact b,fun y a d=> ?_⟩;rcases dG.1 a with a|a
    ·exact c y a d
    ·simp at a;subst a;omega
theorem Up.O8(h:Up p)(hs:s∈p):am p s.1=s.2:=by
 induction h with
 |one f=>simp at hs;subst hs;simp[am]
 | @snoc p r x h0 h1 ih=>
   rcases dG.1 hs with hs|hs
   ·rw[ei,cL]
    ·exact ih hs
    ·rcases dG.1 hs with hs|hs
     ·have:=(h0.le_last p r rfl).2 s hs;omega
     ·simp at hs;subst hs;omega
   ·simp at hs;subst hs;exact Up.iv (i5 _)
theorem uniq(h:Nf p):∀(q:List bC) (T:Int),Nf q->(∀s∈p,s.1<T)->(∀s∈q,s.1<T)->(∀t,0<=t->t<T->am p t=am q t)->p=q:=by
 induction h with
 |one f=>
  intro q T j e i c
  cases j with
  |one g=>
   have d:=c 0 (by omega) (e (0,f) (by simp));simp[am]at d;rw[d]
  | @snoc q r x d h1 h2=>
    exfalso;have o:=d.up.zf r (by simp);have a:=c x.1 (by omega) (i x (by simp));have b:=c (x.1-1) (by omega) (by have:=i x (by simp);omega);rw[ei,cK (i5 _)]at a;rw[ei,cL (by omega),Up.iv (by omega)]at b;simp only[am,i9,List.foldl_nil]at a b;rw[cK (by omega)]at a;rw[cK (by omega)]at b;exact h2 (by omega)
 | @snoc p r x d h1 h2 ih=>
   intro q T j e i c;have o:=d.up.zf r (by simp)
   cases j with
   |one g=>
    exfalso;have a:=c x.1 (by omega) (e x (by simp));have b:=c (x.1-1) (by omega) (by have:=e x (by simp);omega);rw[ei,cK (i5 _)]at a;rw[ei,cL (by omega),Up.iv (by omega)]at b;simp only[am,i9,List.foldl_nil]at a b;rw[cK (by omega)]at a;rw[cK (by omega)]at b;exact h2 (by omega)
   | @snoc q r' x' k0 k1 k2=>
     have w:=k0.up.zf r' (by simp);have k:=e x (by simp);have n:=i x' (by simp)
     have hx:x.1=x'.1:=by
      rcases Int.lt_trichotomy x.1 x'.1 with z|v|y
      ·exfalso;have a:=c x'.1 (by omega) n;have b:=c (x'.1-1) (by omega) (by omega);rw[ei,cK (by omega),ei,cK (i5 _)]at a;rw[ei,cK (by omega),ei,cL (by omega),Up.iv (by omega)]at b;exact k2 (by omega)
      ·exact v
      ·exfalso;have a:=c x.1 (by omega) k;have b:=c (x.1-1) (by omega) (by omega);rw[ei,cK (i5 _),ei,cK (by omega)]at a;rw[ei,cL (by omega),ei,cK (by omega),Up.iv (by omega)]at b;exact h2 (by omega)
     have l:x.2=x'.2:=by
      have a:=c x.1 (by omega) k;rw[ei,cK (i5 _),ei,cK (by omega)]at a;exact a
     have u:x=x':=Prod.ext hx l;subst u;have m:=ih (q++[r']) x.1 k0 (fun s hs=> ?_) (fun s hs=> ?_) (fun t d h1=> ?_)
     ·rw[m]
     ·rcases dG.1 hs with hs|hs
      ·have:=(d.up.le_last p r rfl).2 s hs;omega
      ·simp at hs;subst hs;exact h1
     ·rcases dG.1 hs with hs|hs
      ·have:=(k0.up.le_last q r' rfl).2 s hs;omega
      ·simp at hs;subst hs;exact k1
     ·have a:=c t d (by omega);rw[ei (p++[r]),cL (by omega),ei (q++[r']),cL (by omega)]at a;exact a
def put(l:List bC)(s:bC):List bC:=if l.getLast?.map (·.2)=some s.2 then l else l++[s]
def dd(l:List bC):List bC:=l.foldl put []
theorem mB(l:List bC)(s:bC):dd (l++[s])=put (dd l) s:=by simp[dd,lP]
theorem Fm(l:List bC)(r s:bC):put (l++[r]) s=if r.2=s.2 then l++[r]else l++[r]++[s]:=by simp[put]
theorem Q9{l:List bC}(h:Up l):∀q r,l=q++[r]->∃d x,dd l=d++[x]/\x.2=r.2/\x.1<=r.1/\Nf (d++[x])/\(∀t,am (d++[x]) t=am l t)/\∀s∈d++[x],s∈l:=by
 induction h with
 |one f=>
  intro q r e
  obtain⟨rfl,rfl⟩:q=[]/\r=(0,f):=by
   have:=List.append_inj' (s₁:=[]) (t₁:=[(0,f)]) (s₂:=q) (t₂:=[r]) e rfl;simp at this;exact⟨this.1,this.2.symm⟩
  exact⟨[],(0,f),rfl,rfl,i5 _,.one f,fun _=>rfl,fun s hs=>hs⟩
 | @snoc p r x h0 h1 ih=>
   intro q s e;obtain⟨rfl,h2⟩:=List.append_inj' (s₁:=p++[r]) (t₁:=[x]) e rfl;injection h2 with h2
   subst h2;obtain⟨d,y,i,j,k,b,c,g⟩:=ih p r rfl;rw[mB,i,Fm];by_cases a:y.2=x.2
   ·rw[cK a];refine⟨d,y,rfl,a,by omega,b,fun t=> ?_,fun s hs=>dG.2 (.inl (g s hs))⟩;rw[ei (p++[r])];split
    ·rw[Up.iv (by omega)];exact a
    ·exact c t
   ·rw[cL a];refine⟨d++[y],x,rfl,rfl,i5 _,.snoc b (by omega) a,fun t=> ?_,fun s hs=> ?_⟩
    ·rw[ei,ei (p++[r]),c t]
    ·rcases dG.1 hs with hs|hs
     ·exact dG.2 (.inl (g s hs))
     ·exact dG.2 (.inr hs)
theorem NS{l:List bC}(h:Up l):Nf (dd l)/\(∀t,am (dd l) t=am l t)/\∀s∈dd l,s∈l:=by
 obtain⟨q,r,e⟩:=px h.ne;obtain⟨d,x,h1,_,_,a,b,c⟩:=Q9 h q r e;rw[h1];exact⟨a,b,c⟩
theorem NT(h:Nf p):dd p=p:=by
 induction h with
 |one f=>rfl
 | @snoc p r x h0 h1 h2 ih=>rw[mB,ih,Fm,cL h2]
def fk(p:List bC)(a b n t:Int):Int:=am p t+if a<=t/\t<b then n else 0
def End:Int:=1000000
structure Raw(p:List bC)(a b n:Int)(raw:List bC):Prop where
 up:Up raw
 le:∀s∈raw,s.1<=End
 val:∀s∈raw,s.2=fk p a b n s.1
 has:∀s∈p,∃r∈raw,r.1=s.1
 from_:∃r∈raw,r.1=a
 to_:b<=End->∃r∈raw,r.1=b
variable{a b n:Int}
theorem Raw.am{j:List bC}(h:Raw p a b n j)(t:Int)(l:0<=t)(h1:t<=End):am j t=fk p a b n t:=by
 obtain⟨s,hs,o,hn,d⟩:=h.up.tQ t l;rw[hn,h.val s hs];unfold fk
 have k:Go.Proofs.YthfhilggbbobmaaGreatDoor.am p s.1=Go.Proofs.YthfhilggbbobmaaGreatDoor.am p t:=by
  refine rp p s.1 t (fun r m=>⟨fun h=>by omega,fun h2=> ?_⟩);obtain⟨x,hx,i⟩:=h.has r m;have:=d x hx (by omega);omega
 rw[k]
 congr 1
 have f:a<=s.1↔a<=t:=⟨fun h=>by omega,fun h2=>by obtain⟨x,hx,i⟩:=h.from_;have:=d x hx (by omega);omega⟩
 have g:s.1<b↔t<b:=by
  refine⟨fun h2=> ?_,fun h2=>by omega⟩;rcases oK t b with e|e
  ·exact e
  ·obtain⟨x,hx,i⟩:=h.to_ (by omega);have:=d x hx (by omega);omega
 by_cases c:a<=t/\t<b
 ·rw[cK c,cK ⟨f.2 c.1,g.2 c.2⟩]
 ·rw[cL c,cL (fun h=>c ⟨f.1 h.1,g.1 h.2⟩)]
theorem Raw.same{d e:List bC}(h1:Raw p a b n d)(h2:Raw p a b n e):dd d=dd e:=by
 obtain⟨f,g,h⟩:=NS h1.up;obtain⟨b1,b2,b3⟩:=NS h2.up;refine uniq f _ (End+1) b1 (fun s hs=> ?_) (fun s hs=> ?_) (fun t c ht=> ?_)
 ·have:=h1.le s (h s hs);omega
 ·have:=h2.le s (b3 s hs);omega
 ·rw[g,b2,h1.am t c (by omega),h2.am t c (by omega)]
def jG(p:List bC)(i:Nat):Bool:=
 match p[i]? with
 |none=>true
 |some s=>decide (-1000000<=s.2)&&decide (s.2<=1000000)&&decide (s.1<=1000000)&&(decide (i=0)||match p[i-1]? with
  |none=>true
  |some r=>decide (r.1<s.1)&&decide (r.2≠s.2))
def gW(p:List bC):Bool:=decide (1<=p.length)&&decide (p.length<=1000)&&decide ((p.getD 0 (1,0)).1=0)&&(List.range p.length).all (jG p)
structure Mw(p:List bC):Prop where
 nf:Nf p
 cf:p.length<=1000
 lo:∀s∈p,-1000000<=s.2
 hi:∀s∈p,s.2<=1000000
 le:∀s∈p,s.1<=End
variable{i:Nat}
theorem Iy{r:bC}(a:p[i]?=some r)(h:p[i+1]?=some s):
 jG p (i+1)=(decide (-1000000<=s.2)&&decide (s.2<=1000000)&&decide (s.1<=1000000)&&(decide (r.1<s.1)&&decide (r.2≠s.2))):=by simp[jG,h,a]
theorem GE(h:p.length=0):gW p=false:=by simp[gW,h]
theorem Kp(h:1000<p.length):gW p=false:=by
 have:=dF (p.length<=1000) (by omega);simp[gW,this]
theorem Ko(h:p[0]?=some s)(a:s.1≠0):gW p=false:=by simp[gW,h,a]
theorem mW(hi:i<p.length)(h:jG p i=false):gW p=false:=by
 have:(List.range p.length).all (jG p)=false:=by
  rw[nZ];exact⟨i,by simpa using hi,by simpa using h⟩
 simp[gW,this]
theorem Kn(h1:p.length<=1000)(h:p[0]?=some s)(b:s.1=0)(c:∀i,i<p.length->jG p i=true):gW p=true:=by
 have d:1<=p.length:=by
  rcases dX p.length with a|a
  ·rw[dP (by omega)]at h;cases h
  ·exact a
 have:(List.range p.length).all (jG p)=true:=by
  rw[dC];intro i hi;exact c i (by simpa using hi)
 simp[gW,this,h,b,h1,d]
theorem es(h:gW p=true):Mw p:=by
 simp only[gW,cH,dA,dC,fS]at h;obtain⟨⟨⟨h1,h2⟩,g⟩,n⟩:=h
 have hs:∀(i:Nat) (s:bC),p[i]?=some s-> -1000000<=s.2/\s.2<=1000000/\s.1<=1000000:=by
  intro i s hi;have:=n i (cA.1 hi).1;simp only[jG,hi,cH,dA]at this;exact⟨this.1.1.1,this.1.1.2,this.1.2⟩
 have j:∀s∈p,-1000000<=s.2/\s.2<=1000000/\s.1<=1000000:=by
  intro s v;obtain⟨i,hi⟩:=dE.1 v;exact hs i s hi
 have w:∀k,k<p.length->Nf (p.take (k+1)):=by
  intro k
  induction k with
  |zero=>
   intro _;obtain⟨s,d⟩:∃s,p[0]?=some s:=⟨_,cE (by omega)⟩;have:(p.getD 0 (1,0))=s:=by rw[List.getD_eq_getElem?_getD,d];rfl
   rw[this]at g
   have e:p.take (0+1)=[s]:=by
    cases p with
    |nil=>simp at d
    |cons x r=>simp at d;simp[d]
   rw[e];obtain⟨a,f⟩:=s;simp at g;subst g;exact .one f
  |succ k c=>
   intro o;have c:=c (by omega);obtain⟨r,q⟩:∃r,p[k]?=some r:=⟨_,cE (by omega)⟩;obtain⟨s,t⟩:∃s,p[k+1]?=some s:=⟨_,cE o⟩;have b:=n (k+1) o;rw[Iy q t]at b;simp only[cH,dA]at b
   have m:p.take (k+1)=p.take k++[r]:=by
    obtain⟨l,rfl⟩:=cA.1 q;rw[fF l]
   have u:p.take (k+1+1)=p.take (k+1)++[s]:=by
    obtain⟨l,rfl⟩:=cA.1 t;rw[fF l]
   rw[u,m];rw[m]at c;exact .snoc c b.2.1 b.2.2
 refine⟨?_,h2,fun s h=>(j s h).1,fun s h=>(j s h).2.1,fun s h=>by have:=(j s h).2.2;unfold End;omega⟩;have:=w (p.length-1) (by omega)
 rwa [fG (by omega)]at this
def ins:List Int->Int->List Int
 |[],n=>[n]
 |x::r,n=>if x<n then x::ins r n else if x=n then x::r else n::x::r
theorem tO(l:List Int)(n x:Int):x∈ins l n↔x=n\/x∈l:=by
 induction l with
 |nil=>simp[ins]
 |cons y r ih=>
  unfold ins;split
  ·simp[ih];constructor<;>(rintro(h|h|h)<;>simp[h])
  ·split
   ·rename_i h;subst h;simp
   ·simp
theorem pd(l:List Int)(n:Int)(h:l.Pairwise (·<·)):(ins l n).Pairwise (·<·):=by
 induction l with
 |nil=>simp[ins]
 |cons y r ih=>
  obtain⟨h1,h2⟩:=dY.1 h;unfold ins;split
  ·refine dY.2 ⟨fun x hx=> ?_,ih h2⟩;rcases(tO r n x).1 hx with rfl|hx
   ·assumption
   ·exact h1 x hx
  ·split
   ·exact h
   ·refine dY.2 ⟨fun x hx=> ?_,h⟩;rcases dK.1 hx with rfl|hx
    ·omega
    ·have:=h1 x hx;omega
def vu(p:List bC):List Int:=p.foldl (fun l s=>ins l s.1) []
def sw(p:List bC)(a b:Int):List Int:=if b<=End then ins (ins (vu p) a) b else ins (vu p) a
theorem zc(p:List bC)(x:Int):x∈vu p↔∃s∈p,s.1=x:=by
 unfold vu
 have:∀l:List Int,x∈p.foldl (fun l s=>ins l s.1) l↔x∈l\/∃s∈p,s.1=x:=by
  induction p with
  |nil=>simp
  |cons s r ih=>
   intro l;rw[i9,ih,tO];simp only[dK,exists_eq_or_imp];constructor
   ·rintro((h|h)|h)
    ·exact .inr (.inl h.symm)
    ·exact .inl h
    ·exact .inr (.inr h)
   ·rintro(h|h|h)
    ·exact .inl (.inr h)
    ·exact .inl (.inl h.symm)
    ·exact .inr h
 simpa using this []
theorem sx(p:List bC):(vu p).Pairwise (·<·):=by
 unfold vu
 have:∀l:List Int,l.Pairwise (·<·)->(p.foldl (fun l s=>ins l s.1) l).Pairwise (·<·):=by
  induction p with
  |nil=>simp
  |cons s r ih=>intro l a;exact ih _ (pd l s.1 a)
 exact this [] .nil
theorem uf(p:List bC)(a b:Int):(sw p a b).Pairwise (·<·):=by
 unfold sw;split
 ·exact pd _ _ (pd _ _ (sx p))
 ·exact pd _ _ (sx p)
theorem nl(p:List bC)(a b x:Int):x∈sw p a b↔x=a\/(x=b/\b<=End)\/∃s∈p,s.1=x:=by
 unfold sw;split
 ·rename_i h;rw[tO,tO,zc];simp only[h,and_true];constructor
  ·rintro(h|h|h)
   ·exact .inr (.inl h)
   ·exact .inl h
   ·exact .inr (.inr h)
  ·rintro(h|h|h)
   ·exact .inr (.inl h)
   ·exact .inl h
   ·exact .inr (.inr h)
 ·rename_i h;rw[tO,zc];simp[h]
def PD(p:List bC)(a b n:Int):List bC:=(sw p a b).map fun t=>(t,fk p a b n t)
theorem Fo(d:Mw p)(j:0<=a)(h1:a<=End)(h2:a<=b):Raw p a b n (PD p a b n):=by
 have hx:∀x∈sw p a b,0<=x/\x<=End:=by
  intro x hx;rcases(nl p a b x).1 hx with rfl|⟨rfl,h⟩|⟨s,hs,rfl⟩
  ·exact⟨j,h1⟩
  ·exact⟨by omega,h⟩
  ·exact⟨d.nf.up.zf s hs,d.le s hs⟩
 have g:∀x,x∈sw p a b->∃r∈PD p a b n,r.1=x:=fun x hx=>⟨(x,fk p a b n x),cS.2 ⟨x,hx,rfl⟩,rfl⟩;refine⟨qU _ _ rfl ?_ ?_,fun s hs=> ?_,fun s hs=> ?_,fun s hs=> ?_,?_,fun k=> ?_⟩
 ·unfold PD;rw[iJ];exact uf p a b
 ·obtain⟨f,r,e⟩:=d.nf.up.head;have c:(0:Int)∈sw p a b:=(nl p a b 0).2 (.inr (.inr ⟨(0,f),by rw[e];simp,rfl⟩));have i:=uf p a b;unfold PD
  cases hl:sw p a b with
  |nil=>rw[hl]at c;simp at c
  |cons x l=>
   rw[hl]at c i hx
   have:x=0:=by
    rcases dK.1 c with h|h
    ·exact h.symm
    ·have:=(dY.1 i).1 0 h;have:=(hx x (by simp)).1;omega
   subst this;exact⟨_,_,rfl⟩
 ·obtain⟨x,m,rfl⟩:=cS.1 hs;exact(hx x m).2
 ·obtain⟨x,_,rfl⟩:=cS.1 hs;rfl
 ·exact g _ ((nl p a b s.1).2 (.inr (.inr ⟨s,hs,rfl⟩)))
 ·exact g _ ((nl p a b a).2 (.inl rfl))
 ·exact g _ ((nl p a b b).2 (.inr (.inl ⟨rfl,k⟩)))
def um(a b n:Int):Bool:=decide (0<=a)&&decide (a<=1000000)&&decide (a<=b)&&decide (-1000000<=n)&&decide (n<=1000000)
def out(p:List bC)(a b n:Int):List bC:=dd (PD p a b n)
def add(p:List bC)(a b n:Int):List bC×Int:=
 if gW p=false then([],100)else if um a b n=false then([],2)else if gW (out p a b n)=false then([],3)else(out p a b n,0)
def ga(a b:Int)(o:Int)(s:bC):Int:=if a<s.1/\s.1<b/\s.2<o then s.2 else o
def least(p:List bC)(a b:Int):Int:=p.foldl (ga a b) (am p a)
def eE(t:Int):Bool:=decide (0<=t)&&decide (t<=1000000)
def ku(p:List bC)(a b:Int):Int:=if gW p=true/\eE a=true/\a<b then least p a b else 0
def Pl(p:List bC)(t:Int)(i:Nat):Prop:=(∃s,p[i]?=some s/\s.1<=t)/\∀j s,i<j->p[j]?=some s->t<s.1
theorem Pl.split(h:Pl p t i):∃s,p[i]?=some s/\s.1<=t/\am p t=s.2/\p=p.take i++[s]++p.drop (i+1)/\∀x∈p.drop (i+1),t<x.1:=by
 obtain⟨⟨s,hs,c⟩,d⟩:=h;have hi:=(cA.1 hs).1
 have e:p=p.take i++[s]++p.drop (i+1):=by
  obtain⟨_,rfl⟩:=cA.1 hs;rw[<-fF hi,iR]
 have a:∀x∈p.drop (i+1),t<x.1:=by
  intro x hx;obtain⟨j,b⟩:=dE.1 hx;rw[iO]at b;exact d (i+1+j) x (by omega) b
 refine⟨s,hs,c,?_,e,a⟩;rw[e,kw _ _ _ a,Up.iv c]
theorem I9(h:Nf p):∀i,dd (p.take i)=p.take i:=by
 induction h with
 |one f=>
  intro i
  cases i with
  |zero=>rfl
  |succ i=>simp[dd,put]
 | @snoc p r x h0 h1 h2 ih=>
   intro i;rcases iE i (p++[r]++[x]).length with hi|hi
   ·simp only[cY,dV,iP]at hi;rw[List.take_append_of_le_length (by simp;omega)];exact ih i
   ·rw[fG hi];exact NT (.snoc h0 h1 h2)
theorem SI(l:List bC)(s:bC):(put l s).length<=l.length+1:=by
 unfold put;split
 ·omega
 ·simp
theorem uq(l:List bC):(dd l).length<=l.length:=by
 have:∀(l a:List bC),(l.foldl put a).length<=a.length+l.length:=by
  intro l
  induction l with
  |nil=>intro a;simp
  |cons s r ih=>
   intro a;have h1:=ih (put a s);have h2:=SI a s;simp only[i9,dV];omega
 have h:=this l [];rw[iP,cR]at h;exact h
def qQ(c:List bC)(b a:Int):List bC:=
 match c with
 |[]=>if b<=End then [(b,a)]else []
 |y::r=>(if b<y.1 then [(b,a)]else [])++(y::r)
def qd(b:List bC)(x:bC)(a n:Int):List bC:=b++(if x.1<a then [x]else [])++[(a,x.2+n)]
def more(n:Int)(s:bC):bC:=(s.1,s.2+n)
theorem raw1{g c d:List bC}{x:bC}{j:Int}(o:Mw (g++[x]++c++d))(L:0<=a)(Z:a<=End)(W:a<b)(hx:x.1<=a)(E:∀s∈c,a<s.1/\s.1<b)(F:∀s∈d,b<=s.1)
 (V:∀q s,[x]++c=q++[s]->j=s.2):Raw (g++[x]++c++d) a b n (qd g x a n++c.map (more n)++qQ d b j):=by
 have O:=o.nf.up.pairwise;obtain⟨S,w,uC⟩:=fA.1 O;obtain⟨P,R,yX⟩:=fA.1 S;obtain⟨Q,_,X⟩:=fA.1 P;have C:∀s∈g,s.1<x.1:=fun s hs=>X s hs x (by simp);have m:∀s,s∈g++[x]++c++d↔s∈g\/s=x\/s∈c\/s∈d:=by intro s;simp
 have A:∀s,s∈g++[x]++c++d->am (g++[x]++c++d) s.1=s.2:=fun s hs=>o.nf.up.O8 hs;have D:=o.le;have I:=o.nf.up.zf
 have J:(∀s∈d,b<s.1)->am (g++[x]++c++d) b=j:=by
  intro h2;rw[kw _ _ _ h2];obtain⟨q,s,e⟩:=px (show [x]++c≠[] by simp)
  have hs:s.1<=b:=by
   have:s∈[x]++c:=by rw[e];simp
   rcases dG.1 this with h|h
   ·simp at h;subst h;omega
   ·have:=E s h;omega
  have K:g++[x]++c=(g++q)++[s]:=by rw[fX,e,fX]
  rw[K,Up.iv hs];exact(V q s e).symm
 have Y:am (g++[x]++c++d) a=x.2:=by
  rw[fX,kw _ (c++d) a (fun s hs=>by
   rcases dG.1 hs with h|h
   ·exact(E s h).1
   ·have:=F s h;omega),Up.iv hx]
 have v:∀s∈qQ d b j,b<=s.1/\s.1<=End/\s.2=am (g++[x]++c++d) s.1:=by
  intro s hs;unfold qQ at hs;split at hs
  ·split at hs
   ·simp at hs;subst hs;exact⟨i5 _,by assumption,(J (by simp)).symm⟩
   ·simp at hs
  ·rename_i y r;rcases dG.1 hs with h|h
   ·split at h
    ·rename_i p;simp at h;subst h;have uD:=D y ((m y).2 (.inr (.inr (.inr (by simp)))));refine⟨i5 _,by show b<=End;omega,(J (fun z l=> ?_)).symm⟩;rcases dK.1 l with rfl|l
     ·exact p
     ·have:=(dY.1 w).1 z l;omega
    ·simp at h
   ·exact⟨F s h,D s ((m s).2 (.inr (.inr (.inr h)))),(A s ((m s).2 (.inr (.inr (.inr h))))).symm⟩
 have U:(qQ d b j).Pairwise (fun a b=>a.1<b.1):=by
  unfold qQ;split
  ·split<;>simp
  ·rename_i y r;split
   ·rename_i p;refine dY.2 ⟨fun z l=> ?_,w⟩;rcases dK.1 l with rfl|l
    ·exact p
    ·have:=(dY.1 w).1 z l;show b<z.1;omega
   ·exact w
 have u:∀s∈qd g x a n,s.1<=a/\0<=s.1/\s.2=fk (g++[x]++c++d) a b n s.1:=by
  intro s hs;unfold qd at hs;rcases dG.1 hs with hs|hs
  ·rcases dG.1 hs with hs|hs
   ·have h1:=C s hs;have h2:=(m s).2 (.inl hs);refine⟨by omega,I s h2,?_⟩;rw[fk,A s h2,cL (by omega),Int.add_zero]
   ·split at hs
    ·simp at hs;subst hs;have h2:=(m s).2 (.inr (.inl rfl));refine⟨hx,I s h2,?_⟩;rw[fk,A s h2,cL (by omega),Int.add_zero]
    ·simp at hs
  ·simp at hs;subst hs;refine⟨i5 _,L,?_⟩;show x.2+n=fk _ a b n a;rw[fk,Y,cK ⟨i5 _,W⟩]
 have B:∀s∈c.map (more n),a<s.1/\s.1<b/\s.1<=End/\s.2=fk (g++[x]++c++d) a b n s.1:=by
  intro s hs;obtain⟨y,H,rfl⟩:=cS.1 hs;have h2:=(m y).2 (.inr (.inr (.inl H)));obtain⟨t,G⟩:=E y H;refine⟨t,G,D y h2,?_⟩;show y.2+n=fk _ a b n y.1;rw[fk,A y h2,cK ⟨by omega,G⟩]
 have k:∀s,s∈qd g x a n++c.map (more n)++qQ d b j↔s∈qd g x a n\/s∈c.map (more n)\/s∈qQ d b j:=by intro s;simp
 refine⟨qU _ _ rfl ?_ ?_,fun s hs=> ?_,fun s hs=> ?_,fun s hs=> ?_,?_,fun M=> ?_⟩
 ·rw[fA,fA];refine⟨⟨?_,?_,fun s hs r i=> ?_⟩,U,fun s hs r i=> ?_⟩
  ·unfold qd;rw[fA,fA];refine⟨⟨Q,by split<;>simp,fun s hs r i=> ?_⟩,by simp,fun s hs r i=> ?_⟩
   ·split at i
    ·simp at i;subst i;exact C s hs
    ·simp at i
   ·simp at i;subst i;rcases dG.1 hs with hs|hs
    ·have:=C s hs;show s.1<a;omega
    ·split at hs
     ·simp at hs;subst hs;assumption
     ·simp at hs
  ·rw[iJ];exact R
  ·have:=(u s hs).1;have:=(B r i).1;omega
  ·have t:=(v r i).1;rcases dG.1 hs with hs|hs
   ·have:=(u s hs).1;omega
   ·have:=(B s hs).2.1;omega
 ·obtain⟨f,r,e⟩:=o.nf.up.head;unfold qd
  cases g with
  |nil=>
   simp only[dH,nH,List.cons.injEq]at e;obtain⟨rfl,_⟩:=e;by_cases N:(0:Int)<a
   ·rw[cK N];exact⟨_,_,rfl⟩
   ·obtain rfl:a=0:=by omega
    rw[cL (by simp)];exact⟨_,_,rfl⟩
  |cons z q=>
   simp only[nH,List.cons.injEq]at e;obtain⟨rfl,_⟩:=e;exact⟨f,_,rfl⟩
 ·rcases(k s).1 hs with h|h|h
  ·have:=(u s h).1;omega
  ·exact(B s h).2.2.1
  ·exact(v s h).2.1
 ·rcases(k s).1 hs with h|h|h
  ·exact(u s h).2.2
  ·exact(B s h).2.2.2
  ·obtain⟨h1,_,t⟩:=v s h;rw[fk,<-t,cL (by omega),Int.add_zero]
 ·rcases(m s).1 hs with h|rfl|h|h
  ·exact⟨s,(k s).2 (.inl (dG.2 (.inl (dG.2 (.inl h))))),rfl⟩
  ·by_cases T:s.1<a
   ·exact⟨s,(k s).2 (.inl (dG.2 (.inl (dG.2 (.inr (by rw[cK T];simp)))))),rfl⟩
   ·exact⟨(a,s.2+n),(k _).2 (.inl (dG.2 (.inr (by simp)))),by show a=s.1;omega⟩
  ·exact⟨more n s,(k _).2 (.inr (.inl (cS.2 ⟨s,h,rfl⟩))),rfl⟩
  ·refine⟨s,(k _).2 (.inr (.inr ?_)),rfl⟩;unfold qQ;split
   ·simp at h
   ·exact dG.2 (.inr h)
 ·exact⟨(a,x.2+n),(k _).2 (.inl (dG.2 (.inr (by simp)))),rfl⟩
 ·unfold qQ at k v⊢
  cases d with
  |nil=>exact⟨(b,j),by simp[M],rfl⟩
  |cons y r=>
   by_cases p:b<y.1
   ·exact⟨(b,j),by simp[p],rfl⟩
   ·have:=F y (by simp);exact⟨y,by simp,by omega⟩
theorem Ps(c:Mw p)(b:0<=a)(h1:a<=End):out p a a n=p:=by
 have d:=Fo c (n:=n) b h1 (i5 a);obtain⟨b1,b2,b3⟩:=NS d.up;refine uniq b1 p (End+1) c.nf (fun s hs=> ?_) (fun s hs=> ?_) (fun t b ht=> ?_)
 ·have:=d.le s (b3 s hs);omega
 ·have:=c.le s hs;omega
 ·rw[b2,d.am t b (by omega),fk,cL (by omega),Int.add_zero]
theorem Pr{e c d:List bC}{x:bC}{i:Int}(h:Mw (e++[x]++c++d))(f:0<=a)(g:a<=End)(m:a<b)(hx:x.1<=a)(j:∀s∈c,a<s.1/\s.1<b)(l:∀s∈d,b<=s.1)
 (k:∀q s,[x]++c=q++[s]->i=s.2):dd (qd e x a n++c.map (more n)++qQ d b i)=out (e++[x]++c++d) a b n:=
 Raw.same (raw1 h f g m hx j l k) (Fo h f g (by omega))
structure Args(a b n:Int):Prop where
 a0:0<=a
 a1:a<=End
 ab:a<=b
 n0: -1000000<=n
 n1:n<=1000000
theorem QP(h:um a b n=true):Args a b n:=by
 simp only[um,cH,dA]at h;exact⟨h.1.1.1.1,by unfold End;omega,h.1.1.2,h.1.2,h.2⟩
theorem M9(h:(add p a b n).2=0):Mw p/\Args a b n/\Mw (out p a b n)/\add p a b n=(out p a b n,0):=by
 unfold add at h⊢;split at h
 ·cases h
 ·rename_i h1;split at h
  ·cases h
  ·rename_i h2;split at h
   ·cases h
   ·rename_i c;rw[cL h1,cL h2,cL c];exact⟨es (by simpa using h1),QP (by simpa using h2),es (by simpa using c),rfl⟩
theorem Jp(a b:Int):∀(l:List bC) (o:Int),l.foldl (ga a b) o<=o/\(∀s∈l,a<s.1->s.1<b->l.foldl (ga a b) o<=s.2)/\(l.foldl (ga a b) o=o\/∃s∈l,a<s.1/\s.1<b/\l.foldl (ga a b) o=s.2):=by
 intro l
 induction l with
 |nil=>intro o;simp
 |cons x r ih=>
  intro o;rw[i9];obtain⟨h1,h2,c⟩:=ih (ga a b o x)
  have hx:ga a b o x<=o/\(a<x.1->x.1<b->ga a b o x<=x.2)/\(ga a b o x=o\/(a<x.1/\x.1<b/\ga a b o x=x.2)):=by
   unfold ga;split
   ·rename_i d;exact⟨by omega,fun _ _=>i5 _,.inr ⟨d.1,d.2.1,rfl⟩⟩
   ·rename_i d;exact⟨i5 _,fun g1 g2=>by rcases oK x.2 o with h|h;exact absurd ⟨g1,g2,h⟩ d;exact h,.inl rfl⟩
  refine⟨by omega,fun s hs g1 g2=> ?_,?_⟩
  ·rcases dK.1 hs with rfl|hs
   ·have:=hx.2.1 g1 g2;omega
   ·exact h2 s hs g1 g2
  ·rcases c with c|⟨s,hs,g1,g2,g3⟩
   ·rcases hx.2.2 with e|⟨g1,g2,g3⟩
    ·exact .inl (c.trans e)
    ·exact .inr ⟨x,by simp,g1,g2,c.trans g3⟩
   ·exact .inr ⟨s,by simp[hs],g1,g2,g3⟩
theorem least_le(d:Up p)(i:0<=a)(h1:a<=t)(h2:t<b):least p a b<=am p t:=by
 obtain⟨f,g,_⟩:=Jp a b p (am p a);obtain⟨s,hs,k,hn,c⟩:=d.tQ t (by omega);rw[hn];by_cases j:s.1<=a
 ·have:am p t=am p a:=(rp p a t (fun r e=>⟨fun h=>by omega,fun h=>by have:=c r e h;omega⟩)).symm;rw[hn]at this;rw[this];exact f
 ·exact g s hs (by omega) (by omega)
theorem Li(c:Up p)(a b:Int):least p a b=am p a\/∃s∈p,a<=s.1/\s.1<b/\am p s.1=least p a b:=by
 obtain⟨_,_,d⟩:=Jp a b p (am p a);rcases d with h|⟨s,hs,g1,g2,g3⟩
 ·exact .inl h
 ·exact .inr ⟨s,hs,by omega,g2,by rw[c.O8 hs];exact g3.symm⟩
structure Bk where
 id:Int
 fr:Int
 to:Int
 nd:Int
deriving DecidableEq
def mD(b:Bk):Bool:=decide (1<=b.id)&&decide (b.id<=99999)&&decide (0<=b.fr)&&decide (b.fr<b.to)&&decide (b.to<=1000000)&&decide (1<=b.nd)&&decide (b.nd<=48)
theorem En{b:Bk}:mD b=true↔(1<=b.id/\b.id<=99999/\0<=b.fr/\b.fr<b.to/\b.to<=1000000/\1<=b.nd/\b.nd<=48):=by
 simp only[mD,cH,dA];constructor
 ·rintro⟨⟨⟨⟨⟨⟨h1,h2⟩,a⟩,c⟩,d⟩,e⟩,f⟩;exact⟨h1,h2,a,c,d,e,f⟩
 ·rintro⟨h1,h2,a,c,d,e,f⟩;exact⟨⟨⟨⟨⟨⟨h1,h2⟩,a⟩,c⟩,d⟩,e⟩,f⟩
def okB(l:List Bk)(k:Nat):Bool:=
 match l[k]? with
 |none=>false
 |some b=>mD b&&(match k with|0=>true|j+1=>match l[j]? with|none=>false|some a=>decide (a.id<b.id))
def Ap(l:List Bk):Bool:=decide (l.length<=8)&&(List.range l.length).all (okB l)
def Kq(l:List Bk):Int:=if Ap l then 0 else 190
variable{l:List Bk}
theorem D3(h:Ap l=true):Kq l=0:=by simp[Kq,h]
theorem CB(h:Ap l=false):Kq l=190:=by simp[Kq,h]
theorem E6{b:Bk}(h:l[0]?=some b):okB l 0=mD b:=by simp[okB,h]
theorem tW{k:Nat}{a b:Bk}(c:l[k]?=some a)(h:l[k+1]?=some b):okB l (k+1)=(mD b&&decide (a.id<b.id)):=by simp[okB,h,c]
theorem I7(h1:l.length<=8)(h:∀j,j<l.length->okB l j=true):Ap l=true:=by
 simp only[Ap,cH,dA,dC,fS];exact⟨h1,h⟩
theorem NE(h:8<l.length):Ap l=false:=by
 have:=dF (l.length<=8) (by omega);simp[Ap,this]
theorem Q0{k:Nat}(a:k<l.length)(h:okB l k=false):Ap l=false:=by
 cases hc:Ap l
 ·rfl
 ·simp only[Ap,cH,dA,dC,fS]at hc;rw[hc.2 k a]at h;cases h
structure Ok(l:List Bk):Prop where
 cf:l.length<=8
 m6:∀b∈l,mD b=true
 up:l.Pairwise (fun a b=>a.id<b.id)
theorem nq:∀(l:List Bk),(∀k a b,l[k]?=some a->l[k+1]?=some b->a.id<b.id)->l.Pairwise (fun a b=>a.id<b.id)
 |[],_=>List.Pairwise.nil
 |[x],_=>List.pairwise_singleton _ _
 |x::y::r,h=>by
  have d:=nq (y::r) (fun k a b e f=>h (k+1) a b (by simpa using e) (by simpa using f));refine dY.2 ⟨fun z c=> ?_,d⟩;have g:x.id<y.id:=h 0 x y rfl rfl;rcases dK.1 c with rfl|c
  ·exact g
  ·have:=(dY.1 d).1 z c;omega
theorem NF(h:Ap l=true):Ok l:=by
 simp only[Ap,cH,dA,dC,fS]at h;obtain⟨h1,h2⟩:=h;refine⟨h1,fun b c=> ?_,nq l fun k a b e c=> ?_⟩
 ·obtain⟨k,d⟩:=dE.1 c;have:=h2 k (cA.1 d).1;simp only[okB,d,cH]at this;exact this.1
 ·have:=h2 (k+1) (cA.1 c).1;rw[tW e c,cH,dA]at this;exact this.2
theorem Uz(h:Ok l):Ap l=true:=by
 refine I7 h.cf fun j a=> ?_;have b:=cE a;have c:=h.m6 _ (iH a)
 cases j with
 |zero=>rw[E6 b];exact c
 |succ j=>
  have d:=cE (show j<l.length by omega);rw[tW d b,c,lO,dA];exact cN.1 h.up j (j+1) (by omega) a (by omega)
theorem Ok.sub{m:List Bk}(h:Ok l)(hs:m.Sublist l):Ok m:=⟨by have:=hs.length_le;have:=h.cf;omega,fun b a=>h.m6 b (hs.subset a),h.up.sublist hs⟩
def iw(l:List Bk)(am:Int):List Bk:=if Ap l=false then []else l.filter (fun b=>decide (am<b.to))
def pV(long ag:Int):Bool:=decide (1<=ag)&&decide (ag<=1000000)&&decide (1<=long)&&decide (long<=1000000)
def atB(t long:Int):Bool:=decide (0<=t)&&decide (t<=1000000-long)
def fj(p:List bC)(t long ag:Int):Bool:=gW p&&pV long ag&&atB t long&&decide (ag<=least p t (t+long))
variable{long ag:Int}
theorem kH:pV long ag=true↔(1<=ag/\ag<=1000000/\1<=long/\long<=1000000):=by simp[pV];constructor<;>(intro h;omega)
theorem Nk:atB t long=true↔(0<=t/\t<=1000000-long):=by simp[atB]
def Room(p:List bC)(t long ag:Int):Prop:=∀x,t<=x->x<t+long->ag<=am p x
theorem EO(a:Up p)(b:0<=t)(c:1<=long):ag<=least p t (t+long)↔Room p t long ag:=by
 constructor
 ·intro h x h1 h2;have:=least_le a b h1 h2;omega
 ·intro h;rcases Li a t (t+long)with e|⟨s,hs,g1,g2,g3⟩
  ·rw[e];exact h t (i5 _) (by omega)
  ·rw[<-g3];exact h s.1 g1 g2
theorem kf(b:gW p=true)(c:pV long ag=true):fj p t long ag=true↔(0<=t/\t<=1000000-long/\Room p t long ag):=by
 obtain⟨_,_,d,_⟩:=kH.1 c;simp only[fj,b,c,lO,cH,dA,Nk];constructor
 ·rintro⟨⟨a,h1⟩,h2⟩;exact⟨a,h1,(EO (es b).nf.up a d).1 h2⟩
 ·rintro⟨a,h1,h2⟩;exact⟨⟨a,h1⟩,(EO (es b).nf.up a d).2 h2⟩
theorem tF(h:fj p t long ag=true):gW p=true/\pV long ag=true:=by
 simp only[fj,cH]at h;exact⟨h.1.1.1,h.1.1.2⟩
def IsE(p:List bC)(f long ag:Int):Option Int->Prop
 |some x=>f<=x/\fj p x long ag=true/\∀y,f<=y->y<x->fj p y long ag=false
 |none=>∀y,f<=y->fj p y long ag=false
variable{f:Int}
theorem tJ{o o':Option Int}(h:IsE p f long ag o)(a:IsE p f long ag o'):o=o':=by
 cases o with
 |none=>
  cases o' with
  |none=>rfl
  |some x=>have:=h x a.1;rw[a.2.1]at this;cases this
 |some x=>
  cases o' with
  |none=>have:=a x h.1;rw[h.2.1]at this;cases this
  |some x'=>
   rcases Int.lt_trichotomy x x' with d|b|c
   ·have:=a.2.2 x h.1 d;rw[h.2.1]at this;cases this
   ·rw[b]
   ·have:=h.2.2 x' a.1 c;rw[a.2.1]at this;cases this
def uv(p:List bC)(f0 long ag:Int):Option Int:=
 if fj p (max f0 0) long ag=true then some (max f0 0)else(p.find? fun s=>decide (max f0 0<s.1)&&fj p s.1 long ag).map (·.1)
theorem Fu(d:Up p){y:Int}(j:0<=f)(g:f<=y)(l:1<=long)(h:Room p y long ag):∃x,f<=x/\x<=y/\(x=f\/∃s∈p,s.1=x)/\Room p x long ag/\(x=f->True):=by
 obtain⟨s,hs,i,hn,c⟩:=d.tQ y (by omega);by_cases k:s.1<=f
 ·refine⟨f,i5 _,g,.inl rfl,fun t h1 h2=> ?_,fun _=>trivial⟩;rcases oK t y with a|a
  ·have e:am p t=am p y:=rp p t y (fun r b=>⟨fun h=>by omega,fun h=>by have:=c r b h;omega⟩);rw[e];exact h y (i5 _) (by omega)
  ·exact h t a (by omega)
 ·refine⟨s.1,by omega,i,.inr ⟨s,hs,rfl⟩,fun t h1 h2=> ?_,fun _=>trivial⟩;rcases oK t y with a|a
  ·have e:am p t=am p y:=rp p t y (fun r b=>⟨fun h=>by omega,fun h=>by have:=c r b h;omega⟩);rw[e];exact h y (i5 _) (by omega)
  ·exact h t a (by omega)
theorem tC(p:List bC)(f0 long ag:Int):IsE p (max f0 0) long ag (uv p f0 long ag):=by
 have t:0<=max f0 0:=by omega
 generalize hf:max f0 0=f at*;unfold uv;rw[hf];by_cases h1:fj p f long ag=true
 ·rw[cK h1];exact⟨i5 _,h1,fun y h2 v=>by omega⟩
 ·rw[cL h1]
  have k:∀y,f<=y->fj p y long ag=true->∃s∈p,f<s.1/\s.1<=y/\fj p s.1 long ag=true:=by
   intro y b j;obtain⟨a,e⟩:=tF j;obtain⟨u,g1,g2⟩:=(kf a e).1 j;obtain⟨_,_,n,_⟩:=kH.1 e;obtain⟨x,c,g,i,o,_⟩:=Fu (es a).nf.up t b n g2;have d:fj p x long ag=true:=(kf a e).2 ⟨by omega,by omega,o⟩;rcases i with rfl|⟨s,hs,rfl⟩
   ·exact absurd d h1
   ·refine⟨s,hs,?_,g,d⟩;rcases oK f s.1 with h|h
    ·exact h
    ·have:s.1=f:=by omega
     rw[this]at d;exact absurd d h1
  cases hfd:p.find? fun s=>decide (f<s.1)&&fj p s.1 long ag with
  |none=>
   rw[iX]at hfd;show∀y,_;intro y b;cases hb:fj p y long ag
   ·rfl
   ·obtain⟨s,hs,c,_,i⟩:=k y b hb;exact absurd (by simp[c,i]) (hfd s hs)
  |some s=>
   obtain⟨c,w,z,q,g⟩:=List.find?_eq_some_iff_append.1 hfd;simp only[cH,dA]at c;refine⟨by show f<=s.1;omega,c.2,fun y b r=> ?_⟩;cases hb:fj p y long ag
   ·rfl
   ·exfalso;obtain⟨s',l,g1,g2,g3⟩:=k y b hb;obtain⟨a,_⟩:=tF hb;have m:=(es a).nf.up.pairwise;rw[q]at l m;have A:y<s.1:=r;rcases dG.1 l with h|h
    ·have:=g s' h;simp[g1,g3]at this
    ·rcases dK.1 h with rfl|h
     ·omega
     ·have:=(dY.1 (fA.1 m).2.1).1 s' h;omega
structure pU(p:List bC)(f long ag t:Int)(i:Nat):Prop where
 le:f<=t
 none:∀y,f<=y->y<t->¬Room p y long ag
 UI:∀j s,j<i->p[j]?=some s->ag<=s.2\/∃r,p[j+1]?=some r/\r.1<=t
theorem IB(b:Up p)(h:pU p f long ag t i)(l:0<=t)(n:1<=long)(hi:∀j s,i<=j->p[j]?=some s->t+long<=s.1):Room p t long ag:=by
 intro x h1 h2;obtain⟨s,hs,q,hn,e⟩:=b.tQ x (by omega);rw[hn];obtain⟨j,a⟩:=dE.1 hs;rcases iE j i with g|k
 ·rcases h.UI j s g a with d|⟨r,c,o⟩
  ·exact d
  ·exfalso;have m:=e r (cG c) (by omega);obtain⟨g1,rfl⟩:=cA.1 a;obtain⟨g2,rfl⟩:=cA.1 c;have:=cN.1 b.pairwise j (j+1) g1 g2 (by omega);omega
 ·have:=hi j s k a;omega
theorem FR(c:Up p)(h:pU p f long ag t i)(o:0<=t)(u:1<=long)(hs:p[i]?=some s)(x:s.1<t+long)(w:s.2<ag)(y:Int)(v:t<=y)(hn:∀r,p[i+1]?=some r->y<r.1):¬Room p y long ag:=by
 intro k
 have m:Pl p (max y s.1) i:=by
  refine⟨⟨s,hs,by omega⟩,fun j r q l=> ?_⟩;obtain⟨d,n⟩:=cA.1 hs;obtain⟨g1,rfl⟩:=cA.1 l;have h1:=hn _ (cE (show i+1<p.length by omega))
  have h2:p[i+1].1<=p[j].1:=by
   rcases iE (i+1) j with b|b
   ·have:=cN.1 c.pairwise (i+1) j (by omega) g1 b;omega
   ·have:j=i+1:=by omega
    subst this;omega
  have g:=cN.1 c.pairwise i (i+1) d (by omega) (by omega);rw[n]at g;omega
 obtain⟨s',a,_,e,_⟩:=m.split;rw[hs]at a;injection a with a;subst a;have:=k (max y s.1) (by omega) (by omega);omega
theorem vz(k:Up p){r:bC}(h:pU p f long ag t i)(e:0<=t)(g:1<=long)(hs:p[i]?=some s)(m:s.1<t+long)(l:s.2<ag)(d:p[i+1]?=some r)(q:t<r.1):pU p f long ag r.1 (i+1):=by
 refine⟨by have:=h.le;omega,fun y h1 h2=> ?_,fun j x o hx=> ?_⟩
 ·rcases oK y t with b|b
  ·exact h.none y h1 b
  ·exact FR k h e g hs m l y b (fun r' a=>by rw[d]at a;injection a with a;subst a;exact h2)
 ·rcases iE j i with c|c
  ·rcases h.UI j x c hx with b|⟨r',a,n⟩
   ·exact .inl b
   ·exact .inr ⟨r',a,by omega⟩
  ·obtain rfl:j=i:=by omega
   exact .inr ⟨r,d,i5 _⟩
theorem ln(h:pU p f long ag t i)(hs:p[i]?=some s)(b:ag<=s.2\/∃r,p[i+1]?=some r/\r.1<=t):pU p f long ag t (i+1):=by
 refine⟨h.le,h.none,fun j x c hx=> ?_⟩;rcases iE j i with a|a
 ·exact h.UI j x a hx
 ·obtain rfl:j=i:=by omega
  rw[hs]at hx;injection hx with hx
  subst hx;exact b
theorem tb(p:List bC)(f long ag:Int):pU p f long ag f 0:=⟨i5 _,fun y h1 h2=>by omega,fun j s a=>by omega⟩
variable{f0:Int}
theorem nP(b:gW p=true)(a:pV long ag=true)(h:pU p (max f0 0) long ag t i)(ht:t<=1000000-long)(hi:∀j s,i<=j->p[j]?=some s->t+long<=s.1):uv p f0 long ag=some t:=by
 obtain⟨_,_,d,_⟩:=kH.1 a;have c:0<=t:=by have:=h.le;omega
 refine tJ (tC p f0 long ag) ⟨h.le,(kf b a).2 ⟨c,ht,IB (es b).nf.up h c d hi⟩,fun y h1 h2=> ?_⟩;cases hb:fj p y long ag
 ·rfl
 ·exact absurd ((kf b a).1 hb).2.2 (h.none y h1 h2)
theorem vy(b:gW p=true)(a:pV long ag=true)(h:pU p (max f0 0) long ag t i)(ht:1000000-long<t):uv p f0 long ag=none:=by
 refine tJ (tC p f0 long ag) (o':=none) (fun y h1=> ?_);cases hb:fj p y long ag
 ·rfl
 ·obtain⟨_,g1,g2⟩:=(kf b a).1 hb;exact absurd g2 (h.none y h1 (by omega))
theorem vx(c:gW p=true)(b:pV long ag=true)(h:pU p (max f0 0) long ag t i)(hs:p[i]?=some s)(k:s.1<t+long)(g:s.2<ag)(f:p[i+1]?=none):uv p f0 long ag=none:=by
 obtain⟨_,_,j,_⟩:=kH.1 b;have e:0<=t:=by have:=h.le;omega
 refine tJ (tC p f0 long ag) (o':=none) (fun y h1=> ?_);cases hb:fj p y long ag
 ·rfl
 ·obtain⟨_,g1,g2⟩:=(kf c b).1 hb;rcases oK y t with a|a
  ·exact absurd g2 (h.none y h1 a)
  ·exact absurd g2 (FR (es c).nf.up h e j hs k g y a (fun r d=>by rw[f]at d;cases d))
theorem Jf(h:gW p=false\/pV long ag=false):uv p f0 long ag=none:=by
 refine tJ (tC p f0 long ag) (o':=none) (fun y _=> ?_);rcases h with h|h<;>simp[fj,h]
open Go renaming Program->Pg
open Go
theorem O4:prog.funcs.any Func.goes=false:=by kernel_rfl
theorem vW{P:Pg}(h:P.funcs.any Func.goes=false)(f:FuncId):P.goes f=false:=by
 unfold Program.goes;rw[h,rS,Bool.or_false,iF];intro g _ a
 cases hf:P.funcs[g]? with
 |none=>rw[hf]at a;simp at a
 |some fn=>
  rw[hf]at a;have:=Array.any_eq_false.1 h;obtain⟨c,b⟩:=fC.1 hf;have:=this g c;rw[b]at this;simp at a;exact this a
end Go.Proofs.YthfhilggbbobmaaGreatDoor
