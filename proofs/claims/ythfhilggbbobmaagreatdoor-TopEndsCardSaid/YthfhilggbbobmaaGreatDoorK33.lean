/- Parts of the proof. -/
import Derived.Test.YthfhilggbbobmaaGreatDoorK31
set_option linter.all false
set_option maxHeartbeats 20000000
namespace Go.Proofs.YthfhilggbbobmaaGreatDoor
set_option maxRecDepth 100000
open Go.Proofs.Tryz
open Go renaming World->Wd,Value->Vl,Ending->Ed,Calls->Cs
open Go.RowKit renaming Below->Bl
open Go.RowKit
theorem kcop0(A:OA)(c:Nat)(w:Wd):Cs prog 287 #[.slice A 0 c] w fun e w'=>e=.returned (.slice A 0 0)/\w=w':=by
 obtain⟨a,hi,-,hs,-⟩:=sB sP;have d:=fun b=>run_append_nothing (P:=prog) w 23 23 b 51 a underlying23 hi A 0 0 lr (.slice A 0 c) (by rw[hs];exact cp.src ek (cp.nil _ _ _ _) c underlying23);cases A
 ·go_in;go_wp2;go_ret;exact⟨rfl,rfl⟩
 ·go_in;go_wp2_with(at_builtin;refine au rfl _ _ rfl rfl rfl (d _) ?_);go_ret;exact⟨rfl,rfl⟩
theorem UG{w:Wd}{base size:Nat}{A:OA}{n c q:Nat}{xs:List Vl}(h:eY w base size A n c xs)(a:0<n)(b:w<=q):A≠some ⟨q,0,none⟩:=fun e=>by
 have:=sV h (.inr (by have:=h.le;omega)) e;omega
theorem UH{w:Wd}{base size:Nat}{A:OA}{n c q:Nat}{xs:List Vl}(h:eY w base size A n c xs)(a:0<n)(b:q<base):A≠some ⟨q,0,none⟩:=fun e=>by
 have:=sV h (.inr (by have:=h.le;omega)) e;omega
def AddW(w:Wd)(e:Ed)(w':Wd):Prop:=∃A c a,e=.returned (.tuple #[.slice A 1 c,()])/\vG w' w A 1 c a/\a.map Jr.j=[kJ]/\Bl w w w'
theorem kadd(r:Jr)(A:OA)(c:Nat)(w:Wd)(h:eF w r)(z:r.j=kJ)(hA:A=none->c=0):Cs prog 255 #[.slice A 0 c,.agg (bk r)] w (AddW w):=by
 obtain⟨V,x⟩:∃V,V=w.alloc (.cells (bk r) 51):=⟨_,rfl⟩;have C:Bl w.heap.size w V:=by rw[x];exact aA
 have F:ai V w.heap.size 51 (bk r):=by rw[x];exact ai.new _ _ _
 have yO:=ah (gp A 0 c [] V ⟨cp.nil _ _ _ _,fun r hr=>by cases hr⟩ (by simp[maxLen]));rw[show gd (([]:List Jr).map Jr.j)=0 by kernel_rfl]at yO;have yJ:=ah fun(W:Wd) (a:Bl V.heap.size V W)=>je r W ((h.ae C).ae a);rw[show F5 r.j=0 by rw[z];kernel_rfl]at yJ;have yT:=ah fun W=>kover r W (by rw[z];decide);have M:=ah C;have n:=ah F;have yQ:=ah fun(W:Wd) (a:Bl w.heap.size w W)=>h.ae a;have HJ:=ah z;have yZ:=ah hA;have yY:=F.lt;clear h z hA C F;go_enter func255,ntmps255;go_wp2_with(rw[<-x];clear x);refine yO.out.mono ?_;rintro e Y ⟨rfl,b2⟩;have L:=ah b2;clear b2;go_wp2_with fail;refine aw (fun w'=>Bl Y.heap.size Y w') (by kernel_rfl) (by kernel_rfl) bR.drew ?_
 repeat(first
  |(refine bF ?_ ?_
    ·rfl
    simp only[Act.put,aE,aF,aG])
  |(refine D9 ?_ 51 _ rfl (g:=w.heap.size) (cs:=bk r) (fun w' t=>n.out.ae (aa L.out t) n.out.lt) rfl underlying51 rfl aK rfl ?_
    ·rfl
    simp only[Act.put,aE,aF,aG])
  |(refine ee 110 #[.agg (bk r)] (.int .i64 0) ?_ (fun w'=> ?_) (fun w' t=>(yJ.out w' (aa L.out t)).mono fun e yX ⟨he,hb⟩=>⟨he,aa t hb⟩) ?_
    ·rfl
    ·simp[go_sem]
    simp only[Act.put,aE,aF,aG])
  |(refine cw ?_ ?_
    ·rfl
    apply Exists.intro;refine⟨fun w' t=> ?_,?_⟩
    ·simp[go_sem]
     try rfl
    simp only[Act.put,aE,aF,aG]))
 refine bM ?_;intro w3 a;have yH:=ah (aa L.out a);have J:=ah (n.out.ae yH.out n.out.lt);clear a;go_wp2_with(refine cr rfl _ _ rfl J.out rfl underlying51 rfl aK rfl ?_);refine(yT.out w3).mono ?_;rintro e w4 ⟨rfl,b4⟩;have yU:=ah (aa yH.out b4);have I:=J.out.ae b4 J.out.lt;have x2:=I.cell 2;simp at x2;have yN:=ah I;clear b4 I;go_wp2_with fail;refine(RH A c _ w4).mono ?_;rintro e b ⟨rfl,b5⟩;have yL:=ah (aa yU.out b5);have yK:=ah (yN.out.ae b5 yN.out.lt);clear b5 x2;have yR:=ah fun(W:Wd)=>kcop0 A c W;go_upto_region 8 with fail
 go_cut [7] (fun Z wr=>∃q k l,Z=.pointer (some ⟨q,0,none⟩)/\b.heap.size<=q/\ai wr q 23 #[.slice k 1 l]/\gB wr b.heap.size k 1 l [r]/\Bl b.heap.size b wr)
 case first=>
  refine bW (fun W=>Bl b.heap.size b W) (fun _=>True) #[] [1,3,4,5,6] 5 [0,2,1,3,4,5,6] (by kernel_rfl) (by kernel_rfl) bR.drew trivial ?_;refine lqe rfl (fun _ _ _ _ h=>h) ?_;apply Exists.intro;refine⟨fun W a _=> ?_,?_⟩
  ·go_simp
   try rfl
  refine jE rfl (some 48) rfl rfl rfl (fun _ _ _ _ h=>h) _ _ rfl (fun W a _=>yK.out.ae a yK.out.lt) rfl underlying51 rfl aK rfl ?_;refine mP 5 rfl ?_;obtain⟨W,K⟩:∃W,W=b.drew:=⟨_,rfl⟩;have bl:Bl b.heap.size b W:=by rw[K];exact bR.drew
  rw[<-K];clear K;have H:True:=trivial
  iterate 5
   all_goals
    refine qY [1,3,4,5,6] (by kernel_rfl) ?_;intro i hi o;simp only[dK,lF,oV]at hi;rcases hi with rfl|rfl|rfl|rfl|rfl
   all_goals first
    |(refine C7 o ?_;decide+kernel)
    |(clear o
      refine ea 287 #[.slice A 0 c] (some 47) rfl rfl (a8 rfl _) (by go_simp) ?_;refine(yR.out W).mono ?_;rintro e _ ⟨rfl,rfl⟩;refine⟨_,rfl,bl,?_⟩)
    |(clear o
      rename Wd=>U
      refine eS (.slice (some ⟨U.heap.size,0,none⟩) 1 1) (U.alloc (.cells (bk r) 51)) (some 49) rfl rfl (a8 rfl _) (by first|(go_simp;done)|(go_simp;rfl)) fun W a=> ?_;have d:Bl U.heap.size U W:=by rw[a];exact aA
      have G:Qf W (some ⟨U.heap.size,0,none⟩) 1 [r]:=by rw[a];exact cp.new ek U r (bk r) 51 rfl
      try replace f:=f.ae d f.lt
      replace bl:=aa bl d;refine⟨bl,?_⟩;clear a d)
    |(clear o
      rename Wd=>U
      obtain⟨q,s⟩:∃q,q=U.heap.size:=⟨_,rfl⟩;refine eS (.pointer (some ⟨q,0,none⟩)) (U.alloc (.cells #[.slice none 0 0] 23)) (some 7) rfl rfl (a8 rfl _) (by rw[s];go_simp) fun W a=> ?_;have d:Bl U.heap.size U W:=by rw[a];exact aA
      have f:ai W q 23 #[.slice none 0 0]:=by rw[a,s];exact ai.new _ _ _
      have z6:b.heap.size<=q:=by rw[s];exact bl.size
      try(replace H:=UG (q:=q) m.2 (by omega) (by omega);replace m:=m.ae d)
      try replace G:=G.ae d
      replace bl:=aa bl d;refine⟨bl,?_⟩;clear a d s)
    |(clear o
      rename Wd=>U
      obtain⟨k,l,W,yB,m,d,-,-⟩:=dy ek (P:=prog) U U.heap.size 23 23 51 _ _ underlying23 sP rfl A 0 0 [] (Ca _ _ _ _ _) _ 1 1 [r] G (by simp[maxLen]) (by omega) lr;refine rq (some 50) (.tmp 47) (.tmp 49) rfl rfl rfl (a8 rfl _) (by go_simp) (by go_simp) yB fun Wm a=> ?_;subst a
      try(replace H:=UH m.2 (by omega) f.lt;replace f:=f.ae d f.lt)
      replace m:=aS m bl.size;replace bl:=aa bl d;refine⟨bl,?_⟩;clear yB d)
    |(clear o
      rename Wd=>U
      refine jY (U.setCell ⟨q,0,none⟩ (.slice k 1 l)) rfl rfl (a8 rfl _) ?_ fun W a=> ?_
      ·have z0:=f.cell 0;have z1:=f.ao 0;simp at z0;go_simp
       try rfl
      have S:ai W q 23 #[.slice k 1 l]:=by rw[a];exact f.set 0 _
      have T:gB W b.heap.size k 1 l [r]:=by rw[a];exact mj (aU.set _ _ _) m fun _=>H
      have D:Bl b.heap.size b W:=by rw[a];exact bl.setCell (p:=⟨q,0,none⟩) z6 _
      refine⟨D,?_⟩;refine wpAnyH_done (by kernel_rfl) ?_ _;have n:=ah S;have u:=ah T;have B:=ah D;clear a f m bl S T D;simp only[Act.put,aE,aF,aG,cM,cJ,cI];go_wp2_with fail;go_meet;exact⟨q,k,l,rfl,z6,n.out,u.out,B.out⟩)
 case rest=>
  obtain⟨q,k,l,rfl,s,O,v,E⟩:=hcut;have x0:=O.cell 0;simp at x0;have yW:=v.2.le
  have yI:=vE k 1 l [r] wc ⟨v.et ek,fun y R=>by
   rw[lD]at R;subst R;exact yQ.out wc (aa (aa M.out yL.out) E)⟩ (by omega) yW v.2.cz
  have yV:=ah yI;have yM:=ah (aa (aa M.out yL.out) E);clear O v E yI;go_wp2_with fail;refine yV.out.mono ?_;rintro e w7 ⟨A7,c7,l2,rfl,X,Q,N⟩;have u:=ah X;have B:=ah Q;have yP:=ah (aa yM.out N);have yS:=yM.out.size;clear X Q N;go_wp2_with fail;go_ret2;exact⟨A7,c7,l2,rfl,⟨aS u.out.rows yS,u.out.own⟩,by rw[B.out];simp[HJ.out],yP.out⟩
end Go.Proofs.YthfhilggbbobmaaGreatDoor
