/-
  The law's few and does.
-/
import Derived.Test.YtdhnegcblnpmfaaStoreRef2
import Derived.Deep.DeepCutAuto
namespace Go.Proofs.Ytdhnegcblnpmfaa.StorW
open Go.RowKit Mem Stor
set_option linter.unusedVariables false

structure Act1 where
  k : Int
  a : Int
  b : Int
  t : ByteArray
def Act1.v (x : Act1) : Value := av x.k x.a x.b x.t
/-- what an act makes of a store -/
def act (s : Sto) (x : Act1) : Sto :=
  if x.k = 1 then (write s x.a (textL x.t.data.toList)).1 else if x.k = 2 then (arm s x.a x.b).1 else if x.k = 3 then power s true else if x.k = 4 then power s false else s
def DoesPost (base g n : Nat) (s : Sto) (w : World) (x : Ending) (w' : World) : Prop :=
  ∃ A c, x = .returned (.tuple #[rv A n c s, .bool true]) ∧ ROwn w' base A n c s.bs ∧ Is w' base g s ∧ Below base w w' ∧ KeepS w w'
theorem keepS_below {w w' : World} (h : Below w.heap.size w w') : KeepS w w' := fun k _ _ _ _ _ hk => (h.block k (lt_of_block hk)).trans hk
theorem KeepS.trans {a b c : World} (h : KeepS a b) (k : KeepS b c) : KeepS a c := fun x cs t fr h1 h2 hx => k x cs t fr h1 h2 (h x cs t fr h1 h2 hx)

theorem textL_size (t : ByteArray) (h : t.size ≤ 1000) : (str (textL t.data.toList)).size ≤ maxLen := by
  rw [str_size, textL]
  split
  · rw [wholeL_length _ (by assumption)]; simp [maxLen]
  · simp [maxLen]; omega

/-- an act's box -/
theorem blk4 {w : World} {g : Nat} {t : TypeId} {v0 v1 v2 v3 : Value} (h : Blk w g t #[v0, v1, v2, v3]) :
    w.cell? ⟨g, 0, none⟩ = some v0 ∧ w.cell? ⟨g, 1, none⟩ = some v1 ∧ w.cell? ⟨g, 2, none⟩ = some v2 ∧ w.cell? ⟨g, 3, none⟩ = some v3 := ⟨h.cell 0, h.cell 1, h.cell 2, h.cell 3⟩

structure Boxes (w : World) (b0 : Nat) (A : Option Addr) (n c : Nat) (s : Sto) (x : Act1) : Prop where
  st : Blk w b0 42 #[.slice A n c, .bool s.off, .int .i64 s.wr, .int .i64 s.left, .int .i64 s.keep]
  ac : Blk w (b0 + 1) 24 #[.int .i64 x.k, .int .i64 x.a, .int .i64 x.b, .string x.t]
  re : Blk w (b0 + 1 + 1) 42 #[.slice none 0 0, .bool false, .int .i64 0, .int .i64 0, .int .i64 0]
theorem Boxes.new (w : World) (A : Option Addr) (n c : Nat) (s : Sto) (x : Act1) :
    Boxes (((w.alloc (.cells #[.slice A n c, .bool s.off, .int .i64 s.wr, .int .i64 s.left, .int .i64 s.keep] 42)).alloc (.cells #[.int .i64 x.k, .int .i64 x.a, .int .i64 x.b, .string x.t] 24)).alloc (.cells #[.slice none 0 0, .bool false, .int .i64 0, .int .i64 0, .int .i64 0] 42)) w.heap.size A n c s x := by
  refine ⟨((Blk.new w _ _).alloc _).alloc _, ?_, ?_⟩
  · have := (Blk.new (w.alloc (.cells #[.slice A n c, .bool s.off, .int .i64 s.wr, .int .i64 s.left, .int .i64 s.keep] 42)) 24 #[.int .i64 x.k, .int .i64 x.a, .int .i64 x.b, .string x.t]).alloc (.cells #[.slice none 0 0, .bool false, .int .i64 0, .int .i64 0, .int .i64 0] 42)
    simpa using this
  · have := Blk.new ((w.alloc (.cells #[.slice A n c, .bool s.off, .int .i64 s.wr, .int .i64 s.left, .int .i64 s.keep] 42)).alloc (.cells #[.int .i64 x.k, .int .i64 x.a, .int .i64 x.b, .string x.t] 24)) 42 #[.slice none 0 0, .bool false, .int .i64 0, .int .i64 0, .int .i64 0]
    simpa using this
theorem Boxes.below {w w' : World} {b0 : Nat} {A : Option Addr} {n c : Nat} {s : Sto} {x : Act1} (h : Boxes w b0 A n c s x) (hb : Below w.heap.size w w') : Boxes w' b0 A n c s x := ⟨h.st.below hb h.st.lt, h.ac.below hb h.ac.lt, h.re.below hb h.re.lt⟩
theorem Boxes.keep {w w' : World} {b0 : Nat} {A : Option Addr} {n c : Nat} {s : Sto} {x : Act1} (h : Boxes w b0 A n c s x) (hk : KeepS w w') : Boxes w' b0 A n c s x := ⟨hk.blk h.st (by decide) (by decide), hk.blk h.ac (by decide) (by decide), hk.blk h.re (by decide) (by decide)⟩
theorem below_box3 (w : World) (o p q : Obj) : Below w.heap.size w (((w.alloc o).alloc p).alloc q) := (below_box2 w o p).alloc (by simp; omega) _

def MidW (base b0 g : Nat) (s : Sto) (A : Option Addr) (c : Nat) (x : Act1) (s' : Sto) (e : Int) (w : World) (p f : Value) (wx : World) : Prop :=
  ∃ P A' c', p = .pointer (some ⟨P, 0, none⟩) ∧ f = .int .i64 e ∧ b0 + 3 ≤ P ∧ Blk wx P 42 #[.slice A' s.bs.length c', .bool s'.off, .int .i64 s'.wr, .int .i64 s'.left, .int .i64 s'.keep] ∧
    ROwn wx base A' s.bs.length c' s'.bs ∧ Is wx base g s ∧ Boxes wx b0 A s.bs.length c s x ∧ Below w.heap.size w wx

theorem set5 {w : World} {g : Nat} {t : TypeId} {a0 a1 a2 a3 a4 : Value} (h : Blk w g t #[a0, a1, a2, a3, a4]) (v0 v1 v2 v3 v4 : Value) :
    Blk (((((w.setCell ⟨g, 0, none⟩ v0).setCell ⟨g, 1, none⟩ v1).setCell ⟨g, 2, none⟩ v2).setCell ⟨g, 3, none⟩ v3).setCell ⟨g, 4, none⟩ v4) g t #[v0, v1, v2, v3, v4] := by
  have := ((((h.set 0 v0).set 1 v1).set 2 v2).set 3 v3).set 4 v4
  simpa using this
theorem own5 {w : World} {base : Nat} {A : Option Addr} {n c : Nat} {l : List (List UInt8)} (h : ROwn w base A n c l) {g : Nat} {cs : Array Value} (hg : Blk w g 42 cs) (v0 v1 v2 v3 v4 : Value) :
    ROwn (((((w.setCell ⟨g, 0, none⟩ v0).setCell ⟨g, 1, none⟩ v1).setCell ⟨g, 2, none⟩ v2).setCell ⟨g, 3, none⟩ v3).setCell ⟨g, 4, none⟩ v4) base A n c l := by
  have hne := own_ne h hg (by decide)
  exact ownsRow_setCell_other (ownsRow_setCell_other (ownsRow_setCell_other (ownsRow_setCell_other (ownsRow_setCell_other h hne _) hne _) hne _) hne _) hne _
abbrev ZO : Obj := .cells #[.slice none 0 0, .bool false, .int .i64 0, .int .i64 0, .int .i64 0] 42
theorem midw_mk {base g : Nat} {s s' : Sto} {A A' : Option Addr} {c c' : Nat} {x : Act1} {e : Int} {w W wx : World} {P : Nat} (HI : Is w base g s) (HB0 : Below w.heap.size w W) (HWs : W.heap.size = w.heap.size + 3) (HB : Boxes W w.heap.size A s.bs.length c s x) (hbW : Below W.heap.size W wx)
    (hP : W.heap.size ≤ P) (hk : Blk wx P 42 #[.slice A' s.bs.length c', .bool s'.off, .int .i64 s'.wr, .int .i64 s'.left, .int .i64 s'.keep]) (ho : ROwn wx base A' s.bs.length c' s'.bs) :
    MidW base w.heap.size g s A c x s' e w (.pointer (some ⟨P, 0, none⟩)) (.int .i64 e) wx :=
  ⟨P, A', c', rfl, rfl, HWs ▸ hP, hk, ho, HI.below (below_step HB0 hbW), HB.below hbW, below_step HB0 hbW⟩
theorem midw_old {base g : Nat} {s s' : Sto} {A A' : Option Addr} {c c' : Nat} {x : Act1} {e : Int} {w W wx : World} {P : Nat} (HI : Is w base g s) (HB0 : Below w.heap.size w W) (HWs : W.heap.size = w.heap.size + 3) (HB : Boxes W w.heap.size A s.bs.length c s x) (hbW : Below W.heap.size W wx)
    (hP : W.heap.size ≤ P) {a0 a1 a2 a3 a4 : Value} (hk : Blk wx P 42 #[a0, a1, a2, a3, a4]) (ho : ROwn wx base A' s.bs.length c' s'.bs) :
    MidW base w.heap.size g s A c x s' e w (.pointer (some ⟨P, 0, none⟩)) (.int .i64 e) (((((wx.setCell ⟨P, 0, none⟩ (.slice A' s.bs.length c')).setCell ⟨P, 1, none⟩ (.bool s'.off)).setCell ⟨P, 2, none⟩ (.int .i64 s'.wr)).setCell ⟨P, 3, none⟩ (.int .i64 s'.left)).setCell ⟨P, 4, none⟩ (.int .i64 s'.keep)) :=
  midw_mk HI HB0 HWs HB (below5 hbW hP _ _ _ _ _) hP (set5 hk _ _ _ _ _) (own5 ho hk _ _ _ _ _)
theorem midw_new {base g : Nat} {s s' : Sto} {A A' : Option Addr} {c c' : Nat} {x : Act1} {e : Int} {w W wx : World} (HI : Is w base g s) (HB0 : Below w.heap.size w W) (HWs : W.heap.size = w.heap.size + 3) (HB : Boxes W w.heap.size A s.bs.length c s x) (hbW : Below W.heap.size W wx)
    (ho : ROwn wx base A' s.bs.length c' s'.bs) :
    MidW base w.heap.size g s A c x s' e w (.pointer (some ⟨wx.heap.size, 0, none⟩)) (.int .i64 e) (wx.alloc (.cells #[.slice A' s.bs.length c', .bool s'.off, .int .i64 s'.wr, .int .i64 s'.left, .int .i64 s'.keep] 42)) :=
  midw_mk HI HB0 HWs HB (hbW.alloc hbW.size _) hbW.size (Blk.new _ _ _) (World.ownsRow.alloc ho _)

theorem other5 (w : World) (g : Nat) (v0 v1 v2 v3 v4 : Value) (k : Nat) (hk : k ≠ g) : (((((w.setCell ⟨g, 0, none⟩ v0).setCell ⟨g, 1, none⟩ v1).setCell ⟨g, 2, none⟩ v2).setCell ⟨g, 3, none⟩ v3).setCell ⟨g, 4, none⟩ v4).heap[k]? = w.heap[k]? := by
  rw [Below.heap_setCell _ _ _ _ hk, Below.heap_setCell _ _ _ _ hk, Below.heap_setCell _ _ _ _ hk, Below.heap_setCell _ _ _ _ hk, Below.heap_setCell _ _ _ _ hk]
theorem Is.other {w w' : World} {base g : Nat} {s : Sto} (h : Is w base g s) {P : Nat} {t : TypeId} {cs : Array Value} (hP : Blk w P t cs) (h1 : 50 ≠ t) (h2 : 5 ≠ t) (h3 : 79 ≠ t) (hk : ∀ k, k ≠ P → w'.heap[k]? = w.heap[k]?) : Is w' base g s := by
  obtain ⟨hs, A, c, h⟩ := h
  refine ⟨hs, A, c, h.gb, (hk g (blk_ne h.blk hP h1)).trans h.blk, ?_, h.len, h.nodup, fun i x b e1 e2 => ?_⟩
  · refine ⟨h.own.1, ?_⟩
    have hne := own_ne h.own hP h3
    rcases h.own.2 with h2 | ⟨g', cap, cur, hv', hg', hh, r⟩
    · exact .inl h2
    · refine .inr ⟨g', cap, cur, hv', hg', (hk g' ?_).trans hh, r⟩
      rintro rfl
      exact hne (by rw [hv']; rfl)
  · obtain ⟨h5, h6⟩ := h.data i x b e1 e2
    exact ⟨h5, (hk x (blk_ne h6 hP h2)).trans h6⟩
theorem blk_other5 {w : World} {k : Nat} {t : TypeId} {cs : Array Value} (h : Blk w k t cs) {g : Nat} (hk : k ≠ g) (v0 v1 v2 v3 v4 : Value) : Blk (((((w.setCell ⟨g, 0, none⟩ v0).setCell ⟨g, 1, none⟩ v1).setCell ⟨g, 2, none⟩ v2).setCell ⟨g, 3, none⟩ v3).setCell ⟨g, 4, none⟩ v4) k t cs := (other5 w g v0 v1 v2 v3 v4 k hk).trans h
/-- the last line of an act: the answer is laid -/
theorem does_end {base g b0 n : Nat} {s' : Sto} {A' : Option Addr} {c' : Nat} {w w7 : World} {a0 a1 a2 a3 a4 : Value} (hbase : base ≤ b0) (hI : Is w7 base g s') (hO : ROwn w7 base A' n c' s'.bs) (hr : Blk w7 b0 42 #[a0, a1, a2, a3, a4]) (hb : Below base w w7) (h0 : w.heap.size ≤ b0) (hk : KeepS w w7) :
    DoesPost base g n s' w (.returned (.tuple #[rv A' n c' s', .bool true])) (((((w7.setCell ⟨b0, 0, none⟩ (.slice A' n c')).setCell ⟨b0, 1, none⟩ (.bool s'.off)).setCell ⟨b0, 2, none⟩ (.int .i64 s'.wr)).setCell ⟨b0, 3, none⟩ (.int .i64 s'.left)).setCell ⟨b0, 4, none⟩ (.int .i64 s'.keep)) :=
  ⟨A', c', rfl, own5 hO hr _ _ _ _ _, hI.other hr (by decide) (by decide) (by decide) (other5 _ _ _ _ _ _ _), below5 hb hbase _ _ _ _ _, fun k cs t fr h1 h2 hx => (other5 _ _ _ _ _ _ _ k (by have := lt_of_block hx; omega)).trans (hk k cs t fr h1 h2 hx)⟩
theorem fromS {P Q R : Prop} (h : P ∧ Q ∧ R) : R := h.2.2

set_option maxHeartbeats 4000000 in
set_option maxRecDepth 100000 in
theorem does_write (base g : Nat) (A : Option Addr) (c : Nat) (s : Sto) (a b : Int) (t : ByteArray) (w : World) (h : ROwn w base A s.bs.length c s.bs) (hi : Is w base g s) (hbase : base ≤ w.heap.size) (hok : s.Ok) (hw : s.wr < 1000000) (ht : t.size ≤ 1000) :
    Calls Try.prog 23 #[.pointer (some ⟨g, 0, none⟩), rv A s.bs.length c s, av 1 a b t] w (DoesPost base g s.bs.length (write s a (textL t.data.toList)).1 w) := by
  have hgl : g < w.heap.size := by obtain ⟨_, _, _, h⟩ := hi; exact h.blk.lt
  have HB := Lib.hid (Boxes.new w A s.bs.length c s ⟨1, a, b, t⟩)
  simp only at HB
  have HH := Lib.hid h
  have HI := Lib.hid hi
  have HOk := Lib.hid hok
  have HW := Lib.hid hw
  clear h hi hok hw
  unfold rv av
  go_enter Try.func23, Try.ntmps23
  go_wp2_with fail
  obtain ⟨W, hW⟩ : ∃ W, W = (((w.alloc (.cells #[.slice A s.bs.length c, .bool s.off, .int .i64 s.wr, .int .i64 s.left, .int .i64 s.keep] 42)).alloc (.cells #[.int .i64 1, .int .i64 a, .int .i64 b, .string t] 24)).alloc (.cells #[.slice none 0 0, .bool false, .int .i64 0, .int .i64 0, .int .i64 0] 42)) := ⟨_, rfl⟩
  have hb0 : Below w.heap.size w W := by rw [hW]; exact below_box3 _ _ _ _
  have HWs : Hid (W.heap.size = w.heap.size + 3) := by show _ = _; rw [hW]; simp
  rw [← hW]
  rw [← hW] at HB
  clear hW
  have HB0 := Lib.hid hb0
  clear hb0
  have HS : Hid (∀ w', Below W.heap.size W w' → ((w'.cell? ⟨w.heap.size, 0, none⟩ = some (.slice A s.bs.length c) ∧ w'.cell? ⟨w.heap.size, 1, none⟩ = some (.bool s.off) ∧ w'.cell? ⟨w.heap.size, 2, none⟩ = some (.int .i64 s.wr) ∧ w'.cell? ⟨w.heap.size, 3, none⟩ = some (.int .i64 s.left) ∧ w'.cell? ⟨w.heap.size, 4, none⟩ = some (.int .i64 s.keep)) ∧
     (w'.cell? ⟨w.heap.size + 1, 0, none⟩ = some (.int .i64 1) ∧ w'.cell? ⟨w.heap.size + 1, 1, none⟩ = some (.int .i64 a) ∧ w'.cell? ⟨w.heap.size + 1, 2, none⟩ = some (.int .i64 b) ∧ w'.cell? ⟨w.heap.size + 1, 3, none⟩ = some (.string t)) ∧ Below W.heap.size W w')) := by
    show ∀ w', _
    intro w' hb
    have hx := HB.out.below hb
    exact ⟨(blk5 hx.st).1, blk4 hx.ac, hb⟩
  have HT : Hid (∀ w', Calls Try.prog 15 #[.agg #[.int .i64 1, .int .i64 a, .int .i64 b, .string t]] w' (WholeP (textL t.data.toList) w')) := fun w' => text_any 1 a b t w' ht
  have HR : Hid (∀ w', Below W.heap.size W w' → Calls Try.prog 45 #[.agg #[.slice A s.bs.length c, .bool s.off, .int .i64 s.wr, .int .i64 s.left, .int .i64 s.keep], .int .i64 a, .string (str (textL t.data.toList))] w' (RWPost base s.bs.length (write s a (textL t.data.toList)).1 (write s a (textL t.data.toList)).2 w')) :=
    fun w' hb6 => rwrite_any base A c s a (str (textL t.data.toList)) w' (HH.out.below (below_step HB0.out hb6)) (Nat.le_trans hbase (below_step HB0.out hb6).size) HOk.out HW.out (textL_size t ht)
  go_cut [12, 13] (fun p f wx => MidW base w.heap.size g s A c ⟨1, a, b, t⟩ (write s a (textL t.data.toList)).1 (write s a (textL t.data.toList)).2 w p f wx)
  case first =>
    go_region_held3 (fun w' => (w'.cell? ⟨w.heap.size, 0, none⟩ = some (.slice A s.bs.length c) ∧ w'.cell? ⟨w.heap.size, 1, none⟩ = some (.bool s.off) ∧ w'.cell? ⟨w.heap.size, 2, none⟩ = some (.int .i64 s.wr) ∧ w'.cell? ⟨w.heap.size, 3, none⟩ = some (.int .i64 s.left) ∧ w'.cell? ⟨w.heap.size, 4, none⟩ = some (.int .i64 s.keep)) ∧
     (w'.cell? ⟨w.heap.size + 1, 0, none⟩ = some (.int .i64 1) ∧ w'.cell? ⟨w.heap.size + 1, 1, none⟩ = some (.int .i64 a) ∧ w'.cell? ⟨w.heap.size + 1, 2, none⟩ = some (.int .i64 b) ∧ w'.cell? ⟨w.heap.size + 1, 3, none⟩ = some (.string t)) ∧ Below W.heap.size W w')
      (first | with_reducible exact HS.out _ ((Below.refl _ _).drew) | with_reducible exact HS.out _ hb8 | with_reducible exact HS.out _ hb6 | with_reducible exact HS.out _ (((Below.refl _ _).alloc (Nat.le_refl _) _).drew) | with_reducible exact HS.out _ (hb8.alloc hb8.size _) | with_reducible exact HS.out _ (hb6.alloc hb6.size _) | with_reducible exact HS.out _ (below5 hb8 hle _ _ _ _ _))
      (first
        | (go_at_call 15; refine (HT.out W.drew).mono ?_; rintro e w5 ⟨rfl, hb5⟩; have hb6 : Below W.heap.size W w5 := below_step ((Below.refl _ _).drew) hb5)
        | (go_at_call 15; refine (HT.out (W.alloc ZO).drew).mono ?_; rintro e w5 ⟨rfl, hb5⟩; have hb6 : Below W.heap.size W w5 := below_step (((Below.refl _ _).alloc (Nat.le_refl _) _).drew) hb5; have k5 : Blk w5 W.heap.size 42 _ := (Blk.new W _ _).drew.below hb5 (by simp))
        | (go_at_call 45; refine (HR.out w5 hb6).mono ?_; rintro e w7 ⟨A7, c7, rfl, ho7, hb7⟩; unfold rv; have hb8 : Below W.heap.size W w7 := below_step hb6 hb7; have k7 := k5.below hb7 k5.lt; obtain ⟨⟨z0, z1, z2, z3, z4⟩, y0, y1, y2, y3, y4⟩ := blk5 k7; have hle : W.heap.size ≤ W.heap.size := Nat.le_refl _)
        | (go_at_call 45; refine (HR.out w5 hb6).mono ?_; rintro e w7 ⟨A7, c7, rfl, ho7, hb7⟩; unfold rv; have hb8 : Below W.heap.size W w7 := below_step hb6 hb7)
        | (go_at_call 45; refine (HR.out (w5.alloc ZO) (hb6.alloc hb6.size _)).mono ?_; rintro e w7 ⟨A7, c7, rfl, ho7, hb7⟩; unfold rv; have hb8 : Below W.heap.size W w7 := below_step (hb6.alloc hb6.size _) hb7; have k7 : Blk w7 w5.heap.size 42 _ := (Blk.new w5 _ _).below hb7 (by simp); obtain ⟨⟨z0, z1, z2, z3, z4⟩, y0, y1, y2, y3, y4⟩ := blk5 k7; have hle : W.heap.size ≤ w5.heap.size := hb6.size))
    all_goals go_wp2_with fail
    all_goals go_meet
    · exact midw_new HI.out HB0.out HWs.out HB.out hb8 ho7
    · exact midw_old HI.out HB0.out HWs.out HB.out hb8 hle k7 ho7
    · exact midw_old HI.out HB0.out HWs.out HB.out hb8 hle k7 ho7
  case rest =>
    obtain ⟨P, A', c', rfl, rfl, hP, hkP, hoP, hiP, hbx, hbP⟩ := hcut
    clear HR HS HB HB0 HWs HI HH
    obtain ⟨s', hs'⟩ : ∃ s', s' = write s a (textL t.data.toList) := ⟨_, rfl⟩
    have HE := Lib.hid hs'
    rw [← hs'] at hkP hoP
    rw [← hs']
    clear hs'
    obtain ⟨s', e'⟩ := s'
    simp only at hkP hoP
    have hne : P ≠ w.heap.size + 1 + 1 := by omega
    have hne2 : w.heap.size + 1 ≠ w.heap.size + 1 + 1 := by omega
    have HS : Hid (∀ w', Blk w' P 42 #[.slice A' s.bs.length c', .bool s'.off, .int .i64 s'.wr, .int .i64 s'.left, .int .i64 s'.keep] → Blk w' (w.heap.size + 1) 24 #[.int .i64 1, .int .i64 a, .int .i64 b, .string t] →
      ((w'.cell? ⟨P, 0, none⟩ = some (.slice A' s.bs.length c') ∧ w'.cell? ⟨P, 1, none⟩ = some (.bool s'.off) ∧ w'.cell? ⟨P, 2, none⟩ = some (.int .i64 s'.wr) ∧ w'.cell? ⟨P, 3, none⟩ = some (.int .i64 s'.left) ∧ w'.cell? ⟨P, 4, none⟩ = some (.int .i64 s'.keep)) ∧
     (w'.cell? ⟨w.heap.size + 1, 0, none⟩ = some (.int .i64 1) ∧ w'.cell? ⟨w.heap.size + 1, 1, none⟩ = some (.int .i64 a) ∧ w'.cell? ⟨w.heap.size + 1, 2, none⟩ = some (.int .i64 b) ∧ w'.cell? ⟨w.heap.size + 1, 3, none⟩ = some (.string t)))) := by
      show ∀ w', _
      intro w' h1 h2
      exact ⟨(blk5 h1).1, blk4 h2⟩
    have hxa := hbx.ac
    have hxr := hbx.re
    simp only at hxa
    clear hbx
    have HWr : Hid (∀ w5, Is w5 base g s → Calls Try.prog 14 #[.pointer (some ⟨g, 0, none⟩), .int .i64 a, .string (str (textL t.data.toList))] w5 (IsPost base g s' e' w5)) := by
      show ∀ w5, _
      intro w5 h5
      have := write_any base g s a (str (textL t.data.toList)) w5 h5 HOk.out HW.out (textL_size t ht)
      rw [str_data, ← HE.out] at this
      exact this
    go_wp2_with fail
    go_region_held3 (fun w' => (w'.cell? ⟨P, 0, none⟩ = some (.slice A' s.bs.length c') ∧ w'.cell? ⟨P, 1, none⟩ = some (.bool s'.off) ∧ w'.cell? ⟨P, 2, none⟩ = some (.int .i64 s'.wr) ∧ w'.cell? ⟨P, 3, none⟩ = some (.int .i64 s'.left) ∧ w'.cell? ⟨P, 4, none⟩ = some (.int .i64 s'.keep)) ∧
     (w'.cell? ⟨w.heap.size + 1, 0, none⟩ = some (.int .i64 1) ∧ w'.cell? ⟨w.heap.size + 1, 1, none⟩ = some (.int .i64 a) ∧ w'.cell? ⟨w.heap.size + 1, 2, none⟩ = some (.int .i64 b) ∧ w'.cell? ⟨w.heap.size + 1, 3, none⟩ = some (.string t)))
      (first | with_reducible exact HS.out _ hkP.drew hxa.drew | with_reducible exact HS.out _ k5 x5 | with_reducible exact HS.out _ k7 x7 | with_reducible exact HS.out _ k9 x9)
      (first
        | (go_at_call 15; refine (HT.out wc.drew).mono ?_; rintro e w5 ⟨rfl, hb5⟩; have k5 := hkP.drew.below hb5 hkP.lt; have x5 := hxa.drew.below hb5 hxa.lt; have r5 := hxr.drew.below hb5 hxr.lt)
        | (go_at_call 14; refine (HWr.out w5 (hiP.below (below_step (Below.drew (Below.refl _ _)) hb5))).mono ?_; rintro e w7 ⟨rfl, hi7, hb7, hk7⟩; have k7 := hk7.blk k5 (by decide) (by decide); have x7 := hk7.blk x5 (by decide) (by decide); have r7 := hk7.blk r5 (by decide) (by decide); obtain ⟨⟨z0, z1, z2, z3, z4⟩, y0, y1, y2, y3, y4⟩ := blk5 r7; have k9 := blk_other5 k7 hne (.slice A' s.bs.length c') (.bool s'.off) (.int .i64 s'.wr) (.int .i64 s'.left) (.int .i64 s'.keep); have x9 := blk_other5 x7 hne2 (.slice A' s.bs.length c') (.bool s'.off) (.int .i64 s'.wr) (.int .i64 s'.left) (.int .i64 s'.keep)))
    all_goals go_wp2_with fail
    refine bodyPost_ret (v := .tuple #[rv A' s.bs.length c' s', .bool true]) (by simp [results, Try.results23, go_sem, rv, z0, z1, z2, z3, z4]) rfl ?_
    rw [← HE.out]
    exact does_end (Nat.le_trans hbase (by omega)) hi7 ((hoP.below (below_step (Below.drew (Below.refl _ _)) hb5)).keep hk7) r7 (((hbP.mono hbase).trans ((below_step (Below.drew (Below.refl _ _)) hb5).mono (Nat.le_trans hbase hbP.size))).trans hb7) (by omega) ((keepS_below (below_step hbP (below_step (Below.drew (Below.refl _ _)) hb5))).trans hk7)
end Go.Proofs.Ytdhnegcblnpmfaa.StorW
