/-
  Merged: Contract: journal.look.; Contract: journal.counts.
-/
import Derived.Test.YtdhnegcblnpmfaaL8
import Derived.Test.YtdhnegcblnpmfaaL5
import Derived.BigQuiet
namespace Go.Proofs.Ytdhnegcblnpmfaa.JrnW
open Go.RowKit Go.Shelf Mem Jrn PackW FrameW
set_option linter.unusedVariables false
set_option linter.unusedSimpArgs false
attribute [local go_sem] Oper.semAt_some

abbrev fdR (area life count next stamp : Int) (im : List UInt8) (A : Option Addr) (n c : Nat) (st : Bool) : Array Value := #[.int .i64 area, .int .i64 life, .int .i64 count, .int .i64 next, .int .i64 stamp, .string (str im), .slice A n c, .bool st]
def hLife (pre : List Rc) : Int := (pre.head?.map (·.life)).getD 0
def hIm (pre : List Rc) : List UInt8 := (pre.head?.map (·.body)).getD []
def lNext (pre : List Rc) : Int := ((pre.getLast?.map (fun r => (r.behind : Int))).getD 0)
def evs (pre : List Rc) : List (List UInt8) := pre.tail.map (·.body)
theorem look_is (l : List (List UInt8)) (area : Nat) : Jrn.look l area = ⟨area, hLife (recs l area), (evs (recs l area)).length, lNext (recs l area), 0, hIm (recs l area), evs (recs l area), !(recs l area).isEmpty⟩ := by
  unfold Jrn.look
  cases recs l area with
  | nil => rfl
  | cons r t =>
    simp only [hLife, hIm, lNext, evs, List.head?_cons, Option.map_some, Option.getD_some, List.tail_cons, List.length_map, List.isEmpty_cons, Bool.not_false, Fd.mk.injEq, true_and, and_true]
    cases h : (r :: t).getLast? with
    | none => rfl
    | some x => rfl
theorem hLife_snoc (pre : List Rc) (x : Rc) (h : pre ≠ []) : hLife (pre ++ [x]) = hLife pre := by cases pre with | nil => exact absurd rfl h | cons a b => rfl
theorem hIm_snoc (pre : List Rc) (x : Rc) (h : pre ≠ []) : hIm (pre ++ [x]) = hIm pre := by cases pre with | nil => exact absurd rfl h | cons a b => rfl
theorem evs_snoc (pre : List Rc) (x : Rc) (h : pre ≠ []) : evs (pre ++ [x]) = evs pre ++ [x.body] := by cases pre with | nil => exact absurd rfl h | cons a b => simp [evs]
theorem lNext_snoc (pre : List Rc) (x : Rc) : lNext (pre ++ [x]) = x.behind := by simp [lNext]
/-- a row of texts that the call made -/
def TxW (w : World) (base : Nat) (A : Option Addr) (n c : Nat) (l : List (List UInt8)) : Prop := w.ownsRow base 9 1 (.slice A n c) n (sv l)
section
variable {w w' : World} {base : Nat} {A : Option Addr} {n c : Nat} {l : List (List UInt8)}
theorem TxW.shape (h : TxW w base A n c l) : (A = none ∧ n = 0 ∧ c = 0) ∨ ∃ g cur, A = some ⟨g, 0, none⟩ ∧ base ≤ g ∧ w.heap[g]? = some (.cells cur 9 (0, 0)) ∧ (l ≠ [] → ∃ s, cur[0]? = some (.string s)) := by
  rcases h.2 with ⟨hv, h0⟩ | ⟨g, cap, cur, hv, hg, hh, _, _, _, ht⟩
  · injection hv with h1 h2 h3
    exact .inl ⟨h1, h0, h3⟩
  · injection hv with h1 h2 h3
    refine .inr ⟨g, cur, h1, hg, hh, fun hne => ?_⟩
    cases l with
    | nil => exact absurd rfl hne
    | cons z zs =>
      have h1 := congrArg (fun x => x[0]?) ht
      simp only [sv, List.map_cons, List.getElem?_cons_zero] at h1
      refine ⟨str z, ?_⟩
      rw [List.getElem?_take] at h1
      split at h1
      · simpa using h1
      · cases h1
theorem TxW.same (h : TxW w base A n c l) (ho : ∀ g, A = some ⟨g, 0, none⟩ → base ≤ g → w'.heap[g]? = w.heap[g]?) : TxW w' base A n c l := by
  refine ⟨h.1, ?_⟩
  rcases h.2 with h2 | ⟨g, cap, cur, hv, hg, hh, r⟩
  · exact .inl h2
  · exact .inr ⟨g, cap, cur, hv, hg, (ho g (by injection hv) hg).trans hh, r⟩
theorem TxW.below (h : TxW w base A n c l) (hb : Below w.heap.size w w') : TxW w' base A n c l := own_below h hb
theorem TxW.grown {row : Option Nat} (h : TxW w base A n c l) (hg : w.grownBy w' row) (hr : NoCells w row) : TxW w' base A n c l := h.same fun g e hb => by
  rcases h.shape with ⟨e', _⟩ | ⟨g', cur, e', _, hh, _⟩
  · rw [e] at e'; cases e'
  · rw [e] at e'
    injection e' with e'
    injection e' with e'
    subst e'
    exact (grownBy_keeps_cells hg hr hh rfl)
theorem TxW.mono {base' : Nat} (h : TxW w base A n c l) (hb : base' ≤ base) : TxW w base' A n c l := by
  refine ⟨h.1, ?_⟩
  rcases h.2 with h2 | ⟨g, cap, cur, hv, hg, r⟩
  · exact .inl h2
  · exact .inr ⟨g, cap, cur, hv, by omega, r⟩
theorem TxW.lt (h : TxW w base A n c l) {g : Nat} (e : A = some ⟨g, 0, none⟩) : g < w.heap.size ∧ base ≤ g := by
  rcases h.shape with ⟨e', _⟩ | ⟨g', cur, e', hb, hh, _⟩
  · rw [e] at e'; cases e'
  · rw [e] at e'
    injection e' with e'
    injection e' with e'
    subst e'
    exact ⟨lt_of_block hh, hb⟩
theorem TxW.ob (h : TxW w base A n c l) {k : Nat} (hk : A ≠ some ⟨k, 0, none⟩) : (Value.slice A n c).ownBlock ≠ some k := by
  rcases h.shape with ⟨e', _⟩ | ⟨g', cur, e', hb, hh, _⟩
  · rw [e']; simp [Value.ownBlock]
  · rw [e'] at hk ⊢
    simp only [Value.ownBlock, ne_eq, Option.some.injEq] at hk ⊢
    intro e
    exact hk (by rw [e])
theorem TxW.ob' (h : TxW w base A n c l) {k : Nat} (hk : A = some ⟨k, 0, none⟩) : (Value.slice A n c).ownBlock = some k := by rw [hk]; rfl
theorem TxW.cells (h : TxW w base A n c l) : InCells w A := fun b e => by
  rcases h.shape with ⟨e', _⟩ | ⟨g', cur, e', hb, hh, _⟩
  · rw [e] at e'; cases e'
  · rw [e] at e'
    injection e' with e'
    injection e' with e'
    subst e'
    exact ⟨_, hh, rfl⟩
theorem TxW.txs (h : TxW w base A n c l) : Txs w A n l := Txs.of_ownc (OwnC.of_own h)
theorem TxW.nil (w : World) (base : Nat) : TxW w base none 0 0 [] := World.ownsRow_nil _ _ _ _
end
/-- what the loop's cells hold when pre has come -/
structure LookI (w : World) (F : Nat) (area : Int) (pre : List Rc) (W : World) (A : Option Addr) (c : Nat) : Prop where
  fnd : Blk W F 93 (fdR area (hLife pre) 0 (lNext pre) 0 (hIm pre) A (evs pre).length c (!pre.isEmpty))
  own : TxW W w.heap.size A (evs pre).length c (evs pre)
  apart : ∀ b, A = some ⟨b, 0, none⟩ → w.heap.size + 1 < b
  nil : evs pre = [] → A = none
  zer : Blk W w.heap.size 93 (fdR 0 0 0 0 0 [] none 0 0 false)
theorem LookI.grown {w : World} {F : Nat} {area : Int} {pre : List Rc} {W W' : World} {A : Option Addr} {c : Nat} {row : Option Nat} (h : LookI w F area pre W A c) (hg : W.grownBy W' row) (hr : NoCells W row) : LookI w F area pre W' A c :=
  ⟨Blk.grownN h.fnd hg hr, h.own.grown hg hr, h.apart, h.nil, Blk.grownN h.zer hg hr⟩
def LookPost (f : Jrn.Fd) (w : World) (e : Ending) (w' : World) : Prop := ∃ A c, e = .returned (.agg (fdR f.area f.life f.count f.next f.stamp f.image A f.events.length c f.stands)) ∧ TxW w' w.heap.size A f.events.length c f.events ∧ Below w.heap.size w w'
theorem blk8' {w : World} {g : Nat} {t : TypeId} {v0 v1 v2 v3 v4 v5 v6 v7 : Value} (h : Blk w g t #[v0, v1, v2, v3, v4, v5, v6, v7]) : w.cell? ⟨g, 0, none⟩ = some v0 ∧ w.cell? ⟨g, 1, none⟩ = some v1 ∧ w.cell? ⟨g, 2, none⟩ = some v2 ∧ w.cell? ⟨g, 3, none⟩ = some v3 ∧ w.cell? ⟨g, 4, none⟩ = some v4 ∧ w.cell? ⟨g, 5, none⟩ = some v5 ∧ w.cell? ⟨g, 6, none⟩ = some v6 ∧ w.cell? ⟨g, 7, none⟩ = some v7 := ⟨h.cell 0, h.cell 1, h.cell 2, h.cell 3, h.cell 4, h.cell 5, h.cell 6, h.cell 7⟩
theorem cell_cells {w : World} {k i : Nat} {cs : Array Value} {t : TypeId} {fr : Nat × Nat} (h : w.heap[k]? = some (.cells cs t fr)) : w.cell? ⟨k, i, none⟩ = cs[i]? := Lib.cell_of_heap h i
abbrev lookAct (A : Option Addr) (n c : Nat) (area : Int) (b v : Nat) (x : Rc) (R : Nat) : Act := { tmps := #[.slice A n c, .int .i64 area, undef, undef, .pointer (some ⟨b, 0, none⟩), .pointer (some ⟨b + 1, 0, none⟩), .pointer (some ⟨R, 0, none⟩), .int .i64 area, .agg #[.int .i64 area, .int .i64 0, .int .i64 0, .int .i64 0, .int .i64 0], .agg #[.int .i64 area, .int .i64 0, .int .i64 0, .int .i64 0, .int .i64 0, .string ⟨#[]⟩, .slice none 0 0, .bool false], .slice A n c, .int .i64 area, .func (.func 77) #[] #[.pointer (some ⟨v + 1, 0, none⟩), .pointer (some ⟨v + 2, 0, none⟩), .pointer (some ⟨v, 0, none⟩)], .agg (recC x), undef, undef, undef, undef, undef, undef, undef, undef, undef, undef, undef, undef, undef, undef, undef, undef, undef, undef, undef, undef, undef, undef, undef, undef, undef, undef, undef, undef], defers := [] }
set_option maxRecDepth 100000 in
set_option maxHeartbeats 8000000 in
theorem look_any (A : Option Addr) (n c area : Nat) (l : List (List UInt8)) (w : World) (hT : Txs w A n l) (hw : ∀ s ∈ l, s.length = 256) (hn0 : 1 ≤ n) (hn : n ≤ 1000) (har : area ≤ 1) :
    Calls Try.prog 58 #[.slice A n c, .int .i64 area] w (LookPost (Jrn.look l area) w) := by
  have hl := hT.len
  subst hl
  have HLk := Lib.hid (look_is l area)
  have hcnt := recs_len l area
  have HW := Lib.hid hw
  have HT := Lib.hid hT
  clear hw hT
  refine (callsIn_wide (n := 5)).1 ?_
  refine callsIn_of_wp_marks Try.func58 rfl trivial ?_ rfl
  simp only [Try.ntmps58, List.size_toArray, List.length_cons, List.length_nil, Nat.reduceAdd, Nat.reduceSub, Array.replicate_succ, Array.replicate_zero, List.push_toArray, List.append_toArray, List.nil_append, List.cons_append]
  gi_wp2_with fail
  obtain ⟨V, hV⟩ : ∃ V, V = (w.alloc (.cells (fdR 0 0 0 0 0 [] none 0 0 false) 93)).alloc (.cells (fdR area 0 0 0 0 [] none 0 0 false) 93) := ⟨_, rfl⟩
  have bV : Below w.heap.size w V := by rw [hV]; exact ((Below.refl _ _).alloc (Nat.le_refl _) _).alloc (by simp) _
  have kZ : Blk V w.heap.size 93 (fdR 0 0 0 0 0 [] none 0 0 false) := by rw [hV]; exact (Blk.new _ _ _).alloc _
  have kF : Blk V (w.heap.size + 1) 93 (fdR area 0 0 0 0 [] none 0 0 false) := by
    rw [hV]
    have := Blk.new (w.alloc (.cells (fdR 0 0 0 0 0 [] none 0 0 false) 93)) 93 (fdR area 0 0 0 0 [] none 0 0 false)
    simpa using this
  have hVs : V.heap.size = w.heap.size + 2 := by rw [hV]; simp
  have hV' : (w.alloc (.cells #[.int .i64 0, .int .i64 0, .int .i64 0, .int .i64 0, .int .i64 0, .string ⟨#[]⟩, .slice none 0 0, .bool false] 93)).alloc (.cells #[.int .i64 area, .int .i64 0, .int .i64 0, .int .i64 0, .int .i64 0, .string ⟨#[]⟩, .slice none 0 0, .bool false] 93) = V := hV.symm
  rw [hV']
  clear hV hV'
  refine ⟨trivial, ?_⟩
  refine (callsIn_wide.2 (records_any A l.length c area V hn)).mono ?_
  rintro e W4 ⟨rfl, hW4⟩
  have b4 : Below V.heap.size V W4 := by rw [hW4]; exact (((Below.refl _ _).alloc (Nat.le_refl _) _).alloc (by simp) _).alloc (by simp; omega) _
  have kL : Blk W4 V.heap.size 34 #[.slice A l.length c] := by rw [hW4]; exact ((Blk.new _ _ _).alloc _).alloc _
  have kA : Blk W4 (V.heap.size + 1) 3 #[.int .i64 area] := by
    rw [hW4]
    have := Blk.new (V.alloc (.cells #[.slice A l.length c] 34)) 3 #[.int .i64 area]
    rw [World.size_alloc] at this
    exact this.alloc _
  have kH : Blk W4 (V.heap.size + 2) 3 #[.int .i64 ((l.length / 2 : Nat) : Int)] := by
    rw [hW4]
    have := Blk.new ((V.alloc (.cells #[.slice A l.length c] 34)).alloc (.cells #[.int .i64 area] 3)) 3 #[.int .i64 ((l.length / 2 : Nat) : Int)]
    rw [World.size_alloc, World.size_alloc] at this
    exact this
  have kZ4 := kZ.below b4 kZ.lt
  have kF4 := kF.below b4 kF.lt
  have b04 : Below w.heap.size w W4 := below_step bV b4
  have hs4 : W4.heap.size = V.heap.size + 3 := by rw [hW4]; simp [RecsW]
  have HT4 := Lib.hid (HT.out.below b04)
  have HA4 : Hid (∀ b off, A = some ⟨b, off, none⟩ → b < W4.heap.size) := fun b off e => txs_lt HT4.out (by omega) e
  have HA0 : Hid (∀ b off, A = some ⟨b, off, none⟩ → b < w.heap.size) := fun b off e => txs_lt HT.out (by omega) e
  have HS3 := Lib.hid hVs
  have HS4 := Lib.hid hs4
  clear hW4 hVs hs4
  gi_wp2_with fail
  have hs3 := HS3.out
  have hs4 := HS4.out
  have g1 : w.heap.size + 1 < V.heap.size := by omega
  refine wpIn_rangeFunc_ownH rfl (by omega) (gf := 77) (lb := #[.pointer (some ⟨V.heap.size + 1, 0, none⟩), .pointer (some ⟨V.heap.size + 2, 0, none⟩), .pointer (some ⟨V.heap.size, 0, none⟩)]) rfl trivial (enters_of Try.func77 (by kernel_rfl) rfl)
    (records_stops _ (by omega) V.heap.size (V.heap.size + 1) (V.heap.size + 2) (w.heap.size + 1) A l.length c area l HW.out hn0 hn har W4 kL kA kH HT4.out g1 (by omega) (by omega)) KeepF.trans (keepF_put (w := W4) HA4.out) (Below.refl _ _) (fun _ => rfl)
    (fun pre W => (∃ A' c', LookI w (w.heap.size + 1) area pre W A' c') ∧ Below w.heap.size w W)
    (fun _ _ _ => False)
    (OwnFrom.and (Own.from (fun pre W W' row hs hg hr => by obtain ⟨A', c', hi⟩ := hs; exact ⟨A', c', hi.grown hg hr⟩) _) (ownFrom_below (Nat.le_refl _) (by have := b04.size; omega)))
    (fun _ _ _ _ _ hs _ _ => hs)
    ⟨⟨none, 0, ⟨kF4, TxW.nil _ _, fun b e => by (cases e), fun _ => rfl, kZ4⟩⟩, b04⟩
    (fun x a' W => ∃ R, a' = lookAct A l.length c area w.heap.size V.heap.size x R ∧ Blk W R 120 (recC x) ∧ w.heap.size + 1 < R)
    (fun x a' => Own.from (fun _ W W' row hs hg hr => by obtain ⟨R, e, hR, hlt⟩ := hs; exact ⟨R, e, Blk.grownN hR hg hr, hlt⟩) _)
    ?assign ?body ?done ?stop
  case assign =>
    clear hs3 hs4
    rintro l' pre ⟨xl, xs, xb, xn⟩ W K ⟨⟨A', c', hi⟩, hB⟩ hK
    gi_wp2_with fail
    have hWs := hi.fnd.lt
    have hbW : Below W.heap.size W (W.alloc (.cells (recC ⟨xl, xs, xb, xn⟩) 120)) := (Below.refl _ _).alloc (Nat.le_refl _) _
    have hnew := Blk.new W 120 (recC ⟨xl, xs, xb, xn⟩)
    have hkf : KeepF A (w.heap.size + 1) W (W.alloc (.cells (recC ⟨xl, xs, xb, xn⟩) 120)) := keepF_below hbW (fun b off e => Nat.lt_of_lt_of_le (HA0.out b off e) hB.size)
    obtain ⟨R, hR⟩ : ∃ R, R = W.heap.size := ⟨_, rfl⟩
    rw [← hR] at hnew ⊢
    exact hK _ _ (KeepsOthers.alloc W _ |>.from _) hkf ⟨⟨A', c', hi.grown (World.grownBy_alloc W _ none) (fun r e => by cases e)⟩, below_step hB hbW⟩ ⟨R, rfl, hnew, by omega⟩
  case body =>
    clear hs3 hs4
    rintro l' pre x a' W hll hlp ⟨⟨A', c', hi⟩, hB⟩ ⟨R, rfl, hR, hlR⟩ hlt
    obtain ⟨xl, xs, xb, xn⟩ := x
    by_cases hp : pre = []
    case pos =>
      subst hp
      have hfnd : Blk W (w.heap.size + 1) 93 (fdR area 0 0 0 0 [] A' 0 c' false) := hi.fnd
      obtain ⟨x0, x1, x2, x3, x4, x5, x6, x7⟩ := blk8' hfnd
      have f1 := hfnd.frozen 1
      have f3 := hfnd.frozen 3
      have f5 := hfnd.frozen 5
      have f7 := hfnd.frozen 7
      obtain ⟨y0, y1, y2, y3⟩ := blk4' hR
      have HI := Lib.hid hi
      clear hi
      gi_wp2_with fail
      refine wpIn_region_any (by kernel_rfl) ?_
      change wpAnyIn _ _ _ _ _ _ _ _ _ (World.drew _)
      refine any_round (by kernel_rfl) _ _ _ _ ?_
      refine wpAnyIn_take (i := 0) (v := ?qv0) rfl rfl (by kernel_rfl) (by kernel_rfl) (by kernel_rfl) (fun _ _ _ h => h) ⟨Or.inl ⟨by rfl, ?qh0⟩, fun _ => rfl⟩ ?qr0
      case qh0 => intro w; go_simp; try rfl
      refine wpAnyIn_take (i := 2) (v := ?qv1) rfl rfl (by kernel_rfl) (by kernel_rfl) (by kernel_rfl) (fun _ _ _ h => h) ⟨Or.inl ⟨by rfl, ?qh1⟩, fun _ => rfl⟩ ?qr1
      case qh1 => intro w; go_simp; try rfl
      refine wpAnyIn_take (i := 4) (v := ?qv2) rfl rfl (by kernel_rfl) (by kernel_rfl) (by kernel_rfl) (fun _ _ _ h => h) ⟨Or.inl ⟨by rfl, ?qh2⟩, fun _ => rfl⟩ ?qr2
      case qh2 => intro w; go_simp; try rfl
      refine wpAnyIn_ready (rs := [1, 3, 5]) (by kernel_rfl) (by simp) ?_
      refine AllReadyIn.cons rfl (fun K hK => ?_) ?_
      go_simp
      refine hK _ _ ?_
      clear hK K
      refine wpAnyIn_ready (rs := [3, 5]) (by kernel_rfl) (by simp) ?_
      refine AllReadyIn.cons rfl (fun K hK => ?_) ?_
      go_simp
      refine hK _ _ ?_
      clear hK K
      refine wpAnyIn_ready (rs := [5]) (by kernel_rfl) (by simp) ?_
      refine AllReadyIn.cons rfl (fun K hK => ?_) ?_
      go_simp
      refine hK _ _ ?_
      clear hK K
      refine wpAnyIn_take (i := 6) (v := ?qv3) rfl rfl (by kernel_rfl) (by kernel_rfl) (by kernel_rfl) (fun _ _ _ h => h) ⟨Or.inl ⟨by rfl, ?qh3⟩, fun _ => rfl⟩ ?qr3
      case qh3 => intro w; go_simp; try rfl
      refine wpAnyIn_take (i := 7) (v := ?qv4) rfl rfl (by kernel_rfl) (by kernel_rfl) (by kernel_rfl) (fun _ _ _ h => h) ⟨Or.inl ⟨by rfl, ?qh4⟩, fun _ => rfl⟩ ?qr4
      case qh4 => intro w; go_simp; try rfl
      refine wpAnyIn_ready (rs := [8]) (by kernel_rfl) (by simp) ?_
      refine AllReadyIn.cons rfl (fun K hK => ?_) ?_
      go_simp
      refine hK _ _ ?_
      clear hK K
      refine wpAnyIn_take (i := 9) (v := ?qv5) rfl rfl (by kernel_rfl) (by kernel_rfl) (by kernel_rfl) (fun _ _ _ h => h) ⟨Or.inl ⟨by rfl, ?qh5⟩, fun _ => rfl⟩ ?qr5
      case qh5 => intro w; go_simp; try rfl
      refine wpAnyIn_ready (rs := [10]) (by kernel_rfl) (by simp) ?_
      refine AllReadyIn.cons rfl (fun K hK => ?_) ?_
      go_simp
      refine hK _ _ ?_
      clear hK K
      refine wpAnyIn_done (by kernel_rfl) ?qend _
      rotate_left
      exact AllReadyIn.nil
      exact AllReadyIn.nil
      exact AllReadyIn.nil
      refine AllReadyIn.cons rfl (fun K hK => ?_) ?_
      go_simp
      refine hK _ _ ?_
      clear hK K
      refine wpAnyIn_take (i := 6) (v := ?qv6) rfl rfl (by kernel_rfl) (by kernel_rfl) (by kernel_rfl) (fun _ _ _ h => h) ⟨Or.inl ⟨by rfl, ?qh6⟩, fun _ => rfl⟩ ?qr6
      case qh6 => intro w; go_simp; try rfl
      refine wpAnyIn_take (i := 7) (v := ?qv7) rfl rfl (by kernel_rfl) (by kernel_rfl) (by kernel_rfl) (fun _ _ _ h => h) ⟨Or.inl ⟨by rfl, ?qh7⟩, fun _ => rfl⟩ ?qr7
      case qh7 => intro w; go_simp; try rfl
      refine wpAnyIn_ready (rs := [3, 8]) (by kernel_rfl) (by simp) ?_
      refine AllReadyIn.cons rfl (fun K hK => ?_) ?_
      go_simp
      refine hK _ _ ?_
      clear hK K
      refine wpAnyIn_ready (rs := [8]) (by kernel_rfl) (by simp) ?_
      refine AllReadyIn.cons rfl (fun K hK => ?_) ?_
      go_simp
      refine hK _ _ ?_
      clear hK K
      refine wpAnyIn_take (i := 9) (v := ?qv8) rfl rfl (by kernel_rfl) (by kernel_rfl) (by kernel_rfl) (fun _ _ _ h => h) ⟨Or.inl ⟨by rfl, ?qh8⟩, fun _ => rfl⟩ ?qr8
      case qh8 => intro w; go_simp; try rfl
      refine wpAnyIn_ready (rs := [10]) (by kernel_rfl) (by simp) ?_
      refine AllReadyIn.cons rfl (fun K hK => ?_) ?_
      go_simp
      refine hK _ _ ?_
      clear hK K
      exact wpAnyIn_done (by kernel_rfl) ?qend _
      exact AllReadyIn.nil
      exact AllReadyIn.nil
      refine AllReadyIn.cons rfl (fun K hK => ?_) ?_
      go_simp
      refine hK _ _ ?_
      clear hK K
      refine wpAnyIn_ready (rs := [3]) (by kernel_rfl) (by simp) ?_
      refine AllReadyIn.cons rfl (fun K hK => ?_) ?_
      go_simp
      refine hK _ _ ?_
      clear hK K
      refine wpAnyIn_take (i := 9) (v := ?qv9) rfl rfl (by kernel_rfl) (by kernel_rfl) (by kernel_rfl) (fun _ _ _ h => h) ⟨Or.inl ⟨by rfl, ?qh9⟩, fun _ => rfl⟩ ?qr9
      case qh9 => intro w; go_simp; try rfl
      refine wpAnyIn_ready (rs := [10]) (by kernel_rfl) (by simp) ?_
      refine AllReadyIn.cons rfl (fun K hK => ?_) ?_
      go_simp
      refine hK _ _ ?_
      clear hK K
      exact wpAnyIn_done (by kernel_rfl) ?qend _
      exact AllReadyIn.nil
      exact AllReadyIn.nil
      exact AllReadyIn.nil
      exact AllReadyIn.nil
      refine AllReadyIn.cons rfl (fun K hK => ?_) ?_
      go_simp
      refine hK _ _ ?_
      clear hK K
      refine wpAnyIn_ready (rs := [1, 5]) (by kernel_rfl) (by simp) ?_
      refine AllReadyIn.cons rfl (fun K hK => ?_) ?_
      go_simp
      refine hK _ _ ?_
      clear hK K
      refine wpAnyIn_ready (rs := [5]) (by kernel_rfl) (by simp) ?_
      refine AllReadyIn.cons rfl (fun K hK => ?_) ?_
      go_simp
      refine hK _ _ ?_
      clear hK K
      refine wpAnyIn_take (i := 6) (v := ?qv10) rfl rfl (by kernel_rfl) (by kernel_rfl) (by kernel_rfl) (fun _ _ _ h => h) ⟨Or.inl ⟨by rfl, ?qh10⟩, fun _ => rfl⟩ ?qr10
      case qh10 => intro w; go_simp; try rfl
      refine wpAnyIn_take (i := 7) (v := ?qv11) rfl rfl (by kernel_rfl) (by kernel_rfl) (by kernel_rfl) (fun _ _ _ h => h) ⟨Or.inl ⟨by rfl, ?qh11⟩, fun _ => rfl⟩ ?qr11
      case qh11 => intro w; go_simp; try rfl
      refine wpAnyIn_ready (rs := [8]) (by kernel_rfl) (by simp) ?_
      refine AllReadyIn.cons rfl (fun K hK => ?_) ?_
      go_simp
      refine hK _ _ ?_
      clear hK K
      refine wpAnyIn_take (i := 9) (v := ?qv12) rfl rfl (by kernel_rfl) (by kernel_rfl) (by kernel_rfl) (fun _ _ _ h => h) ⟨Or.inl ⟨by rfl, ?qh12⟩, fun _ => rfl⟩ ?qr12
      case qh12 => intro w; go_simp; try rfl
      refine wpAnyIn_ready (rs := [10]) (by kernel_rfl) (by simp) ?_
      refine AllReadyIn.cons rfl (fun K hK => ?_) ?_
      go_simp
      refine hK _ _ ?_
      clear hK K
      exact wpAnyIn_done (by kernel_rfl) ?qend _
      exact AllReadyIn.nil
      exact AllReadyIn.nil
      exact AllReadyIn.nil
      refine AllReadyIn.cons rfl (fun K hK => ?_) ?_
      go_simp
      refine hK _ _ ?_
      clear hK K
      refine wpAnyIn_ready (rs := [1]) (by kernel_rfl) (by simp) ?_
      refine AllReadyIn.cons rfl (fun K hK => ?_) ?_
      go_simp
      refine hK _ _ ?_
      clear hK K
      refine wpAnyIn_take (i := 6) (v := ?qv13) rfl rfl (by kernel_rfl) (by kernel_rfl) (by kernel_rfl) (fun _ _ _ h => h) ⟨Or.inl ⟨by rfl, ?qh13⟩, fun _ => rfl⟩ ?qr13
      case qh13 => intro w; go_simp; try rfl
      refine wpAnyIn_take (i := 7) (v := ?qv14) rfl rfl (by kernel_rfl) (by kernel_rfl) (by kernel_rfl) (fun _ _ _ h => h) ⟨Or.inl ⟨by rfl, ?qh14⟩, fun _ => rfl⟩ ?qr14
      case qh14 => intro w; go_simp; try rfl
      refine wpAnyIn_ready (rs := [8]) (by kernel_rfl) (by simp) ?_
      refine AllReadyIn.cons rfl (fun K hK => ?_) ?_
      go_simp
      refine hK _ _ ?_
      clear hK K
      refine wpAnyIn_take (i := 9) (v := ?qv15) rfl rfl (by kernel_rfl) (by kernel_rfl) (by kernel_rfl) (fun _ _ _ h => h) ⟨Or.inl ⟨by rfl, ?qh15⟩, fun _ => rfl⟩ ?qr15
      case qh15 => intro w; go_simp; try rfl
      refine wpAnyIn_ready (rs := [10]) (by kernel_rfl) (by simp) ?_
      refine AllReadyIn.cons rfl (fun K hK => ?_) ?_
      go_simp
      refine hK _ _ ?_
      clear hK K
      exact wpAnyIn_done (by kernel_rfl) ?qend _
      exact AllReadyIn.nil
      exact AllReadyIn.nil
      exact AllReadyIn.nil
      exact AllReadyIn.nil
      refine AllReadyIn.cons rfl (fun K hK => ?_) ?_
      go_simp
      refine hK _ _ ?_
      clear hK K
      refine wpAnyIn_ready (rs := [1, 3]) (by kernel_rfl) (by simp) ?_
      refine AllReadyIn.cons rfl (fun K hK => ?_) ?_
      go_simp
      refine hK _ _ ?_
      clear hK K
      refine wpAnyIn_take (i := 6) (v := ?qv16) rfl rfl (by kernel_rfl) (by kernel_rfl) (by kernel_rfl) (fun _ _ _ h => h) ⟨Or.inl ⟨by rfl, ?qh16⟩, fun _ => rfl⟩ ?qr16
      case qh16 => intro w; go_simp; try rfl
      refine wpAnyIn_take (i := 7) (v := ?qv17) rfl rfl (by kernel_rfl) (by kernel_rfl) (by kernel_rfl) (fun _ _ _ h => h) ⟨Or.inl ⟨by rfl, ?qh17⟩, fun _ => rfl⟩ ?qr17
      case qh17 => intro w; go_simp; try rfl
      refine wpAnyIn_ready (rs := [3, 8]) (by kernel_rfl) (by simp) ?_
      refine AllReadyIn.cons rfl (fun K hK => ?_) ?_
      go_simp
      refine hK _ _ ?_
      clear hK K
      refine wpAnyIn_ready (rs := [8]) (by kernel_rfl) (by simp) ?_
      refine AllReadyIn.cons rfl (fun K hK => ?_) ?_
      go_simp
      refine hK _ _ ?_
      clear hK K
      refine wpAnyIn_take (i := 9) (v := ?qv18) rfl rfl (by kernel_rfl) (by kernel_rfl) (by kernel_rfl) (fun _ _ _ h => h) ⟨Or.inl ⟨by rfl, ?qh18⟩, fun _ => rfl⟩ ?qr18
      case qh18 => intro w; go_simp; try rfl
      refine wpAnyIn_ready (rs := [10]) (by kernel_rfl) (by simp) ?_
      refine AllReadyIn.cons rfl (fun K hK => ?_) ?_
      go_simp
      refine hK _ _ ?_
      clear hK K
      exact wpAnyIn_done (by kernel_rfl) ?qend _
      exact AllReadyIn.nil
      exact AllReadyIn.nil
      refine AllReadyIn.cons rfl (fun K hK => ?_) ?_
      go_simp
      refine hK _ _ ?_
      clear hK K
      refine wpAnyIn_ready (rs := [3]) (by kernel_rfl) (by simp) ?_
      refine AllReadyIn.cons rfl (fun K hK => ?_) ?_
      go_simp
      refine hK _ _ ?_
      clear hK K
      refine wpAnyIn_take (i := 9) (v := ?qv19) rfl rfl (by kernel_rfl) (by kernel_rfl) (by kernel_rfl) (fun _ _ _ h => h) ⟨Or.inl ⟨by rfl, ?qh19⟩, fun _ => rfl⟩ ?qr19
      case qh19 => intro w; go_simp; try rfl
      refine wpAnyIn_ready (rs := [10]) (by kernel_rfl) (by simp) ?_
      refine AllReadyIn.cons rfl (fun K hK => ?_) ?_
      go_simp
      refine hK _ _ ?_
      clear hK K
      exact wpAnyIn_done (by kernel_rfl) ?qend _
      exact AllReadyIn.nil
      exact AllReadyIn.nil
      exact AllReadyIn.nil
      refine AllReadyIn.cons rfl (fun K hK => ?_) ?_
      go_simp
      refine hK _ _ ?_
      clear hK K
      refine wpAnyIn_ready (rs := [1]) (by kernel_rfl) (by simp) ?_
      refine AllReadyIn.cons rfl (fun K hK => ?_) ?_
      go_simp
      refine hK _ _ ?_
      clear hK K
      refine wpAnyIn_take (i := 6) (v := ?qv20) rfl rfl (by kernel_rfl) (by kernel_rfl) (by kernel_rfl) (fun _ _ _ h => h) ⟨Or.inl ⟨by rfl, ?qh20⟩, fun _ => rfl⟩ ?qr20
      case qh20 => intro w; go_simp; try rfl
      refine wpAnyIn_take (i := 7) (v := ?qv21) rfl rfl (by kernel_rfl) (by kernel_rfl) (by kernel_rfl) (fun _ _ _ h => h) ⟨Or.inl ⟨by rfl, ?qh21⟩, fun _ => rfl⟩ ?qr21
      case qh21 => intro w; go_simp; try rfl
      refine wpAnyIn_ready (rs := [8]) (by kernel_rfl) (by simp) ?_
      refine AllReadyIn.cons rfl (fun K hK => ?_) ?_
      go_simp
      refine hK _ _ ?_
      clear hK K
      refine wpAnyIn_take (i := 9) (v := ?qv22) rfl rfl (by kernel_rfl) (by kernel_rfl) (by kernel_rfl) (fun _ _ _ h => h) ⟨Or.inl ⟨by rfl, ?qh22⟩, fun _ => rfl⟩ ?qr22
      case qh22 => intro w; go_simp; try rfl
      refine wpAnyIn_ready (rs := [10]) (by kernel_rfl) (by simp) ?_
      refine AllReadyIn.cons rfl (fun K hK => ?_) ?_
      go_simp
      refine hK _ _ ?_
      clear hK K
      exact wpAnyIn_done (by kernel_rfl) ?qend _
      exact AllReadyIn.nil
      exact AllReadyIn.nil
      exact AllReadyIn.nil
      exact AllReadyIn.nil
      exact AllReadyIn.nil
      gi_wp2_with fail
      have hi := HI.out
      have oth : ∀ k, k ≠ w.heap.size + 1 → ((((((W.setCell ⟨w.heap.size + 1, 7, none⟩ (.bool true)).setCell ⟨w.heap.size + 1, 1, none⟩ (.int .i64 xl)).setCell ⟨w.heap.size + 1, 5, none⟩ (.string (str xb))).drew).setCell ⟨w.heap.size + 1, 3, none⟩ (.int .i64 (xn : Int)))).heap[k]? = W.heap[k]? := fun k hk =>
        ((Below.heap_setCell _ _ _ k hk).trans (Below.heap_setCell _ _ _ k hk)).trans ((Below.heap_setCell _ _ _ k hk).trans (Below.heap_setCell _ _ _ k hk))
      have hsz : W.heap.size ≤ ((((((W.setCell ⟨w.heap.size + 1, 7, none⟩ (.bool true)).setCell ⟨w.heap.size + 1, 1, none⟩ (.int .i64 xl)).setCell ⟨w.heap.size + 1, 5, none⟩ (.string (str xb))).drew).setCell ⟨w.heap.size + 1, 3, none⟩ (.int .i64 (xn : Int)))).heap.size := by simp
      have hA' : A' = none := hi.nil rfl
      subst hA'
      have hc' : c' = 0 := by
        rcases hi.own.shape with ⟨_, _, h⟩ | ⟨g, _, h, _⟩
        · exact h
        · cases h
      subst hc'
      refine ⟨⟨hsz, fun k o hB' hk ho => (oth k (fun e => by subst e; rw [show W.heap[w.heap.size + 1]? = _ from hfnd] at hk; injection hk with hk; subst hk; cases ho)).trans hk⟩, ⟨fun k cs t fr hk _ h => (oth k hk).trans h, fun b off e => oth b (by have := HA0.out b off e; omega)⟩, ⟨none, 0, ⟨?_, TxW.nil _ _, fun b e => by (cases e), fun _ => rfl, (oth _ (by omega)).trans hi.zer⟩⟩, ?_⟩
      · exact (((hfnd.set 7 (.bool true)).set 1 (.int .i64 xl)).set 5 (.string (str xb))).drew.set 3 (.int .i64 (xn : Int))
      · exact ((((hB.setCell (p := ⟨w.heap.size + 1, 7, none⟩) (by simp) _).setCell (p := ⟨w.heap.size + 1, 1, none⟩) (by simp) _).setCell (p := ⟨w.heap.size + 1, 5, none⟩) (by simp) _).drew).setCell (p := ⟨w.heap.size + 1, 3, none⟩) (by simp) _
    case neg =>
      have hne : (!pre.isEmpty) = true := by cases pre with
        | nil => exact absurd rfl hp
        | cons a b => rfl
      have hfnd := hi.fnd
      rw [hne] at hfnd
      have hel : (evs pre).length ≤ l.length + 1 := by
        have : (evs pre).length ≤ pre.length := by simp [evs]
        omega
      obtain ⟨lf, hlf⟩ : ∃ x, x = hLife pre := ⟨_, rfl⟩
      obtain ⟨nx, hnx⟩ : ∃ x, x = lNext pre := ⟨_, rfl⟩
      obtain ⟨im, him⟩ : ∃ x, x = hIm pre := ⟨_, rfl⟩
      obtain ⟨ev, hev⟩ : ∃ x, x = evs pre := ⟨_, rfl⟩
      have hown := hi.own
      have hnil := hi.nil
      rw [← hlf, ← hnx, ← him, ← hev] at hfnd
      rw [← hev] at hown hnil hel
      obtain ⟨x0, x1, x2, x3, x4, x5, x6, x7⟩ := blk8' hfnd
      have f6 := hfnd.frozen 6
      obtain ⟨y0, y1, y2, y3⟩ := blk4' hR
      have nS : ∀ k, (∀ s, W.cell? ⟨k, 0, none⟩ ≠ some (.string s)) → A' ≠ some ⟨k, 0, none⟩ := by
        intro k hs e
        by_cases hz : ev = []
        · rw [hnil hz] at e; cases e
        · rcases hown.shape with ⟨e', _⟩ | ⟨g', cur, e', _, hh, hs'⟩
          · rw [e] at e'; cases e'
          · rw [e] at e'
            injection e' with e'
            injection e' with e'
            subst e'
            obtain ⟨s, h⟩ := hs' hz
            exact hs s ((cell_cells hh).trans h)
      have nR : A' ≠ some ⟨R, 0, none⟩ := nS R (fun s => by rw [y0]; simp)
      obtain ⟨U, hU⟩ : ∃ U, U = W.alloc (.cells #[.string (str xb)] 9) := ⟨_, rfl⟩
      have bU : Below W.heap.size W U := by rw [hU]; exact (Below.refl _ _).alloc (Nat.le_refl _) _
      obtain ⟨i0, hi0, hz0, hz1, hz2⟩ := info_parts StorW.strInfo
      have hrd : Rd U (some ⟨W.heap.size, 0, none⟩) 1 1 [.string (str xb)] := by rw [hU]; exact Rd.one W (.string (str xb)) 9
      obtain ⟨A3, c3, w3, hrun, o3, hgr3, b3', hA3⟩ := app_own (P := Try.prog) U w.heap.size 34 34 9 i0 _ 1 16 Try.underlying34 hi0 hz0 hz1 hz2 rfl (by omega) A' ev.length c' _ (hown.below bU) (some ⟨W.heap.size, 0, none⟩) 1 1 _ hrd (by simp) (by simp; rfl) (by simp [maxLen]; omega) (by omega) (Nat.le_trans hB.size bU.size)
      have hfr : ∀ k, k < U.heap.size → A' ≠ some ⟨k, 0, none⟩ → w3.heap[k]? = U.heap[k]? := fun k hk hne => hgr3.block k hk (fun e => (hown.below bU).ob hne e.symm)
      have o3 : TxW w3 w.heap.size A3 (ev.length + 1) c3 (ev ++ [xb]) := by
        unfold TxW
        rw [show sv (ev ++ [xb]) = sv ev ++ [.string (str xb)] by simp [sv]]
        exact o3
      have hA3 : ∀ b, A3 = some ⟨b, 0, none⟩ → A' = some ⟨b, 0, none⟩ ∨ b = U.heap.size := fun b e => by
        have h1 := o3.ob' e
        rcases hA3 with h | h
        · left
          apply Classical.byContradiction
          intro hne
          exact hown.ob hne (h.symm.trans h1)
        · right
          rw [h1] at h
          injection h
      have HR := Lib.hid hrun
      rw [hU] at HR
      have hsU : U.heap.size = W.heap.size + 1 := by rw [hU]; simp
      have keep : ∀ b, b < W.heap.size → A' ≠ some ⟨b, 0, none⟩ → w3.heap[b]? = W.heap[b]? := fun b hb hne => (hfr b (by omega) hne).trans (bU.block b hb)
      have nA : ∀ b, b ≤ w.heap.size + 1 → A' ≠ some ⟨b, 0, none⟩ := fun b hb e => by
        have := hi.apart b e
        omega
      have hfnd3 : Blk w3 (w.heap.size + 1) 93 (fdR area lf 0 nx 0 im A' ev.length c' true) := (keep _ hfnd.lt (nA _ (by omega))).trans hfnd
      have hR3 : Blk w3 R 120 (recC ⟨xl, xs, xb, xn⟩) := (keep _ hR.lt nR).trans hR
      have xU := blk8' (hfnd.alloc (.cells #[.string (str xb)] 9))
      obtain ⟨u0, u1, u2, u3, u4, u5, u6, u7⟩ := xU
      obtain ⟨v0, v1, v2, v3, v4, v5, v6, v7⟩ := blk8' hfnd3
      obtain ⟨r0, r1, r2, r3⟩ := blk4' hR3
      have g3 := hfnd3.frozen 3
      have g6 := hfnd3.frozen 6
      have HI := Lib.hid hi
      have HO3 := Lib.hid o3
      have HA3 := Lib.hid hA3
      have HKeep := Lib.hid keep
      have HB3 := Lib.hid (bU.mono hB.size |>.trans b3')
      have hsz3 : W.heap.size + 1 ≤ w3.heap.size := by rw [← hsU]; exact b3'.size
      have HF3 := Lib.hid hfnd3
      have HZer := Lib.hid hi.zer
      have HNil := Lib.hid hnil
      have HEv := Lib.hid hev
      have HLf := Lib.hid hlf
      have HUs := Lib.hid hsU
      have HIm := Lib.hid him
      have HOwn := Lib.hid hown
      have HNA := Lib.hid nA
      have HNS := Lib.hid nS
      clear hi o3 hrun hfr hU hA3 hrd hgr3 b3' bU keep hnil hev hlf him hnx hown hfnd3 nA nS
      gi_wp2_with (gi_at_builtin; refine wpListIn_app2 rfl _ _ rfl rfl rfl HR.out ?_)
      have hi := HI.out
      have oth : ∀ k, k ≠ w.heap.size + 1 → ((w3.setCell ⟨w.heap.size + 1, 6, none⟩ (.slice A3 (ev.length + 1) c3)).setCell ⟨w.heap.size + 1, 3, none⟩ (.int .i64 (xn : Int))).heap[k]? = w3.heap[k]? := fun k hk =>
        (Below.heap_setCell _ _ _ k hk).trans (Below.heap_setCell _ _ _ k hk)
      have hsz : w3.heap.size ≤ ((w3.setCell ⟨w.heap.size + 1, 6, none⟩ (.slice A3 (ev.length + 1) c3)).setCell ⟨w.heap.size + 1, 3, none⟩ (.int .i64 (xn : Int))).heap.size := by simp
      have hF := hi.fnd.lt
      have hevs : evs (pre ++ [⟨xl, xs, xb, xn⟩]) = ev ++ [xb] := by rw [evs_snoc _ _ hp, ← HEv.out]
      have hap : ∀ b, A3 = some ⟨b, 0, none⟩ → w.heap.size + 1 < b := fun b e => by
        rcases HA3.out b e with h | h
        · exact hi.apart b h
        · have := HUs.out
          have := hi.fnd.lt
          omega
      have hst : (!(pre ++ [(⟨xl, xs, xb, xn⟩ : Rc)]).isEmpty) = true := by simp
      refine ⟨⟨by omega, fun k o hB' hk ho => ?_⟩, ⟨fun k cs t fr hk hs h => ?_, fun b off e => ?_⟩, ⟨A3, c3, ⟨?_, ?_, hap, fun h => ?_, ?_⟩⟩, ?_⟩
      · have hne' : k ≠ w.heap.size + 1 := fun e => by
          subst e
          rw [show W.heap[w.heap.size + 1]? = _ from hi.fnd] at hk
          injection hk with hk
          subst hk
          cases ho
        rw [oth k hne', HKeep.out k (Array.getElem?_eq_some_iff.1 hk).1 (fun e => by
          obtain ⟨o', ho', hc'⟩ := hi.own.cells k e
          rw [hk] at ho'
          injection ho' with e'
          subst e'
          rw [ho] at hc'
          cases hc')]
        exact hk
      · rw [oth k hk, HKeep.out k (Array.getElem?_eq_some_iff.1 h).1 (HNS.out k fun s => by rw [cell_cells h]; exact hs s)]
        exact h
      · have hb := HA0.out b off e
        rw [oth b (by omega), HKeep.out b (by omega) (HNA.out b (by omega))]
      · rw [hevs, hLife_snoc _ _ hp, hIm_snoc _ _ hp, lNext_snoc, hst, ← HLf.out, ← HIm.out, List.length_append]
        exact (HF3.out.set 6 (.slice A3 (ev.length + 1) c3)).set 3 (.int .i64 (xn : Int))
      · rw [hevs, List.length_append]
        exact HO3.out.same (fun g e _ => oth g (by have := hap g e; omega))
      · rw [hevs] at h
        simp at h
      · exact ((oth _ (by omega)).trans (HKeep.out _ (by omega) (HNA.out _ (by omega)))).trans HZer.out
      · exact ((hB.trans HB3.out).setCell (p := ⟨w.heap.size + 1, 6, none⟩) (by simp) _).setCell (p := ⟨w.heap.size + 1, 3, none⟩) (by simp) _
  case done =>
    clear hs3 hs4
    rintro D ys W hD rfl ⟨⟨A', c', hi⟩, hB⟩ hK
    obtain ⟨x0, x1, x2, x3, x4, x5, x6, x7⟩ := blk8' hi.fnd
    obtain ⟨z0, z1, z2, z3, z4, z5, z6, z7⟩ := blk8' hi.zer
    have f2 := hi.fnd.frozen 2
    have e0 := hi.zer.frozen 0
    have e1 := hi.zer.frozen 1
    have e2 := hi.zer.frozen 2
    have e3 := hi.zer.frozen 3
    have e4 := hi.zer.frozen 4
    have e5 := hi.zer.frozen 5
    have e6 := hi.zer.frozen 6
    have e7 := hi.zer.frozen 7
    have HI := Lib.hid hi
    clear hi
    gi_wp2_with fail
    have hi := HI.out
    have hs4 := HS4.out
    have hs3 := HS3.out
    obtain ⟨ct, hct⟩ : ∃ ct, ct = (evs (recs l area)).length := ⟨_, rfl⟩
    have kR1 : Blk (W.setCell ⟨w.heap.size + 1, 2, none⟩ (.int .i64 ((evs (recs l area)).length : Int))) w.heap.size 93 (fdR 0 0 0 0 0 [] none 0 0 false) := hi.zer.far (p := ⟨w.heap.size + 1, 2, none⟩) (by simp) _
    have kR2 := (((((((kR1.set 0 (.int .i64 area)).set 1 (.int .i64 (hLife (recs l area)))).set 2 (.int .i64 ((evs (recs l area)).length : Int))).set 3 (.int .i64 (lNext (recs l area)))).set 4 (.int .i64 0)).set 5 (.string (str (hIm (recs l area))))).set 6 (.slice A' (evs (recs l area)).length c')).set 7 (.bool (!(recs l area).isEmpty))
    have bX : Below w.heap.size w ((((((((((W.setCell ⟨w.heap.size + 1, 2, none⟩ (.int .i64 ((evs (recs l area)).length : Int))).setCell ⟨w.heap.size, 0, none⟩ (.int .i64 area)).setCell ⟨w.heap.size, 1, none⟩ (.int .i64 (hLife (recs l area)))).setCell ⟨w.heap.size, 2, none⟩ (.int .i64 ((evs (recs l area)).length : Int))).setCell ⟨w.heap.size, 3, none⟩ (.int .i64 (lNext (recs l area)))).setCell ⟨w.heap.size, 4, none⟩ (.int .i64 0)).setCell ⟨w.heap.size, 5, none⟩ (.string (str (hIm (recs l area))))).setCell ⟨w.heap.size, 6, none⟩ (.slice A' (evs (recs l area)).length c')).setCell ⟨w.heap.size, 7, none⟩ (.bool (!(recs l area).isEmpty)))) :=
      ((((((((hB.setCell (p := ⟨w.heap.size + 1, 2, none⟩) (by simp) _).setCell (p := ⟨w.heap.size, 0, none⟩) (Nat.le_refl _) _).setCell (p := ⟨w.heap.size, 1, none⟩) (Nat.le_refl _) _).setCell (p := ⟨w.heap.size, 2, none⟩) (Nat.le_refl _) _).setCell (p := ⟨w.heap.size, 3, none⟩) (Nat.le_refl _) _).setCell (p := ⟨w.heap.size, 4, none⟩) (Nat.le_refl _) _).setCell (p := ⟨w.heap.size, 5, none⟩) (Nat.le_refl _) _).setCell (p := ⟨w.heap.size, 6, none⟩) (Nat.le_refl _) _).setCell (p := ⟨w.heap.size, 7, none⟩) (Nat.le_refl _) _
    have oX : ∀ k, k ≠ w.heap.size → k ≠ w.heap.size + 1 → ((((((((((W.setCell ⟨w.heap.size + 1, 2, none⟩ (.int .i64 ((evs (recs l area)).length : Int))).setCell ⟨w.heap.size, 0, none⟩ (.int .i64 area)).setCell ⟨w.heap.size, 1, none⟩ (.int .i64 (hLife (recs l area)))).setCell ⟨w.heap.size, 2, none⟩ (.int .i64 ((evs (recs l area)).length : Int))).setCell ⟨w.heap.size, 3, none⟩ (.int .i64 (lNext (recs l area)))).setCell ⟨w.heap.size, 4, none⟩ (.int .i64 0)).setCell ⟨w.heap.size, 5, none⟩ (.string (str (hIm (recs l area))))).setCell ⟨w.heap.size, 6, none⟩ (.slice A' (evs (recs l area)).length c')).setCell ⟨w.heap.size, 7, none⟩ (.bool (!(recs l area).isEmpty)))).heap[k]? = W.heap[k]? := fun k h0 h1 =>
      (Below.heap_setCell _ _ _ k h0).trans ((Below.heap_setCell _ _ _ k h0).trans ((Below.heap_setCell _ _ _ k h0).trans ((Below.heap_setCell _ _ _ k h0).trans ((Below.heap_setCell _ _ _ k h0).trans ((Below.heap_setCell _ _ _ k h0).trans ((Below.heap_setCell _ _ _ k h0).trans ((Below.heap_setCell _ _ _ k h0).trans (Below.heap_setCell _ _ _ k h1))))))))
    obtain ⟨WX, hWX⟩ : ∃ WX, WX = ((((((((((W.setCell ⟨w.heap.size + 1, 2, none⟩ (.int .i64 ((evs (recs l area)).length : Int))).setCell ⟨w.heap.size, 0, none⟩ (.int .i64 area)).setCell ⟨w.heap.size, 1, none⟩ (.int .i64 (hLife (recs l area)))).setCell ⟨w.heap.size, 2, none⟩ (.int .i64 ((evs (recs l area)).length : Int))).setCell ⟨w.heap.size, 3, none⟩ (.int .i64 (lNext (recs l area)))).setCell ⟨w.heap.size, 4, none⟩ (.int .i64 0)).setCell ⟨w.heap.size, 5, none⟩ (.string (str (hIm (recs l area))))).setCell ⟨w.heap.size, 6, none⟩ (.slice A' (evs (recs l area)).length c')).setCell ⟨w.heap.size, 7, none⟩ (.bool (!(recs l area).isEmpty)))) := ⟨_, rfl⟩
    rw [← hWX] at kR2 bX oX ⊢
    have hszX : W.heap.size ≤ WX.heap.size := by rw [hWX]; simp
    have kR3 : Blk WX w.heap.size 93 (fdR area (hLife (recs l area)) ((evs (recs l area)).length : Int) (lNext (recs l area)) 0 (hIm (recs l area)) A' (evs (recs l area)).length c' (!(recs l area).isEmpty)) := kR2
    clear hWX kR2 kR1
    have hK' : WX.heap[D]? = some (.deferred (some [])) := (oX D (by omega) (by omega)).trans hK
    refine ⟨by simp, .inl ⟨_, _, rfl, run_takeDeferred hK', ?_⟩⟩
    have hg := grownBy_putObj' WX D (.deferred none)
    have hr : NoCells WX (some D) := fun r e => by cases e; exact ⟨_, hK', rfl⟩
    obtain ⟨q0, q1, q2, q3, q4, q5, q6, q7⟩ := blk8' (Blk.grownN kR3 hg hr)
    have own1 : TxW WX w.heap.size A' (evs (recs l area)).length c' (evs (recs l area)) := hi.own.same (fun g e _ => by have := hi.apart g e; exact oX g (by omega) (by omega))
    have own : TxW (WX.putObj D (.deferred none)) w.heap.size A' (evs (recs l area)).length c' (evs (recs l area)) := own1.grown hg hr
    refine ⟨.agg (fdR area (hLife (recs l area)) ((evs (recs l area)).length : Int) (lNext (recs l area)) 0 (hIm (recs l area)) A' (evs (recs l area)).length c' (!(recs l area).isEmpty)), by simp [results, Try.results58, go_sem, q0, q1, q2, q3, q4, q5, q6, q7], ?_⟩
    rw [HLk.out]
    exact ⟨A', c', rfl, own, bX.trans (belowK_b (w := w) (Nat.le_refl _) WX D _ _ (by have := b04.size; omega) hK' rfl rfl)⟩
  case stop =>
    rintro D c pre W _ _ h _
    exact h.elim
end Go.Proofs.Ytdhnegcblnpmfaa.JrnW

namespace Go.Proofs.Ytdhnegcblnpmfaa.JrnW
open Go.RowKit Mem Jrn PackW FrameW
set_option linter.unusedVariables false
set_option linter.unusedSimpArgs false

theorem counts_a {l : List (List UInt8)} (h : (Jrn.look l 0).stands = true) (h2 : ¬ ((Jrn.look l 1).stands = true ∧ (Jrn.look l 0).life < (Jrn.look l 1).life)) : Jrn.counts l = { Jrn.look l 0 with stamp := Jrn.stamped l } := by
  unfold Jrn.counts
  simp only
  rw [if_neg]
  rintro (h3 | h3)
  · rw [h] at h3; cases h3
  · exact h2 h3
theorem counts_b {l : List (List UInt8)} (h : (Jrn.look l 0).stands = false ∨ ((Jrn.look l 1).stands = true ∧ (Jrn.look l 0).life < (Jrn.look l 1).life)) : Jrn.counts l = { Jrn.look l 1 with stamp := Jrn.stamped l } := by
  unfold Jrn.counts
  simp only
  rw [if_pos h]
set_option maxHeartbeats 4000000 in
theorem blk8_st {w : World} {g : Nat} {t : TypeId} {u0 u1 u2 u3 u4 u5 u6 u7 : Value} (h : Blk w g t #[u0, u1, u2, u3, u4, u5, u6, u7]) (v0 v1 v2 v3 v4 v5 v6 v7 : Value) : Blk ((((((((w.setCell ⟨g, 0, none⟩ v0).setCell ⟨g, 1, none⟩ v1).setCell ⟨g, 2, none⟩ v2).setCell ⟨g, 3, none⟩ v3).setCell ⟨g, 4, none⟩ v4).setCell ⟨g, 5, none⟩ v5).setCell ⟨g, 6, none⟩ v6).setCell ⟨g, 7, none⟩ v7) g t #[v0, v1, v2, v3, v4, v5, v6, v7] := (((((((h.set 0 v0).set 1 v1).set 2 v2).set 3 v3).set 4 v4).set 5 v5).set 6 v6).set 7 v7
theorem below8_st {w0 w : World} {base g : Nat} (h : Below base w0 w) (hg : base ≤ g) (v0 v1 v2 v3 v4 v5 v6 v7 : Value) : Below base w0 ((((((((w.setCell ⟨g, 0, none⟩ v0).setCell ⟨g, 1, none⟩ v1).setCell ⟨g, 2, none⟩ v2).setCell ⟨g, 3, none⟩ v3).setCell ⟨g, 4, none⟩ v4).setCell ⟨g, 5, none⟩ v5).setCell ⟨g, 6, none⟩ v6).setCell ⟨g, 7, none⟩ v7) :=
  (((((((h.setCell (p := ⟨g, 0, none⟩) hg v0).setCell (p := ⟨g, 1, none⟩) hg v1).setCell (p := ⟨g, 2, none⟩) hg v2).setCell (p := ⟨g, 3, none⟩) hg v3).setCell (p := ⟨g, 4, none⟩) hg v4).setCell (p := ⟨g, 5, none⟩) hg v5).setCell (p := ⟨g, 6, none⟩) hg v6).setCell (p := ⟨g, 7, none⟩) hg v7
theorem far8_st {w : World} {g k : Nat} {t : TypeId} {cs : Array Value} (h : Blk w k t cs) (hk : k ≠ g) (v0 v1 v2 v3 v4 v5 v6 v7 : Value) : Blk ((((((((w.setCell ⟨g, 0, none⟩ v0).setCell ⟨g, 1, none⟩ v1).setCell ⟨g, 2, none⟩ v2).setCell ⟨g, 3, none⟩ v3).setCell ⟨g, 4, none⟩ v4).setCell ⟨g, 5, none⟩ v5).setCell ⟨g, 6, none⟩ v6).setCell ⟨g, 7, none⟩ v7) k t cs :=
  (((((((h.far (p := ⟨g, 0, none⟩) hk v0).far (p := ⟨g, 1, none⟩) hk v1).far (p := ⟨g, 2, none⟩) hk v2).far (p := ⟨g, 3, none⟩) hk v3).far (p := ⟨g, 4, none⟩) hk v4).far (p := ⟨g, 5, none⟩) hk v5).far (p := ⟨g, 6, none⟩) hk v6).far (p := ⟨g, 7, none⟩) hk v7
theorem o8_st {w : World} {g : Nat} (k : Nat) (hk : k ≠ g) (v0 v1 v2 v3 v4 v5 v6 v7 : Value) : ((((((((w.setCell ⟨g, 0, none⟩ v0).setCell ⟨g, 1, none⟩ v1).setCell ⟨g, 2, none⟩ v2).setCell ⟨g, 3, none⟩ v3).setCell ⟨g, 4, none⟩ v4).setCell ⟨g, 5, none⟩ v5).setCell ⟨g, 6, none⟩ v6).setCell ⟨g, 7, none⟩ v7).heap[k]? = w.heap[k]? :=
  (Below.heap_setCell _ _ _ k hk).trans ((Below.heap_setCell _ _ _ k hk).trans ((Below.heap_setCell _ _ _ k hk).trans ((Below.heap_setCell _ _ _ k hk).trans ((Below.heap_setCell _ _ _ k hk).trans ((Below.heap_setCell _ _ _ k hk).trans ((Below.heap_setCell _ _ _ k hk).trans (Below.heap_setCell _ _ _ k hk)))))))
set_option maxHeartbeats 8000000 in
set_option maxRecDepth 100000 in
theorem counts_any (A : Option Addr) (n c : Nat) (l : List (List UInt8)) (w : World) (hT : Txs w A n l) (hw : ∀ s ∈ l, s.length = 256) (hn0 : 1 ≤ n) (hn : n ≤ 1000) :
    Calls Try.prog 54 #[.slice A n c] w (LookPost (Jrn.counts l) w) := by
  have hl := hT.len
  subst hl
  have HW := Lib.hid hw
  have HL0 := Lib.hid fun w h => look_any A l.length c 0 l w h HW.out hn0 hn (by omega)
  have HL1 := Lib.hid fun w h => look_any A l.length c 1 l w h HW.out hn0 hn (by omega)
  have HS := Lib.hid fun w h => stamped_any A l.length c l w h hn (fun s hs => by rw [HW.out s hs]; omega)
  have HCa := Lib.hid fun h h2 => counts_a (l := l) h h2
  have HCb := Lib.hid fun h => counts_b (l := l) h
  obtain ⟨fa, hfa⟩ : ∃ x, x = Jrn.look l 0 := ⟨_, rfl⟩
  obtain ⟨fb, hfb⟩ : ∃ x, x = Jrn.look l 1 := ⟨_, rfl⟩
  obtain ⟨stp, hstp⟩ : ∃ x, x = Jrn.stamped l := ⟨_, rfl⟩
  obtain ⟨fc, hfc⟩ : ∃ x, x = Jrn.counts l := ⟨_, rfl⟩
  rw [← hfa] at HL0 HCa HCb
  rw [← hfb] at HL1 HCa HCb
  rw [← hstp] at HS HCa HCb
  rw [← hfc] at HCa HCb ⊢
  clear hfa hfb hstp hfc hw
  obtain ⟨aA, aL, aC, aN, aS, aI, aE, aB⟩ := fa
  obtain ⟨bA, bL, bC, bN, bS, bI, bE, bB⟩ := fb
  simp only [LookPost] at HL0 HL1 HCa HCb
  have b0 : Below w.heap.size w (w.alloc (.cells (fdR 0 0 0 0 0 [] none 0 0 false) 93)) := (Below.refl _ _).alloc (Nat.le_refl _) _
  have kZ0 := Blk.new w 93 (fdR 0 0 0 0 0 [] none 0 0 false)
  have hT0 := hT.below b0
  have C0 := Lib.hid (HL0.out _ hT0)
  go_enter Try.func54, Try.ntmps54
  go_wp2_with fail
  refine C0.out.mono ?_
  rintro e w1 ⟨A1, c1, rfl, hE1, b1⟩
  rw [World.size_alloc] at hE1
  have hb1 := below_step b0 b1
  have kZ1 := kZ0.below b1 kZ0.lt
  have C1 := Lib.hid (HL1.out w1 (hT.below hb1))
  clear b0 kZ0 hT0 C0
  go_wp2_with fail
  refine C1.out.mono ?_
  rintro e w2 ⟨A2, c2, rfl, hE2, b2⟩
  have h12 := b2.size
  have h01 := hb1.size
  have hz1 := kZ1.lt
  have hE2 : TxW w2 (w.heap.size + 1) A2 bE.length c2 bE := TxW.mono hE2 (by omega)
  have Lt1 : Hid (∀ b, A1 = some ⟨b, 0, none⟩ → b < w2.heap.size) := fun b e => by have := (hE1.lt e).1; omega
  have Lt2 : Hid (∀ b, A2 = some ⟨b, 0, none⟩ → b < w2.heap.size) := fun b e => (hE2.lt e).1
  have hb2 := below_step hb1 b2
  have kZ2 := kZ1.below b2 kZ1.lt
  have hE12 := hE1.below b2
  obtain ⟨V, hV⟩ : ∃ V, V = (w2.alloc (.cells (fdR aA aL aC aN aS aI A1 aE.length c1 aB) 93)).alloc (.cells (fdR bA bL bC bN bS bI A2 bE.length c2 bB) 93) := ⟨_, rfl⟩
  have bV : Below w2.heap.size w2 V := by rw [hV]; exact ((Below.refl _ _).alloc (Nat.le_refl _) _).alloc (by simp) _
  have kA : Blk V w2.heap.size 93 (fdR aA aL aC aN aS aI A1 aE.length c1 aB) := by rw [hV]; exact (Blk.new _ _ _).alloc _
  have kB : Blk V (w2.heap.size + 1) 93 (fdR bA bL bC bN bS bI A2 bE.length c2 bB) := by
    rw [hV]
    have := Blk.new (w2.alloc (.cells (fdR aA aL aC aN aS aI A1 aE.length c1 aB) 93)) 93 (fdR bA bL bC bN bS bI A2 bE.length c2 bB)
    simpa using this
  have hbV := below_step hb2 bV
  have kZ := kZ2.below bV kZ2.lt
  have HEa := Lib.hid (hE12.below bV)
  have HEb := Lib.hid (hE2.below bV)
  have hTV := hT.below hbV
  have hzw : w.heap.size < w2.heap.size := Nat.lt_of_lt_of_le kZ1.lt b2.size
  clear hb1 kZ1 hb2 kZ2 hE1 hE12 hE2 b1 b2 C1 bV h12 h01 hz1
  obtain ⟨x0, x1, x2, x3, x4, x5, x6, x7⟩ := blk8' kA
  obtain ⟨y0, y1, y2, y3, y4, y5, y6, y7⟩ := blk8' kB
  go_upto_region 2 with fail
  rw [← hV]
  clear hV
  have fA : ∀ i, V.frozen? ⟨w2.heap.size, i, none⟩ = false := fun i => kA.frozen i
  have fZ : ∀ i, V.frozen? ⟨w.heap.size, i, none⟩ = false := fun i => kZ.frozen i
  cases aB with
  | false =>
    have HC := Lib.hid (HCb.out (.inl rfl))
    clear HCa HCb
    go_wp2_with fail
    obtain ⟨U, hU⟩ : ∃ U, U = ((((((((V.setCell ⟨w2.heap.size, 0, none⟩ (.int .i64 bA)).setCell ⟨w2.heap.size, 1, none⟩ (.int .i64 bL)).setCell ⟨w2.heap.size, 2, none⟩ (.int .i64 bC)).setCell ⟨w2.heap.size, 3, none⟩ (.int .i64 bN)).setCell ⟨w2.heap.size, 4, none⟩ (.int .i64 bS)).setCell ⟨w2.heap.size, 5, none⟩ (.string (str bI))).setCell ⟨w2.heap.size, 6, none⟩ (.slice A2 bE.length c2)).setCell ⟨w2.heap.size, 7, none⟩ (.bool bB)) := ⟨_, rfl⟩
    have kA2 : Blk U w2.heap.size 93 (fdR bA bL bC bN bS bI A2 bE.length c2 bB) := by rw [hU]; exact blk8_st kA _ _ _ _ _ _ _ _
    have kZ2 : Blk U w.heap.size 93 (fdR 0 0 0 0 0 [] none 0 0 false) := by rw [hU]; exact far8_st kZ (by simp; omega) _ _ _ _ _ _ _ _
    have hbU : Below w.heap.size w U := by rw [hU]; exact below8_st hbV (by omega) _ _ _ _ _ _ _ _
    have oU : Hid (∀ k, k < w2.heap.size → U.heap[k]? = V.heap[k]?) := fun k hk => by rw [hU]; exact o8_st k (by omega) _ _ _ _ _ _ _ _
    have hTU := hT.below hbU
    rw [← hU]
    clear hU
    clear x0 x1 x2 x3 x4 x5 x6 x7 y0 y1 y2 y3 y4 y5 y6 y7 fA fZ kA kB kZ hbV hTV
    refine (HS.out U hTU).mono ?_
    rintro e w3 ⟨rfl, hw3⟩
    subst hw3
    obtain ⟨x0, x1, x2, x3, x4, x5, x6, x7⟩ := blk8' kA2
    obtain ⟨z0, z1, z2, z3, z4, z5, z6, z7⟩ := blk8' kZ2
    have fA : ∀ i, U.frozen? ⟨w2.heap.size, i, none⟩ = false := fun i => kA2.frozen i
    have fZ : ∀ i, U.frozen? ⟨w.heap.size, i, none⟩ = false := fun i => kZ2.frozen i
    go_wp2_with fail
    have kR := blk8_st (kZ2.far (p := ⟨w2.heap.size, 4, none⟩) (by simp; omega) (.int .i64 stp)) (.int .i64 bA) (.int .i64 bL) (.int .i64 bC) (.int .i64 bN) (.int .i64 stp) (.string (str bI)) (.slice A2 bE.length c2) (.bool bB)
    obtain ⟨q0, q1, q2, q3, q4, q5, q6, q7⟩ := blk8' kR
    have hbZ := below8_st (hbU.setCell (p := ⟨w2.heap.size, 4, none⟩) (by simp; omega) (.int .i64 stp)) (Nat.le_refl _) (.int .i64 bA) (.int .i64 bL) (.int .i64 bC) (.int .i64 bN) (.int .i64 stp) (.string (str bI)) (.slice A2 bE.length c2) (.bool bB)
    refine bodyPost_ret (v := .agg (fdR bA bL bC bN stp bI A2 bE.length c2 bB)) (by simp [results, Try.results54, go_sem, q0, q1, q2, q3, q4, q5, q6, q7]) rfl ?_
    rw [HC.out]
    refine ⟨A2, c2, rfl, ?_, hbZ⟩
    exact TxW.mono (HEb.out.same (fun b e h1 => ((o8_st _ (by omega) _ _ _ _ _ _ _ _).trans (Below.heap_setCell _ _ _ b (by have := Lt2.out b e; simp; omega))).trans (oU.out b (Lt2.out b e)))) (by omega)
  | true =>
    cases bB with
    | false =>
      have HC := Lib.hid (HCa.out rfl (fun h => by cases h.1))
      clear HCa HCb
      go_wp2_with fail
      obtain ⟨U, hU⟩ : ∃ U, U = V := ⟨_, rfl⟩
      have kA2 : Blk U w2.heap.size 93 (fdR aA aL aC aN aS aI A1 aE.length c1 true) := by rw [hU]; exact kA
      have kZ2 : Blk U w.heap.size 93 (fdR 0 0 0 0 0 [] none 0 0 false) := by rw [hU]; exact kZ
      have hbU : Below w.heap.size w U := by rw [hU]; exact hbV
      have oU : Hid (∀ k, k < w2.heap.size → U.heap[k]? = V.heap[k]?) := fun k hk => by rw [hU]
      have hTU := hT.below hbU
      rw [← hU]
      clear hU
      clear x0 x1 x2 x3 x4 x5 x6 x7 y0 y1 y2 y3 y4 y5 y6 y7 fA fZ kA kB kZ hbV hTV
      refine (HS.out U hTU).mono ?_
      rintro e w3 ⟨rfl, hw3⟩
      subst hw3
      obtain ⟨x0, x1, x2, x3, x4, x5, x6, x7⟩ := blk8' kA2
      obtain ⟨z0, z1, z2, z3, z4, z5, z6, z7⟩ := blk8' kZ2
      have fA : ∀ i, U.frozen? ⟨w2.heap.size, i, none⟩ = false := fun i => kA2.frozen i
      have fZ : ∀ i, U.frozen? ⟨w.heap.size, i, none⟩ = false := fun i => kZ2.frozen i
      go_wp2_with fail
      have kR := blk8_st (kZ2.far (p := ⟨w2.heap.size, 4, none⟩) (by simp; omega) (.int .i64 stp)) (.int .i64 aA) (.int .i64 aL) (.int .i64 aC) (.int .i64 aN) (.int .i64 stp) (.string (str aI)) (.slice A1 aE.length c1) (.bool true)
      obtain ⟨q0, q1, q2, q3, q4, q5, q6, q7⟩ := blk8' kR
      have hbZ := below8_st (hbU.setCell (p := ⟨w2.heap.size, 4, none⟩) (by simp; omega) (.int .i64 stp)) (Nat.le_refl _) (.int .i64 aA) (.int .i64 aL) (.int .i64 aC) (.int .i64 aN) (.int .i64 stp) (.string (str aI)) (.slice A1 aE.length c1) (.bool true)
      refine bodyPost_ret (v := .agg (fdR aA aL aC aN stp aI A1 aE.length c1 true)) (by simp [results, Try.results54, go_sem, q0, q1, q2, q3, q4, q5, q6, q7]) rfl ?_
      rw [HC.out]
      refine ⟨A1, c1, rfl, ?_, hbZ⟩
      exact TxW.mono (HEa.out.same (fun b e h1 => ((o8_st _ (by omega) _ _ _ _ _ _ _ _).trans (Below.heap_setCell _ _ _ b (by have := Lt1.out b e; simp; omega))).trans (oU.out b (Lt1.out b e)))) (by omega)
    | true =>
      by_cases hlt : aL < bL
      case pos =>
        have HC := Lib.hid (HCb.out (.inr ⟨rfl, hlt⟩))
        clear HCa HCb
        go_wp2_with fail
        obtain ⟨U, hU⟩ : ∃ U, U = ((((((((V.setCell ⟨w2.heap.size, 0, none⟩ (.int .i64 bA)).setCell ⟨w2.heap.size, 1, none⟩ (.int .i64 bL)).setCell ⟨w2.heap.size, 2, none⟩ (.int .i64 bC)).setCell ⟨w2.heap.size, 3, none⟩ (.int .i64 bN)).setCell ⟨w2.heap.size, 4, none⟩ (.int .i64 bS)).setCell ⟨w2.heap.size, 5, none⟩ (.string (str bI))).setCell ⟨w2.heap.size, 6, none⟩ (.slice A2 bE.length c2)).setCell ⟨w2.heap.size, 7, none⟩ (.bool true)) := ⟨_, rfl⟩
        have kA2 : Blk U w2.heap.size 93 (fdR bA bL bC bN bS bI A2 bE.length c2 true) := by rw [hU]; exact blk8_st kA _ _ _ _ _ _ _ _
        have kZ2 : Blk U w.heap.size 93 (fdR 0 0 0 0 0 [] none 0 0 false) := by rw [hU]; exact far8_st kZ (by simp; omega) _ _ _ _ _ _ _ _
        have hbU : Below w.heap.size w U := by rw [hU]; exact below8_st hbV (by omega) _ _ _ _ _ _ _ _
        have oU : Hid (∀ k, k < w2.heap.size → U.heap[k]? = V.heap[k]?) := fun k hk => by rw [hU]; exact o8_st k (by omega) _ _ _ _ _ _ _ _
        have hTU := hT.below hbU
        rw [← hU]
        clear hU
        clear x0 x1 x2 x3 x4 x5 x6 x7 y0 y1 y2 y3 y4 y5 y6 y7 fA fZ kA kB kZ hbV hTV
        refine (HS.out U hTU).mono ?_
        rintro e w3 ⟨rfl, hw3⟩
        subst hw3
        obtain ⟨x0, x1, x2, x3, x4, x5, x6, x7⟩ := blk8' kA2
        obtain ⟨z0, z1, z2, z3, z4, z5, z6, z7⟩ := blk8' kZ2
        have fA : ∀ i, U.frozen? ⟨w2.heap.size, i, none⟩ = false := fun i => kA2.frozen i
        have fZ : ∀ i, U.frozen? ⟨w.heap.size, i, none⟩ = false := fun i => kZ2.frozen i
        go_wp2_with fail
        have kR := blk8_st (kZ2.far (p := ⟨w2.heap.size, 4, none⟩) (by simp; omega) (.int .i64 stp)) (.int .i64 bA) (.int .i64 bL) (.int .i64 bC) (.int .i64 bN) (.int .i64 stp) (.string (str bI)) (.slice A2 bE.length c2) (.bool true)
        obtain ⟨q0, q1, q2, q3, q4, q5, q6, q7⟩ := blk8' kR
        have hbZ := below8_st (hbU.setCell (p := ⟨w2.heap.size, 4, none⟩) (by simp; omega) (.int .i64 stp)) (Nat.le_refl _) (.int .i64 bA) (.int .i64 bL) (.int .i64 bC) (.int .i64 bN) (.int .i64 stp) (.string (str bI)) (.slice A2 bE.length c2) (.bool true)
        refine bodyPost_ret (v := .agg (fdR bA bL bC bN stp bI A2 bE.length c2 true)) (by simp [results, Try.results54, go_sem, q0, q1, q2, q3, q4, q5, q6, q7]) rfl ?_
        rw [HC.out]
        refine ⟨A2, c2, rfl, ?_, hbZ⟩
        exact TxW.mono (HEb.out.same (fun b e h1 => ((o8_st _ (by omega) _ _ _ _ _ _ _ _).trans (Below.heap_setCell _ _ _ b (by have := Lt2.out b e; simp; omega))).trans (oU.out b (Lt2.out b e)))) (by omega)
      case neg =>
        have HC := Lib.hid (HCa.out rfl (fun h => hlt h.2))
        clear HCa HCb
        go_wp2_with fail
        obtain ⟨U, hU⟩ : ∃ U, U = V := ⟨_, rfl⟩
        have kA2 : Blk U w2.heap.size 93 (fdR aA aL aC aN aS aI A1 aE.length c1 true) := by rw [hU]; exact kA
        have kZ2 : Blk U w.heap.size 93 (fdR 0 0 0 0 0 [] none 0 0 false) := by rw [hU]; exact kZ
        have hbU : Below w.heap.size w U := by rw [hU]; exact hbV
        have oU : Hid (∀ k, k < w2.heap.size → U.heap[k]? = V.heap[k]?) := fun k hk => by rw [hU]
        have hTU := hT.below hbU
        rw [← hU]
        clear hU
        clear x0 x1 x2 x3 x4 x5 x6 x7 y0 y1 y2 y3 y4 y5 y6 y7 fA fZ kA kB kZ hbV hTV
        refine (HS.out U hTU).mono ?_
        rintro e w3 ⟨rfl, hw3⟩
        subst hw3
        obtain ⟨x0, x1, x2, x3, x4, x5, x6, x7⟩ := blk8' kA2
        obtain ⟨z0, z1, z2, z3, z4, z5, z6, z7⟩ := blk8' kZ2
        have fA : ∀ i, U.frozen? ⟨w2.heap.size, i, none⟩ = false := fun i => kA2.frozen i
        have fZ : ∀ i, U.frozen? ⟨w.heap.size, i, none⟩ = false := fun i => kZ2.frozen i
        go_wp2_with fail
        have kR := blk8_st (kZ2.far (p := ⟨w2.heap.size, 4, none⟩) (by simp; omega) (.int .i64 stp)) (.int .i64 aA) (.int .i64 aL) (.int .i64 aC) (.int .i64 aN) (.int .i64 stp) (.string (str aI)) (.slice A1 aE.length c1) (.bool true)
        obtain ⟨q0, q1, q2, q3, q4, q5, q6, q7⟩ := blk8' kR
        have hbZ := below8_st (hbU.setCell (p := ⟨w2.heap.size, 4, none⟩) (by simp; omega) (.int .i64 stp)) (Nat.le_refl _) (.int .i64 aA) (.int .i64 aL) (.int .i64 aC) (.int .i64 aN) (.int .i64 stp) (.string (str aI)) (.slice A1 aE.length c1) (.bool true)
        refine bodyPost_ret (v := .agg (fdR aA aL aC aN stp aI A1 aE.length c1 true)) (by simp [results, Try.results54, go_sem, q0, q1, q2, q3, q4, q5, q6, q7]) rfl ?_
        rw [HC.out]
        refine ⟨A1, c1, rfl, ?_, hbZ⟩
        exact TxW.mono (HEa.out.same (fun b e h1 => ((o8_st _ (by omega) _ _ _ _ _ _ _ _).trans (Below.heap_setCell _ _ _ b (by have := Lt1.out b e; simp; omega))).trans (oU.out b (Lt1.out b e)))) (by omega)
end Go.Proofs.Ytdhnegcblnpmfaa.JrnW
