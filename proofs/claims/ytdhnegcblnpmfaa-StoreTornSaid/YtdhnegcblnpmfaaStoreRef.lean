/-
  The document's store (musterref33): Arm, Power, New, Write; the law's text.
-/
import Derived.Test.YtdhnegcblnpmfaaStoreLoads
import Derived.Deep.RegionHeld3
namespace Go.Proofs.Ytdhnegcblnpmfaa.StorW
open Go.RowKit Mem Stor
set_option linter.unusedVariables false

def RPost (A : Option Addr) (n c : Nat) (s : Sto) (e : Int) (w : World) (x : Ending) (w' : World) : Prop := x = .returned (.tuple #[rv A n c s, .int .i64 e]) ∧ Below w.heap.size w w'
theorem rpost_mk {A : Option Addr} {n c : Nat} {s : Sto} {e : Int} {w : World} {x : Ending} {w' : World} {v : Value} (hv : v = .tuple #[rv A n c s, .int .i64 e]) (hx : x = .returned v) (h : Below w.heap.size w w') : RPost A n c s e w x w' := by
  subst hv; exact ⟨hx, h⟩

/-- the box of a value -/
theorem below_box2 (w : World) (o p : Obj) : Below w.heap.size w ((w.alloc o).alloc p) := ((Below.refl _ _).alloc (Nat.le_refl _) _).alloc (by simp) _

set_option maxHeartbeats 1000000 in
set_option maxRecDepth 100000 in
theorem rarm_any (A : Option Addr) (n c : Nat) (s : Sto) (a k : Int) (w : World) :
    Calls Try.prog 46 #[rv A n c s, .int .i64 a, .int .i64 k] w (RPost A n c (arm s a k).1 (arm s a k).2 w) := by
  unfold rv
  obtain ⟨bs, off, wr, left, keep⟩ := s
  cases off
  · by_cases h : a < 1 ∨ k < 0 ∨ 256 < k
    · have HF : Hid (arm ⟨bs, false, wr, left, keep⟩ a k = (⟨bs, false, wr, left, keep⟩, 2)) := by show _ = _; rw [arm, if_neg (by simp), if_pos h]
      rw [HF.out]
      by_cases h1 : a < 1
      · clear h
        go_enter Try.func46, Try.ntmps46
        go_wp2_with fail
        refine bodyPost_ret (v := .tuple #[rv A n c ⟨bs, false, wr, left, keep⟩, .int .i64 2]) (by simp [results, Try.results46, go_sem, rv]) rfl ?_
        exact ⟨rfl, below_box2 _ _ _⟩
      · by_cases h2 : k < 0
        · clear h
          go_enter Try.func46, Try.ntmps46
          go_wp2_with fail
          refine bodyPost_ret (v := .tuple #[rv A n c ⟨bs, false, wr, left, keep⟩, .int .i64 2]) (by simp [results, Try.results46, go_sem, rv]) rfl ?_
          exact ⟨rfl, below_box2 _ _ _⟩
        · have h3 : 256 < k := by omega
          clear h
          go_enter Try.func46, Try.ntmps46
          go_wp2_with fail
          refine bodyPost_ret (v := .tuple #[rv A n c ⟨bs, false, wr, left, keep⟩, .int .i64 2]) (by simp [results, Try.results46, go_sem, rv]) rfl ?_
          exact ⟨rfl, below_box2 _ _ _⟩
    · have HF : Hid (arm ⟨bs, false, wr, left, keep⟩ a k = (⟨bs, false, wr, a, k⟩, 0)) := by show _ = _; rw [arm, if_neg (by simp), if_neg h]
      rw [HF.out]
      have h1 : 1 ≤ a := by omega
      have h2 : 0 ≤ k := by omega
      have h3 : k ≤ 256 := by omega
      clear h
      go_enter Try.func46, Try.ntmps46
      go_wp2_with fail
      refine bodyPost_ret (v := .tuple #[rv A n c ⟨bs, false, wr, a, k⟩, .int .i64 0]) (by simp [results, Try.results46, go_sem, rv]) rfl ?_
      exact ⟨rfl, below_box2 _ _ _⟩
  · have HF : Hid (arm ⟨bs, true, wr, left, keep⟩ a k = (⟨bs, true, wr, left, keep⟩, 330)) := by show _ = _; rw [arm, if_pos rfl]
    rw [HF.out]
    go_enter Try.func46, Try.ntmps46
    go_wp2_with fail
    refine bodyPost_ret (v := .tuple #[rv A n c ⟨bs, true, wr, left, keep⟩, .int .i64 330]) (by simp [results, Try.results46, go_sem, rv]) rfl ?_
    exact ⟨rfl, below_box2 _ _ _⟩

set_option maxHeartbeats 1000000 in
set_option maxRecDepth 100000 in
theorem rpower_any (A : Option Addr) (n c : Nat) (s : Sto) (on : Bool) (w : World) :
    Calls Try.prog 47 #[rv A n c s, .bool on] w fun x w' => x = .returned (rv A n c (power s on)) ∧ Below w.heap.size w w' := by
  unfold rv power
  obtain ⟨bs, off, wr, left, keep⟩ := s
  go_enter Try.func47, Try.ntmps47
  go_wp2_with fail
  refine bodyPost_ret (v := .agg #[.slice A n c, .bool (!on), .int .i64 wr, .int .i64 0, .int .i64 keep]) (by simp [results, Try.results47, go_sem]) rfl ?_
  exact ⟨rfl, below_box2 _ _ _⟩

/-- the row of the document's blocks -/
def ROwn (w : World) (base : Nat) (A : Option Addr) (n c : Nat) (l : List (List UInt8)) : Prop := w.ownsRow base 9 1 (.slice A n c) n (sv l)
def RWPost (base n : Nat) (s : Sto) (e : Int) (w : World) (x : Ending) (w' : World) : Prop := ∃ A c, x = .returned (.tuple #[rv A n c s, .int .i64 e]) ∧ ROwn w' base A n c s.bs ∧ Below w.heap.size w w'

theorem ROwn.below {w w' : World} {base : Nat} {A : Option Addr} {n c : Nat} {l : List (List UInt8)} (h : ROwn w base A n c l) (hb : Below w.heap.size w w') : ROwn w' base A n c l := own_below h hb
theorem ROwn.keep {w w' : World} {base : Nat} {A : Option Addr} {n c : Nat} {l : List (List UInt8)} (h : ROwn w base A n c l) (hb : KeepS w w') : ROwn w' base A n c l := own_keep h hb
theorem ROwn.txs {w : World} {base : Nat} {A : Option Addr} {n c : Nat} {l : List (List UInt8)} (h : ROwn w base A n c l) : Txs w A n l := Txs.of_ownc (OwnC.of_own h)
theorem ROwn.mono {w : World} {base b' : Nat} {A : Option Addr} {n c : Nat} {l : List (List UInt8)} (h : ROwn w base A n c l) (hb : b' ≤ base) : ROwn w b' A n c l := by
  refine ⟨h.1, ?_⟩
  rcases h.2 with h2 | ⟨g, cap, cur, hv, hg, r⟩
  · exact .inl h2
  · exact .inr ⟨g, cap, cur, hv, by omega, r⟩

def WholeP (r : List UInt8) (w : World) (x : Ending) (w' : World) : Prop := x = .returned (.string (str r)) ∧ Below w.heap.size w w'
def textL (t : List UInt8) : List UInt8 := if t.length ≤ 256 then wholeL t else t
def av (k a b : Int) (t : ByteArray) : Value := .agg #[.int .i64 k, .int .i64 a, .int .i64 b, .string t]
set_option maxHeartbeats 1000000 in
set_option maxRecDepth 100000 in
theorem text_any (k a b : Int) (t : ByteArray) (w : World) (ht : t.size ≤ 1000) :
    Calls Try.prog 15 #[av k a b t] w (WholeP (textL t.data.toList) w) := by
  unfold av
  by_cases h : t.size ≤ 256
  · have HF : Hid (textL t.data.toList = wholeL t.data.toList) := by show _ = _; rw [textL, if_pos (by simpa using h)]
    rw [HF.out]
    go_enter Try.func15, Try.ntmps15
    go_wp2_with fail
    refine (whole_any t _ h).mono ?_
    rintro e w1 ⟨rfl, hb1⟩
    go_wp2_with fail
    go_ret
    exact ⟨rfl, below_step ((Below.refl _ _).alloc (Nat.le_refl _) _) hb1⟩
  · have HF : Hid (textL t.data.toList = t.data.toList) := by show _ = _; rw [textL, if_neg (by simpa using h)]
    rw [HF.out]
    go_enter Try.func15, Try.ntmps15
    go_wp2_with fail
    go_ret
    exact ⟨by rw [str_of]; rfl, (Below.refl _ _).alloc (Nat.le_refl _) _⟩

def RNewRel (w : World) (N : Nat) (i : Value) (wr : World) : Prop :=
  ∃ (k : Nat) (A : Option Addr) (c : Nat), k ≤ N ∧ i = .int .i64 k ∧ Blk wr (w.heap.size + 1) 42 #[.slice A k c, .bool false, .int .i64 0, .int .i64 0, .int .i64 0] ∧
    Blk wr w.heap.size 42 #[.slice none 0 0, .bool false, .int .i64 0, .int .i64 0, .int .i64 0] ∧ ROwn wr w.heap.size A k c (List.replicate k zeros) ∧ Below w.heap.size w wr
def RNewPost (w : World) (N : Nat) (x : Ending) (w' : World) : Prop := ∃ A c, x = .returned (.tuple #[rv A N c (new N), .bool true]) ∧ ROwn w' w.heap.size A N c (new N).bs ∧ Below w.heap.size w w'

def RNoPost (w : World) (x : Ending) (w' : World) : Prop := x = .returned (.tuple #[.agg #[.slice none 0 0, .bool false, .int .i64 0, .int .i64 0, .int .i64 0], .bool false]) ∧ Below w.heap.size w w'
set_option maxHeartbeats 1000000 in
set_option maxRecDepth 100000 in
theorem rnew_no (n : Int) (w : World) (h : n < 1 ∨ 400 < n) :
    Calls Try.prog 22 #[.int .i64 n] w (RNoPost w) := by
  by_cases g : n < 1
  · clear h
    go_enter Try.func22, Try.ntmps22
    go_wp2_with fail
    refine bodyPost_ret (v := .tuple #[.agg #[.slice none 0 0, .bool false, .int .i64 0, .int .i64 0, .int .i64 0], .bool false]) (by simp [results, Try.results22, go_sem]) rfl ?_
    exact ⟨rfl, below_box2 _ _ _⟩
  · have g2 : 400 < n := by omega
    clear h
    go_enter Try.func22, Try.ntmps22
    go_wp2_with fail
    refine bodyPost_ret (v := .tuple #[.agg #[.slice none 0 0, .bool false, .int .i64 0, .int .i64 0, .int .i64 0], .bool false]) (by simp [results, Try.results22, go_sem]) rfl ?_
    exact ⟨rfl, below_box2 _ _ _⟩

attribute [local go_sem ↓] Go.wp_at_zero Go.wp_at_succ
set_option maxHeartbeats 2000000 in
set_option maxRecDepth 100000 in
theorem rnew_any (n : Nat) (w : World) (h1 : 1 ≤ n) (h4 : n ≤ 400) :
    Calls Try.prog 22 #[.int .i64 n] w (RNewPost w n) := by
  obtain ⟨i0, hi, hz0, hz1, hz2⟩ := info_parts strInfo
  go_enter Try.func22, Try.ntmps22
  go_wp2_with fail
  go_loopw [5] (fun i wr => RNewRel w n i wr) (fun i _ => n - (intOf i).toNat)
  case atStart =>
    refine ⟨0, none, 0, by omega, rfl, ?_, (Blk.new w _ _).alloc _, World.ownsRow_nil _ _ _ _, below_box2 _ _ _⟩
    have := Blk.new (w.alloc (.cells #[.slice none 0 0, .bool false, .int .i64 0, .int .i64 0, .int .i64 0] 42)) 42 #[.slice none 0 0, .bool false, .int .i64 0, .int .i64 0, .int .i64 0]
    simpa using this
  case round =>
    obtain ⟨k, A, c, hk, rfl, hb1, hb0, hown, hbel⟩ := hrel
    by_cases hlt : k < n
    · have c0 : wr.cell? ⟨w.heap.size + 1, 0, none⟩ = some (.slice A k c) := hb1.cell 0
      have f0 := hb1.frozen 0
      have hsz := hbel.size
      have hmk := make_blank
      have hgl := hb1.lt
      have hback := (blk_byts (Blk.new wr 5 (bv zeros).toArray).drew).back (P := Try.prog) 79 9 5 256 256 zeros_length.symm Try.underlying79 Try.underlying5 Try.underlying9
      change _ = Result.ok (Value.string (str zeros)) _ at hback
      obtain ⟨W1, hW1⟩ : ∃ W1, W1 = (wr.alloc (.cells (bv zeros).toArray 5)).alloc (.cells #[.string (str zeros)] 9) := ⟨_, rfl⟩
      have hown1 : W1.drew.ownsRow w.heap.size 9 1 (.slice A k c) k (sv (List.replicate k zeros)) := by rw [hW1]; exact ((World.ownsRow.alloc hown (.cells (bv zeros).toArray 5)).alloc (.cells #[.string (str zeros)] 9))
      have hrd : Rd W1.drew (some ⟨(wr.alloc (.cells (bv zeros).toArray 5)).heap.size, 0, none⟩) 1 1 [.string (str zeros)] := by rw [hW1]; exact Rd.one (wr.alloc (.cells (bv zeros).toArray 5)) (.string (str zeros)) 9
      have hs1 : W1.heap.size = wr.heap.size + 2 := by rw [hW1]; simp
      obtain ⟨A', c', W', hrun, hown2, hgr, hbel2, hob⟩ := app_own (P := Try.prog) W1.drew w.heap.size 34 34 9 i0 _ 1 16 Try.underlying34 hi hz0 hz1 hz2 rfl (by omega) A _ c _ hown1 _ 1 1 _ hrd (by simp) (by simp; rfl) (by simp [maxLen]; omega) (by omega) (by show _ ≤ W1.heap.size; omega)
      have hgk : Blk W' (w.heap.size + 1) 42 #[.slice A k c, .bool false, .int .i64 0, .int .i64 0, .int .i64 0] := by
        refine Blk.grown (w := W1.drew) ?_ hgr (fun e => own_ne hown hb1 (by decide) e.symm)
        rw [hW1]
        exact ((hb1.alloc _).alloc _).drew
      have hgk0 : Blk W' w.heap.size 42 #[.slice none 0 0, .bool false, .int .i64 0, .int .i64 0, .int .i64 0] := by
        refine Blk.grown (w := W1.drew) ?_ hgr (fun e => own_ne hown hb0 (by decide) e.symm)
        rw [hW1]
        exact ((hb0.alloc _).alloc _).drew
      have d0 : W'.cell? ⟨w.heap.size + 1, 0, none⟩ = some (.slice A k c) := hgk.cell 0
      have e0 := hgk.frozen 0
      have hblk1 : Blk (W'.setCell ⟨w.heap.size + 1, 0, none⟩ (.slice A' (k + 1) c')) (w.heap.size + 1) 42 #[.slice A' (k + 1) c', .bool false, .int .i64 0, .int .i64 0, .int .i64 0] := by
        have := hgk.set 0 (.slice A' (k + 1) c')
        simpa using this
      have hblk0 : Blk (W'.setCell ⟨w.heap.size + 1, 0, none⟩ (.slice A' (k + 1) c')) w.heap.size 42 #[.slice none 0 0, .bool false, .int .i64 0, .int .i64 0, .int .i64 0] := hgk0.far (p := ⟨w.heap.size + 1, 0, none⟩) (by simp) _
      have hown3 : ROwn (W'.setCell ⟨w.heap.size + 1, 0, none⟩ (.slice A' (k + 1) c')) w.heap.size A' (k + 1) c' (List.replicate (k + 1) zeros) := by
        have hne := own_ne hown2 hgk (by decide)
        have : sv (List.replicate (k + 1) zeros) = sv (List.replicate k zeros) ++ [.string (str zeros)] := by rw [List.replicate_succ', sv_snoc]
        unfold ROwn
        rw [this]
        exact ownsRow_setCell_other hown2 hne _
      have hbb : Below w.heap.size w (W'.setCell ⟨w.heap.size + 1, 0, none⟩ (.slice A' (k + 1) c')) := by
        refine Below.setCell (p := ⟨w.heap.size + 1, 0, none⟩) ?_ (by simp) _
        refine Below.trans (b := W1.drew) ?_ hbel2
        rw [hW1]
        exact ((hbel.alloc hsz _).alloc (by simp; omega) _).drew
      have HR := Lib.hid hrun
      rw [hW1] at HR
      simp only [World.size_alloc] at HR
      have c01 : (wr.alloc (.cells (bv zeros).toArray 5)).cell? ⟨w.heap.size + 1, 0, none⟩ = some (.slice A k c) := (hb1.alloc _).cell 0
      have c02 : ((wr.alloc (.cells (bv zeros).toArray 5)).alloc (.cells #[.string (str zeros)] 9)).cell? ⟨w.heap.size + 1, 0, none⟩ = some (.slice A k c) := ((hb1.alloc _).alloc _).cell 0
      clear hrun hown1 hown2 hgr hbel2 hob hgk hgk0 hrd hs1 hown hb0 hb1 hW1
      go_wp2_with fail
      go_region_law ((refine step_app rfl _ _ (by rfl) (by rfl) (by rfl) HR.out ?_))
      all_goals
        go_wp2_with fail
        exact ⟨⟨k + 1, A', c', by omega, by go_num, hblk1, hblk0, hown3, hbb⟩, by simp [intOf]; omega⟩
    · obtain rfl : k = n := by omega
      have c0 := hb1.cell 0
      have c1 := hb1.cell 1
      have c2 := hb1.cell 2
      have c3 := hb1.cell 3
      have c4 := hb1.cell 4
      have d0 := hb0.cell 0
      have d1 := hb0.cell 1
      have d2 := hb0.cell 2
      have d3 := hb0.cell 3
      have d4 := hb0.cell 4
      have f0 := hb0.frozen 0
      have f1 := hb0.frozen 1
      have f2 := hb0.frozen 2
      have f3 := hb0.frozen 3
      have f4 := hb0.frozen 4
      simp at c0 c1 c2 c3 c4 d0 d1 d2 d3 d4
      go_wp2_with fail
      refine bodyPost_ret (v := .tuple #[rv A k c (new k), .bool true]) (by simp [results, Try.results22, go_sem, rv, new, d0, d1, d2, d3, d4]) rfl ?_
      refine ⟨A, c, rfl, ?_, below5 hbel (Nat.le_refl _) _ _ _ _ _⟩
      have hne := own_ne hown hb0 (by decide)
      exact ownsRow_setCell_other (ownsRow_setCell_other (ownsRow_setCell_other (ownsRow_setCell_other (ownsRow_setCell_other hown hne _) hne _) hne _) hne _) hne _
end Go.Proofs.Ytdhnegcblnpmfaa.StorW
