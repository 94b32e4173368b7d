/-
  store.Load, the document's Load and Read; the walk of StoreLoads.
-/
import Derived.Test.YtdhnegcblnpmfaaStoreAwake
import Derived.Test.YtdhnegcblnpmfaaStoreSame
namespace Go.Proofs.Ytdhnegcblnpmfaa.StorW
open Go.RowKit Mem Stor
set_option linter.unusedVariables false

/-- the store behind k texts loaded -/
def ldd (l : List (List UInt8)) (k : Nat) : Sto := ⟨l.take k ++ List.replicate (l.length - k) zeros, false, 0, 0, 0⟩
theorem ldd_length (l : List (List UInt8)) (k : Nat) (h : k ≤ l.length) : (ldd l k).bs.length = l.length := by simp [ldd]; omega
theorem ldd_zero (l : List (List UInt8)) : ldd l 0 = new l.length := by simp [ldd, new]
theorem ldd_set (l : List (List UInt8)) (k : Nat) (x : List UInt8) (h : l[k]? = some x) : (ldd l (k + 1)).bs = (ldd l k).bs.set k x := by
  have hk : k < l.length := (List.getElem?_eq_some_iff.1 h).1
  unfold ldd
  simp only
  rw [take_snoc_some h, show l.length - k = (l.length - (k + 1)) + 1 by omega, List.replicate_succ, List.set_append_right _ _ (by rw [List.length_take]; omega)]
  rw [show k - (l.take k).length = 0 by rw [List.length_take]; omega, List.set_cons_zero]
  simp
def LoadRel (w : World) (g : Nat) (l : List (List UInt8)) (i : Value) (wr : World) : Prop :=
  ∃ k : Nat, k ≤ l.length ∧ i = .int .i64 k ∧ (∀ x ∈ l.take k, x.length = 256) ∧ Is wr w.heap.size g (ldd l k) ∧ Below w.heap.size w wr

def LoadYes (w : World) (l : List (List UInt8)) (x : Ending) (w' : World) : Prop := ∃ g, x = .returned (.tuple #[.pointer (some ⟨g, 0, none⟩), .int .i64 0]) ∧ Is w' w.heap.size g ⟨l, false, 0, 0, 0⟩ ∧ Below w.heap.size w w'
def LoadNo (w : World) (x : Ending) (w' : World) : Prop := x = .returned (.tuple #[.pointer none, .int .i64 2]) ∧ Below w.heap.size w w'
def goodL (l : List (List UInt8)) : Prop := 1 ≤ l.length ∧ l.length ≤ 400 ∧ ∀ x ∈ l, x.length = 256
def LoadPost (w : World) (l : List (List UInt8)) (x : Ending) (w' : World) : Prop := (goodL l ∧ LoadYes w l x w') ∨ (¬ goodL l ∧ LoadNo w x w')

theorem ldd_data {w : World} {base g : Nat} {l : List (List UInt8)} {k : Nat} {hs : List Nat} {A : Option Addr} {c : Nat} (h : St w base g (ldd l k) hs A c) {x : List UInt8} (hx : l[k]? = some x) : (ldd l k).bs[k]? = some zeros := by
  have hk : k < l.length := (List.getElem?_eq_some_iff.1 hx).1
  unfold ldd
  simp only
  rw [List.getElem?_append_right (by rw [List.length_take]; omega), List.getElem?_replicate, if_pos (by rw [List.length_take]; omega)]

set_option maxHeartbeats 1000000 in
set_option maxRecDepth 100000 in
theorem load_any (A : Option Addr) (n c : Nat) (l : List ByteArray) (w : World) (h : Strs w A n l) (hn : n ≤ 500) (hz : ∀ s ∈ l, s.size ≤ maxLen) :
    Calls Try.prog 28 #[.slice A n c] w (LoadPost w (l.map (·.data.toList))) := by
  have hl := h.len
  subst hl
  by_cases hbad : l.length < 1 ∨ 400 < l.length
  · have HG : Hid (¬ goodL (l.map (·.data.toList))) := by
      show ¬ _
      rintro ⟨h1, h2, _⟩
      rw [List.length_map] at h1 h2
      omega
    have HN := Lib.hid (new_no (l.length : Int) w (by omega))
    clear hbad
    go_enter Try.func28, Try.ntmps28
    go_wp2_with fail
    refine HN.out.mono ?_
    rintro e w1 ⟨rfl, rfl⟩
    go_wp2_with fail
    go_ret2
    exact .inr ⟨HG.out, rfl, Below.refl _ _⟩
  · go_enter Try.func28, Try.ntmps28
    go_wp2_with fail
    refine (new_any l.length w (by omega) (by omega)).mono ?_
    rintro e w1 ⟨g, rfl, h1, b1⟩
    obtain ⟨L, hL⟩ : ∃ L, L = l.map (·.data.toList) := ⟨_, rfl⟩
    have hLl : L.length = l.length := by rw [hL]; simp
    have HLl := Lib.hid hLl
    have HLe := Lib.hid hL
    have h2 : Is w1 w.heap.size g (ldd L 0) := by rw [ldd_zero, hLl]; exact h1
    clear hL hLl h1
    go_wp2_with fail
    go_loopw [19] (fun i wr => LoadRel w g L i wr) (fun i _ => l.length - (intOf i).toNat)
    case atStart => exact ⟨0, by omega, rfl, by simp, h2, b1⟩
    case round =>
      clear h2 b1
      obtain ⟨k, hk, rfl, hall, ⟨hs, A1, c1, h3⟩, b3⟩ := hrel
      rw [HLl.out] at hk
      by_cases hlt : k < l.length
      · obtain ⟨b, off, s, rfl, hbl, hsk, hc⟩ := (h.below b3).at_ hlt
        have hsz := hz s (mem_of_at hsk)
        unfold maxLen at hsz
        have hLk : L[k]? = some s.data.toList := by rw [HLe.out, List.getElem?_map, hsk]; rfl
        by_cases hs256 : s.size = 256
        · have hnx : (ldd L k).bs[k]? = some zeros := ldd_data h3 hLk
          obtain ⟨q, x, ob, rfl, hcq, hx, hob, hbx, hbk⟩ := h3.row (show k < (ldd L k).bs.length by rw [ldd_length L k (by rw [HLl.out]; omega), HLl.out]; exact hlt)
          rw [hnx] at hob
          injection hob with hob
          subst hob
          obtain ⟨W', hcp, hnb, hoth, hsz2, hbel⟩ := copy_blk (P := Try.prog) hbk zeros_length s (by omega) 79 9 5 Try.underlying79 byteSize
          have e : s.data.toList ++ zeros.drop s.size = s.data.toList := by rw [List.drop_of_length_le (by rw [zeros_length]; omega), List.append_nil]
          rw [e] at hnb
          have hxg : x ≠ g := blk_ne hbk h3.blk (by decide)
          have hll : (ldd L (k + 1)).bs.length = (ldd L k).bs.length := by rw [ldd_length L (k + 1) (by rw [HLl.out]; omega), ldd_length L k (by rw [HLl.out]; omega)]
          have hst : St W' w.heap.size g (ldd L (k + 1)) hs (some ⟨q, 0, none⟩) c1 := by
            refine h3.block hx s.data.toList (ldd_set L k _ hLk) ?_ hnb (fun j hj hj2 => hoth j hj2)
            rw [hll]
            exact (hoth g (fun e => hxg e.symm)).trans h3.blk
          have hbb := b3.trans (hbel w.heap.size hbx)
          have hcop := hcp 3
          have c0 := (blk_cells h3.blk).1
          rw [ldd_length L k (by rw [HLl.out]; omega), HLl.out] at c0
          simp only [hv] at hcq hcop
          have HAll : Hid (∀ y ∈ L.take (k + 1), y.length = 256) := by
            show ∀ y ∈ L.take (k + 1), _
            rw [take_snoc_some hLk]
            intro y hy
            rcases List.mem_append.1 hy with hy | hy
            · exact hall y hy
            · rw [List.mem_singleton.1 hy]; simpa using hs256
          have hne : ((s.size : Int) != 256) = false := by simp [hs256]
          clear hcp hnb hoth hsz2 hbel hall hx hbk h3 e hs256 hsk hLk hnx hll hz
          go_wp2_with fail
          refine ⟨⟨k + 1, by rw [HLl.out]; omega, by go_num, HAll.out, ⟨hs, _, c1, hst⟩, hbb⟩, by simp [intOf]; omega⟩
        · have HG : Hid (¬ goodL (l.map (·.data.toList))) := by
            show ¬ _
            rintro ⟨_, _, h3⟩
            have := h3 s.data.toList (List.mem_map_of_mem (mem_of_at hsk))
            exact hs256 (by simpa using this)
          have hne : ((s.size : Int) != 256) = true := by rw [bne_iff_ne]; omega
          clear hs256 hsk hLk hz
          go_wp2_with fail
          go_ret2
          exact .inr ⟨HG.out, rfl, b3⟩
      · obtain rfl : k = l.length := by omega
        have hfin : ldd L l.length = ⟨L, false, 0, 0, 0⟩ := by
          rw [← HLl.out]
          simp [ldd]
        rw [hfin] at h3
        rw [List.take_of_length_le (by rw [HLl.out]; omega)] at hall
        have HG : Hid (goodL (l.map (·.data.toList))) := by
          rw [← HLe.out]
          exact ⟨by rw [HLl.out]; omega, by rw [HLl.out]; omega, hall⟩
        rw [HLe.out] at h3
        clear hall hfin
        go_wp2_with fail
        go_ret2
        exact .inl ⟨HG.out, g, rfl, ⟨hs, A1, c1, h3⟩, b3⟩

theorem below5 {B g : Nat} {a w : World} (h : Below B a w) (hg : B ≤ g) (v0 v1 v2 v3 v4 : Value) : Below B a (((((w.setCell ⟨g, 0, none⟩ v0).setCell ⟨g, 1, none⟩ v1).setCell ⟨g, 2, none⟩ v2).setCell ⟨g, 3, none⟩ v3).setCell ⟨g, 4, none⟩ v4) :=
  ((((h.setCell (p := ⟨g, 0, none⟩) hg v0).setCell (p := ⟨g, 1, none⟩) hg v1).setCell (p := ⟨g, 2, none⟩) hg v2).setCell (p := ⟨g, 3, none⟩) hg v3).setCell (p := ⟨g, 4, none⟩) hg v4
/-- the document's store as a value -/
def rv (A : Option Addr) (n c : Nat) (s : Sto) : Value := .agg #[.slice A n c, .bool s.off, .int .i64 s.wr, .int .i64 s.left, .int .i64 s.keep]

def RLoadPost (w : World) (l : List (List UInt8)) (x : Ending) (w' : World) : Prop :=
  (goodL l ∧ ∃ A c, x = .returned (.tuple #[.agg #[.slice A l.length c, .bool false, .int .i64 0, .int .i64 0, .int .i64 0], .bool true]) ∧ OwnC w' w.heap.size 1 A l.length c (sv l) ∧ Below w.heap.size w w') ∨
  (¬ goodL l ∧ x = .returned (.tuple #[.agg #[.slice none 0 0, .bool false, .int .i64 0, .int .i64 0, .int .i64 0], .bool false]) ∧ Below w.heap.size w w')

set_option maxHeartbeats 1000000 in
set_option maxRecDepth 100000 in
theorem rload_any (A : Option Addr) (n c : Nat) (l : List ByteArray) (w : World) (h : Strs w A n l) (hn : n ≤ 500) (hz : ∀ s ∈ l, s.size ≤ maxLen) :
    Calls Try.prog 29 #[.slice A n c] w (RLoadPost w (l.map (·.data.toList))) := by
  obtain ⟨i0, hi, hz0, hz1, hz2⟩ := info_parts strInfo
  have hl := h.len
  subst hl
  by_cases hbad : l.length < 1 ∨ 400 < l.length
  · have HG : Hid (¬ goodL (l.map (·.data.toList))) := by
      show ¬ _
      rintro ⟨h1, h2, _⟩
      rw [List.length_map] at h1 h2
      omega
    by_cases g1 : l.length < 1
    all_goals
      go_enter Try.func29, Try.ntmps29
      go_wp2_with fail
      refine bodyPost_ret (v := .tuple #[.agg #[.slice none 0 0, .bool false, .int .i64 0, .int .i64 0, .int .i64 0], .bool false]) (by simp [results, Try.results29, go_sem]) rfl ?_
      exact .inr ⟨HG.out, rfl, (Below.refl _ _).alloc (Nat.le_refl _) _⟩
  · go_enter Try.func29, Try.ntmps29
    go_wp2_with fail
    obtain ⟨W, hW⟩ : ∃ W, W = w.alloc (.cells #[.slice none 0 0, .bool false, .int .i64 0, .int .i64 0, .int .i64 0] 42) := ⟨_, rfl⟩
    have hb : Below w.heap.size w W := by rw [hW]; exact (Below.refl _ _).alloc (Nat.le_refl _) _
    have hk : Blk W w.heap.size 42 #[.slice none 0 0, .bool false, .int .i64 0, .int .i64 0, .int .i64 0] := by rw [hW]; exact Blk.new w _ _
    rw [← hW]
    clear hW
    go_loop [4] (fun i => ∃ k : Nat, k ≤ l.length ∧ i = .int .i64 k ∧ Hid (∀ s ∈ l.take k, s.size = 256)) (fun i => l.length - (intOf i).toNat)
    case atStart => exact ⟨0, by omega, rfl, by show ∀ s ∈ l.take 0, _; simp⟩
    case round =>
      obtain ⟨k, hk2, rfl, hall⟩ := hrel
      by_cases hlt : k < l.length
      · obtain ⟨b, off, s, rfl, hbl, hsk, hc⟩ := (h.below hb).at_ hlt
        have hsz := hz s (mem_of_at hsk)
        unfold maxLen at hsz
        by_cases hs256 : s.size = 256
        · have hne : ((s.size : Int) != 256) = false := by simp [hs256]
          have HAll : Hid (∀ y ∈ l.take (k + 1), y.size = 256) := by
            show ∀ y ∈ l.take (k + 1), _
            rw [take_snoc_some hsk]
            intro y hy
            rcases List.mem_append.1 hy with hy | hy
            · exact hall.out y hy
            · rw [List.mem_singleton.1 hy]; exact hs256
          clear hs256 hsk hz h
          go_wp2_with fail
          exact ⟨⟨k + 1, by omega, by go_num, HAll⟩, by simp [intOf]; omega⟩
        · have HG : Hid (¬ goodL (l.map (·.data.toList))) := by
            show ¬ _
            rintro ⟨_, _, h3⟩
            have := h3 s.data.toList (List.mem_map_of_mem (mem_of_at hsk))
            exact hs256 (by simpa using this)
          have hne : ((s.size : Int) != 256) = true := by rw [bne_iff_ne]; omega
          have c0 := hk.cell 0
          have c1 := hk.cell 1
          have c2 := hk.cell 2
          have c3 := hk.cell 3
          have c4 := hk.cell 4
          have f0 := hk.frozen 0
          have f1 := hk.frozen 1
          have f2 := hk.frozen 2
          have f3 := hk.frozen 3
          have f4 := hk.frozen 4
          simp at c0 c1 c2 c3 c4
          clear hs256 hsk hz h
          go_wp2_with fail
          refine bodyPost_ret (v := .tuple #[.agg #[.slice none 0 0, .bool false, .int .i64 0, .int .i64 0, .int .i64 0], .bool false]) (by simp [results, Try.results29, go_sem, c0, c1, c2, c3, c4]) rfl ?_
          exact .inr ⟨HG.out, rfl, below5 hb (Nat.le_refl _) _ _ _ _ _⟩
      · obtain rfl : k = l.length := by omega
        have hall' := hall.out
        rw [List.take_length] at hall'
        have HG : Hid (goodL (l.map (·.data.toList))) := by
          refine ⟨by rw [List.length_map]; omega, by rw [List.length_map]; omega, fun x hx => ?_⟩
          obtain ⟨s, hs, rfl⟩ := List.mem_map.1 hx
          simpa using hall' s hs
        obtain ⟨b, off, s0, rfl, hbl, _, _⟩ := (h.below hb).at_ (show 0 < l.length by omega)
        have htx := Txs.of_strs (h.below hb)
        have hsrc := Rd.of_row htx
        have hcl : ∀ j u, (sv (l.map (·.data.toList)))[j]? = some u → (W.alloc (.cells #[] 9)).cell? ((⟨b, off, none⟩ : Addr).add j) = some u := by
          intro j u hu
          obtain ⟨ad, hA, hh⟩ := hsrc.2 (by omega)
          injection hA with hA
          subst hA
          rw [World.cell?_alloc_lt _ _ _ (by rw [plain_add']; exact hbl)]
          exact hh j u hu
        have hown0 : OwnC (W.alloc (.cells #[] 9)) (w.heap.size + 1) 1 (some ⟨W.heap.size, 0, none⟩) 0 0 [] := ⟨by simp, by omega, by simp [maxLen], fun h => absurd h (by omega), fun h => by cases h⟩
        obtain ⟨A3, c3, W4, hrun, hown4, hb5, hfr, _⟩ := app_c (P := Try.prog) (W.alloc (.cells #[] 9)) (w.heap.size + 1) 34 34 34 9 i0 _ 1 16 Try.underlying34 hi hz0 hz1 hz2 rfl (by omega) _ 0 0 _ hown0 (.slice (some ⟨b, off, none⟩) l.length c) l.length (sv (l.map (·.data.toList))) (Src.ofSlice _ Try.underlying34 _ _ c _ (by rw [sv_length]; simp) hcl (by
          intro u hu
          simp only [sv, List.mem_map] at hu
          obtain ⟨x, _, rfl⟩ := hu
          rfl)) (by simp [maxLen]; omega) (by omega) (by have := hb.size; simp; omega)
        simp only [Nat.zero_add, List.nil_append] at hrun hown4
        have hk4 : Blk W4 w.heap.size 42 #[.slice none 0 0, .bool false, .int .i64 0, .int .i64 0, .int .i64 0] := (hfr w.heap.size (by have := hk.lt; simp; omega) (by intro e; injection e with e; injection e with e _; have := hk.lt; omega)).trans (hk.alloc _)
        have hb4 : Below w.heap.size w W4 := (hb.alloc hb.size _).trans (hb5.mono (by omega))
        have c0 := hk4.cell 0
        have c1 := hk4.cell 1
        have c2 := hk4.cell 2
        have c3' := hk4.cell 3
        have c4 := hk4.cell 4
        have f0 := hk4.frozen 0
        have f1 := hk4.frozen 1
        have f2 := hk4.frozen 2
        have f3 := hk4.frozen 3
        have f4 := hk4.frozen 4
        simp at c0 c1 c2 c3' c4
        have HR := Lib.hid hrun
        clear hrun hcl hsrc htx hown0 hfr hb5 h hz hall' hk
        go_wp2_with (at_builtin; refine wpList_app2 rfl _ _ rfl rfl rfl HR.out ?_)
        have hlm : (l.map (·.data.toList)).length = l.length := by simp
        refine bodyPost_ret (v := .tuple #[.agg #[.slice A3 l.length c3, .bool false, .int .i64 0, .int .i64 0, .int .i64 0], .bool true]) (by simp [results, Try.results29, go_sem, c0, c1, c2, c3', c4]) rfl ?_
        refine .inl ⟨HG.out, A3, c3, by rw [hlm], ?_, below5 hb4 (Nat.le_refl _) _ _ _ _ _⟩
        rw [hlm]
        exact (((((hown4.far (p := ⟨w.heap.size, 0, none⟩) (by simp) _).far (p := ⟨w.heap.size, 1, none⟩) (by simp) _).far (p := ⟨w.heap.size, 2, none⟩) (by simp) _).far (p := ⟨w.heap.size, 3, none⟩) (by simp) _).far (p := ⟨w.heap.size, 4, none⟩) (by simp) _).mono (by omega)

set_option maxHeartbeats 1000000 in
theorem rread_any (A : Option Addr) (c : Nat) (s : Sto) (i : Int) (w : World) (h : Txs w A s.bs.length s.bs) (hn : s.bs.length ≤ 500) :
    Calls Try.prog 30 #[rv A s.bs.length c s, .int .i64 i] w fun e w' => e = .returned (.tuple #[.string (str (readS s i).1), .int .i64 (readS s i).2]) ∧ Below w.heap.size w w' := by
  have hbel := (Below.refl w.heap.size w).alloc (Nat.le_refl _) (.cells #[.slice A s.bs.length c, .bool s.off, .int .i64 s.wr, .int .i64 s.left, .int .i64 s.keep] 42)
  unfold rv
  cases hoff : s.off
  · by_cases h0 : i < 0
    · have HF : Hid (readS s i = ([], 331)) := by show _ = _; simp [readS, reach, hoff, h0]
      rw [hoff] at hbel
      clear hoff
      go_enter Try.func30, Try.ntmps30
      go_wp2_with fail
      go_ret2
      exact ⟨by rw [HF.out]; rfl, hbel⟩
    · by_cases h1 : (s.bs.length : Int) ≤ i
      · have HF : Hid (readS s i = ([], 331)) := by show _ = _; simp [readS, reach, hoff, h1]
        rw [hoff] at hbel
        clear hoff
        go_enter Try.func30, Try.ntmps30
        go_wp2_with fail
        go_ret2
        exact ⟨by rw [HF.out]; rfl, hbel⟩
      · obtain ⟨I, rfl⟩ := Int.eq_ofNat_of_zero_le (show 0 ≤ i by omega)
        obtain ⟨b, off, x, rfl, hb, hx, hc⟩ := (h.below ((Below.refl w.heap.size w).alloc (Nat.le_refl _) (.cells #[.slice A s.bs.length c, .bool false, .int .i64 s.wr, .int .i64 s.left, .int .i64 s.keep] 42))).at_ (show I < s.bs.length by omega)
        have HF : Hid (readS s (I : Int) = (x, 0)) := by
          show _ = _
          have hr : reach s (I : Int) = 0 := by rw [reach, hoff, if_neg (by simp), if_neg (by omega)]
          rw [readS, hr, if_neg (by simp), Int.toNat_natCast, List.getD_eq_getElem?_getD, hx]
          rfl
        rw [hoff] at hbel
        clear hoff hx
        go_enter Try.func30, Try.ntmps30
        go_wp2_with fail
        go_ret2
        exact ⟨by rw [HF.out]; rfl, hbel⟩
  · have HF : Hid (readS s i = ([], 330)) := by show _ = _; simp [readS, reach, hoff]
    rw [hoff] at hbel
    clear hoff
    go_enter Try.func30, Try.ntmps30
    go_wp2_with fail
    go_ret2
    exact ⟨by rw [HF.out]; rfl, hbel⟩
end Go.Proofs.Ytdhnegcblnpmfaa.StorW
