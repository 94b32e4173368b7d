/-
  The document's Write.
-/
import Derived.Test.YtdhnegcblnpmfaaStoreRef
namespace Go.Proofs.Ytdhnegcblnpmfaa.StorW
open Go.RowKit Mem Stor
set_option linter.unusedVariables false

theorem blk5 {w : World} {g : Nat} {t : TypeId} {v0 v1 v2 v3 v4 : Value} (h : Blk w g t #[v0, v1, v2, v3, v4]) :
    (w.cell? ⟨g, 0, none⟩ = some v0 ∧ w.cell? ⟨g, 1, none⟩ = some v1 ∧ w.cell? ⟨g, 2, none⟩ = some v2 ∧ w.cell? ⟨g, 3, none⟩ = some v3 ∧ w.cell? ⟨g, 4, none⟩ = some v4) ∧
    (w.frozen? ⟨g, 0, none⟩ = false ∧ w.frozen? ⟨g, 1, none⟩ = false ∧ w.frozen? ⟨g, 2, none⟩ = false ∧ w.frozen? ⟨g, 3, none⟩ = false ∧ w.frozen? ⟨g, 4, none⟩ = false) :=
  ⟨⟨h.cell 0, h.cell 1, h.cell 2, h.cell 3, h.cell 4⟩, h.frozen 0, h.frozen 1, h.frozen 2, h.frozen 3, h.frozen 4⟩

/-- the document's blocks copied, behind two boxes -/
theorem rcopy (s : Sto) (A : Option Addr) (c base : Nat) (w : World) (h : ROwn w base A s.bs.length c s.bs) (h1 : 1 ≤ s.bs.length) (h4 : s.bs.length ≤ 400) (o p : Obj) :
    ∃ q c4 W4, (Builtin.append_ #[34, 34] 34 #[.slice (some ⟨w.heap.size + 2, 0, none⟩) 0 0, .slice A s.bs.length c]).run Try.prog (((w.alloc o).alloc p).alloc (.cells #[] 9)) = .ok (.slice (some ⟨q, 0, none⟩) s.bs.length c4) W4 ∧
      ROwn W4 w.heap.size (some ⟨q, 0, none⟩) s.bs.length c4 s.bs ∧ W4.heap[w.heap.size]? = ((w.alloc o).alloc p).heap[w.heap.size]? ∧ W4.heap[w.heap.size + 1]? = ((w.alloc o).alloc p).heap[w.heap.size + 1]? ∧ Below w.heap.size w W4 := by
  obtain ⟨i0, hi, hz0, hz1, hz2⟩ := info_parts strInfo
  have e2 : ((w.alloc o).alloc p).heap.size = w.heap.size + 2 := by simp
  have hsrc : Rd (((w.alloc o).alloc p).alloc (.cells #[] 9)) A s.bs.length 1 (sv s.bs) := Rd.of_own (((World.ownsRow.alloc h o).alloc p).alloc _)
  have hbare : A = none → c = 0 := nil_cap h
  have hown0 := World.ownsRow_made (base := w.heap.size) (e := 9) (size := 1) ((w.alloc o).alloc p) #[] 0 (by rw [e2]; omega) (by simp [maxLen]) (by simp)
  obtain ⟨A4, c4, W4, hrun, hown, hgr, hbel, hob⟩ := app_own (P := Try.prog) _ w.heap.size 34 34 9 i0 _ 1 16 Try.underlying34 hi hz0 hz1 hz2 rfl (by omega) _ _ _ _ hown0 _ _ _ _ hsrc hbare (by
    intro u hu
    simp only [sv, List.mem_map] at hu
    obtain ⟨x, _, rfl⟩ := hu
    rfl) (by simp [maxLen]; omega) (by omega) (by simp; omega)
  rw [Nat.zero_add, List.nil_append, e2] at *
  rcases hown.2 with ⟨h', h0⟩ | ⟨q, cap, cur, hv', _⟩
  · omega
  · injection hv' with hA _ _
    subst hA
    refine ⟨q, c4, W4, hrun, hown, ?_, ?_, ?_⟩
    · rw [hgr.block w.heap.size (by simp; omega) (by simp [Value.ownBlock])]
      exact Below.heap_alloc _ _ _ (by simp; omega)
    · rw [hgr.block (w.heap.size + 1) (by simp) (by simp [Value.ownBlock])]
      exact Below.heap_alloc _ _ _ (by simp)
    · exact ((below_box2 w o p).alloc (by simp; omega) _).trans hbel

theorem sv_set (l : List (List UInt8)) (I : Nat) (x : List UInt8) : sv (l.set I x) = (sv l).set I (.string (str x)) := by simp [sv, List.map_set]
theorem row_b {w : World} {base : Nat} {e : TypeId} {size : Nat} {q : Nat} {n c : Nat} {xs : List Value} (h : w.ownsRow base e size (.slice (some ⟨q, 0, none⟩) n c) n xs) {g : Nat} (hn : q ≠ g) (k : Nat) (u : Value) : (w.setCell ⟨g, k, none⟩ u).ownsRow base e size (.slice (some ⟨q, 0, none⟩) n c) n xs :=
  ownsRow_setCell_other h (by simpa [Value.ownBlock] using hn) u
theorem row_s {w : World} {base : Nat} {e : TypeId} {size : Nat} {q : Nat} {n c : Nat} {xs : List Value} (h : w.ownsRow base e size (.slice (some ⟨q, 0, none⟩) n c) n xs) (I : Nat) (u : Value) : (w.setCell ⟨q, I, none⟩ u).ownsRow base e size (.slice (some ⟨q, 0, none⟩) n c) n (xs.set I u) := (h.stored I u).1
set_option maxHeartbeats 2000000 in
set_option maxRecDepth 100000 in
theorem rwrite_any (base : Nat) (A : Option Addr) (c : Nat) (s : Sto) (i : Int) (b : ByteArray) (w : World) (h : ROwn w base A s.bs.length c s.bs) (hbase : base ≤ w.heap.size) (hok : s.Ok) (hw : s.wr < 1000000) (hb : b.size ≤ maxLen) :
    Calls Try.prog 45 #[rv A s.bs.length c s, .int .i64 i, .string b] w (RWPost base s.bs.length (write s i b.data.toList).1 (write s i b.data.toList).2 w) := by
  unfold maxLen at hb
  have h4 := hok.few
  by_cases hr : reach s i = 0
  · obtain ⟨hoff, hi0, hi1⟩ := reach_zero hr
    obtain ⟨I, rfl⟩ := Int.eq_ofNat_of_zero_le hi0
    have hi2 : ¬ ((s.bs.length : Int) ≤ (I : Int)) := by omega
    have hi3 : I < s.bs.length := by omega
    by_cases hs : b.size = 256
    · obtain ⟨q, c4, W4, hrun, hown, e1, e2, hbel⟩ := rcopy s A c base w h hok.some_ hok.few (.cells #[.slice A s.bs.length c, .bool s.off, .int .i64 s.wr, .int .i64 s.left, .int .i64 s.keep] 42) (.cells #[.slice none 0 0, .bool false, .int .i64 0, .int .i64 0, .int .i64 0] 42)
      have k1 : Blk W4 w.heap.size 42 #[.slice A s.bs.length c, .bool s.off, .int .i64 s.wr, .int .i64 s.left, .int .i64 s.keep] := e1.trans ((Blk.new w _ _).alloc _)
      have k2 : Blk W4 (w.heap.size + 1) 42 #[.slice none 0 0, .bool false, .int .i64 0, .int .i64 0, .int .i64 0] := by
        refine e2.trans ?_
        have := Blk.new (w.alloc (.cells #[.slice A s.bs.length c, .bool s.off, .int .i64 s.wr, .int .i64 s.left, .int .i64 s.keep] 42)) 42 #[.slice none 0 0, .bool false, .int .i64 0, .int .i64 0, .int .i64 0]
        simpa [Blk] using this
      have n1 : q ≠ w.heap.size := fun e => own_ne hown k1 (by decide) (by rw [e]; rfl)
      have n2 : q ≠ w.heap.size + 1 := fun e => own_ne hown k2 (by decide) (by rw [e]; rfl)
      obtain ⟨⟨c0, c1, c2, c3, c4'⟩, f0, f1, f2, f3, f4⟩ := blk5 k1
      obtain ⟨⟨d0, d1, d2, d3, d4⟩, g0, g1, g2, g3, g4⟩ := blk5 k2
      obtain ⟨ob, hob⟩ : ∃ ob, s.bs[I]? = some ob := ⟨_, List.getElem?_eq_getElem (by omega)⟩
      have hq : W4.cell? ⟨q, I, none⟩ = some (.string (str ob)) := by
        rw [World.ownsRow.cellAt hown I (by omega), sv, List.getElem?_map, hob]
        rfl
      have fq := World.ownsRow.frozenAt hown I
      have hobl : ob.length = 256 := hok.whole ob (List.mem_of_getElem? hob)
      have HR := Lib.hid hrun
      have hne : ((b.size : Int) != 256) = false := by simp [hs]
      rw [hoff] at c1 HR
      have HO := Lib.hid hown
      have HB := Lib.hid hbel
      have hqb : w.heap.size ≤ q := (World.ownsRow.lt hown q rfl).1
      have k0 := hok.k0
      have k1' := hok.k1
      have w0 := hok.w0
      by_cases hleft : s.left = 1
      · have HF : Hid (write s (I : Int) b.data.toList = (⟨s.bs.set I (b.data.toList.take s.keep.toNat ++ ob.drop s.keep.toNat), true, s.wr + 1, 0, s.keep⟩, 330)) := by
          show _ = _
          rw [write, if_neg (by rw [hr]; simp), if_neg (by simpa using hs), if_pos hleft, Int.toNat_natCast, List.getD_eq_getElem?_getD, hob]
          rfl
        rw [HF.out]
        obtain ⟨bs, off, wr, left, keep⟩ := s
        simp only at hoff hleft
        subst hoff hleft
        simp only at *
        obtain ⟨K, rfl⟩ := Int.eq_ofNat_of_zero_le k0
        rw [Int.toNat_natCast]
        unfold rv
        have hbs : K ≤ b.size := by omega
        have hbo : K ≤ (str ob).size := by rw [str_size, hobl]; omega
        have hbo2 : (str ob).size = 256 := by rw [str_size, hobl]
        clear hr HF h e1 e2 k1 k2 hrun hown hbel hok hob
        go_enter Try.func45, Try.ntmps45
        go_wp2_with (at_builtin; refine wpList_app rfl _ _ rfl rfl rfl HR.out ?_)
        go_region
        all_goals
          go_wp2_with fail
        have hx : b.extract 0 K ++ (str ob).extract K 256 = str (b.data.toList.take K ++ ob.drop K) := by
          rw [← str_of (b.extract 0 K ++ (str ob).extract K 256)]
          congr 1
          rw [ByteArray.data_append, Array.toList_append, Lib.extract_data, Lib.extract_data, str_data]
          simp
          exact List.take_of_length_le (by rw [List.length_drop, hobl]; omega)
        refine bodyPost_ret (v := .tuple #[rv (some ⟨q, 0, none⟩) bs.length c4 ⟨bs.set I (b.data.toList.take K ++ ob.drop K), true, wr + 1, 0, (K : Int)⟩, .int .i64 330]) (by simp [results, Try.results45, go_sem, rv, d0, d1, d2, d3, d4]) rfl ?_
        refine ⟨some ⟨q, 0, none⟩, c4, rfl, ?_, ?_⟩
        · show World.ownsRow _ _ _ _ _ _ (sv (bs.set I _))
          rw [sv_set, hx]
          exact World.ownsRow.mono (World.ownsRow.drew (row_b (row_b (row_b (row_b (row_b (row_b (row_b (row_s (row_b (row_b HO.out n1 _ _) n1 _ _) I _) n1 _ _) n1 _ _) n2 _ _) n2 _ _) n2 _ _) n2 _ _) n2 _ _)) hbase
        · exact (below5 ((((((HB.out.setCell (p := ⟨w.heap.size, 0, none⟩) (Nat.le_refl _) _).setCell (p := ⟨w.heap.size, 2, none⟩) (Nat.le_refl _) _)).setCell (p := ⟨q, I, none⟩) hqb _).setCell (p := ⟨w.heap.size, 1, none⟩) (Nat.le_refl _) _).setCell (p := ⟨w.heap.size, 3, none⟩) (Nat.le_refl _) _) (Nat.le_succ _) _ _ _ _ _).drew
      · have HF : Hid (write s (I : Int) b.data.toList = (⟨s.bs.set I b.data.toList, s.off, s.wr + 1, max (s.left - 1) 0, s.keep⟩, 0)) := by
          show _ = _
          rw [write, if_neg (by rw [hr]; simp), if_neg (by simpa using hs), if_neg hleft]
          simp
        rw [HF.out]
        obtain ⟨bs, off, wr, left, keep⟩ := s
        simp only at hoff
        subst hoff
        simp only at *
        unfold rv
        have hl0 := hok.l0
        have hl1 := hok.l1
        simp only at hl0 hl1
        clear hs hr HF h e1 e2 k1 k2 hrun hown hbel hok hob
        by_cases hl : 1 < left
        · go_enter Try.func45, Try.ntmps45
          go_wp2_with (at_builtin; refine wpList_app rfl _ _ rfl rfl rfl HR.out ?_)
          refine bodyPost_ret (v := .tuple #[rv (some ⟨q, 0, none⟩) bs.length c4 ⟨bs.set I b.data.toList, false, wr + 1, left - 1, keep⟩, .int .i64 0]) (by simp [results, Try.results45, go_sem, rv, d0, d1, d2, d3, d4]) rfl ?_
          refine ⟨some ⟨q, 0, none⟩, c4, by rw [show max (left - 1) 0 = left - 1 by omega], ?_, ?_⟩
          · show World.ownsRow _ _ _ _ _ _ (sv (bs.set I b.data.toList))
            rw [sv_set, str_of]
            exact World.ownsRow.mono (row_b (row_b (row_b (row_b (row_b (row_s (row_b (row_b (row_b HO.out n1 _ _) n1 _ _) n1 _ _) I (.string b)) n2 _ _) n2 _ _) n2 _ _) n2 _ _) n2 _ _) hbase
          · exact below5 (((((HB.out.setCell (p := ⟨w.heap.size, 0, none⟩) (Nat.le_refl _) _).setCell (p := ⟨w.heap.size, 2, none⟩) (Nat.le_refl _) _).setCell (p := ⟨w.heap.size, 3, none⟩) (Nat.le_refl _) _)).setCell (p := ⟨q, I, none⟩) hqb _) (Nat.le_succ _) _ _ _ _ _
        · obtain rfl : left = 0 := by omega
          clear hl hleft
          go_enter Try.func45, Try.ntmps45
          go_wp2_with (at_builtin; refine wpList_app rfl _ _ rfl rfl rfl HR.out ?_)
          refine bodyPost_ret (v := .tuple #[rv (some ⟨q, 0, none⟩) bs.length c4 ⟨bs.set I b.data.toList, false, wr + 1, 0, keep⟩, .int .i64 0]) (by simp [results, Try.results45, go_sem, rv, d0, d1, d2, d3, d4]) rfl ?_
          refine ⟨some ⟨q, 0, none⟩, c4, rfl, ?_, ?_⟩
          · show World.ownsRow _ _ _ _ _ _ (sv (bs.set I b.data.toList))
            rw [sv_set, str_of]
            exact World.ownsRow.mono (row_b (row_b (row_b (row_b (row_b (row_s (row_b (row_b HO.out n1 _ _) n1 _ _) I (.string b)) n2 _ _) n2 _ _) n2 _ _) n2 _ _) n2 _ _) hbase
          · exact below5 ((((HB.out.setCell (p := ⟨w.heap.size, 0, none⟩) (Nat.le_refl _) _).setCell (p := ⟨w.heap.size, 2, none⟩) (Nat.le_refl _) _)).setCell (p := ⟨q, I, none⟩) hqb _) (Nat.le_succ _) _ _ _ _ _
    · have HF : Hid (write s (I : Int) b.data.toList = (s, 2)) := by
        show _ = _
        rw [write, if_neg (by rw [hr]; simp), if_pos (by simpa using hs)]
      have hne : ((b.size : Int) != 256) = true := by rw [bne_iff_ne]; omega
      rw [HF.out]
      obtain ⟨bs, off, wr, left, keep⟩ := s
      simp only at hoff
      subst hoff
      unfold rv
      clear hs hr
      go_enter Try.func45, Try.ntmps45
      go_wp2_with fail
      refine bodyPost_ret (v := .tuple #[rv A bs.length c ⟨bs, false, wr, left, keep⟩, .int .i64 2]) (by simp [results, Try.results45, go_sem, rv]) rfl ?_
      exact ⟨A, c, rfl, ROwn.below h (below_box2 _ _ _), below_box2 _ _ _⟩
  · have HF : Hid (write s i b.data.toList = (s, reach s i)) := by
      show _ = _
      rw [write, if_pos hr]
    rw [HF.out]
    obtain ⟨bs, off, wr, left, keep⟩ := s
    unfold rv
    cases off
    · have hre : reach ⟨bs, false, wr, left, keep⟩ i = 331 := by
        unfold reach at hr ⊢
        simp only [Bool.false_eq_true, if_false] at hr ⊢
        split at hr
        · rw [if_pos (by assumption)]
        · exact absurd rfl hr
      have hor : i < 0 ∨ (bs.length : Int) ≤ i := by
        unfold reach at hr
        simp only [Bool.false_eq_true, if_false] at hr
        split at hr
        · assumption
        · exact absurd rfl hr
      rw [hre]
      clear hr hre
      by_cases h0 : i < 0
      · clear hor
        go_enter Try.func45, Try.ntmps45
        go_wp2_with fail
        refine bodyPost_ret (v := .tuple #[rv A bs.length c ⟨bs, false, wr, left, keep⟩, .int .i64 331]) (by simp [results, Try.results45, go_sem, rv]) rfl ?_
        exact ⟨A, c, rfl, ROwn.below h (below_box2 _ _ _), below_box2 _ _ _⟩
      · have h1 : (bs.length : Int) ≤ i := by omega
        clear hor
        go_enter Try.func45, Try.ntmps45
        go_wp2_with fail
        refine bodyPost_ret (v := .tuple #[rv A bs.length c ⟨bs, false, wr, left, keep⟩, .int .i64 331]) (by simp [results, Try.results45, go_sem, rv]) rfl ?_
        exact ⟨A, c, rfl, ROwn.below h (below_box2 _ _ _), below_box2 _ _ _⟩
    · have hre : reach ⟨bs, true, wr, left, keep⟩ i = 330 := by simp [reach]
      rw [hre]
      clear hr hre
      go_enter Try.func45, Try.ntmps45
      go_wp2_with fail
      refine bodyPost_ret (v := .tuple #[rv A bs.length c ⟨bs, true, wr, left, keep⟩, .int .i64 330]) (by simp [results, Try.results45, go_sem, rv]) rfl ?_
      exact ⟨A, c, rfl, ROwn.below h (below_box2 _ _ _), below_box2 _ _ _⟩
end Go.Proofs.Ytdhnegcblnpmfaa.StorW
