/-
  Contracts at reservations: slices.DeleteFunc (a closure with one captured variable); book.without.
-/
import Derived.Test.YthfnmighhoighaaBookSl
namespace Go.Proofs.Ythfnmighhoighaa.BookW
open Go.RowKit Mem Prof Book ProfW
set_option linter.unusedVariables false
set_option linter.unusedSimpArgs false

def DelPost (base : Nat) (A : Option Addr) (c : Nat) (l : List Bk) (w : World) (e : Ending) (w' : World) : Prop := e = .returned (.slice A l.length c) ∧ BksO w' base A l.length c l ∧ Below base w w'
def DelRel (base : Nat) (A : Option Addr) (c : Nat) (q : Bk → Bool) (l : List Bk) (w : World) (i j : Value) (wr : World) : Prop :=
  ∃ a b : Nat, a < b ∧ b ≤ l.length ∧ i = .int .i64 a ∧ j = .int .i64 b ∧ ∃ arr : List Bk, arr.take a = (l.take b).filter (fun x => !q x) ∧ arr.drop b = l.drop b ∧ BksO wr base A l.length c arr ∧ Below base w wr
theorem filter_take_no {q : Bk → Bool} {l : List Bk} {b : Nat} {s : Bk} (h : l[b]? = some s) (hq : q s = true) : (l.take (b + 1)).filter (fun x => !q x) = (l.take b).filter (fun x => !q x) := by
  rw [take_snoc_some h, List.filter_append]
  simp [hq]
theorem filter_take_yes {q : Bk → Bool} {l : List Bk} {b : Nat} {s : Bk} (h : l[b]? = some s) (hq : q s = false) : (l.take (b + 1)).filter (fun x => !q x) = (l.take b).filter (fun x => !q x) ++ [s] := by
  rw [take_snoc_some h, List.filter_append]
  simp [hq]
theorem del_start {q : Bk → Bool} {l : List Bk} {k : Nat} {s : Bk} (h : ∀ x ∈ l.take k, q x = false) (hs : l[k]? = some s) (hq : q s = true) : l.take k = (l.take (k + 1)).filter (fun x => !q x) := by
  rw [filter_take_no hs hq, eq_comm, List.filter_eq_self]
  intro x hx
  rw [h x hx]
  rfl
theorem del_keep {q : Bk → Bool} {l arr : List Bk} {a b : Nat} {s : Bk} (hlen : arr.length = l.length) (hab : a < b) (h1 : arr.take a = (l.take b).filter (fun x => !q x)) (h2 : arr.drop b = l.drop b) (hs : l[b]? = some s) (hq : q s = false) :
    (arr.set a s).take (a + 1) = (l.take (b + 1)).filter (fun x => !q x) ∧ (arr.set a s).drop (b + 1) = l.drop (b + 1) := by
  have hb := (List.getElem?_eq_some_iff.1 hs).1
  constructor
  · rw [filter_take_yes hs hq, ← h1, take_snoc_some (x := s) (by rw [List.getElem?_set_self (by omega)]), List.take_set_of_le (by omega)]
  · have e : (l.drop b).drop 1 = l.drop (b + 1) := by rw [List.drop_drop]
    rw [← e, ← h2, List.drop_drop, List.drop_set_of_lt (by omega)]
theorem del_skip {q : Bk → Bool} {l arr : List Bk} {a b : Nat} {s : Bk} (h1 : arr.take a = (l.take b).filter (fun x => !q x)) (h2 : arr.drop b = l.drop b) (hs : l[b]? = some s) (hq : q s = true) :
    arr.take a = (l.take (b + 1)).filter (fun x => !q x) ∧ arr.drop (b + 1) = l.drop (b + 1) := by
  refine ⟨by rw [filter_take_no hs hq]; exact h1, ?_⟩
  have e : (l.drop b).drop 1 = l.drop (b + 1) := by rw [List.drop_drop]
  rw [← e, ← h2, List.drop_drop]
theorem at_drop {l arr : List Bk} {b : Nat} (h : arr.drop b = l.drop b) : arr[b]? = l[b]? := by
  have := congrArg (fun m => m[0]?) h
  simpa using this
theorem idx_split {q : Bk → Bool} {l : List Bk} (h : l.any q = true) : ∃ (k : Nat) (s : Bk), (∀ x ∈ l.take k, q x = false) ∧ l[k]? = some s ∧ q s = true := by
  have hk : l.findIdx q < l.length := List.findIdx_lt_length.2 (by simpa using h)
  refine ⟨l.findIdx q, l[l.findIdx q], fun x hx => ?_, List.getElem?_eq_getElem hk, List.findIdx_getElem⟩
  obtain ⟨j, hj, rfl⟩ := List.mem_take_iff_getElem.1 hx
  exact List.not_of_lt_findIdx (by omega)
theorem bookZero (w : World) : (zeroValue 42).run Try.prog w = .ok (.agg #[.int .i64 0, .int .i64 0, .int .i64 0, .int .i64 0]) w := by kernel_rfl
theorem own_four {w : World} {base g n c : Nat} {l : List Bk} (h : BksO w base (some ⟨g, 0, none⟩) n c l) {i : Nat} (hi : i < n) : ∃ s, l[i]? = some s ∧ w.cell? ⟨g, i * 4, none⟩ = some (.int .i64 s.id) ∧ w.cell? ⟨g, i * 4 + 1, none⟩ = some (.int .i64 s.fr) ∧ w.cell? ⟨g, i * 4 + 2, none⟩ = some (.int .i64 s.to) ∧ w.cell? ⟨g, i * 4 + 3, none⟩ = some (.int .i64 s.nd) ∧
    w.frozen? ⟨g, i * 4, none⟩ = false ∧ w.frozen? ⟨g, i * 4 + 1, none⟩ = false ∧ w.frozen? ⟨g, i * 4 + 2, none⟩ = false ∧ w.frozen? ⟨g, i * 4 + 3, none⟩ = false := by
  obtain ⟨g', off', s, e', hg', hs, d0, d1, d2, d3⟩ := Lst.four (h.lst layB) hi
  injection e' with e'
  injection e' with e1 e2
  subst e1 e2
  rw [Nat.zero_add] at d0 d1 d2 d3
  have hle := h.2.le
  obtain ⟨g', e', _, _, _, h2⟩ := h.2.room (by omega)
  injection e' with e'
  injection e' with e1 e2
  subst e1
  exact ⟨s, hs, d0, d1, d2, d3, (h2 _ (by omega)).2, (h2 _ (by omega)).2, (h2 _ (by omega)).2, (h2 _ (by omega)).2⟩
set_option maxHeartbeats 1000000 in
set_option maxRecDepth 100000 in
theorem delete_any (g : FuncId) (B : Addr) (q : Bk → Bool) (base : Nat) (W0 : World) (eg : ∀ args w, (callFunc g args).run Try.prog w = .ok (.enter g args) w) (hc : Tells g B q base W0) (hbase : base ≤ W0.heap.size)
    (A : Option Addr) (n c : Nat) (l : List Bk) (w : World) (hw : Below base W0 w) (h : BksO w base A n c l) (hn : n ≤ 1000000) :
    Calls Try.prog 70 #[.slice A n c, .func (.func g) #[] #[.pointer (some B)]] w (DelPost base A c (l.filter (fun x => !q x)) w) := by
  have hlen := h.1
  subst hlen
  have hmax : l.length ≤ maxLen := by simp [maxLen]; omega
  have HIx := Lib.hid (index_any g B q base W0 eg hc hbase A l.length c l w hw (h.lst layB) hmax)
  have hbw : base ≤ w.heap.size := Nat.le_trans hbase hw.size
  cases hany : l.any q
  · have hno : ∀ x ∈ l, q x = false := fun x hx => by
      have := List.any_eq_false.1 hany x hx
      simpa using this
    rw [idx_none hno] at HIx
    have HF : Hid (l.filter (fun x => !q x) = l) := by
      show _ = _
      rw [List.filter_eq_self]
      intro x hx
      rw [hno x hx]
      rfl
    have HH := Lib.hid h
    clear hany hno hc h
    go_enter Try.func70, Try.ntmps70
    go_wp2_with fail
    refine HIx.out.mono ?_
    rintro e w1 ⟨rfl, b1⟩
    go_wp2_with fail
    go_ret
    rw [HF.out]
    exact ⟨rfl, HH.out.below b1, b1.mono hbw⟩
  · obtain ⟨k, s, hk, hs, hq⟩ := idx_split hany
    rw [idx_at hk hs hq] at HIx
    have hkl := (List.getElem?_eq_some_iff.1 hs).1
    have HST := Lib.hid (del_start hk hs hq)
    have HH := Lib.hid h
    have HC := Lib.hid hc
    have hcap := h.2.le
    have hcm := h.2.max
    unfold maxLen at hcm
    obtain ⟨gr, rfl, hgb, hgl, _, _⟩ := h.2.room (by omega)
    have hk1 : ((k : Int) == -1) = false := by simp
    clear hany hk hs hq hc h
    go_enter Try.func70, Try.ntmps70
    go_wp2_with fail
    refine HIx.out.mono ?_
    rintro e w1 ⟨rfl, b1⟩
    go_wp2_with fail
    go_loopw [5, 6] (fun i j wr => DelRel base (some ⟨gr, 0, none⟩) c q l w i j wr) (fun _ j _ => l.length - (intOf j).toNat)
    case atStart => exact ⟨k, k + 1, by omega, by omega, rfl, by go_num, l, HST.out, rfl, HH.out.below b1, b1.mono hbw⟩
    case round =>
      obtain ⟨a, b, hab, hbl, rfl, rfl, arr, h1, h2, hown, hbel⟩ := hrel
      have H1 := Lib.hid h1
      have H2 := Lib.hid h2
      have HO := Lib.hid hown
      have HLen := Lib.hid hown.1
      clear h1 h2 hown
      by_cases hlt : b < l.length
      · obtain ⟨g', off', s', e', hg', hs', d0, d1, d2, d3⟩ := Lst.four (HO.out.lst layB) hlt
        injection e' with e'
        injection e' with e1 e2
        subst e1 e2
        rw [Nat.zero_add] at d0 d1 d2 d3
        rw [at_drop H2.out] at hs'
        have HS := Lib.hid hs'
        clear hs'
        go_wp2_with fail
        obtain ⟨V, hV⟩ : ∃ V, V = wr.alloc (.cells #[.int .i64 s'.id, .int .i64 s'.fr, .int .i64 s'.to, .int .i64 s'.nd] 42) := ⟨_, rfl⟩
        rw [← hV]
        have bV : Below wr.heap.size wr V := by rw [hV]; exact (Below.refl _ _).alloc (Nat.le_refl _) _
        have kV : Blk V wr.heap.size 42 #[.int .i64 s'.id, .int .i64 s'.fr, .int .i64 s'.to, .int .i64 s'.nd] := by rw [hV]; exact Blk.new _ _ _
        have hbr : base ≤ wr.heap.size := Nat.le_trans hbw hbel.size
        have bwV := hbel.trans (bV.mono hbr)
        have HCall := Lib.hid (HC.out s' V (hw.trans bwV))
        clear hV d0 d1 d2 d3
        cases hq : q s'
        · rw [hq] at HCall
          refine HCall.out.mono ?_
          rintro e w2 ⟨rfl, b2⟩
          have hO2 := (HO.out.below bV).below b2
          have bw2 := bwV.trans (b2.mono (Nat.le_trans hbr bV.size))
          have k2 := kV.below b2 kV.lt
          obtain ⟨x0, x1, x2, x3⟩ := blk4 k2
          obtain ⟨sa, _, d0, d1, d2, d3, f0, f1, f2, f3⟩ := own_four hO2 (show a < l.length by omega)
          have HKeep := Lib.hid (del_keep HLen.out hab H1.out H2.out HS.out hq)
          have HNew := Lib.hid (sown_set layB hO2 a (show a < l.length by omega) s')
          have hgne : gr ≠ wr.heap.size := Nat.ne_of_lt hg'
          have hgne' : wr.heap.size ≠ gr := Ne.symm hgne
          clear hq hO2 k2
          go_wp2_with fail
          exact ⟨⟨a + 1, b + 1, by omega, by omega, by go_num, by go_num, arr.set a s', HKeep.out.1, HKeep.out.2, HNew.out, below_setCells bw2 hgb (bkRow s') (a * 4)⟩, by simp [intOf]; omega⟩
        · rw [hq] at HCall
          refine HCall.out.mono ?_
          rintro e w2 ⟨rfl, b2⟩
          have HSk := Lib.hid (del_skip H1.out H2.out HS.out hq)
          clear hq
          go_wp2_with fail
          exact ⟨⟨a, b + 1, by omega, by omega, rfl, by go_num, arr, HSk.out.1, HSk.out.2, (HO.out.below bV).below b2, bwV.trans (b2.mono (Nat.le_trans hbr bV.size))⟩, by simp [intOf]; omega⟩
      · obtain rfl : b = l.length := by omega
        have HF : Hid (arr.take a = l.filter (fun x => !q x)) := by
          show _ = _
          rw [H1.out, List.take_length]
        have hO := HO.out
        obtain ⟨g', e', _, _, _, hroom⟩ := hO.2.room (by omega)
        injection e' with e'
        injection e' with e1 e2
        subst e1
        have hzs : (Builtin.zeroCells (Value.agg #[.int .i64 0, .int .i64 0, .int .i64 0, .int .i64 0]).cells (l.length - a)).size = (l.length - a) * 4 := by rw [size_zeroCells]; rfl
        have hcl : ∀ ty, (Builtin.clear_ #[40] ty #[.slice (some ⟨gr, a * 4, none⟩) (l.length - a) (c - a)]).run Try.prog wr = .ok (.tuple #[]) (wr.setCells gr (a * 4) (Builtin.zeroCells (Value.agg #[.int .i64 0, .int .i64 0, .int .i64 0, .int .i64 0]).cells (l.length - a)).toList) := fun ty =>
          run_clear_row wr 40 42 ty _ Try.underlying40 bookZero gr (a * 4) (l.length - a) (c - a) (by omega) (fun v hv => mem_zeroCells hv (by intro u hu; simp [Value.cells] at hu; subst hu; rfl)) (fun j hj => (hroom _ (by rw [hzs] at hj; omega)).1) (fun j hj => (hroom _ (by rw [hzs] at hj; omega)).2)
        have HNew := Lib.hid (sown_tail layB hO a (show a ≤ l.length by omega) (Builtin.zeroCells (Value.agg #[.int .i64 0, .int .i64 0, .int .i64 0, .int .i64 0]).cells (l.length - a)).toList (by rw [Array.length_toList, hzs]))
        have HLa : Hid ((l.filter (fun x => !q x)).length = a) := by
          show _ = _
          rw [← HF.out, List.length_take, HLen.out]
          omega
        clear hO hroom hzs
        obtain ⟨zs, hzs⟩ : ∃ zs, zs = (Builtin.zeroCells (Value.agg #[.int .i64 0, .int .i64 0, .int .i64 0, .int .i64 0]).cells (l.length - a)).toList := ⟨_, rfl⟩
        rw [← hzs] at hcl HNew
        clear hzs
        have hfin := HNew.out
        rw [HF.out] at hfin
        have HFin := Lib.hid hfin
        clear hfin
        go_wp2_with fail
        go_ret
        unfold DelPost
        rw [HLa.out]
        exact ⟨rfl, HFin.out, below_setCells hbel hgb zs (a * 4)⟩
set_option maxHeartbeats 1000000 in
theorem without_any (g : FuncId) (B : Addr) (q : Bk → Bool) (eg : ∀ args w, (callFunc g args).run Try.prog w = .ok (.enter g args) w)
    (A : Option Addr) (n c : Nat) (l : List Bk) (w : World) (hc : Tells g B q w.heap.size w) (h : Bks w A n l) (hn : n ≤ 1000000) (hA : A = none → c = 0) :
    Calls Try.prog 55 #[.slice A n c, .func (.func g) #[] #[.pointer (some B)]] w (NewB (l.filter (fun x => !q x)) w) := by
  have hlen := h.len
  subst hlen
  have HCl := Lib.hid (bclone_any A l.length c l w h hn hA)
  have HC := Lib.hid hc
  have HE := Lib.hid eg
  clear h hc hA eg
  go_enter Try.func55, Try.ntmps55
  go_wp2_with fail
  refine HCl.out.mono ?_
  rintro e w1 ⟨A1, c1, rfl, o1, b1⟩
  have HD := Lib.hid (delete_any g B q w.heap.size w HE.out HC.out (Nat.le_refl _) A1 l.length c1 l w1 b1 o1 hn)
  clear o1
  go_wp2_with fail
  refine HD.out.mono ?_
  rintro e w2 ⟨rfl, o2, b2⟩
  go_wp2_with fail
  go_ret
  exact ⟨A1, c1, rfl, o2, b1.trans b2⟩
end Go.Proofs.Ythfnmighhoighaa.BookW
