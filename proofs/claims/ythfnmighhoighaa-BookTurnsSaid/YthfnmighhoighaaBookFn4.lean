/-
  Contracts: slices.Equal at reservations, book.Same, musterref19.Same; book.Take.
-/
import Derived.Test.YthfnmighhoighaaBookFn3
namespace Go.Proofs.Ythfnmighhoighaa.BookW
open Go.RowKit Mem Prof Book ProfW
set_option linter.unusedVariables false
set_option linter.unusedSimpArgs false

theorem bk_ext {x y : Bk} (h0 : x.id = y.id) (h1 : x.fr = y.fr) (h2 : x.to = y.to) (h3 : x.nd = y.nd) : x = y := by
  cases x; cases y; simp_all
set_option maxHeartbeats 1000000 in
set_option maxRecDepth 100000 in
theorem bequal_any (A B : Option Addr) (n m c d : Nat) (p q : List Bk) (w : World) (h : Bks w A n p) (g : Bks w B m q) (hn : n ≤ maxLen) (hm : m ≤ maxLen) :
    Calls Try.prog 64 #[.slice A n c, .slice B m d] w (Drew (.bool (decide (p = q))) w) := by
  unfold maxLen at hn hm
  have hl := h.len
  have hk := g.len
  subst hl hk
  by_cases hlen : p.length = q.length
  · have hne : ((p.length : Int) != (q.length : Int)) = false := by simp [hlen]
    have hne' : (p.length != q.length) = false := by simp [hlen]
    have HL := Lib.hid hlen
    have hle : p.length ≤ q.length := by omega
    have hle' : q.length ≤ p.length := by omega
    clear hlen
    go_enter Try.func64, Try.ntmps64
    go_wp2_with fail
    go_loopw [13] (fun i wr => ∃ k d : Nat, k ≤ p.length ∧ i = .int .i64 k ∧ p.take k = q.take k ∧ wr = w.drewN d) (fun i _ => p.length - (intOf i).toNat)
    case atStart => exact ⟨0, 0, by omega, rfl, by simp, rfl⟩
    case round =>
      obtain ⟨j, dd, hj, rfl, htk, rfl⟩ := hrel
      have HTK := Lib.hid htk
      clear htk
      by_cases hlt : j < p.length
      · obtain ⟨b1, o1, x, rfl, _, hx, c0, c1, c2, c3⟩ := Lst.four h hlt
        obtain ⟨b2, o2, y, rfl, _, hy, d0, d1, d2, d3⟩ := Lst.four g (show j < q.length by omega)
        have HX := Lib.hid hx
        have HY := Lib.hid hy
        have HN : Hid (x ≠ y → decide (p = q) = false) := by
          show _ → _
          intro hxy
          rw [decide_eq_false_iff_not]
          intro e
          rw [e, HY.out] at HX
          have := HX.out
          injection this with this
          exact hxy this.symm
        clear hx hy h g
        by_cases h0 : x.id = y.id
        case neg =>
          have e0 : (x.id != y.id) = true := by simpa using h0
          have e0' : (x.id == y.id) = false := by simpa using h0
          have HF := Lib.hid (HN.out (fun e => h0 (by rw [e])))
          clear h0
          go_wp2_with fail
          go_quiet (fail)
          go_wp2_with fail
          go_ret
          exact ⟨ret_bool HF.out.symm, _, World.drewN_drewN _ _ _⟩
        have e0 : (x.id != y.id) = false := by simp [h0]
        have e0' : (x.id == y.id) = true := by simp [h0]
        by_cases h1 : x.fr = y.fr
        case neg =>
          have e1 : (x.fr != y.fr) = true := by simpa using h1
          have e1' : (x.fr == y.fr) = false := by simpa using h1
          have HF := Lib.hid (HN.out (fun e => h1 (by rw [e])))
          clear h0 h1
          go_wp2_with fail
          go_quiet (fail)
          go_wp2_with fail
          go_ret
          exact ⟨ret_bool HF.out.symm, _, World.drewN_drewN _ _ _⟩
        have e1 : (x.fr != y.fr) = false := by simp [h1]
        have e1' : (x.fr == y.fr) = true := by simp [h1]
        by_cases h2 : x.to = y.to
        case neg =>
          have e2 : (x.to != y.to) = true := by simpa using h2
          have e2' : (x.to == y.to) = false := by simpa using h2
          have HF := Lib.hid (HN.out (fun e => h2 (by rw [e])))
          clear h0 h1 h2
          go_wp2_with fail
          go_quiet (fail)
          go_wp2_with fail
          go_ret
          exact ⟨ret_bool HF.out.symm, _, World.drewN_drewN _ _ _⟩
        have e2 : (x.to != y.to) = false := by simp [h2]
        have e2' : (x.to == y.to) = true := by simp [h2]
        by_cases h3 : x.nd = y.nd
        case neg =>
          have e3 : (x.nd != y.nd) = true := by simpa using h3
          have e3' : (x.nd == y.nd) = false := by simpa using h3
          have HF := Lib.hid (HN.out (fun e => h3 (by rw [e])))
          clear h0 h1 h2 h3
          go_wp2_with fail
          go_quiet (fail)
          go_wp2_with fail
          go_ret
          exact ⟨ret_bool HF.out.symm, _, World.drewN_drewN _ _ _⟩
        have e3 : (x.nd != y.nd) = false := by simp [h3]
        have e3' : (x.nd == y.nd) = true := by simp [h3]
        have HT : Hid (p.take (j + 1) = q.take (j + 1)) := by
          show _ = _
          rw [take_snoc_some HX.out, take_snoc_some HY.out, HTK.out, bk_ext h0 h1 h2 h3]
        clear h0 h1 h2 h3
        go_wp2_with fail
        go_quiet (fail)
        go_wp2_with fail
        exact ⟨⟨j + 1, _, by omega, by go_num, HT.out, rfl⟩, by simp [intOf]; omega⟩
      · have HE : Hid (decide (p = q) = true) := by
          show _ = _
          rw [decide_eq_true_iff]
          have := HTK.out
          rwa [List.take_of_length_le (by omega), List.take_of_length_le (by omega)] at this
        go_wp2_with fail
        go_ret
        exact ⟨ret_bool HE.out.symm, _, rfl⟩
  · have hne : ((p.length : Int) != (q.length : Int)) = true := by rw [bne_iff_ne]; omega
    have hne' : (p.length != q.length) = true := by rw [bne_iff_ne]; omega
    have HN : Hid (decide (p = q) = false) := by
      show _ = _
      rw [decide_eq_false_iff_not]
      intro e
      exact hlen (by rw [e])
    clear hlen
    go_enter Try.func64, Try.ntmps64
    go_wp2_with fail
    go_ret
    exact ⟨ret_bool HN.out.symm, 0, rfl⟩
set_option maxHeartbeats 1000000 in
set_option maxRecDepth 100000 in
theorem rbsame_any (A B : Option Addr) (n m c d : Nat) (p q : List Bk) (w : World) (h : Bks w A n p) (g : Bks w B m q) (hn : n ≤ maxLen) (hm : m ≤ maxLen) :
    Calls Try.prog 34 #[.slice A n c, .slice B m d] w (Drew (.bool (decide (p = q))) w) := by
  unfold maxLen at hn hm
  have hl := h.len
  have hk := g.len
  subst hl hk
  by_cases hlen : p.length = q.length
  · have hne : ((p.length : Int) != (q.length : Int)) = false := by simp [hlen]
    have hne' : (p.length != q.length) = false := by simp [hlen]
    have HL := Lib.hid hlen
    have hle : p.length ≤ q.length := by omega
    have hle' : q.length ≤ p.length := by omega
    clear hlen
    go_enter Try.func34, Try.ntmps34
    go_wp2_with fail
    go_loopw [5] (fun i wr => ∃ k d : Nat, k ≤ p.length ∧ i = .int .i64 k ∧ p.take k = q.take k ∧ wr = w.drewN d) (fun i _ => p.length - (intOf i).toNat)
    case atStart => exact ⟨0, 0, by omega, rfl, by simp, rfl⟩
    case round =>
      obtain ⟨j, dd, hj, rfl, htk, rfl⟩ := hrel
      have HTK := Lib.hid htk
      clear htk
      by_cases hlt : j < p.length
      · obtain ⟨b1, o1, x, rfl, _, hx, c0, c1, c2, c3⟩ := Lst.four h hlt
        obtain ⟨b2, o2, y, rfl, _, hy, d0, d1, d2, d3⟩ := Lst.four g (show j < q.length by omega)
        have HX := Lib.hid hx
        have HY := Lib.hid hy
        have HN : Hid (x ≠ y → decide (p = q) = false) := by
          show _ → _
          intro hxy
          rw [decide_eq_false_iff_not]
          intro e
          rw [e, HY.out] at HX
          have := HX.out
          injection this with this
          exact hxy this.symm
        clear hx hy h g
        by_cases h0 : x.id = y.id
        case neg =>
          have e0 : (x.id != y.id) = true := by simpa using h0
          have e0' : (x.id == y.id) = false := by simpa using h0
          have HF := Lib.hid (HN.out (fun e => h0 (by rw [e])))
          clear h0
          go_wp2_with fail
          go_quiet (fail)
          go_wp2_with fail
          go_ret
          exact ⟨ret_bool HF.out.symm, _, World.drewN_drewN _ _ _⟩
        have e0 : (x.id != y.id) = false := by simp [h0]
        have e0' : (x.id == y.id) = true := by simp [h0]
        by_cases h1 : x.fr = y.fr
        case neg =>
          have e1 : (x.fr != y.fr) = true := by simpa using h1
          have e1' : (x.fr == y.fr) = false := by simpa using h1
          have HF := Lib.hid (HN.out (fun e => h1 (by rw [e])))
          clear h0 h1
          go_wp2_with fail
          go_quiet (fail)
          go_wp2_with fail
          go_ret
          exact ⟨ret_bool HF.out.symm, _, World.drewN_drewN _ _ _⟩
        have e1 : (x.fr != y.fr) = false := by simp [h1]
        have e1' : (x.fr == y.fr) = true := by simp [h1]
        by_cases h2 : x.to = y.to
        case neg =>
          have e2 : (x.to != y.to) = true := by simpa using h2
          have e2' : (x.to == y.to) = false := by simpa using h2
          have HF := Lib.hid (HN.out (fun e => h2 (by rw [e])))
          clear h0 h1 h2
          go_wp2_with fail
          go_quiet (fail)
          go_wp2_with fail
          go_ret
          exact ⟨ret_bool HF.out.symm, _, World.drewN_drewN _ _ _⟩
        have e2 : (x.to != y.to) = false := by simp [h2]
        have e2' : (x.to == y.to) = true := by simp [h2]
        by_cases h3 : x.nd = y.nd
        case neg =>
          have e3 : (x.nd != y.nd) = true := by simpa using h3
          have e3' : (x.nd == y.nd) = false := by simpa using h3
          have HF := Lib.hid (HN.out (fun e => h3 (by rw [e])))
          clear h0 h1 h2 h3
          go_wp2_with fail
          go_quiet (fail)
          go_wp2_with fail
          go_ret
          exact ⟨ret_bool HF.out.symm, _, World.drewN_drewN _ _ _⟩
        have e3 : (x.nd != y.nd) = false := by simp [h3]
        have e3' : (x.nd == y.nd) = true := by simp [h3]
        have HT : Hid (p.take (j + 1) = q.take (j + 1)) := by
          show _ = _
          rw [take_snoc_some HX.out, take_snoc_some HY.out, HTK.out, bk_ext h0 h1 h2 h3]
        clear h0 h1 h2 h3
        go_wp2_with fail
        go_quiet (fail)
        go_wp2_with fail
        exact ⟨⟨j + 1, _, by omega, by go_num, HT.out, rfl⟩, by simp [intOf]; omega⟩
      · have HE : Hid (decide (p = q) = true) := by
          show _ = _
          rw [decide_eq_true_iff]
          have := HTK.out
          rwa [List.take_of_length_le (by omega), List.take_of_length_le (by omega)] at this
        go_wp2_with fail
        go_ret
        exact ⟨ret_bool HE.out.symm, _, rfl⟩
  · have hne : ((p.length : Int) != (q.length : Int)) = true := by rw [bne_iff_ne]; omega
    have hne' : (p.length != q.length) = true := by rw [bne_iff_ne]; omega
    have HN : Hid (decide (p = q) = false) := by
      show _ = _
      rw [decide_eq_false_iff_not]
      intro e
      exact hlen (by rw [e])
    clear hlen
    go_enter Try.func34, Try.ntmps34
    go_wp2_with fail
    go_ret
    exact ⟨ret_bool HN.out.symm, 0, rfl⟩
theorem bsame_any (A B : Option Addr) (n m c d : Nat) (p q : List Bk) (w : World) (h : Bks w A n p) (g : Bks w B m q) (hn : n ≤ maxLen) (hm : m ≤ maxLen) :
    Calls Try.prog 43 #[.slice A n c, .slice B m d] w (Drew (.bool (decide (p = q))) w) := by
  have HE := Lib.hid (bequal_any A B n m c d p q w h g hn hm)
  clear h g
  go_enter Try.func43, Try.ntmps43
  go_wp2_with fail
  refine HE.out.mono ?_
  rintro e w1 ⟨rfl, dr, rfl⟩
  go_wp2_with fail
  go_ret
  exact ⟨rfl, _, rfl⟩
def TakeRel (w : World) (p : List Stp) (l : List Bk) (X Y : Value) (wr : World) : Prop :=
  ∃ (k : Nat) (A : Option Addr) (c : Nat) (cur : List Stp), k ≤ l.length ∧ X = .slice A cur.length c ∧ Y = .int .i64 k ∧ StepsO wr w.heap.size A cur.length c cur ∧ takeL p l = takeL cur (l.drop k) ∧ Below w.heap.size w wr
theorem takeL_step {cur : List Stp} {l : List Bk} {k : Nat} {b : Bk} (h : l[k]? = some b) : takeL cur (l.drop k) = if (add cur b.fr b.to (-b.nd)).2 = 0 then takeL (add cur b.fr b.to (-b.nd)).1 (l.drop (k + 1)) else ([], (add cur b.fr b.to (-b.nd)).2) := by
  obtain ⟨hk, rfl⟩ := List.getElem?_eq_some_iff.1 h
  rw [List.drop_eq_getElem_cons hk]
  rfl
theorem takeT_go {p : List Stp} {l : List Bk} (h1 : chkB p = true) (h2 : Book.chk l = true) : takeT p l = takeL p l := by simp [takeT, h1, h2]
set_option maxHeartbeats 1000000 in
set_option maxRecDepth 100000 in
theorem take_any (A : Option Addr) (n c : Nat) (p : List Stp) (B : Option Addr) (m d : Nat) (l : List Bk) (w : World) (h : ProfW.Steps w A n p) (hn : n ≤ maxLen) (hA : A = none → c = 0) (g : Bks w B m l) (hm : m ≤ maxLen) :
    Calls Try.prog 40 #[.slice A n c, .slice B m d] w (AddPost (takeT p l) w) := by
  have hlen := h.len
  subst hlen
  have hil := g.len
  subst hil
  have HCk := Lib.hid (check_any A p.length c p w h hn)
  cases hck : chkB p
  · rw [chkE_no hck] at HCk
    have HP : Hid (takeT p l = ([], 100)) := by show _ = _; rw [takeT, if_pos hck]
    clear hck h hA g
    go_enter Try.func40, Try.ntmps40
    go_wp2_with fail
    refine HCk.out.mono ?_
    rintro e w1 ⟨rfl, b1⟩
    go_wp2_with fail
    go_ret2
    rw [HP.out]
    exact ⟨none, 0, rfl, SOwn.nil _ _ _ _, b1⟩
  · rw [chkE_yes hck] at HCk
    have hfew := chkB_few hck
    cases hcb : Book.chk l
    · have HP : Hid (takeT p l = ([], 190)) := by show _ = _; rw [takeT, if_neg (by simp [hck]), if_pos hcb]
      have HG := Lib.hid g
      clear hck h hA g
      go_enter Try.func40, Try.ntmps40
      go_wp2_with fail
      refine HCk.out.mono ?_
      rintro e w1 ⟨rfl, b1⟩
      have HCb := Lib.hid (bcheck_any B l.length d l w1 (HG.out.below b1) hm)
      rw [Book.chkE_no hcb] at HCb
      clear hcb
      go_wp2_with fail
      refine HCb.out.mono ?_
      rintro e w2 ⟨rfl, b2⟩
      go_wp2_with fail
      go_ret2
      rw [HP.out]
      exact ⟨none, 0, rfl, SOwn.nil _ _ _ _, below_step b1 b2⟩
    · have HP := Lib.hid (takeT_go hck hcb)
      have HOk := Lib.hid (chk_of hcb)
      have hl8 := (chk_of hcb).few
      have HH := Lib.hid h
      have HG := Lib.hid g
      have HA := Lib.hid hA
      clear hck h hA g
      go_enter Try.func40, Try.ntmps40
      go_wp2_with fail
      refine HCk.out.mono ?_
      rintro e w1 ⟨rfl, b1⟩
      have HCb := Lib.hid (bcheck_any B l.length d l w1 (HG.out.below b1) hm)
      rw [Book.chkE_yes hcb] at HCb
      clear hcb
      go_wp2_with fail
      refine HCb.out.mono ?_
      rintro e w2 ⟨rfl, b2⟩
      have b02 := below_step b1 b2
      have HCl := Lib.hid (clone_any A p.length c p w2 (HH.out.below b02) (by omega) HA.out)
      go_wp2_with fail
      refine HCl.out.mono ?_
      rintro e w3 ⟨A3, c3, rfl, o3, b3⟩
      have HO3 := Lib.hid (o3.mono b02.size)
      have b03 := below_step b02 b3
      clear o3
      go_wp2_with fail
      go_loopw [0, 26] (fun X Y wr => TakeRel w p l X Y wr) (fun _ Y _ => l.length - (intOf Y).toNat)
      case atStart => exact ⟨0, A3, c3, p, by omega, rfl, rfl, HO3.out, by rw [List.drop_zero], b03⟩
      case round =>
        obtain ⟨k, A1, c1, cur, hk, rfl, rfl, hcur, hdl, hbel⟩ := hrel
        have HCur := Lib.hid hcur
        have HDl := Lib.hid hdl
        clear hcur hdl
        by_cases hlt : k < l.length
        · obtain ⟨b, off, s, rfl, hb, hs, d0, d1, d2, d3⟩ := Lst.four (HG.out.below hbel) hlt
          have HSt := Lib.hid (takeL_step (cur := cur) hs)
          obtain ⟨_, _, _, _, _, n1, n2⟩ := fine_iff.1 (HOk.out.fine s (mem_of_at hs))
          obtain ⟨V, hV⟩ : ∃ V, V = wr.alloc (.cells #[.int .i64 s.id, .int .i64 s.fr, .int .i64 s.to, .int .i64 s.nd] 42) := ⟨_, rfl⟩
          have bV : Below wr.heap.size wr V := by rw [hV]; exact (Below.refl _ _).alloc (Nat.le_refl _) _
          have hO := HCur.out.below bV
          have HAd := Lib.hid (add_any A1 cur.length c1 cur s.fr s.to (-s.nd) V (hO.lst layS) (SOwn.max hO) hO.2.le hO.2.bare)
          obtain ⟨r, hr⟩ : ∃ r, r = add cur s.fr s.to (-s.nd) := ⟨_, rfl⟩
          rw [← hr] at HSt HAd
          clear hs hO hr
          go_wp2_with fail
          rw [← hV]
          clear hV d0 d1 d2 d3
          refine HAd.out.mono ?_
          rintro e w4 ⟨A4, c4, rfl, o4, d4⟩
          have b4 := below_step (below_step hbel bV) d4
          have hbVs := (below_step hbel bV).size
          by_cases he : r.2 = 0
          · have e1 : (r.2 != 0) = false := by simp [he]
            have HF : Hid (takeL p l = takeL r.1 (l.drop (k + 1))) := by
              show _ = _
              rw [HDl.out, HSt.out, if_pos he]
            have HO := Lib.hid (o4.mono hbVs)
            clear he o4
            go_wp2_with fail
            exact ⟨⟨k + 1, A4, c4, r.1, by omega, rfl, by go_num, HO.out, HF.out, b4⟩, by simp [intOf]; omega⟩
          · have e1 : (r.2 != 0) = true := by simpa using he
            have HF : Hid (takeT p l = ([], r.2)) := by
              show _ = _
              rw [HP.out, HDl.out, HSt.out, if_neg he]
            clear he o4
            go_wp2_with fail
            go_ret2
            rw [HF.out]
            exact ⟨none, 0, rfl, SOwn.nil _ _ _ _, b4⟩
        · obtain rfl : k = l.length := by omega
          have HF : Hid (takeT p l = (cur, 0)) := by
            show _ = _
            rw [HP.out, HDl.out, List.drop_length]
            rfl
          go_wp2_with fail
          go_ret2
          rw [HF.out]
          exact ⟨A1, c1, rfl, HCur.out, hbel⟩
end Go.Proofs.Ythfnmighhoighaa.BookW
