/-
  Merged: Contract: journal.take.; The records of an area, one behind the other, as a loop comes by them (plain).; Words for a loop over an iterator whose body appends: what is kept when other blocks grow. Nothing of the program.
-/
import Derived.Test.YtdhnegcblnpmfaaL5
import Derived.Test.YtdhnegcblnpmfaaL6
import Derived.Test.YtdhnegcblnpmfaaL3
import Derived.RangeFuncNested
import Derived.RangeFuncBound
import Derived.RangeFuncCalls
import Derived.RangeFuncLeaves
import Derived.RangeFuncBox
import Derived.Shelf.Abstract
import Derived.Shelf.RegionOpen
import Derived.WalkKit
import Derived.OwnWalkIn
import Derived.TacticsInMore
import Derived.LoopNIn
import Derived.LoopIn
namespace Go.Proofs.Ytdhnegcblnpmfaa.JrnW
open Go.RowKit Mem Jrn PackW FrameW
set_option linter.unusedVariables false
set_option linter.unusedSimpArgs false

abbrev rec0C : Array Value := #[.int .i64 0, .int .i64 0, .string ⟨#[]⟩, .int .i64 0]
abbrev recC (r : Rc) : Array Value := #[.int .i64 r.life, .int .i64 r.seq, .string (str r.body), .int .i64 (r.behind : Int)]
theorem blk4' {w : World} {g : Nat} {t : TypeId} {v0 v1 v2 v3 : Value} (h : Blk w g t #[v0, v1, v2, v3]) : w.cell? ⟨g, 0, none⟩ = some v0 ∧ w.cell? ⟨g, 1, none⟩ = some v1 ∧ w.cell? ⟨g, 2, none⟩ = some v2 ∧ w.cell? ⟨g, 3, none⟩ = some v3 := ⟨h.cell 0, h.cell 1, h.cell 2, h.cell 3⟩
abbrev st4 (w : World) (B : Nat) (v0 v1 v2 v3 : Value) : World := (((w.setCell ⟨B, 0, none⟩ v0).setCell ⟨B, 1, none⟩ v1).setCell ⟨B, 2, none⟩ v2).setCell ⟨B, 3, none⟩ v3
theorem st4_blk {w : World} {B : Nat} {t : TypeId} {u0 u1 u2 u3 : Value} (h : Blk w B t #[u0, u1, u2, u3]) (v0 v1 v2 v3 : Value) : Blk (st4 w B v0 v1 v2 v3) B t #[v0, v1, v2, v3] := (((h.set 0 v0).set 1 v1).set 2 v2).set 3 v3
theorem st4_below {w0 w : World} {base B : Nat} (h : Below base w0 w) (hB : base ≤ B) (v0 v1 v2 v3 : Value) : Below base w0 (st4 w B v0 v1 v2 v3) := (((h.setCell (p := ⟨B, 0, none⟩) hB v0).setCell (p := ⟨B, 1, none⟩) hB v1).setCell (p := ⟨B, 2, none⟩) hB v2).setCell (p := ⟨B, 3, none⟩) hB v3
def TakePost (o : Option Rc) (w : World) (e : Ending) (w' : World) : Prop := ∃ (v0 v1 : Int) (v2 : ByteArray) (v3 : Int), e = .returned (.tuple #[.agg #[.int .i64 v0, .int .i64 v1, .string v2, .int .i64 v3], .bool o.isSome]) ∧ (∀ r, o = some r → (#[.int .i64 v0, .int .i64 v1, .string v2, .int .i64 v3] : Array Value) = recC r) ∧ Below w.heap.size w w'
theorem takePost_none {o : Option Rc} {w w' : World} (h : o = none) (hb : Below w.heap.size w w') : TakePost o w (.returned (.tuple #[.agg rec0C, .bool false])) w' := by
  subst h
  exact ⟨_, _, _, _, rfl, fun r hr => (by cases hr), hb⟩
theorem takePost_end {o : Option Rc} {w w' : World} {a part : Nat} {s : List UInt8} {q : Bool} {g : Frm.Got} (hg : Frm.get s 0 = g) (h : o = endR a part s) (hq : q = decide (g.2.2.2.2 = 0 ∧ g.2.2.2.1 = s.length)) (hb : Below w.heap.size w w') : TakePost o w (.returned (.tuple #[.agg #[.int .i64 g.1, .int .i64 g.2.1, .string (str g.2.2.1), .int .i64 (((a : Int) + (part : Int)) + 1)], .bool q])) w' := by
  subst h hq
  unfold endR
  rw [hg]
  by_cases c : g.2.2.2.2 = 0 ∧ g.2.2.2.1 = s.length
  · rw [if_pos c, decide_eq_true c]
    exact ⟨_, _, _, _, rfl, fun r hr => (by injection hr with hr; subst hr; rfl), hb⟩
  · rw [if_neg c, decide_eq_false c]
    exact ⟨_, _, _, _, rfl, fun r hr => (by cases hr), hb⟩
theorem read_few {s : List UInt8} {k : Bk} (h : readB s = some k) : k.bytes.length ≤ 240 := by
  unfold readB at h
  split at h
  · next hh =>
    obtain ⟨_, h2⟩ := hh
    injection h with h
    subst h
    simp only [readOk, Bool.and_eq_true, Bool.not_eq_true', decide_eq_false_iff_not] at h2
    have h3 := h2.2
    simp only [readV, List.length_take]
    omega
  · cases h
structure TakeRel (l : List (List UInt8)) (a e : Nat) (w : World) (i p : Value) (wr : World) : Prop where
  is : ∃ (part : Nat) (id : Int) (acc : List UInt8), part ≤ 255 ∧ i = .int .i64 id ∧ p = .int .i64 part ∧ takeR l a e = takeF l a e (256 - part) part id acc ∧ acc.length ≤ 240 * part ∧ Lib.IsBuilder 108 5 (w.heap.size + 1) (w.heap.size + 1) (Lib.byteCells acc) wr
  rc : Blk wr w.heap.size 120 rec0C
  bel : Below w.heap.size w wr
set_option maxHeartbeats 40000000 in
set_option maxRecDepth 100000 in
theorem take_any (A : Option Addr) (n c a e : Nat) (l : List (List UInt8)) (w : World) (h : Txs w A n l) (hw : ∀ s ∈ l, s.length = 256) (hn : n ≤ 1000) (he : e ≤ n) (ha : a ≤ n) :
    Calls Try.prog 78 #[.slice A n c, .int .i64 a, .int .i64 e] w (TakePost (takeR l a e) w) := by
  have hl := h.len
  subst hl
  have HW := Lib.hid hw
  have hbld := Lib.fresh_isBuilder 108 5 (w.alloc (.cells rec0C 120))
  rw [World.size_alloc] at hbld
  have kR : Blk ((w.alloc (.cells rec0C 120)).alloc (.cells #[.pointer none, .slice none 0 0] 108)) w.heap.size 120 rec0C := (Blk.new _ _ _).alloc _
  have bR : Below w.heap.size w ((w.alloc (.cells rec0C 120)).alloc (.cells #[.pointer none, .slice none 0 0] 108)) := ((Below.refl _ _).alloc (Nat.le_refl _) _).alloc (by simp) _
  have HH := Lib.hid h
  clear h hw
  go_enter Try.func78, Try.ntmps78
  go_wp2_with fail
  go_loopw [9, 10] (fun i p wr => TakeRel l a e w i p wr) (fun _ p _ => 256 - (intOf p).toNat)
  case atStart => exact ⟨⟨0, 0, [], by omega, rfl, rfl, rfl, by simp, hbld⟩, kR, bR⟩
  case round =>
    obtain ⟨⟨part, id, acc, hp, rfl, rfl, hT, hacc, hI⟩, hrc, hbel⟩ := hrel
    have HT := Lib.hid hT
    clear hT
    obtain ⟨z0, z1, z2, z3⟩ := blk4' hrc
    have f0 := hrc.frozen 0
    have f1 := hrc.frozen 1
    have f2 := hrc.frozen 2
    have f3 := hrc.frozen 3
    by_cases h1 : part < 255
    case neg =>
      have HE := Lib.hid (HT.out.trans (takeF_end (.inl (by omega))))
      clear HT
      go_wp2_with fail
      obtain ⟨y0, y1, y2, y3⟩ := blk4' (st4_blk hrc (.int .i64 0) (.int .i64 0) (.string ⟨#[]⟩) (.int .i64 0))
      refine bodyPost_ret (v := .tuple #[.agg rec0C, .bool false]) (by simp [results, Try.results78, go_sem, y0, y1, y2, y3]) rfl (takePost_none HE.out (st4_below hbel (Nat.le_refl _) _ _ _ _))
    by_cases h2 : a + part < e
    case neg =>
      have HE := Lib.hid (HT.out.trans (takeF_end (.inr (by omega))))
      clear HT
      have t2 : ¬ ((a : Int) + (part : Int) < (e : Int)) := by omega
      go_wp2_with fail
      obtain ⟨y0, y1, y2, y3⟩ := blk4' (st4_blk hrc (.int .i64 0) (.int .i64 0) (.string ⟨#[]⟩) (.int .i64 0))
      refine bodyPost_ret (v := .tuple #[.agg rec0C, .bool false]) (by simp [results, Try.results78, go_sem, y0, y1, y2, y3]) rfl (takePost_none HE.out (st4_below hbel (Nat.le_refl _) _ _ _ _))
    obtain ⟨b, off, s, rfl, hbl, hx, d0⟩ := (HH.out.below hbel).at_ (show a + part < l.length by omega)
    have hsl := HW.out s (mem_of_at hx)
    have hsz : (str s).size = 256 := by rw [str_size, hsl]
    have HRd := Lib.hid (read_any (str s) wr (by rw [hsz]; unfold maxLen; omega))
    rw [str_data] at HRd
    have hgd : l.getD (a + part) [] = s := by rw [List.getD_eq_getElem?_getD, hx]; rfl
    have d1 : wr.cell? ⟨b, off + a + part, none⟩ = some (.string (str s)) := by rw [Nat.add_assoc]; exact d0
    have d2 : wr.cell? ⟨b, off + (part + a), none⟩ = some (.string (str s)) := by rw [Nat.add_comm part a]; exact d0
    clear hx hsz hsl
    cases hr : readB s with
    | none =>
      have HE := Lib.hid (HT.out.trans (takeF_none (by show readB (l.getD _ _) = _; rw [hgd]; exact hr)))
      rw [rdV_no hr] at HRd
      clear HT hr hgd
      by_cases hp0 : part = 0
      · have e0 : ((part : Int) == 0) = true := by rw [hp0]; rfl
        clear hp0
        go_wp2_with fail
        refine HRd.out.mono ?_
        rintro e1 w1 ⟨rfl, b1⟩
        obtain ⟨V, hV⟩ : ∃ V, V = w1.alloc (.cells bk0C 100) := ⟨_, rfl⟩
        have bV : Below wr.heap.size wr V := by rw [hV]; exact b1.alloc b1.size _
        have kV : Blk V w1.heap.size 100 bk0C := by rw [hV]; exact Blk.new _ _ _
        have hrc1 := hrc.below bV hrc.lt
        have hI1 := isbld_below hI bV
        have hbel1 := below_step hbel bV
        clear z0 z1 z2 z3 f0 f1 f2 f3
        obtain ⟨z0, z1, z2, z3⟩ := blk4' hrc1
        have f0 := hrc1.frozen 0
        have f1 := hrc1.frozen 1
        have f2 := hrc1.frozen 2
        have f3 := hrc1.frozen 3
        obtain ⟨x0, x1, x2, x3, x4⟩ := blk5' kV
        clear hrc hI hbel b1 bV
        go_upto_region 7 with fail
        rw [← hV]
        clear hV
        go_wp2_with fail
        obtain ⟨y0, y1, y2, y3⟩ := blk4' (st4_blk hrc1 (.int .i64 0) (.int .i64 0) (.string ⟨#[]⟩) (.int .i64 0))
        refine bodyPost_ret (v := .tuple #[.agg rec0C, .bool false]) (by simp [results, Try.results78, go_sem, y0, y1, y2, y3]) rfl (takePost_none HE.out (st4_below hbel1 (Nat.le_refl _) _ _ _ _))
      · have e0 : ((part : Int) == 0) = false := by rw [beq_eq_false_iff_ne]; omega
        clear hp0
        go_wp2_with fail
        refine HRd.out.mono ?_
        rintro e1 w1 ⟨rfl, b1⟩
        obtain ⟨V, hV⟩ : ∃ V, V = w1.alloc (.cells bk0C 100) := ⟨_, rfl⟩
        have bV : Below wr.heap.size wr V := by rw [hV]; exact b1.alloc b1.size _
        have kV : Blk V w1.heap.size 100 bk0C := by rw [hV]; exact Blk.new _ _ _
        have hrc1 := hrc.below bV hrc.lt
        have hI1 := isbld_below hI bV
        have hbel1 := below_step hbel bV
        clear z0 z1 z2 z3 f0 f1 f2 f3
        obtain ⟨z0, z1, z2, z3⟩ := blk4' hrc1
        have f0 := hrc1.frozen 0
        have f1 := hrc1.frozen 1
        have f2 := hrc1.frozen 2
        have f3 := hrc1.frozen 3
        obtain ⟨x0, x1, x2, x3, x4⟩ := blk5' kV
        clear hrc hI hbel b1 bV
        go_upto_region 7 with fail
        rw [← hV]
        clear hV
        go_wp2_with fail
        obtain ⟨y0, y1, y2, y3⟩ := blk4' (st4_blk hrc1 (.int .i64 0) (.int .i64 0) (.string ⟨#[]⟩) (.int .i64 0))
        refine bodyPost_ret (v := .tuple #[.agg rec0C, .bool false]) (by simp [results, Try.results78, go_sem, y0, y1, y2, y3]) rfl (takePost_none HE.out (st4_below hbel1 (Nat.le_refl _) _ _ _ _))
    | some k =>
      rw [rdV_yes hr] at HRd
      have hrb : readB (blk l (a + part)) = some k := by show readB (l.getD _ _) = _; rw [hgd]; exact hr
      have hfew := read_few hr
      have HB := Lib.hid fun hg => takeF_bad (id := id) (acc := acc) (e := e) (f := 256 - part) hrb hg
      have HL := Lib.hid fun hg hl => takeF_last (id := id) (acc := acc) (f := 255 - part) h1 h2 hrb hg hl
      have HM := Lib.hid fun hg hl => takeF_more (id := id) (acc := acc) (f := 255 - part) h1 h2 hrb hg hl
      rw [show 255 - part + 1 = 256 - part by omega] at HL HM
      clear hr hgd hrb
      obtain ⟨kst, kpt, kid, kla, kbs⟩ := k
      simp only [goesOn] at HB HL HM
      simp only at hfew
      have hzs : ((str kbs).size : Int) = (kbs.length : Int) := by rw [str_size]
      have hzn : (str kbs).size ≤ 240 := by rw [str_size]; exact hfew
      by_cases hp0 : part = 0
      case pos =>
        have e0 : ((part : Int) == 0) = true := by rw [hp0]; rfl
        have i0 : (if part = 0 then kst else id) = kst := by rw [if_pos hp0]
        rw [i0] at HB HL HM
        clear i0 hp0
        by_cases g1 : kpt = (part : Int)
        case neg =>
          have q1 : (kpt == (part : Int)) = false := by simpa using g1
          have q2 : (kpt != (part : Int)) = true := by simpa using g1
          have HE := Lib.hid (HT.out.trans (HB.out (by rw [q1]; rfl)))
          clear HT HB HL HM g1
          go_wp2_with fail
          refine HRd.out.mono ?_
          rintro e1 w1 ⟨rfl, b1⟩
          obtain ⟨V, hV⟩ : ∃ V, V = w1.alloc (.cells (bkC ⟨kst, kpt, kid, kla, kbs⟩) 100) := ⟨_, rfl⟩
          have bV : Below wr.heap.size wr V := by rw [hV]; exact b1.alloc b1.size _
          have kV : Blk V w1.heap.size 100 (bkC ⟨kst, kpt, kid, kla, kbs⟩) := by rw [hV]; exact Blk.new _ _ _
          have hrc1 := hrc.below bV hrc.lt
          have hI1 := isbld_below hI bV
          have hbel1 := below_step hbel bV
          clear z0 z1 z2 z3 f0 f1 f2 f3
          obtain ⟨z0, z1, z2, z3⟩ := blk4' hrc1
          have f0 := hrc1.frozen 0
          have f1 := hrc1.frozen 1
          have f2 := hrc1.frozen 2
          have f3 := hrc1.frozen 3
          obtain ⟨x0, x1, x2, x3, x4⟩ := blk5' kV
          clear hrc hI hbel b1 bV
          go_upto_region 7 with fail
          rw [← hV]
          clear hV
          go_wp2_with fail

          obtain ⟨y0, y1, y2, y3⟩ := blk4' (st4_blk hrc1 (.int .i64 0) (.int .i64 0) (.string ⟨#[]⟩) (.int .i64 0))
          refine bodyPost_ret (v := .tuple #[.agg rec0C, .bool false]) (by simp [results, Try.results78, go_sem, y0, y1, y2, y3]) rfl (takePost_none HE.out (st4_below hbel1 (Nat.le_refl _) _ _ _ _))
        by_cases g2 : kid = kst
        case neg =>
          have q3 : (kid == kst) = false := by simpa using g2
          have q4 : (kid != kst) = true := by simpa using g2
          have HE := Lib.hid (HT.out.trans (HB.out (by rw [q3]; simp)))
          have q2 : (kpt != (part : Int)) = false := by simpa using g1
          clear HT HB HL HM g1 g2
          go_wp2_with fail
          refine HRd.out.mono ?_
          rintro e1 w1 ⟨rfl, b1⟩
          obtain ⟨V, hV⟩ : ∃ V, V = w1.alloc (.cells (bkC ⟨kst, kpt, kid, kla, kbs⟩) 100) := ⟨_, rfl⟩
          have bV : Below wr.heap.size wr V := by rw [hV]; exact b1.alloc b1.size _
          have kV : Blk V w1.heap.size 100 (bkC ⟨kst, kpt, kid, kla, kbs⟩) := by rw [hV]; exact Blk.new _ _ _
          have hrc1 := hrc.below bV hrc.lt
          have hI1 := isbld_below hI bV
          have hbel1 := below_step hbel bV
          clear z0 z1 z2 z3 f0 f1 f2 f3
          obtain ⟨z0, z1, z2, z3⟩ := blk4' hrc1
          have f0 := hrc1.frozen 0
          have f1 := hrc1.frozen 1
          have f2 := hrc1.frozen 2
          have f3 := hrc1.frozen 3
          obtain ⟨x0, x1, x2, x3, x4⟩ := blk5' kV
          clear hrc hI hbel b1 bV
          go_upto_region 7 with fail
          rw [← hV]
          clear hV
          go_wp2_with fail

          obtain ⟨y0, y1, y2, y3⟩ := blk4' (st4_blk hrc1 (.int .i64 0) (.int .i64 0) (.string ⟨#[]⟩) (.int .i64 0))
          refine bodyPost_ret (v := .tuple #[.agg rec0C, .bool false]) (by simp [results, Try.results78, go_sem, y0, y1, y2, y3]) rfl (takePost_none HE.out (st4_below hbel1 (Nat.le_refl _) _ _ _ _))
        have q2 : (kpt != (part : Int)) = false := by simpa using g1
        have q4 : (kid != kst) = false := by simpa using g2
        have q1 : (kpt == (part : Int)) = true := by simpa using g1
        have q3 : (kid == kst) = true := by simpa using g2
        clear g1 g2
        cases kla with
        | true =>
          have HE := Lib.hid (HT.out.trans (HL.out (by rw [q1, q3]; rfl) rfl))
          clear HT HB HL HM q1 q3
          go_wp2_with fail
          refine HRd.out.mono ?_
          rintro e1 w1 ⟨rfl, b1⟩
          obtain ⟨V, hV⟩ : ∃ V, V = w1.alloc (.cells (bkC ⟨kst, kpt, kid, true, kbs⟩) 100) := ⟨_, rfl⟩
          have bV : Below wr.heap.size wr V := by rw [hV]; exact b1.alloc b1.size _
          have kV : Blk V w1.heap.size 100 (bkC ⟨kst, kpt, kid, true, kbs⟩) := by rw [hV]; exact Blk.new _ _ _
          have hrc1 := hrc.below bV hrc.lt
          have hI1 := isbld_below hI bV
          have hbel1 := below_step hbel bV
          clear z0 z1 z2 z3 f0 f1 f2 f3
          obtain ⟨z0, z1, z2, z3⟩ := blk4' hrc1
          have f0 := hrc1.frozen 0
          have f1 := hrc1.frozen 1
          have f2 := hrc1.frozen 2
          have f3 := hrc1.frozen 3
          obtain ⟨x0, x1, x2, x3, x4⟩ := blk5' kV
          clear hrc hI hbel b1 bV
          go_upto_region 7 with fail
          rw [← hV]
          clear hV
          go_wp2_with fail
          refine (BldW.writeString2 _ _ _ _ _ hI1 (by rw [Lib.byteCells_length]; omega) (by have := hbel1.size; have := lt_of_block hrc1; omega)).mono ?_
          rintro e2 w2 ⟨rfl, ⟨hI2, b2⟩, hK2⟩
          rw [strCells_str, byteCells_app] at hI2
          have hrc2 := hrc1.below b2 (by omega)
          have hbel2 := hbel1.trans (b2.mono (by omega))
          have kV2 := hK2.blk kV (by decide) (by decide)
          clear x0 x1 x2 x3 x4
          obtain ⟨x0, x1, x2, x3, x4⟩ := blk5' kV2
          clear hI1 hrc1 hbel1 hK2 kV b2 z0 z1 z2 z3 f0 f1 f2 f3
          have hsz2 : w.heap.size + 1 ≤ w2.heap.size := by have := lt_of_block hrc2; omega
          have hGl : (acc ++ kbs).length ≤ 70000 := by rw [List.length_append]; omega
          obtain ⟨sl, hsl⟩ : ∃ sl, sl = acc ++ kbs := ⟨_, rfl⟩
          rw [← hsl] at hI2 HE hGl
          clear hsl
          go_wp2_with fail
          refine (Rep.string_k _ _ sl _ (Lib.IsBuilderF.of (.inr hI2)) hsz2).mono ?_
          rintro e3 w3 ⟨rfl, hI3, b3, _⟩
          have hrc3 := hrc2.below b3 (by omega)
          have hbel3 := hbel2.trans (b3.mono (by omega))
          have HG := Lib.hid (get_any (str sl) 0 w3 (by rw [str_size]; unfold maxLen; omega))
          rw [str_data] at HG
          have hgb := Frm.get_bd sl 0
          obtain ⟨g, hg⟩ : ∃ g, g = Frm.get sl 0 := ⟨_, rfl⟩
          rw [← hg] at HG hgb
          obtain ⟨g1, g2, g3, g4, g5⟩ := g
          have HGe := Lib.hid hg.symm
          simp only at hgb
          clear hI2 hrc2 hbel2 kV2 b3 x0 x1 x2 x3 x4 hg
          go_wp2_with fail
          refine HG.out.mono ?_
          rintro e4 w4 ⟨rfl, b4⟩
          have hrc4 := hrc3.below b4 hrc3.lt
          have hbel4 := below_step hbel3 b4
          have hI4 := Rep.isbldF_below hI3 b4
          obtain ⟨z0, z1, z2, z3⟩ := blk4' hrc4
          have f0 := hrc4.frozen 0
          have f1 := hrc4.frozen 1
          have f2 := hrc4.frozen 2
          have f3 := hrc4.frozen 3
          have HLen := Lib.hid fun w h => Rep.len_f (w.heap.size + 1) (w.heap.size + 1) sl w h
          clear hrc3 hbel3 hI3 b4
          by_cases c5 : g5 = 0
          case neg =>
            have e5 : (g5 == 0) = false := by simpa using c5
            have HQ : Hid (false = decide (g5 = 0 ∧ g4 = (sl.length : Int))) := by show _ = _; symm; apply decide_eq_false; exact fun h => c5 h.1
            clear c5
            go_wp2_with fail
            obtain ⟨y0, y1, y2, y3⟩ := blk4' (st4_blk hrc4 (.int .i64 g1) (.int .i64 g2) (.string (str g3)) (.int .i64 (((a : Int) + (part : Int)) + 1)))
            refine bodyPost_ret (v := .tuple #[.agg #[.int .i64 g1, .int .i64 g2, .string (str g3), .int .i64 (((a : Int) + (part : Int)) + 1)], .bool false]) (by simp [results, Try.results78, go_sem, y0, y1, y2, y3]) rfl (takePost_end HGe.out HE.out HQ.out (st4_below hbel4 (Nat.le_refl _) _ _ _ _))
          have e5 : (g5 == 0) = true := by simpa using c5
          have HQ : Hid ((g4 == (sl.length : Int)) = decide (g5 = 0 ∧ g4 = (sl.length : Int))) := by show _ = _; rw [Bool.eq_iff_iff]; simp [c5]
          clear c5
          go_wp2_with fail
          refine (Rep.len_f _ _ sl _ hI4).mono ?_
          rintro e5' w5 ⟨rfl, rfl⟩
          go_wp2_with fail
          obtain ⟨y0, y1, y2, y3⟩ := blk4' (st4_blk hrc4 (.int .i64 g1) (.int .i64 g2) (.string (str g3)) (.int .i64 (((a : Int) + (part : Int)) + 1)))
          refine bodyPost_ret (v := .tuple #[.agg #[.int .i64 g1, .int .i64 g2, .string (str g3), .int .i64 (((a : Int) + (part : Int)) + 1)], .bool (g4 == (sl.length : Int))]) (by simp [results, Try.results78, go_sem, y0, y1, y2, y3]) rfl (takePost_end HGe.out HE.out HQ.out (st4_below hbel4 (Nat.le_refl _) _ _ _ _))
        | false =>
          by_cases g3 : kbs.length = 240
          case neg =>
            have q5 : (kbs.length == 240) = false := by simpa using g3
            have q6 : ((kbs.length : Int) != 240) = true := by rw [bne_iff_ne]; omega
            have q7 : (((str kbs).size : Int) != 240) = true := by rw [hzs]; exact q6
            have HE := Lib.hid (HT.out.trans (HB.out (by rw [q1, q3, q5]; rfl)))
            clear HT HB HL HM q1 q3 g3
            go_wp2_with fail
            refine HRd.out.mono ?_
            rintro e1 w1 ⟨rfl, b1⟩
            obtain ⟨V, hV⟩ : ∃ V, V = w1.alloc (.cells (bkC ⟨kst, kpt, kid, false, kbs⟩) 100) := ⟨_, rfl⟩
            have bV : Below wr.heap.size wr V := by rw [hV]; exact b1.alloc b1.size _
            have kV : Blk V w1.heap.size 100 (bkC ⟨kst, kpt, kid, false, kbs⟩) := by rw [hV]; exact Blk.new _ _ _
            have hrc1 := hrc.below bV hrc.lt
            have hI1 := isbld_below hI bV
            have hbel1 := below_step hbel bV
            clear z0 z1 z2 z3 f0 f1 f2 f3
            obtain ⟨z0, z1, z2, z3⟩ := blk4' hrc1
            have f0 := hrc1.frozen 0
            have f1 := hrc1.frozen 1
            have f2 := hrc1.frozen 2
            have f3 := hrc1.frozen 3
            obtain ⟨x0, x1, x2, x3, x4⟩ := blk5' kV
            clear hrc hI hbel b1 bV
            go_upto_region 7 with fail
            rw [← hV]
            clear hV
            go_wp2_with fail

            obtain ⟨y0, y1, y2, y3⟩ := blk4' (st4_blk hrc1 (.int .i64 0) (.int .i64 0) (.string ⟨#[]⟩) (.int .i64 0))
            refine bodyPost_ret (v := .tuple #[.agg rec0C, .bool false]) (by simp [results, Try.results78, go_sem, y0, y1, y2, y3]) rfl (takePost_none HE.out (st4_below hbel1 (Nat.le_refl _) _ _ _ _))
          have q5 : (kbs.length == 240) = true := by simpa using g3
          have q6 : ((kbs.length : Int) != 240) = false := by rw [g3]; rfl
          have q7 : (((str kbs).size : Int) != 240) = false := by rw [hzs]; exact q6
          have HE := Lib.hid (HT.out.trans (HM.out (by rw [q1, q3, q5]; rfl) rfl))
          clear HT HB HL HM q1 q3 g3
          go_wp2_with fail
          refine HRd.out.mono ?_
          rintro e1 w1 ⟨rfl, b1⟩
          obtain ⟨V, hV⟩ : ∃ V, V = w1.alloc (.cells (bkC ⟨kst, kpt, kid, false, kbs⟩) 100) := ⟨_, rfl⟩
          have bV : Below wr.heap.size wr V := by rw [hV]; exact b1.alloc b1.size _
          have kV : Blk V w1.heap.size 100 (bkC ⟨kst, kpt, kid, false, kbs⟩) := by rw [hV]; exact Blk.new _ _ _
          have hrc1 := hrc.below bV hrc.lt
          have hI1 := isbld_below hI bV
          have hbel1 := below_step hbel bV
          clear z0 z1 z2 z3 f0 f1 f2 f3
          obtain ⟨z0, z1, z2, z3⟩ := blk4' hrc1
          have f0 := hrc1.frozen 0
          have f1 := hrc1.frozen 1
          have f2 := hrc1.frozen 2
          have f3 := hrc1.frozen 3
          obtain ⟨x0, x1, x2, x3, x4⟩ := blk5' kV
          clear hrc hI hbel b1 bV
          go_upto_region 7 with fail
          rw [← hV]
          clear hV
          go_wp2_with fail
          refine (BldW.writeString2 _ _ _ _ _ hI1 (by rw [Lib.byteCells_length]; omega) (by have := hbel1.size; have := lt_of_block hrc1; omega)).mono ?_
          rintro e2 w2 ⟨rfl, ⟨hI2, b2⟩, hK2⟩
          rw [strCells_str, byteCells_app] at hI2
          have hrc2 := hrc1.below b2 (by omega)
          have hbel2 := hbel1.trans (b2.mono (by omega))
          have kV2 := hK2.blk kV (by decide) (by decide)
          clear x0 x1 x2 x3 x4
          obtain ⟨x0, x1, x2, x3, x4⟩ := blk5' kV2
          clear hI1 hrc1 hbel1 hK2 kV b2 z0 z1 z2 z3 f0 f1 f2 f3
          go_wp2_with fail
          refine ⟨⟨⟨part + 1, kst, acc ++ kbs, by omega, rfl, by go_num, ?_, by rw [List.length_append]; omega, .inr hI2⟩, hrc2, hbel2⟩, by simp [intOf]; omega⟩
          rw [HE.out, show 256 - (part + 1) = 255 - part by omega]
      case neg =>
        have e0 : ((part : Int) == 0) = false := by rw [beq_eq_false_iff_ne]; omega
        have i0 : (if part = 0 then kst else id) = id := by rw [if_neg hp0]
        rw [i0] at HB HL HM
        clear i0 hp0
        by_cases g1 : kpt = (part : Int)
        case neg =>
          have q1 : (kpt == (part : Int)) = false := by simpa using g1
          have q2 : (kpt != (part : Int)) = true := by simpa using g1
          have HE := Lib.hid (HT.out.trans (HB.out (by rw [q1]; rfl)))
          clear HT HB HL HM g1
          go_wp2_with fail
          refine HRd.out.mono ?_
          rintro e1 w1 ⟨rfl, b1⟩
          obtain ⟨V, hV⟩ : ∃ V, V = w1.alloc (.cells (bkC ⟨kst, kpt, kid, kla, kbs⟩) 100) := ⟨_, rfl⟩
          have bV : Below wr.heap.size wr V := by rw [hV]; exact b1.alloc b1.size _
          have kV : Blk V w1.heap.size 100 (bkC ⟨kst, kpt, kid, kla, kbs⟩) := by rw [hV]; exact Blk.new _ _ _
          have hrc1 := hrc.below bV hrc.lt
          have hI1 := isbld_below hI bV
          have hbel1 := below_step hbel bV
          clear z0 z1 z2 z3 f0 f1 f2 f3
          obtain ⟨z0, z1, z2, z3⟩ := blk4' hrc1
          have f0 := hrc1.frozen 0
          have f1 := hrc1.frozen 1
          have f2 := hrc1.frozen 2
          have f3 := hrc1.frozen 3
          obtain ⟨x0, x1, x2, x3, x4⟩ := blk5' kV
          clear hrc hI hbel b1 bV
          go_upto_region 7 with fail
          rw [← hV]
          clear hV
          go_wp2_with fail

          obtain ⟨y0, y1, y2, y3⟩ := blk4' (st4_blk hrc1 (.int .i64 0) (.int .i64 0) (.string ⟨#[]⟩) (.int .i64 0))
          refine bodyPost_ret (v := .tuple #[.agg rec0C, .bool false]) (by simp [results, Try.results78, go_sem, y0, y1, y2, y3]) rfl (takePost_none HE.out (st4_below hbel1 (Nat.le_refl _) _ _ _ _))
        by_cases g2 : kid = id
        case neg =>
          have q3 : (kid == id) = false := by simpa using g2
          have q4 : (kid != id) = true := by simpa using g2
          have HE := Lib.hid (HT.out.trans (HB.out (by rw [q3]; simp)))
          have q2 : (kpt != (part : Int)) = false := by simpa using g1
          clear HT HB HL HM g1 g2
          go_wp2_with fail
          refine HRd.out.mono ?_
          rintro e1 w1 ⟨rfl, b1⟩
          obtain ⟨V, hV⟩ : ∃ V, V = w1.alloc (.cells (bkC ⟨kst, kpt, kid, kla, kbs⟩) 100) := ⟨_, rfl⟩
          have bV : Below wr.heap.size wr V := by rw [hV]; exact b1.alloc b1.size _
          have kV : Blk V w1.heap.size 100 (bkC ⟨kst, kpt, kid, kla, kbs⟩) := by rw [hV]; exact Blk.new _ _ _
          have hrc1 := hrc.below bV hrc.lt
          have hI1 := isbld_below hI bV
          have hbel1 := below_step hbel bV
          clear z0 z1 z2 z3 f0 f1 f2 f3
          obtain ⟨z0, z1, z2, z3⟩ := blk4' hrc1
          have f0 := hrc1.frozen 0
          have f1 := hrc1.frozen 1
          have f2 := hrc1.frozen 2
          have f3 := hrc1.frozen 3
          obtain ⟨x0, x1, x2, x3, x4⟩ := blk5' kV
          clear hrc hI hbel b1 bV
          go_upto_region 7 with fail
          rw [← hV]
          clear hV
          go_wp2_with fail

          obtain ⟨y0, y1, y2, y3⟩ := blk4' (st4_blk hrc1 (.int .i64 0) (.int .i64 0) (.string ⟨#[]⟩) (.int .i64 0))
          refine bodyPost_ret (v := .tuple #[.agg rec0C, .bool false]) (by simp [results, Try.results78, go_sem, y0, y1, y2, y3]) rfl (takePost_none HE.out (st4_below hbel1 (Nat.le_refl _) _ _ _ _))
        have q2 : (kpt != (part : Int)) = false := by simpa using g1
        have q4 : (kid != id) = false := by simpa using g2
        have q1 : (kpt == (part : Int)) = true := by simpa using g1
        have q3 : (kid == id) = true := by simpa using g2
        clear g1 g2
        cases kla with
        | true =>
          have HE := Lib.hid (HT.out.trans (HL.out (by rw [q1, q3]; rfl) rfl))
          clear HT HB HL HM q1 q3
          go_wp2_with fail
          refine HRd.out.mono ?_
          rintro e1 w1 ⟨rfl, b1⟩
          obtain ⟨V, hV⟩ : ∃ V, V = w1.alloc (.cells (bkC ⟨kst, kpt, kid, true, kbs⟩) 100) := ⟨_, rfl⟩
          have bV : Below wr.heap.size wr V := by rw [hV]; exact b1.alloc b1.size _
          have kV : Blk V w1.heap.size 100 (bkC ⟨kst, kpt, kid, true, kbs⟩) := by rw [hV]; exact Blk.new _ _ _
          have hrc1 := hrc.below bV hrc.lt
          have hI1 := isbld_below hI bV
          have hbel1 := below_step hbel bV
          clear z0 z1 z2 z3 f0 f1 f2 f3
          obtain ⟨z0, z1, z2, z3⟩ := blk4' hrc1
          have f0 := hrc1.frozen 0
          have f1 := hrc1.frozen 1
          have f2 := hrc1.frozen 2
          have f3 := hrc1.frozen 3
          obtain ⟨x0, x1, x2, x3, x4⟩ := blk5' kV
          clear hrc hI hbel b1 bV
          go_upto_region 7 with fail
          rw [← hV]
          clear hV
          go_wp2_with fail
          refine (BldW.writeString2 _ _ _ _ _ hI1 (by rw [Lib.byteCells_length]; omega) (by have := hbel1.size; have := lt_of_block hrc1; omega)).mono ?_
          rintro e2 w2 ⟨rfl, ⟨hI2, b2⟩, hK2⟩
          rw [strCells_str, byteCells_app] at hI2
          have hrc2 := hrc1.below b2 (by omega)
          have hbel2 := hbel1.trans (b2.mono (by omega))
          have kV2 := hK2.blk kV (by decide) (by decide)
          clear x0 x1 x2 x3 x4
          obtain ⟨x0, x1, x2, x3, x4⟩ := blk5' kV2
          clear hI1 hrc1 hbel1 hK2 kV b2 z0 z1 z2 z3 f0 f1 f2 f3
          have hsz2 : w.heap.size + 1 ≤ w2.heap.size := by have := lt_of_block hrc2; omega
          have hGl : (acc ++ kbs).length ≤ 70000 := by rw [List.length_append]; omega
          obtain ⟨sl, hsl⟩ : ∃ sl, sl = acc ++ kbs := ⟨_, rfl⟩
          rw [← hsl] at hI2 HE hGl
          clear hsl
          go_wp2_with fail
          refine (Rep.string_k _ _ sl _ (Lib.IsBuilderF.of (.inr hI2)) hsz2).mono ?_
          rintro e3 w3 ⟨rfl, hI3, b3, _⟩
          have hrc3 := hrc2.below b3 (by omega)
          have hbel3 := hbel2.trans (b3.mono (by omega))
          have HG := Lib.hid (get_any (str sl) 0 w3 (by rw [str_size]; unfold maxLen; omega))
          rw [str_data] at HG
          have hgb := Frm.get_bd sl 0
          obtain ⟨g, hg⟩ : ∃ g, g = Frm.get sl 0 := ⟨_, rfl⟩
          rw [← hg] at HG hgb
          obtain ⟨g1, g2, g3, g4, g5⟩ := g
          have HGe := Lib.hid hg.symm
          simp only at hgb
          clear hI2 hrc2 hbel2 kV2 b3 x0 x1 x2 x3 x4 hg
          go_wp2_with fail
          refine HG.out.mono ?_
          rintro e4 w4 ⟨rfl, b4⟩
          have hrc4 := hrc3.below b4 hrc3.lt
          have hbel4 := below_step hbel3 b4
          have hI4 := Rep.isbldF_below hI3 b4
          obtain ⟨z0, z1, z2, z3⟩ := blk4' hrc4
          have f0 := hrc4.frozen 0
          have f1 := hrc4.frozen 1
          have f2 := hrc4.frozen 2
          have f3 := hrc4.frozen 3
          have HLen := Lib.hid fun w h => Rep.len_f (w.heap.size + 1) (w.heap.size + 1) sl w h
          clear hrc3 hbel3 hI3 b4
          by_cases c5 : g5 = 0
          case neg =>
            have e5 : (g5 == 0) = false := by simpa using c5
            have HQ : Hid (false = decide (g5 = 0 ∧ g4 = (sl.length : Int))) := by show _ = _; symm; apply decide_eq_false; exact fun h => c5 h.1
            clear c5
            go_wp2_with fail
            obtain ⟨y0, y1, y2, y3⟩ := blk4' (st4_blk hrc4 (.int .i64 g1) (.int .i64 g2) (.string (str g3)) (.int .i64 (((a : Int) + (part : Int)) + 1)))
            refine bodyPost_ret (v := .tuple #[.agg #[.int .i64 g1, .int .i64 g2, .string (str g3), .int .i64 (((a : Int) + (part : Int)) + 1)], .bool false]) (by simp [results, Try.results78, go_sem, y0, y1, y2, y3]) rfl (takePost_end HGe.out HE.out HQ.out (st4_below hbel4 (Nat.le_refl _) _ _ _ _))
          have e5 : (g5 == 0) = true := by simpa using c5
          have HQ : Hid ((g4 == (sl.length : Int)) = decide (g5 = 0 ∧ g4 = (sl.length : Int))) := by show _ = _; rw [Bool.eq_iff_iff]; simp [c5]
          clear c5
          go_wp2_with fail
          refine (Rep.len_f _ _ sl _ hI4).mono ?_
          rintro e5' w5 ⟨rfl, rfl⟩
          go_wp2_with fail
          obtain ⟨y0, y1, y2, y3⟩ := blk4' (st4_blk hrc4 (.int .i64 g1) (.int .i64 g2) (.string (str g3)) (.int .i64 (((a : Int) + (part : Int)) + 1)))
          refine bodyPost_ret (v := .tuple #[.agg #[.int .i64 g1, .int .i64 g2, .string (str g3), .int .i64 (((a : Int) + (part : Int)) + 1)], .bool (g4 == (sl.length : Int))]) (by simp [results, Try.results78, go_sem, y0, y1, y2, y3]) rfl (takePost_end HGe.out HE.out HQ.out (st4_below hbel4 (Nat.le_refl _) _ _ _ _))
        | false =>
          by_cases g3 : kbs.length = 240
          case neg =>
            have q5 : (kbs.length == 240) = false := by simpa using g3
            have q6 : ((kbs.length : Int) != 240) = true := by rw [bne_iff_ne]; omega
            have q7 : (((str kbs).size : Int) != 240) = true := by rw [hzs]; exact q6
            have HE := Lib.hid (HT.out.trans (HB.out (by rw [q1, q3, q5]; rfl)))
            clear HT HB HL HM q1 q3 g3
            go_wp2_with fail
            refine HRd.out.mono ?_
            rintro e1 w1 ⟨rfl, b1⟩
            obtain ⟨V, hV⟩ : ∃ V, V = w1.alloc (.cells (bkC ⟨kst, kpt, kid, false, kbs⟩) 100) := ⟨_, rfl⟩
            have bV : Below wr.heap.size wr V := by rw [hV]; exact b1.alloc b1.size _
            have kV : Blk V w1.heap.size 100 (bkC ⟨kst, kpt, kid, false, kbs⟩) := by rw [hV]; exact Blk.new _ _ _
            have hrc1 := hrc.below bV hrc.lt
            have hI1 := isbld_below hI bV
            have hbel1 := below_step hbel bV
            clear z0 z1 z2 z3 f0 f1 f2 f3
            obtain ⟨z0, z1, z2, z3⟩ := blk4' hrc1
            have f0 := hrc1.frozen 0
            have f1 := hrc1.frozen 1
            have f2 := hrc1.frozen 2
            have f3 := hrc1.frozen 3
            obtain ⟨x0, x1, x2, x3, x4⟩ := blk5' kV
            clear hrc hI hbel b1 bV
            go_upto_region 7 with fail
            rw [← hV]
            clear hV
            go_wp2_with fail

            obtain ⟨y0, y1, y2, y3⟩ := blk4' (st4_blk hrc1 (.int .i64 0) (.int .i64 0) (.string ⟨#[]⟩) (.int .i64 0))
            refine bodyPost_ret (v := .tuple #[.agg rec0C, .bool false]) (by simp [results, Try.results78, go_sem, y0, y1, y2, y3]) rfl (takePost_none HE.out (st4_below hbel1 (Nat.le_refl _) _ _ _ _))
          have q5 : (kbs.length == 240) = true := by simpa using g3
          have q6 : ((kbs.length : Int) != 240) = false := by rw [g3]; rfl
          have q7 : (((str kbs).size : Int) != 240) = false := by rw [hzs]; exact q6
          have HE := Lib.hid (HT.out.trans (HM.out (by rw [q1, q3, q5]; rfl) rfl))
          clear HT HB HL HM q1 q3 g3
          go_wp2_with fail
          refine HRd.out.mono ?_
          rintro e1 w1 ⟨rfl, b1⟩
          obtain ⟨V, hV⟩ : ∃ V, V = w1.alloc (.cells (bkC ⟨kst, kpt, kid, false, kbs⟩) 100) := ⟨_, rfl⟩
          have bV : Below wr.heap.size wr V := by rw [hV]; exact b1.alloc b1.size _
          have kV : Blk V w1.heap.size 100 (bkC ⟨kst, kpt, kid, false, kbs⟩) := by rw [hV]; exact Blk.new _ _ _
          have hrc1 := hrc.below bV hrc.lt
          have hI1 := isbld_below hI bV
          have hbel1 := below_step hbel bV
          clear z0 z1 z2 z3 f0 f1 f2 f3
          obtain ⟨z0, z1, z2, z3⟩ := blk4' hrc1
          have f0 := hrc1.frozen 0
          have f1 := hrc1.frozen 1
          have f2 := hrc1.frozen 2
          have f3 := hrc1.frozen 3
          obtain ⟨x0, x1, x2, x3, x4⟩ := blk5' kV
          clear hrc hI hbel b1 bV
          go_upto_region 7 with fail
          rw [← hV]
          clear hV
          go_wp2_with fail
          refine (BldW.writeString2 _ _ _ _ _ hI1 (by rw [Lib.byteCells_length]; omega) (by have := hbel1.size; have := lt_of_block hrc1; omega)).mono ?_
          rintro e2 w2 ⟨rfl, ⟨hI2, b2⟩, hK2⟩
          rw [strCells_str, byteCells_app] at hI2
          have hrc2 := hrc1.below b2 (by omega)
          have hbel2 := hbel1.trans (b2.mono (by omega))
          have kV2 := hK2.blk kV (by decide) (by decide)
          clear x0 x1 x2 x3 x4
          obtain ⟨x0, x1, x2, x3, x4⟩ := blk5' kV2
          clear hI1 hrc1 hbel1 hK2 kV b2 z0 z1 z2 z3 f0 f1 f2 f3
          go_wp2_with fail
          refine ⟨⟨⟨part + 1, id, acc ++ kbs, by omega, rfl, by go_num, ?_, by rw [List.length_append]; omega, .inr hI2⟩, hrc2, hbel2⟩, by simp [intOf]; omega⟩
          rw [HE.out, show 256 - (part + 1) = 255 - part by omega]
end Go.Proofs.Ytdhnegcblnpmfaa.JrnW

namespace Go.Proofs.Ytdhnegcblnpmfaa.Jrn
open Pack Frm
set_option linter.unusedVariables false

/-- k records have come, the next one would begin at 'at' -/
structure RAt (l : List (List UInt8)) (area k a : Nat) (life : Int) : Prop where
  le : k ≤ (recs l area).length
  lo : area * (l.length / 2) + k ≤ a
  hi : a ≤ (area + 1) * (l.length / 2)
  rest : recsF l ((area + 1) * (l.length / 2)) (l.length + 1 - k) a k life = (recs l area).drop k
theorem rat_start (l : List (List UInt8)) (area : Nat) : RAt l area 0 (area * (l.length / 2)) 0 := ⟨by omega, by omega, by rw [Nat.add_mul]; omega, rfl⟩
section
variable {l : List (List UInt8)} {area k a : Nat} {life : Int}
theorem RAt.few (h : RAt l area k a life) : k < l.length + 1 := by
  have h1 := h.lo
  have h2 := h.hi
  rw [Nat.add_mul] at h2
  omega
theorem rat_step (h : RAt l area k a life) {r : Rc} (ht : takeR l a ((area + 1) * (l.length / 2)) = some r) (hs : r.seq = (k : Int)) (hl : r.life = (if k = 0 then r.life else life)) :
    k < (recs l area).length ∧ (recs l area)[k]? = some r ∧ RAt l area (k + 1) r.behind (if k = 0 then r.life else life) := by
  have hk := h.few
  obtain ⟨g1, g2, _⟩ := take_local ht
  have hlo := h.lo
  have hr := h.rest
  obtain ⟨f, hf⟩ : ∃ f, l.length + 1 - k = f + 1 := ⟨l.length - k, by omega⟩
  rw [hf, recsF, ht] at hr
  simp only at hr
  rw [if_pos ⟨hs, hl⟩] at hr
  have hlt : k < (recs l area).length := by
    rcases Nat.lt_or_ge k (recs l area).length with h' | h'
    · exact h'
    · rw [List.drop_eq_nil_of_le h'] at hr; cases hr
  rw [List.drop_eq_getElem_cons hlt] at hr
  injection hr with h1 h2
  refine ⟨hlt, by rw [List.getElem?_eq_getElem hlt, ← h1], ⟨by omega, by omega, by omega, ?_⟩⟩
  rw [show l.length + 1 - (k + 1) = f by omega]
  exact h2
theorem rat_none (h : RAt l area k a life) (ht : takeR l a ((area + 1) * (l.length / 2)) = none) : k = (recs l area).length := by
  have hk := h.few
  have hr := h.rest
  have hle := h.le
  obtain ⟨f, hf⟩ : ∃ f, l.length + 1 - k = f + 1 := ⟨l.length - k, by omega⟩
  rw [hf, recsF, ht] at hr
  have := congrArg List.length hr
  simp at this
  omega
theorem rat_other (h : RAt l area k a life) {r : Rc} (ht : takeR l a ((area + 1) * (l.length / 2)) = some r) (hno : ¬ (r.seq = (k : Int) ∧ r.life = (if k = 0 then r.life else life))) : k = (recs l area).length := by
  have hk := h.few
  have hr := h.rest
  have hle := h.le
  obtain ⟨f, hf⟩ : ∃ f, l.length + 1 - k = f + 1 := ⟨l.length - k, by omega⟩
  rw [hf, recsF, ht] at hr
  simp only at hr
  rw [if_neg hno] at hr
  have := congrArg List.length hr
  simp at this
  omega
theorem rat_all (h : RAt l area (recs l area).length a life) : True := trivial
end
/-- records are few -/
theorem recsF_len (l : List (List UInt8)) (e : Nat) : ∀ f a seq life, (recsF l e f a seq life).length ≤ f := by
  intro f
  induction f with
  | zero => intro a seq life; simp [recsF]
  | succ f ih =>
    intro a seq life
    rw [recsF]
    cases takeR l a e with
    | none => simp
    | some r =>
      by_cases c : r.seq = (seq : Int) ∧ r.life = (if seq = 0 then r.life else life)
      · simp only
        rw [if_pos c]
        have := ih r.behind (seq + 1) (if seq = 0 then r.life else life)
        simp only [List.length_cons]
        omega
      · simp only
        rw [if_neg c]
        simp
theorem recs_len (l : List (List UInt8)) (area : Nat) : (recs l area).length ≤ l.length + 1 := recsF_len _ _ _ _ _ _
theorem endR_body {a part : Nat} {s : List UInt8} {r : Rc} (h : endR a part s = some r) : r.body.length ≤ 200000 ∧ 0 ≤ r.life ∧ r.life < 4294967296 ∧ 0 ≤ r.seq ∧ r.seq < 4294967296 := by
  have hb := get_bd s 0
  unfold endR at h
  split at h
  · injection h with h
    subst h
    exact ⟨hb.2.2.2.2.2.2.1, hb.1, hb.2.1, hb.2.2.1, hb.2.2.2.1⟩
  · cases h
theorem takeF_body {l : List (List UInt8)} {a e : Nat} : ∀ f part id acc r, takeF l a e f part id acc = some r → r.body.length ≤ 200000 ∧ 0 ≤ r.life ∧ r.life < 4294967296 ∧ 0 ≤ r.seq ∧ r.seq < 4294967296 := by
  intro f
  induction f with
  | zero => intro part id acc r h; cases h
  | succ f ih =>
    intro part id acc r h
    by_cases h1 : 255 ≤ part ∨ e ≤ a + part
    · rw [takeF_end h1] at h; cases h
    have h1a : part < 255 := by omega
    have h1b : a + part < e := by omega
    cases hb : readB (blk l (a + part)) with
    | none => rw [takeF_none hb] at h; cases h
    | some b =>
      cases hg : goesOn b part (if part = 0 then b.stamp else id) with
      | false => rw [takeF_bad hb hg] at h; cases h
      | true =>
        cases hl : b.last with
        | true =>
          rw [takeF_last h1a h1b hb hg hl] at h
          exact endR_body h
        | false =>
          rw [takeF_more h1a h1b hb hg hl] at h
          exact ih _ _ _ _ h
theorem take_body {l : List (List UInt8)} {a e : Nat} {r : Rc} (h : takeR l a e = some r) : r.body.length ≤ 200000 ∧ 0 ≤ r.life ∧ r.life < 4294967296 ∧ 0 ≤ r.seq ∧ r.seq < 4294967296 := takeF_body _ _ _ _ _ h
end Go.Proofs.Ytdhnegcblnpmfaa.Jrn

namespace Go.Proofs.Ytdhnegcblnpmfaa.Mem
open Go.RowKit Go.Shelf
set_option linter.unusedVariables false
set_option linter.unusedSimpArgs false
attribute [local go_sem] Oper.semAt_some

theorem wpListIn_app2 {F : Fence} {n : Nat} {P : Program} {ops : Array Oper} {rest : List Oper} {o : Oper} {a : Act} {Q : Exit → Act → World → Prop} {W W' : World} {t u : TypeId} {v v2 r : Value} (hgd : o.guard = none) (s x : Operand)
    (ho : o.op = .call { callee := .builtin .append, args := #[s, x], argTypes := #[t, u] }) (hs : a.eval s = v) (hx : a.eval x = v2) (hrun : (Builtin.append_ #[t, u] o.type #[v, v2]).run P W = .ok r W')
    (h : wpListIn F n P ops Q rest (a.put o.dst r) W') : wpListIn F n P ops Q (o :: rest) a W := by
  refine wpListIn_plain hgd fun K hK' => ?_
  unfold Oper.wpIn
  refine ⟨?_, ?_⟩
  · simp [Oper.about, ho, resolve, Target.leads, Sem.run_pure]
  · rw [Oper.semAt_plain F _ _ (by rw [ho]; intro c hc'; cases hc')]
    simp [execOp, ho, resolve, invoke, builtin, hs, hx, hrun, Result.andThen]
    exact hK' _ _ h
abbrev NoCells (W : World) (row : Option Nat) : Prop := ∀ r, row = some r → ∃ o : Obj, W.heap[r]? = some o ∧ o.isCells = false
theorem OwnC.grown {W W' : World} {row : Option Nat} {base size : Nat} {A : Option Addr} {n c : Nat} {xs : List Value} (h : OwnC W base size A n c xs) (hg : W.grownBy W' row) (hr : NoCells W row) : OwnC W' base size A n c xs :=
  ⟨h.len, h.le, h.max, fun hc => by
    obtain ⟨g, hA, hb, hlt, h1, h2⟩ := h.room hc
    refine ⟨g, hA, hb, Nat.lt_of_lt_of_le hlt hg.size, fun j hj => ?_, fun j hj => ?_⟩
    · have hx : ∃ v, xs[j]? = some v := ⟨_, List.getElem?_eq_getElem (by rw [h.len]; exact hj)⟩
      obtain ⟨v, hv⟩ := hx
      rw [hv]
      exact cell_kept ((h1 j hj).trans hv) hg hr
    · obtain ⟨k1, k2⟩ := h2 j hj
      obtain ⟨v, hv⟩ := Option.isSome_iff_exists.1 k1
      exact ⟨by rw [cell_kept hv hg hr]; rfl, (frozen_kept hv hg hr).trans k2⟩, h.bare⟩
theorem Blk.grownN {W W' : World} {row : Option Nat} {b : Nat} {t : TypeId} {cs : Array Value} (h : Blk W b t cs) (hg : W.grownBy W' row) (hr : NoCells W row) : Blk W' b t cs := by
  refine (hg.block b h.lt fun e => ?_).trans h
  obtain ⟨o, ho, hc⟩ := hr b e.symm
  rw [show W.heap[b]? = _ from h] at ho
  injection ho with ho
  subst ho
  cases hc
/-- an address's block holds cells -/
def InCells (W : World) (A : Option Addr) : Prop := ∀ b, A = some ⟨b, 0, none⟩ → ∃ o : Obj, W.heap[b]? = some o ∧ o.isCells = true
theorem InCells.grown {W W' : World} {row : Option Nat} {A : Option Addr} (h : InCells W A) (hg : W.grownBy W' row) (hr : NoCells W row) : InCells W' A := fun b e => by
  obtain ⟨o, ho, hc⟩ := h b e
  exact ⟨o, (grownBy_keeps_cells hg hr ho hc).trans ho, hc⟩
theorem InCells.own {W : World} {base size : Nat} {A : Option Addr} {n c : Nat} {xs : List Value} (h : OwnC W base size A n c xs) (hn : 0 < n) (hs : 0 < size) : InCells W A := fun b e => by
  obtain ⟨g, hA, _, _, h1, h2⟩ := h.room (by have := h.le; omega)
  rw [hA] at e
  injection e with e
  injection e with e
  subst e
  obtain ⟨k1, _⟩ := h2 0 (Nat.mul_pos (by have := h.le; omega) hs)
  obtain ⟨v, hv⟩ := Option.isSome_iff_exists.1 k1
  exact cells_of_cell hv
theorem grown_of {W W' : World} (h : Below W.heap.size W W') : W.grownBy W' none := ⟨h.os, h.tape, h.output, h.size, fun k hk _ => h.block k hk⟩
end Go.Proofs.Ytdhnegcblnpmfaa.Mem
