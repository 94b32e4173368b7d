/-
  Contracts of muster/book: Drop, Add.
-/
import Derived.Test.YthfnmighhoighaaBookFn
import Derived.Deep.RegionHeld3
import Derived.Deep.DrawnRows
namespace Go.Proofs.Ythfnmighhoighaa.BookW
open Go.RowKit Mem Prof Book ProfW
set_option linter.unusedVariables false
set_option linter.unusedSimpArgs false

/-- reservations made new, and an error -/
def BPost (r : List Bk × Int) (w : World) (e : Ending) (w' : World) : Prop := ∃ A c, e = .returned (.tuple #[.slice A r.1.length c, .int .i64 r.2]) ∧ BksO w' w.heap.size A r.1.length c r.1 ∧ Below w.heap.size w w'
def DropRel (w : World) (l : List Bk) (ids : List Int) (X Y : Value) (wr : World) : Prop :=
  ∃ (k : Nat) (A : Option Addr) (c : Nat) (cur : List Bk), k ≤ ids.length ∧ X = .slice A cur.length c ∧ Y = .int .i64 k ∧ Bks wr A cur.length cur ∧ (A = none → c = 0) ∧ cur.length ≤ 8 ∧ dropL l ids = dropL cur (ids.drop k) ∧ Below w.heap.size w wr
theorem dropL_step {cur : List Bk} {ids : List Int} {k : Nat} {id : Int} (h : ids[k]? = some id) : dropL cur (ids.drop k) = if (dropOne cur id).length = cur.length then none else dropL (dropOne cur id) (ids.drop (k + 1)) := by
  obtain ⟨hk, rfl⟩ := List.getElem?_eq_some_iff.1 h
  rw [List.drop_eq_getElem_cons hk]
  rfl
theorem dropT_none {l : List Bk} {ids : List Int} (h : Book.chk l = true) (g : dropL l ids = none) : dropT l ids = ([], 190) := by simp [dropT, h, g]
theorem dropT_some {l m : List Bk} {ids : List Int} (h : Book.chk l = true) (g : dropL l ids = some m) : dropT l ids = (m, 0) := by simp [dropT, h, g]
theorem dropOne_eq (cur : List Bk) (id : Int) : cur.filter (fun x => !(x.id == id)) = dropOne cur id := rfl
theorem dropOne_le (cur : List Bk) (id : Int) : (dropOne cur id).length ≤ cur.length := List.length_filter_le _ _
set_option maxHeartbeats 1000000 in
set_option maxRecDepth 100000 in
theorem drop_any (A : Option Addr) (n c : Nat) (l : List Bk) (I : Option Addr) (m d : Nat) (ids : List Int) (w : World) (h : Bks w A n l) (hn : n ≤ maxLen) (hA : A = none → c = 0) (g : Ints w I m ids) (hm : m ≤ maxLen) :
    Calls Try.prog 32 #[.slice A n c, .slice I m d] w (BPost (dropT l ids) w) := by
  have hlen := h.len
  subst hlen
  have hil := g.len
  subst hil
  unfold maxLen at hm
  have HCk := Lib.hid (bcheck_any A l.length c l w h hn)
  cases hck : Book.chk l
  · rw [Book.chkE_no hck] at HCk
    have HP : Hid (dropT l ids = ([], 190)) := by show _ = _; rw [dropT, if_pos hck]
    clear hck h hA g
    go_enter Try.func32, Try.ntmps32
    go_wp2_with fail
    refine HCk.out.mono ?_
    rintro e w1 ⟨rfl, b1⟩
    go_wp2_with fail
    go_ret2
    rw [HP.out]
    exact ⟨none, 0, rfl, SOwn.nil _ _ _ _, b1⟩
  · rw [Book.chkE_yes hck] at HCk
    have hfew := (chk_of hck).few
    have HP := Lib.hid hck
    have HH := Lib.hid h
    have HG := Lib.hid g
    have HA := Lib.hid hA
    clear hck h hA g
    go_enter Try.func32, Try.ntmps32
    go_wp2_with fail
    refine HCk.out.mono ?_
    rintro e w1 ⟨rfl, b1⟩
    go_wp2_with fail
    go_loopw [7, 19] (fun X Y wr => DropRel w l ids X Y wr) (fun _ Y _ => ids.length - (intOf Y).toNat)
    case atStart => exact ⟨0, A, c, l, by omega, rfl, rfl, HH.out.below b1, HA.out, hfew, by rw [List.drop_zero], b1⟩
    case round =>
      obtain ⟨k, A1, c1, cur, hk, rfl, rfl, hcur, hA1, hc8, hdl, hbel⟩ := hrel
      have HCur := Lib.hid hcur
      have HA1 := Lib.hid hA1
      have HDl := Lib.hid hdl
      clear hcur hA1 hdl
      by_cases hlt : k < ids.length
      · obtain ⟨b, off, id, rfl, hb, hs, d0⟩ := Lst.int (HG.out.below hbel) hlt
        have HSt := Lib.hid (dropL_step (cur := cur) hs)
        obtain ⟨V, hV⟩ : ∃ V, V = wr.alloc (.cells #[.int .i64 id] 3) := ⟨_, rfl⟩
        have bV : Below wr.heap.size wr V := by rw [hV]; exact (Below.refl _ _).alloc (Nat.le_refl _) _
        have kV : Blk V wr.heap.size 3 #[.int .i64 id] := by rw [hV]; exact Blk.new _ _ _
        have HW := Lib.hid (without_any 56 ⟨wr.heap.size, 0, none⟩ (fun x => x.id == id) drop_eg A1 cur.length c1 cur V (drop_tells id wr.heap.size V.heap.size V kV.lt (Nat.le_refl _) (kV.cell 0)) (HCur.out.below bV) (by omega) HA1.out)
        rw [dropOne_eq] at HW
        have hle := dropOne_le cur id
        clear hs kV
        go_wp2_with fail
        rw [← hV]
        clear hV d0
        refine HW.out.mono ?_
        rintro e w2 ⟨A2, c2, rfl, o2, b2⟩
        have b02 := below_step (below_step hbel bV) b2
        by_cases heq : (dropOne cur id).length = cur.length
        · have he : ((dropOne cur id).length == cur.length) = true := by simp [heq]
          have he' : (((dropOne cur id).length : Int) == (cur.length : Int)) = true := by simp [heq]
          have HF : Hid (dropT l ids = ([], 190)) := by
            show _ = _
            refine dropT_none HP.out ?_
            rw [HDl.out, HSt.out, if_pos heq]
          clear heq
          go_wp2_with fail
          go_ret2
          rw [HF.out]
          exact ⟨none, 0, rfl, SOwn.nil _ _ _ _, b02⟩
        · have he : ((dropOne cur id).length == cur.length) = false := by simpa using heq
          have he' : (((dropOne cur id).length : Int) == (cur.length : Int)) = false := by simp; omega
          have HF : Hid (dropL l ids = dropL (dropOne cur id) (ids.drop (k + 1))) := by
            show _ = _
            rw [HDl.out, HSt.out, if_neg heq]
          have HO := Lib.hid o2
          clear heq o2
          go_wp2_with fail
          exact ⟨⟨k + 1, A2, c2, dropOne cur id, by omega, rfl, by go_num, HO.out.lst layB, HO.out.2.bare, by omega, HF.out, b02⟩, by simp [intOf]; omega⟩
      · obtain rfl : k = ids.length := by omega
        have HF : Hid (dropT l ids = (cur, 0)) := by
          show _ = _
          refine dropT_some HP.out ?_
          rw [HDl.out, List.drop_length]
          rfl
        have HCl := Lib.hid (bclone_any A1 cur.length c1 cur wr HCur.out (by omega) HA1.out)
        go_wp2_with fail
        refine HCl.out.mono ?_
        rintro e w2 ⟨A2, c2, rfl, o2, b2⟩
        go_wp2_with fail
        go_ret2
        rw [HF.out]
        exact ⟨A2, c2, rfl, o2.mono hbel.size, below_step hbel b2⟩
end Go.Proofs.Ythfnmighhoighaa.BookW
