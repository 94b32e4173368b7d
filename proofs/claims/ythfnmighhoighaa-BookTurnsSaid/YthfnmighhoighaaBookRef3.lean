/-
  Contract of musterref19: Take.
-/
import Derived.Test.YthfnmighhoighaaBookRef2
import Derived.Test.YthfnmighhoighaaProfLaw4
namespace Go.Proofs.Ythfnmighhoighaa.BookW
open Go.RowKit Mem Prof Book ProfW
set_option linter.unusedVariables false
set_option linter.unusedSimpArgs false
attribute [local go_sem ↓] Go.wp_at_zero Go.wp_at_succ

/-- steps that can be read, and an error -/
def RTPost (r : List Stp × Int) (w : World) (e : Ending) (w' : World) : Prop := ∃ A c, e = .returned (.tuple #[.slice A r.1.length c, .int .i64 r.2]) ∧ ProfW.Steps w' A r.1.length r.1 ∧ r.1.length ≤ maxLen ∧ Below w.heap.size w w'
def RTakeRel (w : World) (p : List Stp) (l : List Bk) (X Y : Value) (wr : World) : Prop :=
  ∃ (k : Nat) (A : Option Addr) (c : Nat) (cur : List Stp), k ≤ l.length ∧ X = .slice A cur.length c ∧ Y = .int .i64 k ∧ ProfW.Steps wr A cur.length cur ∧ cur.length ≤ maxLen ∧ takeL p l = takeL cur (l.drop k) ∧ Below w.heap.size w wr
set_option maxHeartbeats 2000000 in
set_option maxRecDepth 100000 in
theorem rbtake_any (A : Option Addr) (n c : Nat) (p : List Stp) (B : Option Addr) (m d : Nat) (l : List Bk) (w : World) (h : ProfW.Steps w A n p) (hn : n ≤ maxLen) (g : Bks w B m l) (hm : m ≤ maxLen) :
    Calls Try.prog 41 #[.slice A n c, .slice B m d] w (RTPost (takeT p l) w) := by
  have hlen := h.len
  subst hlen
  have hil := g.len
  subst hil
  have HCk := Lib.hid (rcheck_any A p.length c p w h hn)
  cases hck : chkB p
  · rw [chkE_no hck] at HCk
    have HP : Hid (takeT p l = ([], 100)) := by show _ = _; rw [takeT, if_pos hck]
    clear hck h g
    go_enter Try.func41, Try.ntmps41
    go_wp2_with fail
    refine HCk.out.mono ?_
    rintro e w1 ⟨rfl, dr, rfl⟩
    go_wp2_with fail
    go_ret2
    rw [HP.out]
    exact ⟨none, 0, rfl, Lst.nil _ _ _ _, by simp [maxLen], below_drewN (Below.refl _ _) _⟩
  · rw [chkE_yes hck] at HCk
    cases hcb : Book.chk l
    · have HP : Hid (takeT p l = ([], 190)) := by show _ = _; rw [takeT, if_neg (by simp [hck]), if_pos hcb]
      have HG := Lib.hid g
      clear hck h g
      go_enter Try.func41, Try.ntmps41
      go_wp2_with fail
      refine HCk.out.mono ?_
      rintro e w1 ⟨rfl, dr, rfl⟩
      have b1 := below_drewN (Below.refl w.heap.size w) dr
      have HCb := Lib.hid (rbcheck_any B l.length d l _ (HG.out.below b1) hm)
      rw [Book.chkE_no hcb] at HCb
      clear hcb
      go_wp2_with fail
      refine HCb.out.mono ?_
      rintro e w2 ⟨rfl, b2⟩
      go_wp2_with fail
      go_ret2
      rw [HP.out]
      exact ⟨none, 0, rfl, Lst.nil _ _ _ _, by simp [maxLen], below_step b1 b2⟩
    · have HP := Lib.hid (takeT_go hck hcb)
      have HOk := Lib.hid (chk_of hcb)
      have hl8 := (chk_of hcb).few
      have HH := Lib.hid h
      have HG := Lib.hid g
      clear hck h g
      go_enter Try.func41, Try.ntmps41
      go_wp2_with fail
      refine HCk.out.mono ?_
      rintro e w1 ⟨rfl, dr, rfl⟩
      have b1 := below_drewN (Below.refl w.heap.size w) dr
      have HCb := Lib.hid (rbcheck_any B l.length d l _ (HG.out.below b1) hm)
      rw [Book.chkE_yes hcb] at HCb
      clear hcb
      go_wp2_with fail
      refine HCb.out.mono ?_
      rintro e w2 ⟨rfl, b2⟩
      have b02 := below_step b1 b2
      go_wp2_with fail
      go_loopw [0, 6] (fun X Y wr => RTakeRel w p l X Y wr) (fun _ Y _ => l.length - (intOf Y).toNat)
      case atStart => exact ⟨0, A, c, p, by omega, rfl, rfl, HH.out.below b02, hn, by rw [List.drop_zero], b02⟩
      case round =>
        obtain ⟨k, A1, c1, cur, hk, rfl, rfl, hcur, hcm, hdl, hbel⟩ := hrel
        have HCur := Lib.hid hcur
        have HDl := Lib.hid hdl
        clear hcur hdl
        by_cases hlt : k < l.length
        · obtain ⟨b, off, s, rfl, hb, hs, d0, d1, d2, d3⟩ := Lst.four (HG.out.below hbel) hlt
          have HSt := Lib.hid (takeL_step (cur := cur) hs)
          obtain ⟨_, _, _, _, _, n1, n2⟩ := fine_iff.1 (HOk.out.fine s (mem_of_at hs))
          have HAd : Hid (∀ w', Below wr.heap.size wr w' → Calls Try.prog 63 #[.slice A1 cur.length c1, .int .i64 s.fr, .int .i64 s.to, .int .i64 (-s.nd)] w' (AddPost (add cur s.fr s.to (-s.nd)) w')) := fun w' hb' => radd_any A1 cur.length c1 cur s.fr s.to (-s.nd) w' (HCur.out.below hb') hcm
          have HSw : Hid (∀ w', Below wr.heap.size wr w' → (w'.cell? ⟨b, off + k * 4 + 1, none⟩ = some (.int .i64 s.fr) ∧ w'.cell? ⟨b, off + k * 4 + 2, none⟩ = some (.int .i64 s.to) ∧ w'.cell? ⟨b, off + k * 4 + 3, none⟩ = some (.int .i64 s.nd))) := fun w' hb' => ⟨(hb'.cell (p := ⟨b, off + k * 4 + 1, none⟩) hb).trans d1, (hb'.cell (p := ⟨b, off + k * 4 + 2, none⟩) hb).trans d2, (hb'.cell (p := ⟨b, off + k * 4 + 3, none⟩) hb).trans d3⟩
          obtain ⟨r, hr⟩ : ∃ r, r = add cur s.fr s.to (-s.nd) := ⟨_, rfl⟩
          rw [← hr] at HSt HAd
          have b0 : Below wr.heap.size wr wr.drew := (Below.refl _ _).drew
          have hi : (k : Int) < (l.length : Int) := by omega
          have hw : IntKind.i64.wrap (-s.nd) = -s.nd := IntWalk.i64_in _ (by omega)
          clear hs hr d0 d1 d2 d3
          go_wp2_with fail
          go_cut [7, 8] (fun X Y wx => ∃ A4 c4, X = .slice A4 r.1.length c4 ∧ Y = .int .i64 r.2 ∧ ProfW.Steps wx A4 r.1.length r.1 ∧ r.1.length ≤ maxLen ∧ Below wr.heap.size wr wx)
          case first =>
            go_region_held3 (fun w' => w'.cell? ⟨b, off + k * 4 + 1, none⟩ = some (.int .i64 s.fr) ∧ w'.cell? ⟨b, off + k * 4 + 2, none⟩ = some (.int .i64 s.to) ∧ w'.cell? ⟨b, off + k * 4 + 3, none⟩ = some (.int .i64 s.nd))
              (first | with_reducible exact HSw.out _ b0 | with_reducible exact HSw.out _ b4)
              ((go_at_call 63; refine (HAd.out _ b0).mono ?_; rintro e w4 ⟨A4, c4, rfl, o4, d4⟩; have b4 := below_step b0 d4))
            all_goals go_wp2_with fail
            all_goals go_meet
            all_goals exact ⟨A4, c4, rfl, rfl, o4.lst layS, SOwn.max o4, b4⟩
          case rest =>
            obtain ⟨A4, c4, rfl, rfl, s4, m4, d4⟩ := hcut
            have b4 := below_step hbel d4
            by_cases he : r.2 = 0
            · have e1 : (r.2 != 0) = false := by simp [he]
              have HF : Hid (takeL p l = takeL r.1 (l.drop (k + 1))) := by
                show _ = _
                rw [HDl.out, HSt.out, if_pos he]
              have HS4 := Lib.hid s4
              clear he s4
              go_wp2_with fail
              exact ⟨⟨k + 1, A4, c4, r.1, by omega, rfl, by go_num, HS4.out, m4, HF.out, b4⟩, by simp [intOf]; omega⟩
            · have e1 : (r.2 != 0) = true := by simpa using he
              have HF : Hid (takeT p l = ([], r.2)) := by
                show _ = _
                rw [HP.out, HDl.out, HSt.out, if_neg he]
              clear he s4
              go_wp2_with fail
              go_ret2
              rw [HF.out]
              exact ⟨none, 0, rfl, Lst.nil _ _ _ _, by simp [maxLen], b4⟩
        · obtain rfl : k = l.length := by omega
          have HF : Hid (takeT p l = (cur, 0)) := by
            show _ = _
            rw [HP.out, HDl.out, List.drop_length]
            rfl
          go_wp2_with fail
          go_ret2
          rw [HF.out]
          exact ⟨A1, c1, rfl, HCur.out, hcm, hbel⟩
end Go.Proofs.Ythfnmighhoighaa.BookW
