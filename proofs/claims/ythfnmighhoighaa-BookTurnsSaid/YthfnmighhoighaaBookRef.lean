/-
  Contracts of musterref19: Check, Past.
-/
import Derived.Test.YthfnmighhoighaaBookFn4
import Derived.Test.YthfnmighhoighaaQuiet
import Derived.Test.YthfnmighhoighaaProfRef4
namespace Go.Proofs.Ythfnmighhoighaa.BookW
open Go.RowKit Mem Prof Book ProfW
set_option linter.unusedVariables false
set_option linter.unusedSimpArgs false
set_option linter.unnecessarySimpa false

def lastId (l : List Bk) (k : Nat) : Int := match k with | 0 => 0 | j + 1 => (l[j]?.map Bk.id).getD 0
theorem lastId_succ {l : List Bk} {k : Nat} {s : Bk} (h : l[k]? = some s) : lastId l (k + 1) = s.id := by simp [lastId, h]
theorem lastId_ge {l : List Bk} {k : Nat} (h : ∀ j, j < k → okB l j = true) (hk : k ≤ l.length) : 0 ≤ lastId l k := by
  cases k with
  | zero => simp [lastId]
  | succ j =>
    have := h j (by omega)
    have hj := List.getElem?_eq_getElem (show j < l.length by omega)
    simp only [okB, hj, Bool.and_eq_true] at this
    rw [lastId_succ hj]
    have := (fine_iff.1 this.1).1
    omega
theorem okB_last_no {l : List Bk} {k : Nat} {s : Bk} (h : l[k]? = some s) (hlt : s.id ≤ lastId l k) : okB l k = false := by
  cases k with
  | zero =>
    simp only [lastId] at hlt
    refine okB_fine h ?_
    exact fine_off (by omega)
  | succ j =>
    have hl := (List.getElem?_eq_some_iff.1 h).1
    have hj := List.getElem?_eq_getElem (show j < l.length by omega)
    rw [lastId_succ hj] at hlt
    exact okB_prev h (by simpa using hj) (by omega) hlt
theorem okB_last_yes {l : List Bk} {k : Nat} {s : Bk} (h : l[k]? = some s) (hlt : lastId l k < s.id) (hf : fineB s = true) : okB l k = true := by
  refine okB_yes h hf ?_
  cases k with
  | zero => exact .inl rfl
  | succ j =>
    have hl := (List.getElem?_eq_some_iff.1 h).1
    have hj := List.getElem?_eq_getElem (show j < l.length by omega)
    rw [lastId_succ hj] at hlt
    exact .inr ⟨by omega, _, by simp [hj], hlt⟩
theorem rchk_cases (b : Bk) (L : Int) : (b.id ≤ L) ∨ (L < b.id ∧ 99999 < b.id) ∨ (L < b.id ∧ b.id ≤ 99999 ∧ b.fr < 0) ∨ (L < b.id ∧ b.id ≤ 99999 ∧ 0 ≤ b.fr ∧ b.to ≤ b.fr) ∨ (L < b.id ∧ b.id ≤ 99999 ∧ 0 ≤ b.fr ∧ b.fr < b.to ∧ 1000000 < b.to) ∨
    (L < b.id ∧ b.id ≤ 99999 ∧ 0 ≤ b.fr ∧ b.fr < b.to ∧ b.to ≤ 1000000 ∧ b.nd < 1) ∨ (L < b.id ∧ b.id ≤ 99999 ∧ 0 ≤ b.fr ∧ b.fr < b.to ∧ b.to ≤ 1000000 ∧ 1 ≤ b.nd ∧ 48 < b.nd) ∨ (L < b.id ∧ b.id ≤ 99999 ∧ 0 ≤ b.fr ∧ b.fr < b.to ∧ b.to ≤ 1000000 ∧ 1 ≤ b.nd ∧ b.nd ≤ 48) := by omega
def RBChkRel (w : World) (l : List Bk) (L i : Value) (wr : World) : Prop := ∃ k : Nat, k ≤ l.length ∧ k ≤ 8 ∧ L = .int .i64 (lastId l k) ∧ i = .int .i64 k ∧ (∀ j, j < k → okB l j = true) ∧ Below w.heap.size w wr
set_option maxHeartbeats 2000000 in
set_option maxRecDepth 100000 in
theorem rbcheck_any (A : Option Addr) (n c : Nat) (l : List Bk) (w : World) (h : Bks w A n l) (hn : n ≤ maxLen) :
    Calls Try.prog 38 #[.slice A n c] w (Ret (.int .i64 (Book.chkE l)) w) := by
  unfold maxLen at hn
  have hlen := h.len
  subst hlen
  have HH := Lib.hid h
  clear h
  go_enter Try.func38, Try.ntmps38
  go_wp2_with fail
  go_loopw [3, 4] (fun L i wr => RBChkRel w l L i wr) (fun _ i _ => l.length - (intOf i).toNat)
  case atStart => exact ⟨0, by omega, by omega, rfl, rfl, by omega, Below.refl _ _⟩
  case round =>
    obtain ⟨k, hk, hk8, rfl, rfl, hall, hbel⟩ := hrel
    have HAll := Lib.hid hall
    have hL0 := lastId_ge hall hk
    clear hall
    by_cases hlt : k < l.length
    · obtain ⟨b, off, s, rfl, hb, hs, d0, d1, d2, d3⟩ := Lst.four (HH.out.below hbel) hlt
      have HS := Lib.hid hs
      have HSu := Lib.hid (lastId_succ hs)
      clear hs
      have hbl : Below w.heap.size w (wr.alloc (.cells #[.int .i64 s.id, .int .i64 s.fr, .int .i64 s.to, .int .i64 s.nd] 42)) := below_step hbel ((Below.refl _ _).alloc (Nat.le_refl _) _)
      obtain ⟨L, hL⟩ : ∃ L, L = lastId l k := ⟨_, rfl⟩
      rw [← hL] at hL0 ⊢
      have HL := Lib.hid hL
      clear hL
      by_cases h1 : k = 8
      case pos =>
        have HC := Lib.hid (Book.chkE_no (chk_long (show 8 < l.length by omega)))
        have e8 : ((k : Int) == 8) = true := by simp [h1]
        have e8' : (k == 8) = true := by simp [h1]
        clear h1
        go_wp2_with fail
        go_ret
        exact ⟨ret_int HC.out.symm, hbl⟩
      rcases rchk_cases s L with h2 | ⟨h2, h3⟩ | ⟨h2, h3, h4⟩ | ⟨h2, h3, h4, h5⟩ | ⟨h2, h3, h4, h5, h6⟩ | ⟨h2, h3, h4, h5, h6, h7⟩ | ⟨h2, h3, h4, h5, h6, h7, h8⟩ | ⟨h2, h3, h4, h5, h6, h7, h8⟩
      case inl =>
        have HC := Lib.hid (Book.chkE_no (chk_not hlt (okB_last_no HS.out (by rw [← HL.out]; exact h2))))
        have e8 : ((k : Int) == 8) = false := by simp; omega
        have e8' : (k == 8) = false := by simp; omega
        clear h1
        go_wp2_with fail
        go_ret
        exact ⟨ret_int HC.out.symm, hbl⟩
      case inr.inr.inr.inr.inr.inr.inr =>
        have HO := Lib.hid (okB_last_yes HS.out (by rw [← HL.out]; exact h2) (fine_iff.2 ⟨by omega, h3, h4, h5, h6, h7, h8⟩))
        have HG := Lib.hid (all_lt HAll.out HO.out)
        have e8 : ((k : Int) == 8) = false := by simp; omega
        have e8' : (k == 8) = false := by simp; omega
        have hk9 : k + 1 ≤ 8 := by omega
        clear h1
        go_wp2_with fail
        exact ⟨⟨k + 1, by omega, hk9, by rw [HSu.out], by go_num, HG.out, hbl⟩, by simp [intOf]; omega⟩
      all_goals
        have HC := Lib.hid (Book.chkE_no (chk_not hlt (okB_fine HS.out (fine_off (b := s) (by omega)))))
        have e8 : ((k : Int) == 8) = false := by simp; omega
        have e8' : (k == 8) = false := by simp; omega
        clear h1
        go_wp2_with fail
        go_ret
        exact ⟨ret_int HC.out.symm, hbl⟩
    · obtain rfl : k = l.length := by omega
      have HC := Lib.hid (Book.chkE_yes (chk_all hk8 HAll.out))
      go_wp2_with fail
      go_ret
      exact ⟨ret_int HC.out.symm, hbel⟩
def RPastRel (w : World) (l : List Bk) (now : Int) (X Y : Value) (wr : World) : Prop :=
  ∃ (k : Nat) (A : Option Addr) (n c : Nat), k ≤ l.length ∧ X = .slice A n c ∧ Y = .int .i64 k ∧ n ≤ k ∧ BksO wr w.heap.size A n c ((l.take k).filter (fun b => decide (now < b.to))) ∧ Below w.heap.size w wr
theorem filter_snoc {q : Bk → Bool} {l : List Bk} {b : Nat} {s : Bk} (h : l[b]? = some s) : (l.take (b + 1)).filter q = (l.take b).filter q ++ if q s then [s] else [] := by
  rw [take_snoc_some h, List.filter_append]
  cases hq : q s <;> simp [hq]
set_option maxHeartbeats 1000000 in
set_option maxRecDepth 100000 in
theorem rpast_any (A : Option Addr) (n c : Nat) (l : List Bk) (now : Int) (w : World) (h : Bks w A n l) (hn : n ≤ maxLen) :
    Calls Try.prog 36 #[.slice A n c, .int .i64 now] w (NewB (pastT l now) w) := by
  have hlen := h.len
  subst hlen
  have HCk := Lib.hid (rbcheck_any A l.length c l w h hn)
  cases hck : Book.chk l
  · rw [Book.chkE_no hck] at HCk
    have HP : Hid (pastT l now = []) := by show _ = _; rw [pastT, if_pos hck]
    clear hck h
    go_enter Try.func36, Try.ntmps36
    go_wp2_with fail
    refine HCk.out.mono ?_
    rintro e w1 ⟨rfl, b1⟩
    go_wp2_with fail
    go_ret
    rw [HP.out]
    exact ⟨none, 0, rfl, SOwn.nil _ _ _ _, b1⟩
  · rw [Book.chkE_yes hck] at HCk
    have hfew := (chk_of hck).few
    have HP : Hid (pastT l now = l.filter (fun b => decide (now < b.to))) := by show _ = _; rw [pastT, if_neg (by simp [hck])]
    have HH := Lib.hid h
    clear hck h
    go_enter Try.func36, Try.ntmps36
    go_wp2_with fail
    refine HCk.out.mono ?_
    rintro e w1 ⟨rfl, b1⟩
    go_wp2_with fail
    go_loopw [5, 6] (fun X Y wr => RPastRel w l now X Y wr) (fun _ Y _ => l.length - (intOf Y).toNat)
    case atStart => exact ⟨0, none, 0, 0, by omega, rfl, rfl, by omega, SOwn.nil _ _ _ _, b1⟩
    case round =>
      obtain ⟨k, A1, n1, c1, hk, rfl, rfl, hnk, ho, hbel⟩ := hrel
      have HO := Lib.hid ho
      clear ho
      by_cases hlt : k < l.length
      · obtain ⟨b, off, s, rfl, hb, hs, d0, d1, d2, d3⟩ := Lst.four (HH.out.below hbel) hlt
        by_cases hq : now < s.to
        · have HF := Lib.hid (filter_snoc (q := fun b => decide (now < b.to)) hs)
          rw [if_pos (by simpa using hq)] at HF
          obtain ⟨V, hV⟩ : ∃ V, V = wr.alloc (.cells #[.int .i64 s.id, .int .i64 s.fr, .int .i64 s.to, .int .i64 s.nd] 42) := ⟨_, rfl⟩
          have bV : Below wr.heap.size wr V := by rw [hV]; exact (Below.refl _ _).alloc (Nat.le_refl _) _
          have sV : Bks V (some ⟨wr.heap.size, 0, none⟩) 1 [s] := by rw [hV]; exact Lst.new layB wr s #[.int .i64 s.id, .int .i64 s.fr, .int .i64 s.to, .int .i64 s.nd] 42 rfl
          obtain ⟨A2, c2, w2, hrun, o2, b2, _, _⟩ := app_s layB (P := Try.prog) V w.heap.size 40 40 42 _ 32 Try.underlying40 bookInfo rfl A1 n1 c1 _ (HO.out.below bV) (some ⟨wr.heap.size, 0, none⟩) 1 1 [s] sV (by simp only [maxLen]; omega) (by omega) (Nat.le_trans hbel.size bV.size)
          rw [← HF.out] at o2
          have HR := Lib.hid hrun
          have HO2 := Lib.hid o2
          rw [hV] at HR
          have b02 := (below_step hbel bV).trans b2
          clear hs hrun o2 sV hV
          go_wp2_with (at_builtin; refine wpList_app2 rfl _ _ rfl rfl rfl HR.out ?_)
          exact ⟨⟨k + 1, A2, n1 + 1, c2, by omega, rfl, by go_num, by omega, HO2.out, b02⟩, by simp [intOf]; omega⟩
        · have HF := Lib.hid (filter_snoc (q := fun b => decide (now < b.to)) hs)
          rw [if_neg (by simpa using hq), List.append_nil] at HF
          have hq' : s.to ≤ now := by omega
          clear hs
          go_wp2_with fail
          exact ⟨⟨k + 1, A1, n1, c1, by omega, rfl, by go_num, by omega, by rw [HF.out]; exact HO.out, hbel⟩, by simp [intOf]; omega⟩
      · obtain rfl : k = l.length := by omega
        have ho := HO.out
        rw [List.take_length, ← HP.out] at ho
        have hln := ho.1
        subst hln
        have HF := Lib.hid ho
        clear ho
        go_wp2_with fail
        go_ret
        exact ⟨A1, c1, rfl, HF.out, hbel⟩
end Go.Proofs.Ythfnmighhoighaa.BookW
