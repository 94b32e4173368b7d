/-
  Contract of musterref12: Check.
-/
import Derived.Test.YtdamocjbkdknaaaFleetRef
namespace Go.Proofs.Ytdamocjbkdknaaa.FleetW
open Go.RowKit Mem Fleet
set_option linter.unusedVariables false
set_option linter.unusedSimpArgs false
set_option linter.unnecessarySimpa false

theorem all_snoc {l : List Nd} {k : Nat} {s : Nd} (h : ∀ x ∈ l.take k, fineN x = true) (hs : l[k]? = some s) (hf : fineN s = true) : ∀ x ∈ l.take (k + 1), fineN x = true := take_all h hs hf
set_option maxHeartbeats 1000000 in
theorem rcheck_any (A : Option Addr) (n c : Nat) (l : List Nd) (w : World) (h : Nds w A n l) (hn : n ≤ maxLen) :
    Calls Try.prog 20 #[.slice A n c] w (Ret (.int .i64 (chkE l)) w) := by
  have hn' := hn
  unfold maxLen at hn'
  have hlen := h.len
  subst hlen
  by_cases h1 : l.length = 0
  · have HC := Lib.hid (chkE_no (chk_short (l := l) (by omega)))
    have e0 : ((l.length : Int) == 0) = true := by simp [h1]
    have e0' : (l.length == 0) = true := by simp [h1]
    clear h
    go_enter Try.func20, Try.ntmps20
    go_wp2_with fail
    go_ret
    exact ⟨ret_int HC.out.symm, Below.refl _ _⟩
  have h1' : 1 ≤ l.length := by omega
  have e0 : ((l.length : Int) == 0) = false := by rw [beq_eq_false_iff_ne]; omega
  have e0' : (l.length == 0) = false := by simpa using h1
  clear h1
  by_cases h2 : 48 < l.length
  · have HC := Lib.hid (chkE_no (chk_long h2))
    clear h
    go_enter Try.func20, Try.ntmps20
    go_wp2_with fail
    go_ret
    exact ⟨ret_int HC.out.symm, Below.refl _ _⟩
  have h2' : l.length ≤ 48 := by omega
  have HH := Lib.hid h
  have HF := Lib.hid rfine_any
  clear h h2
  go_enter Try.func20, Try.ntmps20
  go_wp2_with fail
  go_loopw [3] (fun i wr => ∃ k : Nat, k ≤ l.length ∧ i = .int .i64 k ∧ (∀ x ∈ l.take k, fineN x = true) ∧ Below w.heap.size w wr) (fun i _ => l.length - (intOf i).toNat)
  case atStart => exact ⟨0, by omega, rfl, by simp, Below.refl _ _⟩
  case round =>
    obtain ⟨k, hk, rfl, hall, hbel⟩ := hrel
    have HAll := Lib.hid hall
    clear hall
    by_cases hlt : k < l.length
    · obtain ⟨b, off, s, rfl, hb, hs, d0, d1, d2, d3, d4, d5, d6⟩ := Lst.seven (HH.out.below hbel) hlt
      have HS := Lib.hid hs
      have HCall := Lib.hid (HF.out s wr)
      clear hs
      cases hq : fineN s
      · rw [hq] at HCall
        have HC : Hid (chkE l = 120) := by
          show _ = _
          refine chkE_no ?_
          cases hc : chk l
          · rfl
          · rw [(chk_iff.1 hc).fine s (mem_of_at HS.out)] at hq; cases hq
        clear hq
        go_wp2_with fail
        refine HCall.out.mono ?_
        rintro e w2 ⟨rfl, b2⟩
        go_wp2_with fail
        go_ret
        exact ⟨ret_int HC.out.symm, below_step hbel b2⟩
      · rw [hq] at HCall
        have HN := Lib.hid (all_snoc HAll.out HS.out hq)
        clear hq
        go_wp2_with fail
        refine HCall.out.mono ?_
        rintro e w2 ⟨rfl, b2⟩
        go_wp2_with fail
        exact ⟨⟨k + 1, by omega, by go_num, HN.out, below_step hbel b2⟩, by simp [intOf]; omega⟩
    · obtain rfl : k = l.length := by omega
      have HC := Lib.hid (chkE_yes (chk_iff.2 ⟨h1', h2', by have := HAll.out; rwa [List.take_length] at this⟩))
      go_wp2_with fail
      go_ret
      exact ⟨ret_int HC.out.symm, hbel⟩
end Go.Proofs.Ytdamocjbkdknaaa.FleetW
