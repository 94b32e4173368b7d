/-
  Contract of musterref13: Quiet.
-/
import Derived.Test.YtdamocjbkdknaaaAllocRef09
namespace Go.Proofs.Ytdamocjbkdknaaa.FleetW
open Go.RowKit Mem Fleet
set_option linter.unusedVariables false
set_option linter.unusedSimpArgs false
set_option linter.unnecessarySimpa false

def RQRel (w : World) (l : List Nd) (ns : List Int) (X Y : Value) (wr : World) : Prop := ∃ (k : Nat) (ok : Bool), k ≤ ns.length ∧ X = .bool ok ∧ Y = .int .i64 k ∧ wr = w ∧ ok = (chk l && (ns.take k).all (quietN l))
set_option maxHeartbeats 2000000 in
theorem rquiet_any (A : Option Addr) (n c : Nat) (l : List Nd) (s : Nat) (w : World) (h : Nds w A n l) (hn : n ≤ maxLen) (hs : s < 2 ^ 64) :
    Calls Try.prog 40 #[.slice A n c, .int .u64 (s : Int)] w (Ret (.bool (quietB l s)) w) := by
  have hlen := h.len
  subst hlen
  have HCk := Lib.hid fun (w1 : World) (b : Below w.heap.size w w1) => rcheck_any A l.length c l w1 (h.below b) hn
  have HV : Hid (quietB l s = (chk l && (nats (memL s)).all (quietN l))) := by show _ = _; rw [quietB]
  rw [HV.out]
  have HLs := Lib.hid (r9list_any s)
  obtain ⟨ns, hns⟩ : ∃ ns, ns = memL s := ⟨_, rfl⟩
  have hnl : ns.length ≤ 64 := by rw [hns]; exact memL_len s
  rw [← hns] at HLs ⊢
  have HH := Lib.hid h
  unfold maxLen at hn
  have HE : Hid ((chkE l == 0) = chk l) := by
    show _ = _
    cases hc : chk l
    · rw [chkE_no hc]; rfl
    · rw [chkE_yes hc]; rfl
  clear hns h
  go_enter Try.func40, Try.ntmps40
  go_wp2_with fail
  refine (HLs.out w hs).mono ?_
  rintro e w1 ⟨I, d, rfl, o1, b1⟩
  have HI1 := Lib.hid (o1.lst layI)
  clear o1
  go_wp2_with fail
  refine (HCk.out w1 b1).mono ?_
  rintro e w2 ⟨rfl, b2⟩
  have b02 := below_step b1 b2
  have HI2 := Lib.hid (HI1.out.below b2)
  have hlen3 : (nats ns).length = ns.length := by simp [nats]
  have HL3 := Lib.hid hlen3
  clear hlen3 HI1
  go_wp2_with fail
  go_loopw [6, 7] (fun X Y wr => RQRel w2 l (nats ns) X Y wr) (fun _ Y _ => ns.length - (intOf Y).toNat)
  case atStart => exact ⟨0, chkE l == 0, by omega, rfl, rfl, rfl, by rw [HE.out]; simp⟩
  case round =>
    obtain ⟨k, ok, hk, rfl, rfl, rfl, hok⟩ := hrel
    rw [HL3.out] at hk
    by_cases hlt : k < ns.length
    · have c0 : decide ((k : Int) < (ns.length : Int)) = true := by simp [hlt]
      cases ok
      · have HA : Hid ((chk l && (nats ns).all (quietN l)) = false) := by
          show _ = _
          cases hc : chk l
          · rfl
          · rw [hc, Bool.true_and] at hok
            rw [Bool.true_and]
            rw [← List.take_append_drop k (nats ns), List.all_append, ← hok, Bool.false_and]
        clear hok
        go_wp2_with fail
        go_ret
        rw [HA.out]
        exact ⟨rfl, b02⟩
      · have hc : chk l = true := by
          cases hc : chk l
          · rw [hc] at hok; cases hok
          · rfl
        have hall : ((nats ns).take k).all (quietN l) = true := by rw [hc, Bool.true_and] at hok; exact hok.symm
        obtain ⟨b, off, x, rfl, hb, hx, d0⟩ := Lst.int HI2.out hlt
        obtain ⟨m, hm⟩ : ∃ m : Nat, x = (m : Int) := by
          rw [nats, List.getElem?_map] at hx
          cases e : ns[k]? with
          | none => rw [e] at hx; cases hx
          | some m => rw [e] at hx; injection hx with hx; exact ⟨m, hx.symm⟩
        subst hm
        have HT : Hid ((chk l && ((nats ns).take (k + 1)).all (quietN l)) = quietN l m) := by
          show _ = _
          rw [take_snoc_some hx, List.all_append, hall, hc]; simp
        clear hx hall hok hc
        by_cases hml : m < l.length
        · obtain ⟨b2', off2, z, rfl, hb2, hz, q0, q1, q2, q3, q4, q5, q6⟩ := Lst.seven (HH.out.below b02) hml
          have hq : quietN l m = (z.wt == 0) := by simp [quietN, hz]
          rw [hq] at HT
          have c1 : decide ((m : Int) < (l.length : Int)) = true := by simp [hml]
          clear hz hq q0 q1 q2 q3 q5 q6
          go_wp2_with fail
          exact ⟨⟨k + 1, (z.wt == 0), by rw [HL3.out]; omega, rfl, by go_num, rfl, HT.out.symm⟩, by simp [intOf]; omega⟩
        · have hq : quietN l m = false := by
            rw [quietN, Int.toNat_natCast, List.getElem?_eq_none (by omega)]; rfl
          rw [hq] at HT
          have c1 : decide ((m : Int) < (l.length : Int)) = false := by simp [hml]
          clear hq
          go_wp2_with fail
          exact ⟨⟨k + 1, false, by rw [HL3.out]; omega, rfl, by go_num, rfl, HT.out.symm⟩, by simp [intOf]; omega⟩
    · obtain rfl : k = ns.length := by omega
      have HA : Hid ((chk l && (nats ns).all (quietN l)) = ok) := by show _ = _; rw [hok, ← HL3.out, List.take_length]
      clear hok
      go_wp2_with fail
      go_ret
      rw [HA.out]
      exact ⟨rfl, b02⟩
end Go.Proofs.Ytdamocjbkdknaaa.FleetW
