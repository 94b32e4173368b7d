/-
  Contracts of muster/alloc: Held, Quiet.
-/
import Derived.Test.YtdamocjbkdknaaaAllocGrant
namespace Go.Proofs.Ytdamocjbkdknaaa.FleetW
open Go.RowKit Mem Fleet
set_option linter.unusedVariables false
set_option linter.unusedSimpArgs false
set_option linter.unnecessarySimpa false

def heldN (l : List Nd) (job : Int) : Nat := if job < 1 then 0 else whereN (ofQ job 1) l
theorem held_any (A : Option Addr) (n c : Nat) (l : List Nd) (job : Int) (w : World) (h : Nds w A n l) (hn : n ≤ maxLen) :
    Calls Try.prog 37 #[.slice A n c, .int .i64 job] w (Ret (.int .u64 (heldN l job : Int)) w) := by
  have hlen := h.len
  subst hlen
  by_cases hj : job < 1
  · have HV : Hid (heldN l job = 0) := by show _ = _; rw [heldN, if_pos hj]
    have d1 : decide (job < 1) = true := by simp [hj]
    rw [HV.out]
    clear h
    go_enter Try.func37, Try.ntmps37
    go_wp2_with fail
    go_ret
    exact ⟨rfl, Below.refl _ _⟩
  · have HV : Hid (heldN l job = whereN (ofQ job 1) l) := by show _ = _; rw [heldN, if_neg hj]
    have d1 : decide (job < 1) = false := by simp [hj]
    rw [HV.out]
    have HF := Lib.hid (fof_any A l.length c l job 1 w h hn)
    clear h
    go_enter Try.func37, Try.ntmps37
    go_wp2_with fail
    refine HF.out.mono ?_
    rintro e w1 ⟨rfl, b1⟩
    go_wp2_with fail
    go_ret
    exact ⟨rfl, b1⟩
def quietN (l : List Nd) (n : Int) : Bool := (l[n.toNat]?.map fun x => x.wt == 0).getD false
def quietB (l : List Nd) (s : Nat) : Bool := chk l && (nats (memL s)).all (quietN l)
def QRel (w : World) (l : List Nd) (ns : List Int) (Y : Value) (wr : World) : Prop := ∃ k : Nat, k ≤ ns.length ∧ Y = .int .i64 k ∧ wr = w ∧ (ns.take k).all (quietN l) = true
set_option maxHeartbeats 2000000 in
theorem quiet_any (A : Option Addr) (n c : Nat) (l : List Nd) (s : Nat) (w : World) (h : Nds w A n l) (hn : n ≤ maxLen) (hs : s < 2 ^ 64) :
    Calls Try.prog 39 #[.slice A n c, .int .u64 (s : Int)] w (Ret (.bool (quietB l s)) w) := by
  have hlen := h.len
  subst hlen
  have HCk := Lib.hid (check_any A l.length c l w h hn)
  cases hck : chk l
  · rw [chkE_no hck] at HCk
    have HV : Hid (quietB l s = false) := by show _ = _; rw [quietB, hck, Bool.false_and]
    rw [HV.out]
    clear h hck
    go_enter Try.func39, Try.ntmps39
    go_wp2_with fail
    go_step3
    go_wp2_with fail
    refine HCk.out.mono ?_
    rintro e w1 ⟨rfl, b1⟩
    go_wp2_with fail
    rw [Exit.noGoto_ret]
    go_ret
    exact ⟨rfl, b1⟩
  · rw [chkE_yes hck] at HCk
    have HV : Hid (quietB l s = (nats (memL s)).all (quietN l)) := by show _ = _; rw [quietB, hck, Bool.true_and]
    rw [HV.out]
    have HLs := Lib.hid (nlist_any s)
    obtain ⟨ns, hns⟩ : ∃ ns, ns = memL s := ⟨_, rfl⟩
    have hnl : ns.length ≤ 64 := by rw [hns]; exact memL_len s
    rw [← hns] at HLs ⊢
    have hfew := (chk_iff.1 hck).few
    have HH := Lib.hid h
    clear hck hns h
    go_enter Try.func39, Try.ntmps39
    go_wp2_with fail
    go_step3
    go_wp2_with fail
    refine HCk.out.mono ?_
    rintro e w1 ⟨rfl, b1⟩
    go_wp2_with fail
    go_step3
    go_wp2_with fail
    refine (HLs.out w1 hs).mono ?_
    rintro e w3 ⟨I, d, rfl, o3, b3⟩
    have b03 := below_step b1 b3
    have HI3 := Lib.hid (o3.lst layI)
    have hlen3 : (nats ns).length = ns.length := by simp [nats]
    clear o3
    go_wp2_with fail
    go_loopw [13] (fun Y wr => QRel w3 l (nats ns) Y wr) (fun Y _ => ns.length - (intOf Y).toNat)
    case atStart => exact ⟨0, by omega, rfl, rfl, by simp⟩
    case round =>
      obtain ⟨k, hk, rfl, rfl, hall⟩ := hrel
      rw [hlen3] at hk
      by_cases hlt : k < ns.length
      · obtain ⟨b, off, x, rfl, hb, hx, d0⟩ := Lst.int HI3.out hlt
        obtain ⟨m, hm⟩ : ∃ m : Nat, x = (m : Int) := by
          rw [nats, List.getElem?_map] at hx
          cases e : ns[k]? with
          | none => rw [e] at hx; cases hx
          | some m => rw [e] at hx; injection hx with hx; exact ⟨m, hx.symm⟩
        subst hm
        have HT : Hid (((nats ns).take (k + 1)).all (quietN l) = quietN l m) := by
          show _ = _
          rw [take_snoc_some hx, List.all_append, hall]; simp
        have HN : Hid (quietN l m = false → (nats ns).all (quietN l) = false) := by
          show _ → _
          intro e
          rw [List.all_eq_false]
          exact ⟨_, mem_of_at hx, by rw [e]; simp⟩
        clear hx hall
        by_cases hml : m < l.length
        · obtain ⟨b2, off2, z, rfl, hb2, hz, q0, q1, q2, q3, q4, q5, q6⟩ := Lst.seven (HH.out.below b03) hml
          have hq : quietN l m = (z.wt == 0) := by simp [quietN, hz]
          rw [hq] at HT HN
          have c1 : decide ((m : Int) < (l.length : Int)) = true := by simp [hml]
          clear hz hq q0 q1 q2 q3 q5 q6
          by_cases hw : z.wt = 0
          · have e1 : (z.wt == 0) = true := by simp [hw]
            rw [e1] at HT
            clear hw HN
            go_wp2_with fail
            exact ⟨⟨k + 1, by rw [hlen3]; omega, by go_num, rfl, HT.out⟩, by simp [intOf]; omega⟩
          · have e1 : (z.wt == 0) = false := by simp [hw]
            rw [e1] at HN
            have HA := Lib.hid (HN.out rfl)
            clear hw HN HT
            go_wp2_with fail
            rw [Exit.noGoto_ret]
            go_ret
            rw [HA.out]
            exact ⟨rfl, b03⟩
        · have hq : quietN l m = false := by
            rw [quietN, Int.toNat_natCast, List.getElem?_eq_none (by omega)]; rfl
          have HA := Lib.hid (HN.out hq)
          have c1 : decide ((m : Int) < (l.length : Int)) = false := by simp [hml]
          clear hq HN HT
          go_wp2_with fail
          rw [Exit.noGoto_ret]
          go_ret
          rw [HA.out]
          exact ⟨rfl, b03⟩
      · obtain rfl : k = ns.length := by omega
        have HA : Hid ((nats ns).all (quietN l) = true) := by show _ = _; rw [← hlen3, List.take_length] at hall; exact hall
        clear hall
        go_wp2_with fail
        rw [Exit.noGoto_ret]
        go_ret
        rw [HA.out]
        exact ⟨rfl, b03⟩
end Go.Proofs.Ytdamocjbkdknaaa.FleetW
