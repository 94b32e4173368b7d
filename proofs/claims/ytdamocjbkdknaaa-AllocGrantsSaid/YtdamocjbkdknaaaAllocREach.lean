/-
  Contract of musterref13: Each.
-/
import Derived.Test.YtdamocjbkdknaaaAllocRef09
import Derived.Test.YtdamocjbkdknaaaFleetRDo
namespace Go.Proofs.Ytdamocjbkdknaaa.FleetW
open Go.RowKit Mem Fleet
set_option linter.unusedVariables false
set_option linter.unusedSimpArgs false
set_option linter.unnecessarySimpa false

def REachPost (r : List Nd × List Nt × Int) (w : World) (e : Ending) (w' : World) : Prop := ∃ A c B d, e = .returned (.tuple #[.slice A r.1.length c, .slice B r.2.1.length d, .int .i64 r.2.2]) ∧ Nds w' A r.1.length r.1 ∧ r.1.length ≤ maxLen ∧ NtsO w' w.heap.size B r.2.1.length d r.2.1 ∧ Below w.heap.size w w'
theorem rEachPost_no {r : Int} {w w' : World} (b : Below w.heap.size w w') : REachPost ([], [], r) w (.returned (.tuple #[.slice none 0 0, .slice none 0 0, .int .i64 r])) w' := ⟨none, 0, none, 0, rfl, Lst.nil _ _ _ _, by simp [maxLen], SOwn.nil _ _ _ _, b⟩
def REachRel (w2 : World) (l : List Nd) (ns : List Int) (act job now : Int) (X Y : Value) (wr : World) : Prop :=
  ∃ (k : Nat) (A : Option Addr) (c : Nat) (cur : List Nd), k ≤ ns.length ∧ X = .slice A cur.length c ∧ Y = .int .i64 k ∧ Nds wr A cur.length cur ∧ Hid (cur.length = l.length) ∧ eachL act job now l ns = eachL act job now cur (ns.drop k) ∧ Below w2.heap.size w2 wr
set_option maxHeartbeats 4000000 in
set_option maxRecDepth 100000 in
theorem reach_any (A : Option Addr) (n c : Nat) (l : List Nd) (s : Nat) (act job now : Int) (w : World) (h : Nds w A n l) (hn : n ≤ maxLen) (hs : s < 2 ^ 64) :
    Calls Try.prog 33 #[.slice A n c, .int .u64 (s : Int), .int .i64 act, .int .i64 job, .int .i64 now] w (REachPost (eachT l s act job now) w) := by
  have hlen := h.len
  subst hlen
  have HCk := Lib.hid (rcheck_any A l.length c l w h hn)
  cases hck : chk l
  · rw [chkE_no hck] at HCk
    have HP := Lib.hid (eachT_chk (s := s) (act := act) (job := job) (now := now) hck)
    clear hck h
    go_enter Try.func33, Try.ntmps33
    go_wp2_with fail
    refine HCk.out.mono ?_
    rintro e w1 ⟨rfl, b1⟩
    go_wp2_with fail
    go_ret3
    rw [HP.out]
    exact rEachPost_no b1
  · rw [chkE_yes hck] at HCk
    have HChk := Lib.hid hck
    have hfew := (chk_iff.1 hck).few
    have HLs := Lib.hid (r9list_any s)
    have HH := Lib.hid h
    obtain ⟨ns, hns⟩ : ∃ ns, ns = memL s := ⟨_, rfl⟩
    have hnl : ns.length ≤ 64 := by rw [hns]; exact memL_len s
    have HNs := Lib.hid hns
    rw [← hns] at HLs
    clear hck h hns
    go_enter Try.func33, Try.ntmps33
    go_wp2_with fail
    refine HCk.out.mono ?_
    rintro e w1 ⟨rfl, b1⟩
    go_wp2_with fail
    refine (HLs.out w1 hs).mono ?_
    rintro e w2 ⟨I, d, rfl, o2, b2⟩
    have b02 := below_step b1 b2
    have HI2 := Lib.hid (o2.lst layI)
    have hlen3 : (nats ns).length = ns.length := by simp [nats]
    have HL3 := Lib.hid hlen3
    clear o2 hlen3
    go_wp2_with fail
    go_loopw [0, 14] (fun X Y wr => REachRel w2 l (nats ns) act job now X Y wr) (fun _ Y _ => ns.length - (intOf Y).toNat)
    case atStart => exact ⟨0, A, c, l, by omega, rfl, rfl, HH.out.below b02, Lib.hid rfl, by rw [List.drop_zero], Below.refl _ _⟩
    case round =>
      obtain ⟨k, A1, c1, cur, hk, rfl, rfl, hcur, hcl, hel, hbel⟩ := hrel
      rw [HL3.out] at hk
      have hfc : cur.length ≤ 48 := by rw [hcl.out]; exact hfew
      have hmx : cur.length ≤ maxLen := Nat.le_trans hfc (by simp [maxLen])
      have hi := HI2.out.below hbel
      have b0r := below_step b02 hbel
      have HEl := Lib.hid hel
      have HCur := Lib.hid hcur
      by_cases hlt : k < ns.length
      · obtain ⟨b, off, x, rfl, hb, hx, d0⟩ := Lst.int hi hlt
        have HSt := Lib.hid (eachL_step (act := act) (job := job) (now := now) (cur := cur) hx)
        have HDo := Lib.hid (rdo_any A1 cur.length c1 cur x act job now wr hcur hmx)
        have HDl := Lib.hid (doT_len (l := cur) (n := x) (act := act) (job := job) (now := now))
        obtain ⟨r, hr⟩ : ∃ r, r = doT cur x act job now := ⟨_, rfl⟩
        rw [← hr] at HSt HDo HDl
        clear hx hr hel hi hcur
        go_wp2_with fail
        refine HDo.out.mono ?_
        rintro e w4 ⟨A2, c2, rfl, o4, b4⟩
        have HN4 := Lib.hid (o4.lst layN)
        clear o4
        by_cases he : r.2 = 0
        · have e1 : (r.2 == 0) = true := by simp [he]
          have e2 : (r.2 != 0) = false := by simp [he]
          rw [if_pos he] at HSt
          have HL2 := Lib.hid (HDl.out he)
          clear he
          go_wp2_with fail
          exact ⟨⟨k + 1, A2, c2, r.1, by rw [HL3.out]; omega, rfl, by go_num, HN4.out, Lib.hid (by rw [HL2.out, hcl.out]), by rw [HEl.out, HSt.out], below_step hbel b4⟩, by simp [intOf]; omega⟩
        · have e1 : (r.2 == 0) = false := by simpa using he
          have e2 : (r.2 != 0) = true := by simpa using he
          rw [if_neg he] at HSt
          have HP := Lib.hid (eachT_err HChk.out (by rw [← HNs.out, HEl.out, HSt.out]) he)
          clear he
          go_wp2_with fail
          go_ret3
          rw [HP.out]
          exact rEachPost_no (below_step b0r b4)
      · obtain rfl : k = ns.length := by omega
        have hz : eachL act job now l (nats (memL s)) = (cur, 0) := by
          rw [← HNs.out, hel, ← HL3.out, List.drop_length]; rfl
        have HP := Lib.hid (eachT_ok HChk.out hz)
        rw [← HNs.out] at HP
        have HNt := Lib.hid (rnotes_any A1 cur.length c1 cur I ns.length d (nats ns) wr hcur hmx hi (by omega))
        clear hel hz hi hcur hfc
        by_cases a1 : act = 1
        · subst a1
          have HV : Hid (sendsB 1 = true) := by show _ = _; rfl
          rw [HV.out, if_pos rfl] at HP
          clear HV
          go_wp2_with fail
          refine HNt.out.mono ?_
          rintro e w6 ⟨B, d6, rfl, o6, b6⟩
          have HO6 := Lib.hid o6
          clear o6
          go_wp2_with fail
          go_ret3
          rw [HP.out]
          exact ⟨A1, c1, B, d6, rfl, HCur.out.below b6, hmx, HO6.out.mono b0r.size, below_step b0r b6⟩
        have q1 : (act == 1) = false := by simpa using a1
        by_cases a2 : act = 2
        · subst a2
          have HV : Hid (sendsB 2 = true) := by show _ = _; rfl
          rw [HV.out, if_pos rfl] at HP
          clear HV
          go_wp2_with fail
          refine HNt.out.mono ?_
          rintro e w6 ⟨B, d6, rfl, o6, b6⟩
          have HO6 := Lib.hid o6
          clear o6
          go_wp2_with fail
          go_ret3
          rw [HP.out]
          exact ⟨A1, c1, B, d6, rfl, HCur.out.below b6, hmx, HO6.out.mono b0r.size, below_step b0r b6⟩
        have q2 : (act == 2) = false := by simpa using a2
        by_cases a3 : act = 3
        · subst a3
          have HV : Hid (sendsB 3 = true) := by show _ = _; rfl
          rw [HV.out, if_pos rfl] at HP
          clear HV
          go_wp2_with fail
          refine HNt.out.mono ?_
          rintro e w6 ⟨B, d6, rfl, o6, b6⟩
          have HO6 := Lib.hid o6
          clear o6
          go_wp2_with fail
          go_ret3
          rw [HP.out]
          exact ⟨A1, c1, B, d6, rfl, HCur.out.below b6, hmx, HO6.out.mono b0r.size, below_step b0r b6⟩
        have q3 : (act == 3) = false := by simpa using a3
        by_cases a5 : act = 5
        · subst a5
          have HV : Hid (sendsB 5 = true) := by show _ = _; rfl
          rw [HV.out, if_pos rfl] at HP
          clear HV
          go_wp2_with fail
          refine HNt.out.mono ?_
          rintro e w6 ⟨B, d6, rfl, o6, b6⟩
          have HO6 := Lib.hid o6
          clear o6
          go_wp2_with fail
          go_ret3
          rw [HP.out]
          exact ⟨A1, c1, B, d6, rfl, HCur.out.below b6, hmx, HO6.out.mono b0r.size, below_step b0r b6⟩
        have q5 : (act == 5) = false := by simpa using a5
        by_cases a7 : act = 7
        · subst a7
          have HV : Hid (sendsB 7 = true) := by show _ = _; rfl
          rw [HV.out, if_pos rfl] at HP
          clear HV
          go_wp2_with fail
          refine HNt.out.mono ?_
          rintro e w6 ⟨B, d6, rfl, o6, b6⟩
          have HO6 := Lib.hid o6
          clear o6
          go_wp2_with fail
          go_ret3
          rw [HP.out]
          exact ⟨A1, c1, B, d6, rfl, HCur.out.below b6, hmx, HO6.out.mono b0r.size, below_step b0r b6⟩
        have q7 : (act == 7) = false := by simpa using a7
        by_cases a10 : act = 10
        · subst a10
          have HV : Hid (sendsB 10 = true) := by show _ = _; rfl
          rw [HV.out, if_pos rfl] at HP
          clear HV
          go_wp2_with fail
          refine HNt.out.mono ?_
          rintro e w6 ⟨B, d6, rfl, o6, b6⟩
          have HO6 := Lib.hid o6
          clear o6
          go_wp2_with fail
          go_ret3
          rw [HP.out]
          exact ⟨A1, c1, B, d6, rfl, HCur.out.below b6, hmx, HO6.out.mono b0r.size, below_step b0r b6⟩
        have q10 : (act == 10) = false := by simpa using a10
        have HV : Hid (sendsB act = false) := by show _ = _; simp [sendsB, q1, q2, q3, q5, q7, q10]
        rw [HV.out] at HP
        clear a1 a2 a3 a5 a7 a10 HV
        go_wp2_with fail
        go_ret3
        rw [HP.out]
        exact ⟨A1, c1, none, 0, rfl, HCur.out, hmx, SOwn.nil _ _ _ _, b0r⟩
end Go.Proofs.Ytdamocjbkdknaaa.FleetW
